/- Plain laws of versions: what is planned is what the chapter says. -/
import Derived.Test.YtmaaekahkeibnaaA18
import Derived.Test.YtmaaekahkeibnaaA14
import Derived.Test.YtmaaekahkeibnaaA21
import Derived.Test.YtmaaekahkeibnaaA9
import Derived.Test.YtmaaekahkeibnaaA10
namespace Go.Proofs.Ytmaaekahkeibnaa
open Go.RowKit
set_option linter.unusedSimpArgs false

def okV (v : Ver) : Prop := 1 ≤ v.seq ∧ v.meta_.n ≤ 60 ∧ v.tags.n ≤ 60 ∧ v.wrap.n ≤ 100 ∧ v.nonce.n ≤ 100

theorem bad_iff (p : Option Int) (v : Ver) : bad p v = false ↔ okV v ∧ ∀ s, p = some s → v.seq < s := by
  unfold bad okV
  cases p with
  | none => simp; omega
  | some s => simp; omega

theorem okAt_iff (l : List Ver) (j : Nat) (hj : j < l.length) : okAt l j = true ↔ okV l[j] ∧ (0 < j → ∃ (h : j - 1 < l.length), l[j].seq < l[j - 1].seq) := by
  unfold okAt
  rw [List.getElem?_eq_getElem hj]
  simp only [Bool.not_eq_true']
  rw [bad_iff]
  unfold prevOf
  by_cases h0 : j = 0
  · subst h0; simp
  · rw [if_neg h0]
    have h1 : j - 1 < l.length := by omega
    rw [List.getElem?_eq_getElem h1]
    simp only [Option.map_some, Option.some.injEq, forall_eq']
    constructor
    · rintro ⟨a, b⟩; exact ⟨a, fun _ => ⟨h1, b⟩⟩
    · rintro ⟨a, b⟩; exact ⟨a, (b (by omega)).2⟩

def Desc (l : List Ver) : Prop := l.Pairwise (fun a b => b.seq < a.seq)

theorem right_iff (l : List Ver) : Right l ↔ l.length ≤ 30 ∧ (∀ v ∈ l, okV v) ∧ Desc l ∧ nulls l < 2 := by
  unfold Right Desc
  constructor
  · rintro ⟨h1, h2, h3⟩
    refine ⟨h1, ?_, ?_, h3⟩
    · intro v hv
      obtain ⟨j, hj, rfl⟩ := List.getElem_of_mem hv
      exact ((okAt_iff l j hj).1 (h2 j hj)).1
    · rw [List.pairwise_iff_getElem]
      intro i j hi hj hij
      induction j with
      | zero => omega
      | succ m ih =>
        have h4 := ((okAt_iff l (m + 1) hj).1 (h2 _ hj)).2 (by omega)
        obtain ⟨h5, h6⟩ := h4
        have h7 : l[m + 1 - 1] = l[m]'(by omega) := rfl
        rw [h7] at h6
        by_cases e : i = m
        · subst e; exact h6
        · have := ih (by omega) (by omega); omega
  · rintro ⟨h1, h2, h3, h4⟩
    refine ⟨h1, fun j hj => ?_, h4⟩
    rw [okAt_iff l j hj]
    refine ⟨h2 _ (List.getElem_mem hj), fun h0 => ⟨by omega, ?_⟩⟩
    rw [List.pairwise_iff_getElem] at h3
    exact h3 (j - 1) j (by omega) hj (by omega)

theorem desc_inj {l : List Ver} (h : Desc l) {i j : Nat} (hi : i < l.length) (hj : j < l.length) (e : l[i].seq = l[j].seq) : i = j := by
  unfold Desc at h
  rw [List.pairwise_iff_getElem] at h
  rcases Nat.lt_trichotomy i j with h1 | h1 | h1
  · have := h i j hi hj h1; omega
  · exact h1
  · have := h j i hj hi h1; omega

theorem gone_nil (x : Ver) : gone [] x = false := rfl
theorem gone_one (v x : Ver) : gone [v] x = decide (v.seq = x.seq) := by
  unfold gone fI
  by_cases h : v.seq = x.seq
  · simp [h]
  · simp [h]

theorem filter_gone {l : List Ver} (h : Desc l) (k : Nat) (hk : k < l.length) : l.filter (fun x => !gone [l[k]] x) = l.eraseIdx k := by
  have hg : ∀ x, gone [l[k]] x = decide (l[k].seq = x.seq) := fun x => gone_one _ _
  simp only [hg]
  generalize hs : l[k].seq = s
  clear hg
  induction l generalizing k with
  | nil => simp at hk
  | cons a t ih =>
    unfold Desc at h
    rw [List.pairwise_cons] at h
    cases k with
    | zero =>
      simp only [List.getElem_cons_zero] at hs
      simp only [List.eraseIdx_zero, List.tail_cons]
      rw [List.filter_cons_of_neg (by simp [hs])]
      rw [List.filter_eq_self]
      intro x hx
      have := h.1 x hx
      simp; omega
    | succ m =>
      simp only [List.getElem_cons_succ] at hs
      simp only [List.eraseIdx_cons_succ]
      have hm : m < t.length := by simpa using hk
      have h2 := h.1 t[m] (List.getElem_mem hm)
      rw [List.filter_cons_of_pos (by simp; omega)]
      rw [ih h.2 m hm hs]

theorem apP_nil (l : List Ver) (nu mk : Bool) (v : Ver) : apP l [] false nu mk v = l := by
  simp [apP, gone_nil]
theorem apP_ahead (l gl : List Ver) (nu mk : Bool) (v : Ver) : apP l gl true nu mk v = [{ v with null := nu, mark := mk }] ++ l.filter (fun x => !gone gl x) := by
  simp [apP]
theorem filter_none (l : List Ver) : l.filter (fun x => !gone [] x) = l := by simp [gone_nil]

/-- What bare plans is what the reference's bare does. -/
theorem bare_eq {l : List Ver} (h : Desc l) (now : Int) : (bareP l now).2 = (rbareP l now).2 ∧ ((bareP l now).2 = 0 → l.filter (fun x => !gone (bareP l now).1 x) = (rbareP l now).1) := by
  unfold bareP rbareP
  rcases findI_spec l 0 with ⟨h1, h2⟩ | ⟨k, hk, h1, h2⟩
  · rw [h2]; simp [filter_none]
  · rw [h2]
    simp only
    by_cases hh : now < l[k].untl
    · simp [hh]
    · simp only [hh, if_false, true_and]
      intro _
      rw [h1, filter_gone h k hk]
      simp

theorem put_eq {l : List Ver} (h : Desc l) (st now : Int) (v : Ver) :
    (putP l st now).2.2.2 = (rputP l st now v).2 ∧ ((putP l st now).2.2.2 = 0 → apP l (putP l st now).1 (putP l st now).2.1 (putP l st now).2.2.1 false v = (rputP l st now v).1) := by
  have hb := bare_eq h now
  unfold putP rputP
  by_cases hs : st = 1
  · simp [hs, apP_ahead, filter_none]
  · simp only [hs, if_false]
    rw [← hb.1]
    by_cases h0 : (bareP l now).2 = 0
    · simp only [h0, if_true, true_and]
      intro _
      rw [apP_ahead, hb.2 h0]
    · simp [h0]

theorem del_eq {l : List Ver} (h : Desc l) (st now : Int) (v : Ver) :
    (delP l st now).2.2.2.2 = (rdelP l st now v).2.2 ∧ (delP l st now).2.1 = (rdelP l st now v).2.1 ∧
    ((delP l st now).2.2.2.2 = 0 → apP l (delP l st now).1 (delP l st now).2.1 (delP l st now).2.2.1 (delP l st now).2.2.2.1 v = (rdelP l st now v).1) := by
  have hb := bare_eq h now
  unfold delP rdelP
  by_cases hs : st ≠ 0 ∧ st ≠ 2
  · simp [hs, apP_ahead, filter_none]
  · simp only [hs, if_false]
    rw [← hb.1]
    by_cases h0 : (bareP l now).2 = 0
    · simp only [h0, if_true]
      by_cases h1 : st = 0
      · simp only [h1, if_true, true_and]
        intro _
        simp only [apP, Bool.false_eq_true, if_false, List.nil_append]
        exact hb.2 h0
      · simp only [h1, if_false, true_and]
        intro _
        rw [apP_ahead, hb.2 h0]
    · simp [h0]

theorem rem_eq {l : List Ver} (h : Desc l) (id now : Int) (v : Ver) :
    (remP l id now).2 = (rremP l id now).2 ∧ ((remP l id now).2 = 0 → apP l (remP l id now).1 false false false v = (rremP l id now).1) := by
  unfold remP rremP
  rcases findI_spec l id with ⟨h1, h2⟩ | ⟨k, hk, h1, h2⟩
  · rw [h2]; simp
  · rw [h2]
    simp only
    by_cases hid : id < 0
    · simp [hid]
    · by_cases hh : now < l[k].untl
      · simp [hid, hh]
      · simp only [hid, hh, if_false, true_and]
        intro _
        rw [h1]
        simp only [apP, Bool.false_eq_true, if_false, List.nil_append, Int.toNat_natCast]
        exact filter_gone h k hk

end Go.Proofs.Ytmaaekahkeibnaa
