/- Plain laws of versions: what is held stays, and what stands behind is right. -/
import Derived.Test.YtmaaekahkeibnaaA34
namespace Go.Proofs.Ytmaaekahkeibnaa
open Go.RowKit
set_option linter.unusedSimpArgs false

/-- A plan takes nothing that is held away; where a nameless one comes, none stays. -/
def Fit (l gl : List Ver) (now : Int) (cm nu : Bool) : Prop :=
  (∀ x ∈ l, now < x.untl → gone gl x = false) ∧ (cm = true → nu = true → nulls (l.filter (fun x => !gone gl x)) = 0)

theorem gone_held {l : List Ver} (h : Desc l) (k : Nat) (hk : k < l.length) (now : Int) (hh : ¬ now < l[k].untl) : ∀ x ∈ l, now < x.untl → gone [l[k]] x = false := by
  intro x hx hu
  obtain ⟨j, hj, rfl⟩ := List.getElem_of_mem hx
  rw [gone_one]
  by_cases e : l[k].seq = l[j].seq
  · have := desc_inj h hk hj e
    subst this
    exact absurd hu hh
  · simpa using e

theorem nulls_erase (l : List Ver) (k : Nat) (hk : k < l.length) (hn : l[k].null = true) : nulls (l.eraseIdx k) + 1 = nulls l := by
  have e1 : l = l.take k ++ l[k] :: l.drop (k + 1) := by
    rw [← List.drop_eq_getElem_cons hk, List.take_append_drop]
  have e2 : l.eraseIdx k = l.take k ++ l.drop (k + 1) := List.eraseIdx_eq_take_drop_succ ..
  have e3 : nulls l = nulls (l.take k ++ l[k] :: l.drop (k + 1)) := congrArg nulls e1
  rw [e3, e2]
  unfold nulls
  simp only [List.countP_append, List.countP_cons, hn, if_true]
  omega

theorem pk0_none {l : List Ver} (h : pk l 0 = none) : nulls l = 0 := by
  unfold pk at h
  simp only [Int.lt_irrefl, if_false, List.find?_eq_none, decide_eq_true_eq] at h
  unfold nulls
  rw [List.countP_eq_zero]
  intro v hv hn
  exact h v hv (by simp [Ver.idOf, hn])

theorem pk0_some {l : List Ver} {v : Ver} (h : pk l 0 = some v) (h1 : 1 ≤ v.seq) : v.null = true := by
  unfold pk at h
  simp only [Int.lt_irrefl, if_false] at h
  have h2 := List.find?_some h
  simp only [decide_eq_true_eq] at h2
  unfold Ver.idOf at h2
  by_cases hn : v.null = true
  · exact hn
  · simp only [hn, if_false] at h2
    simp at h2; omega

theorem bare_fit {l : List Ver} (hr : Right l) (now : Int) : Fit l (bareP l now).1 now true true ∨ (bareP l now).2 = 14 := by
  obtain ⟨_, hok, hd, hnu⟩ := (right_iff l).1 hr
  unfold bareP
  rcases findI_spec l 0 with ⟨_, h2⟩ | ⟨k, hk, _, h2⟩
  · left
    rw [h2]
    exact ⟨fun x _ _ => gone_nil x, fun _ _ => by rw [filter_none]; exact pk0_none h2⟩
  · rw [h2]
    simp only
    by_cases hh : now < l[k].untl
    · right; simp [hh]
    · left
      simp only [hh, if_false]
      refine ⟨gone_held hd k hk now hh, fun _ _ => ?_⟩
      rw [filter_gone hd k hk]
      have h3 := pk0_some h2 (hok _ (List.getElem_mem hk)).1
      have := nulls_erase l k hk h3
      omega

theorem fit_nil (l : List Ver) (now : Int) (cm : Bool) : Fit l [] now cm false := ⟨fun x _ _ => gone_nil x, fun _ h => by cases h⟩
theorem fit_nil2 (l : List Ver) (now : Int) (nu : Bool) : Fit l [] now false nu := ⟨fun x _ _ => gone_nil x, fun h => by cases h⟩
theorem Fit.gone {l gl : List Ver} {now : Int} {cm nu : Bool} (h : Fit l gl now cm nu) : Fit l gl now false false := ⟨h.1, fun h => by cases h⟩

theorem put_fit {l : List Ver} (hr : Right l) (st now : Int) : Fit l (putP l st now).1 now (putP l st now).2.1 (putP l st now).2.2.1 := by
  have hb := bare_fit hr now
  unfold putP
  by_cases hs : st = 1
  · simp only [hs, if_true]; exact fit_nil l now _
  · simp only [hs, if_false]
    by_cases h0 : (bareP l now).2 = 0
    · simp only [h0, if_true]
      rcases hb with hb | hb
      · exact hb
      · omega
    · simp only [h0, if_false]; exact fit_nil l now _

theorem del_fit {l : List Ver} (hr : Right l) (st now : Int) : Fit l (delP l st now).1 now (delP l st now).2.1 (delP l st now).2.2.1 := by
  have hb := bare_fit hr now
  unfold delP
  by_cases hs : st ≠ 0 ∧ st ≠ 2
  · rw [if_pos hs]; exact fit_nil l now _
  · rw [if_neg hs]
    by_cases h0 : (bareP l now).2 = 0
    · rw [if_pos h0]
      rcases hb with hb | hb
      · by_cases h1 : st = 0
        · rw [if_pos h1]; exact hb.gone
        · rw [if_neg h1]; exact hb
      · omega
    · rw [if_neg h0]; exact fit_nil l now _

theorem rem_fit {l : List Ver} (hr : Right l) (id now : Int) : Fit l (remP l id now).1 now false false := by
  obtain ⟨_, _, hd, _⟩ := (right_iff l).1 hr
  unfold remP
  rcases findI_spec l id with ⟨_, h2⟩ | ⟨k, hk, _, h2⟩
  · rw [h2]; exact fit_nil l now _
  · rw [h2]
    simp only
    by_cases hid : id < 0
    · rw [if_pos hid]; exact fit_nil l now _
    · rw [if_neg hid]
      by_cases hh : now < l[k].untl
      · rw [if_pos hh]; exact fit_nil l now _
      · rw [if_neg hh]
        exact ⟨gone_held hd k hk now hh, fun h => by cases h⟩

theorem nulls_filter_le (p : Ver → Bool) (l : List Ver) : nulls (l.filter p) ≤ nulls l := (List.filter_sublist (p := p) (l := l)).countP_le

theorem lt_of_eq {a b c : Nat} (h : a = b) (k : b < c) : a < c := h ▸ k
theorem nulls_cons (a : Ver) (t : List Ver) : nulls (a :: t) = nulls t + (if a.null = true then 1 else 0) := by
  unfold nulls; simp [List.countP_cons]

theorem right_ap {l gl : List Ver} {now s : Int} {cm nu mk : Bool} (hr : Right l) (hl : l.length < 30) (hs : ∀ v ∈ l, v.seq < s) (h1 : 1 ≤ s) (hf : Fit l gl now cm nu) :
    Right (apP l gl cm nu mk (behindV s)) := by
  obtain ⟨_, hok, hd, hnu⟩ := (right_iff l).1 hr
  rw [right_iff]
  have hfd : Desc (l.filter (fun x => !gone gl x)) := List.Pairwise.filter _ hd
  have hfo : ∀ v ∈ l.filter (fun x => !gone gl x), v ∈ l := fun v hv => (List.mem_filter.1 hv).1
  have hfn := nulls_filter_le (fun x => !gone gl x) l
  refine ⟨by have := apP_len l gl cm nu mk (behindV s); omega, ?_, ?_, ?_⟩
  · intro v hv
    unfold apP at hv
    rw [List.mem_append] at hv
    rcases hv with hv | hv
    · cases cm
      · simp at hv
      · simp only [if_true, List.mem_singleton] at hv
        subst hv
        exact ⟨h1, by simp [behindV], by simp [behindV], by simp [behindV], by simp [behindV]⟩
    · exact hok v (hfo v hv)
  · unfold apP
    cases cm
    · simpa using hfd
    · simp only [if_true, List.singleton_append]
      unfold Desc
      rw [List.pairwise_cons]
      exact ⟨fun v hv => hs v (hfo v hv), hfd⟩
  · unfold apP
    cases cm
    · simp only [Bool.false_eq_true, if_false, List.nil_append]; omega
    · simp only [if_true, List.singleton_append]
      refine lt_of_eq (nulls_cons _ _) ?_
      show nulls (l.filter (fun x => !gone gl x)) + (if nu = true then 1 else 0) < 2
      cases nu
      · simp only [Bool.false_eq_true, if_false]; omega
      · have h0 := hf.2 rfl rfl
        rw [h0]; decide

theorem held_ap {l gl : List Ver} {now s : Int} {cm nu mk : Bool} (hf : Fit l gl now cm nu) {x : Ver} (hx : x ∈ l) (hh : now < x.untl) : x ∈ apP l gl cm nu mk (behindV s) := by
  unfold apP
  rw [List.mem_append]
  right
  rw [List.mem_filter]
  exact ⟨hx, by simp [hf.1 x hx hh]⟩

theorem bseq_gt {s : Int} (h1 : 1 ≤ s) (h2 : s ≤ 9223372036854775807) (h : 1 ≤ bseq s) : s < bseq s := by
  unfold bseq at h ⊢
  rw [Int.tdiv_eq_ediv_of_nonneg (by omega)] at h ⊢
  unfold wrap64 at h ⊢
  omega

theorem bh_gt {l : List Ver} (hr : Right l) (hm : ∀ v ∈ l, v.seq ≤ 9223372036854775807) (h : 1 ≤ bh l) : ∀ v ∈ l, v.seq < bh l := by
  obtain ⟨_, hok, hd, _⟩ := (right_iff l).1 hr
  cases l with
  | nil => intro v hv; simp at hv
  | cons a t =>
    have ha := bseq_gt (hok a (by simp)).1 (hm a (by simp)) h
    intro v hv
    rw [List.mem_cons] at hv
    rcases hv with rfl | hv
    · exact ha
    · unfold Desc at hd
      rw [List.pairwise_cons] at hd
      have := hd.1 v hv
      show v.seq < bseq a.seq
      omega

end Go.Proofs.Ytmaaekahkeibnaa
