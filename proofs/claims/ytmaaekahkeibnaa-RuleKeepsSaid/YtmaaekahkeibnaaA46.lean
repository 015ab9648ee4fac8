/- Reading the arguments: versions, with the range of their numbers. -/
import Derived.Test.YtmaaekahkeibnaaA30
namespace Go.Proofs.Ytmaaekahkeibnaa
open Go.ChangeShapes Go.WideShapes Go.ChangeAt Go.RowKit Go.Deep
set_option linter.unusedSimpArgs false
section
variable {H : Type} {enc : TypeId × Value → H} {W : World} {spare : Nat → Bool} {held : Bool} {base : Nat}

theorem ver_of2 {n : Nat} {cs : List Value} {x : DataW H × List MemPlace} (h : DataW.trod enc Try.prog W base spare held n 29 cs = some x) : ∃ v : Ver, cs = v.cells ∧ v.good W ∧ v.seq ≤ 9223372036854775807 := by
  obtain ⟨xs, m, _, _, hlen, hxs, hf⟩ := DataW.trod_struct Try.underlying29 h
  rw [Try.cells29] at hlen
  match cs, hlen with
  | [c0, c1, c2, c3, c4, c5, c6, c7, c8, c9, c10], _ =>
    match xs, hxs with
    | [x0, x1, x2, x3, x4, x5, x6, x7, x8], _ =>
      have g0 := hf 0 _ rfl
      have g1 := hf 1 _ rfl
      have g2 := hf 2 _ rfl
      have g3 := hf 3 _ rfl
      have g4 := hf 4 _ rfl
      have g5 := hf 5 _ rfl
      have g6 := hf 6 _ rfl
      have g7 := hf 7 _ rfl
      have g8 := hf 8 _ rfl
      simp only [Try.cells3, Try.cells4, Try.cells25, Try.cells27, List.drop_succ_cons, List.drop_zero, List.take_succ_cons, List.take_zero, List.getElem?_cons_succ, List.getElem?_cons_zero] at g0 g1 g2 g3 g4 g5 g6 g7 g8
      obtain ⟨v0, e0, _, wf0⟩ := DataW.trod_int Try.underlying3 g0
      obtain ⟨v1, e1, _⟩ := DataW.trod_bool Try.underlying4 g1
      obtain ⟨v2, e2, _⟩ := DataW.trod_bool Try.underlying4 g2
      obtain ⟨v3, e3, _, _⟩ := DataW.trod_int Try.underlying3 g3
      obtain ⟨v4, e4, _, _⟩ := DataW.trod_int Try.underlying3 g4
      obtain ⟨v5, e5, _, _⟩ := DataW.trod_int Try.underlying3 g5
      obtain ⟨s6, e6, b6⟩ := byt_of g6
      obtain ⟨s7, e7, b7⟩ := byt_of g7
      obtain ⟨ys, m', _, _, _, hys, hk⟩ := DataW.trod_struct Try.underlying27 g8
      match ys, hys with
      | [y0, y1, y2], _ =>
        have k0 := hk 0 _ rfl
        have k1 := hk 1 _ rfl
        have k2 := hk 2 _ rfl
        simp only [Try.cells3, Try.cells25, List.drop_succ_cons, List.drop_zero, List.take_succ_cons, List.take_zero, List.getElem?_cons_succ, List.getElem?_cons_zero] at k0 k1 k2
        obtain ⟨v8, e8, _, _⟩ := DataW.trod_int Try.underlying3 k0
        obtain ⟨s9, e9, b9⟩ := byt_of k1
        obtain ⟨s10, e10, b10⟩ := byt_of k2
        cases e0; cases e1; cases e2; cases e3; cases e4; cases e5; cases e6; cases e7; cases e8; cases e9; cases e10
        exact ⟨⟨v0, v1, v2, v3, v4, v5, s6, s7, v8, s9, s10⟩, rfl, ⟨b6, b7, b9, b10⟩, (by have h := (Bool.and_eq_true _ _ ▸ wf0 : _ ∧ _).2; have h2 := of_decide_eq_true h; exact h2)⟩

theorem vers_of2 {n : Nat} {A : Option Addr} {len cap : Nat} {x : DataW H × List MemPlace} (h : DataW.trod enc Try.prog W base (fun _ => true) held n 22 [.slice A len cap] = some x) :
    ∃ l : List Ver, l.length = len ∧ Rd W A (fl l) ∧ (∀ v ∈ l, v.good W ∧ v.seq ≤ 9223372036854775807) ∧ (A = none → cap = 0) := by
  rcases open_slice Try.underlying22 h with ⟨e, _⟩ | ⟨a, len', cap', m, k, D, Pl, e, _, hl, hm, hmm, _, hx⟩
  · simp only [List.cons.injEq, Value.slice.injEq, and_true] at e
    obtain ⟨rfl, rfl, rfl⟩ := e
    exact ⟨[], rfl, .inl rfl, by simp, fun _ => rfl⟩
  · simp only [List.cons.injEq, Value.slice.injEq, and_true] at e
    obtain ⟨rfl, rfl, rfl⟩ := e
    simp only [if_true] at hmm
    subst hmm
    rw [Try.cells29] at hx
    have hV : ∀ i, i < len → ∃ v : Ver, W.cells? base (a.add (i * 11)) 11 = some v.cells ∧ v.good W ∧ v.seq ≤ 9223372036854775807 := fun i hi => by
      obtain ⟨cs', h1, h2⟩ := hx i (by omega)
      obtain ⟨v, rfl, hg⟩ := ver_of2 h2
      exact ⟨v, h1, hg⟩
    obtain ⟨V, hV⟩ := @choose_lt Ver ⟨⟨0, false, false, 0, 0, 0, ⟨none, 0, 0⟩, ⟨none, 0, 0⟩, 0, ⟨none, 0, 0⟩, ⟨none, 0, 0⟩⟩⟩ _ _ hV
    refine ⟨(List.range len).map V, by simp, ?_, ?_, fun h => by cases h⟩
    · by_cases h0 : len = 0
      · left; subst h0; rfl
      · right
        obtain ⟨b, o, spot⟩ := a
        have c0 := (World.cells?_some (hV 0 (by omega)).1).2.2 0 (by omega)
        have hspot : spot = none := by
          have h1 : (V 0).cells[0]? = some (.int .i64 (V 0).seq) := rfl
          rw [h1] at c0
          simpa [Addr.add] using World.cell?_spot c0
        subst hspot
        refine ⟨b, o, rfl, fun j u hu => ?_⟩
        have hj : j < len * 11 := by have := (List.getElem?_eq_some_iff.1 hu).1; rw [fl_length] at this; simpa using this
        have hd : j = (j / 11) * 11 + j % 11 := by omega
        have hi : j / 11 < len := by omega
        have hr : j % 11 < 11 := Nat.mod_lt _ (by omega)
        have h1 := (World.cells?_some (hV (j / 11) hi).1).2.2 (j % 11) hr
        rw [hd, fl_get _ (j / 11) (by simpa using hi) (j % 11) hr] at hu
        simp only [List.getElem_map, List.getElem_range] at hu
        rw [hu] at h1
        rw [hd, ← Nat.add_assoc]
        rw [Addr.add_lit, Addr.add_lit] at h1
        exact h1
    · intro v hv
      simp only [List.mem_map, List.mem_range] at hv
      obtain ⟨i, hi, rfl⟩ := hv
      exact (hV i hi).2

end

end Go.Proofs.Ytmaaekahkeibnaa
