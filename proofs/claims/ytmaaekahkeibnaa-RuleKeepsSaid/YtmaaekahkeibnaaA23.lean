/- RulePicks: what the statement's function answers. -/
import Derived.Test.YtmaaekahkeibnaaA22
import Derived.Test.YtmaaekahkeibnaaA15
namespace Go.Proofs.Ytmaaekahkeibnaa
open Go.RowKit
set_option linter.unusedSimpArgs false

theorem right7a (A : Option Addr) (c : Nat) (l : List Ver) (w : World) (hA : Rd w A (fl l)) :
    Calls Try.prog 7 #[.slice A l.length c] w fun e w' => e = .returned (.bool (decide (Right l))) ∧ Below w.heap.size w w' := by
  by_cases h : l.length ≤ 30
  · exact right7 A c l w h hA
  · have h2 : ¬ Right l := fun h3 => h h3.1
    simpa [h2] using right7_long A c l.length w (by omega)

/-- Which version is asked for, and where it stands. -/
theorem pk_find (l : List Ver) (id : Int) : (pk l id = none ∧ findI l id = -1) ∨ ∃ (k : Nat) (h : k < l.length), findI l id = k ∧ pk l id = some l[k] := by
  unfold pk findI
  by_cases hid : id < 0
  · cases l with
    | nil => left; simp [hid]
    | cons v t => right; exact ⟨0, by simp, by simp [hid], by simp [hid]⟩
  · simp only [hid, if_false]
    rcases fI_spec (fun v => decide (v.idOf = id)) l with ⟨h1, h2⟩ | ⟨k, h, h1, h2⟩
    · left; exact ⟨h2, h1⟩
    · right; exact ⟨k, h, h1, h2⟩

set_option maxRecDepth 100000 in
set_option maxHeartbeats 8000000 in
theorem picks3_out (A : Option Addr) (c : Nat) (l : List Ver) (id now untl fr tt : Int) (w : World) (hA : Rd w A (fl l)) (hr : ¬ Right l) :
    Calls Try.prog 3 #[.slice A l.length c, .int .i64 id, .int .i64 now, .int .i64 untl, .int .i64 fr, .int .i64 tt] w fun e w' => e = .returned (.bool true) ∧ Below w.heap.size w w' := by
  have q7 := Lib.hid (right7a A c l w hA)
  simp only [hr, decide_false] at q7
  clear hA hr
  generalize l.length = n at *
  go_enter Try.func3, Try.ntmps3
  go_wp2_with (first | (go_at_call 7; refine (q7.out).mono ?_; rintro e w1 ⟨rfl, hb1⟩) | (go_at_call 8; refine (works8 _).mono ?_; rintro e w2 ⟨rfl, hb2⟩))
  go_ret
  exact ⟨rfl, bt hb1 hb2⟩

/-- A version's cells at the head of a block. -/
def At (W : World) (B : Nat) (v : Ver) : Prop := ∀ i u, v.cells[i]? = some u → W.cell? ⟨B, i, none⟩ = some u
theorem At.below {W W' : World} {B : Nat} {v : Ver} (h : At W B v) (hb : Below W.heap.size W W') : At W' B v := fun i u hu => by
  have h1 := h i u hu
  rw [hb.cell (p := ⟨B, i, none⟩) (World.block_lt_of_cell? W _ h1)]
  exact h1
theorem At.lt {W : World} {B : Nat} {v : Ver} (h : At W B v) : B < W.heap.size := World.block_lt_of_cell? W _ (h 0 _ rfl)
theorem At.mk {W : World} {B : Nat} {v : Ver} (h0 : W.cell? ⟨B, 0, none⟩ = some (.int .i64 v.seq)) (h1 : W.cell? ⟨B, 1, none⟩ = some (.bool v.null)) (h2 : W.cell? ⟨B, 2, none⟩ = some (.bool v.mark)) (h3 : W.cell? ⟨B, 3, none⟩ = some (.int .i64 v.at_))
    (h4 : W.cell? ⟨B, 4, none⟩ = some (.int .i64 v.size)) (h5 : W.cell? ⟨B, 5, none⟩ = some (.int .i64 v.untl)) (h6 : W.cell? ⟨B, 6, none⟩ = some (.slice v.meta_.a v.meta_.n v.meta_.c)) (h7 : W.cell? ⟨B, 7, none⟩ = some (.slice v.tags.a v.tags.n v.tags.c))
    (h8 : W.cell? ⟨B, 8, none⟩ = some (.int .i64 v.gen)) (h9 : W.cell? ⟨B, 9, none⟩ = some (.slice v.nonce.a v.nonce.n v.nonce.c)) (h10 : W.cell? ⟨B, 10, none⟩ = some (.slice v.wrap.a v.wrap.n v.wrap.c)) : At W B v := by
  intro i u hu
  have hi : i < 11 := by have := (List.getElem?_eq_some_iff.1 hu).1; rwa [cells_length] at this
  rcases i with _ | _ | _ | _ | _ | _ | _ | _ | _ | _ | _ | i
  all_goals first | (exfalso; omega) | (cases hu; assumption)
theorem At.all {W : World} {B : Nat} {v : Ver} (h : At W B v) :
    W.cell? ⟨B, 0, none⟩ = some (.int .i64 v.seq) ∧ W.cell? ⟨B, 1, none⟩ = some (.bool v.null) ∧ W.cell? ⟨B, 2, none⟩ = some (.bool v.mark) ∧ W.cell? ⟨B, 3, none⟩ = some (.int .i64 v.at_) ∧
    W.cell? ⟨B, 4, none⟩ = some (.int .i64 v.size) ∧ W.cell? ⟨B, 5, none⟩ = some (.int .i64 v.untl) ∧ W.cell? ⟨B, 6, none⟩ = some (.slice v.meta_.a v.meta_.n v.meta_.c) ∧ W.cell? ⟨B, 7, none⟩ = some (.slice v.tags.a v.tags.n v.tags.c) ∧
    W.cell? ⟨B, 8, none⟩ = some (.int .i64 v.gen) ∧ W.cell? ⟨B, 9, none⟩ = some (.slice v.nonce.a v.nonce.n v.nonce.c) ∧ W.cell? ⟨B, 10, none⟩ = some (.slice v.wrap.a v.wrap.n v.wrap.c) :=
  ⟨h 0 _ rfl, h 1 _ rfl, h 2 _ rfl, h 3 _ rfl, h 4 _ rfl, h 5 _ rfl, h 6 _ rfl, h 7 _ rfl, h 8 _ rfl, h 9 _ rfl, h 10 _ rfl⟩

end Go.Proofs.Ytmaaekahkeibnaa
