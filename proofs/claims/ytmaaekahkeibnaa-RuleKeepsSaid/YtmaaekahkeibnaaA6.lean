/- There, bare: the newest one, if it is something; the plan by which the nameless one goes. -/
import Derived.Test.YtmaaekahkeibnaaA5
import Derived.StillTailTactics
namespace Go.Proofs.Ytmaaekahkeibnaa
open Go.RowKit

def thereB (l : List Ver) : Bool := match l with
  | [] => false
  | v :: _ => !v.mark

set_option maxHeartbeats 2000000 in
theorem there12 (A : Option Addr) (c : Nat) (l : List Ver) (w : World) (hl : l.length ≤ 31) (hA : Rd w A (fl l)) :
    Calls Try.prog 12 #[.slice A l.length c] w fun e w' => e = .returned (.tuple #[(pkV l (-1)).agg, .bool (thereB l)]) ∧ Below w.heap.size w w' := by
  have q9 := Lib.hid (fun W (hb : Below w.heap.size w W) => pick9 A c l (-1) W hl (hA.below hb))
  have hk : (pk l (-1)).isSome = !l.isEmpty := by cases l <;> rfl
  have ht : thereB l = (!l.isEmpty && !(pkV l (-1)).mark) := by cases l <;> rfl
  rw [hk] at q9
  rw [ht]
  clear hk ht hA
  generalize pkV l (-1) = v at *
  generalize (!l.isEmpty) = ok at *
  generalize l.length = n at *
  obtain ⟨v0, v1, v2, v3, v4, v5, ⟨a6, n6, c6⟩, ⟨a7, n7, c7⟩, v8, ⟨a9, n9, c9⟩, ⟨a10, n10, c10⟩⟩ := v
  simp only [Ver.agg, Ver.cells] at *
  cases ok
  · go_enter Try.func12, Try.ntmps12
    go_wp2_with (go_at_call 9; refine (q9.out _ (ba (b0 _) _)).mono ?_; rintro e w1 ⟨rfl, hb1⟩; obtain ⟨hc1, hf1⟩ := bcell hb1; have hz1 : w.heap.size < w1.heap.size := (by have := hb1.size; simp at this; omega); have hz1n : w.heap.size ≠ w1.heap.size := (by omega); have gc0 : World.cell? w1 ⟨w.heap.size, 0, none⟩ = some (.int .i64 0) := (by rw [hc1 _ _ (by simp <;> omega)]; simp); have gf0 : World.frozen? w1 ⟨w.heap.size, 0, none⟩ = false := (by rw [hf1 _ _ (by simp <;> omega)]; simp); have gc1 : World.cell? w1 ⟨w.heap.size, 1, none⟩ = some (.bool false) := (by rw [hc1 _ _ (by simp <;> omega)]; simp); have gf1 : World.frozen? w1 ⟨w.heap.size, 1, none⟩ = false := (by rw [hf1 _ _ (by simp <;> omega)]; simp); have gc2 : World.cell? w1 ⟨w.heap.size, 2, none⟩ = some (.bool false) := (by rw [hc1 _ _ (by simp <;> omega)]; simp); have gf2 : World.frozen? w1 ⟨w.heap.size, 2, none⟩ = false := (by rw [hf1 _ _ (by simp <;> omega)]; simp); have gc3 : World.cell? w1 ⟨w.heap.size, 3, none⟩ = some (.int .i64 0) := (by rw [hc1 _ _ (by simp <;> omega)]; simp); have gf3 : World.frozen? w1 ⟨w.heap.size, 3, none⟩ = false := (by rw [hf1 _ _ (by simp <;> omega)]; simp); have gc4 : World.cell? w1 ⟨w.heap.size, 4, none⟩ = some (.int .i64 0) := (by rw [hc1 _ _ (by simp <;> omega)]; simp); have gf4 : World.frozen? w1 ⟨w.heap.size, 4, none⟩ = false := (by rw [hf1 _ _ (by simp <;> omega)]; simp); have gc5 : World.cell? w1 ⟨w.heap.size, 5, none⟩ = some (.int .i64 0) := (by rw [hc1 _ _ (by simp <;> omega)]; simp); have gf5 : World.frozen? w1 ⟨w.heap.size, 5, none⟩ = false := (by rw [hf1 _ _ (by simp <;> omega)]; simp); have gc6 : World.cell? w1 ⟨w.heap.size, 6, none⟩ = some (.slice none 0 0) := (by rw [hc1 _ _ (by simp <;> omega)]; simp); have gf6 : World.frozen? w1 ⟨w.heap.size, 6, none⟩ = false := (by rw [hf1 _ _ (by simp <;> omega)]; simp); have gc7 : World.cell? w1 ⟨w.heap.size, 7, none⟩ = some (.slice none 0 0) := (by rw [hc1 _ _ (by simp <;> omega)]; simp); have gf7 : World.frozen? w1 ⟨w.heap.size, 7, none⟩ = false := (by rw [hf1 _ _ (by simp <;> omega)]; simp); have gc8 : World.cell? w1 ⟨w.heap.size, 8, none⟩ = some (.int .i64 0) := (by rw [hc1 _ _ (by simp <;> omega)]; simp); have gf8 : World.frozen? w1 ⟨w.heap.size, 8, none⟩ = false := (by rw [hf1 _ _ (by simp <;> omega)]; simp); have gc9 : World.cell? w1 ⟨w.heap.size, 9, none⟩ = some (.slice none 0 0) := (by rw [hc1 _ _ (by simp <;> omega)]; simp); have gf9 : World.frozen? w1 ⟨w.heap.size, 9, none⟩ = false := (by rw [hf1 _ _ (by simp <;> omega)]; simp); have gc10 : World.cell? w1 ⟨w.heap.size, 10, none⟩ = some (.slice none 0 0) := (by rw [hc1 _ _ (by simp <;> omega)]; simp); have gf10 : World.frozen? w1 ⟨w.heap.size, 10, none⟩ = false := (by rw [hf1 _ _ (by simp <;> omega)]; simp); clear hc1 hf1)
    go_region
    all_goals
      go_wp2
      refine bodyPost_ret (v := .tuple #[.agg #[.int .i64 v0, .bool v1, .bool v2, .int .i64 v3, .int .i64 v4, .int .i64 v5, .slice a6 n6 c6, .slice a7 n7 c7, .int .i64 v8, .slice a9 n9 c9, .slice a10 n10 c10], .bool false]) ?_ rfl ⟨by simp, ?_⟩
      · simp [results, Try.results12, go_sem, hz1, gc0, gc1, gc2, gc3, gc4, gc5, gc6, gc7, gc8, gc9, gc10]
      · (repeat (first | (with_reducible refine bs ?_ (by simp) _) | (with_reducible refine bdr ?_) | (with_reducible refine ba ?_ _)))
        exact bt (ba (b0 _) _) hb1
  · go_enter Try.func12, Try.ntmps12
    go_wp2_with (go_at_call 9; refine (q9.out _ (ba (b0 _) _)).mono ?_; rintro e w1 ⟨rfl, hb1⟩; obtain ⟨hc1, hf1⟩ := bcell hb1; have hz1 : w.heap.size < w1.heap.size := (by have := hb1.size; simp at this; omega); have hz1n : w.heap.size ≠ w1.heap.size := (by omega); have gc0 : World.cell? w1 ⟨w.heap.size, 0, none⟩ = some (.int .i64 0) := (by rw [hc1 _ _ (by simp <;> omega)]; simp); have gf0 : World.frozen? w1 ⟨w.heap.size, 0, none⟩ = false := (by rw [hf1 _ _ (by simp <;> omega)]; simp); have gc1 : World.cell? w1 ⟨w.heap.size, 1, none⟩ = some (.bool false) := (by rw [hc1 _ _ (by simp <;> omega)]; simp); have gf1 : World.frozen? w1 ⟨w.heap.size, 1, none⟩ = false := (by rw [hf1 _ _ (by simp <;> omega)]; simp); have gc2 : World.cell? w1 ⟨w.heap.size, 2, none⟩ = some (.bool false) := (by rw [hc1 _ _ (by simp <;> omega)]; simp); have gf2 : World.frozen? w1 ⟨w.heap.size, 2, none⟩ = false := (by rw [hf1 _ _ (by simp <;> omega)]; simp); have gc3 : World.cell? w1 ⟨w.heap.size, 3, none⟩ = some (.int .i64 0) := (by rw [hc1 _ _ (by simp <;> omega)]; simp); have gf3 : World.frozen? w1 ⟨w.heap.size, 3, none⟩ = false := (by rw [hf1 _ _ (by simp <;> omega)]; simp); have gc4 : World.cell? w1 ⟨w.heap.size, 4, none⟩ = some (.int .i64 0) := (by rw [hc1 _ _ (by simp <;> omega)]; simp); have gf4 : World.frozen? w1 ⟨w.heap.size, 4, none⟩ = false := (by rw [hf1 _ _ (by simp <;> omega)]; simp); have gc5 : World.cell? w1 ⟨w.heap.size, 5, none⟩ = some (.int .i64 0) := (by rw [hc1 _ _ (by simp <;> omega)]; simp); have gf5 : World.frozen? w1 ⟨w.heap.size, 5, none⟩ = false := (by rw [hf1 _ _ (by simp <;> omega)]; simp); have gc6 : World.cell? w1 ⟨w.heap.size, 6, none⟩ = some (.slice none 0 0) := (by rw [hc1 _ _ (by simp <;> omega)]; simp); have gf6 : World.frozen? w1 ⟨w.heap.size, 6, none⟩ = false := (by rw [hf1 _ _ (by simp <;> omega)]; simp); have gc7 : World.cell? w1 ⟨w.heap.size, 7, none⟩ = some (.slice none 0 0) := (by rw [hc1 _ _ (by simp <;> omega)]; simp); have gf7 : World.frozen? w1 ⟨w.heap.size, 7, none⟩ = false := (by rw [hf1 _ _ (by simp <;> omega)]; simp); have gc8 : World.cell? w1 ⟨w.heap.size, 8, none⟩ = some (.int .i64 0) := (by rw [hc1 _ _ (by simp <;> omega)]; simp); have gf8 : World.frozen? w1 ⟨w.heap.size, 8, none⟩ = false := (by rw [hf1 _ _ (by simp <;> omega)]; simp); have gc9 : World.cell? w1 ⟨w.heap.size, 9, none⟩ = some (.slice none 0 0) := (by rw [hc1 _ _ (by simp <;> omega)]; simp); have gf9 : World.frozen? w1 ⟨w.heap.size, 9, none⟩ = false := (by rw [hf1 _ _ (by simp <;> omega)]; simp); have gc10 : World.cell? w1 ⟨w.heap.size, 10, none⟩ = some (.slice none 0 0) := (by rw [hc1 _ _ (by simp <;> omega)]; simp); have gf10 : World.frozen? w1 ⟨w.heap.size, 10, none⟩ = false := (by rw [hf1 _ _ (by simp <;> omega)]; simp); clear hc1 hf1)
    go_region
    all_goals
      go_wp2
      refine bodyPost_ret (v := .tuple #[.agg #[.int .i64 v0, .bool v1, .bool v2, .int .i64 v3, .int .i64 v4, .int .i64 v5, .slice a6 n6 c6, .slice a7 n7 c7, .int .i64 v8, .slice a9 n9 c9, .slice a10 n10 c10], .bool (!v2)]) ?_ rfl ⟨by simp, ?_⟩
      · simp [results, Try.results12, go_sem, hz1, gc0, gc1, gc2, gc3, gc4, gc5, gc6, gc7, gc8, gc9, gc10]
      · (repeat (first | (with_reducible refine bs ?_ (by simp) _) | (with_reducible refine bdr ?_) | (with_reducible refine ba ?_ _)))
        exact bt (ba (b0 _) _) hb1

/-- A plan and a code. -/
def PlanRes (w : World) (gl : List Ver) (cm nu mk : Bool) (code : Int) (e : Ending) (w' : World) : Prop :=
  ∃ A c, e = .returned (.tuple #[.agg #[.slice A gl.length c, .bool cm, .bool nu, .bool mk], .int .i64 code]) ∧ Rf w.heap.size w' A (fl gl) ∧ Below w.heap.size w w'

def bareP (l : List Ver) (now : Int) : List Ver × Int := match pk l 0 with
  | none => ([], 0)
  | some v => if now < v.untl then ([], 14) else ([v], 0)

set_option maxHeartbeats 2000000 in
theorem bare33_none (A : Option Addr) (c : Nat) (l : List Ver) (now : Int) (w : World) (hl : l.length ≤ 31) (hA : Rd w A (fl l)) (hp : pk l 0 = none) :
    Calls Try.prog 33 #[.slice A l.length c, .int .i64 now] w (PlanRes w [] false false false 0) := by
  have q9 := Lib.hid (fun W (hb : Below w.heap.size w W) => pick9 A c l 0 W hl (hA.below hb))
  have hv : pkV l 0 = zv := by simp [pkV, hp]
  rw [hp, hv] at q9
  clear hv hp hA
  simp only [Ver.agg, Ver.cells, zv, Option.isSome_none] at q9
  generalize l.length = n at *
  go_enter Try.func33, Try.ntmps33
  go_wp2_with (go_at_call 9; refine (q9.out _ (ba (b0 _) _)).mono ?_; rintro e w1 ⟨rfl, hb1⟩; obtain ⟨hc1, hf1⟩ := bcell hb1; have hz1 : w.heap.size < w1.heap.size := (by have := hb1.size; simp at this; omega); have hz1n : w.heap.size ≠ w1.heap.size := (by omega); have gc0 : World.cell? w1 ⟨w.heap.size, 0, none⟩ = some (.slice none 0 0) := (by rw [hc1 _ _ (by simp <;> omega)]; simp); have gf0 : World.frozen? w1 ⟨w.heap.size, 0, none⟩ = false := (by rw [hf1 _ _ (by simp <;> omega)]; simp); have gc1 : World.cell? w1 ⟨w.heap.size, 1, none⟩ = some (.bool false) := (by rw [hc1 _ _ (by simp <;> omega)]; simp); have gf1 : World.frozen? w1 ⟨w.heap.size, 1, none⟩ = false := (by rw [hf1 _ _ (by simp <;> omega)]; simp); have gc2 : World.cell? w1 ⟨w.heap.size, 2, none⟩ = some (.bool false) := (by rw [hc1 _ _ (by simp <;> omega)]; simp); have gf2 : World.frozen? w1 ⟨w.heap.size, 2, none⟩ = false := (by rw [hf1 _ _ (by simp <;> omega)]; simp); have gc3 : World.cell? w1 ⟨w.heap.size, 3, none⟩ = some (.bool false) := (by rw [hc1 _ _ (by simp <;> omega)]; simp); have gf3 : World.frozen? w1 ⟨w.heap.size, 3, none⟩ = false := (by rw [hf1 _ _ (by simp <;> omega)]; simp); clear hc1 hf1)
  refine bodyPost_ret (v := .tuple #[.agg #[.slice none 0 0, .bool false, .bool false, .bool false], .int .i64 0]) ?_ rfl ⟨none, 0, rfl, .inl rfl, ?_⟩
  · simp [results, Try.results33, go_sem, hz1, gc0, gc1, gc2, gc3]
  · (repeat (first | (with_reducible refine bs ?_ (by simp) _) | (with_reducible refine bdr ?_) | (with_reducible refine ba ?_ _)))
    exact bt (ba (b0 _) _) hb1

end Go.Proofs.Ytmaaekahkeibnaa
