/- Put: the plan by which another version comes. -/
import Derived.Test.YtmaaekahkeibnaaA7
namespace Go.Proofs.Ytmaaekahkeibnaa
open Go.RowKit
set_option linter.unusedSimpArgs false

theorem bareP_code (l : List Ver) (now : Int) : (bareP l now).2 = 0 ∨ (bareP l now).2 = 14 := by
  unfold bareP
  cases pk l 0 with
  | none => exact .inl rfl
  | some v => by_cases h : now < v.untl <;> simp [h]

set_option maxHeartbeats 4000000 in
theorem put21_on (A : Option Addr) (c n : Nat) (now : Int) (w : World) :
    Calls Try.prog 21 #[.slice A n c, .int .i64 1, .int .i64 now] w (PlanRes w [] true false false 0) := by
  go_enter Try.func21, Try.ntmps21
  go_wp2
  refine bodyPost_ret (v := .tuple #[.agg #[.slice none 0 0, .bool true, .bool false, .bool false], .int .i64 0]) ?_ rfl ⟨none, 0, rfl, .inl rfl, ?_⟩
  · simp [results, Try.results21, go_sem]
  · (repeat (first | (with_reducible refine bs ?_ (by simp) _) | (with_reducible refine bdr ?_) | (with_reducible refine ba ?_ _)))
    exact b0 _

set_option maxHeartbeats 4000000 in
theorem put21_no (A : Option Addr) (c : Nat) (l : List Ver) (st now : Int) (w : World) (hl : l.length ≤ 31) (hA : Rd w A (fl l)) (hs : st ≠ 1) (hb : (bareP l now).2 = 14) :
    Calls Try.prog 21 #[.slice A l.length c, .int .i64 st, .int .i64 now] w (PlanRes w [] false false false 14) := by
  have q33 := Lib.hid (fun W (hb : Below w.heap.size w W) => bare33 A c l now W hl (hA.below hb))
  rw [hb] at q33
  have hs1 : (st == 1) = false := by simpa using hs
  clear hb hA hs
  generalize (bareP l now).1 = gl at *
  generalize l.length = n at *
  go_enter Try.func21, Try.ntmps21
  go_wp2_with (go_at_call 33; refine (q33.out _ (ba (b0 _) _)).mono ?_; rintro e w1 ⟨A1, k1, rfl, hR1, hb1⟩; obtain ⟨hc1, hf1⟩ := bcell hb1; have hz1 : w.heap.size < w1.heap.size := (by have := hb1.size; simp at this; omega); have hz1n : w.heap.size ≠ w1.heap.size := (by omega); have gc0 : World.cell? w1 ⟨w.heap.size, 0, none⟩ = some (.slice none 0 0) := (by rw [hc1 _ _ (by simp <;> omega)]; simp); have gf0 : World.frozen? w1 ⟨w.heap.size, 0, none⟩ = false := (by rw [hf1 _ _ (by simp <;> omega)]; simp); have gc1 : World.cell? w1 ⟨w.heap.size, 1, none⟩ = some (.bool false) := (by rw [hc1 _ _ (by simp <;> omega)]; simp); have gf1 : World.frozen? w1 ⟨w.heap.size, 1, none⟩ = false := (by rw [hf1 _ _ (by simp <;> omega)]; simp); have gc2 : World.cell? w1 ⟨w.heap.size, 2, none⟩ = some (.bool false) := (by rw [hc1 _ _ (by simp <;> omega)]; simp); have gf2 : World.frozen? w1 ⟨w.heap.size, 2, none⟩ = false := (by rw [hf1 _ _ (by simp <;> omega)]; simp); have gc3 : World.cell? w1 ⟨w.heap.size, 3, none⟩ = some (.bool false) := (by rw [hc1 _ _ (by simp <;> omega)]; simp); have gf3 : World.frozen? w1 ⟨w.heap.size, 3, none⟩ = false := (by rw [hf1 _ _ (by simp <;> omega)]; simp); clear hc1 hf1)
  refine bodyPost_ret (v := .tuple #[.agg #[.slice none 0 0, .bool false, .bool false, .bool false], .int .i64 14]) ?_ rfl ⟨none, 0, rfl, .inl rfl, ?_⟩
  · simp [results, Try.results21, go_sem, hz1, gc0, gc1, gc2, gc3]
  · (repeat (first | (with_reducible refine bs ?_ (by simp) _) | (with_reducible refine bdr ?_) | (with_reducible refine ba ?_ _)))
    exact bt (ba (b0 _) _) hb1

set_option maxHeartbeats 4000000 in
theorem put21_yes (A : Option Addr) (c : Nat) (l : List Ver) (st now : Int) (w : World) (hl : l.length ≤ 31) (hA : Rd w A (fl l)) (hs : st ≠ 1) (hb : (bareP l now).2 = 0) :
    Calls Try.prog 21 #[.slice A l.length c, .int .i64 st, .int .i64 now] w (PlanRes w (bareP l now).1 true true false 0) := by
  have q33 := Lib.hid (fun W (hb : Below w.heap.size w W) => bare33 A c l now W hl (hA.below hb))
  rw [hb] at q33
  have hs1 : (st == 1) = false := by simpa using hs
  clear hb hA hs
  generalize (bareP l now).1 = gl at *
  generalize l.length = n at *
  go_enter Try.func21, Try.ntmps21
  go_wp2_with (go_at_call 33; refine (q33.out _ (ba (b0 _) _)).mono ?_; rintro e w1 ⟨A1, k1, rfl, hR1, hb1⟩; obtain ⟨hc1, hf1⟩ := bcell hb1; have hz1 : w.heap.size < w1.heap.size := (by have := hb1.size; simp at this; omega); have hz1n : w.heap.size ≠ w1.heap.size := (by omega); have gc0 : World.cell? w1 ⟨w.heap.size, 0, none⟩ = some (.slice none 0 0) := (by rw [hc1 _ _ (by simp <;> omega)]; simp); have gf0 : World.frozen? w1 ⟨w.heap.size, 0, none⟩ = false := (by rw [hf1 _ _ (by simp <;> omega)]; simp); have gc1 : World.cell? w1 ⟨w.heap.size, 1, none⟩ = some (.bool false) := (by rw [hc1 _ _ (by simp <;> omega)]; simp); have gf1 : World.frozen? w1 ⟨w.heap.size, 1, none⟩ = false := (by rw [hf1 _ _ (by simp <;> omega)]; simp); have gc2 : World.cell? w1 ⟨w.heap.size, 2, none⟩ = some (.bool false) := (by rw [hc1 _ _ (by simp <;> omega)]; simp); have gf2 : World.frozen? w1 ⟨w.heap.size, 2, none⟩ = false := (by rw [hf1 _ _ (by simp <;> omega)]; simp); have gc3 : World.cell? w1 ⟨w.heap.size, 3, none⟩ = some (.bool false) := (by rw [hc1 _ _ (by simp <;> omega)]; simp); have gf3 : World.frozen? w1 ⟨w.heap.size, 3, none⟩ = false := (by rw [hf1 _ _ (by simp <;> omega)]; simp); clear hc1 hf1)
  refine bodyPost_ret (v := .tuple #[.agg #[.slice A1 gl.length k1, .bool true, .bool true, .bool false], .int .i64 0]) ?_ rfl ⟨A1, k1, rfl, ?_, ?_⟩
  · simp [results, Try.results21, go_sem, hz1, gc0, gc1, gc2, gc3]
  · refine Rf.mono (B := w.heap.size + 1) ?_ (by omega)
    (repeat (first | (with_reducible refine Rf.set ?_ (by simp <;> omega) _) | (with_reducible refine Rf.alloc ?_ _) | (with_reducible refine Rf.drew ?_)))
    simpa using hR1
  · (repeat (first | (with_reducible refine bs ?_ (by simp) _) | (with_reducible refine bdr ?_) | (with_reducible refine ba ?_ _)))
    exact bt (ba (b0 _) _) hb1

def putP (l : List Ver) (st now : Int) : List Ver × Bool × Bool × Int :=
  if st = 1 then ([], true, false, 0) else if (bareP l now).2 = 0 then ((bareP l now).1, true, true, 0) else ([], false, false, 14)

theorem put21 (A : Option Addr) (c : Nat) (l : List Ver) (st now : Int) (w : World) (hl : l.length ≤ 31) (hA : Rd w A (fl l)) :
    Calls Try.prog 21 #[.slice A l.length c, .int .i64 st, .int .i64 now] w (PlanRes w (putP l st now).1 (putP l st now).2.1 (putP l st now).2.2.1 false (putP l st now).2.2.2) := by
  unfold putP
  by_cases hs : st = 1
  · subst hs
    simpa using put21_on A c l.length now w
  · rcases bareP_code l now with h | h
    · simpa [hs, h] using put21_yes A c l st now w hl hA hs h
    · simpa [hs, h] using put21_no A c l st now w hl hA hs h

end Go.Proofs.Ytmaaekahkeibnaa
