/- Delete: the plan by which a name is not there any more. -/
import Derived.Test.YtmaaekahkeibnaaA8
import Derived.Deep.CutRange
import Derived.Deep.CutBlock
import Derived.Deep.DeepCutAuto
namespace Go.Proofs.Ytmaaekahkeibnaa
open Go.RowKit
set_option linter.unusedSimpArgs false

set_option maxHeartbeats 4000000 in
theorem del22_else (A : Option Addr) (c n : Nat) (st now : Int) (w : World) (h0 : st ≠ 0) (h2 : st ≠ 2) :
    Calls Try.prog 22 #[.slice A n c, .int .i64 st, .int .i64 now] w (PlanRes w [] true false true 0) := by
  have e0 : (st == 0) = false := by simpa using h0
  have e2 : (st == 2) = false := by simpa using h2
  clear h0 h2
  go_enter Try.func22, Try.ntmps22
  go_wp2
  refine bodyPost_ret (v := .tuple #[.agg #[.slice none 0 0, .bool true, .bool false, .bool true], .int .i64 0]) ?_ rfl ⟨none, 0, rfl, .inl rfl, ?_⟩
  · simp [results, Try.results22, go_sem]
  · (repeat (first | (with_reducible refine bs ?_ (by simp) _) | (with_reducible refine bdr ?_) | (with_reducible refine ba ?_ _)))
    exact b0 _

set_option maxHeartbeats 4000000 in
theorem del22_off_no (A : Option Addr) (c : Nat) (l : List Ver) (now : Int) (w : World) (hl : l.length ≤ 31) (hA : Rd w A (fl l)) (hb : (bareP l now).2 = 14) :
    Calls Try.prog 22 #[.slice A l.length c, .int .i64 0, .int .i64 now] w (PlanRes w [] false false false 14) := by
  have q33 := Lib.hid (fun W (hb : Below w.heap.size w W) => bare33 A c l now W hl (hA.below hb))
  rw [hb] at q33
  clear hb hA
  generalize (bareP l now).1 = gl at *
  generalize l.length = n at *
  go_enter Try.func22, Try.ntmps22
  go_wp2_with (go_at_call 33; refine (q33.out _ (ba (ba (b0 _) _) _)).mono ?_; rintro e w1 ⟨A1, k1, rfl, hR1, hb1⟩; obtain ⟨hc1, hf1⟩ := bcell hb1; have hz1 : w.heap.size < w1.heap.size := (by have := hb1.size; simp at this; omega); have hz2 : w.heap.size + 1 < w1.heap.size := (by have := hb1.size; simp at this; omega); have gc0 : World.cell? w1 ⟨w.heap.size, 0, none⟩ = some (.slice none 0 0) := (by rw [hc1 _ _ (by simp <;> omega)]; simp); have gf0 : World.frozen? w1 ⟨w.heap.size, 0, none⟩ = false := (by rw [hf1 _ _ (by simp <;> omega)]; simp); have gc1 : World.cell? w1 ⟨w.heap.size, 1, none⟩ = some (.bool false) := (by rw [hc1 _ _ (by simp <;> omega)]; simp); have gf1 : World.frozen? w1 ⟨w.heap.size, 1, none⟩ = false := (by rw [hf1 _ _ (by simp <;> omega)]; simp); have gc2 : World.cell? w1 ⟨w.heap.size, 2, none⟩ = some (.bool false) := (by rw [hc1 _ _ (by simp <;> omega)]; simp); have gf2 : World.frozen? w1 ⟨w.heap.size, 2, none⟩ = false := (by rw [hf1 _ _ (by simp <;> omega)]; simp); have gc3 : World.cell? w1 ⟨w.heap.size, 3, none⟩ = some (.bool false) := (by rw [hc1 _ _ (by simp <;> omega)]; simp); have gf3 : World.frozen? w1 ⟨w.heap.size, 3, none⟩ = false := (by rw [hf1 _ _ (by simp <;> omega)]; simp); have kc0 : World.cell? w1 ⟨w.heap.size + 1, 0, none⟩ = some (.slice none 0 0) := (by rw [hc1 _ _ (by simp <;> omega)]; simp); have kf0 : World.frozen? w1 ⟨w.heap.size + 1, 0, none⟩ = false := (by rw [hf1 _ _ (by simp <;> omega)]; simp); have kc1 : World.cell? w1 ⟨w.heap.size + 1, 1, none⟩ = some (.bool false) := (by rw [hc1 _ _ (by simp <;> omega)]; simp); have kf1 : World.frozen? w1 ⟨w.heap.size + 1, 1, none⟩ = false := (by rw [hf1 _ _ (by simp <;> omega)]; simp); have kc2 : World.cell? w1 ⟨w.heap.size + 1, 2, none⟩ = some (.bool false) := (by rw [hc1 _ _ (by simp <;> omega)]; simp); have kf2 : World.frozen? w1 ⟨w.heap.size + 1, 2, none⟩ = false := (by rw [hf1 _ _ (by simp <;> omega)]; simp); have kc3 : World.cell? w1 ⟨w.heap.size + 1, 3, none⟩ = some (.bool false) := (by rw [hc1 _ _ (by simp <;> omega)]; simp); have kf3 : World.frozen? w1 ⟨w.heap.size + 1, 3, none⟩ = false := (by rw [hf1 _ _ (by simp <;> omega)]; simp); clear hc1 hf1)
  refine bodyPost_ret (v := .tuple #[.agg #[.slice none 0 0, .bool false, .bool false, .bool false], .int .i64 14]) ?_ rfl ⟨none, 0, rfl, ?_, ?_⟩
  · simp [results, Try.results22, go_sem, hz1, hz2, gc0, gc1, gc2, gc3, kc0, kc1, kc2, kc3]
  · exact .inl rfl
  · (repeat (first | (with_reducible refine bs ?_ (by simp) _) | (with_reducible refine bdr ?_) | (with_reducible refine ba ?_ _)))
    exact bt (ba (ba (b0 _) _) _) hb1

set_option maxHeartbeats 4000000 in
theorem del22_off_yes (A : Option Addr) (c : Nat) (l : List Ver) (now : Int) (w : World) (hl : l.length ≤ 31) (hA : Rd w A (fl l)) (hb : (bareP l now).2 = 0) :
    Calls Try.prog 22 #[.slice A l.length c, .int .i64 0, .int .i64 now] w (PlanRes w (bareP l now).1 false false false 0) := by
  have q33 := Lib.hid (fun W (hb : Below w.heap.size w W) => bare33 A c l now W hl (hA.below hb))
  rw [hb] at q33
  clear hb hA
  generalize (bareP l now).1 = gl at *
  generalize l.length = n at *
  go_enter Try.func22, Try.ntmps22
  go_wp2_with (go_at_call 33; refine (q33.out _ (ba (ba (b0 _) _) _)).mono ?_; rintro e w1 ⟨A1, k1, rfl, hR1, hb1⟩; obtain ⟨hc1, hf1⟩ := bcell hb1; have hz1 : w.heap.size < w1.heap.size := (by have := hb1.size; simp at this; omega); have hz2 : w.heap.size + 1 < w1.heap.size := (by have := hb1.size; simp at this; omega); have gc0 : World.cell? w1 ⟨w.heap.size, 0, none⟩ = some (.slice none 0 0) := (by rw [hc1 _ _ (by simp <;> omega)]; simp); have gf0 : World.frozen? w1 ⟨w.heap.size, 0, none⟩ = false := (by rw [hf1 _ _ (by simp <;> omega)]; simp); have gc1 : World.cell? w1 ⟨w.heap.size, 1, none⟩ = some (.bool false) := (by rw [hc1 _ _ (by simp <;> omega)]; simp); have gf1 : World.frozen? w1 ⟨w.heap.size, 1, none⟩ = false := (by rw [hf1 _ _ (by simp <;> omega)]; simp); have gc2 : World.cell? w1 ⟨w.heap.size, 2, none⟩ = some (.bool false) := (by rw [hc1 _ _ (by simp <;> omega)]; simp); have gf2 : World.frozen? w1 ⟨w.heap.size, 2, none⟩ = false := (by rw [hf1 _ _ (by simp <;> omega)]; simp); have gc3 : World.cell? w1 ⟨w.heap.size, 3, none⟩ = some (.bool false) := (by rw [hc1 _ _ (by simp <;> omega)]; simp); have gf3 : World.frozen? w1 ⟨w.heap.size, 3, none⟩ = false := (by rw [hf1 _ _ (by simp <;> omega)]; simp); have kc0 : World.cell? w1 ⟨w.heap.size + 1, 0, none⟩ = some (.slice none 0 0) := (by rw [hc1 _ _ (by simp <;> omega)]; simp); have kf0 : World.frozen? w1 ⟨w.heap.size + 1, 0, none⟩ = false := (by rw [hf1 _ _ (by simp <;> omega)]; simp); have kc1 : World.cell? w1 ⟨w.heap.size + 1, 1, none⟩ = some (.bool false) := (by rw [hc1 _ _ (by simp <;> omega)]; simp); have kf1 : World.frozen? w1 ⟨w.heap.size + 1, 1, none⟩ = false := (by rw [hf1 _ _ (by simp <;> omega)]; simp); have kc2 : World.cell? w1 ⟨w.heap.size + 1, 2, none⟩ = some (.bool false) := (by rw [hc1 _ _ (by simp <;> omega)]; simp); have kf2 : World.frozen? w1 ⟨w.heap.size + 1, 2, none⟩ = false := (by rw [hf1 _ _ (by simp <;> omega)]; simp); have kc3 : World.cell? w1 ⟨w.heap.size + 1, 3, none⟩ = some (.bool false) := (by rw [hc1 _ _ (by simp <;> omega)]; simp); have kf3 : World.frozen? w1 ⟨w.heap.size + 1, 3, none⟩ = false := (by rw [hf1 _ _ (by simp <;> omega)]; simp); clear hc1 hf1)
  refine bodyPost_ret (v := .tuple #[.agg #[.slice A1 gl.length k1, .bool false, .bool false, .bool false], .int .i64 0]) ?_ rfl ⟨A1, k1, rfl, ?_, ?_⟩
  · simp [results, Try.results22, go_sem, hz1, hz2, gc0, gc1, gc2, gc3, kc0, kc1, kc2, kc3]
  · refine Rf.mono (B := w.heap.size + 1 + 1) ?_ (by omega)
    (repeat (first | (with_reducible refine Rf.set ?_ (by simp <;> omega) _) | (with_reducible refine Rf.alloc ?_ _) | (with_reducible refine Rf.drew ?_)))
    simpa using hR1
  · (repeat (first | (with_reducible refine bs ?_ (by simp) _) | (with_reducible refine bdr ?_) | (with_reducible refine ba ?_ _)))
    exact bt (ba (ba (b0 _) _) _) hb1

set_option maxHeartbeats 4000000 in
theorem del22_sus_no (A : Option Addr) (c : Nat) (l : List Ver) (now : Int) (w : World) (hl : l.length ≤ 31) (hA : Rd w A (fl l)) (hb : (bareP l now).2 = 14) :
    Calls Try.prog 22 #[.slice A l.length c, .int .i64 2, .int .i64 now] w (PlanRes w [] false false false 14) := by
  have q33 := Lib.hid (fun W (hb : Below w.heap.size w W) => bare33 A c l now W hl (hA.below hb))
  rw [hb] at q33
  clear hb hA
  generalize (bareP l now).1 = gl at *
  generalize l.length = n at *
  go_enter Try.func22, Try.ntmps22
  go_wp2_with (go_at_call 33; refine (q33.out _ (ba (ba (b0 _) _) _)).mono ?_; rintro e w1 ⟨A1, k1, rfl, hR1, hb1⟩; obtain ⟨hc1, hf1⟩ := bcell hb1; have hz1 : w.heap.size < w1.heap.size := (by have := hb1.size; simp at this; omega); have hz2 : w.heap.size + 1 < w1.heap.size := (by have := hb1.size; simp at this; omega); have gc0 : World.cell? w1 ⟨w.heap.size, 0, none⟩ = some (.slice none 0 0) := (by rw [hc1 _ _ (by simp <;> omega)]; simp); have gf0 : World.frozen? w1 ⟨w.heap.size, 0, none⟩ = false := (by rw [hf1 _ _ (by simp <;> omega)]; simp); have gc1 : World.cell? w1 ⟨w.heap.size, 1, none⟩ = some (.bool false) := (by rw [hc1 _ _ (by simp <;> omega)]; simp); have gf1 : World.frozen? w1 ⟨w.heap.size, 1, none⟩ = false := (by rw [hf1 _ _ (by simp <;> omega)]; simp); have gc2 : World.cell? w1 ⟨w.heap.size, 2, none⟩ = some (.bool false) := (by rw [hc1 _ _ (by simp <;> omega)]; simp); have gf2 : World.frozen? w1 ⟨w.heap.size, 2, none⟩ = false := (by rw [hf1 _ _ (by simp <;> omega)]; simp); have gc3 : World.cell? w1 ⟨w.heap.size, 3, none⟩ = some (.bool false) := (by rw [hc1 _ _ (by simp <;> omega)]; simp); have gf3 : World.frozen? w1 ⟨w.heap.size, 3, none⟩ = false := (by rw [hf1 _ _ (by simp <;> omega)]; simp); have kc0 : World.cell? w1 ⟨w.heap.size + 1, 0, none⟩ = some (.slice none 0 0) := (by rw [hc1 _ _ (by simp <;> omega)]; simp); have kf0 : World.frozen? w1 ⟨w.heap.size + 1, 0, none⟩ = false := (by rw [hf1 _ _ (by simp <;> omega)]; simp); have kc1 : World.cell? w1 ⟨w.heap.size + 1, 1, none⟩ = some (.bool false) := (by rw [hc1 _ _ (by simp <;> omega)]; simp); have kf1 : World.frozen? w1 ⟨w.heap.size + 1, 1, none⟩ = false := (by rw [hf1 _ _ (by simp <;> omega)]; simp); have kc2 : World.cell? w1 ⟨w.heap.size + 1, 2, none⟩ = some (.bool false) := (by rw [hc1 _ _ (by simp <;> omega)]; simp); have kf2 : World.frozen? w1 ⟨w.heap.size + 1, 2, none⟩ = false := (by rw [hf1 _ _ (by simp <;> omega)]; simp); have kc3 : World.cell? w1 ⟨w.heap.size + 1, 3, none⟩ = some (.bool false) := (by rw [hc1 _ _ (by simp <;> omega)]; simp); have kf3 : World.frozen? w1 ⟨w.heap.size + 1, 3, none⟩ = false := (by rw [hf1 _ _ (by simp <;> omega)]; simp); clear hc1 hf1)
  refine bodyPost_ret (v := .tuple #[.agg #[.slice none 0 0, .bool false, .bool false, .bool false], .int .i64 14]) ?_ rfl ⟨none, 0, rfl, ?_, ?_⟩
  · simp [results, Try.results22, go_sem, hz1, hz2, gc0, gc1, gc2, gc3, kc0, kc1, kc2, kc3]
  · exact .inl rfl
  · (repeat (first | (with_reducible refine bs ?_ (by simp) _) | (with_reducible refine bdr ?_) | (with_reducible refine ba ?_ _)))
    exact bt (ba (ba (b0 _) _) _) hb1

set_option maxHeartbeats 4000000 in
theorem del22_sus_yes (A : Option Addr) (c : Nat) (l : List Ver) (now : Int) (w : World) (hl : l.length ≤ 31) (hA : Rd w A (fl l)) (hb : (bareP l now).2 = 0) :
    Calls Try.prog 22 #[.slice A l.length c, .int .i64 2, .int .i64 now] w (PlanRes w (bareP l now).1 true true true 0) := by
  have q33 := Lib.hid (fun W (hb : Below w.heap.size w W) => bare33 A c l now W hl (hA.below hb))
  rw [hb] at q33
  clear hb hA
  generalize (bareP l now).1 = gl at *
  generalize l.length = n at *
  go_enter Try.func22, Try.ntmps22
  go_upto_region 9 with (go_at_call 33; refine (q33.out _ (ba (ba (b0 _) _) _)).mono ?_; rintro e w1 ⟨A1, k1, rfl, hR1, hb1⟩; obtain ⟨hc1, hf1⟩ := bcell hb1; have hz1 : w.heap.size < w1.heap.size := (by have := hb1.size; simp at this; omega); have hz2 : w.heap.size + 1 < w1.heap.size := (by have := hb1.size; simp at this; omega); have gc0 : World.cell? w1 ⟨w.heap.size, 0, none⟩ = some (.slice none 0 0) := (by rw [hc1 _ _ (by simp <;> omega)]; simp); have gf0 : World.frozen? w1 ⟨w.heap.size, 0, none⟩ = false := (by rw [hf1 _ _ (by simp <;> omega)]; simp); have gc1 : World.cell? w1 ⟨w.heap.size, 1, none⟩ = some (.bool false) := (by rw [hc1 _ _ (by simp <;> omega)]; simp); have gf1 : World.frozen? w1 ⟨w.heap.size, 1, none⟩ = false := (by rw [hf1 _ _ (by simp <;> omega)]; simp); have gc2 : World.cell? w1 ⟨w.heap.size, 2, none⟩ = some (.bool false) := (by rw [hc1 _ _ (by simp <;> omega)]; simp); have gf2 : World.frozen? w1 ⟨w.heap.size, 2, none⟩ = false := (by rw [hf1 _ _ (by simp <;> omega)]; simp); have gc3 : World.cell? w1 ⟨w.heap.size, 3, none⟩ = some (.bool false) := (by rw [hc1 _ _ (by simp <;> omega)]; simp); have gf3 : World.frozen? w1 ⟨w.heap.size, 3, none⟩ = false := (by rw [hf1 _ _ (by simp <;> omega)]; simp); have kc0 : World.cell? w1 ⟨w.heap.size + 1, 0, none⟩ = some (.slice none 0 0) := (by rw [hc1 _ _ (by simp <;> omega)]; simp); have kf0 : World.frozen? w1 ⟨w.heap.size + 1, 0, none⟩ = false := (by rw [hf1 _ _ (by simp <;> omega)]; simp); have kc1 : World.cell? w1 ⟨w.heap.size + 1, 1, none⟩ = some (.bool false) := (by rw [hc1 _ _ (by simp <;> omega)]; simp); have kf1 : World.frozen? w1 ⟨w.heap.size + 1, 1, none⟩ = false := (by rw [hf1 _ _ (by simp <;> omega)]; simp); have kc2 : World.cell? w1 ⟨w.heap.size + 1, 2, none⟩ = some (.bool false) := (by rw [hc1 _ _ (by simp <;> omega)]; simp); have kf2 : World.frozen? w1 ⟨w.heap.size + 1, 2, none⟩ = false := (by rw [hf1 _ _ (by simp <;> omega)]; simp); have kc3 : World.cell? w1 ⟨w.heap.size + 1, 3, none⟩ = some (.bool false) := (by rw [hc1 _ _ (by simp <;> omega)]; simp); have kf3 : World.frozen? w1 ⟨w.heap.size + 1, 3, none⟩ = false := (by rw [hf1 _ _ (by simp <;> omega)]; simp); clear hc1 hf1)
  obtain ⟨W8, hW8⟩ : ∃ W8, W8 = ((((w1.setCell ⟨w.heap.size + 1, 0, none⟩ (.slice A1 gl.length k1)).setCell ⟨w.heap.size + 1, 1, none⟩ (.bool false)).setCell ⟨w.heap.size + 1, 2, none⟩ (.bool false)).setCell ⟨w.heap.size + 1, 3, none⟩ (.bool false)).alloc (.cells #[.slice A1 gl.length k1, .bool false, .bool false, .bool false] 43) := ⟨_, rfl⟩
  rw [← hW8]
  have hz8 : w.heap.size + 1 < W8.heap.size := by rw [hW8]; simp; omega
  have hB8 : Below w.heap.size w W8 := by
    rw [hW8]
    (repeat (first | (with_reducible refine bs ?_ (by simp) _) | (with_reducible refine bdr ?_) | (with_reducible refine ba ?_ _)))
    exact bt (ba (ba (b0 _) _) _) hb1
  have hR8 : Rf (w.heap.size + 1 + 1) W8 A1 (fl gl) := by
    rw [hW8]
    (repeat (first | (with_reducible refine Rf.set ?_ (by simp <;> omega) _) | (with_reducible refine Rf.alloc ?_ _) | (with_reducible refine Rf.drew ?_)))
    simpa using hR1
  have xc0 : W8.cell? ⟨w.heap.size + 1, 0, none⟩ = some (.slice A1 gl.length k1) := by rw [hW8]; simp [go_sem, hz2, kc0, kc1, kc2, kc3]
  have xf0 : W8.frozen? ⟨w.heap.size + 1, 0, none⟩ = false := by rw [hW8]; simp [go_sem, hz2, kf0, kf1, kf2, kf3]
  have yc0 : W8.cell? ⟨w.heap.size, 0, none⟩ = some (.slice none 0 0) := by rw [hW8]; simp [go_sem, hz1, gc0, gc1, gc2, gc3]
  have yf0 : W8.frozen? ⟨w.heap.size, 0, none⟩ = false := by rw [hW8]; simp [go_sem, hz1, gf0, gf1, gf2, gf3]
  have xc1 : W8.cell? ⟨w.heap.size + 1, 1, none⟩ = some (.bool false) := by rw [hW8]; simp [go_sem, hz2, kc0, kc1, kc2, kc3]
  have xf1 : W8.frozen? ⟨w.heap.size + 1, 1, none⟩ = false := by rw [hW8]; simp [go_sem, hz2, kf0, kf1, kf2, kf3]
  have yc1 : W8.cell? ⟨w.heap.size, 1, none⟩ = some (.bool false) := by rw [hW8]; simp [go_sem, hz1, gc0, gc1, gc2, gc3]
  have yf1 : W8.frozen? ⟨w.heap.size, 1, none⟩ = false := by rw [hW8]; simp [go_sem, hz1, gf0, gf1, gf2, gf3]
  have xc2 : W8.cell? ⟨w.heap.size + 1, 2, none⟩ = some (.bool false) := by rw [hW8]; simp [go_sem, hz2, kc0, kc1, kc2, kc3]
  have xf2 : W8.frozen? ⟨w.heap.size + 1, 2, none⟩ = false := by rw [hW8]; simp [go_sem, hz2, kf0, kf1, kf2, kf3]
  have yc2 : W8.cell? ⟨w.heap.size, 2, none⟩ = some (.bool false) := by rw [hW8]; simp [go_sem, hz1, gc0, gc1, gc2, gc3]
  have yf2 : W8.frozen? ⟨w.heap.size, 2, none⟩ = false := by rw [hW8]; simp [go_sem, hz1, gf0, gf1, gf2, gf3]
  have xc3 : W8.cell? ⟨w.heap.size + 1, 3, none⟩ = some (.bool false) := by rw [hW8]; simp [go_sem, hz2, kc0, kc1, kc2, kc3]
  have xf3 : W8.frozen? ⟨w.heap.size + 1, 3, none⟩ = false := by rw [hW8]; simp [go_sem, hz2, kf0, kf1, kf2, kf3]
  have yc3 : W8.cell? ⟨w.heap.size, 3, none⟩ = some (.bool false) := by rw [hW8]; simp [go_sem, hz1, gc0, gc1, gc2, gc3]
  have yf3 : W8.frozen? ⟨w.heap.size, 3, none⟩ = false := by rw [hW8]; simp [go_sem, hz1, gf0, gf1, gf2, gf3]
  clear hW8 hb1 hR1 hz1 hz2 gc0 gc1 gc2 gc3 kc0 kc1 kc2 kc3 gf0 gf1 gf2 gf3 kf0 kf1 kf2 kf3
  go_wp2
  refine bodyPost_ret (v := .tuple #[.agg #[.slice A1 gl.length k1, .bool true, .bool true, .bool true], .int .i64 0]) ?_ rfl ⟨A1, k1, rfl, ?_, ?_⟩
  · simp [results, Try.results22, go_sem, hz8, xc0, xc1, xc2, xc3, yc0, yc1, yc2, yc3]
  · refine Rf.mono (B := w.heap.size + 1 + 1) ?_ (by omega)
    (repeat (first | (with_reducible refine Rf.set ?_ (by simp <;> omega) _) | (with_reducible refine Rf.alloc ?_ _) | (with_reducible refine Rf.drew ?_)))
    exact hR8
  · (repeat (first | (with_reducible refine bs ?_ (by simp) _) | (with_reducible refine bdr ?_) | (with_reducible refine ba ?_ _)))
    exact hB8

def delP (l : List Ver) (st now : Int) : List Ver × Bool × Bool × Bool × Int :=
  if st ≠ 0 ∧ st ≠ 2 then ([], true, false, true, 0) else if (bareP l now).2 = 0 then (if st = 0 then ((bareP l now).1, false, false, false, 0) else ((bareP l now).1, true, true, true, 0)) else ([], false, false, false, 14)

theorem del22 (A : Option Addr) (c : Nat) (l : List Ver) (st now : Int) (w : World) (hl : l.length ≤ 31) (hA : Rd w A (fl l)) :
    Calls Try.prog 22 #[.slice A l.length c, .int .i64 st, .int .i64 now] w (PlanRes w (delP l st now).1 (delP l st now).2.1 (delP l st now).2.2.1 (delP l st now).2.2.2.1 (delP l st now).2.2.2.2) := by
  unfold delP
  by_cases h0 : st = 0
  · subst h0
    rcases bareP_code l now with h | h
    · simpa [h] using del22_off_yes A c l now w hl hA h
    · simpa [h] using del22_off_no A c l now w hl hA h
  · by_cases h2 : st = 2
    · subst h2
      rcases bareP_code l now with h | h
      · simpa [h] using del22_sus_yes A c l now w hl hA h
      · simpa [h] using del22_sus_no A c l now w hl hA h
    · simpa [h0, h2] using del22_else A c l.length st now w h0 h2

end Go.Proofs.Ytmaaekahkeibnaa
