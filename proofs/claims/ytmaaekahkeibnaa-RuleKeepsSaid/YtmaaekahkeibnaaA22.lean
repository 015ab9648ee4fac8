/- The example that each statement ends with. -/
import Derived.Test.YtmaaekahkeibnaaA21
import Derived.Test.YtmaaekahkeibnaaA9
import Derived.Test.YtmaaekahkeibnaaA10
import Derived.Test.YtmaaekahkeibnaaA14
namespace Go.Proofs.Ytmaaekahkeibnaa
open Go.RowKit
set_option linter.unusedSimpArgs false

/-- A world is as much as is said of it. -/
theorem gen_world {G : World → Prop} {w : World} (I : World → Prop) (h1 : I w) (h2 : ∀ W, I W → G W) : G w := h2 w h1

def x1 : Ver := ⟨1, true, false, 0, 0, 5, ⟨none, 0, 0⟩, ⟨none, 0, 0⟩, 0, ⟨none, 0, 0⟩, ⟨none, 0, 0⟩⟩
def x2 : Ver := ⟨2, false, true, 0, 0, 0, ⟨none, 0, 0⟩, ⟨none, 0, 0⟩, 0, ⟨none, 0, 0⟩, ⟨none, 0, 0⟩⟩

theorem w_put0 (w : World) : Calls Try.prog 21 #[.slice none 0 0, .int .i64 0, .int .i64 0] w (PlanRes w [] true true false 0) :=
  put21 none 0 [] 0 0 w (by simp) (.inl rfl)
theorem w_app1 (A : Option Addr) (c : Nat) (w : World) : Calls Try.prog 23 #[.slice none 0 0, .agg #[.slice A 0 c, .bool true, .bool true, .bool false], .agg #[.int .i64 1, .bool false, .bool false, .int .i64 0, .int .i64 0, .int .i64 5, .slice none 0 0, .slice none 0 0, .int .i64 0, .slice none 0 0, .slice none 0 0]] w (ListRes w [x1]) :=
  apply23 none 0 [] A c [] true true false ⟨1, false, false, 0, 0, 5, ⟨none, 0, 0⟩, ⟨none, 0, 0⟩, 0, ⟨none, 0, 0⟩, ⟨none, 0, 0⟩⟩ w (by simp) (by simp) (.inl rfl) (.inl rfl)
theorem w_put1 (A : Option Addr) (c : Nat) (w : World) (hA : Rd w A (fl [x1])) : Calls Try.prog 21 #[.slice A 1 c, .int .i64 2, .int .i64 4] w (PlanRes w [] false false false 14) :=
  put21 A c [x1] 2 4 w (by simp) hA
theorem w_del (A : Option Addr) (c : Nat) (w : World) (hA : Rd w A (fl [x1])) : Calls Try.prog 22 #[.slice A 1 c, .int .i64 1, .int .i64 4] w (PlanRes w [] true false true 0) :=
  del22 A c [x1] 1 4 w (by simp) hA
theorem w_app2 (A B : Option Addr) (c d : Nat) (w : World) (hA : Rd w A (fl [x1])) : Calls Try.prog 23 #[.slice A 1 c, .agg #[.slice B 0 d, .bool true, .bool false, .bool true], .agg #[.int .i64 2, .bool false, .bool false, .int .i64 0, .int .i64 0, .int .i64 0, .slice none 0 0, .slice none 0 0, .int .i64 0, .slice none 0 0, .slice none 0 0]] w (ListRes w [x2, x1]) :=
  apply23 A c [x1] B d [] true false true ⟨2, false, false, 0, 0, 0, ⟨none, 0, 0⟩, ⟨none, 0, 0⟩, 0, ⟨none, 0, 0⟩, ⟨none, 0, 0⟩⟩ w (by simp) (by simp) hA (.inl rfl)
theorem w_there (A : Option Addr) (c : Nat) (w : World) (hA : Rd w A (fl [x2, x1])) : Calls Try.prog 12 #[.slice A 2 c] w fun e w' => e = .returned (.tuple #[.agg #[.int .i64 2, .bool false, .bool true, .int .i64 0, .int .i64 0, .int .i64 0, .slice none 0 0, .slice none 0 0, .int .i64 0, .slice none 0 0, .slice none 0 0], .bool false]) ∧ Below w.heap.size w w' :=
  there12 A c [x2, x1] w (by simp) hA
theorem w_pick (A : Option Addr) (c : Nat) (w : World) (hA : Rd w A (fl [x2, x1])) : Calls Try.prog 9 #[.slice A 2 c, .int .i64 0] w fun e w' => e = .returned (.tuple #[.agg #[.int .i64 1, .bool true, .bool false, .int .i64 0, .int .i64 0, .int .i64 5, .slice none 0 0, .slice none 0 0, .int .i64 0, .slice none 0 0, .slice none 0 0], .bool true]) ∧ Below w.heap.size w w' :=
  pick9 A c [x2, x1] 0 w (by simp) hA

theorem w_id (w : World) : Calls Try.prog 18 #[.agg #[.int .i64 2, .bool false, .bool true, .int .i64 0, .int .i64 0, .int .i64 0, .slice none 0 0, .slice none 0 0, .int .i64 0, .slice none 0 0, .slice none 0 0]] w fun e w' => e = .returned (.int .i64 2) ∧ Below w.heap.size w w' := id18 x2 w
theorem w_held4 (w : World) : Calls Try.prog 13 #[.agg #[.int .i64 1, .bool true, .bool false, .int .i64 0, .int .i64 0, .int .i64 5, .slice none 0 0, .slice none 0 0, .int .i64 0, .slice none 0 0, .slice none 0 0], .int .i64 4] w fun e w' => e = .returned (.bool true) ∧ Below w.heap.size w w' := held13 x1 4 w
theorem w_held5 (w : World) : Calls Try.prog 13 #[.agg #[.int .i64 1, .bool true, .bool false, .int .i64 0, .int .i64 0, .int .i64 5, .slice none 0 0, .slice none 0 0, .int .i64 0, .slice none 0 0, .slice none 0 0], .int .i64 5] w fun e w' => e = .returned (.bool false) ∧ Below w.heap.size w w' := held13 x1 5 w
theorem w_hold (w : World) : Calls Try.prog 14 #[.agg #[.int .i64 1, .bool true, .bool false, .int .i64 0, .int .i64 0, .int .i64 5, .slice none 0 0, .slice none 0 0, .int .i64 0, .slice none 0 0, .slice none 0 0], .int .i64 4] w fun e w' => e = .returned (.int .i64 14) ∧ Below w.heap.size w w' := hold14 x1 4 w

set_option maxRecDepth 100000 in
set_option maxHeartbeats 8000000 in
theorem works8 (w : World) : Calls Try.prog 8 #[] w fun e w' => e = .returned (.bool true) ∧ Below w.heap.size w w' := by
  go_enter Try.func8, Try.ntmps8
  go_upto_region 2 with (go_at_call 21; refine (w_put0 _).mono ?_; rintro e w1 ⟨A1, k1, rfl, hR1, hb1⟩)
  refine gen_world (G := fun W => Code.wp _ _ _ _ W) (I := fun W => Below w.heap.size w W ∧ w1.heap.size < W.heap.size ∧ w.heap.size ≤ w1.heap.size ∧ W.cell? ⟨w1.heap.size, 0, none⟩ = some (.slice A1 0 k1) ∧ W.cell? ⟨w1.heap.size, 1, none⟩ = some (.bool true) ∧ W.cell? ⟨w1.heap.size, 2, none⟩ = some (.bool true) ∧ W.cell? ⟨w1.heap.size, 3, none⟩ = some (.bool false)) ⟨?_, ?_, ?_, ?_, ?_, ?_, ?_⟩ ?_
  · (have := hb1.size); ((repeat (first | (with_reducible refine bs ?_ (by simp) _) | (with_reducible refine bdr ?_) | (with_reducible refine ba ?_ _)))); exact hb1
  · simp
  · exact hb1.size
  · simp [go_sem]
  · simp [go_sem]
  · simp [go_sem]
  · simp [go_sem]
  clear hR1 hb1
  generalize w1.heap.size = B1
  rintro W1 ⟨HB1, hs1, hw1, p0, p1, p2, p3⟩
  have Hb1 := Lib.hid HB1
  clear HB1
  go_upto_region 3 with (go_at_call 23; refine (w_app1 _ _ _).mono ?_; rintro e w2 ⟨A2, k2, rfl, hk2, hz2, hR2, hb2⟩)
  have Hb2 : Hid (Below w.heap.size w w2) := bt Hb1.out hb2
  have q2 := ((bcell hb2).1 _ _ hs1).trans p2
  have hs2 := Nat.lt_of_lt_of_le hs1 hb2.size
  have HR2 : Hid (Rd w2 A2 (fl [x1])) := hR2
  clear hb2 p0 p1 p2 p3 hs1 Hb1 hR2 hz2 hk2
  go_upto_region 4 with (go_at_call 21; refine (w_put1 _ _ _ HR2.out).mono ?_; rintro e w3 ⟨A3, k3, rfl, hR3, hb3⟩)
  refine gen_world (G := fun W => Code.wp _ _ _ _ W) (I := fun W => Below w.heap.size w W ∧ B1 < W.heap.size ∧ W.cell? ⟨B1, 2, none⟩ = some (.bool true) ∧ Rd W A2 (fl [x1])) ⟨?_, ?_, ?_, ?_⟩ ?_
  · (have := hb3.size); (have := Hb2.out.size); ((repeat (first | (with_reducible refine bs ?_ (by simp) _) | (with_reducible refine bdr ?_) | (with_reducible refine ba ?_ _)))); exact bt Hb2.out hb3
  · (have := hb3.size); simp <;> omega
  · (have h := ((bcell hb3).1 _ _ hs2).trans q2); (have hz : B1 < w3.heap.size := Nat.lt_of_lt_of_le hs2 hb3.size); (have hz' : B1 ≠ w3.heap.size := by omega); simp [go_sem, h, hz, hz']
  · refine HR2.out.below ?_; (have := hb3.size); ((repeat (first | (with_reducible refine bs ?_ (by simp) _) | (with_reducible refine bdr ?_) | (with_reducible refine ba ?_ _)))); exact hb3
  clear hR3 hb3 q2 hs2 HR2 Hb2
  rintro W3 ⟨HB3, hs3, q3, hR3⟩
  have Hb3 := Lib.hid HB3
  have HR3 := Lib.hid hR3
  clear HB3 hR3
  go_upto_region 5 with (go_at_call 22; refine (w_del _ _ _ HR3.out).mono ?_; rintro e w4 ⟨A4, k4, rfl, hR4, hb4⟩)
  refine gen_world (G := fun W => Code.wp _ _ _ _ W) (I := fun W => Below w.heap.size w W ∧ B1 < W.heap.size ∧ w4.heap.size < W.heap.size ∧ W.cell? ⟨B1, 2, none⟩ = some (.bool true) ∧ Rd W A2 (fl [x1]) ∧ W.cell? ⟨w4.heap.size, 0, none⟩ = some (.slice A4 0 k4) ∧ W.cell? ⟨w4.heap.size, 1, none⟩ = some (.bool true) ∧ W.cell? ⟨w4.heap.size, 2, none⟩ = some (.bool false) ∧ W.cell? ⟨w4.heap.size, 3, none⟩ = some (.bool true)) ⟨?_, ?_, ?_, ?_, ?_, ?_, ?_, ?_, ?_⟩ ?_
  · (have := hb4.size); (have := Hb3.out.size); ((repeat (first | (with_reducible refine bs ?_ (by simp) _) | (with_reducible refine bdr ?_) | (with_reducible refine ba ?_ _)))); exact bt Hb3.out hb4
  · (have := hb4.size); simp <;> omega
  · simp
  · (have h := ((bcell hb4).1 _ _ hs3).trans q3); (have hz : B1 < w4.heap.size := Nat.lt_of_lt_of_le hs3 hb4.size); (have hz' : B1 ≠ w4.heap.size := by omega); simp [go_sem, h, hz, hz']
  · refine HR3.out.below ?_; (have := hb4.size); ((repeat (first | (with_reducible refine bs ?_ (by simp) _) | (with_reducible refine bdr ?_) | (with_reducible refine ba ?_ _)))); exact hb4
  · simp [go_sem]
  · simp [go_sem]
  · simp [go_sem]
  · simp [go_sem]
  clear hR4 hb4 q3 hs3 HR3 Hb3
  generalize w4.heap.size = B6
  rintro W4 ⟨HB4, hs4, hs5, q4, hR4, r0, r1, r2, r3⟩
  have Hb4 := Lib.hid HB4
  have HR4 := Lib.hid hR4
  clear HB4 hR4
  go_upto_region 6 with (go_at_call 23; refine (w_app2 _ _ _ _ _ HR4.out).mono ?_; rintro e w5 ⟨A5, k5, rfl, hk5, hz5, hR5, hb5⟩)
  have Hb5 : Hid (Below w.heap.size w w5) := bt Hb4.out hb5
  have q5 := ((bcell hb5).1 _ _ hs4).trans q4
  have r5 := ((bcell hb5).1 _ _ hs5).trans r3
  have t4 := Nat.lt_of_lt_of_le hs4 hb5.size
  have t5 := Nat.lt_of_lt_of_le hs5 hb5.size
  have HR5 : Hid (Rd w5 A5 (fl [x2, x1])) := hR5
  clear hb5 q4 r0 r1 r2 r3 hs4 hs5 Hb4 HR4 hR5 hz5 hk5
  go_upto_region 7 with (go_at_call 12; refine (w_there _ _ _ HR5.out).mono ?_; rintro e w6 ⟨rfl, hb6⟩)
  refine gen_world (G := fun W => Code.wp _ _ _ _ W) (I := fun W => Below w.heap.size w W ∧ B1 < W.heap.size ∧ B6 < W.heap.size ∧ W.cell? ⟨B1, 2, none⟩ = some (.bool true) ∧ W.cell? ⟨B6, 3, none⟩ = some (.bool true) ∧ Rd W A5 (fl [x2, x1])) ⟨?_, ?_, ?_, ?_, ?_, ?_⟩ ?_
  · (have := hb6.size); (have := Hb5.out.size); ((repeat (first | (with_reducible refine bs ?_ (by simp) _) | (with_reducible refine bdr ?_) | (with_reducible refine ba ?_ _)))); exact bt Hb5.out hb6
  · (have := hb6.size); simp <;> omega
  · (have := hb6.size); simp <;> omega
  · (have h := ((bcell hb6).1 _ _ t4).trans q5); (have hz : B1 < w6.heap.size := Nat.lt_of_lt_of_le t4 hb6.size); (have hz' : B1 ≠ w6.heap.size := by omega); simp [go_sem, h, hz, hz']
  · (have h := ((bcell hb6).1 _ _ t5).trans r5); (have hz : B6 < w6.heap.size := Nat.lt_of_lt_of_le t5 hb6.size); (have hz' : B6 ≠ w6.heap.size := by omega); simp [go_sem, h, hz, hz']
  · refine HR5.out.below ?_; (have := hb6.size); ((repeat (first | (with_reducible refine bs ?_ (by simp) _) | (with_reducible refine bdr ?_) | (with_reducible refine ba ?_ _)))); exact hb6
  clear hb6 q5 r5 t4 t5 HR5 Hb5
  rintro W6 ⟨HB6, u6, v6, q6, r6, hR6⟩
  have Hb6 := Lib.hid HB6
  have HR5 := Lib.hid hR6
  clear HB6 hR6
  go_upto_region 8 with (go_at_call 9; refine (w_pick _ _ _ HR5.out).mono ?_; rintro e w7 ⟨rfl, hb7⟩)
  refine gen_world (G := fun W => Code.wp _ _ _ _ W) (I := fun W => Below w.heap.size w W ∧ B1 < W.heap.size ∧ B6 < W.heap.size ∧ W.cell? ⟨B1, 2, none⟩ = some (.bool true) ∧ W.cell? ⟨B6, 3, none⟩ = some (.bool true) ∧ Rd W A5 (fl [x2, x1]) ∧ w7.heap.size < W.heap.size ∧ W.cell? ⟨w7.heap.size, 0, none⟩ = some (.int .i64 1) ∧ W.cell? ⟨w7.heap.size, 1, none⟩ = some (.bool true) ∧ W.cell? ⟨w7.heap.size, 2, none⟩ = some (.bool false) ∧ W.cell? ⟨w7.heap.size, 3, none⟩ = some (.int .i64 0) ∧ W.cell? ⟨w7.heap.size, 4, none⟩ = some (.int .i64 0) ∧ W.cell? ⟨w7.heap.size, 5, none⟩ = some (.int .i64 5) ∧ W.cell? ⟨w7.heap.size, 6, none⟩ = some (.slice none 0 0) ∧ W.cell? ⟨w7.heap.size, 7, none⟩ = some (.slice none 0 0) ∧ W.cell? ⟨w7.heap.size, 8, none⟩ = some (.int .i64 0) ∧ W.cell? ⟨w7.heap.size, 9, none⟩ = some (.slice none 0 0) ∧ W.cell? ⟨w7.heap.size, 10, none⟩ = some (.slice none 0 0)) ⟨?_, ?_, ?_, ?_, ?_, ?_, ?_, ?_, ?_, ?_, ?_, ?_, ?_, ?_, ?_, ?_, ?_, ?_⟩ ?_
  · (have := hb7.size); (have := Hb6.out.size); ((repeat (first | (with_reducible refine bs ?_ (by simp) _) | (with_reducible refine bdr ?_) | (with_reducible refine ba ?_ _)))); exact bt Hb6.out hb7
  · (have := hb7.size); simp <;> omega
  · (have := hb7.size); simp <;> omega
  · (have h := ((bcell hb7).1 _ _ u6).trans q6); (have hz : B1 < w7.heap.size := Nat.lt_of_lt_of_le u6 hb7.size); (have hz' : B1 ≠ w7.heap.size := by omega); simp [go_sem, h, hz, hz']
  · (have h := ((bcell hb7).1 _ _ v6).trans r6); (have hz : B6 < w7.heap.size := Nat.lt_of_lt_of_le v6 hb7.size); (have hz' : B6 ≠ w7.heap.size := by omega); simp [go_sem, h, hz, hz']
  · refine HR5.out.below ?_; (have := hb7.size); ((repeat (first | (with_reducible refine bs ?_ (by simp) _) | (with_reducible refine bdr ?_) | (with_reducible refine ba ?_ _)))); exact hb7
  · simp
  · simp [go_sem]
  · simp [go_sem]
  · simp [go_sem]
  · simp [go_sem]
  · simp [go_sem]
  · simp [go_sem]
  · simp [go_sem]
  · simp [go_sem]
  · simp [go_sem]
  · simp [go_sem]
  · simp [go_sem]
  clear hb7 q6 r6 u6 v6 HR5 Hb6
  generalize w7.heap.size = B11
  rintro W7 ⟨HB7, u7, v7, q7, r7, hR7, hs7, s0, s1, s2, s3, s4, s5, s6, s7, s8, s9, s10⟩
  have Hb7 := Lib.hid HB7
  clear HB7
  obtain ⟨b, o, rfl, hbl, hcv⟩ := hR7.ver (l := [x2, x1]) 0 (by simp)
  obtain ⟨e0, e1, e2, e3, e4, e5, e6, e7, e8, e9, e10⟩ := ver_cells (v := x2) (o := o) (fun i u hu => by have := hcv i u (by simpa using hu); simpa using this)
  clear hcv hR7
  simp only [x2] at e0 e1 e2 e3 e4 e5 e6 e7 e8 e9 e10
  go_wp2_with (first | (go_at_call 18; refine (w_id _).mono ?_; rintro e w8 ⟨rfl, hb8⟩; obtain ⟨hc8, hf8⟩ := bcell hb8; have Hb8 := Lib.hid hb8; clear hb8 hf8; have hs8 := Nat.lt_of_lt_of_le hs7 Hb8.out.size) | (go_at_call 14; refine (w_hold _).mono ?_; rintro e w11 ⟨rfl, hb11⟩; have Hb11 := Lib.hid hb11; clear hb11) | (go_at_call 16; refine (turn16 _ _ _).mono ?_; rintro e w12 ⟨rfl, hb12⟩; have Hb12 := Lib.hid hb12; clear hb12) | (go_at_call 13; refine (w_held4 _).mono ?_; rintro e w9 ⟨rfl, hb9⟩; obtain ⟨hc9, hf9⟩ := bcell hb9; have Hb9 := Lib.hid hb9; clear hb9 hf9; have hs9 := Nat.lt_of_lt_of_le hs8 Hb9.out.size) | (go_at_call 13; refine (w_held5 _).mono ?_; rintro e w10 ⟨rfl, hb10⟩; obtain ⟨hc10, hf10⟩ := bcell hb10; have Hb10 := Lib.hid hb10; clear hb10 hf10; have hs10 := Nat.lt_of_lt_of_le hs9 Hb10.out.size))
  go_ret
  exact ⟨rfl, bt (bt (bt (bt (bt Hb7.out Hb8.out) Hb9.out) Hb10.out) Hb11.out) Hb12.out⟩

end Go.Proofs.Ytmaaekahkeibnaa
