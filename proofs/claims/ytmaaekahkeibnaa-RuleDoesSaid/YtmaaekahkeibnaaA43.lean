/- RuleDoes: more cases of its walk. -/
import Derived.Test.YtmaaekahkeibnaaA34
namespace Go.Proofs.Ytmaaekahkeibnaa
open Go.RowKit
set_option linter.unusedSimpArgs false

set_option maxRecDepth 100000 in
set_option maxHeartbeats 8000000 in
theorem does5_001 (A : Option Addr) (c n : Nat) (s st id now : Int) (w : World) (gP gD gM rP rD rM : List Ver) (cP nP cD nD mD : Bool) (kP kD kM : Int)
    (q7 : Hid (Calls Try.prog 7 #[.slice A n c] w fun e w' => e = .returned (.bool true) ∧ Below w.heap.size w w'))
    (q20 : Hid (∀ W, Below w.heap.size w W → Calls Try.prog 20 #[.slice A n c] W fun e w' => e = .returned (.agg #[.int .i64 s, .bool false, .bool false, .int .i64 0, .int .i64 0, .int .i64 0, .slice none 0 0, .slice none 0 0, .int .i64 0, .slice none 0 0, .slice none 0 0]) ∧ Below W.heap.size W w'))
    (q21 : Hid (∀ W, Below w.heap.size w W → Calls Try.prog 21 #[.slice A n c, .int .i64 st, .int .i64 now] W (PlanRes W gP cP nP false kP)))
    (q22 : Hid (∀ W, Below w.heap.size w W → Calls Try.prog 22 #[.slice A n c, .int .i64 st, .int .i64 now] W (PlanRes W gD cD nD mD kD)))
    (q27 : Hid (∀ W, Below w.heap.size w W → Calls Try.prog 27 #[.slice A n c, .int .i64 id, .int .i64 now] W (PlanRes W gM false false false kM)))
    (q25 : Hid (∀ W, Below w.heap.size w W → Calls Try.prog 25 #[.slice A n c, .int .i64 st, .int .i64 now, .agg #[.int .i64 s, .bool false, .bool false, .int .i64 0, .int .i64 0, .int .i64 0, .slice none 0 0, .slice none 0 0, .int .i64 0, .slice none 0 0, .slice none 0 0]] W (RowRes W rP kP)))
    (q26 : Hid (∀ W, Below w.heap.size w W → Calls Try.prog 26 #[.slice A n c, .int .i64 st, .int .i64 now, .agg #[.int .i64 s, .bool false, .bool false, .int .i64 0, .int .i64 0, .int .i64 0, .slice none 0 0, .slice none 0 0, .int .i64 0, .slice none 0 0, .slice none 0 0]] W (RowRes3 W rD cD kD)))
    (q28 : Hid (∀ W, Below w.heap.size w W → Calls Try.prog 28 #[.slice A n c, .int .i64 id, .int .i64 now] W (RowRes W rM kM)))
    (hP : kP ≠ 0)
    (hD : kD ≠ 0)
    (q23M : Hid (∀ G k W, Below w.heap.size w W → Rd W G (fl gM) → Calls Try.prog 23 #[.slice A n c, .agg #[.slice G gM.length k, .bool false, .bool false, .bool false], .agg #[.int .i64 s, .bool false, .bool false, .int .i64 0, .int .i64 0, .int .i64 0, .slice none 0 0, .slice none 0 0, .int .i64 0, .slice none 0 0, .slice none 0 0]] W (ListRes W rM)))
    (q24M : Hid (∀ G G' k k' W, Below w.heap.size w W → Rd W G (fl rM) → Rd W G' (fl rM) → Calls Try.prog 24 #[.slice G rM.length k, .slice G' rM.length k'] W fun e w' => e = .returned (.bool true) ∧ Below W.heap.size W w'))
    (hM : kM = 0)
    : Calls Try.prog 5 #[.slice A n c, .int .i64 st, .int .i64 id, .int .i64 now] w fun e w' => e = .returned (.bool true) ∧ Below w.heap.size w w' := by
  have hPa : (kP == 0) = false := by simpa using hP
  have hPb : (kP != 0) = true := by simpa using hP
  have hPc : (kP != kP) = false := by simp
  have hPd : (kP == kP) = true := by simp
  clear hP
  have hDa : (kD == 0) = false := by simpa using hD
  have hDb : (kD != 0) = true := by simpa using hD
  have hDc : (kD != kD) = false := by simp
  have hDd : (kD == kD) = true := by simp
  clear hD
  subst hM
  have hcD : (cD != cD) = false := by simp
  go_enter Try.func5, Try.ntmps5
  go_upto_region 4 with (first | (go_at_call 7; refine (q7.out).mono ?_; rintro e w1 ⟨rfl, hb1⟩; have Hb1 := Lib.hid hb1; clear hb1) | (go_at_call 20; refine (q20.out _ Hb1.out).mono ?_; rintro e w2 ⟨rfl, hb2⟩; have Hb2 : Hid (Below w.heap.size w w2) := bt Hb1.out hb2; clear hb2))
  refine gen_world (G := fun W => Code.wp _ _ _ _ W) (I := fun W => Below w.heap.size w W ∧ At W w2.heap.size (behindV s)) ⟨?_, ?_⟩ ?_
  · have := Hb2.out.size
    (repeat (first | (with_reducible refine bs ?_ (by simp) _) | (with_reducible refine bdr ?_) | (with_reducible refine ba ?_ _)))
    exact Hb2.out
  · apply At.mk <;> simp [go_sem, behindV]
  generalize w2.heap.size = B9
  rintro W ⟨hb, ht⟩
  have Hb := Lib.hid hb
  have Ht := Lib.hid ht
  clear hb ht
  go_upto_region 5 with (go_at_call 21; refine (q21.out _ Hb.out).mono ?_; rintro e w4 ⟨A4, k4, rfl, hR4, hb4⟩; have Hb4 : Hid (Below w.heap.size w w4) := bt Hb.out hb4; have Ht4 : Hid (At w4 B9 (behindV s)) := Ht.out.below hb4; have Hr4 : Hid (Rd w4 A4 (fl gP)) := hR4.rd; clear hb4 hR4)
  refine gen_world (G := fun W => Code.wp _ _ _ _ W) (I := fun W => Below w.heap.size w W ∧ At W B9 (behindV s) ∧ PlG W w4.heap.size A4 gP.length k4 cP nP false ∧ Rd W A4 (fl gP)) ⟨?_, ?_, ?_, ?_⟩ ?_
  · have := Hb4.out.size
    (repeat (first | (with_reducible refine bs ?_ (by simp) _) | (with_reducible refine bdr ?_) | (with_reducible refine ba ?_ _)))
    exact Hb4.out
  · refine Ht4.out.below ?_
    (repeat (first | (with_reducible refine bs ?_ (by simp) _) | (with_reducible refine bdr ?_) | (with_reducible refine ba ?_ _)))
    exact b0 _
  · refine ⟨?_, ?_, ?_, ?_⟩ <;> simp [go_sem]
  · refine Hr4.out.below ?_
    (repeat (first | (with_reducible refine bs ?_ (by simp) _) | (with_reducible refine bdr ?_) | (with_reducible refine ba ?_ _)))
    exact b0 _
  clear Hb Ht Hb4 Ht4 Hr4
  generalize w4.heap.size = B10
  rintro W ⟨hb, ht, hp, hq⟩
  have Hb := Lib.hid hb
  have Ht := Lib.hid ht
  have Hp := Lib.hid hp
  have Hq := Lib.hid hq
  clear hb ht hp hq
  obtain ⟨g0, g1, g2, g3, g4, g5, g6, g7, g8, g9, g10⟩ := Ht.out.all
  simp only [behindV] at g0 g1 g2 g3 g4 g5 g6 g7 g8 g9 g10
  go_upto_region 6 with (go_at_call 25; refine (q25.out _ Hb.out).mono ?_; rintro e w6 ⟨A6, k6, rfl, _, hr6, hb6⟩; have Hb6 : Hid (Below w.heap.size w w6) := bt Hb.out hb6; have Ht6 : Hid (At w6 B9 (behindV s)) := Ht.out.below hb6; have Hr6 := Lib.hid hr6; have Hq6 := Lib.hid (Hq.out.below hb6); have Hp6 := Lib.hid (Hp.out.below hb6); clear hb6 hr6)
  clear g0 g1 g2 g3 g4 g5 g6 g7 g8 g9 g10
  clear Hb Ht Hp Hq
  have Hb := Hb6
  have Ht := Ht6
  have Hp := Hp6
  have Hq := Hq6
  clear Hb6 Ht6 Hp6 Hq6
  obtain ⟨i0, i1, i2, i3⟩ := Hp.out
  go_upto_region 8 with (fail)
  clear  i0 i1 i2 i3
  clear Hp Hq Hr6
  go_upto_region 9 with (go_at_call 22; refine (q22.out _ Hb.out).mono ?_; rintro e w4 ⟨A4, k4, rfl, hR4, hb4⟩; have Hb4 : Hid (Below w.heap.size w w4) := bt Hb.out hb4; have Ht4 : Hid (At w4 B9 (behindV s)) := Ht.out.below hb4; have Hr4 : Hid (Rd w4 A4 (fl gD)) := hR4.rd; clear hb4 hR4)
  refine gen_world (G := fun W => Code.wp _ _ _ _ W) (I := fun W => Below w.heap.size w W ∧ At W B9 (behindV s) ∧ PlG W w4.heap.size A4 gD.length k4 cD nD mD ∧ Rd W A4 (fl gD)) ⟨?_, ?_, ?_, ?_⟩ ?_
  · have := Hb4.out.size
    (repeat (first | (with_reducible refine bs ?_ (by simp) _) | (with_reducible refine bdr ?_) | (with_reducible refine ba ?_ _)))
    exact Hb4.out
  · refine Ht4.out.below ?_
    (repeat (first | (with_reducible refine bs ?_ (by simp) _) | (with_reducible refine bdr ?_) | (with_reducible refine ba ?_ _)))
    exact b0 _
  · refine ⟨?_, ?_, ?_, ?_⟩ <;> simp [go_sem]
  · refine Hr4.out.below ?_
    (repeat (first | (with_reducible refine bs ?_ (by simp) _) | (with_reducible refine bdr ?_) | (with_reducible refine ba ?_ _)))
    exact b0 _
  clear Hb Ht Hb4 Ht4 Hr4
  generalize w4.heap.size = B14
  rintro W ⟨hb, ht, hp, hq⟩
  have Hb := Lib.hid hb
  have Ht := Lib.hid ht
  have Hp := Lib.hid hp
  have Hq := Lib.hid hq
  clear hb ht hp hq
  obtain ⟨g0, g1, g2, g3, g4, g5, g6, g7, g8, g9, g10⟩ := Ht.out.all
  simp only [behindV] at g0 g1 g2 g3 g4 g5 g6 g7 g8 g9 g10
  go_upto_region 10 with (go_at_call 26; refine (q26.out _ Hb.out).mono ?_; rintro e w6 ⟨A6, k6, rfl, _, hr6, hb6⟩; have Hb6 : Hid (Below w.heap.size w w6) := bt Hb.out hb6; have Ht6 : Hid (At w6 B9 (behindV s)) := Ht.out.below hb6; have Hr6 := Lib.hid hr6; have Hq6 := Lib.hid (Hq.out.below hb6); have Hp6 := Lib.hid (Hp.out.below hb6); clear hb6 hr6)
  clear g0 g1 g2 g3 g4 g5 g6 g7 g8 g9 g10
  clear Hb Ht Hp Hq
  have Hb := Hb6
  have Ht := Ht6
  have Hp := Hp6
  have Hq := Hq6
  clear Hb6 Ht6 Hp6 Hq6
  obtain ⟨i0, i1, i2, i3⟩ := Hp.out
  go_upto_region 12 with (fail)
  clear  i0 i1 i2 i3
  clear Hp Hq Hr6
  go_upto_region 13 with (go_at_call 27; refine (q27.out _ Hb.out).mono ?_; rintro e w4 ⟨A4, k4, rfl, hR4, hb4⟩; have Hb4 : Hid (Below w.heap.size w w4) := bt Hb.out hb4; have Ht4 : Hid (At w4 B9 (behindV s)) := Ht.out.below hb4; have Hr4 : Hid (Rd w4 A4 (fl gM)) := hR4.rd; clear hb4 hR4)
  refine gen_world (G := fun W => Code.wp _ _ _ _ W) (I := fun W => Below w.heap.size w W ∧ At W B9 (behindV s) ∧ PlG W w4.heap.size A4 gM.length k4 false false false ∧ Rd W A4 (fl gM)) ⟨?_, ?_, ?_, ?_⟩ ?_
  · have := Hb4.out.size
    (repeat (first | (with_reducible refine bs ?_ (by simp) _) | (with_reducible refine bdr ?_) | (with_reducible refine ba ?_ _)))
    exact Hb4.out
  · refine Ht4.out.below ?_
    (repeat (first | (with_reducible refine bs ?_ (by simp) _) | (with_reducible refine bdr ?_) | (with_reducible refine ba ?_ _)))
    exact b0 _
  · refine ⟨?_, ?_, ?_, ?_⟩ <;> simp [go_sem]
  · refine Hr4.out.below ?_
    (repeat (first | (with_reducible refine bs ?_ (by simp) _) | (with_reducible refine bdr ?_) | (with_reducible refine ba ?_ _)))
    exact b0 _
  clear Hb Ht Hb4 Ht4 Hr4
  generalize w4.heap.size = B19
  rintro W ⟨hb, ht, hp, hq⟩
  have Hb := Lib.hid hb
  have Ht := Lib.hid ht
  have Hp := Lib.hid hp
  have Hq := Lib.hid hq
  clear hb ht hp hq
  go_upto_region 14 with (go_at_call 28; refine (q28.out _ Hb.out).mono ?_; rintro e w6 ⟨A6, k6, rfl, _, hr6, hb6⟩; have Hb6 : Hid (Below w.heap.size w w6) := bt Hb.out hb6; have Ht6 : Hid (At w6 B9 (behindV s)) := Ht.out.below hb6; have Hr6 := Lib.hid hr6; have Hq6 := Lib.hid (Hq.out.below hb6); have Hp6 := Lib.hid (Hp.out.below hb6); clear hb6 hr6)
  clear Hb Ht Hp Hq
  have Hb := Hb6
  have Ht := Ht6
  have Hp := Hp6
  have Hq := Hq6
  clear Hb6 Ht6 Hp6 Hq6
  obtain ⟨g0, g1, g2, g3, g4, g5, g6, g7, g8, g9, g10⟩ := Ht.out.all
  simp only [behindV] at g0 g1 g2 g3 g4 g5 g6 g7 g8 g9 g10
  obtain ⟨i0, i1, i2, i3⟩ := Hp.out
  go_wp2_with (first | (go_at_call 23; refine (q23M.out _ _ _ Hb.out Hq.out).mono ?_; rintro e w7 ⟨A7, k7, rfl, _, _, hr7, hb7⟩; have Hb7 : Hid (Below w.heap.size w w7) := bt Hb.out hb7; have Ht7 : Hid (At w7 B9 (behindV s)) := Ht.out.below hb7; have Hr7 := Lib.hid hr7; have Hs7 := Lib.hid (Hr6.out.below hb7); have Hp7 := Lib.hid (Hp.out.below hb7); obtain ⟨j0, j1, j2, j3⟩ := Hp7.out; clear hb7 hr7) | (go_at_call 24; refine (q24M.out _ _ _ _ _ Hb7.out Hr7.out Hs7.out).mono ?_; rintro e w8 ⟨rfl, hb8⟩; have Hb8 : Hid (Below w.heap.size w w8) := bt Hb7.out hb8; have Ht8 : Hid (At w8 B9 (behindV s)) := Ht7.out.below hb8; have Hp8 := Lib.hid (Hp7.out.below hb8); obtain ⟨m0, m1, m2, m3⟩ := Hp8.out; clear hb8) | (go_at_call 8; refine (works8 _).mono ?_; rintro e w9 ⟨rfl, hb9⟩; have Hb9 : Hid (Below w.heap.size w w9) := bt Hb8.out hb9; clear hb9))
  go_ret
  exact ⟨rfl, Hb9.out⟩

end Go.Proofs.Ytmaaekahkeibnaa
