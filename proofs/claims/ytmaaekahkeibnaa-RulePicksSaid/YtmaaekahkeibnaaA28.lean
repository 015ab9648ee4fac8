/- RulePicks: one case of its walk. -/
import Derived.Test.YtmaaekahkeibnaaA23
namespace Go.Proofs.Ytmaaekahkeibnaa
open Go.RowKit
set_option linter.unusedSimpArgs false

set_option maxRecDepth 100000 in
set_option maxHeartbeats 8000000 in
theorem picks3_none_live (A : Option Addr) (c : Nat) (z : Ver) (t : List Ver) (id now untl fr tt : Int) (w : World) (hA : Rd w A (fl (z :: t))) (hg : ∀ v ∈ (z :: t), v.good w) (hr : Right (z :: t)) (hm : z.mark = false) (hp : pk (z :: t) id = none) (hf : findI (z :: t) id = -1) :
    Calls Try.prog 3 #[.slice A (t.length + 1) c, .int .i64 id, .int .i64 now, .int .i64 untl, .int .i64 fr, .int .i64 tt] w fun e w' => e = .returned (.bool true) ∧ Below w.heap.size w w' := by
  have hl : (z :: t).length ≤ 31 := Nat.le_succ_of_le hr.1
  have q7 := Lib.hid (right7a A c (z :: t) w hA)
  simp only [hr, decide_true] at q7
  have q9 := Lib.hid (fun W (hb : Below w.heap.size w W) => pick9 A c (z :: t) id W hl (hA.below hb))
  have q10 := Lib.hid (fun W (hb : Below w.heap.size w W) => find10 A c (z :: t) id W hl (hA.below hb))
  have q12 := Lib.hid (fun W (hb : Below w.heap.size w W) => there12 A c (z :: t) W hl (hA.below hb))
  have hv : pkV (z :: t) id = zv := by simp [pkV, hp]
  rw [hv, hp] at q9
  rw [hf] at q10
  simp only [Option.isSome_none] at q9
  clear hp hf hv
  simp only [zv, Ver.agg, Ver.cells] at q9
  have e12 : thereB (z :: t) = true := by simp [thereB, hm]
  rw [e12] at q12
  have d12 : pkV (z :: t) (-1) = z := rfl
  rw [d12] at q12
  have Hz : Hid (∀ W, Below w.heap.size w W → ∃ b o, A = some ⟨b, o, none⟩ ∧ b < W.heap.size ∧ ∀ i u, (z.cells)[i]? = some u → W.cell? ⟨b, o + 0 * 11 + i, none⟩ = some u) := fun W hb => (hA.below hb).ver (l := z :: t) 0 (by simp)
  have qz := Lib.hid (fun W (hb : Below w.heap.size w W) => same11 w z z (hg _ (by simp)) (hg _ (by simp)) W hb)
  rw [sameVer_self] at qz
  clear e12 d12
  clear hA hg hr
  simp only [List.length_cons] at q7 q9 q10 q12 hl
  generalize t.length = m at *
  obtain ⟨z0, z1, z2, z3, z4, z5, ⟨i6, j6, k6⟩, ⟨i7, j7, k7⟩, z8, ⟨i9, j9, k9⟩, ⟨i10, j10, k10⟩⟩ := z
  simp only at hm
  subst hm
  simp only [Ver.agg, Ver.cells] at q12 qz Hz
  have x13 : Hid (∀ W, Calls Try.prog 13 #[.agg #[.int .i64 0, .bool false, .bool false, .int .i64 0, .int .i64 0, .int .i64 0, .slice none 0 0, .slice none 0 0, .int .i64 0, .slice none 0 0, .slice none 0 0], .int .i64 now] W fun e w' => e = .returned (.bool (decide (now < 0))) ∧ Below W.heap.size W w') := held13 zv now
  have x14 := Lib.hid (hold14 zv untl)
  have x15 := Lib.hid (hold15 zv untl)
  have x18 := Lib.hid (id18 zv)
  have x19 := Lib.hid (id19 zv)
  generalize holdC zv untl = hC at *
  generalize Ver.idOf zv = hI at *
  simp only [Ver.agg, Ver.cells, zv] at x13 x14 x15 x18 x19
  go_enter Try.func3, Try.ntmps3
  go_upto_region 4 with (first | (go_at_call 7; refine (q7.out).mono ?_; rintro e w1 ⟨rfl, hb1⟩; have Hb1 := Lib.hid hb1; clear hb1) | (go_at_call 9; refine (q9.out _ Hb1.out).mono ?_; rintro e w2 ⟨rfl, hb2⟩; have Hb2 : Hid (Below w.heap.size w w2) := bt Hb1.out hb2; clear hb2))
  refine gen_world (G := fun W => Code.wp _ _ _ _ W) (I := fun W => Below w.heap.size w W ∧ At W w2.heap.size zv) ⟨?_, ?_⟩ ?_
  · have := Hb2.out.size
    (repeat (first | (with_reducible refine bs ?_ (by simp) _) | (with_reducible refine bdr ?_) | (with_reducible refine ba ?_ _)))
    exact Hb2.out
  · apply At.mk <;> simp [go_sem, zv]
  generalize w2.heap.size = B13
  rintro W4 ⟨HB4, HT4⟩
  have Hb4 := Lib.hid HB4
  have Ht4 := Lib.hid HT4
  clear HB4 HT4
  go_upto_region 5 with (go_at_call 10; refine (q10.out _ Hb4.out).mono ?_; rintro e w5 ⟨rfl, hb5⟩; have Hb5 : Hid (Below w.heap.size w w5) := bt Hb4.out hb5; have Ht5 : Hid (At w5 B13 zv) := Ht4.out.below hb5; clear hb5)
  refine wp_region_below (by kernel_rfl) (by kernel_rfl) ?_
  repeat (first | go_big_quiet_skip | (go_big_quiet_want; apply Exists.intro; refine ⟨fun W hW => ?_, ?_⟩; (obtain ⟨hcW, hfW⟩ := bcell hW.out; go_simp; first | exact rfl | exact ⟨rfl, rfl⟩); go_big_quiet_on; go_simp))
  refine wpQuiet_nil ?_
  intro W6 hb6
  have Hb6 : Hid (Below w.heap.size w W6) := bt Hb5.out hb6.out
  have Ht6 : Hid (At W6 B13 zv) := Ht5.out.below hb6.out
  clear hb6 Ht5 Hb5
  have x16 := Lib.hid (turn16 fr tt)
  have x17 := Lib.hid (turn17 fr tt)
  generalize turnC fr tt = hT at *
  go_upto_region 8 with (go_at_call 12; refine (q12.out _ Hb6.out).mono ?_; rintro e w7 ⟨rfl, hb7⟩; have Hb7 : Hid (Below w.heap.size w w7) := bt Hb6.out hb7; have Ht7 : Hid (At w7 B13 zv) := Ht6.out.below hb7; clear hb7)
  refine gen_world (G := fun W => Code.wp _ _ _ _ W) (I := fun W => Below w.heap.size w W ∧ At W B13 zv ∧ At W w7.heap.size ⟨z0, z1, false, z3, z4, z5, ⟨i6, j6, k6⟩, ⟨i7, j7, k7⟩, z8, ⟨i9, j9, k9⟩, ⟨i10, j10, k10⟩⟩) ⟨?_, ?_, ?_⟩ ?_
  · have := Hb7.out.size
    (repeat (first | (with_reducible refine bs ?_ (by simp) _) | (with_reducible refine bdr ?_) | (with_reducible refine ba ?_ _)))
    exact Hb7.out
  · refine Ht7.out.below ?_
    (repeat (first | (with_reducible refine bs ?_ (by simp) _) | (with_reducible refine bdr ?_) | (with_reducible refine ba ?_ _)))
    exact b0 _
  · apply At.mk <;> simp [go_sem, zv]
  generalize w7.heap.size = B16
  rintro W8 ⟨HB8, HT8, HS8⟩
  have Hb8 := Lib.hid HB8
  have Ht8 := Lib.hid HT8
  have Hs8 := Lib.hid HS8
  clear HB8 HT8 HS8
  obtain ⟨b', o', hbo, hbl, hcv⟩ := Hz.out _ Hb8.out
  subst hbo
  obtain ⟨e0, e1, e2, e3, e4, e5, e6, e7, e8, e9, e10⟩ := ver_cells (v := ⟨z0, z1, false, z3, z4, z5, ⟨i6, j6, k6⟩, ⟨i7, j7, k7⟩, z8, ⟨i9, j9, k9⟩, ⟨i10, j10, k10⟩⟩) hcv
  simp only [Nat.zero_mul, Nat.add_zero] at e0 e1 e2 e3 e4 e5 e6 e7 e8 e9 e10
  obtain ⟨g0, g1, g2, g3, g4, g5, g6, g7, g8, g9, g10⟩ := Hs8.out.all
  simp only at g0 g1 g2 g3 g4 g5 g6 g7 g8 g9 g10
  have hgl := Hs8.out.lt
  have hkz : (0 : Int) < (m : Int) + 1 := by omega
  have hkd : decide ((0 : Int) < (m : Int) + 1) = true := by simp <;> omega
  clear hcv
  refine wp_region_below (by kernel_rfl) (by kernel_rfl) ?_
  repeat (first | go_big_quiet_skip | (go_big_quiet_want; apply Exists.intro; refine ⟨fun W hW => ?_, ?_⟩; (obtain ⟨hcW, hfW⟩ := bcell hW.out; go_simp; first | exact rfl | exact ⟨rfl, rfl⟩ | exact q_call hW (qz.out _ (bt Hb8.out hW.out))); go_big_quiet_on; go_simp))
  refine wpQuiet_nil ?_
  intro W9 hb9
  have Hb9 : Hid (Below w.heap.size w W9) := bt Hb8.out hb9.out
  have Ht9 : Hid (At W9 B13 zv) := Ht8.out.below hb9.out
  clear hb9 Ht8 Hb8 Hs8 hkz hkd hbl e0 e1 e2 e3 e4 e5 e6 e7 e8 e9 e10 g0 g1 g2 g3 g4 g5 g6 g7 g8 g9 g10 hgl
  go_wp2
  obtain ⟨g0, g1, g2, g3, g4, g5, g6, g7, g8, g9, g10⟩ := Ht9.out.all
  simp only [zv] at g0 g1 g2 g3 g4 g5 g6 g7 g8 g9 g10
  have hgl := Ht9.out.lt
  have hDD : (decide (now < 0) == decide (now < 0)) = true := by simp
  have hCC : (hC == hC) = true := by simp
  have hTT : (hT == hT) = true := by simp
  have hII : (hI == hI) = true := by simp
  refine wp_region_below (by kernel_rfl) (by kernel_rfl) ?_
  repeat (first | go_big_quiet_skip | (go_big_quiet_want; apply Exists.intro; refine ⟨fun W hW => ?_, ?_⟩; (obtain ⟨hcW, hfW⟩ := bcell hW.out; go_simp; first | exact rfl | exact ⟨rfl, rfl⟩ | exact q_call hW (x13.out _) | exact q_call hW (x14.out _) | exact q_call hW (x15.out _) | exact q_call hW (x16.out _) | exact q_call hW (x17.out _) | exact q_call hW (x18.out _) | exact q_call hW (x19.out _) | exact q_call hW (works8 _)); go_big_quiet_on; go_simp))
  refine wpQuiet_nil ?_
  intro W10 hb10
  go_wp2
  go_ret
  exact ⟨by simp, bt Hb9.out hb10.out⟩

end Go.Proofs.Ytmaaekahkeibnaa
