/- RuleKeeps: what the statement's function answers. -/
import Derived.Test.YtmaaekahkeibnaaA45
import Derived.Deep.RegionHeld3
namespace Go.Proofs.Ytmaaekahkeibnaa
open Go.RowKit
set_option linter.unusedSimpArgs false

def AllOk (W : World) (g : Nat) (Ls : Nat → List Ver) : Prop := ∀ i, i < 3 → ∃ A k, W.cell? ⟨g, i, none⟩ = some (.slice A (Ls i).length k) ∧ Rd W A (fl (Ls i))
theorem AllOk.below {W W' : World} {g : Nat} {Ls : Nat → List Ver} (h : AllOk W g Ls) (hb : Below W.heap.size W W') : AllOk W' g Ls := by
  intro i hi
  obtain ⟨A, k, hc, hr⟩ := h i hi
  exact ⟨A, k, ((bcell hb).1 _ _ (World.block_lt_of_cell? W _ hc)).trans hc, hr.below hb⟩

theorem rdr {w : World} {A : Option Addr} {cs : List Value} (h : Rd w A cs) : Rd w.drew A cs := h.below (bdr (b0 _))
theorem ral {w : World} {A : Option Addr} {cs : List Value} (h : Rd w A cs) (o : Obj) : Rd (w.alloc o) A cs := h.below (ba (b0 _) o)

set_option maxRecDepth 100000 in
set_option maxHeartbeats 8000000 in
theorem keeps6_out (A : Option Addr) (c : Nat) (l : List Ver) (st id now : Int) (w : World) (hA : Rd w A (fl l)) (hr : ¬ Right l) :
    Calls Try.prog 6 #[.slice A l.length c, .int .u8 st, .int .i64 id, .int .i64 now] w fun e w' => e = .returned (.bool true) ∧ Below w.heap.size w w' := by
  have q7 := Lib.hid (right7a A c l w hA)
  simp only [hr, decide_false] at q7
  clear hA hr
  generalize l.length = n at *
  go_enter Try.func6, Try.ntmps6
  go_wp2_with (first | (go_at_call 7; refine (q7.out).mono ?_; rintro e w1 ⟨rfl, hb1⟩) | (go_at_call 8; refine (works8 _).mono ?_; rintro e w2 ⟨rfl, hb2⟩))
  go_ret
  exact ⟨rfl, bt hb1 hb2⟩

set_option maxRecDepth 100000 in
set_option maxHeartbeats 8000000 in
theorem keeps6_small (A : Option Addr) (c n : Nat) (s st id now : Int) (w : World) (hs : s < 1)
    (q7 : Hid (Calls Try.prog 7 #[.slice A n c] w fun e w' => e = .returned (.bool true) ∧ Below w.heap.size w w'))
    (q20 : Hid (∀ W, Below w.heap.size w W → Calls Try.prog 20 #[.slice A n c] W fun e w' => e = .returned (.agg #[.int .i64 s, .bool false, .bool false, .int .i64 0, .int .i64 0, .int .i64 0, .slice none 0 0, .slice none 0 0, .int .i64 0, .slice none 0 0, .slice none 0 0]) ∧ Below W.heap.size W w')) :
    Calls Try.prog 6 #[.slice A n c, .int .u8 st, .int .i64 id, .int .i64 now] w fun e w' => e = .returned (.bool true) ∧ Below w.heap.size w w' := by
  have hs1 : decide (s < 1) = true := by simpa using hs
  go_enter Try.func6, Try.ntmps6
  go_upto_region 4 with (first | (go_at_call 7; refine (q7.out).mono ?_; rintro e w1 ⟨rfl, hb1⟩; have Hb1 := Lib.hid hb1; clear hb1) | (go_at_call 20; refine (q20.out _ Hb1.out).mono ?_; rintro e w2 ⟨rfl, hb2⟩; have Hb2 : Hid (Below w.heap.size w w2) := bt Hb1.out hb2; clear hb2))
  refine gen_world (G := fun W => Code.wp _ _ _ _ W) (I := fun W => Below w.heap.size w W ∧ At W w2.heap.size (behindV s)) ⟨?_, ?_⟩ ?_
  · have := Hb2.out.size
    (repeat (first | (with_reducible refine bs ?_ (by simp) _) | (with_reducible refine bdr ?_) | (with_reducible refine ba ?_ _)))
    exact Hb2.out
  · apply At.mk <;> simp [go_sem, behindV]
  generalize w2.heap.size = B9
  rintro W ⟨hb, ht⟩
  have Hb := Lib.hid hb
  obtain ⟨g0, g1, g2, g3, g4, g5, g6, g7, g8, g9, g10⟩ := ht.all
  simp only [behindV] at g0 g1 g2 g3 g4 g5 g6 g7 g8 g9 g10
  clear hb ht g1 g2 g3 g4 g5 g6 g7 g8 g9 g10
  go_wp2_with (go_at_call 8; refine (works8 _).mono ?_; rintro e w3 ⟨rfl, hb3⟩)
  go_ret
  exact ⟨rfl, bt Hb.out hb3⟩

set_option maxRecDepth 100000 in
set_option maxHeartbeats 16000000 in
theorem keeps6_in (A : Option Addr) (c n : Nat) (l : List Ver) (s st id now : Int) (w : World) (gP gD gM : List Ver) (cP nP cD nD mD : Bool) (kP kD kM : Int) (Ls : Nat → List Ver)
    (hs : 1 ≤ s) (hst : 0 ≤ st) (hst2 : st ≤ 255) (hl : Hid (l.length = n)) (hn : n ≤ 30) (HA : Hid (Rd w A (fl l))) (Hg : Hid (∀ v ∈ l, v.good w))
    (HLl : Hid (∀ i, i < 3 → (Ls i).length ≤ 31)) (HLg : Hid (∀ i, i < 3 → ∀ v ∈ Ls i, v.good w)) (HH : Hid (∀ i, i < 3 → ∀ x ∈ l, now < x.untl → x ∈ Ls i))
    (q7 : Hid (Calls Try.prog 7 #[.slice A n c] w fun e w' => e = .returned (.bool true) ∧ Below w.heap.size w w'))
    (q20 : Hid (∀ W, Below w.heap.size w W → Calls Try.prog 20 #[.slice A n c] W fun e w' => e = .returned (.agg #[.int .i64 s, .bool false, .bool false, .int .i64 0, .int .i64 0, .int .i64 0, .slice none 0 0, .slice none 0 0, .int .i64 0, .slice none 0 0, .slice none 0 0]) ∧ Below W.heap.size W w'))
    (q21 : Hid (∀ W, Below w.heap.size w W → Calls Try.prog 21 #[.slice A n c, .int .i64 (st % 3), .int .i64 now] W (PlanRes W gP cP nP false kP)))
    (q22 : Hid (∀ W, Below w.heap.size w W → Calls Try.prog 22 #[.slice A n c, .int .i64 (st % 3), .int .i64 now] W (PlanRes W gD cD nD mD kD)))
    (q27 : Hid (∀ W, Below w.heap.size w W → Calls Try.prog 27 #[.slice A n c, .int .i64 id, .int .i64 now] W (PlanRes W gM false false false kM)))
    (q23P : Hid (∀ G k W, Below w.heap.size w W → Rd W G (fl gP) → Calls Try.prog 23 #[.slice A n c, .agg #[.slice G gP.length k, .bool cP, .bool nP, .bool false], .agg #[.int .i64 s, .bool false, .bool false, .int .i64 0, .int .i64 0, .int .i64 0, .slice none 0 0, .slice none 0 0, .int .i64 0, .slice none 0 0, .slice none 0 0]] W (ListRes W (Ls 0))))
    (q23D : Hid (∀ G k W, Below w.heap.size w W → Rd W G (fl gD) → Calls Try.prog 23 #[.slice A n c, .agg #[.slice G gD.length k, .bool cD, .bool nD, .bool mD], .agg #[.int .i64 s, .bool false, .bool false, .int .i64 0, .int .i64 0, .int .i64 0, .slice none 0 0, .slice none 0 0, .int .i64 0, .slice none 0 0, .slice none 0 0]] W (ListRes W (Ls 1))))
    (q23M : Hid (∀ G k W, Below w.heap.size w W → Rd W G (fl gM) → Calls Try.prog 23 #[.slice A n c, .agg #[.slice G gM.length k, .bool false, .bool false, .bool false], .agg #[.int .i64 s, .bool false, .bool false, .int .i64 0, .int .i64 0, .int .i64 0, .slice none 0 0, .slice none 0 0, .int .i64 0, .slice none 0 0, .slice none 0 0]] W (ListRes W (Ls 2))))
    (q7i : Hid (n < 30 → ∀ i, i < 3 → ∀ G k W, Rd W G (fl (Ls i)) → Calls Try.prog 7 #[.slice G (Ls i).length k] W fun e w' => e = .returned (.bool true) ∧ Below W.heap.size W w'))
    : Calls Try.prog 6 #[.slice A n c, .int .u8 st, .int .i64 id, .int .i64 now] w fun e w' => e = .returned (.bool true) ∧ Below w.heap.size w w' := by
  have hs1 : decide (s < 1) = false := by simp <;> omega
  go_enter Try.func6, Try.ntmps6
  go_upto_region 4 with (first | (go_at_call 7; refine (q7.out).mono ?_; rintro e w1 ⟨rfl, hb1⟩; have Hb1 := Lib.hid hb1; clear hb1) | (go_at_call 20; refine (q20.out _ Hb1.out).mono ?_; rintro e w2 ⟨rfl, hb2⟩; have Hb2 : Hid (Below w.heap.size w w2) := bt Hb1.out hb2; clear hb2))
  refine gen_world (G := fun W => Code.wp _ _ _ _ W) (I := fun W => Below w.heap.size w W ∧ At W w2.heap.size (behindV s)) ⟨?_, ?_⟩ ?_
  · have := Hb2.out.size
    (repeat (first | (with_reducible refine bs ?_ (by simp) _) | (with_reducible refine bdr ?_) | (with_reducible refine ba ?_ _)))
    exact Hb2.out
  · apply At.mk <;> simp [go_sem, behindV]
  generalize w2.heap.size = B9
  rintro W ⟨hb, ht⟩
  have Hb := Lib.hid hb
  have Ht := Lib.hid ht
  clear hb ht Hb1 Hb2 q7 q20
  obtain ⟨g0, g1, g2, g3, g4, g5, g6, g7, g8, g9, g10⟩ := Ht.out.all
  simp only [behindV] at g0 g1 g2 g3 g4 g5 g6 g7 g8 g9 g10
  go_upto_region 8 with (go_at_call 21; refine (q21.out _ Hb.out).mono ?_; rintro e w4 ⟨A4, k4, rfl, hR4, hb4⟩; have Hb4 : Hid (Below w.heap.size w w4) := bt Hb.out hb4; have Ht4 : Hid (At w4 B9 (behindV s)) := Ht.out.below hb4; have Hr4 : Hid (Rd w4 A4 (fl gP)) := hR4.rd; clear hb4 hR4)
  clear g0 g1 g2 g3 g4 g5 g6 g7 g8 g9 g10
  refine gen_world (G := fun W => Code.wp _ _ _ _ W) (I := fun W => Below w.heap.size w W ∧ At W B9 (behindV s) ∧ PlG W w4.heap.size A4 gP.length k4 cP nP false ∧ Rd W A4 (fl gP)) ⟨?_, ?_, ?_, ?_⟩ ?_
  · have := Hb4.out.size
    (repeat (first | (with_reducible refine bs ?_ (by simp) _) | (with_reducible refine bdr ?_) | (with_reducible refine ba ?_ _)))
    exact Hb4.out
  · refine Ht4.out.below ?_
    (repeat (first | (with_reducible refine bs ?_ (by simp) _) | (with_reducible refine bdr ?_) | (with_reducible refine ba ?_ _)))
    exact b0 _
  · refine ⟨?_, ?_, ?_, ?_⟩ <;> simp [go_sem]
  · refine Hr4.out.below ?_
    (repeat (first | (with_reducible refine bs ?_ (by simp) _) | (with_reducible refine bdr ?_) | (with_reducible refine ba ?_ _)))
    exact b0 _
  clear Hb Ht Hb4 Ht4 Hr4 hs1 q21
  generalize w4.heap.size = B11
  rintro W ⟨hb, ht, hp, hq⟩
  have Hb := Lib.hid hb
  have Ht := Lib.hid ht
  have Hp := Lib.hid hp
  have Hq := Lib.hid hq
  clear hb ht hp hq
  go_upto_region 9 with (go_at_call 22; refine (q22.out _ Hb.out).mono ?_; rintro e w5 ⟨A5, k5, rfl, hR5, hb5⟩; have Hb5 : Hid (Below w.heap.size w w5) := bt Hb.out hb5; have Ht5 : Hid (At w5 B9 (behindV s)) := Ht.out.below hb5; have Hp5 := Lib.hid (Hp.out.below hb5); have Hq5 := Lib.hid (Hq.out.below hb5); have Hr5 : Hid (Rd w5 A5 (fl gD)) := hR5.rd; clear hb5 hR5)
  refine gen_world (G := fun W => Code.wp _ _ _ _ W) (I := fun W => Below w.heap.size w W ∧ At W B9 (behindV s) ∧ PlG W B11 A4 gP.length k4 cP nP false ∧ Rd W A4 (fl gP) ∧ PlG W w5.heap.size A5 gD.length k5 cD nD mD ∧ Rd W A5 (fl gD)) ⟨?_, ?_, ?_, ?_, ?_, ?_⟩ ?_
  · have := Hb5.out.size
    (repeat (first | (with_reducible refine bs ?_ (by simp) _) | (with_reducible refine bdr ?_) | (with_reducible refine ba ?_ _)))
    exact Hb5.out
  · refine Ht5.out.below ?_
    (repeat (first | (with_reducible refine bs ?_ (by simp) _) | (with_reducible refine bdr ?_) | (with_reducible refine ba ?_ _)))
    exact b0 _
  · refine Hp5.out.below ?_
    (repeat (first | (with_reducible refine bs ?_ (by simp) _) | (with_reducible refine bdr ?_) | (with_reducible refine ba ?_ _)))
    exact b0 _
  · refine Hq5.out.below ?_
    (repeat (first | (with_reducible refine bs ?_ (by simp) _) | (with_reducible refine bdr ?_) | (with_reducible refine ba ?_ _)))
    exact b0 _
  · refine ⟨?_, ?_, ?_, ?_⟩ <;> simp [go_sem]
  · refine Hr5.out.below ?_
    (repeat (first | (with_reducible refine bs ?_ (by simp) _) | (with_reducible refine bdr ?_) | (with_reducible refine ba ?_ _)))
    exact b0 _
  clear Hb Ht Hp Hq Hb5 Ht5 Hp5 Hq5 Hr5 q22
  generalize w5.heap.size = B13
  rintro W ⟨hb, ht, hp, hq, hp1, hq1⟩
  have Hb := Lib.hid hb
  have Ht := Lib.hid ht
  have Hp := Lib.hid hp
  have Hq := Lib.hid hq
  have Hp1 := Lib.hid hp1
  have Hq1 := Lib.hid hq1
  clear hb ht hp hq hp1 hq1
  go_upto_region 10 with (go_at_call 27; refine (q27.out _ Hb.out).mono ?_; rintro e w5 ⟨A6, k6, rfl, hR5, hb5⟩; have Hb5 : Hid (Below w.heap.size w w5) := bt Hb.out hb5; have Ht5 : Hid (At w5 B9 (behindV s)) := Ht.out.below hb5; have Hp5 := Lib.hid (Hp.out.below hb5); have Hq5 := Lib.hid (Hq.out.below hb5); have Hp6 := Lib.hid (Hp1.out.below hb5); have Hq6 := Lib.hid (Hq1.out.below hb5); have Hr5 : Hid (Rd w5 A6 (fl gM)) := hR5.rd; clear hb5 hR5)
  refine gen_world (G := fun W => Code.wp _ _ _ _ W) (I := fun W => Below w.heap.size w W ∧ At W B9 (behindV s) ∧ PlG W B11 A4 gP.length k4 cP nP false ∧ Rd W A4 (fl gP) ∧ PlG W B13 A5 gD.length k5 cD nD mD ∧ Rd W A5 (fl gD) ∧ PlG W w5.heap.size A6 gM.length k6 false false false ∧ Rd W A6 (fl gM)) ⟨?_, ?_, ?_, ?_, ?_, ?_, ?_, ?_⟩ ?_
  · have := Hb5.out.size
    (repeat (first | (with_reducible refine bs ?_ (by simp) _) | (with_reducible refine bdr ?_) | (with_reducible refine ba ?_ _)))
    exact Hb5.out
  · refine Ht5.out.below ?_
    (repeat (first | (with_reducible refine bs ?_ (by simp) _) | (with_reducible refine bdr ?_) | (with_reducible refine ba ?_ _)))
    exact b0 _
  · refine Hp5.out.below ?_
    (repeat (first | (with_reducible refine bs ?_ (by simp) _) | (with_reducible refine bdr ?_) | (with_reducible refine ba ?_ _)))
    exact b0 _
  · refine Hq5.out.below ?_
    (repeat (first | (with_reducible refine bs ?_ (by simp) _) | (with_reducible refine bdr ?_) | (with_reducible refine ba ?_ _)))
    exact b0 _
  · refine Hp6.out.below ?_
    (repeat (first | (with_reducible refine bs ?_ (by simp) _) | (with_reducible refine bdr ?_) | (with_reducible refine ba ?_ _)))
    exact b0 _
  · refine Hq6.out.below ?_
    (repeat (first | (with_reducible refine bs ?_ (by simp) _) | (with_reducible refine bdr ?_) | (with_reducible refine ba ?_ _)))
    exact b0 _
  · refine ⟨?_, ?_, ?_, ?_⟩ <;> simp [go_sem]
  · refine Hr5.out.below ?_
    (repeat (first | (with_reducible refine bs ?_ (by simp) _) | (with_reducible refine bdr ?_) | (with_reducible refine ba ?_ _)))
    exact b0 _
  clear Hb Ht Hp Hq Hp1 Hq1 Hb5 Ht5 Hp5 Hq5 Hp6 Hq6 Hr5 q27
  generalize w5.heap.size = B15
  rintro W ⟨hb, ht, hp, hq, hp1, hq1, hp2, hq2⟩
  obtain ⟨g0, g1, g2, g3, g4, g5, g6, g7, g8, g9, g10⟩ := ht.all
  simp only [behindV] at g0 g1 g2 g3 g4 g5 g6 g7 g8 g9 g10
  have Hb := Lib.hid hb
  have Hq := Lib.hid hq
  have Hq1 := Lib.hid hq1
  have Hq2 := Lib.hid hq2
  clear hb hq hq1 hq2
  have lt9 := ht.lt
  have lt11 := hp.lt
  have lt13 := hp1.lt
  have lt15 := hp2.lt
  have hS : ∀ w', Below W.heap.size W w' → Hid (Below W.heap.size W w') ∧ w'.cell? ⟨B9, 0, none⟩ = some (.int .i64 s) ∧ w'.cell? ⟨B9, 1, none⟩ = some (.bool false) ∧ w'.cell? ⟨B9, 2, none⟩ = some (.bool false) ∧ w'.cell? ⟨B9, 3, none⟩ = some (.int .i64 0) ∧ w'.cell? ⟨B9, 4, none⟩ = some (.int .i64 0) ∧ w'.cell? ⟨B9, 5, none⟩ = some (.int .i64 0) ∧ w'.cell? ⟨B9, 6, none⟩ = some (.slice none 0 0) ∧ w'.cell? ⟨B9, 7, none⟩ = some (.slice none 0 0) ∧ w'.cell? ⟨B9, 8, none⟩ = some (.int .i64 0) ∧ w'.cell? ⟨B9, 9, none⟩ = some (.slice none 0 0) ∧ w'.cell? ⟨B9, 10, none⟩ = some (.slice none 0 0) ∧ w'.cell? ⟨B11, 0, none⟩ = some (.slice A4 gP.length k4) ∧ w'.cell? ⟨B11, 1, none⟩ = some (.bool cP) ∧ w'.cell? ⟨B11, 2, none⟩ = some (.bool nP) ∧ w'.cell? ⟨B11, 3, none⟩ = some (.bool false) ∧ w'.cell? ⟨B13, 0, none⟩ = some (.slice A5 gD.length k5) ∧ w'.cell? ⟨B13, 1, none⟩ = some (.bool cD) ∧ w'.cell? ⟨B13, 2, none⟩ = some (.bool nD) ∧ w'.cell? ⟨B13, 3, none⟩ = some (.bool mD) ∧ w'.cell? ⟨B15, 0, none⟩ = some (.slice A6 gM.length k6) ∧ w'.cell? ⟨B15, 1, none⟩ = some (.bool false) ∧ w'.cell? ⟨B15, 2, none⟩ = some (.bool false) ∧ w'.cell? ⟨B15, 3, none⟩ = some (.bool false) := by
    intro w' h
    have hc := (bcell h).1
    exact ⟨h, (hc _ _ lt9).trans g0, (hc _ _ lt9).trans g1, (hc _ _ lt9).trans g2, (hc _ _ lt9).trans g3, (hc _ _ lt9).trans g4, (hc _ _ lt9).trans g5, (hc _ _ lt9).trans g6, (hc _ _ lt9).trans g7, (hc _ _ lt9).trans g8, (hc _ _ lt9).trans g9, (hc _ _ lt9).trans g10, (hc _ _ lt11).trans hp.1, (hc _ _ lt11).trans hp.2.1, (hc _ _ lt11).trans hp.2.2.1, (hc _ _ lt11).trans hp.2.2.2, (hc _ _ lt13).trans hp1.1, (hc _ _ lt13).trans hp1.2.1, (hc _ _ lt13).trans hp1.2.2.1, (hc _ _ lt13).trans hp1.2.2.2, (hc _ _ lt15).trans hp2.1, (hc _ _ lt15).trans hp2.2.1, (hc _ _ lt15).trans hp2.2.2.1, (hc _ _ lt15).trans hp2.2.2.2⟩
  have HBd : Hid (∀ w', (Hid (Below W.heap.size W w') ∧ w'.cell? ⟨B9, 0, none⟩ = some (.int .i64 s) ∧ w'.cell? ⟨B9, 1, none⟩ = some (.bool false) ∧ w'.cell? ⟨B9, 2, none⟩ = some (.bool false) ∧ w'.cell? ⟨B9, 3, none⟩ = some (.int .i64 0) ∧ w'.cell? ⟨B9, 4, none⟩ = some (.int .i64 0) ∧ w'.cell? ⟨B9, 5, none⟩ = some (.int .i64 0) ∧ w'.cell? ⟨B9, 6, none⟩ = some (.slice none 0 0) ∧ w'.cell? ⟨B9, 7, none⟩ = some (.slice none 0 0) ∧ w'.cell? ⟨B9, 8, none⟩ = some (.int .i64 0) ∧ w'.cell? ⟨B9, 9, none⟩ = some (.slice none 0 0) ∧ w'.cell? ⟨B9, 10, none⟩ = some (.slice none 0 0) ∧ w'.cell? ⟨B11, 0, none⟩ = some (.slice A4 gP.length k4) ∧ w'.cell? ⟨B11, 1, none⟩ = some (.bool cP) ∧ w'.cell? ⟨B11, 2, none⟩ = some (.bool nP) ∧ w'.cell? ⟨B11, 3, none⟩ = some (.bool false) ∧ w'.cell? ⟨B13, 0, none⟩ = some (.slice A5 gD.length k5) ∧ w'.cell? ⟨B13, 1, none⟩ = some (.bool cD) ∧ w'.cell? ⟨B13, 2, none⟩ = some (.bool nD) ∧ w'.cell? ⟨B13, 3, none⟩ = some (.bool mD) ∧ w'.cell? ⟨B15, 0, none⟩ = some (.slice A6 gM.length k6) ∧ w'.cell? ⟨B15, 1, none⟩ = some (.bool false) ∧ w'.cell? ⟨B15, 2, none⟩ = some (.bool false) ∧ w'.cell? ⟨B15, 3, none⟩ = some (.bool false)) → Below W.heap.size W w') := fun w' h => h.1.out
  have HS := Lib.hid hS
  clear hS g0 g1 g2 g3 g4 g5 g6 g7 g8 g9 g10 hp hp1 hp2
  go_cut [17] (fun s17 wx => ∃ g, s17 = .slice (some ⟨g, 0, none⟩) 3 3 ∧ Below w.heap.size w wx ∧ AllOk wx g Ls)
  case first =>
    go_region_held3 (fun w' => Hid (Below W.heap.size W w') ∧ w'.cell? ⟨B9, 0, none⟩ = some (.int .i64 s) ∧ w'.cell? ⟨B9, 1, none⟩ = some (.bool false) ∧ w'.cell? ⟨B9, 2, none⟩ = some (.bool false) ∧ w'.cell? ⟨B9, 3, none⟩ = some (.int .i64 0) ∧ w'.cell? ⟨B9, 4, none⟩ = some (.int .i64 0) ∧ w'.cell? ⟨B9, 5, none⟩ = some (.int .i64 0) ∧ w'.cell? ⟨B9, 6, none⟩ = some (.slice none 0 0) ∧ w'.cell? ⟨B9, 7, none⟩ = some (.slice none 0 0) ∧ w'.cell? ⟨B9, 8, none⟩ = some (.int .i64 0) ∧ w'.cell? ⟨B9, 9, none⟩ = some (.slice none 0 0) ∧ w'.cell? ⟨B9, 10, none⟩ = some (.slice none 0 0) ∧ w'.cell? ⟨B11, 0, none⟩ = some (.slice A4 gP.length k4) ∧ w'.cell? ⟨B11, 1, none⟩ = some (.bool cP) ∧ w'.cell? ⟨B11, 2, none⟩ = some (.bool nP) ∧ w'.cell? ⟨B11, 3, none⟩ = some (.bool false) ∧ w'.cell? ⟨B13, 0, none⟩ = some (.slice A5 gD.length k5) ∧ w'.cell? ⟨B13, 1, none⟩ = some (.bool cD) ∧ w'.cell? ⟨B13, 2, none⟩ = some (.bool nD) ∧ w'.cell? ⟨B13, 3, none⟩ = some (.bool mD) ∧ w'.cell? ⟨B15, 0, none⟩ = some (.slice A6 gM.length k6) ∧ w'.cell? ⟨B15, 1, none⟩ = some (.bool false) ∧ w'.cell? ⟨B15, 2, none⟩ = some (.bool false) ∧ w'.cell? ⟨B15, 3, none⟩ = some (.bool false)) ((refine HS.out _ ?_; (repeat (first | (with_reducible refine bs ?_ (by simp) _) | (with_reducible refine bdr ?_) | (with_reducible refine ba ?_ _))); first | exact b0 _ | exact HBd.out _ (by assumption) | (refine bt ?_ (by assumption); first | exact b0 _ | exact HBd.out _ (by assumption))))
      (first | (go_at_call 23; ((with_reducible refine (q23P.out _ _ _ ?_ ?_).mono ?_)); (exact bt Hb.out (HBd.out _ (by assumption))); (exact Hq.out.below (HBd.out _ (by assumption))); (rintro e wP ⟨AP, kP', rfl, _, _, hrP, hbP⟩); (have HrP := Lib.hid hrP; clear hrP)) | (go_at_call 23; ((with_reducible refine (q23D.out _ _ _ ?_ ?_).mono ?_)); (exact bt Hb.out (HBd.out _ (by assumption))); (exact Hq1.out.below (HBd.out _ (by assumption))); (rintro e wD ⟨AD, kD', rfl, _, _, hrD, hbD⟩); (have HrD := Lib.hid hrD; clear hrD)) | (go_at_call 23; ((with_reducible refine (q23M.out _ _ _ ?_ ?_).mono ?_)); (exact bt Hb.out (HBd.out _ (by assumption))); (exact Hq2.out.below (HBd.out _ (by assumption))); (rintro e wM ⟨AM, kM', rfl, _, _, hrM, hbM⟩); (have HrM := Lib.hid hrM; clear hrM)))
    all_goals
      go_wp2_with fail
      go_meet
      refine ⟨_, rfl, ?_, ?_⟩
      · (repeat (first | (with_reducible refine bs ?_ (by simp) _) | (with_reducible refine bdr ?_) | (with_reducible refine ba ?_ _)))
        repeat (first | exact Hb.out | (with_reducible refine bdr ?_) | (refine bt ?_ (by assumption)))
      · intro i hi
        obtain rfl | rfl | rfl : i = 0 ∨ i = 1 ∨ i = 2 := by omega
        · refine ⟨AP, kP', by simp [go_sem], ?_⟩
          repeat (first | (with_reducible refine rdr ?_) | (with_reducible refine ral ?_ _))
          repeat (first | exact HrP.out | refine Rd.below ?_ (by assumption))
        · refine ⟨AD, kD', by simp [go_sem], ?_⟩
          repeat (first | (with_reducible refine rdr ?_) | (with_reducible refine ral ?_ _))
          repeat (first | exact HrD.out | refine Rd.below ?_ (by assumption))
        · refine ⟨AM, kM', by simp [go_sem], ?_⟩
          repeat (first | (with_reducible refine rdr ?_) | (with_reducible refine ral ?_ _))
          repeat (first | exact HrM.out | refine Rd.below ?_ (by assumption))
  case rest =>
    obtain ⟨g, rfl, hb, hall⟩ := hcut
    clear HS HBd q23P q23D q23M Hq Hq1 Hq2 lt9 lt11 lt13 lt15 Hb
    have Hb := Lib.hid hb
    have Hall := Lib.hid hall
    clear hb hall
    go_wp2_with fail
    go_loopw [18] (fun i wr => ∃ k : Nat, k ≤ 3 ∧ i = .int .i64 k ∧ Hid (Below w.heap.size w wr) ∧ Hid (AllOk wr g Ls)) (fun i _ => 3 - (intOf i).toNat)
    case atStart => exact ⟨0, by omega, rfl, Hb.out, Hall.out⟩
    case round =>
      obtain ⟨i, hi, rfl, HB, HAl⟩ := hrel
      clear Hb Hall
      obtain ⟨wo, rfl⟩ : ∃ wo : World, wo = wr := ⟨_, rfl⟩
      by_cases hlt : i < 3
      · have hiz : (i : Int) < 3 := by omega
        obtain ⟨Ai, ki, hci, hri⟩ := HAl.out i hlt
        have Hri := Lib.hid hri
        have HRi : Hid (n < 30 → ∀ G k W, Rd W G (fl (Ls i)) → Calls Try.prog 7 #[.slice G (Ls i).length k] W fun e w' => e = .returned (.bool true) ∧ Below W.heap.size W w') := fun h => q7i.out h i hlt
        have HLi : Hid ((Ls i).length ≤ 31) := HLl.out i hlt
        have HGi : Hid (∀ v ∈ Ls i, v.good w) := HLg.out i hlt
        have HHi : Hid (∀ x ∈ l, now < x.untl → x ∈ Ls i) := HH.out i hlt
        have HAi : Hid (∀ W, AllOk W g Ls → ∃ A k, W.cell? ⟨g, i, none⟩ = some (.slice A (Ls i).length k) ∧ Rd W A (fl (Ls i))) := fun W h => h i hlt
        generalize Ls i = L at *
        clear hri
        go_upto_region 14 with fail
        go_cut [85] (fun s85 wx => s85 = .bool false ∧ Hid (Below w.heap.size w wx) ∧ Hid (AllOk wx g Ls))
        case first =>
          by_cases h30 : n < 30
          · have h30d : decide ((n : Int) < 30) = true := by simp <;> omega
            go_wp2_with (go_at_call 7; refine (HRi.out h30 _ _ _ Hri.out).mono ?_; rintro e w7 ⟨rfl, hb7⟩)
            go_meet
            exact ⟨rfl, bt HB.out hb7, HAl.out.below hb7⟩
          · have h30d : decide ((n : Int) < 30) = false := by simp <;> omega
            go_wp2_with fail
            go_meet
            exact ⟨rfl, HB.out, HAl.out⟩
        case rest =>
          obtain ⟨rfl, HB2, HAl2⟩ := hcut
          clear HB HAl hci Hri HRi
          go_wp2_with fail
          go_loopw [19] (fun kk wr => ∃ k : Nat, k ≤ n ∧ kk = .int .i64 k ∧ Hid (Below w.heap.size w wr) ∧ Hid (AllOk wr g Ls)) (fun kk _ => n - (intOf kk).toNat)
          case atStart => exact ⟨0, by omega, rfl, HB2.out, HAl2.out⟩
          case round =>
            obtain ⟨k, hk, rfl, HB, HAl⟩ := hrel
            clear HB2 HAl2
            obtain ⟨wo2, rfl⟩ : ∃ wo : World, wo = wr := ⟨_, rfl⟩
            by_cases hltk : k < n
            · have hkz : (k : Int) < (n : Int) := by omega
              have hkl : k < l.length := by have := hl.out; omega
              obtain ⟨b, o, rfl, hbl, hcv0⟩ := HA.out.ver k hkl
              have HV : Hid (∀ W, Below w.heap.size w W → ∀ i u, (l[k].cells)[i]? = some u → W.cell? ⟨b, o + k * 11 + i, none⟩ = some u) := fun W hW i u hu => ((bcell hW).1 _ _ hbl).trans (hcv0 i u hu)
              have hex : ∃ sv : Ver → Bool, (∀ x ∈ L, ∀ W, Below w.heap.size w W → Calls Try.prog 11 #[x.agg, l[k].agg] W fun e w' => e = .returned (.bool (sv x)) ∧ Below W.heap.size W w') ∧ (now < l[k].untl → L.any sv = true) :=
                ⟨fun x => sameVer w x l[k], fun x hx W hW => same11 w x l[k] (HGi.out x hx) (Hg.out _ (List.getElem_mem hkl)) W hW,
                  fun hu => List.any_eq_true.2 ⟨l[k], HHi.out _ (List.getElem_mem hkl) hu, sameVer_self w _⟩⟩
              obtain ⟨sv, h11, hany⟩ := hex
              have H11 := Lib.hid h11
              have Hany := Lib.hid hany
              have hbn := hbl
              clear hcv0 h11 hany
              generalize l[k] = v at *
              obtain ⟨v0, v1, v2, v3, v4, v5, ⟨a6, n6, c6⟩, ⟨a7, n7, c7⟩, v8, ⟨a9, n9, c9⟩, ⟨a10, n10, c10⟩⟩ := v
              simp only [Ver.agg] at H11
              simp only [Ver.cells] at HV H11
              simp only at Hany
              obtain ⟨m, hm⟩ : ∃ m, L.length = m := ⟨_, rfl⟩
              have Hm : Hid (L.length = m) := hm
              rw [hm] at HAi HLi
              have hLm := HLi.out
              clear hm
              obtain ⟨e0, e1, e2, e3, e4, e5, e6, e7, e8, e9, e10⟩ := ver_cells (v := ⟨v0, v1, v2, v3, v4, v5, ⟨a6, n6, c6⟩, ⟨a7, n7, c7⟩, v8, ⟨a9, n9, c9⟩, ⟨a10, n10, c10⟩⟩) (HV.out _ HB.out)
              simp only at e0 e1 e2 e3 e4 e5 e6 e7 e8 e9 e10
              clear e0 e1 e2 e3 e4 e6 e7 e8 e9 e10
              by_cases hu : now < v5
              · have hud : decide (v5 ≤ now) = false := by simp <;> omega
                have hAny := Lib.hid (Hany.out hu)
                clear Hany
                go_wp2_with fail
                clear e5
                go_loopw [20, 21] (fun met j wr => ∃ jj : Nat, jj ≤ m ∧ j = .int .i64 jj ∧ met = .bool ((L.take jj).any sv) ∧ Hid (Below w.heap.size w wr) ∧ Hid (AllOk wr g Ls)) (fun _ j _ => m - (intOf j).toNat)
                case atStart => exact ⟨0, by omega, rfl, by simp, HB.out, HAl.out⟩
                case round =>
                  obtain ⟨jj, hjj, rfl, rfl, HB3, HAl3⟩ := hrel
                  clear HB HAl
                  obtain ⟨A1, k1, hc1, hr1⟩ := HAi.out _ HAl3.out
                  by_cases hltj : jj < m
                  · have hjz : (jj : Int) < (m : Int) := by omega
                    have hjl : jj < L.length := by have := Hm.out; omega
                    obtain ⟨b', o', rfl, hbl', hcv'⟩ := hr1.ver jj hjl
                    have q11 := Lib.hid (fun W (hb : Below w.heap.size w W) => H11.out L[jj] (List.getElem_mem hjl) W hb)
                    have Hsn : Hid ((L.take (jj + 1)).any sv = ((L.take jj).any sv || sv L[jj])) := by
                      show (L.take (jj + 1)).any sv = ((L.take jj).any sv || sv L[jj])
                      rw [List.take_succ_eq_append_getElem hjl, List.any_append]; simp only [List.any_cons, List.any_nil, Bool.or_false]
                    generalize sv L[jj] = xb at *
                    generalize (L.take jj).any sv = mb at *
                    generalize L[jj] = x at *
                    obtain ⟨x0, x1, x2, x3, x4, x5, ⟨p6, q6, r6⟩, ⟨p7, q7', r7⟩, x8, ⟨p9, q9, r9⟩, ⟨p10, q10, r10⟩⟩ := x
                    simp only [Ver.agg, Ver.cells] at q11
                    obtain ⟨f0, f1, f2, f3, f4, f5, f6, f7, f8, f9, f10⟩ := ver_cells hcv'
                    obtain ⟨e0, e1, e2, e3, e4, e5, e6, e7, e8, e9, e10⟩ := ver_cells (v := ⟨v0, v1, v2, v3, v4, v5, ⟨a6, n6, c6⟩, ⟨a7, n7, c7⟩, v8, ⟨a9, n9, c9⟩, ⟨a10, n10, c10⟩⟩) (HV.out _ HB3.out)
                    simp only at e0 e1 e2 e3 e4 e5 e6 e7 e8 e9 e10 f0 f1 f2 f3 f4 f5 f6 f7 f8 f9 f10
                    clear hcv' hr1
                    have hg1 := World.block_lt_of_cell? _ _ hc1
                    have hb1 := World.block_lt_of_cell? _ _ e0
                    simp only at hg1 hb1
                    cases mb
                    · go_wp2_with fail
                      refine wp_region_below (by kernel_rfl) (by kernel_rfl) ?_
                      repeat (first | go_big_quiet_skip | (go_big_quiet_want; apply Exists.intro; refine ⟨fun W hW => ?_, ?_⟩; (obtain ⟨hcW, hfW⟩ := bcell hW.out; go_simp; first | exact rfl | exact ⟨rfl, rfl⟩ | exact q_call hW (q11.out _ (bt HB3.out hW.out))); go_big_quiet_on; go_simp))
                      refine wpQuiet_nil ?_
                      intro w9 hb9
                      go_wp2
                      go_roundw
                      case rel => exact ⟨jj + 1, by omega, by go_num, by rw [Hsn.out]; simp, bt HB3.out hb9.out, HAl3.out.below hb9.out⟩
                      case measure => simp [intOf]; omega
                    · go_wp2_with fail
                      refine wp_region_below (by kernel_rfl) (by kernel_rfl) ?_
                      repeat (first | go_big_quiet_skip | (go_big_quiet_want; apply Exists.intro; refine ⟨fun W hW => ?_, ?_⟩; (obtain ⟨hcW, hfW⟩ := bcell hW.out; go_simp; first | exact rfl | exact ⟨rfl, rfl⟩); go_big_quiet_on; go_simp))
                      refine wpQuiet_nil ?_
                      intro w9 hb9
                      go_wp2
                      go_roundw
                      case rel => exact ⟨jj + 1, by omega, by go_num, by rw [Hsn.out]; simp, bt HB3.out hb9.out, HAl3.out.below hb9.out⟩
                      case measure => simp [intOf]; omega
                  · have : jj = m := by omega
                    subst this
                    have Htk : Hid ((L.take jj).any sv = true) := by
                      show (L.take jj).any sv = true
                      rw [List.take_of_length_le (by have := Hm.out; omega)]
                      exact hAny.out
                    generalize (L.take jj).any sv = mb at *
                    obtain rfl : mb = true := Htk.out
                    clear Htk
                    go_wp2
                    go_roundw
                    case rel => exact ⟨k + 1, by omega, by go_num, HB3.out, HAl3.out⟩
                    case measure => simp [intOf]; omega
              · have hud : decide (v5 ≤ now) = true := by simp <;> omega
                clear Hany
                go_wp2_with fail
                go_roundw
                case rel => exact ⟨k + 1, by omega, by go_num, HB.out, HAl.out⟩
                case measure => simp [intOf]; omega
            · have : k = n := by omega
              subst this
              go_wp2
              go_roundw
              case rel => exact ⟨i + 1, by omega, by go_num, HB.out, HAl.out⟩
              case measure => simp [intOf]; omega
      · have : i = 3 := by omega
        subst this
        go_wp2_with (go_at_call 8; refine (works8 _).mono ?_; rintro e w8 ⟨rfl, hb8⟩)
        go_ret
        exact ⟨rfl, bt HB.out hb8⟩

end Go.Proofs.Ytmaaekahkeibnaa
