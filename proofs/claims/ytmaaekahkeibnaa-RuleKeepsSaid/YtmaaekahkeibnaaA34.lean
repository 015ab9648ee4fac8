/- RuleDoes: what the statement's function answers. -/
import Derived.Test.YtmaaekahkeibnaaA32
import Derived.Test.YtmaaekahkeibnaaA33
namespace Go.Proofs.Ytmaaekahkeibnaa
open Go.RowKit
set_option linter.unusedSimpArgs false

/-- A plan's cells in a block. -/
def PlG (W : World) (B : Nat) (A : Option Addr) (n k : Nat) (cm nu mk : Bool) : Prop :=
  W.cell? ⟨B, 0, none⟩ = some (.slice A n k) ∧ W.cell? ⟨B, 1, none⟩ = some (.bool cm) ∧ W.cell? ⟨B, 2, none⟩ = some (.bool nu) ∧ W.cell? ⟨B, 3, none⟩ = some (.bool mk)
theorem PlG.below {W W' : World} {B n k : Nat} {A : Option Addr} {cm nu mk : Bool} (h : PlG W B A n k cm nu mk) (hb : Below W.heap.size W W') : PlG W' B A n k cm nu mk := by
  have hB : B < W.heap.size := World.block_lt_of_cell? W _ h.1
  have hc := (bcell hb).1
  exact ⟨(hc _ _ hB).trans h.1, (hc _ _ hB).trans h.2.1, (hc _ _ hB).trans h.2.2.1, (hc _ _ hB).trans h.2.2.2⟩
theorem PlG.lt {W : World} {B n k : Nat} {A : Option Addr} {cm nu mk : Bool} (h : PlG W B A n k cm nu mk) : B < W.heap.size := World.block_lt_of_cell? W _ h.1

theorem bareP_len (l : List Ver) (now : Int) : (bareP l now).1.length ≤ 1 := by
  unfold bareP
  cases pk l 0 with
  | none => simp
  | some v => by_cases h : now < v.untl <;> simp [h]
theorem putP_len (l : List Ver) (st now : Int) : (putP l st now).1.length ≤ 1 := by
  have := bareP_len l now
  unfold putP
  split
  · simp
  · split <;> simp_all
theorem delP_len (l : List Ver) (st now : Int) : (delP l st now).1.length ≤ 1 := by
  have := bareP_len l now
  unfold delP
  split
  · simp
  · split
    · split <;> simp_all
    · simp
theorem remP_len (l : List Ver) (id now : Int) : (remP l id now).1.length ≤ 1 := by
  unfold remP
  cases pk l id with
  | none => simp
  | some v =>
    simp only
    split
    · simp
    · split <;> simp
theorem apP_len (l gl : List Ver) (cm nu mk : Bool) (v : Ver) : (apP l gl cm nu mk v).length ≤ l.length + 1 := by
  unfold apP
  have := List.length_filter_le (fun x => !gone gl x) l
  cases cm <;> simp <;> omega
theorem nil_byt (w : World) : IsByt w (.slice none 0 0) := ⟨[], none, 0, rfl, by simp, .inl rfl⟩
theorem apP_good {w : World} {l gl : List Ver} {cm nu mk : Bool} {s : Int} (hg : ∀ v ∈ l, v.good w) : ∀ v ∈ apP l gl cm nu mk (behindV s), v.good w := by
  intro v hv
  unfold apP at hv
  rw [List.mem_append] at hv
  rcases hv with hv | hv
  · cases cm
    · simp at hv
    · simp only [if_true, List.mem_singleton] at hv
      subst hv
      exact ⟨nil_byt w, nil_byt w, nil_byt w, nil_byt w⟩
  · exact hg v (List.mem_filter.1 hv).1

set_option maxRecDepth 100000 in
set_option maxHeartbeats 8000000 in
theorem does5_out (A : Option Addr) (c : Nat) (l : List Ver) (st id now : Int) (w : World) (hA : Rd w A (fl l)) (hr : ¬ Right l) :
    Calls Try.prog 5 #[.slice A l.length c, .int .i64 st, .int .i64 id, .int .i64 now] w fun e w' => e = .returned (.bool true) ∧ Below w.heap.size w w' := by
  have q7 := Lib.hid (right7a A c l w hA)
  simp only [hr, decide_false] at q7
  clear hA hr
  generalize l.length = n at *
  go_enter Try.func5, Try.ntmps5
  go_wp2_with (first | (go_at_call 7; refine (q7.out).mono ?_; rintro e w1 ⟨rfl, hb1⟩) | (go_at_call 8; refine (works8 _).mono ?_; rintro e w2 ⟨rfl, hb2⟩))
  go_ret
  exact ⟨rfl, bt hb1 hb2⟩

set_option maxRecDepth 100000 in
set_option maxHeartbeats 8000000 in
theorem does5_111 (A : Option Addr) (c n : Nat) (s st id now : Int) (w : World) (gP gD gM rP rD rM : List Ver) (cP nP cD nD mD : Bool) (kP kD kM : Int)
    (q7 : Hid (Calls Try.prog 7 #[.slice A n c] w fun e w' => e = .returned (.bool true) ∧ Below w.heap.size w w'))
    (q20 : Hid (∀ W, Below w.heap.size w W → Calls Try.prog 20 #[.slice A n c] W fun e w' => e = .returned (.agg #[.int .i64 s, .bool false, .bool false, .int .i64 0, .int .i64 0, .int .i64 0, .slice none 0 0, .slice none 0 0, .int .i64 0, .slice none 0 0, .slice none 0 0]) ∧ Below W.heap.size W w'))
    (q21 : Hid (∀ W, Below w.heap.size w W → Calls Try.prog 21 #[.slice A n c, .int .i64 st, .int .i64 now] W (PlanRes W gP cP nP false kP)))
    (q22 : Hid (∀ W, Below w.heap.size w W → Calls Try.prog 22 #[.slice A n c, .int .i64 st, .int .i64 now] W (PlanRes W gD cD nD mD kD)))
    (q27 : Hid (∀ W, Below w.heap.size w W → Calls Try.prog 27 #[.slice A n c, .int .i64 id, .int .i64 now] W (PlanRes W gM false false false kM)))
    (q25 : Hid (∀ W, Below w.heap.size w W → Calls Try.prog 25 #[.slice A n c, .int .i64 st, .int .i64 now, .agg #[.int .i64 s, .bool false, .bool false, .int .i64 0, .int .i64 0, .int .i64 0, .slice none 0 0, .slice none 0 0, .int .i64 0, .slice none 0 0, .slice none 0 0]] W (RowRes W rP kP)))
    (q26 : Hid (∀ W, Below w.heap.size w W → Calls Try.prog 26 #[.slice A n c, .int .i64 st, .int .i64 now, .agg #[.int .i64 s, .bool false, .bool false, .int .i64 0, .int .i64 0, .int .i64 0, .slice none 0 0, .slice none 0 0, .int .i64 0, .slice none 0 0, .slice none 0 0]] W (RowRes3 W rD cD kD)))
    (q28 : Hid (∀ W, Below w.heap.size w W → Calls Try.prog 28 #[.slice A n c, .int .i64 id, .int .i64 now] W (RowRes W rM kM)))
    (q23P : Hid (∀ G k W, Below w.heap.size w W → Rd W G (fl gP) → Calls Try.prog 23 #[.slice A n c, .agg #[.slice G gP.length k, .bool cP, .bool nP, .bool false], .agg #[.int .i64 s, .bool false, .bool false, .int .i64 0, .int .i64 0, .int .i64 0, .slice none 0 0, .slice none 0 0, .int .i64 0, .slice none 0 0, .slice none 0 0]] W (ListRes W rP)))
    (q24P : Hid (∀ G G' k k' W, Below w.heap.size w W → Rd W G (fl rP) → Rd W G' (fl rP) → Calls Try.prog 24 #[.slice G rP.length k, .slice G' rP.length k'] W fun e w' => e = .returned (.bool true) ∧ Below W.heap.size W w'))
    (hP : kP = 0)
    (q23D : Hid (∀ G k W, Below w.heap.size w W → Rd W G (fl gD) → Calls Try.prog 23 #[.slice A n c, .agg #[.slice G gD.length k, .bool cD, .bool nD, .bool mD], .agg #[.int .i64 s, .bool false, .bool false, .int .i64 0, .int .i64 0, .int .i64 0, .slice none 0 0, .slice none 0 0, .int .i64 0, .slice none 0 0, .slice none 0 0]] W (ListRes W rD)))
    (q24D : Hid (∀ G G' k k' W, Below w.heap.size w W → Rd W G (fl rD) → Rd W G' (fl rD) → Calls Try.prog 24 #[.slice G rD.length k, .slice G' rD.length k'] W fun e w' => e = .returned (.bool true) ∧ Below W.heap.size W w'))
    (hD : kD = 0)
    (q23M : Hid (∀ G k W, Below w.heap.size w W → Rd W G (fl gM) → Calls Try.prog 23 #[.slice A n c, .agg #[.slice G gM.length k, .bool false, .bool false, .bool false], .agg #[.int .i64 s, .bool false, .bool false, .int .i64 0, .int .i64 0, .int .i64 0, .slice none 0 0, .slice none 0 0, .int .i64 0, .slice none 0 0, .slice none 0 0]] W (ListRes W rM)))
    (q24M : Hid (∀ G G' k k' W, Below w.heap.size w W → Rd W G (fl rM) → Rd W G' (fl rM) → Calls Try.prog 24 #[.slice G rM.length k, .slice G' rM.length k'] W fun e w' => e = .returned (.bool true) ∧ Below W.heap.size W w'))
    (hM : kM = 0)
    : Calls Try.prog 5 #[.slice A n c, .int .i64 st, .int .i64 id, .int .i64 now] w fun e w' => e = .returned (.bool true) ∧ Below w.heap.size w w' := by
  subst hP
  subst hD
  subst hM
  have hcD : (cD != cD) = false := by simp
  go_enter Try.func5, Try.ntmps5
  go_upto_region 4 with (first | (go_at_call 7; refine (q7.out).mono ?_; rintro e w1 ⟨rfl, hb1⟩; have Hb1 := Lib.hid hb1; clear hb1) | (go_at_call 20; refine (q20.out _ Hb1.out).mono ?_; rintro e w2 ⟨rfl, hb2⟩; have Hb2 : Hid (Below w.heap.size w w2) := bt Hb1.out hb2; clear hb2))
  refine gen_world (G := fun W => Code.wp _ _ _ _ W) (I := fun W => Below w.heap.size w W ∧ At W w2.heap.size (behindV s)) ⟨?_, ?_⟩ ?_
  · have := Hb2.out.size
    (repeat (first | (with_reducible refine bs ?_ (by simp) _) | (with_reducible refine bdr ?_) | (with_reducible refine ba ?_ _)))
    exact Hb2.out
  · apply At.mk <;> simp [go_sem, behindV]
  generalize w2.heap.size = B9
  rintro W ⟨hb, ht⟩
  have Hb := Lib.hid hb
  have Ht := Lib.hid ht
  clear hb ht
  go_upto_region 5 with (go_at_call 21; refine (q21.out _ Hb.out).mono ?_; rintro e w4 ⟨A4, k4, rfl, hR4, hb4⟩; have Hb4 : Hid (Below w.heap.size w w4) := bt Hb.out hb4; have Ht4 : Hid (At w4 B9 (behindV s)) := Ht.out.below hb4; have Hr4 : Hid (Rd w4 A4 (fl gP)) := hR4.rd; clear hb4 hR4)
  refine gen_world (G := fun W => Code.wp _ _ _ _ W) (I := fun W => Below w.heap.size w W ∧ At W B9 (behindV s) ∧ PlG W w4.heap.size A4 gP.length k4 cP nP false ∧ Rd W A4 (fl gP)) ⟨?_, ?_, ?_, ?_⟩ ?_
  · have := Hb4.out.size
    (repeat (first | (with_reducible refine bs ?_ (by simp) _) | (with_reducible refine bdr ?_) | (with_reducible refine ba ?_ _)))
    exact Hb4.out
  · refine Ht4.out.below ?_
    (repeat (first | (with_reducible refine bs ?_ (by simp) _) | (with_reducible refine bdr ?_) | (with_reducible refine ba ?_ _)))
    exact b0 _
  · refine ⟨?_, ?_, ?_, ?_⟩ <;> simp [go_sem]
  · refine Hr4.out.below ?_
    (repeat (first | (with_reducible refine bs ?_ (by simp) _) | (with_reducible refine bdr ?_) | (with_reducible refine ba ?_ _)))
    exact b0 _
  clear Hb Ht Hb4 Ht4 Hr4
  generalize w4.heap.size = B10
  rintro W ⟨hb, ht, hp, hq⟩
  have Hb := Lib.hid hb
  have Ht := Lib.hid ht
  have Hp := Lib.hid hp
  have Hq := Lib.hid hq
  clear hb ht hp hq
  obtain ⟨g0, g1, g2, g3, g4, g5, g6, g7, g8, g9, g10⟩ := Ht.out.all
  simp only [behindV] at g0 g1 g2 g3 g4 g5 g6 g7 g8 g9 g10
  go_upto_region 6 with (go_at_call 25; refine (q25.out _ Hb.out).mono ?_; rintro e w6 ⟨A6, k6, rfl, _, hr6, hb6⟩; have Hb6 : Hid (Below w.heap.size w w6) := bt Hb.out hb6; have Ht6 : Hid (At w6 B9 (behindV s)) := Ht.out.below hb6; have Hr6 := Lib.hid hr6; have Hq6 := Lib.hid (Hq.out.below hb6); have Hp6 := Lib.hid (Hp.out.below hb6); clear hb6 hr6)
  clear g0 g1 g2 g3 g4 g5 g6 g7 g8 g9 g10
  clear Hb Ht Hp Hq
  have Hb := Hb6
  have Ht := Ht6
  have Hp := Hp6
  have Hq := Hq6
  clear Hb6 Ht6 Hp6 Hq6
  obtain ⟨g0, g1, g2, g3, g4, g5, g6, g7, g8, g9, g10⟩ := Ht.out.all
  simp only [behindV] at g0 g1 g2 g3 g4 g5 g6 g7 g8 g9 g10
  obtain ⟨i0, i1, i2, i3⟩ := Hp.out
  go_upto_region 8 with (first | (go_at_call 23; refine (q23P.out _ _ _ Hb.out Hq.out).mono ?_; rintro e w7 ⟨A7, k7, rfl, _, _, hr7, hb7⟩; have Hb7 : Hid (Below w.heap.size w w7) := bt Hb.out hb7; have Ht7 : Hid (At w7 B9 (behindV s)) := Ht.out.below hb7; have Hr7 := Lib.hid hr7; have Hs7 := Lib.hid (Hr6.out.below hb7); have Hp7 := Lib.hid (Hp.out.below hb7); obtain ⟨j0, j1, j2, j3⟩ := Hp7.out; clear hb7 hr7) | (go_at_call 24; refine (q24P.out _ _ _ _ _ Hb7.out Hr7.out Hs7.out).mono ?_; rintro e w8 ⟨rfl, hb8⟩; have Hb8 : Hid (Below w.heap.size w w8) := bt Hb7.out hb8; have Ht8 : Hid (At w8 B9 (behindV s)) := Ht7.out.below hb8; have Hp8 := Lib.hid (Hp7.out.below hb8); obtain ⟨m0, m1, m2, m3⟩ := Hp8.out; clear hb8))
  clear g0 g1 g2 g3 g4 g5 g6 g7 g8 g9 g10 i0 i1 i2 i3
  clear Hb Ht Hp Hq Hr6 Hb7 Ht7 Hp7 Hr7 Hs7 Hp8 j0 j1 j2 j3 m0 m1 m2 m3
  have Hb := Hb8
  have Ht := Ht8
  clear Hb8 Ht8
  go_upto_region 9 with (go_at_call 22; refine (q22.out _ Hb.out).mono ?_; rintro e w4 ⟨A4, k4, rfl, hR4, hb4⟩; have Hb4 : Hid (Below w.heap.size w w4) := bt Hb.out hb4; have Ht4 : Hid (At w4 B9 (behindV s)) := Ht.out.below hb4; have Hr4 : Hid (Rd w4 A4 (fl gD)) := hR4.rd; clear hb4 hR4)
  refine gen_world (G := fun W => Code.wp _ _ _ _ W) (I := fun W => Below w.heap.size w W ∧ At W B9 (behindV s) ∧ PlG W w4.heap.size A4 gD.length k4 cD nD mD ∧ Rd W A4 (fl gD)) ⟨?_, ?_, ?_, ?_⟩ ?_
  · have := Hb4.out.size
    (repeat (first | (with_reducible refine bs ?_ (by simp) _) | (with_reducible refine bdr ?_) | (with_reducible refine ba ?_ _)))
    exact Hb4.out
  · refine Ht4.out.below ?_
    (repeat (first | (with_reducible refine bs ?_ (by simp) _) | (with_reducible refine bdr ?_) | (with_reducible refine ba ?_ _)))
    exact b0 _
  · refine ⟨?_, ?_, ?_, ?_⟩ <;> simp [go_sem]
  · refine Hr4.out.below ?_
    (repeat (first | (with_reducible refine bs ?_ (by simp) _) | (with_reducible refine bdr ?_) | (with_reducible refine ba ?_ _)))
    exact b0 _
  clear Hb Ht Hb4 Ht4 Hr4
  generalize w4.heap.size = B14
  rintro W ⟨hb, ht, hp, hq⟩
  have Hb := Lib.hid hb
  have Ht := Lib.hid ht
  have Hp := Lib.hid hp
  have Hq := Lib.hid hq
  clear hb ht hp hq
  obtain ⟨g0, g1, g2, g3, g4, g5, g6, g7, g8, g9, g10⟩ := Ht.out.all
  simp only [behindV] at g0 g1 g2 g3 g4 g5 g6 g7 g8 g9 g10
  go_upto_region 10 with (go_at_call 26; refine (q26.out _ Hb.out).mono ?_; rintro e w6 ⟨A6, k6, rfl, _, hr6, hb6⟩; have Hb6 : Hid (Below w.heap.size w w6) := bt Hb.out hb6; have Ht6 : Hid (At w6 B9 (behindV s)) := Ht.out.below hb6; have Hr6 := Lib.hid hr6; have Hq6 := Lib.hid (Hq.out.below hb6); have Hp6 := Lib.hid (Hp.out.below hb6); clear hb6 hr6)
  clear g0 g1 g2 g3 g4 g5 g6 g7 g8 g9 g10
  clear Hb Ht Hp Hq
  have Hb := Hb6
  have Ht := Ht6
  have Hp := Hp6
  have Hq := Hq6
  clear Hb6 Ht6 Hp6 Hq6
  obtain ⟨g0, g1, g2, g3, g4, g5, g6, g7, g8, g9, g10⟩ := Ht.out.all
  simp only [behindV] at g0 g1 g2 g3 g4 g5 g6 g7 g8 g9 g10
  obtain ⟨i0, i1, i2, i3⟩ := Hp.out
  go_upto_region 12 with (first | (go_at_call 23; refine (q23D.out _ _ _ Hb.out Hq.out).mono ?_; rintro e w7 ⟨A7, k7, rfl, _, _, hr7, hb7⟩; have Hb7 : Hid (Below w.heap.size w w7) := bt Hb.out hb7; have Ht7 : Hid (At w7 B9 (behindV s)) := Ht.out.below hb7; have Hr7 := Lib.hid hr7; have Hs7 := Lib.hid (Hr6.out.below hb7); have Hp7 := Lib.hid (Hp.out.below hb7); obtain ⟨j0, j1, j2, j3⟩ := Hp7.out; clear hb7 hr7) | (go_at_call 24; refine (q24D.out _ _ _ _ _ Hb7.out Hr7.out Hs7.out).mono ?_; rintro e w8 ⟨rfl, hb8⟩; have Hb8 : Hid (Below w.heap.size w w8) := bt Hb7.out hb8; have Ht8 : Hid (At w8 B9 (behindV s)) := Ht7.out.below hb8; have Hp8 := Lib.hid (Hp7.out.below hb8); obtain ⟨m0, m1, m2, m3⟩ := Hp8.out; clear hb8))
  clear g0 g1 g2 g3 g4 g5 g6 g7 g8 g9 g10 i0 i1 i2 i3
  clear Hb Ht Hp Hq Hr6 Hb7 Ht7 Hp7 Hr7 Hs7 Hp8 j0 j1 j2 j3 m0 m1 m2 m3
  have Hb := Hb8
  have Ht := Ht8
  clear Hb8 Ht8
  go_upto_region 13 with (go_at_call 27; refine (q27.out _ Hb.out).mono ?_; rintro e w4 ⟨A4, k4, rfl, hR4, hb4⟩; have Hb4 : Hid (Below w.heap.size w w4) := bt Hb.out hb4; have Ht4 : Hid (At w4 B9 (behindV s)) := Ht.out.below hb4; have Hr4 : Hid (Rd w4 A4 (fl gM)) := hR4.rd; clear hb4 hR4)
  refine gen_world (G := fun W => Code.wp _ _ _ _ W) (I := fun W => Below w.heap.size w W ∧ At W B9 (behindV s) ∧ PlG W w4.heap.size A4 gM.length k4 false false false ∧ Rd W A4 (fl gM)) ⟨?_, ?_, ?_, ?_⟩ ?_
  · have := Hb4.out.size
    (repeat (first | (with_reducible refine bs ?_ (by simp) _) | (with_reducible refine bdr ?_) | (with_reducible refine ba ?_ _)))
    exact Hb4.out
  · refine Ht4.out.below ?_
    (repeat (first | (with_reducible refine bs ?_ (by simp) _) | (with_reducible refine bdr ?_) | (with_reducible refine ba ?_ _)))
    exact b0 _
  · refine ⟨?_, ?_, ?_, ?_⟩ <;> simp [go_sem]
  · refine Hr4.out.below ?_
    (repeat (first | (with_reducible refine bs ?_ (by simp) _) | (with_reducible refine bdr ?_) | (with_reducible refine ba ?_ _)))
    exact b0 _
  clear Hb Ht Hb4 Ht4 Hr4
  generalize w4.heap.size = B19
  rintro W ⟨hb, ht, hp, hq⟩
  have Hb := Lib.hid hb
  have Ht := Lib.hid ht
  have Hp := Lib.hid hp
  have Hq := Lib.hid hq
  clear hb ht hp hq
  go_upto_region 14 with (go_at_call 28; refine (q28.out _ Hb.out).mono ?_; rintro e w6 ⟨A6, k6, rfl, _, hr6, hb6⟩; have Hb6 : Hid (Below w.heap.size w w6) := bt Hb.out hb6; have Ht6 : Hid (At w6 B9 (behindV s)) := Ht.out.below hb6; have Hr6 := Lib.hid hr6; have Hq6 := Lib.hid (Hq.out.below hb6); have Hp6 := Lib.hid (Hp.out.below hb6); clear hb6 hr6)
  clear Hb Ht Hp Hq
  have Hb := Hb6
  have Ht := Ht6
  have Hp := Hp6
  have Hq := Hq6
  clear Hb6 Ht6 Hp6 Hq6
  obtain ⟨g0, g1, g2, g3, g4, g5, g6, g7, g8, g9, g10⟩ := Ht.out.all
  simp only [behindV] at g0 g1 g2 g3 g4 g5 g6 g7 g8 g9 g10
  obtain ⟨i0, i1, i2, i3⟩ := Hp.out
  go_wp2_with (first | (go_at_call 23; refine (q23M.out _ _ _ Hb.out Hq.out).mono ?_; rintro e w7 ⟨A7, k7, rfl, _, _, hr7, hb7⟩; have Hb7 : Hid (Below w.heap.size w w7) := bt Hb.out hb7; have Ht7 : Hid (At w7 B9 (behindV s)) := Ht.out.below hb7; have Hr7 := Lib.hid hr7; have Hs7 := Lib.hid (Hr6.out.below hb7); have Hp7 := Lib.hid (Hp.out.below hb7); obtain ⟨j0, j1, j2, j3⟩ := Hp7.out; clear hb7 hr7) | (go_at_call 24; refine (q24M.out _ _ _ _ _ Hb7.out Hr7.out Hs7.out).mono ?_; rintro e w8 ⟨rfl, hb8⟩; have Hb8 : Hid (Below w.heap.size w w8) := bt Hb7.out hb8; have Ht8 : Hid (At w8 B9 (behindV s)) := Ht7.out.below hb8; have Hp8 := Lib.hid (Hp7.out.below hb8); obtain ⟨m0, m1, m2, m3⟩ := Hp8.out; clear hb8) | (go_at_call 8; refine (works8 _).mono ?_; rintro e w9 ⟨rfl, hb9⟩; have Hb9 : Hid (Below w.heap.size w w9) := bt Hb8.out hb9; clear hb9))
  go_ret
  exact ⟨rfl, Hb9.out⟩

end Go.Proofs.Ytmaaekahkeibnaa
