/- RuleOn: what the statement's function answers. -/
import Derived.Test.YtmaaekahkeibnaaA22
import Derived.Test.YtmaaekahkeibnaaA23
import Derived.Test.YtmaaekahkeibnaaA19
namespace Go.Proofs.Ytmaaekahkeibnaa
open Go.RowKit
set_option linter.unusedSimpArgs false

def bh (l : List Ver) : Int := match l with | [] => 1 | v :: _ => bseq v.seq
theorem behind20 (A : Option Addr) (c : Nat) (l : List Ver) (w : World) (hl : l.length ≤ 31) (hA : Rd w A (fl l)) :
    Calls Try.prog 20 #[.slice A l.length c] w fun e w' => e = .returned (behindV (bh l)).agg ∧ Below w.heap.size w w' := by
  cases l with
  | nil => exact behind20_nil A c w
  | cons v t => exact behind20_cons A c v t w (by simp at hl; omega) hA

theorem apP_none (l : List Ver) (nu mk : Bool) (v : Ver) : apP l [] true nu mk v = { v with null := nu, mark := mk } :: l := by
  have h : ∀ x, gone [] x = false := fun x => rfl
  simp [apP, h]

theorem Rd.tail {w : World} {A : Option Addr} {v : Ver} {l : List Ver} (h : Rd w A (fl (v :: l))) : ∃ b o, A = some ⟨b, o, none⟩ ∧ Rd w (some ⟨b, o + 11, none⟩) (fl l) := by
  obtain ⟨b, o, rfl, _, hc⟩ := h.at_ (by rw [fl_length]; simp)
  refine ⟨b, o, rfl, .inr ⟨b, o + 11, rfl, fun j u hu => ?_⟩⟩
  have := hc (11 + j) u (by
    show (v.cells ++ fl l)[11 + j]? = _
    rw [List.getElem?_append_right (by rw [cells_length]; omega), cells_length]
    simpa using hu)
  rwa [← Nat.add_assoc] at this

set_option maxRecDepth 100000 in
set_option maxHeartbeats 8000000 in
theorem on4_out (A : Option Addr) (c : Nat) (l : List Ver) (now : Int) (w : World) (hA : Rd w A (fl l)) (hr : ¬ Right l) :
    Calls Try.prog 4 #[.slice A l.length c, .int .i64 now] w fun e w' => e = .returned (.bool true) ∧ Below w.heap.size w w' := by
  have q7 := Lib.hid (right7a A c l w hA)
  simp only [hr, decide_false] at q7
  clear hA hr
  generalize l.length = n at *
  go_enter Try.func4, Try.ntmps4
  go_wp2_with (first | (go_at_call 7; refine (q7.out).mono ?_; rintro e w1 ⟨rfl, hb1⟩) | (go_at_call 8; refine (works8 _).mono ?_; rintro e w2 ⟨rfl, hb2⟩))
  go_ret
  exact ⟨rfl, bt hb1 hb2⟩

/-- A plan's cells in a block: another version comes, a nameless one not. -/
def Pl (W : World) (B : Nat) (A : Option Addr) (k : Nat) (mk : Bool) : Prop :=
  W.cell? ⟨B, 0, none⟩ = some (.slice A 0 k) ∧ W.cell? ⟨B, 1, none⟩ = some (.bool true) ∧ W.cell? ⟨B, 2, none⟩ = some (.bool false) ∧ W.cell? ⟨B, 3, none⟩ = some (.bool mk)
theorem Pl.below {W W' : World} {B k : Nat} {A : Option Addr} {mk : Bool} (h : Pl W B A k mk) (hb : Below W.heap.size W W') : Pl W' B A k mk := by
  have hB : B < W.heap.size := World.block_lt_of_cell? W _ h.1
  have hc := (bcell hb).1
  exact ⟨(hc _ _ hB).trans h.1, (hc _ _ hB).trans h.2.1, (hc _ _ hB).trans h.2.2.1, (hc _ _ hB).trans h.2.2.2⟩

def bv (s : Int) (mk : Bool) : Ver := { behindV s with null := false, mark := mk }

set_option maxRecDepth 100000 in
set_option maxHeartbeats 8000000 in
theorem on4_in (A : Option Addr) (c : Nat) (l : List Ver) (now : Int) (w : World) (hA : Rd w A (fl l)) (hg : ∀ v ∈ l, v.good w) (hr : Right l) :
    Calls Try.prog 4 #[.slice A l.length c, .int .i64 now] w fun e w' => e = .returned (.bool true) ∧ Below w.heap.size w w' := by
  have hl := hr.1
  have q7 := Lib.hid (right7a A c l w hA)
  simp only [hr, decide_true] at q7
  have q20 := Lib.hid (fun W (hb : Below w.heap.size w W) => behind20 A c l W (by omega) (hA.below hb))
  generalize bh l = s at *
  have q21 := Lib.hid (fun W (hb : Below w.heap.size w W) => put21 A c l 1 now W (by omega) (hA.below hb))
  have q22 := Lib.hid (fun W (hb : Below w.heap.size w W) => del22 A c l 1 now W (by omega) (hA.below hb))
  have p1 : putP l 1 now = ([], true, false, 0) := by simp [putP]
  have p2 : delP l 1 now = ([], true, false, true, 0) := by simp [delP]
  rw [p1] at q21
  rw [p2] at q22
  have q23 : Hid (∀ (G : Option Addr) (k : Nat) (mk : Bool) W, Below w.heap.size w W → Calls Try.prog 23 #[.slice A l.length c, .agg #[.slice G 0 k, .bool true, .bool false, .bool mk], .agg #[.int .i64 s, .bool false, .bool false, .int .i64 0, .int .i64 0, .int .i64 0, .slice none 0 0, .slice none 0 0, .int .i64 0, .slice none 0 0, .slice none 0 0]] W (ListRes W (bv s mk :: l))) := by
    intro G k mk W hb
    have h := apply23 A c l G k [] true false mk (behindV s) W (by omega) (by simp) (hA.below hb) (.inl rfl)
    rw [apP_none] at h
    exact h
  have q12 : Hid (∀ (G : Option Addr) (k : Nat) (mk : Bool) W, Rd W G (fl (bv s mk :: l)) → Calls Try.prog 12 #[.slice G (l.length + 1) k] W fun e w' => e = .returned (.tuple #[.agg #[.int .i64 s, .bool false, .bool mk, .int .i64 0, .int .i64 0, .int .i64 0, .slice none 0 0, .slice none 0 0, .int .i64 0, .slice none 0 0, .slice none 0 0], .bool (!mk)]) ∧ Below W.heap.size W w') := by
    intro G k mk W hR
    exact there12 G k (bv s mk :: l) W (by simp; omega) hR
  have q24 : Hid (∀ (G : Option Addr) (k : Nat) W, Below w.heap.size w W → Rd W G (fl l) → Calls Try.prog 24 #[.slice G l.length k, .slice A l.length c] W fun e w' => e = .returned (.bool true) ∧ Below W.heap.size W w') := by
    intro G k W hb hR
    exact same24 w G A k c l W hb (by omega) hg hR (hA.below hb)
  simp only [PlanRes, ListRes, List.length_nil, List.length_cons] at q21 q22 q23
  simp only [behindV, Ver.agg, Ver.cells] at q20
  clear hA hg hr p1 p2
  generalize hn : l.length = n at *
  go_enter Try.func4, Try.ntmps4
  go_upto_region 4 with (first | (go_at_call 7; refine (q7.out).mono ?_; rintro e w1 ⟨rfl, hb1⟩; have Hb1 := Lib.hid hb1; clear hb1) | (go_at_call 20; refine (q20.out _ Hb1.out).mono ?_; rintro e w2 ⟨rfl, hb2⟩; have Hb2 : Hid (Below w.heap.size w w2) := bt Hb1.out hb2; clear hb2))
  refine gen_world (G := fun W => Code.wp _ _ _ _ W) (I := fun W => Below w.heap.size w W ∧ At W w2.heap.size (behindV s)) ⟨?_, ?_⟩ ?_
  · have := Hb2.out.size
    (repeat (first | (with_reducible refine bs ?_ (by simp) _) | (with_reducible refine bdr ?_) | (with_reducible refine ba ?_ _)))
    exact Hb2.out
  · apply At.mk <;> simp [go_sem, behindV]
  generalize w2.heap.size = B5
  rintro W3 ⟨HB3, HT3⟩
  have Hb3 := Lib.hid HB3
  have Ht3 := Lib.hid HT3
  clear HB3 HT3
  go_upto_region 5 with (go_at_call 21; refine (q21.out _ Hb3.out).mono ?_; rintro e w4 ⟨A4, k4, rfl, hR4, hb4⟩; have Hb4 : Hid (Below w.heap.size w w4) := bt Hb3.out hb4; have Ht4 : Hid (At w4 B5 (behindV s)) := Ht3.out.below hb4; clear hb4 hR4)
  refine gen_world (G := fun W => Code.wp _ _ _ _ W) (I := fun W => Below w.heap.size w W ∧ At W B5 (behindV s) ∧ Pl W w4.heap.size A4 k4 false) ⟨?_, ?_, ?_⟩ ?_
  · have := Hb4.out.size
    (repeat (first | (with_reducible refine bs ?_ (by simp) _) | (with_reducible refine bdr ?_) | (with_reducible refine ba ?_ _)))
    exact Hb4.out
  · refine Ht4.out.below ?_
    (repeat (first | (with_reducible refine bs ?_ (by simp) _) | (with_reducible refine bdr ?_) | (with_reducible refine ba ?_ _)))
    exact b0 _
  · refine ⟨?_, ?_, ?_, ?_⟩ <;> simp [go_sem]
  generalize w4.heap.size = B6
  rintro W5 ⟨HB5, HT5, HP5⟩
  have Hb5 := Lib.hid HB5
  have Ht5 := Lib.hid HT5
  have Hp5 := Lib.hid HP5
  clear HB5 HT5 HP5
  go_upto_region 6 with (go_at_call 22; refine (q22.out _ Hb5.out).mono ?_; rintro e w6 ⟨A6, k6, rfl, hR6, hb6⟩; have Hb6 : Hid (Below w.heap.size w w6) := bt Hb5.out hb6; have Ht6 : Hid (At w6 B5 (behindV s)) := Ht5.out.below hb6; have Hp6 : Hid (Pl w6 B6 A4 k4 false) := Hp5.out.below hb6; clear hb6 hR6)
  refine gen_world (G := fun W => Code.wp _ _ _ _ W) (I := fun W => Below w.heap.size w W ∧ At W B5 (behindV s) ∧ Pl W B6 A4 k4 false ∧ Pl W w6.heap.size A6 k6 true) ⟨?_, ?_, ?_, ?_⟩ ?_
  · have := Hb6.out.size
    (repeat (first | (with_reducible refine bs ?_ (by simp) _) | (with_reducible refine bdr ?_) | (with_reducible refine ba ?_ _)))
    exact Hb6.out
  · refine Ht6.out.below ?_
    (repeat (first | (with_reducible refine bs ?_ (by simp) _) | (with_reducible refine bdr ?_) | (with_reducible refine ba ?_ _)))
    exact b0 _
  · refine Hp6.out.below ?_
    (repeat (first | (with_reducible refine bs ?_ (by simp) _) | (with_reducible refine bdr ?_) | (with_reducible refine ba ?_ _)))
    exact b0 _
  · refine ⟨?_, ?_, ?_, ?_⟩ <;> simp [go_sem]
  generalize w6.heap.size = B8
  rintro W7 ⟨HB7, HT7, HP7, HQ7⟩
  have Hb7 := Lib.hid HB7
  have Ht7 := Lib.hid HT7
  have Hq7 := Lib.hid HQ7
  obtain ⟨g0, g1, g2, g3, g4, g5, g6, g7, g8, g9, g10⟩ := HT7.all
  simp only [behindV] at g0 g1 g2 g3 g4 g5 g6 g7 g8 g9 g10
  obtain ⟨i0, i1, i2, i3⟩ := HP7
  clear HB7 HT7 HQ7
  go_upto_region 7 with (go_at_call 23; refine (q23.out _ _ _ _ Hb7.out).mono ?_; rintro e w8 ⟨A8, k8, rfl, hk8, hn8, hR8, hb8⟩; have Hb8 : Hid (Below w.heap.size w w8) := bt Hb7.out hb8; have Hr8 := Lib.hid hR8; have Ht8 : Hid (At w8 B5 (behindV s)) := Ht7.out.below hb8; have Hq8 : Hid (Pl w8 B8 A6 k6 true) := Hq7.out.below hb8; clear hb8 hR8 hn8)
  clear g0 g1 g2 g3 g4 g5 g6 g7 g8 g9 g10 i0 i1 i2 i3
  obtain ⟨g0, g1, g2, g3, g4, g5, g6, g7, g8, g9, g10⟩ := Ht8.out.all
  simp only [behindV] at g0 g1 g2 g3 g4 g5 g6 g7 g8 g9 g10
  obtain ⟨i0, i1, i2, i3⟩ := Hq8.out
  go_upto_region 8 with (go_at_call 23; refine (q23.out _ _ _ _ Hb8.out).mono ?_; rintro e w9 ⟨A9, k9, rfl, hk9, hn9, hR9, hb9⟩; have Hb9 : Hid (Below w.heap.size w w9) := bt Hb8.out hb9; have Hr9 := Lib.hid hR9; have HR8 : Hid (Rd w9 A8 (fl (bv s false :: l))) := Hr8.out.below hb9; clear hb9 hR9 hn9)
  clear g0 g1 g2 g3 g4 g5 g6 g7 g8 g9 g10 i0 i1 i2 i3
  have hq1 : (((n : Int) + 1) != ((n : Int) + 1)) = false := by simp
  have hq2 : (1 : Int) ≤ (n : Int) + 1 := by omega
  have hq3 : (1 : Nat) ≤ n + 1 := by omega
  have hq4 : (1 : Nat) ≤ k8 := by have := hk8; simp at this; omega
  have hq5 : (1 : Nat) ≤ k9 := by have := hk9; simp at this; omega
  have hk8' : n + 1 ≤ k8 := by have := hk8; simp at this; omega
  have hk9' : n + 1 ≤ k9 := by have := hk9; simp at this; omega
  clear hk8 hk9
  obtain ⟨b8, o8, rfl, hT8⟩ := HR8.out.tail
  obtain ⟨b9, o9, rfl, hT9⟩ := Hr9.out.tail
  have HT8 := Lib.hid hT8
  have HT9 := Lib.hid hT9
  clear hT8 hT9
  go_upto_region 11 with (go_at_call 12; refine (q12.out _ _ false _ HR8.out).mono ?_; rintro e w10 ⟨rfl, hb10⟩; have Hb10 := Lib.hid hb10; clear hb10)
  refine gen_world (G := fun W => Code.wp _ _ _ _ W) (I := fun W => Below w9.heap.size w9 W) ?_ ?_
  · have := Hb10.out.size
    (repeat (first | (with_reducible refine bs ?_ (by simp) _) | (with_reducible refine bdr ?_) | (with_reducible refine ba ?_ _)))
    exact Hb10.out
  intro W11 hb11
  have Hb11 := Lib.hid hb11
  clear hb11
  go_upto_region 12 with (go_at_call 12; refine (q12.out _ _ true _ (Hr9.out.below Hb11.out)).mono ?_; rintro e w12 ⟨rfl, hb12⟩; have Hb12 := Lib.hid hb12; clear hb12)
  refine gen_world (G := fun W => Code.wp _ _ _ _ W) (I := fun W => Below w9.heap.size w9 W) ?_ ?_
  · have := Hb12.out.size
    have := Hb11.out.size
    (repeat (first | (with_reducible refine bs ?_ (by simp) _) | (with_reducible refine bdr ?_) | (with_reducible refine ba ?_ _)))
    exact bt Hb11.out Hb12.out
  intro W13 hb13
  have Hb13 := Lib.hid hb13
  clear hb13
  have Hn := Lib.hid hn
  clear hn
  by_cases h0 : n = 0
  · have hl0 : l = [] := List.eq_nil_of_length_eq_zero (by have := Hn.out; omega)
    have HX : Hid (∀ W G, Rd W G (fl l)) := fun W G => .inl (by rw [hl0]; rfl)
    clear hl0
    subst h0
    have h8 : (k8 = 1) = True ∨ (k8 = 1) = False := by by_cases h : k8 = 1 <;> simp [h]
    have h9 : (k9 = 1) = True ∨ (k9 = 1) = False := by by_cases h : k9 = 1 <;> simp [h]
    have HX8 := HX
    rcases h8 with h8 | h8 <;> rcases h9 with h9 | h9
    all_goals
    go_wp2_with (first | (go_at_call 8; refine (works8 _).mono ?_; rintro e w16 ⟨rfl, hb16⟩; have Hb16 := Lib.hid hb16; clear hb16) | (go_at_call 24; refine (q24.out _ _ _ (bt Hb9.out Hb13.out) (HX8.out _ _)).mono ?_; rintro e w14 ⟨rfl, hb14⟩; have Hb14 := Lib.hid hb14; clear hb14 HX8) | (go_at_call 24; refine (q24.out _ _ _ (bt (bt Hb9.out Hb13.out) Hb14.out) (HX.out _ _)).mono ?_; rintro e w15 ⟨rfl, hb15⟩; have Hb15 := Lib.hid hb15; clear hb15))
    all_goals (go_ret; exact ⟨rfl, bt (bt (bt (bt Hb9.out Hb13.out) Hb14.out) Hb15.out) Hb16.out⟩)
  · have h8a : (k8 = 1) = False := by simp; omega
    have h9a : (k9 = 1) = False := by simp; omega
    clear h0
    go_wp2_with (first | (go_at_call 8; refine (works8 _).mono ?_; rintro e w16 ⟨rfl, hb16⟩; have Hb16 := Lib.hid hb16; clear hb16) | (go_at_call 24; refine (q24.out _ _ _ (bt Hb9.out Hb13.out) (HT8.out.below Hb13.out)).mono ?_; rintro e w14 ⟨rfl, hb14⟩; have Hb14 := Lib.hid hb14; clear hb14 HT8) | (go_at_call 24; refine (q24.out _ _ _ (bt (bt Hb9.out Hb13.out) Hb14.out) ((HT9.out.below Hb13.out).below Hb14.out)).mono ?_; rintro e w15 ⟨rfl, hb15⟩; have Hb15 := Lib.hid hb15; clear hb15))
    all_goals (go_ret; exact ⟨rfl, bt (bt (bt (bt Hb9.out Hb13.out) Hb14.out) Hb15.out) Hb16.out⟩)

theorem on4 (A : Option Addr) (c : Nat) (l : List Ver) (now : Int) (w : World) (hA : Rd w A (fl l)) (hg : ∀ v ∈ l, v.good w) :
    Calls Try.prog 4 #[.slice A l.length c, .int .i64 now] w fun e w' => e = .returned (.bool true) ∧ Below w.heap.size w w' := by
  by_cases hr : Right l
  · exact on4_in A c l now w hA hg hr
  · exact on4_out A c l now w hA hr

end Go.Proofs.Ytmaaekahkeibnaa
