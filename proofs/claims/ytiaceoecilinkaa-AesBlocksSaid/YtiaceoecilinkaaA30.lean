/- AesBlocks: what the statement's function answers. -/
import Derived.Test.YtiaceoecilinkaaA22
import Derived.Test.YtiaceoecilinkaaA29
namespace Go.Proofs.Ytiaceoecilinkaa
open Go.RowKit
set_option linter.unusedSimpArgs false

theorem blocks4_long (A : Option Addr) (c n : Nat) (b : List Value) (w : World) (hl : 100 < n) :
    Calls Try.prog 4 #[.slice A n c, .agg b.toArray] w fun e w' => e = .returned (.bool true) ∧ Below w.heap.size w w' := by
  have h1 : decide ((100 : Int) < (n : Int)) = true := by simp <;> omega
  go_enter Try.func4, Try.ntmps4
  go_wp2_with (go_at_call 10; refine (works10 _).mono ?_; rintro e w4 ⟨rfl, hb4⟩; have Hb4 := Lib.hid hb4; clear hb4)
  go_ret
  exact ⟨rfl, bt (ba (b0 _) _) Hb4.out⟩

set_option maxRecDepth 100000 in
set_option maxHeartbeats 4000000 in
theorem blocks4_in (A : Option Addr) (c : Nat) (k b : List Nat) (w : World) (hA : Rd w A (bvs k)) (hk : ∀ i, k.getD i 0 < 256) (hl : k.length ≤ 100) (lb : b.length = 16) (ub : B256 b) :
    Calls Try.prog 4 #[.slice A k.length c, .agg (bvs b).toArray] w fun e w' => e = .returned (.bool true) ∧ Below w.heap.size w w' := by
  have hkey : B256 (keyD k 32) := keyD_256 hk 32
  have q11 : Hid (∀ W, Below w.heap.size w W → Calls Try.prog 11 #[.slice A k.length c] W fun e w' => ∃ A2 c2, e = .returned (.slice A2 32 c2) ∧ 32 ≤ c2 ∧ Rd w' A2 (bvs (keyD k 32)) ∧ Below W.heap.size W w') := fun W hW =>
    (key11 A c k W (hA.below hW) hl).mono fun e w' ⟨A2, c2, h1, h2, _, h4, h5⟩ => by
      rw [keyD_len] at h1 h2
      exact ⟨A2, c2, h1, h2, h4, h5⟩
  have q12 : Hid (∀ g A2 c2 W, Tabs W g → Rd W A2 (bvs (keyD k 32)) → 32 ≤ c2 → Calls Try.prog 12 #[.pointer (some ⟨g, 0, none⟩), .slice A2 32 c2] W fun e w' => ∃ C, e = .returned (.tuple #[.pointer (some ⟨C, 0, none⟩), .int .i64 0]) ∧ Below W.heap.size W w' ∧ Ciph w' C (KS (keyD k 32))) := fun g A2 c2 W ht hR hc =>
    newK12 g A2 c2 _ W ht hR (keyD_len k 32) hkey hc
  have h1 : decide ((100 : Int) < (k.length : Int)) = false := by simp <;> omega
  have hKl := KS_len (keyD k 32)
  have hK2 := KS_256 hkey
  have q13 : Hid (∀ C W, Ciph W C (KS (keyD k 32)) → Calls Try.prog 13 #[.pointer (some ⟨C, 0, none⟩), .agg (bvs b).toArray] W fun e w' => e = .returned (.agg (bvs (aesP (KS (keyD k 32)) b)).toArray) ∧ Below W.heap.size W w') :=
    fun C W hC => block13 C _ b W hC hKl hK2 lb ub
  have q14 : Hid (∀ W, Calls Try.prog 14 #[] W fun e w' => ∃ X cx, e = .returned (.slice X 256 cx) ∧ Rd w' X (bvs boxLit) ∧ Below W.heap.size W w') := fun W =>
    (boxes14 W).mono fun e w' ⟨A2, c2, h1, h2, _, h4, h5⟩ => by
      rw [boxLit_len] at h1 h2
      exact ⟨A2, c2, h1, h4, h5⟩
  obtain ⟨KW, hKW⟩ : ∃ KW, KW = wl (keyD k 32) 60 := ⟨_, rfl⟩
  have hKWl : KW.length = 60 := by rw [hKW, wl_len]
  have q17 : Hid (∀ X cx A2 c2 W, Rd W X (bvs boxLit) → Rd W A2 (bvs (keyD k 32)) → 32 ≤ c2 → Calls Try.prog 17 #[.slice X 256 cx, .slice A2 32 c2] W fun e w' => ∃ A3 c3 S, e = .returned (.slice A3 60 c3) ∧ S.length = 60 ∧ Rd w' A3 S ∧ RowsOk w' S none KW ∧ Below W.heap.size W w') := fun X cx A2 c2 W hX hR hc =>
    (words17 X A2 cx c2 _ W hX hR (keyD_len k 32) hkey hc KW (fun n hn => by rw [hn, hKW])).mono fun e w' ⟨A3, c3, S, h1, h2, h3, h4, h5⟩ => by
      rw [hKWl] at h1 h2
      exact ⟨A3, c3, S, h1, h2, h3, h4, h5⟩
  have q16 : Hid (∀ X cx A3 c3 S B cb W, Rd W X (bvs boxLit) → S.length = 60 → Rd W A3 S → RowsOk W S none KW → Rd W B (bvs b) → Calls Try.prog 16 #[.slice X 256 cx, .slice A3 60 c3, .slice B 16 cb] W fun e w' => ∃ A c, e = .returned (.slice A 16 c) ∧ Rd w' A (bvs (aesP (KS (keyD k 32)) b)) ∧ Below W.heap.size W w') := fun X cx A3 c3 S B cb W hX hS hR hO hB =>
    block16 X A3 B cx c3 cb KW S _ b W hX hS hR hO hKWl (fun r => by rw [hKW]; exact wds_key) hKl hK2 hB lb ub
  have haes := aes_len b hKl
  have q15 : Hid (∀ A3 c3 B cb W, Rd W A3 (bvs (aesP (KS (keyD k 32)) b)) → Rd W B (bvs (aesP (KS (keyD k 32)) b)) → Calls Try.prog 15 #[.slice A3 16 c3, .slice B 16 cb] W fun e w' => e = .returned (.bool true) ∧ Below W.heap.size W w') := fun A3 c3 B cb W h1 h2 => by
    have h := same15 A3 B c3 cb _ _ W h1 h2 rfl (by rw [haes]; decide)
    rw [haes, show decide (aesP (KS (keyD k 32)) b = aesP (KS (keyD k 32)) b) = true from decide_eq_true rfl] at h
    exact h
  have Hlb : Hid ((bvs b).length = 16) := by show (bvs b).length = 16; rw [bvs_length, lb]
  have Hla : Hid ((bvs (aesP (KS (keyD k 32)) b)).length = 16) := by show (bvs (aesP (KS (keyD k 32)) b)).length = 16; rw [bvs_length, haes]
  have hz := zero28
  have Hzl : Hid ((zs 16).length = 16) := rfl
  have Hone := Lib.hid (bvs_one (aesP (KS (keyD k 32)) b))
  clear hKl hK2 hkey hA hk lb ub haes hKW hKWl
  generalize KS (keyD k 32) = KK at *
  generalize bvs (aesP KK b) = EA at *
  generalize bvs b = VB at *
  generalize zs 16 = ZB at *
  generalize k.length = n at *
  generalize bvs (keyD k 32) = key at *
  generalize bvs boxLit = BX at *
  go_enter Try.func4, Try.ntmps4
  go_upto_region 3 with fail
  refine gen_world (G := fun W => Code.wp _ _ _ _ W) (I := fun W => Below w.heap.size w W ∧ Blk W w.heap.size 28 VB) ⟨?_, ?_⟩ ?_
  · exact ba (b0 _) _
  · exact Blk.new w 28 _
  obtain ⟨B0, hBB⟩ : ∃ B0, B0 = w.heap.size := ⟨_, rfl⟩
  rintro W ⟨hb, k0⟩
  rw [← hBB] at k0
  rw [← hBB]
  clear hBB
  have Hb := Lib.hid hb
  have K0 := Lib.hid k0
  clear hb k0
  go_upto_region 7 with (first
    | (go_at_call 7; refine (build7 _).mono ?_; rintro e w1 ⟨g, rfl, hg, hb1, ht⟩; have Hb1 := Lib.hid hb1; have Ht := Lib.hid ht; clear hg hb1 ht)
    | (go_at_call 11; refine (q11.out _ Hb.out).mono ?_; rintro e w2 ⟨A2, c2, rfl, hc2, hr2, hb2⟩; have Hb2 := Lib.hid hb2; have Hr2 := Lib.hid hr2; have Hc2 := Lib.hid hc2; clear hb2 hr2 hc2)
    | (go_at_call 12; refine (q12.out _ _ _ _ Ht.out (Hr2.out.below Hb1.out) Hc2.out).mono ?_; rintro e w3 ⟨C, rfl, hb3, hc3⟩; have Hb3 := Lib.hid hb3; have Hc3 := Lib.hid hc3; clear hb3 hc3))
  have Hb4 : Hid (Below w.heap.size w w3) := bt (bt (bt Hb.out Hb2.out) Hb1.out) Hb3.out
  have M0 : Hid (Blk w3 B0 28 VB) := ((K0.out.to Hb2.out).to Hb1.out).to Hb3.out
  have Hr3 : Hid (Rd w3 A2 key) := (Hr2.out.below Hb1.out).below Hb3.out
  have Hsz : Hid ((Try.prog.info? 28).map (·.size) = some VB.toArray.size) := by
    show (Try.prog.info? 28).map (·.size) = some VB.toArray.size
    simp [size28, Hlb.out]
  clear Hb Hb1 Hb2 Hb3 K0 Ht Hr2 q11 q12
  go_upto_region 8 with (first
    | (refine wpList_load_row rfl 28 (.tmp 3) rfl B0 rfl 28 VB.toArray (0, 0) _ M0.out Try.underlying28 rfl Hsz.out ?_)
    | (go_at_call 13; refine (q13.out _ _ Hc3.out).mono ?_; rintro e w5 ⟨rfl, hb5⟩; have Hb5 : Hid (Below w.heap.size w w5) := bt Hb4.out hb5; have M5 : Hid (Blk w5 B0 28 VB) := M0.out.to hb5; have Hr5 : Hid (Rd w5 A2 key) := Hr3.out.below hb5; clear hb5)
    | (refine st28 rfl (.tmp 8) (.tmp 30) rfl w5.heap.size EA ZB rfl rfl (Blk.new w5 28 ZB) Hzl.out Hla.out Hone.out ?_; intro w6 hw1 hw2 hw3; have N0 := Lib.hid hw1; have Nb := Lib.hid (hw2 w5.heap.size w5 (ba (b0 _) _) (Nat.le_refl _)); clear hw1 hw2 hw3))
  have Hb6 : Hid (Below w.heap.size w w6) := bt Hb5.out Nb.out
  have M6 : Hid (Blk w6 B0 28 VB) := M5.out.to Nb.out
  have Hr6 : Hid (Rd w6 A2 key) := Hr5.out.below Nb.out
  clear Hb4 M0 Hr3 Hc3 Hb5 M5 Hr5 Nb
  generalize w5.heap.size = B5 at *
  go_upto_region 9 with (go_at_call 14; refine (q14.out _).mono ?_; rintro e w7 ⟨X, cx, rfl, hx7, hb7⟩; have Hb7 : Hid (Below w.heap.size w w7) := bt Hb6.out hb7; have M7 : Hid (Blk w7 B0 28 VB) := M6.out.to hb7; have N7 : Hid (Blk w7 B5 28 EA) := N0.out.to hb7; have Hr7 : Hid (Rd w7 A2 key) := Hr6.out.below hb7; have Hx7 := Lib.hid hx7; clear hb7 hx7)
  clear Hb6 M6 Hr6 N0
  go_region_held3 (fun _ => True) (exact trivial)
    (first
      | (go_at_call 17; refine (q17.out X cx A2 c2 _ (Hx7.out.below (bdr (b0 _))) (Hr7.out.below (bdr (b0 _))) Hc2.out).mono ?_; rintro e w8 ⟨A3, c3, S, rfl, hS, hR, hO, hb8⟩; have HS := Lib.hid hS; have HR := Lib.hid hR; have HO := Lib.hid hO; have Hb8 : Hid (Below w.heap.size w w8) := bt (bdr Hb7.out) hb8; have M8 : Hid (Blk w8 B0 28 VB) := M7.out.drew.to hb8; have N8 : Hid (Blk w8 B5 28 EA) := N7.out.drew.to hb8; have Hx8 : Hid (Rd w8 X BX) := (Hx7.out.below (bdr (b0 _))).below hb8; clear hS hR hO hb8)
      | (go_at_call 16; refine (q16.out X cx A3 c3 S _ _ w8 Hx8.out HS.out HR.out HO.out M8.out.rd).mono ?_; rintro e w9 ⟨A4, c4, rfl, hr9, hb9⟩; have Hr9 := Lib.hid hr9; have Hb9 : Hid (Below w.heap.size w w9) := bt Hb8.out hb9; have N9 : Hid (Blk w9 B5 28 EA) := N8.out.to hb9; clear hr9 hb9)
      | (go_at_call 15; refine (q15.out _ _ A4 c4 w9 N9.out.rd Hr9.out).mono ?_; rintro e w10 ⟨rfl, hb10⟩; have Hb10 : Hid (Below w.heap.size w w10) := bt Hb9.out hb10; clear hb10)
      | (go_at_call 10; refine (works10 _).mono ?_; rintro e w11 ⟨rfl, hb11⟩; have Hb11 : Hid (Below w.heap.size w w11) := bt Hb10.out hb11; clear hb11))
  go_wp2_with fail
  go_ret
  exact ⟨rfl, Hb11.out⟩

theorem blocks4 (A : Option Addr) (c : Nat) (k b : List Nat) (w : World) (hA : Rd w A (bvs k)) (hk : ∀ i, k.getD i 0 < 256) (lb : b.length = 16) (ub : B256 b) :
    Calls Try.prog 4 #[.slice A k.length c, .agg (bvs b).toArray] w fun e w' => e = .returned (.bool true) ∧ Below w.heap.size w w' := by
  by_cases hl : k.length ≤ 100
  · exact blocks4_in A c k b w hA hk hl lb ub
  · exact blocks4_long A c k.length _ w (by omega)
end Go.Proofs.Ytiaceoecilinkaa
