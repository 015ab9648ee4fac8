/- The reference's Block. -/
import Derived.Test.YtiaceoecilinkaaA28
import Derived.Test.YtiaceoecilinkaaA24
namespace Go.Proofs.Ytiaceoecilinkaa
open Go.RowKit
set_option linter.unusedSimpArgs false

/-- What a call hands back: these sixteen bytes. -/
def B16 (W : World) (r : List Nat) (e : Ending) (w' : World) : Prop := ∃ A c, e = .returned (.slice A 16 c) ∧ Rd w' A (bvs r) ∧ Below W.heap.size W w'
theorem BytRes.b16 {W : World} {r : List Nat} {e : Ending} {w' : World} (h : BytRes W r e w') (hl : r.length = 16) : B16 W r e w' := by
  obtain ⟨A, c, h1, _, _, h4, h5⟩ := h
  rw [hl] at h1
  exact ⟨A, c, h1, h4, h5⟩

set_option maxHeartbeats 4000000 in
theorem block16 (X A B : Option Addr) (cx c cb : Nat) (L : List Wd) (S : List Value) (K b : List Nat) (w : World) (hX : Rd w X (bvs boxLit)) (hS : S.length = 60) (hA : Rd w A S) (hR : RowsOk w S none L) (hL : L.length = 60)
    (hK : ∀ r : Nat, ((L.drop (4 * r)).take 4).flatMap Wd.bs = rk K r) (hKl : K.length = 240) (hKb : B256 K) (hB : Rd w B (bvs b)) (hb : b.length = 16) (hbb : B256 b) :
    Calls Try.prog 16 #[.slice X 256 cx, .slice A 60 c, .slice B 16 cb] w (B16 w (aesP K b)) := by
  have q28 : Hid (∀ r : Nat, r < 15 → ∀ W, Below w.heap.size w W → Calls Try.prog 28 #[.slice A 60 c, .int .i64 (r : Int)] W (B16 W (rk K r))) := fun r hr W hW =>
    (roundKey28 A c L S r W hS (hA.below hW) (hR.below hW) hL hr).mono fun _ _ h => by
      rw [hK r] at h
      exact h.b16 (rk_len hKl hr)
  have q27 : Hid (∀ A1 B1 c1 d1 (x y : List Nat) W, x.length = 16 ∧ B256 x → y.length = 16 ∧ B256 y → Rd W A1 (bvs x) → Rd W B1 (bvs y) → Calls Try.prog 27 #[.slice A1 16 c1, .slice B1 16 d1] W (B16 W (xorL x y))) := fun A1 B1 c1 d1 x y W hx hy h1 h2 => by
    have h := both27 A1 B1 c1 d1 x y W h1 h2 hx.2 hy.2 (by rw [hx.1, hy.1]) (by rw [hx.1]; decide)
    rw [hx.1, hy.1] at h
    exact h.mono fun _ _ h => h.b16 (xor_len hx.1 hy.1)
  have q30 : Hid (∀ A1 c1 (x : List Nat) W, Below w.heap.size w W → x.length = 16 ∧ B256 x → Rd W A1 (bvs x) → Calls Try.prog 30 #[.slice X 256 cx, .slice A1 16 c1] W (B16 W (shL x))) := fun A1 c1 x W hW hx h1 =>
    (shifted30 X cx A1 c1 x W (hX.below hW) h1 hx.1 hx.2).mono fun _ _ h => h.b16 (map16_len _)
  have q29 : Hid (∀ A1 c1 (x : List Nat) W, x.length = 16 ∧ B256 x → Rd W A1 (bvs x) → Calls Try.prog 29 #[.slice A1 16 c1] W (B16 W (mxL x))) := fun A1 c1 x W hx h1 =>
    (mixed29 A1 c1 x W h1 hx.1 hx.2).mono fun _ _ h => h.b16 (map16_len _)
  have Hrk : Hid (∀ r : Nat, r < 15 → (rk K r).length = 16 ∧ B256 (rk K r)) := fun r hr => ⟨rk_len hKl hr, rk_256 _ hKb⟩
  have Hrn : Hid (∀ r : Nat, r < 14 → (rnd K b r).length = 16 ∧ B256 (rnd K b r)) := rnd_ok hKl hKb hb hbb
  have Hsh : Hid (∀ x, (shL x).length = 16 ∧ B256 (shL x)) := fun x => ⟨map16_len _, sh_256 _⟩
  have Hmx : Hid (∀ x, (mxL (shL x)).length = 16 ∧ B256 (mxL (shL x))) := fun x => ⟨map16_len _, mx_256 (sh_256 _)⟩
  have H0 : Hid (xorL b (rk K 0) = rnd K b 0) := rfl
  have Hn : Hid (∀ r : Nat, xorL (mxL (shL (rnd K b r))) (rk K (r + 1)) = rnd K b (r + 1)) := fun _ => rfl
  have Ha : Hid (xorL (shL (rnd K b 13)) (rk K 14) = aesP K b) := rfl
  have HB0 := Lib.hid hB
  have Hb16 : Hid (b.length = 16 ∧ B256 b) := ⟨hb, hbb⟩
  clear hX hS hA hR hL hK hKl hKb hB hb hbb
  generalize aesP K b = res at *
  generalize rnd K b = RN at *
  generalize rk K = RK at *
  have q28z : Hid (∀ W, Below w.heap.size w W → Calls Try.prog 28 #[.slice A 60 c, .int .i64 0] W (B16 W (RK 0))) := fun W hW => q28.out 0 (by omega) W hW
  go_enter Try.func16, Try.ntmps16
  go_upto_region 2 with (first
    | (go_at_call 28; ((with_reducible refine (q28z.out _ (b0 _)).mono ?_)); rintro e w1 ⟨A1, c1, rfl, hr1, hb1⟩; have Hr1 := Lib.hid hr1; have Hb1 := Lib.hid hb1; clear hr1 hb1)
    | (go_at_call 27; ((with_reducible refine (q27.out _ _ _ _ b (RK 0) _ Hb16.out (Hrk.out 0 (by omega)) (HB0.out.below Hb1.out) Hr1.out).mono ?_)); rintro e w2 ⟨A2, c2, rfl, hr2, hb2⟩; have Hr2 := Lib.hid hr2; have Hb2 : Hid (Below w.heap.size w w2) := bt Hb1.out hb2; clear hr2 hb2))
  rw [H0.out] at Hr2
  go_wp2_with fail
  go_loopw [7, 8] (fun o i wr => ∃ r : Nat, r ≤ 13 ∧ i = .int .i64 ((r : Int) + 1) ∧ ∃ A3 c3, o = .slice A3 16 c3 ∧ Hid (Rd wr A3 (bvs (RN r))) ∧ Hid (Below w.heap.size w wr)) (fun _ i _ => 14 - (intOf i).toNat)
  case atStart => exact ⟨0, by omega, rfl, _, _, rfl, Hr2.out, Hb2.out⟩
  case round =>
    obtain ⟨r, hr, rfl, A3, c3, rfl, HR, HB⟩ := hrel
    clear Hr1 Hr2 Hb1 Hb2
    by_cases hlt : r < 13
    · have hkz : (r : Int) + 1 < 14 := by omega
      have hk0 : (0 : Int) ≤ (r : Int) + 1 := by omega
      have HRr := Lib.hid (Hrn.out r (by omega))
      have Hnr := Lib.hid (Hn.out r)
      have q28r : Hid (∀ W, Below w.heap.size w W → Calls Try.prog 28 #[.slice A 60 c, .int .i64 ((r : Int) + 1)] W (B16 W (RK (r + 1)))) := fun W hW => q28.out (r + 1) (by omega) W hW
      have Hkr := Lib.hid (Hrk.out (r + 1) (by omega))
      generalize RN r = x at *
      go_wp2_with (first
        | (go_at_call 30; ((with_reducible refine (q30.out _ _ x _ HB.out HRr.out HR.out).mono ?_)); rintro e w1 ⟨A1, c1, rfl, hr1, hb1⟩; have Hr1 := Lib.hid hr1; have Hb1 : Hid (Below w.heap.size w w1) := bt HB.out hb1; clear hr1 hb1)
        | (go_at_call 29; ((with_reducible refine (q29.out _ _ _ _ (Hsh.out x) Hr1.out).mono ?_)); rintro e w2 ⟨A2, c2, rfl, hr2, hb2⟩; have Hr2 := Lib.hid hr2; have Hb2 : Hid (Below w.heap.size w w2) := bt Hb1.out hb2; clear hr2 hb2)
        | (go_at_call 28; ((with_reducible refine (q28r.out _ Hb2.out).mono ?_)); rintro e w4 ⟨A4, c4, rfl, hr4, hb4⟩; have Hr4 := Lib.hid hr4; have Hb4 : Hid (Below w.heap.size w w4) := bt Hb2.out hb4; have Hr24 : Hid (Rd w4 A2 (bvs (mxL (shL x)))) := Hr2.out.below hb4; clear hr4 hb4)
        | (go_at_call 27; ((with_reducible refine (q27.out _ _ _ _ _ _ _ (Hmx.out x) Hkr.out Hr24.out Hr4.out).mono ?_)); rintro e w5 ⟨A5, c5, rfl, hr5, hb5⟩; have Hr5 := Lib.hid hr5; have Hb5 : Hid (Below w.heap.size w w5) := bt Hb4.out hb5; clear hr5 hb5))
      rw [Hnr.out] at Hr5
      go_roundw
      case rel => exact ⟨r + 1, by omega, by go_num, _, _, rfl, Hr5.out, Hb5.out⟩
      case measure => simp [intOf]; omega
    · have : r = 13 := by omega
      subst this
      have HRr := Lib.hid (Hrn.out 13 (by omega))
      have Hkr := Lib.hid (Hrk.out 14 (by omega))
      have q28r : Hid (∀ W, Below w.heap.size w W → Calls Try.prog 28 #[.slice A 60 c, .int .i64 14] W (B16 W (RK 14))) := fun W hW => q28.out 14 (by omega) W hW
      generalize RN 13 = x at *
      go_wp2_with (first
        | (go_at_call 30; ((with_reducible refine (q30.out _ _ x _ HB.out HRr.out HR.out).mono ?_)); rintro e w1 ⟨A1, c1, rfl, hr1, hb1⟩; have Hr1 := Lib.hid hr1; have Hb1 : Hid (Below w.heap.size w w1) := bt HB.out hb1; clear hr1 hb1)
        | (go_at_call 28; ((with_reducible refine (q28r.out _ Hb1.out).mono ?_)); rintro e w4 ⟨A4, c4, rfl, hr4, hb4⟩; have Hr4 := Lib.hid hr4; have Hb4 : Hid (Below w.heap.size w w4) := bt Hb1.out hb4; have Hr24 : Hid (Rd w4 A1 (bvs (shL x))) := Hr1.out.below hb4; clear hr4 hb4)
        | (go_at_call 27; ((with_reducible refine (q27.out _ _ _ _ _ _ _ (Hsh.out x) Hkr.out Hr24.out Hr4.out).mono ?_)); rintro e w5 ⟨A5, c5, rfl, hr5, hb5⟩; have Hr5 := Lib.hid hr5; have Hb5 : Hid (Below w.heap.size w w5) := bt Hb4.out hb5; clear hr5 hb5))
      rw [Ha.out] at Hr5
      go_ret
      exact ⟨_, _, rfl, Hr5.out, Hb5.out⟩
end Go.Proofs.Ytiaceoecilinkaa
