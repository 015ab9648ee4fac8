/- The reference's inverse and Box: what they answer. -/
import Derived.Test.YtiaceoecilinkaaA3
namespace Go.Proofs.Ytiaceoecilinkaa
open Go.RowKit
set_option linter.unusedSimpArgs false

/-- The first byte from i on that times c is 1. -/
def invF (c : Nat) : Nat → Nat → Nat
  | 0, _ => 0
  | f + 1, i => if times c i = 1 then i else invF c f (i + 1)
def rinv (c : Nat) : Nat := invF c 255 1
theorem rinv_go (c m : Nat) (h1 : 1 ≤ m) (hm : m ≤ 256) (hn : ∀ j, 1 ≤ j → j < m → times c j ≠ 1) : rinv c = invF c (256 - m) m := by
  induction m with
  | zero => omega
  | succ k ih =>
    by_cases h0 : k = 0
    · subst h0; rfl
    · rw [ih (by omega) (by omega) (fun j h1 h2 => hn j h1 (by omega)), show 256 - k = (256 - (k + 1)) + 1 from by omega, invF, if_neg (hn k (by omega) (by omega))]

set_option maxRecDepth 100000 in
set_option maxHeartbeats 1000000 in
theorem inverse19 (c : Nat) (w : World) (hc : c < 256) : Calls Try.prog 19 #[.int .u8 (c : Int)] w fun e w' => e = .returned (.int .u8 (rinv c : Nat)) ∧ w = w' := by
  have Hr := Lib.hid (rinv_go c)
  generalize rinv c = r at *
  go_enter Try.func19, Try.ntmps19
  go_wp2_with fail
  go_loop [3] (fun i => ∃ m : Nat, 1 ≤ m ∧ m ≤ 256 ∧ i = .int .i64 m ∧ Hid (∀ j, 1 ≤ j → j < m → times c j ≠ 1)) (fun i => 256 - (intOf i).toNat)
  case atStart => exact ⟨1, by omega, by omega, rfl, fun j h1 h2 => by omega⟩
  case round =>
    obtain ⟨m, h1m, hm, rfl, HN⟩ := hrel
    by_cases hlt : m < 256
    · have hkz : (m : Int) < 256 := by omega
      have hk0 : (0 : Int) ≤ (m : Int) := by omega
      by_cases h1 : times c m = 1
      · have q31 : Hid (Calls Try.prog 31 #[.int .u8 (c : Int), .int .u8 (m : Int)] w fun e w' => e = .returned (.int .u8 1) ∧ w = w') := by
          have h := times31 c m w hc (by omega)
          rw [h1] at h
          exact h
        have Hk : Hid (r = m) := by
          show r = m
          rw [Hr.out m h1m hm HN.out, show 256 - m = (255 - m) + 1 from by omega, invF, if_pos h1]
        clear h1
        go_wp2_with (go_at_call 31; refine (q31.out).mono ?_; rintro e w' ⟨rfl, rfl⟩)
        go_ret
        exact ⟨by rw [Hk.out]; rfl, rfl⟩
      · have q31 := Lib.hid (times31 c m w hc (by omega))
        have ht : (((times c m : Nat) : Int) == 1) = false := by simp; omega
        have HNN : Hid (∀ j, 1 ≤ j → j < m + 1 → times c j ≠ 1) := fun j a b => by
          by_cases e : j = m
          · rw [e]; exact h1
          · exact HN.out j a (by omega)
        clear h1
        generalize times c m = t at *
        go_wp2_with (go_at_call 31; refine (q31.out).mono ?_; rintro e w' ⟨rfl, rfl⟩)
        go_round
        case rel => exact ⟨m + 1, by omega, by omega, by go_num, HNN⟩
        case measure => simp [intOf]; omega
    · have Hk : Hid (r = 0) := by
        show r = 0
        rw [Hr.out m h1m hm HN.out, show 256 - m = 0 from by omega]; rfl
      have hk2 : ¬ (m : Int) < 256 := by omega
      go_wp2_with fail
      go_ret
      exact ⟨by rw [Hk.out]; rfl, rfl⟩

/-- A bit of what the byte becomes, before it is cut. -/
def btn (v k : Nat) : Nat := v / 2 ^ k ^^^ v / 2 ^ ((k + 4) % 8) ^^^ v / 2 ^ ((k + 5) % 8) ^^^ v / 2 ^ ((k + 6) % 8) ^^^ v / 2 ^ ((k + 7) % 8) ^^^ 99 / 2 ^ k
def ro (v : Nat) : Nat → Nat
  | 0 => 0
  | k + 1 => ro v k ||| (btn v k % 2 * 2 ^ k)
theorem ro_lt (v : Nat) : ∀ k, k ≤ 8 → ro v k < 256
  | 0, _ => (by decide : 0 < 256)
  | k + 1, h => Nat.or_lt_two_pow (n := 8) (ro_lt v k (by omega)) (by
      have h1 : btn v k % 2 < 2 := Nat.mod_lt _ (by decide)
      have h2 : 2 ^ k ≤ 2 ^ 7 := Nat.pow_le_pow_right (by decide) (by omega)
      have h3 : btn v k % 2 * 2 ^ k ≤ 1 * 2 ^ 7 := Nat.mul_le_mul (by omega) h2
      omega)
theorem box_all : (List.range 256).all (fun c => ro (rinv c) 8 == sb c) = true := by decide +kernel
theorem box_eq (c : Nat) (hc : c < 256) : ro (rinv c) 8 = sb c := by
  have h := List.all_eq_true.1 box_all c (List.mem_range.2 hc)
  simpa using h
theorem rinv_lt (c : Nat) (hc : c < 256) : rinv c < 256 := by
  have h : (List.range 256).all (fun c => decide (rinv c < 256)) = true := by decide +kernel
  simpa using List.all_eq_true.1 h c (List.mem_range.2 hc)

theorem x6 {a b c d e f : Nat} {A B C D E F : Int} (ha : A = a) (hb : B = b) (hc : C = c) (hd : D = d) (he : E = e) (hf : F = f) (la : a < 256) (lb : b < 256) (lc : c < 256) (ld : d < 256) (le : e < 256) (lf : f < 256) :
    bits .xor .u8 (bits .xor .u8 (bits .xor .u8 (bits .xor .u8 (bits .xor .u8 A B) C) D) E) F = ((a ^^^ b ^^^ c ^^^ d ^^^ e ^^^ f : Nat) : Int) ∧ a ^^^ b ^^^ c ^^^ d ^^^ e ^^^ f < 256 := by
  have h1 : a ^^^ b < 2 ^ 8 := Nat.xor_lt_two_pow la lb
  have h2 : a ^^^ b ^^^ c < 2 ^ 8 := Nat.xor_lt_two_pow h1 lc
  have h3 : a ^^^ b ^^^ c ^^^ d < 2 ^ 8 := Nat.xor_lt_two_pow h2 ld
  have h4 : a ^^^ b ^^^ c ^^^ d ^^^ e < 2 ^ 8 := Nat.xor_lt_two_pow h3 le
  have h5 : a ^^^ b ^^^ c ^^^ d ^^^ e ^^^ f < 2 ^ 8 := Nat.xor_lt_two_pow h4 lf
  rw [ha, hb, hc, hd, he, hf, u8_xor_nat a b la lb, u8_xor_nat _ c h1 lc, u8_xor_nat _ d h2 ld, u8_xor_nat _ e h3 le, u8_xor_nat _ f h4 lf]
  exact ⟨rfl, h5⟩

theorem orv {o b x : Nat} {B : Int} (hx : x = o ||| b) (hB : B = (b : Int)) (ho : o < 256) (hb : b < 256) : Value.int .u8 (bits .or .u8 (o : Int) B) = .int .u8 (x : Int) := by
  rw [hB, u8_or_nat o b ho hb, hx]

set_option maxHeartbeats 4000000 in
theorem rbox9 (c : Nat) (w : World) (hc : c < 256) : Calls Try.prog 9 #[.int .u8 (c : Int)] w fun e w' => e = .returned (.int .u8 (sb c : Nat)) ∧ Below w.heap.size w w' := by
  have q19 := Lib.hid (fun W => inverse19 c W hc)
  have hv := rinv_lt c hc
  have Hend := Lib.hid (box_eq c hc)
  generalize rinv c = v at *
  have Hro := Lib.hid (ro_lt v)
  have HroS : Hid (∀ k, ro v (k + 1) = ro v k ||| (btn v k % 2 * 2 ^ k)) := fun _ => rfl
  go_enter Try.func9, Try.ntmps9
  go_wp2_with (go_at_call 19; refine (q19.out _).mono ?_; rintro e w' ⟨rfl, rfl⟩)
  go_loopw [4, 5] (fun o i wr => ∃ k : Nat, k ≤ 8 ∧ i = .int .i64 k ∧ o = .int .u8 (ro v k : Nat) ∧ Hid (Below w.heap.size w wr)) (fun _ i _ => 8 - (intOf i).toNat)
  case atStart => exact ⟨0, by omega, rfl, rfl, Below.refl _ _⟩
  case round =>
    obtain ⟨k, hk, rfl, rfl, HB⟩ := hrel
    have ho := Hro.out k hk
    by_cases hlt : k < 8
    · go_upto_region 6 with fail
      go_cut [6] (fun s6 wx => s6 = .int .u8 (btn v k : Nat) ∧ btn v k < 256 ∧ Hid (Below w.heap.size w wx))
      case first =>
        obtain rfl | rfl | rfl | rfl | rfl | rfl | rfl | rfl : k = 0 ∨ k = 1 ∨ k = 2 ∨ k = 3 ∨ k = 4 ∨ k = 5 ∨ k = 6 ∨ k = 7 := by omega
        · have hbt : btn v 0 = v / 1 ^^^ v / 16 ^^^ v / 32 ^^^ v / 64 ^^^ v / 128 ^^^ 99 := rfl
          have Hbt := Lib.hid hbt
          clear hbt
          go_quiet (fail)
          go_wp2_with fail
          go_meet
          have hx := x6 (a := v / 1) (b := v / 16) (c := v / 32) (d := v / 64) (e := v / 128) (f := 99) rfl rfl rfl rfl rfl rfl (by omega) (by omega) (by omega) (by omega) (by omega) (by omega)
          rw [Hbt.out]
          exact ⟨congrArg (Value.int .u8) (x6 (by omega) (by omega) (by omega) (by omega) (by omega) (by omega) (by omega) (by omega) (by omega) (by omega) (by omega) (by omega)).1, hx.2, dn HB.out _⟩
        · have hbt : btn v 1 = v / 2 ^^^ v / 32 ^^^ v / 64 ^^^ v / 128 ^^^ v / 1 ^^^ 49 := rfl
          have Hbt := Lib.hid hbt
          clear hbt
          go_quiet (fail)
          go_wp2_with fail
          go_meet
          have hx := x6 (a := v / 2) (b := v / 32) (c := v / 64) (d := v / 128) (e := v / 1) (f := 49) rfl rfl rfl rfl rfl rfl (by omega) (by omega) (by omega) (by omega) (by omega) (by omega)
          rw [Hbt.out]
          exact ⟨congrArg (Value.int .u8) (x6 (by omega) (by omega) (by omega) (by omega) (by omega) (by omega) (by omega) (by omega) (by omega) (by omega) (by omega) (by omega)).1, hx.2, dn HB.out _⟩
        · have hbt : btn v 2 = v / 4 ^^^ v / 64 ^^^ v / 128 ^^^ v / 1 ^^^ v / 2 ^^^ 24 := rfl
          have Hbt := Lib.hid hbt
          clear hbt
          go_quiet (fail)
          go_wp2_with fail
          go_meet
          have hx := x6 (a := v / 4) (b := v / 64) (c := v / 128) (d := v / 1) (e := v / 2) (f := 24) rfl rfl rfl rfl rfl rfl (by omega) (by omega) (by omega) (by omega) (by omega) (by omega)
          rw [Hbt.out]
          exact ⟨congrArg (Value.int .u8) (x6 (by omega) (by omega) (by omega) (by omega) (by omega) (by omega) (by omega) (by omega) (by omega) (by omega) (by omega) (by omega)).1, hx.2, dn HB.out _⟩
        · have hbt : btn v 3 = v / 8 ^^^ v / 128 ^^^ v / 1 ^^^ v / 2 ^^^ v / 4 ^^^ 12 := rfl
          have Hbt := Lib.hid hbt
          clear hbt
          go_quiet (fail)
          go_wp2_with fail
          go_meet
          have hx := x6 (a := v / 8) (b := v / 128) (c := v / 1) (d := v / 2) (e := v / 4) (f := 12) rfl rfl rfl rfl rfl rfl (by omega) (by omega) (by omega) (by omega) (by omega) (by omega)
          rw [Hbt.out]
          exact ⟨congrArg (Value.int .u8) (x6 (by omega) (by omega) (by omega) (by omega) (by omega) (by omega) (by omega) (by omega) (by omega) (by omega) (by omega) (by omega)).1, hx.2, dn HB.out _⟩
        · have hbt : btn v 4 = v / 16 ^^^ v / 1 ^^^ v / 2 ^^^ v / 4 ^^^ v / 8 ^^^ 6 := rfl
          have Hbt := Lib.hid hbt
          clear hbt
          go_quiet (fail)
          go_wp2_with fail
          go_meet
          have hx := x6 (a := v / 16) (b := v / 1) (c := v / 2) (d := v / 4) (e := v / 8) (f := 6) rfl rfl rfl rfl rfl rfl (by omega) (by omega) (by omega) (by omega) (by omega) (by omega)
          rw [Hbt.out]
          exact ⟨congrArg (Value.int .u8) (x6 (by omega) (by omega) (by omega) (by omega) (by omega) (by omega) (by omega) (by omega) (by omega) (by omega) (by omega) (by omega)).1, hx.2, dn HB.out _⟩
        · have hbt : btn v 5 = v / 32 ^^^ v / 2 ^^^ v / 4 ^^^ v / 8 ^^^ v / 16 ^^^ 3 := rfl
          have Hbt := Lib.hid hbt
          clear hbt
          go_quiet (fail)
          go_wp2_with fail
          go_meet
          have hx := x6 (a := v / 32) (b := v / 2) (c := v / 4) (d := v / 8) (e := v / 16) (f := 3) rfl rfl rfl rfl rfl rfl (by omega) (by omega) (by omega) (by omega) (by omega) (by omega)
          rw [Hbt.out]
          exact ⟨congrArg (Value.int .u8) (x6 (by omega) (by omega) (by omega) (by omega) (by omega) (by omega) (by omega) (by omega) (by omega) (by omega) (by omega) (by omega)).1, hx.2, dn HB.out _⟩
        · have hbt : btn v 6 = v / 64 ^^^ v / 4 ^^^ v / 8 ^^^ v / 16 ^^^ v / 32 ^^^ 1 := rfl
          have Hbt := Lib.hid hbt
          clear hbt
          go_quiet (fail)
          go_wp2_with fail
          go_meet
          have hx := x6 (a := v / 64) (b := v / 4) (c := v / 8) (d := v / 16) (e := v / 32) (f := 1) rfl rfl rfl rfl rfl rfl (by omega) (by omega) (by omega) (by omega) (by omega) (by omega)
          rw [Hbt.out]
          exact ⟨congrArg (Value.int .u8) (x6 (by omega) (by omega) (by omega) (by omega) (by omega) (by omega) (by omega) (by omega) (by omega) (by omega) (by omega) (by omega)).1, hx.2, dn HB.out _⟩
        · have hbt : btn v 7 = v / 128 ^^^ v / 8 ^^^ v / 16 ^^^ v / 32 ^^^ v / 64 ^^^ 0 := rfl
          have Hbt := Lib.hid hbt
          clear hbt
          go_quiet (fail)
          go_wp2_with fail
          go_meet
          have hx := x6 (a := v / 128) (b := v / 8) (c := v / 16) (d := v / 32) (e := v / 64) (f := 0) rfl rfl rfl rfl rfl rfl (by omega) (by omega) (by omega) (by omega) (by omega) (by omega)
          rw [Hbt.out]
          exact ⟨congrArg (Value.int .u8) (x6 (by omega) (by omega) (by omega) (by omega) (by omega) (by omega) (by omega) (by omega) (by omega) (by omega) (by omega) (by omega)).1, hx.2, dn HB.out _⟩
      case rest =>
        obtain ⟨rfl, hb2, HB2⟩ := hcut
        clear HB
        have HS := Lib.hid (HroS.out k)
        have hA := band (btn v k) (btn v k) _ rfl hb2 (Nat.le_refl _)
        have hq : btn v k % 2 < 2 := Nat.mod_lt _ (by decide)
        generalize ro v k = o at *
        generalize btn v k % 2 = q at *
        generalize btn v k = bb at *
        obtain rfl | rfl | rfl | rfl | rfl | rfl | rfl | rfl : k = 0 ∨ k = 1 ∨ k = 2 ∨ k = 3 ∨ k = 4 ∨ k = 5 ∨ k = 6 ∨ k = 7 := by omega
        all_goals
          go_wp2_with fail
          go_roundw
          case rel => exact ⟨_, by omega, by first | rfl | go_num, orv HS.out (by omega) ho (by omega), HB2.out⟩
          case measure => simp [intOf]
    · have : k = 8 := by omega
      subst this
      go_wp2_with fail
      go_ret
      exact ⟨by rw [← Hend.out]; rfl, HB.out⟩
end Go.Proofs.Ytiaceoecilinkaa
