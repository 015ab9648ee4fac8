/- Put, word, digit, Hex: what they answer. -/
import Derived.Test.YtiaceoecilinkaaA5
namespace Go.Proofs.Ytiaceoecilinkaa
open Go.RowKit
set_option linter.unusedSimpArgs false

/-- The first k of the bytes of a number in s bytes, the highest first. -/
def putD (n s k : Nat) : List Nat := (List.range k).map (fun j => n / 256 ^ (s - 1 - j) % 256)
def putP (n s : Nat) : List Nat := putD n s s
theorem putD_len (n s k : Nat) : (putD n s k).length = k := by simp [putD]
theorem putD_succ (n s k m : Nat) (h : s - 1 - k = m) : putD n s (k + 1) = putD n s k ++ [n / 256 ^ m % 256] := by
  simp [putD, List.range_succ, h]

set_option maxHeartbeats 4000000 in
theorem put23 (n s : Nat) (w : World) (hn : n < 18446744073709551616) (hs : s ≤ 8) : Calls Try.prog 23 #[.int .u64 (n : Int), .int .i64 (s : Int)] w (BytRes w (putP n s)) := by
  have Hs := Lib.hid (putD_succ n s)
  have Hl := Lib.hid (putD_len n s)
  have hn0 : (0 : Int) ≤ (n : Int) := by omega
  have hn1 : (n : Int) < 18446744073709551616 := by omega
  have Hend : Hid (putP n s = putD n s s) := rfl
  have Hn0 : Hid (putD n s 0 = []) := rfl
  generalize putP n s = res at *
  generalize putD n s = D at *
  go_enter Try.func23, Try.ntmps23
  go_wp2_with fail
  go_loopw [5, 6] (fun b i wr => ∃ i0 : Int, -1 ≤ i0 ∧ i0 < s ∧ i = .int .i64 i0 ∧ Hid (wr.ownsRow w.heap.size 5 1 b (s - 1 - i0).toNat (bvs (D (s - 1 - i0).toNat))) ∧ Hid (Below w.heap.size w wr)) (fun _ i _ => (intOf i + 1).toNat)
  case atStart =>
    refine ⟨(s : Int) - 1, by omega, by omega, rfl, ?_, Below.refl _ _⟩
    rw [show ((s : Int) - 1 - ((s : Int) - 1)).toNat = 0 from by omega, Hn0.out]
    exact own_nil _ _ _
  case round =>
    obtain ⟨i0, h1, h2, rfl, HO, HB⟩ := hrel
    have hbase := HB.out.size
    by_cases h0 : 0 ≤ i0
    · obtain ⟨m, rfl⟩ := Int.eq_ofNat_of_zero_le h0
      have hk : ((s : Int) - 1 - (m : Int)).toNat = s - 1 - m := by omega
      have hk2 : ((s : Int) - 1 - ((m : Int) - 1)).toNat = s - 1 - m + 1 := by omega
      have Hk2 := Lib.hid hk2
      have HS := Lib.hid (Hs.out (s - 1 - m) m (by omega))
      rw [hk] at HO
      have hkk : s - 1 - m ≤ 8 := by omega
      clear hk hk2
      generalize s - 1 - m = k at *
      generalize D k = L at *
      obtain rfl | rfl | rfl | rfl | rfl | rfl | rfl | rfl : m = 0 ∨ m = 1 ∨ m = 2 ∨ m = 3 ∨ m = 4 ∨ m = 5 ∨ m = 6 ∨ m = 7 := by omega
      · have HSm : Hid (D (k + 1) = L ++ [n / 1 % 256]) := HS.out
        clear HS
        go_wp2_with (at_builtin; refine ap1 row27 rfl (.tmp 18) (.tmp 24) rfl w.heap.size _ k (bvs L) _ rfl HO.out rfl rfl (by omega) hbase ?_; intro v2 w2 hown2 hb2; have Hown2 := Lib.hid hown2; clear hown2)
        go_roundw
        case rel => exact ⟨_, by omega, by omega, rfl, by rw [show ((s : Int) - 1 - -1).toNat = k + 1 from by have := Hk2.out; omega, HSm.out, ← bvs_snoc]; have h := Hown2.out; rw [show (n : Int) % 256 = ((n / 1 % 256 : Nat) : Int) from by omega] at h; exact h, HB.out.trans hb2⟩
        case measure => simp [intOf]
      · have HSm : Hid (D (k + 1) = L ++ [n / 256 % 256]) := HS.out
        clear HS
        go_wp2_with (at_builtin; refine ap1 row27 rfl (.tmp 18) (.tmp 24) rfl w.heap.size _ k (bvs L) _ rfl HO.out rfl rfl (by omega) hbase ?_; intro v2 w2 hown2 hb2; have Hown2 := Lib.hid hown2; clear hown2)
        go_roundw
        case rel => exact ⟨_, by omega, by omega, rfl, by rw [show ((s : Int) - 1 - 0).toNat = k + 1 from by have := Hk2.out; omega, HSm.out, ← bvs_snoc]; exact Hown2.out, HB.out.trans hb2⟩
        case measure => simp [intOf]
      · have HSm : Hid (D (k + 1) = L ++ [n / 65536 % 256]) := HS.out
        clear HS
        go_wp2_with (at_builtin; refine ap1 row27 rfl (.tmp 18) (.tmp 24) rfl w.heap.size _ k (bvs L) _ rfl HO.out rfl rfl (by omega) hbase ?_; intro v2 w2 hown2 hb2; have Hown2 := Lib.hid hown2; clear hown2)
        go_roundw
        case rel => exact ⟨_, by omega, by omega, rfl, by rw [show ((s : Int) - 1 - 1).toNat = k + 1 from by have := Hk2.out; omega, HSm.out, ← bvs_snoc]; exact Hown2.out, HB.out.trans hb2⟩
        case measure => simp [intOf]
      · have HSm : Hid (D (k + 1) = L ++ [n / 16777216 % 256]) := HS.out
        clear HS
        go_wp2_with (at_builtin; refine ap1 row27 rfl (.tmp 18) (.tmp 24) rfl w.heap.size _ k (bvs L) _ rfl HO.out rfl rfl (by omega) hbase ?_; intro v2 w2 hown2 hb2; have Hown2 := Lib.hid hown2; clear hown2)
        go_roundw
        case rel => exact ⟨_, by omega, by omega, rfl, by rw [show ((s : Int) - 1 - 2).toNat = k + 1 from by have := Hk2.out; omega, HSm.out, ← bvs_snoc]; exact Hown2.out, HB.out.trans hb2⟩
        case measure => simp [intOf]
      · have HSm : Hid (D (k + 1) = L ++ [n / 4294967296 % 256]) := HS.out
        clear HS
        go_wp2_with (at_builtin; refine ap1 row27 rfl (.tmp 18) (.tmp 24) rfl w.heap.size _ k (bvs L) _ rfl HO.out rfl rfl (by omega) hbase ?_; intro v2 w2 hown2 hb2; have Hown2 := Lib.hid hown2; clear hown2)
        go_roundw
        case rel => exact ⟨_, by omega, by omega, rfl, by rw [show ((s : Int) - 1 - 3).toNat = k + 1 from by have := Hk2.out; omega, HSm.out, ← bvs_snoc]; exact Hown2.out, HB.out.trans hb2⟩
        case measure => simp [intOf]
      · have HSm : Hid (D (k + 1) = L ++ [n / 1099511627776 % 256]) := HS.out
        clear HS
        go_wp2_with (at_builtin; refine ap1 row27 rfl (.tmp 18) (.tmp 24) rfl w.heap.size _ k (bvs L) _ rfl HO.out rfl rfl (by omega) hbase ?_; intro v2 w2 hown2 hb2; have Hown2 := Lib.hid hown2; clear hown2)
        go_roundw
        case rel => exact ⟨_, by omega, by omega, rfl, by rw [show ((s : Int) - 1 - 4).toNat = k + 1 from by have := Hk2.out; omega, HSm.out, ← bvs_snoc]; exact Hown2.out, HB.out.trans hb2⟩
        case measure => simp [intOf]
      · have HSm : Hid (D (k + 1) = L ++ [n / 281474976710656 % 256]) := HS.out
        clear HS
        go_wp2_with (at_builtin; refine ap1 row27 rfl (.tmp 18) (.tmp 24) rfl w.heap.size _ k (bvs L) _ rfl HO.out rfl rfl (by omega) hbase ?_; intro v2 w2 hown2 hb2; have Hown2 := Lib.hid hown2; clear hown2)
        go_roundw
        case rel => exact ⟨_, by omega, by omega, rfl, by rw [show ((s : Int) - 1 - 5).toNat = k + 1 from by have := Hk2.out; omega, HSm.out, ← bvs_snoc]; exact Hown2.out, HB.out.trans hb2⟩
        case measure => simp [intOf]
      · have HSm : Hid (D (k + 1) = L ++ [n / 72057594037927936 % 256]) := HS.out
        clear HS
        go_wp2_with (at_builtin; refine ap1 row27 rfl (.tmp 18) (.tmp 24) rfl w.heap.size _ k (bvs L) _ rfl HO.out rfl rfl (by omega) hbase ?_; intro v2 w2 hown2 hb2; have Hown2 := Lib.hid hown2; clear hown2)
        go_roundw
        case rel => exact ⟨_, by omega, by omega, rfl, by rw [show ((s : Int) - 1 - 6).toNat = k + 1 from by have := Hk2.out; omega, HSm.out, ← bvs_snoc]; have h := Hown2.out; rw [show (n : Int) / 72057594037927936 = ((n / 72057594037927936 % 256 : Nat) : Int) from by omega] at h; exact h, HB.out.trans hb2⟩
        case measure => simp [intOf]
    · have h3 : i0 = -1 := by omega
      subst h3
      have h4 : ((s : Int) - 1 - -1).toNat = s := by omega
      rw [h4] at HO
      obtain ⟨A, c, hv, h5, h6, h7⟩ := own_form HO.out
      subst hv
      have H6 := Lib.hid h6
      have H7 := Lib.hid h7
      clear h6 h7 h4
      go_wp2_with fail
      go_ret
      exact ⟨A, c, by rw [Hend.out, Hl.out]; rfl, by rw [Hend.out, Hl.out]; exact h5, H6.out, by rw [Hend.out]; exact H7.out, HB.out⟩

/-- Four bytes as a number. -/
def w4 (a b c d : Nat) : Nat := a * 16777216 + b * 65536 + c * 256 + d

theorem band32 (x y : Nat) (X : Int) (hX : X = (x : Int)) (hx : x < 4294967296) (hy : x % 256 = y) : bits .and .u32 X 255 = (y : Int) := by
  have h := u32_and_nat x 255 hx (by omega)
  rw [hX]
  rw [show ((255 : Nat) : Int) = 255 from rfl] at h
  rw [h, nat_mask8, hy]
theorem join4 (a b c d : Nat) (ha : a < 256) (hb : b < 256) (hc : c < 256) (hd : d < 256) :
    bits .or .u32 (bits .or .u32 (bits .or .u32 ((a : Int) * 16777216) ((b : Int) * 65536)) ((c : Int) * 256)) (d : Int) = ((w4 a b c d : Nat) : Int) := by
  have h1 := u32_or_nat (a * 16777216) (b * 65536) (by omega) (by omega)
  rw [nat_join 24 (a * 16777216) (b * 65536) (by omega) (by omega)] at h1
  have h2 := u32_or_nat (a * 16777216 + b * 65536) (c * 256) (by omega) (by omega)
  rw [nat_join 16 (a * 16777216 + b * 65536) (c * 256) (by omega) (by omega)] at h2
  have h3 := u32_or_nat (a * 16777216 + b * 65536 + c * 256) d (by omega) (by omega)
  rw [nat_join 8 (a * 16777216 + b * 65536 + c * 256) d (by omega) (by omega)] at h3
  unfold w4
  rw [← h3, ← h2, ← h1]; rfl

set_option maxHeartbeats 4000000 in
theorem word22 (g a b c d : Nat) (w : World) (ht : Tabs w g) (ha : a < 256) (hb : b < 256) (hc : c < 256) (hd : d < 256) :
    Calls Try.prog 22 #[.pointer (some ⟨g, 0, none⟩), .int .u32 (w4 a b c d : Nat)] w fun e w' => e = .returned (.int .u32 (w4 (sb a) (sb b) (sb c) (sb d) : Nat)) ∧ Below w.heap.size w w' := by
  have ca := ht.box ha
  have cb := ht.box hb
  have cc := ht.box hc
  have cd := ht.box hd
  have hlt : w4 a b c d < 4294967296 := by unfold w4; omega
  have e3 : ((w4 a b c d : Nat) : Int) / 16777216 = (a : Int) := by unfold w4; omega
  have e2 := band32 (w4 a b c d / 65536) b (((w4 a b c d : Nat) : Int) / 65536) (by omega) (by omega) (by unfold w4; omega)
  have e1 := band32 (w4 a b c d / 256) c (((w4 a b c d : Nat) : Int) / 256) (by omega) (by omega) (by unfold w4; omega)
  have e0 := band32 (w4 a b c d) d ((w4 a b c d : Nat) : Int) rfl (by omega) (by unfold w4; omega)
  have Hj := Lib.hid (join4 (sb a) (sb b) (sb c) (sb d) (sb_lt a) (sb_lt b) (sb_lt c) (sb_lt d))
  have la := sb_lt a
  have lb := sb_lt b
  have lc := sb_lt c
  have ld := sb_lt d
  generalize w4 (sb a) (sb b) (sb c) (sb d) = r at *
  generalize w4 a b c d = n at *
  generalize sb a = sa at *
  generalize sb b = sb' at *
  generalize sb c = sc at *
  generalize sb d = sd at *
  have na : (a : Int) < 256 := by omega
  have nb : (b : Int) < 256 := by omega
  have nc : (c : Int) < 256 := by omega
  have nd : (d : Int) < 256 := by omega
  have pa : (0 : Int) ≤ a := by omega
  have pb : (0 : Int) ≤ b := by omega
  have pc : (0 : Int) ≤ c := by omega
  have pd : (0 : Int) ≤ d := by omega
  clear ht
  go_enter Try.func22, Try.ntmps22
  go_wp2_with fail
  go_quiet (fail)
  go_wp2_with fail
  go_ret
  exact ⟨by rw [← Hj.out]; rfl, dn (b0 _) _⟩

def digP (c : Nat) : Nat := if c < 10 then 48 + c else 87 + c
set_option maxHeartbeats 400000 in
theorem digit32 (c : Nat) (w : World) (hc : c < 16) : Calls Try.prog 32 #[.int .u8 (c : Int)] w fun e w' => e = .returned (.int .u8 (digP c : Nat)) ∧ w = w' := by
  unfold digP
  by_cases h : c < 10
  · have h1 : decide ((c : Int) < 10) = true := by simp <;> omega
    rw [if_pos h]
    go_enter Try.func32, Try.ntmps32
    go_wp2
    go_ret
    exact ⟨ret_u8 (by omega), rfl⟩
  · have h1 : decide ((c : Int) < 10) = false := by simp <;> omega
    rw [if_neg h]
    go_enter Try.func32, Try.ntmps32
    go_wp2
    go_ret
    exact ⟨ret_u8 (by omega), rfl⟩
end Go.Proofs.Ytiaceoecilinkaa
