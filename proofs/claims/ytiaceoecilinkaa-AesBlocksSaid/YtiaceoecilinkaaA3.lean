/- Times, inverse, Box: what they answer. -/
import Derived.Test.YtiaceoecilinkaaA2
namespace Go.Proofs.Ytiaceoecilinkaa
open Go.RowKit
set_option linter.unusedSimpArgs false

/-- What a byte becomes. -/
def sb (c : Nat) : Nat := boxLit.getD c 0
theorem boxLit_len : boxLit.length = 256 := by decide +kernel
theorem sb_lt (c : Nat) : sb c < 256 := by
  unfold sb
  by_cases h : c < boxLit.length
  · simp only [List.getD, List.getElem?_eq_getElem h, Option.getD_some]
    exact boxLit_lt _ (List.getElem_mem h)
  · simp [List.getD, List.getElem?_eq_none (Nat.le_of_not_lt h)]
theorem Tabs.box {w : World} {g c : Nat} (h : Tabs w g) (hc : c < 256) : w.cell? ⟨g, c, none⟩ = some (.int .u8 (sb c : Nat)) := by
  have h1 : c < boxLit.length := Nat.lt_of_lt_of_eq hc boxLit_len.symm
  rw [Blk.cell h, bvs, List.map_append, List.getElem?_append_left (by simpa using h1), List.getElem?_map]
  simp [sb, List.getD, List.getElem?_eq_getElem h1, bv]
theorem Tabs.two {w : World} {g c : Nat} (h : Tabs w g) (hc : c < 256) : w.cell? ⟨g, 256 + c, none⟩ = some (.int .u8 (dbl c : Nat)) := by
  have h1 := boxLit_len
  rw [Blk.cell h, bvs, List.map_append, List.getElem?_append_right (by rw [List.length_map, h1]; omega), List.length_map, h1, Nat.add_sub_cancel_left]
  simp [hc, bv]

set_option maxHeartbeats 400000 in
theorem box8 (g c : Nat) (w : World) (ht : Tabs w g) (hc : c < 256) : Calls Try.prog 8 #[.pointer (some ⟨g, 0, none⟩), .int .u8 (c : Int)] w fun e w' => e = .returned (.int .u8 (sb c : Nat)) ∧ w = w' := by
  have c0 := ht.box hc
  have h0 : (0 : Int) ≤ (c : Int) := by omega
  have h1 : (c : Int) < 256 := by omega
  clear ht
  go_enter Try.func8, Try.ntmps8
  go_wp2
  go_ret
  exact ⟨rfl, rfl⟩

def tX (a : Nat) : Nat → Nat
  | 0 => a
  | k + 1 => dbl (tX a k)
def tO (a b : Nat) : Nat → Nat
  | 0 => 0
  | k + 1 => if b / 2 ^ k % 2 = 1 then tO a b k ^^^ tX a k else tO a b k
/-- Two bytes, as polynomials, multiplied. -/
def times (a b : Nat) : Nat := tO a b 8
theorem tX_lt (a : Nat) (ha : a < 256) : ∀ k, tX a k < 256
  | 0 => ha
  | _ + 1 => dbl_lt _
theorem tO_lt (a b : Nat) (ha : a < 256) : ∀ k, tO a b k < 256
  | 0 => (by decide : 0 < 256)
  | k + 1 => by
    unfold tO
    split
    · exact Nat.xor_lt_two_pow (n := 8) (tO_lt a b ha k) (tX_lt a ha k)
    · exact tO_lt a b ha k

theorem band (b c : Nat) (D : Int) (hD : D = (c : Int)) (hb : b < 256) (hc : c ≤ b) : bits .and .u8 D 1 = ((c % 2 : Nat) : Int) := by
  have h := u8_and_nat c 1 (by omega) (by omega)
  rw [hD]
  rw [show ((1 : Nat) : Int) = 1 from rfl] at h
  rw [h, nat_mask1]
theorem tmsX1 {x x' y : Nat} (h' : y = x') (h : x' = dbl x) (ht : 128 ≤ x) : Value.int .u8 (bits .xor .u8 ((x : Int) * 2 % 256) 27) = .int .u8 (y : Int) := by
  have hx := u8_xor_nat (x * 2 % 256) 27 (by omega) (by omega)
  rw [h', h, dbl, if_pos ht, ← hx]; rfl
theorem tmsX0 {x x' y : Nat} (h' : y = x') (h : x' = dbl x) (ht : ¬ 128 ≤ x) : Value.int .u8 ((x : Int) * 2) = .int .u8 (y : Int) := by
  rw [h', h, dbl, if_neg ht, show ((x * 2 % 256 : Nat) : Int) = (x : Int) * 2 from by omega]
theorem tmsO1 {o x o' y : Nat} (h' : y = o') (h : o' = o ^^^ x) (ho : o < 256) (hx : x < 256) : Value.int .u8 (bits .xor .u8 (o : Int) (x : Int)) = .int .u8 (y : Int) := by
  rw [h', h, u8_xor_nat o x ho hx]
theorem tmsO0 {o o' y : Nat} (h' : y = o') (h : o' = o) : Value.int .u8 (o : Int) = .int .u8 (y : Int) := by
  rw [h', h]

set_option maxHeartbeats 4000000 in
theorem times31 (a b : Nat) (w : World) (ha : a < 256) (hb : b < 256) : Calls Try.prog 31 #[.int .u8 (a : Int), .int .u8 (b : Int)] w fun e w' => e = .returned (.int .u8 (times a b : Nat)) ∧ w = w' := by
  have Hx : ∀ k, tX a k < 256 := tX_lt a ha
  have Ho : ∀ k, tO a b k < 256 := tO_lt a b ha
  have HxS : Hid (∀ k, tX a (k + 1) = dbl (tX a k)) := fun _ => rfl
  have HoS : Hid (∀ k, tO a b (k + 1) = if b / 2 ^ k % 2 = 1 then tO a b k ^^^ tX a k else tO a b k) := fun _ => rfl
  have Hend : Hid (times a b = tO a b 8) := rfl
  go_enter Try.func31, Try.ntmps31
  go_wp2_with fail
  go_loop [5, 6, 7] (fun o x i => ∃ k : Nat, k ≤ 8 ∧ i = .int .i64 k ∧ x = .int .u8 (tX a k : Nat) ∧ o = .int .u8 (tO a b k : Nat)) (fun _ _ i => 8 - (intOf i).toNat)
  case atStart => exact ⟨0, by omega, rfl, rfl, rfl⟩
  case round =>
    obtain ⟨k, hk, rfl, rfl, rfl⟩ := hrel
    have hx := Hx k
    have ho := Ho k
    by_cases hlt : k < 8
    · obtain rfl | rfl | rfl | rfl | rfl | rfl | rfl | rfl : k = 0 ∨ k = 1 ∨ k = 2 ∨ k = 3 ∨ k = 4 ∨ k = 5 ∨ k = 6 ∨ k = 7 := by omega
      · have hB : bits .and .u8 (b : Int) 1 = ((b / 2 ^ 0 % 2 : Nat) : Int) := band b (b / 2 ^ 0) _ (by omega) hb (Nat.div_le_self _ _)
        have hX := HxS.out 0
        have hO := HoS.out 0
        have hx2 := Hx 0
        have ho2 := Ho 0
        generalize tX a 0 = x at *
        generalize tO a b 0 = o at *
        generalize hx' : tX a (0 + 1) = x' at *
        generalize ho' : tO a b (0 + 1) = o' at *
        by_cases h1 : b / 2 ^ 0 % 2 = 1
        · have e1 : (bits .and .u8 (b : Int) 1 == 1) = true := by rw [hB, h1]; rfl
          rw [if_pos h1] at hO
          have HX := Lib.hid hX
          have HO := Lib.hid hO
          have Hx' := Lib.hid hx'
          have Ho' := Lib.hid ho'
          clear hB h1 hX hO hx' ho' Hx Ho
          by_cases h2 : 128 ≤ x
          · have e2 : decide ((128 : Int) ≤ (x : Int)) = true := by simp <;> omega
            go_wp2_with fail
            go_round
            case rel => exact ⟨0 + 1, by omega, by first | rfl | go_num, tmsX1 Hx'.out HX.out h2, tmsO1 Ho'.out HO.out ho hx⟩
            case measure => simp [intOf]
          · have e2 : decide ((128 : Int) ≤ (x : Int)) = false := by simp <;> omega
            go_wp2_with fail
            go_round
            case rel => exact ⟨0 + 1, by omega, by first | rfl | go_num, tmsX0 Hx'.out HX.out h2, tmsO1 Ho'.out HO.out ho hx⟩
            case measure => simp [intOf]
        · have e1 : (bits .and .u8 (b : Int) 1 == 1) = false := by rw [hB]; simp; omega
          rw [if_neg h1] at hO
          have HX := Lib.hid hX
          have HO := Lib.hid hO
          have Hx' := Lib.hid hx'
          have Ho' := Lib.hid ho'
          clear hB h1 hX hO hx' ho' Hx Ho
          by_cases h2 : 128 ≤ x
          · have e2 : decide ((128 : Int) ≤ (x : Int)) = true := by simp <;> omega
            go_wp2_with fail
            go_round
            case rel => exact ⟨0 + 1, by omega, by first | rfl | go_num, tmsX1 Hx'.out HX.out h2, tmsO0 Ho'.out HO.out⟩
            case measure => simp [intOf]
          · have e2 : decide ((128 : Int) ≤ (x : Int)) = false := by simp <;> omega
            go_wp2_with fail
            go_round
            case rel => exact ⟨0 + 1, by omega, by first | rfl | go_num, tmsX0 Hx'.out HX.out h2, tmsO0 Ho'.out HO.out⟩
            case measure => simp [intOf]
      · have hB : bits .and .u8 ((b : Int) / 2) 1 = ((b / 2 ^ 1 % 2 : Nat) : Int) := band b (b / 2 ^ 1) _ (by omega) hb (Nat.div_le_self _ _)
        have hX := HxS.out 1
        have hO := HoS.out 1
        have hx2 := Hx 1
        have ho2 := Ho 1
        generalize tX a 1 = x at *
        generalize tO a b 1 = o at *
        generalize hx' : tX a (1 + 1) = x' at *
        generalize ho' : tO a b (1 + 1) = o' at *
        by_cases h1 : b / 2 ^ 1 % 2 = 1
        · have e1 : (bits .and .u8 ((b : Int) / 2) 1 == 1) = true := by rw [hB, h1]; rfl
          rw [if_pos h1] at hO
          have HX := Lib.hid hX
          have HO := Lib.hid hO
          have Hx' := Lib.hid hx'
          have Ho' := Lib.hid ho'
          clear hB h1 hX hO hx' ho' Hx Ho
          by_cases h2 : 128 ≤ x
          · have e2 : decide ((128 : Int) ≤ (x : Int)) = true := by simp <;> omega
            go_wp2_with fail
            go_round
            case rel => exact ⟨1 + 1, by omega, by first | rfl | go_num, tmsX1 Hx'.out HX.out h2, tmsO1 Ho'.out HO.out ho hx⟩
            case measure => simp [intOf]
          · have e2 : decide ((128 : Int) ≤ (x : Int)) = false := by simp <;> omega
            go_wp2_with fail
            go_round
            case rel => exact ⟨1 + 1, by omega, by first | rfl | go_num, tmsX0 Hx'.out HX.out h2, tmsO1 Ho'.out HO.out ho hx⟩
            case measure => simp [intOf]
        · have e1 : (bits .and .u8 ((b : Int) / 2) 1 == 1) = false := by rw [hB]; simp; omega
          rw [if_neg h1] at hO
          have HX := Lib.hid hX
          have HO := Lib.hid hO
          have Hx' := Lib.hid hx'
          have Ho' := Lib.hid ho'
          clear hB h1 hX hO hx' ho' Hx Ho
          by_cases h2 : 128 ≤ x
          · have e2 : decide ((128 : Int) ≤ (x : Int)) = true := by simp <;> omega
            go_wp2_with fail
            go_round
            case rel => exact ⟨1 + 1, by omega, by first | rfl | go_num, tmsX1 Hx'.out HX.out h2, tmsO0 Ho'.out HO.out⟩
            case measure => simp [intOf]
          · have e2 : decide ((128 : Int) ≤ (x : Int)) = false := by simp <;> omega
            go_wp2_with fail
            go_round
            case rel => exact ⟨1 + 1, by omega, by first | rfl | go_num, tmsX0 Hx'.out HX.out h2, tmsO0 Ho'.out HO.out⟩
            case measure => simp [intOf]
      · have hB : bits .and .u8 ((b : Int) / 4) 1 = ((b / 2 ^ 2 % 2 : Nat) : Int) := band b (b / 2 ^ 2) _ (by omega) hb (Nat.div_le_self _ _)
        have hX := HxS.out 2
        have hO := HoS.out 2
        have hx2 := Hx 2
        have ho2 := Ho 2
        generalize tX a 2 = x at *
        generalize tO a b 2 = o at *
        generalize hx' : tX a (2 + 1) = x' at *
        generalize ho' : tO a b (2 + 1) = o' at *
        by_cases h1 : b / 2 ^ 2 % 2 = 1
        · have e1 : (bits .and .u8 ((b : Int) / 4) 1 == 1) = true := by rw [hB, h1]; rfl
          rw [if_pos h1] at hO
          have HX := Lib.hid hX
          have HO := Lib.hid hO
          have Hx' := Lib.hid hx'
          have Ho' := Lib.hid ho'
          clear hB h1 hX hO hx' ho' Hx Ho
          by_cases h2 : 128 ≤ x
          · have e2 : decide ((128 : Int) ≤ (x : Int)) = true := by simp <;> omega
            go_wp2_with fail
            go_round
            case rel => exact ⟨2 + 1, by omega, by first | rfl | go_num, tmsX1 Hx'.out HX.out h2, tmsO1 Ho'.out HO.out ho hx⟩
            case measure => simp [intOf]
          · have e2 : decide ((128 : Int) ≤ (x : Int)) = false := by simp <;> omega
            go_wp2_with fail
            go_round
            case rel => exact ⟨2 + 1, by omega, by first | rfl | go_num, tmsX0 Hx'.out HX.out h2, tmsO1 Ho'.out HO.out ho hx⟩
            case measure => simp [intOf]
        · have e1 : (bits .and .u8 ((b : Int) / 4) 1 == 1) = false := by rw [hB]; simp; omega
          rw [if_neg h1] at hO
          have HX := Lib.hid hX
          have HO := Lib.hid hO
          have Hx' := Lib.hid hx'
          have Ho' := Lib.hid ho'
          clear hB h1 hX hO hx' ho' Hx Ho
          by_cases h2 : 128 ≤ x
          · have e2 : decide ((128 : Int) ≤ (x : Int)) = true := by simp <;> omega
            go_wp2_with fail
            go_round
            case rel => exact ⟨2 + 1, by omega, by first | rfl | go_num, tmsX1 Hx'.out HX.out h2, tmsO0 Ho'.out HO.out⟩
            case measure => simp [intOf]
          · have e2 : decide ((128 : Int) ≤ (x : Int)) = false := by simp <;> omega
            go_wp2_with fail
            go_round
            case rel => exact ⟨2 + 1, by omega, by first | rfl | go_num, tmsX0 Hx'.out HX.out h2, tmsO0 Ho'.out HO.out⟩
            case measure => simp [intOf]
      · have hB : bits .and .u8 ((b : Int) / 8) 1 = ((b / 2 ^ 3 % 2 : Nat) : Int) := band b (b / 2 ^ 3) _ (by omega) hb (Nat.div_le_self _ _)
        have hX := HxS.out 3
        have hO := HoS.out 3
        have hx2 := Hx 3
        have ho2 := Ho 3
        generalize tX a 3 = x at *
        generalize tO a b 3 = o at *
        generalize hx' : tX a (3 + 1) = x' at *
        generalize ho' : tO a b (3 + 1) = o' at *
        by_cases h1 : b / 2 ^ 3 % 2 = 1
        · have e1 : (bits .and .u8 ((b : Int) / 8) 1 == 1) = true := by rw [hB, h1]; rfl
          rw [if_pos h1] at hO
          have HX := Lib.hid hX
          have HO := Lib.hid hO
          have Hx' := Lib.hid hx'
          have Ho' := Lib.hid ho'
          clear hB h1 hX hO hx' ho' Hx Ho
          by_cases h2 : 128 ≤ x
          · have e2 : decide ((128 : Int) ≤ (x : Int)) = true := by simp <;> omega
            go_wp2_with fail
            go_round
            case rel => exact ⟨3 + 1, by omega, by first | rfl | go_num, tmsX1 Hx'.out HX.out h2, tmsO1 Ho'.out HO.out ho hx⟩
            case measure => simp [intOf]
          · have e2 : decide ((128 : Int) ≤ (x : Int)) = false := by simp <;> omega
            go_wp2_with fail
            go_round
            case rel => exact ⟨3 + 1, by omega, by first | rfl | go_num, tmsX0 Hx'.out HX.out h2, tmsO1 Ho'.out HO.out ho hx⟩
            case measure => simp [intOf]
        · have e1 : (bits .and .u8 ((b : Int) / 8) 1 == 1) = false := by rw [hB]; simp; omega
          rw [if_neg h1] at hO
          have HX := Lib.hid hX
          have HO := Lib.hid hO
          have Hx' := Lib.hid hx'
          have Ho' := Lib.hid ho'
          clear hB h1 hX hO hx' ho' Hx Ho
          by_cases h2 : 128 ≤ x
          · have e2 : decide ((128 : Int) ≤ (x : Int)) = true := by simp <;> omega
            go_wp2_with fail
            go_round
            case rel => exact ⟨3 + 1, by omega, by first | rfl | go_num, tmsX1 Hx'.out HX.out h2, tmsO0 Ho'.out HO.out⟩
            case measure => simp [intOf]
          · have e2 : decide ((128 : Int) ≤ (x : Int)) = false := by simp <;> omega
            go_wp2_with fail
            go_round
            case rel => exact ⟨3 + 1, by omega, by first | rfl | go_num, tmsX0 Hx'.out HX.out h2, tmsO0 Ho'.out HO.out⟩
            case measure => simp [intOf]
      · have hB : bits .and .u8 ((b : Int) / 16) 1 = ((b / 2 ^ 4 % 2 : Nat) : Int) := band b (b / 2 ^ 4) _ (by omega) hb (Nat.div_le_self _ _)
        have hX := HxS.out 4
        have hO := HoS.out 4
        have hx2 := Hx 4
        have ho2 := Ho 4
        generalize tX a 4 = x at *
        generalize tO a b 4 = o at *
        generalize hx' : tX a (4 + 1) = x' at *
        generalize ho' : tO a b (4 + 1) = o' at *
        by_cases h1 : b / 2 ^ 4 % 2 = 1
        · have e1 : (bits .and .u8 ((b : Int) / 16) 1 == 1) = true := by rw [hB, h1]; rfl
          rw [if_pos h1] at hO
          have HX := Lib.hid hX
          have HO := Lib.hid hO
          have Hx' := Lib.hid hx'
          have Ho' := Lib.hid ho'
          clear hB h1 hX hO hx' ho' Hx Ho
          by_cases h2 : 128 ≤ x
          · have e2 : decide ((128 : Int) ≤ (x : Int)) = true := by simp <;> omega
            go_wp2_with fail
            go_round
            case rel => exact ⟨4 + 1, by omega, by first | rfl | go_num, tmsX1 Hx'.out HX.out h2, tmsO1 Ho'.out HO.out ho hx⟩
            case measure => simp [intOf]
          · have e2 : decide ((128 : Int) ≤ (x : Int)) = false := by simp <;> omega
            go_wp2_with fail
            go_round
            case rel => exact ⟨4 + 1, by omega, by first | rfl | go_num, tmsX0 Hx'.out HX.out h2, tmsO1 Ho'.out HO.out ho hx⟩
            case measure => simp [intOf]
        · have e1 : (bits .and .u8 ((b : Int) / 16) 1 == 1) = false := by rw [hB]; simp; omega
          rw [if_neg h1] at hO
          have HX := Lib.hid hX
          have HO := Lib.hid hO
          have Hx' := Lib.hid hx'
          have Ho' := Lib.hid ho'
          clear hB h1 hX hO hx' ho' Hx Ho
          by_cases h2 : 128 ≤ x
          · have e2 : decide ((128 : Int) ≤ (x : Int)) = true := by simp <;> omega
            go_wp2_with fail
            go_round
            case rel => exact ⟨4 + 1, by omega, by first | rfl | go_num, tmsX1 Hx'.out HX.out h2, tmsO0 Ho'.out HO.out⟩
            case measure => simp [intOf]
          · have e2 : decide ((128 : Int) ≤ (x : Int)) = false := by simp <;> omega
            go_wp2_with fail
            go_round
            case rel => exact ⟨4 + 1, by omega, by first | rfl | go_num, tmsX0 Hx'.out HX.out h2, tmsO0 Ho'.out HO.out⟩
            case measure => simp [intOf]
      · have hB : bits .and .u8 ((b : Int) / 32) 1 = ((b / 2 ^ 5 % 2 : Nat) : Int) := band b (b / 2 ^ 5) _ (by omega) hb (Nat.div_le_self _ _)
        have hX := HxS.out 5
        have hO := HoS.out 5
        have hx2 := Hx 5
        have ho2 := Ho 5
        generalize tX a 5 = x at *
        generalize tO a b 5 = o at *
        generalize hx' : tX a (5 + 1) = x' at *
        generalize ho' : tO a b (5 + 1) = o' at *
        by_cases h1 : b / 2 ^ 5 % 2 = 1
        · have e1 : (bits .and .u8 ((b : Int) / 32) 1 == 1) = true := by rw [hB, h1]; rfl
          rw [if_pos h1] at hO
          have HX := Lib.hid hX
          have HO := Lib.hid hO
          have Hx' := Lib.hid hx'
          have Ho' := Lib.hid ho'
          clear hB h1 hX hO hx' ho' Hx Ho
          by_cases h2 : 128 ≤ x
          · have e2 : decide ((128 : Int) ≤ (x : Int)) = true := by simp <;> omega
            go_wp2_with fail
            go_round
            case rel => exact ⟨5 + 1, by omega, by first | rfl | go_num, tmsX1 Hx'.out HX.out h2, tmsO1 Ho'.out HO.out ho hx⟩
            case measure => simp [intOf]
          · have e2 : decide ((128 : Int) ≤ (x : Int)) = false := by simp <;> omega
            go_wp2_with fail
            go_round
            case rel => exact ⟨5 + 1, by omega, by first | rfl | go_num, tmsX0 Hx'.out HX.out h2, tmsO1 Ho'.out HO.out ho hx⟩
            case measure => simp [intOf]
        · have e1 : (bits .and .u8 ((b : Int) / 32) 1 == 1) = false := by rw [hB]; simp; omega
          rw [if_neg h1] at hO
          have HX := Lib.hid hX
          have HO := Lib.hid hO
          have Hx' := Lib.hid hx'
          have Ho' := Lib.hid ho'
          clear hB h1 hX hO hx' ho' Hx Ho
          by_cases h2 : 128 ≤ x
          · have e2 : decide ((128 : Int) ≤ (x : Int)) = true := by simp <;> omega
            go_wp2_with fail
            go_round
            case rel => exact ⟨5 + 1, by omega, by first | rfl | go_num, tmsX1 Hx'.out HX.out h2, tmsO0 Ho'.out HO.out⟩
            case measure => simp [intOf]
          · have e2 : decide ((128 : Int) ≤ (x : Int)) = false := by simp <;> omega
            go_wp2_with fail
            go_round
            case rel => exact ⟨5 + 1, by omega, by first | rfl | go_num, tmsX0 Hx'.out HX.out h2, tmsO0 Ho'.out HO.out⟩
            case measure => simp [intOf]
      · have hB : bits .and .u8 ((b : Int) / 64) 1 = ((b / 2 ^ 6 % 2 : Nat) : Int) := band b (b / 2 ^ 6) _ (by omega) hb (Nat.div_le_self _ _)
        have hX := HxS.out 6
        have hO := HoS.out 6
        have hx2 := Hx 6
        have ho2 := Ho 6
        generalize tX a 6 = x at *
        generalize tO a b 6 = o at *
        generalize hx' : tX a (6 + 1) = x' at *
        generalize ho' : tO a b (6 + 1) = o' at *
        by_cases h1 : b / 2 ^ 6 % 2 = 1
        · have e1 : (bits .and .u8 ((b : Int) / 64) 1 == 1) = true := by rw [hB, h1]; rfl
          rw [if_pos h1] at hO
          have HX := Lib.hid hX
          have HO := Lib.hid hO
          have Hx' := Lib.hid hx'
          have Ho' := Lib.hid ho'
          clear hB h1 hX hO hx' ho' Hx Ho
          by_cases h2 : 128 ≤ x
          · have e2 : decide ((128 : Int) ≤ (x : Int)) = true := by simp <;> omega
            go_wp2_with fail
            go_round
            case rel => exact ⟨6 + 1, by omega, by first | rfl | go_num, tmsX1 Hx'.out HX.out h2, tmsO1 Ho'.out HO.out ho hx⟩
            case measure => simp [intOf]
          · have e2 : decide ((128 : Int) ≤ (x : Int)) = false := by simp <;> omega
            go_wp2_with fail
            go_round
            case rel => exact ⟨6 + 1, by omega, by first | rfl | go_num, tmsX0 Hx'.out HX.out h2, tmsO1 Ho'.out HO.out ho hx⟩
            case measure => simp [intOf]
        · have e1 : (bits .and .u8 ((b : Int) / 64) 1 == 1) = false := by rw [hB]; simp; omega
          rw [if_neg h1] at hO
          have HX := Lib.hid hX
          have HO := Lib.hid hO
          have Hx' := Lib.hid hx'
          have Ho' := Lib.hid ho'
          clear hB h1 hX hO hx' ho' Hx Ho
          by_cases h2 : 128 ≤ x
          · have e2 : decide ((128 : Int) ≤ (x : Int)) = true := by simp <;> omega
            go_wp2_with fail
            go_round
            case rel => exact ⟨6 + 1, by omega, by first | rfl | go_num, tmsX1 Hx'.out HX.out h2, tmsO0 Ho'.out HO.out⟩
            case measure => simp [intOf]
          · have e2 : decide ((128 : Int) ≤ (x : Int)) = false := by simp <;> omega
            go_wp2_with fail
            go_round
            case rel => exact ⟨6 + 1, by omega, by first | rfl | go_num, tmsX0 Hx'.out HX.out h2, tmsO0 Ho'.out HO.out⟩
            case measure => simp [intOf]
      · have hB : bits .and .u8 ((b : Int) / 128) 1 = ((b / 2 ^ 7 % 2 : Nat) : Int) := band b (b / 2 ^ 7) _ (by omega) hb (Nat.div_le_self _ _)
        have hX := HxS.out 7
        have hO := HoS.out 7
        have hx2 := Hx 7
        have ho2 := Ho 7
        generalize tX a 7 = x at *
        generalize tO a b 7 = o at *
        generalize hx' : tX a (7 + 1) = x' at *
        generalize ho' : tO a b (7 + 1) = o' at *
        by_cases h1 : b / 2 ^ 7 % 2 = 1
        · have e1 : (bits .and .u8 ((b : Int) / 128) 1 == 1) = true := by rw [hB, h1]; rfl
          rw [if_pos h1] at hO
          have HX := Lib.hid hX
          have HO := Lib.hid hO
          have Hx' := Lib.hid hx'
          have Ho' := Lib.hid ho'
          clear hB h1 hX hO hx' ho' Hx Ho
          by_cases h2 : 128 ≤ x
          · have e2 : decide ((128 : Int) ≤ (x : Int)) = true := by simp <;> omega
            go_wp2_with fail
            go_round
            case rel => exact ⟨7 + 1, by omega, by first | rfl | go_num, tmsX1 Hx'.out HX.out h2, tmsO1 Ho'.out HO.out ho hx⟩
            case measure => simp [intOf]
          · have e2 : decide ((128 : Int) ≤ (x : Int)) = false := by simp <;> omega
            go_wp2_with fail
            go_round
            case rel => exact ⟨7 + 1, by omega, by first | rfl | go_num, tmsX0 Hx'.out HX.out h2, tmsO1 Ho'.out HO.out ho hx⟩
            case measure => simp [intOf]
        · have e1 : (bits .and .u8 ((b : Int) / 128) 1 == 1) = false := by rw [hB]; simp; omega
          rw [if_neg h1] at hO
          have HX := Lib.hid hX
          have HO := Lib.hid hO
          have Hx' := Lib.hid hx'
          have Ho' := Lib.hid ho'
          clear hB h1 hX hO hx' ho' Hx Ho
          by_cases h2 : 128 ≤ x
          · have e2 : decide ((128 : Int) ≤ (x : Int)) = true := by simp <;> omega
            go_wp2_with fail
            go_round
            case rel => exact ⟨7 + 1, by omega, by first | rfl | go_num, tmsX1 Hx'.out HX.out h2, tmsO0 Ho'.out HO.out⟩
            case measure => simp [intOf]
          · have e2 : decide ((128 : Int) ≤ (x : Int)) = false := by simp <;> omega
            go_wp2_with fail
            go_round
            case rel => exact ⟨7 + 1, by omega, by first | rfl | go_num, tmsX0 Hx'.out HX.out h2, tmsO0 Ho'.out HO.out⟩
            case measure => simp [intOf]
    · have : k = 8 := by omega
      subst this
      go_wp2_with fail
      go_ret
      exact ⟨by rw [Hend.out]; rfl, rfl⟩
end Go.Proofs.Ytiaceoecilinkaa
