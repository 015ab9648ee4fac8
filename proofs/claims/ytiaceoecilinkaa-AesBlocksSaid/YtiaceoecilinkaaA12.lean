/- Block: a block, sealed. -/
import Derived.Test.YtiaceoecilinkaaA11
namespace Go.Proofs.Ytiaceoecilinkaa
open Go.RowKit
set_option linter.unusedSimpArgs false

theorem xor_len {a b : List Nat} {n : Nat} (ha : a.length = n) (hb : b.length = n) : (xorL a b).length = n := by unfold xorL; rw [List.length_zipWith]; omega
theorem rk_len {K : List Nat} {r : Nat} (hK : K.length = 240) (hr : r < 15) : (rk K r).length = 16 := by unfold rk; rw [List.length_take, List.length_drop]; omega
theorem mem_getD {l : List Nat} {P : Nat → Prop} (h : ∀ i, i < l.length → P (l.getD i 0)) : ∀ x ∈ l, P x := by
  intro x hx
  obtain ⟨i, hi, rfl⟩ := List.getElem_of_mem hx
  have := h i hi
  simpa [List.getD, hi] using this
theorem xor_256 {a b : List Nat} (hl : a.length = b.length) (ha : B256 a) (hb : B256 b) : B256 (xorL a b) :=
  mem_getD fun i hi => by
    rw [xor_len hl rfl] at hi
    rw [xorL_get (by omega) hi]
    exact xor8 (ha.getD i) (hb.getD i)
theorem rk_256 {K : List Nat} (r : Nat) (h : B256 K) : B256 (rk K r) := fun x hx => h x (List.mem_of_mem_drop (List.mem_of_mem_take hx))
theorem sh_256 (b : List Nat) : B256 (shL b) := fun x hx => by
  obtain ⟨i, _, rfl⟩ := List.mem_map.1 hx
  exact sb_lt _
theorem mx_256 {b : List Nat} (h : B256 b) : B256 (mxL b) := fun x hx => by
  obtain ⟨i, _, rfl⟩ := List.mem_map.1 hx
  unfold mx1 mxA
  exact xor8 (xor8 (h.getD _) (xor8 (xor8 (xor8 (h.getD _) (h.getD _)) (h.getD _)) (h.getD _))) (dbl_lt _)

/-- A block behind r rounds. -/
def rnd (K b : List Nat) : Nat → List Nat
  | 0 => xorL b (rk K 0)
  | r + 1 => xorL (mxL (shL (rnd K b r))) (rk K (r + 1))
/-- A block, sealed. -/
def aesP (K b : List Nat) : List Nat := xorL (shL (rnd K b 13)) (rk K 14)
theorem rnd_ok {K b : List Nat} (hK : K.length = 240) (hKb : B256 K) (hb : b.length = 16) (hbb : B256 b) : ∀ r, r < 14 → (rnd K b r).length = 16 ∧ B256 (rnd K b r)
  | 0, h => ⟨xor_len hb (rk_len hK (by omega)), xor_256 (by rw [hb, rk_len hK (by omega)]) hbb (rk_256 _ hKb)⟩
  | r + 1, h => ⟨xor_len (map16_len _) (rk_len hK (by omega)), xor_256 (by rw [show (mxL (shL (rnd K b r))).length = 16 from map16_len _, rk_len hK (by omega)]) (mx_256 (sh_256 _)) (rk_256 _ hKb)⟩
theorem aes_len {K : List Nat} (b : List Nat) (hK : K.length = 240) : (aesP K b).length = 16 := xor_len (map16_len _) (rk_len hK (by omega))
theorem aes_256 {K : List Nat} (b : List Nat) (hK : K.length = 240) (hKb : B256 K) : B256 (aesP K b) :=
  xor_256 (by rw [show (shL (rnd K b 13)).length = 16 from map16_len _, rk_len hK (by omega)]) (sh_256 _) (rk_256 _ hKb)

set_option maxRecDepth 100000 in
set_option maxHeartbeats 8000000 in
theorem block13 (C : Nat) (K b : List Nat) (w : World) (hc : Ciph w C K) (hK : K.length = 240) (hKb : B256 K) (hb : b.length = 16) (hbb : B256 b) :
    Calls Try.prog 13 #[.pointer (some ⟨C, 0, none⟩), .agg (bvs b).toArray] w fun e w' => e = .returned (.agg (bvs (aesP K b)).toArray) ∧ Below w.heap.size w w' := by
  have Hc := Lib.hid hc
  have hCl : C < w.heap.size := by obtain ⟨g, _, h⟩ := hc; exact h.lt
  have q0 : Hid (∀ W, Below w.heap.size w W → Calls Try.prog 24 #[.pointer (some ⟨C, 0, none⟩), .agg (bvs b).toArray, .int .i64 0] W fun e w' => e = .returned (.agg (bvs (rnd K b 0)).toArray) ∧ Below W.heap.size W w') :=
    fun W hW => add24 C 0 K b W (hc.to hW) hK hKb hb hbb (by omega)
  have qr : Hid (∀ m r : Nat, m = r + 1 → r < 13 → ∀ W, Below w.heap.size w W → Calls Try.prog 24 #[.pointer (some ⟨C, 0, none⟩), .agg (bvs (mxL (shL (rnd K b r)))).toArray, .int .i64 (m : Int)] W fun e w' => e = .returned (.agg (bvs (rnd K b m)).toArray) ∧ Below W.heap.size W w') :=
    fun m r e hr W hW => by subst e; exact add24 C (r + 1) K _ W (hc.to hW) hK hKb (map16_len _) (mx_256 (sh_256 _)) (by omega)
  have qs : Hid (∀ r, r < 14 → ∀ W, Below w.heap.size w W → Calls Try.prog 26 #[.pointer (some ⟨C, 0, none⟩), .agg (bvs (rnd K b r)).toArray] W fun e w' => e = .returned (.agg (bvs (shL (rnd K b r))).toArray) ∧ Below W.heap.size W w') :=
    fun r hr W hW => shift26 C K _ W (hc.to hW) (rnd_ok hK hKb hb hbb r hr).1 (rnd_ok hK hKb hb hbb r hr).2
  have qm : Hid (∀ r, r < 14 → ∀ W, Below w.heap.size w W → Calls Try.prog 25 #[.pointer (some ⟨C, 0, none⟩), .agg (bvs (shL (rnd K b r))).toArray] W fun e w' => e = .returned (.agg (bvs (mxL (shL (rnd K b r)))).toArray) ∧ Below W.heap.size W w') :=
    fun r hr W hW => mix25 C K _ W (hc.to hW) (map16_len _) (sh_256 _)
  have ql : Hid (∀ W, Below w.heap.size w W → Calls Try.prog 24 #[.pointer (some ⟨C, 0, none⟩), .agg (bvs (shL (rnd K b 13))).toArray, .int .i64 14] W fun e w' => e = .returned (.agg (bvs (aesP K b)).toArray) ∧ Below W.heap.size W w') :=
    fun W hW => add24 C 14 K _ W (hc.to hW) hK hKb (map16_len _) (sh_256 _) (by omega)
  have Hl : Hid (∀ r, r < 14 → (bvs (rnd K b r)).length = 16) := fun r hr => by rw [bvs_length, (rnd_ok hK hKb hb hbb r hr).1]
  have Hla : Hid ((bvs (aesP K b)).length = 16) := by show (bvs (aesP K b)).length = 16; rw [bvs_length, aes_len b hK]
  have Hbl : Hid ((bvs b).length = 16) := by show (bvs b).length = 16; rw [bvs_length, hb]
  have Ho : Hid (∀ r, ∀ v ∈ bvs (rnd K b r), v.oneCell' = true) := fun r => bvs_one _
  have Hoa : Hid (∀ v ∈ bvs (aesP K b), v.oneCell' = true) := bvs_one _
  have Hsz : Hid (∀ l : List Value, l.length = 16 → (Try.prog.info? 28).map (·.size) = some l.toArray.size) := fun l hl => by simp [size28, hl]
  have hz := zero28
  have HZl : Hid ((zs 16).length = 16) := by show (zs 16).length = 16; simp [zs, bvs]
  clear hc hK hKb hb hbb
  generalize zs 16 = Z at *
  generalize bvs (aesP K b) = res at *
  generalize bvs b = b0' at *
  generalize hR : (fun r => bvs (rnd K b r)) = R at *
  generalize hS : (fun r => bvs (shL (rnd K b r))) = S at *
  generalize hM : (fun r => bvs (mxL (shL (rnd K b r)))) = M at *
  have eR : ∀ r, bvs (rnd K b r) = R r := fun r => by rw [← hR]
  have eS : ∀ r, bvs (shL (rnd K b r)) = S r := fun r => by rw [← hS]
  have eM : ∀ r, bvs (mxL (shL (rnd K b r))) = M r := fun r => by rw [← hM]
  simp only [eR, eS, eM] at q0 qr qs qm ql Hl Ho
  clear eR eS eM hR hS hM
  go_enter Try.func13, Try.ntmps13
  go_upto_region 1 with fail
  clear hz
  refine gen_world (G := fun W => Code.wp _ _ _ _ W) (I := fun W => Below w.heap.size w W ∧ Blk W w.heap.size 28 b0' ∧ Blk W (w.heap.size + 1) 28 Z) ⟨?_, ?_, ?_⟩ ?_
  · exact ba (ba (b0 _) _) _
  · exact (Blk.new w 28 _).alloc _
  · have h := Blk.new (w.alloc (.cells b0'.toArray 28)) 28 Z
    simpa using h
  have hB0 : w.heap.size ≤ w.heap.size := Nat.le_refl _
  have hB1 : w.heap.size ≤ w.heap.size + 1 := by omega
  have h10 : w.heap.size + 1 ≠ w.heap.size := by omega
  generalize w.heap.size + 1 = B1 at *
  obtain ⟨B0, hBB⟩ : ∃ B0, B0 = w.heap.size := ⟨_, rfl⟩
  rintro W ⟨hb, k0, k1⟩
  rw [← hBB] at k0
  rw [← hBB]
  have hB0' : w.heap.size ≤ B0 := by omega
  have h10' : B1 ≠ B0 := by omega
  have Hb := Lib.hid hb
  have K0 := Lib.hid k0
  have K1 := Lib.hid k1
  clear hb k0 k1 hBB h10 hB0
  have HszB := Lib.hid (Hsz.out b0' Hbl.out)
  have HlR0 := Lib.hid (Hl.out 0 (by omega))
  have HoR0 := Lib.hid (Ho.out 0)
  go_wp2_with (first
    | (refine wpList_load_row rfl 28 (.tmp 3) rfl B0 rfl 28 b0'.toArray (0, 0) _ K0.out Try.underlying28 rfl HszB.out ?_)
    | (go_at_call 24; refine (q0.out _ Hb.out).mono ?_; rintro e w1 ⟨rfl, hb1⟩; have Hb1 : Hid (Below w.heap.size w w1) := bt Hb.out hb1; have K01 : Hid (Blk w1 B0 28 b0') := K0.out.to hb1; have K11 : Hid (Blk w1 B1 28 Z) := K1.out.to hb1; clear hb1)
    | (refine st28 rfl (.tmp 3) (.tmp 8) rfl B0 (R 0) b0' rfl rfl K01.out Hbl.out HlR0.out HoR0.out ?_; intro w2 hw1 hw2 hw3; have L0 := Lib.hid hw1; have Lb := Lib.hid (hw2 _ _ Hb1.out hB0'); have L1 := Lib.hid (hw3 _ _ _ h10' K11.out); clear hw1 hw2 hw3))
  clear K0 K1 Hb K01 K11 Hb1 HszB HlR0 HoR0 q0
  go_loopw [5] (fun i wr => ∃ m : Nat, 1 ≤ m ∧ m ≤ 14 ∧ i = .int .i64 m ∧ Hid (Below w.heap.size w wr) ∧ Hid (Blk wr B0 28 (R (m - 1))) ∧ Hid (Blk wr B1 28 Z)) (fun i _ => 14 - (intOf i).toNat)
  case atStart => exact ⟨1, by omega, by omega, rfl, Lb.out, L0.out, L1.out⟩
  case round =>
    obtain ⟨m, h1m, hm, rfl, Hb, K0, K1⟩ := hrel
    clear Lb L0 L1
    by_cases hlt : m < 14
    · have hmz : (m : Int) < 14 := by omega
      have HszB := Lib.hid (Hsz.out _ (Hl.out (m - 1) (by omega)))
      have HlR := Lib.hid (Hl.out (m - 1) (by omega))
      have HlR2 := Lib.hid (Hl.out m (by omega))
      have HoR2 := Lib.hid (Ho.out m)
      have p1 := Lib.hid (qs.out (m - 1) (by omega))
      have p2 := Lib.hid (qm.out (m - 1) (by omega))
      have p3 := Lib.hid (qr.out m (m - 1) (by omega) (by omega))
      have Hmm : Hid (m + 1 - 1 = m) := Nat.add_sub_cancel m 1
      generalize R (m - 1) = R1 at *
      generalize hR2 : R m = R2 at *
      have HR2 := Lib.hid hR2
      clear hR2
      generalize S (m - 1) = S1 at *
      generalize M (m - 1) = M1 at *
      go_wp2_with (first
        | (refine wpList_load_row rfl 28 (.tmp 3) rfl B0 rfl 28 R1.toArray (0, 0) _ K0.out Try.underlying28 rfl HszB.out ?_)
        | (go_at_call 26; refine (p1.out _ Hb.out).mono ?_; rintro e w1 ⟨rfl, hb1⟩; have Hb1 : Hid (Below w.heap.size w w1) := bt Hb.out hb1; have K01 : Hid (Blk w1 B0 28 R1) := K0.out.to hb1; have K11 : Hid (Blk w1 B1 28 Z) := K1.out.to hb1; clear hb1)
        | (go_at_call 25; refine (p2.out _ Hb1.out).mono ?_; rintro e w2 ⟨rfl, hb2⟩; have Hb2 : Hid (Below w.heap.size w w2) := bt Hb1.out hb2; have K02 : Hid (Blk w2 B0 28 R1) := K01.out.to hb2; have K12 : Hid (Blk w2 B1 28 Z) := K11.out.to hb2; clear hb2)
        | (go_at_call 24; refine (p3.out _ Hb2.out).mono ?_; rintro e w3 ⟨rfl, hb3⟩; have Hb3 : Hid (Below w.heap.size w w3) := bt Hb2.out hb3; have K03 : Hid (Blk w3 B0 28 R1) := K02.out.to hb3; have K13 : Hid (Blk w3 B1 28 Z) := K12.out.to hb3; clear hb3)
        | (refine st28 rfl (.tmp 3) (.tmp 20) rfl B0 R2 R1 rfl rfl K03.out HlR.out HlR2.out HoR2.out ?_; intro w4 hw1 hw2 hw3; have L0 := Lib.hid hw1; have Lb := Lib.hid (hw2 _ _ Hb3.out hB0'); have L1 := Lib.hid (hw3 _ _ _ h10' K13.out); clear hw1 hw2 hw3))
      go_roundw
      case rel => exact ⟨m + 1, by omega, by omega, by go_num, Lb.out, by rw [Hmm.out, HR2.out]; exact L0.out, L1.out⟩
      case measure => simp [intOf]; omega
    · have : m = 14 := by omega
      subst this
      have HszB := Lib.hid (Hsz.out _ (Hl.out 13 (by omega)))
      have p1 := Lib.hid (qs.out 13 (by omega))
      have K0' : Hid (Blk wr B0 28 (R 13)) := K0
      clear K0
      have K0 := K0'
      clear K0'
      generalize R 13 = R1 at *
      generalize S 13 = S1 at *
      go_wp2_with (first
        | (refine wpList_load_row rfl 28 (.tmp 3) rfl B0 rfl 28 R1.toArray (0, 0) _ K0.out Try.underlying28 rfl HszB.out ?_)
        | (go_at_call 26; refine (p1.out _ Hb.out).mono ?_; rintro e w1 ⟨rfl, hb1⟩; have Hb1 : Hid (Below w.heap.size w w1) := bt Hb.out hb1; have K11 : Hid (Blk w1 B1 28 Z) := K1.out.to hb1; clear hb1)
        | (go_at_call 24; refine (ql.out _ Hb1.out).mono ?_; rintro e w3 ⟨rfl, hb3⟩; have Hb3 : Hid (Below w.heap.size w w3) := bt Hb1.out hb3; have K13 : Hid (Blk w3 B1 28 Z) := K11.out.to hb3; clear hb3)
        | (refine st28 rfl (.tmp 4) (.tmp 25) rfl B1 res Z rfl rfl K13.out HZl.out Hla.out Hoa.out ?_; intro w4 hw1 hw2 hw3; have L0 := Lib.hid hw1; have Lb := Lib.hid (hw2 _ _ Hb3.out hB1); clear hw1 hw2 hw3))
      refine bodyPost_ret (ret28 rfl _ _ B1 _ rfl L0.out Hla.out) rfl ⟨rfl, Lb.out⟩
end Go.Proofs.Ytiaceoecilinkaa
