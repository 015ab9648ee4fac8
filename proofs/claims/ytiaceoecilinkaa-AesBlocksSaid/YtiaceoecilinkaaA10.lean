/- shift. -/
import Derived.Test.YtiaceoecilinkaaA9
namespace Go.Proofs.Ytiaceoecilinkaa
open Go.RowKit
set_option linter.unusedSimpArgs false

def shL (b : List Nat) : List Nat := (List.range 16).map (fun i => sb (b.getD ((i + 4 * (i % 4)) % 16) 0))
theorem map16_len (f : Nat → Nat) : ((List.range 16).map f).length = 16 := by simp
theorem map16_get (f : Nat → Nat) {i : Nat} (h : i < 16) : ((List.range 16).map f).getD i 0 = f i := by simp [List.getD, h]
theorem zs16_len : (List.replicate 16 0).length = 16 := by simp

set_option maxRecDepth 100000 in
set_option maxHeartbeats 8000000 in
theorem shift26 (C : Nat) (K b : List Nat) (w : World) (hc : Ciph w C K) (hb : b.length = 16) (hbb : B256 b) :
    Calls Try.prog 26 #[.pointer (some ⟨C, 0, none⟩), .agg (bvs b).toArray] w fun e w' => e = .returned (.agg (bvs (shL b)).toArray) ∧ Below w.heap.size w w' := by
  obtain ⟨g, hT, hC⟩ := hc
  have hCl := hC.lt
  have hgl := hT.lt
  have HC : Hid (w.cell? ⟨C, 0, none⟩ = some (.pointer (some ⟨g, 0, none⟩))) := by show w.cell? ⟨C, 0, none⟩ = _; rw [hC.cell]; rfl
  have HT : Hid (∀ c, c < 256 → w.cell? ⟨g, c, none⟩ = some (.int .u8 (sb c : Nat))) := fun c h => hT.box h
  have htl : (shL b).length = 16 := map16_len _
  have Ht : Hid (∀ i, i < 16 → (shL b).getD i 0 = sb (b.getD ((i + 4 * (i % 4)) % 16) 0)) := fun i hi => map16_get _ hi
  have Hm0 := Lib.hid (mk_zero (List.replicate 16 0) (shL b))
  have Hml := Lib.hid (fun k => @mk_len (List.replicate 16 0) (shL b) k 16 zs16_len htl)
  have Hmf := Lib.hid (mk_full zs16_len htl)
  have Hms := Lib.hid (fun k => @mk_set (List.replicate 16 0) (shL b) k 16 zs16_len htl)
  have Hbb := Lib.hid (hbb.getD)
  have Hbl := Lib.hid hb
  have hz := zero28
  have Hz0 : Hid (zs 16 = bvs (mk (List.replicate 16 0) (shL b) 0)) := by show zs 16 = _; rw [mk_zero]; rfl
  rw [Hz0.out] at hz
  clear hC hT hb hbb htl Hz0
  generalize shL b = t at *
  generalize mk (List.replicate 16 0) t = M at *
  obtain ⟨bb, hbbv⟩ : ∃ bb, bb = bvs b := ⟨_, rfl⟩
  have HbC := Lib.hid (show ∀ j, j < 16 → bb[j]? = some (.int .u8 ((b.getD j 0 : Nat) : Int)) from fun j hj => by rw [hbbv, bvs_getD (by rw [Hbl.out]; omega)])
  rw [← hbbv]
  clear hbbv
  generalize hz16 : bvs (M 0) = Z at *
  have HZ := Lib.hid hz16
  have HZl : Hid (Z.length = 16) := by show Z.length = 16; rw [← hz16, bvs_length, Hml.out 0 (by omega)]
  clear hz16
  go_enter Try.func26, Try.ntmps26
  go_upto_region 2 with fail
  clear hz
  refine gen_world (G := fun W => Code.wp _ _ _ _ W) (I := fun W => Below w.heap.size w W ∧ Blk W w.heap.size 28 bb ∧ Blk W (w.heap.size + 1) 28 Z ∧ Blk W (w.heap.size + 1 + 1) 28 (bvs (M 0))) ⟨?_, ?_, ?_, ?_⟩ ?_
  · exact ba (ba (ba (b0 _) _) _) _
  · exact ((Blk.new w 28 _).alloc _).alloc _
  · have h := (Blk.new (w.alloc (.cells bb.toArray 28)) 28 Z).alloc (.cells Z.toArray 28)
    simpa using h
  · have h := Blk.new ((w.alloc (.cells bb.toArray 28)).alloc (.cells Z.toArray 28)) 28 Z
    rw [HZ.out]
    simpa using h
  have hB0 : w.heap.size ≤ w.heap.size := Nat.le_refl _
  have hB1 : w.heap.size ≤ w.heap.size + 1 := by omega
  have hB2 : w.heap.size ≤ w.heap.size + 1 + 1 := by omega
  have h02 : w.heap.size ≠ w.heap.size + 1 + 1 := by omega
  have h12 : w.heap.size + 1 ≠ w.heap.size + 1 + 1 := by omega
  generalize w.heap.size + 1 + 1 = B2 at *
  generalize w.heap.size + 1 = B1 at *
  generalize hB : w.heap.size = B0 at *
  have HB := Lib.hid hB
  clear hB
  rintro W ⟨hb, k0, k1, k2⟩
  have Hb := Lib.hid hb
  have K0 := Lib.hid k0
  have K1 := Lib.hid k1
  have K2 := Lib.hid k2
  clear hb k0 k1 k2
  go_wp2_with fail
  go_loopw [7] (fun i wr => ∃ k : Nat, k ≤ 16 ∧ i = .int .i64 k ∧ Hid (Below B0 w wr) ∧ Hid (Blk wr B0 28 bb) ∧ Hid (Blk wr B1 28 Z) ∧ Hid (Blk wr B2 28 (bvs (M k)))) (fun i _ => 16 - (intOf i).toNat)
  case atStart => exact ⟨0, by omega, rfl, Hb.out, K0.out, K1.out, K2.out⟩
  case round =>
    obtain ⟨k, hk, rfl, HB', L0, L1, L2⟩ := hrel
    clear Hb K0 K1 K2
    by_cases hlt : k < 16
    · have hkz : (k : Int) < 16 := by omega
      have hk0 : (0 : Int) ≤ (k : Int) := by omega
      obtain ⟨m, hm⟩ : ∃ m, m = k % 4 := ⟨_, rfl⟩
      obtain ⟨j, hj⟩ : ∃ j, j = (k + 4 * (k % 4)) % 16 := ⟨_, rfl⟩
      have e2 : (k : Int) % 4 = (m : Int) := by omega
      have e7 : ((k : Int) + 4 * (m : Int)) % 16 = (j : Int) := by omega
      have e3 : (k : Int).tmod 4 = (m : Int) := by rw [Int.tmod_eq_emod_of_nonneg (by omega)]; exact e2
      have e4 : IntKind.i64.wrap (m : Int) = (m : Int) := IntWalk.i64_in _ (by omega)
      have e5 : IntKind.i64.wrap (4 * (m : Int)) = 4 * (m : Int) := IntWalk.i64_in _ (by omega)
      have e6 : IntKind.i64.wrap ((k : Int) + 4 * (m : Int)) = (k : Int) + 4 * (m : Int) := IntWalk.i64_in _ (by omega)
      have e8 : ((k : Int) + 4 * (m : Int)).tmod 16 = (j : Int) := by rw [Int.tmod_eq_emod_of_nonneg (by omega)]; exact e7
      have e9 : IntKind.i64.wrap (j : Int) = (j : Int) := IntWalk.i64_in _ (by omega)
      have hj0 : (0 : Int) ≤ (j : Int) := by omega
      have hj1 : (j : Int) < 16 := by omega
      have hm0 : (0 : Int) ≤ (m : Int) := by omega
      have hm1 : (m : Int) < 4 := by omega
      have HTk : Hid (t.getD k 0 = sb (b.getD j 0)) := by show t.getD k 0 = sb (b.getD j 0); rw [Ht.out k hlt, hj]
      have c0 : wr.cell? ⟨B0, j, none⟩ = some (.int .u8 ((b.getD j 0 : Nat) : Int)) := by
        rw [L0.out.cell, HbC.out j (by omega)]
      have cC : wr.cell? ⟨C, 0, none⟩ = some (.pointer (some ⟨g, 0, none⟩)) := (HB'.out.cell (p := ⟨C, 0, none⟩) hCl).trans HC.out
      have cT : wr.cell? ⟨g, b.getD j 0, none⟩ = some (.int .u8 (sb (b.getD j 0) : Nat)) := (HB'.out.cell (p := ⟨g, b.getD j 0, none⟩) hgl).trans (HT.out _ (Hbb.out j))
      obtain ⟨u, hu⟩ : ∃ u, (bvs (M k))[k]? = some u := ⟨_, List.getElem?_eq_getElem (by rw [bvs_length, Hml.out k hk]; omega)⟩
      have c2 : wr.cell? ⟨B2, k, none⟩ = some u := (L2.out.cell k).trans hu
      have f2 := L2.out.frozen k
      have hxb := Hbb.out j
      have hx0 : (0 : Int) ≤ ((b.getD j 0 : Nat) : Int) := by omega
      have hx1 : ((b.getD j 0 : Nat) : Int) < 256 := by omega
      have Hs := Lib.hid (Hms.out k hlt)
      rw [HTk.out] at Hs
      clear hu hm hj HTk
      generalize sb (b.getD j 0) = z at *
      generalize b.getD j 0 = x at *
      go_wp2_with fail
      refine wp_region_tail 18 (by kernel_rfl) (by kernel_rfl) ?_
      simp only [List.take_succ_cons, List.take_zero, List.drop_succ_cons, List.drop_zero]
      repeat still_step
      refine wpStill_nil ?_
      go_wp2_with fail
      go_roundw
      case rel => exact ⟨k + 1, by omega, by go_num, (HB'.out.setCell (by simpa using hB2) _).drew, (L0.out.far (by simpa using h02) _).drew, (L1.out.far (by simpa using h12) _).drew, by rw [← Hs.out, ← bvs_set]; exact (L2.out.set_ _ _).drew⟩
      case measure => simp [intOf]; omega
    · have : k = 16 := by omega
      subst this
      have Hsz : Hid ((Try.prog.info? 28).map (·.size) = some (bvs (M 16)).toArray.size) := by
        show (Try.prog.info? 28).map (·.size) = some (bvs (M 16)).toArray.size
        simp [size28, bvs_length, Hml.out 16 (by omega)]
      have Hl16 : Hid ((bvs (M 16)).length = 16) := by show (bvs (M 16)).length = 16; rw [bvs_length, Hml.out 16 (by omega)]
      have Hone := Lib.hid (bvs_one (M 16))
      go_wp2_with (first
        | (refine wpList_load_row rfl 28 (.tmp 5) rfl B2 rfl 28 (bvs (M 16)).toArray (0, 0) _ L2.out Try.underlying28 rfl Hsz.out ?_)
        | (refine st28 rfl (.tmp 4) (.tmp 29) rfl B1 (bvs (M 16)) Z rfl rfl L1.out HZl.out Hl16.out Hone.out ?_; intro w2 hw1 hw2 hw3; have Hw1 := Lib.hid hw1; have Hw2 := Lib.hid (hw2 _ _ HB'.out hB1); clear hw1 hw2 hw3))
      refine bodyPost_ret (ret28 rfl _ _ B1 _ rfl Hw1.out Hl16.out) rfl ⟨by rw [Hmf.out], ?_⟩
      have h := Hw2.out
      rw [← HB.out] at h
      exact h
end Go.Proofs.Ytiaceoecilinkaa
