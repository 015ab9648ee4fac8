/- mix. -/
import Derived.Test.YtiaceoecilinkaaA10
namespace Go.Proofs.Ytiaceoecilinkaa
open Go.RowKit
set_option linter.unusedSimpArgs false

def mxA (b : List Nat) (q : Nat) : Nat := b.getD (4 * q) 0 ^^^ b.getD (4 * q + 1) 0 ^^^ b.getD (4 * q + 2) 0 ^^^ b.getD (4 * q + 3) 0
def mx1 (b : List Nat) (j : Nat) : Nat := b.getD j 0 ^^^ mxA b (j / 4) ^^^ dbl (b.getD j 0 ^^^ b.getD (4 * (j / 4) + (j % 4 + 1) % 4) 0)
/-- A block with its columns mixed. -/
def mxL (b : List Nat) : List Nat := (List.range 16).map (mx1 b)

set_option maxRecDepth 100000 in
set_option maxHeartbeats 32000000 in
theorem mix25 (C : Nat) (K b : List Nat) (w : World) (hc : Ciph w C K) (hb : b.length = 16) (hbb : B256 b) :
    Calls Try.prog 25 #[.pointer (some ⟨C, 0, none⟩), .agg (bvs b).toArray] w fun e w' => e = .returned (.agg (bvs (mxL b)).toArray) ∧ Below w.heap.size w w' := by
  obtain ⟨g, hT, hC⟩ := hc
  have hCl := hC.lt
  have hgl := hT.lt
  have HC : Hid (w.cell? ⟨C, 0, none⟩ = some (.pointer (some ⟨g, 0, none⟩))) := by show w.cell? ⟨C, 0, none⟩ = _; rw [hC.cell]; rfl
  have HT : Hid (∀ c, c < 256 → w.cell? ⟨g, 256 + c, none⟩ = some (.int .u8 (dbl c : Nat))) := fun c h => hT.two h
  have htl : (mxL b).length = 16 := map16_len _
  have Ht : Hid (∀ i, i < 16 → (mxL b).getD i 0 = mx1 b i) := fun i hi => map16_get _ hi
  have Hm0 := Lib.hid (mk_zero (List.replicate 16 0) (mxL b))
  have Hml := Lib.hid (fun k => @mk_len (List.replicate 16 0) (mxL b) k 16 zs16_len htl)
  have Hmf := Lib.hid (mk_full zs16_len htl)
  have Hms := Lib.hid (fun k => @mk_set (List.replicate 16 0) (mxL b) k 16 zs16_len htl)
  have Hbb := Lib.hid (hbb.getD)
  have Hbl := Lib.hid hb
  have hz := zero28
  have Hz0 : Hid (zs 16 = bvs (mk (List.replicate 16 0) (mxL b) 0)) := by show zs 16 = _; rw [mk_zero]; rfl
  rw [Hz0.out] at hz
  clear hC hT hb hbb htl Hz0
  generalize mxL b = t at *
  generalize mk (List.replicate 16 0) t = M at *
  obtain ⟨bb, hbbv⟩ : ∃ bb, bb = bvs b := ⟨_, rfl⟩
  have HbC := Lib.hid (show ∀ j, j < 16 → bb[j]? = some (.int .u8 ((b.getD j 0 : Nat) : Int)) from fun j hj => by rw [hbbv, bvs_getD (by rw [Hbl.out]; omega)])
  rw [← hbbv]
  clear hbbv
  generalize hz16 : bvs (M 0) = Z at *
  have HZ := Lib.hid hz16
  have HZl : Hid (Z.length = 16) := by show Z.length = 16; rw [← hz16, bvs_length, Hml.out 0 (by omega)]
  clear hz16
  go_enter Try.func25, Try.ntmps25
  go_upto_region 2 with fail
  clear hz
  refine gen_world (G := fun W => Code.wp _ _ _ _ W) (I := fun W => Below w.heap.size w W ∧ Blk W w.heap.size 28 bb ∧ Blk W (w.heap.size + 1) 28 Z ∧ Blk W (w.heap.size + 1 + 1) 28 (bvs (M 0))) ⟨?_, ?_, ?_, ?_⟩ ?_
  · exact ba (ba (ba (b0 _) _) _) _
  · exact ((Blk.new w 28 _).alloc _).alloc _
  · have h := (Blk.new (w.alloc (.cells bb.toArray 28)) 28 Z).alloc (.cells Z.toArray 28)
    simpa using h
  · have h := Blk.new ((w.alloc (.cells bb.toArray 28)).alloc (.cells Z.toArray 28)) 28 Z
    rw [HZ.out]
    simpa using h
  have hB0 : w.heap.size ≤ w.heap.size := Nat.le_refl _
  have hB1 : w.heap.size ≤ w.heap.size + 1 := by omega
  have hB2 : w.heap.size ≤ w.heap.size + 1 + 1 := by omega
  have h02 : w.heap.size ≠ w.heap.size + 1 + 1 := by omega
  have h12 : w.heap.size + 1 ≠ w.heap.size + 1 + 1 := by omega
  generalize w.heap.size + 1 + 1 = B2 at *
  generalize w.heap.size + 1 = B1 at *
  generalize hB : w.heap.size = B0 at *
  have HB := Lib.hid hB
  clear hB
  rintro W ⟨hb, k0, k1, k2⟩
  have Hb := Lib.hid hb
  have K0 := Lib.hid k0
  have K1 := Lib.hid k1
  have K2 := Lib.hid k2
  clear hb k0 k1 k2
  go_wp2_with fail
  go_loopw [6] (fun i wr => ∃ q : Nat, q ≤ 4 ∧ i = .int .i64 (4 * q : Nat) ∧ Hid (Below B0 w wr) ∧ Hid (Blk wr B0 28 bb) ∧ Hid (Blk wr B1 28 Z) ∧ Hid (Blk wr B2 28 (bvs (M (4 * q))))) (fun i _ => 16 - (intOf i).toNat)
  case atStart => exact ⟨0, by omega, rfl, Hb.out, K0.out, K1.out, K2.out⟩
  case round =>
    obtain ⟨q, hq, rfl, HB', L0, L1, L2⟩ := hrel
    clear Hb K0 K1 K2
    obtain ⟨wo, rfl⟩ : ∃ wo : World, wo = wr := ⟨_, rfl⟩
    obtain rfl | rfl | rfl | rfl | rfl : q = 0 ∨ q = 1 ∨ q = 2 ∨ q = 3 ∨ q = 4 := by omega
    · have Ha : Hid (mxA b 0 = b.getD 0 0 ^^^ b.getD 1 0 ^^^ b.getD 2 0 ^^^ b.getD 3 0) := rfl
      have c0 : wo.cell? ⟨B0, 0, none⟩ = some (.int .u8 ((b.getD 0 0 : Nat) : Int)) := by rw [L0.out.cell, HbC.out 0 (by omega)]
      have g0 := Hbb.out 0
      have c1 : wo.cell? ⟨B0, 1, none⟩ = some (.int .u8 ((b.getD 1 0 : Nat) : Int)) := by rw [L0.out.cell, HbC.out 1 (by omega)]
      have g1 := Hbb.out 1
      have c2 : wo.cell? ⟨B0, 2, none⟩ = some (.int .u8 ((b.getD 2 0 : Nat) : Int)) := by rw [L0.out.cell, HbC.out 2 (by omega)]
      have g2 := Hbb.out 2
      have c3 : wo.cell? ⟨B0, 3, none⟩ = some (.int .u8 ((b.getD 3 0 : Nat) : Int)) := by rw [L0.out.cell, HbC.out 3 (by omega)]
      have g3 := Hbb.out 3
      have Hp0 : Hid ((t.getD 0 0) = b.getD 0 0 ^^^ mxA b 0 ^^^ dbl (b.getD 0 0 ^^^ b.getD 1 0)) := Ht.out 0 (by omega)
      have Hp1 : Hid ((t.getD 1 0) = b.getD 1 0 ^^^ mxA b 0 ^^^ dbl (b.getD 1 0 ^^^ b.getD 2 0)) := Ht.out 1 (by omega)
      have Hp2 : Hid ((t.getD 2 0) = b.getD 2 0 ^^^ mxA b 0 ^^^ dbl (b.getD 2 0 ^^^ b.getD 3 0)) := Ht.out 2 (by omega)
      have Hp3 : Hid ((t.getD 3 0) = b.getD 3 0 ^^^ mxA b 0 ^^^ dbl (b.getD 3 0 ^^^ b.getD 0 0)) := Ht.out 3 (by omega)
      have HE0 := Lib.hid (HbC.out 0 (by omega))
      have HE1 := Lib.hid (HbC.out 1 (by omega))
      have HE2 := Lib.hid (HbC.out 2 (by omega))
      have HE3 := Lib.hid (HbC.out 3 (by omega))
      have cC : wo.cell? ⟨C, 0, none⟩ = some (.pointer (some ⟨g, 0, none⟩)) := (HB'.out.cell (p := ⟨C, 0, none⟩) hCl).trans HC.out
      generalize mxA b 0 = al at *
      generalize b.getD 0 0 = x0 at *
      generalize b.getD 1 0 = x1 at *
      generalize b.getD 2 0 = x2 at *
      generalize b.getD 3 0 = x3 at *
      have v1 := u8_xor_nat x0 x1 g0 g1
      have w1 := xor8 g0 g1
      have v2 := u8_xor_nat (x0 ^^^ x1) x2 w1 g2
      have w2 := xor8 w1 g2
      have v3 := u8_xor_nat (x0 ^^^ x1 ^^^ x2) x3 w2 g3
      have w3 := xor8 w2 g3
      rw [← Ha.out] at v3 w3
      clear Ha
      generalize x0 ^^^ x1 ^^^ x2 = y2 at v2 v3
      generalize x0 ^^^ x1 = y1 at v1 v2
      go_wp2_with fail
      go_quiet (fail)
      have N0 : Hid (Below B0 w (wo.drewN nq)) := dn HB'.out _
      have N1 : Hid (Blk (wo.drewN nq) B0 28 bb) := L0.out.drewN _
      have N2 : Hid (Blk (wo.drewN nq) B1 28 Z) := L1.out.drewN _
      have N3 : Hid (Blk (wo.drewN nq) B2 28 (bvs (M 0))) := L2.out.drewN _
      clear c0 c1 c2 c3 cC HB' L0 L1 L2 v1 v2 v3 w1 w2
      go_wp2_with fail
      go_loopw [31] (fun i wr => ∃ k : Nat, k ≤ 4 ∧ i = .int .i64 k ∧ Hid (Below B0 w wr) ∧ Hid (Blk wr B0 28 bb) ∧ Hid (Blk wr B1 28 Z) ∧ Hid (Blk wr B2 28 (bvs (M (0 + k))))) (fun i _ => 4 - (intOf i).toNat)
      case atStart => exact ⟨0, by omega, rfl, N0.out, N1.out, N2.out, N3.out⟩
      case round =>
        obtain ⟨k, hk, rfl, HB', L0, L1, L2⟩ := hrel
        clear N0 N1 N2 N3
        obtain rfl | rfl | rfl | rfl | rfl : k = 0 ∨ k = 1 ∨ k = 2 ∨ k = 3 ∨ k = 4 := by omega
        · have HbK := HbC.out 0 (by omega)
          have HbN := HbC.out 1 (by omega)
          have cx : wr.cell? ⟨B0, 0, none⟩ = some (.int .u8 (x0 : Int)) := L0.out.cell 0 |>.trans HE0.out
          have cy : wr.cell? ⟨B0, 1, none⟩ = some (.int .u8 (x1 : Int)) := L0.out.cell 1 |>.trans HE1.out
          have cC : wr.cell? ⟨C, 0, none⟩ = some (.pointer (some ⟨g, 0, none⟩)) := (HB'.out.cell (p := ⟨C, 0, none⟩) hCl).trans HC.out
          have u1 := u8_xor_nat x0 al g0 w3
          have u2 := u8_xor_nat x0 x1 g0 g1
          have u3 := xor8 g0 g1
          have u4 := dbl_lt (x0 ^^^ x1)
          have u5 := u8_xor_nat (x0 ^^^ al) (dbl (x0 ^^^ x1)) (xor8 g0 w3) u4
          rw [← Hp0.out] at u5
          have cT : wr.cell? ⟨g, 256 + (x0 ^^^ x1), none⟩ = some (.int .u8 (dbl (x0 ^^^ x1) : Nat)) := (HB'.out.cell (p := ⟨g, 256 + (x0 ^^^ x1), none⟩) hgl).trans (HT.out _ u3)
          obtain ⟨u, hu⟩ : ∃ u, (bvs (M 0))[0]? = some u := ⟨_, List.getElem?_eq_getElem (by rw [bvs_length, Hml.out 0 (by omega)]; omega)⟩
          have c2 : wr.cell? ⟨B2, 0, none⟩ = some u := (L2.out.cell 0).trans hu
          have f2 := L2.out.frozen 0
          have Hs := Lib.hid (Hms.out 0 (by omega))
          generalize dbl (x0 ^^^ x1) = dd at *
          generalize x0 ^^^ x1 = xy at *
          generalize x0 ^^^ al = xa at *
          generalize t.getD 0 0 = z at *
          have hxy0 : (0 : Int) ≤ (xy : Int) := by omega
          have hxy1 : (xy : Int) < 256 := by omega
          clear hu HbK HbN Hp0 Hp1 Hp2 Hp3
          have q0 : IntKind.i64.wrap 0 = 0 := rfl
          have q1 : IntKind.i64.wrap 1 = 1 := rfl
          go_wp2_with fail
          refine wp_region_tail 33 (by kernel_rfl) (by kernel_rfl) ?_
          simp only [List.take_succ_cons, List.take_zero, List.drop_succ_cons, List.drop_zero]
          repeat still_step
          refine wpStill_nil ?_
          go_wp2_with fail
          go_roundw
          case rel => (repeat apply Exists.intro); exact ⟨⟨1, by omega, by first | rfl | go_num, (HB'.out.setCell (by simpa using hB2) _).drew, (L0.out.far (by simpa using h02) _).drew, (L1.out.far (by simpa using h12) _).drew, by show Blk _ B2 28 (bvs (M (0 + 1))); rw [← Hs.out, ← bvs_set]; exact (L2.out.set_ _ _).drew⟩, rfl⟩
          case measure => simp [intOf]
        · have HbK := HbC.out 1 (by omega)
          have HbN := HbC.out 2 (by omega)
          have cx : wr.cell? ⟨B0, 1, none⟩ = some (.int .u8 (x1 : Int)) := L0.out.cell 1 |>.trans HE1.out
          have cy : wr.cell? ⟨B0, 2, none⟩ = some (.int .u8 (x2 : Int)) := L0.out.cell 2 |>.trans HE2.out
          have cC : wr.cell? ⟨C, 0, none⟩ = some (.pointer (some ⟨g, 0, none⟩)) := (HB'.out.cell (p := ⟨C, 0, none⟩) hCl).trans HC.out
          have u1 := u8_xor_nat x1 al g1 w3
          have u2 := u8_xor_nat x1 x2 g1 g2
          have u3 := xor8 g1 g2
          have u4 := dbl_lt (x1 ^^^ x2)
          have u5 := u8_xor_nat (x1 ^^^ al) (dbl (x1 ^^^ x2)) (xor8 g1 w3) u4
          rw [← Hp1.out] at u5
          have cT : wr.cell? ⟨g, 256 + (x1 ^^^ x2), none⟩ = some (.int .u8 (dbl (x1 ^^^ x2) : Nat)) := (HB'.out.cell (p := ⟨g, 256 + (x1 ^^^ x2), none⟩) hgl).trans (HT.out _ u3)
          obtain ⟨u, hu⟩ : ∃ u, (bvs (M 1))[1]? = some u := ⟨_, List.getElem?_eq_getElem (by rw [bvs_length, Hml.out 1 (by omega)]; omega)⟩
          have c2 : wr.cell? ⟨B2, 1, none⟩ = some u := (L2.out.cell 1).trans hu
          have f2 := L2.out.frozen 1
          have Hs := Lib.hid (Hms.out 1 (by omega))
          generalize dbl (x1 ^^^ x2) = dd at *
          generalize x1 ^^^ x2 = xy at *
          generalize x1 ^^^ al = xa at *
          generalize t.getD 1 0 = z at *
          have hxy0 : (0 : Int) ≤ (xy : Int) := by omega
          have hxy1 : (xy : Int) < 256 := by omega
          clear hu HbK HbN Hp0 Hp1 Hp2 Hp3
          have q1 : IntKind.i64.wrap 1 = 1 := rfl
          have q2 : IntKind.i64.wrap 2 = 2 := rfl
          go_wp2_with fail
          refine wp_region_tail 33 (by kernel_rfl) (by kernel_rfl) ?_
          simp only [List.take_succ_cons, List.take_zero, List.drop_succ_cons, List.drop_zero]
          repeat still_step
          refine wpStill_nil ?_
          go_wp2_with fail
          go_roundw
          case rel => (repeat apply Exists.intro); exact ⟨⟨2, by omega, by first | rfl | go_num, (HB'.out.setCell (by simpa using hB2) _).drew, (L0.out.far (by simpa using h02) _).drew, (L1.out.far (by simpa using h12) _).drew, by show Blk _ B2 28 (bvs (M (1 + 1))); rw [← Hs.out, ← bvs_set]; exact (L2.out.set_ _ _).drew⟩, rfl⟩
          case measure => simp [intOf]
        · have HbK := HbC.out 2 (by omega)
          have HbN := HbC.out 3 (by omega)
          have cx : wr.cell? ⟨B0, 2, none⟩ = some (.int .u8 (x2 : Int)) := L0.out.cell 2 |>.trans HE2.out
          have cy : wr.cell? ⟨B0, 3, none⟩ = some (.int .u8 (x3 : Int)) := L0.out.cell 3 |>.trans HE3.out
          have cC : wr.cell? ⟨C, 0, none⟩ = some (.pointer (some ⟨g, 0, none⟩)) := (HB'.out.cell (p := ⟨C, 0, none⟩) hCl).trans HC.out
          have u1 := u8_xor_nat x2 al g2 w3
          have u2 := u8_xor_nat x2 x3 g2 g3
          have u3 := xor8 g2 g3
          have u4 := dbl_lt (x2 ^^^ x3)
          have u5 := u8_xor_nat (x2 ^^^ al) (dbl (x2 ^^^ x3)) (xor8 g2 w3) u4
          rw [← Hp2.out] at u5
          have cT : wr.cell? ⟨g, 256 + (x2 ^^^ x3), none⟩ = some (.int .u8 (dbl (x2 ^^^ x3) : Nat)) := (HB'.out.cell (p := ⟨g, 256 + (x2 ^^^ x3), none⟩) hgl).trans (HT.out _ u3)
          obtain ⟨u, hu⟩ : ∃ u, (bvs (M 2))[2]? = some u := ⟨_, List.getElem?_eq_getElem (by rw [bvs_length, Hml.out 2 (by omega)]; omega)⟩
          have c2 : wr.cell? ⟨B2, 2, none⟩ = some u := (L2.out.cell 2).trans hu
          have f2 := L2.out.frozen 2
          have Hs := Lib.hid (Hms.out 2 (by omega))
          generalize dbl (x2 ^^^ x3) = dd at *
          generalize x2 ^^^ x3 = xy at *
          generalize x2 ^^^ al = xa at *
          generalize t.getD 2 0 = z at *
          have hxy0 : (0 : Int) ≤ (xy : Int) := by omega
          have hxy1 : (xy : Int) < 256 := by omega
          clear hu HbK HbN Hp0 Hp1 Hp2 Hp3
          have q2 : IntKind.i64.wrap 2 = 2 := rfl
          have q3 : IntKind.i64.wrap 3 = 3 := rfl
          go_wp2_with fail
          refine wp_region_tail 33 (by kernel_rfl) (by kernel_rfl) ?_
          simp only [List.take_succ_cons, List.take_zero, List.drop_succ_cons, List.drop_zero]
          repeat still_step
          refine wpStill_nil ?_
          go_wp2_with fail
          go_roundw
          case rel => (repeat apply Exists.intro); exact ⟨⟨3, by omega, by first | rfl | go_num, (HB'.out.setCell (by simpa using hB2) _).drew, (L0.out.far (by simpa using h02) _).drew, (L1.out.far (by simpa using h12) _).drew, by show Blk _ B2 28 (bvs (M (2 + 1))); rw [← Hs.out, ← bvs_set]; exact (L2.out.set_ _ _).drew⟩, rfl⟩
          case measure => simp [intOf]
        · have HbK := HbC.out 3 (by omega)
          have HbN := HbC.out 0 (by omega)
          have cx : wr.cell? ⟨B0, 3, none⟩ = some (.int .u8 (x3 : Int)) := L0.out.cell 3 |>.trans HE3.out
          have cy : wr.cell? ⟨B0, 0, none⟩ = some (.int .u8 (x0 : Int)) := L0.out.cell 0 |>.trans HE0.out
          have cC : wr.cell? ⟨C, 0, none⟩ = some (.pointer (some ⟨g, 0, none⟩)) := (HB'.out.cell (p := ⟨C, 0, none⟩) hCl).trans HC.out
          have u1 := u8_xor_nat x3 al g3 w3
          have u2 := u8_xor_nat x3 x0 g3 g0
          have u3 := xor8 g3 g0
          have u4 := dbl_lt (x3 ^^^ x0)
          have u5 := u8_xor_nat (x3 ^^^ al) (dbl (x3 ^^^ x0)) (xor8 g3 w3) u4
          rw [← Hp3.out] at u5
          have cT : wr.cell? ⟨g, 256 + (x3 ^^^ x0), none⟩ = some (.int .u8 (dbl (x3 ^^^ x0) : Nat)) := (HB'.out.cell (p := ⟨g, 256 + (x3 ^^^ x0), none⟩) hgl).trans (HT.out _ u3)
          obtain ⟨u, hu⟩ : ∃ u, (bvs (M 3))[3]? = some u := ⟨_, List.getElem?_eq_getElem (by rw [bvs_length, Hml.out 3 (by omega)]; omega)⟩
          have c2 : wr.cell? ⟨B2, 3, none⟩ = some u := (L2.out.cell 3).trans hu
          have f2 := L2.out.frozen 3
          have Hs := Lib.hid (Hms.out 3 (by omega))
          generalize dbl (x3 ^^^ x0) = dd at *
          generalize x3 ^^^ x0 = xy at *
          generalize x3 ^^^ al = xa at *
          generalize t.getD 3 0 = z at *
          have hxy0 : (0 : Int) ≤ (xy : Int) := by omega
          have hxy1 : (xy : Int) < 256 := by omega
          clear hu HbK HbN Hp0 Hp1 Hp2 Hp3
          have q0 : IntKind.i64.wrap 0 = 0 := rfl
          have q3 : IntKind.i64.wrap 3 = 3 := rfl
          have q4 : IntKind.i64.wrap 4 = 4 := rfl
          go_wp2_with fail
          refine wp_region_tail 33 (by kernel_rfl) (by kernel_rfl) ?_
          simp only [List.take_succ_cons, List.take_zero, List.drop_succ_cons, List.drop_zero]
          repeat still_step
          refine wpStill_nil ?_
          go_wp2_with fail
          go_roundw
          case rel => (repeat apply Exists.intro); exact ⟨⟨4, by omega, by first | rfl | go_num, (HB'.out.setCell (by simpa using hB2) _).drew, (L0.out.far (by simpa using h02) _).drew, (L1.out.far (by simpa using h12) _).drew, by show Blk _ B2 28 (bvs (M (3 + 1))); rw [← Hs.out, ← bvs_set]; exact (L2.out.set_ _ _).drew⟩, rfl⟩
          case measure => simp [intOf]
        · go_wp2_with fail
          go_roundw
          case rel => exact ⟨1, by omega, by first | rfl | go_num, HB'.out, L0.out, L1.out, L2.out⟩
          case measure => simp [intOf]
    · have Ha : Hid (mxA b 1 = b.getD 4 0 ^^^ b.getD 5 0 ^^^ b.getD 6 0 ^^^ b.getD 7 0) := rfl
      have c0 : wo.cell? ⟨B0, 4, none⟩ = some (.int .u8 ((b.getD 4 0 : Nat) : Int)) := by rw [L0.out.cell, HbC.out 4 (by omega)]
      have g0 := Hbb.out 4
      have c1 : wo.cell? ⟨B0, 5, none⟩ = some (.int .u8 ((b.getD 5 0 : Nat) : Int)) := by rw [L0.out.cell, HbC.out 5 (by omega)]
      have g1 := Hbb.out 5
      have c2 : wo.cell? ⟨B0, 6, none⟩ = some (.int .u8 ((b.getD 6 0 : Nat) : Int)) := by rw [L0.out.cell, HbC.out 6 (by omega)]
      have g2 := Hbb.out 6
      have c3 : wo.cell? ⟨B0, 7, none⟩ = some (.int .u8 ((b.getD 7 0 : Nat) : Int)) := by rw [L0.out.cell, HbC.out 7 (by omega)]
      have g3 := Hbb.out 7
      have Hp0 : Hid ((t.getD 4 0) = b.getD 4 0 ^^^ mxA b 1 ^^^ dbl (b.getD 4 0 ^^^ b.getD 5 0)) := Ht.out 4 (by omega)
      have Hp1 : Hid ((t.getD 5 0) = b.getD 5 0 ^^^ mxA b 1 ^^^ dbl (b.getD 5 0 ^^^ b.getD 6 0)) := Ht.out 5 (by omega)
      have Hp2 : Hid ((t.getD 6 0) = b.getD 6 0 ^^^ mxA b 1 ^^^ dbl (b.getD 6 0 ^^^ b.getD 7 0)) := Ht.out 6 (by omega)
      have Hp3 : Hid ((t.getD 7 0) = b.getD 7 0 ^^^ mxA b 1 ^^^ dbl (b.getD 7 0 ^^^ b.getD 4 0)) := Ht.out 7 (by omega)
      have HE0 := Lib.hid (HbC.out 4 (by omega))
      have HE1 := Lib.hid (HbC.out 5 (by omega))
      have HE2 := Lib.hid (HbC.out 6 (by omega))
      have HE3 := Lib.hid (HbC.out 7 (by omega))
      have cC : wo.cell? ⟨C, 0, none⟩ = some (.pointer (some ⟨g, 0, none⟩)) := (HB'.out.cell (p := ⟨C, 0, none⟩) hCl).trans HC.out
      generalize mxA b 1 = al at *
      generalize b.getD 4 0 = x0 at *
      generalize b.getD 5 0 = x1 at *
      generalize b.getD 6 0 = x2 at *
      generalize b.getD 7 0 = x3 at *
      have v1 := u8_xor_nat x0 x1 g0 g1
      have w1 := xor8 g0 g1
      have v2 := u8_xor_nat (x0 ^^^ x1) x2 w1 g2
      have w2 := xor8 w1 g2
      have v3 := u8_xor_nat (x0 ^^^ x1 ^^^ x2) x3 w2 g3
      have w3 := xor8 w2 g3
      rw [← Ha.out] at v3 w3
      clear Ha
      generalize x0 ^^^ x1 ^^^ x2 = y2 at v2 v3
      generalize x0 ^^^ x1 = y1 at v1 v2
      go_wp2_with fail
      go_quiet (fail)
      have N0 : Hid (Below B0 w (wo.drewN nq)) := dn HB'.out _
      have N1 : Hid (Blk (wo.drewN nq) B0 28 bb) := L0.out.drewN _
      have N2 : Hid (Blk (wo.drewN nq) B1 28 Z) := L1.out.drewN _
      have N3 : Hid (Blk (wo.drewN nq) B2 28 (bvs (M 4))) := L2.out.drewN _
      clear c0 c1 c2 c3 cC HB' L0 L1 L2 v1 v2 v3 w1 w2
      go_wp2_with fail
      go_loopw [31] (fun i wr => ∃ k : Nat, k ≤ 4 ∧ i = .int .i64 k ∧ Hid (Below B0 w wr) ∧ Hid (Blk wr B0 28 bb) ∧ Hid (Blk wr B1 28 Z) ∧ Hid (Blk wr B2 28 (bvs (M (4 + k))))) (fun i _ => 4 - (intOf i).toNat)
      case atStart => exact ⟨0, by omega, rfl, N0.out, N1.out, N2.out, N3.out⟩
      case round =>
        obtain ⟨k, hk, rfl, HB', L0, L1, L2⟩ := hrel
        clear N0 N1 N2 N3
        obtain rfl | rfl | rfl | rfl | rfl : k = 0 ∨ k = 1 ∨ k = 2 ∨ k = 3 ∨ k = 4 := by omega
        · have HbK := HbC.out 4 (by omega)
          have HbN := HbC.out 5 (by omega)
          have cx : wr.cell? ⟨B0, 4, none⟩ = some (.int .u8 (x0 : Int)) := L0.out.cell 4 |>.trans HE0.out
          have cy : wr.cell? ⟨B0, 5, none⟩ = some (.int .u8 (x1 : Int)) := L0.out.cell 5 |>.trans HE1.out
          have cC : wr.cell? ⟨C, 0, none⟩ = some (.pointer (some ⟨g, 0, none⟩)) := (HB'.out.cell (p := ⟨C, 0, none⟩) hCl).trans HC.out
          have u1 := u8_xor_nat x0 al g0 w3
          have u2 := u8_xor_nat x0 x1 g0 g1
          have u3 := xor8 g0 g1
          have u4 := dbl_lt (x0 ^^^ x1)
          have u5 := u8_xor_nat (x0 ^^^ al) (dbl (x0 ^^^ x1)) (xor8 g0 w3) u4
          rw [← Hp0.out] at u5
          have cT : wr.cell? ⟨g, 256 + (x0 ^^^ x1), none⟩ = some (.int .u8 (dbl (x0 ^^^ x1) : Nat)) := (HB'.out.cell (p := ⟨g, 256 + (x0 ^^^ x1), none⟩) hgl).trans (HT.out _ u3)
          obtain ⟨u, hu⟩ : ∃ u, (bvs (M 4))[4]? = some u := ⟨_, List.getElem?_eq_getElem (by rw [bvs_length, Hml.out 4 (by omega)]; omega)⟩
          have c2 : wr.cell? ⟨B2, 4, none⟩ = some u := (L2.out.cell 4).trans hu
          have f2 := L2.out.frozen 4
          have Hs := Lib.hid (Hms.out 4 (by omega))
          generalize dbl (x0 ^^^ x1) = dd at *
          generalize x0 ^^^ x1 = xy at *
          generalize x0 ^^^ al = xa at *
          generalize t.getD 4 0 = z at *
          have hxy0 : (0 : Int) ≤ (xy : Int) := by omega
          have hxy1 : (xy : Int) < 256 := by omega
          clear hu HbK HbN Hp0 Hp1 Hp2 Hp3
          have q1 : IntKind.i64.wrap 1 = 1 := rfl
          have q4 : IntKind.i64.wrap 4 = 4 := rfl
          have q5 : IntKind.i64.wrap 5 = 5 := rfl
          go_wp2_with fail
          refine wp_region_tail 33 (by kernel_rfl) (by kernel_rfl) ?_
          simp only [List.take_succ_cons, List.take_zero, List.drop_succ_cons, List.drop_zero]
          repeat still_step
          refine wpStill_nil ?_
          go_wp2_with fail
          go_roundw
          case rel => (repeat apply Exists.intro); exact ⟨⟨1, by omega, by first | rfl | go_num, (HB'.out.setCell (by simpa using hB2) _).drew, (L0.out.far (by simpa using h02) _).drew, (L1.out.far (by simpa using h12) _).drew, by show Blk _ B2 28 (bvs (M (4 + 1))); rw [← Hs.out, ← bvs_set]; exact (L2.out.set_ _ _).drew⟩, rfl⟩
          case measure => simp [intOf]
        · have HbK := HbC.out 5 (by omega)
          have HbN := HbC.out 6 (by omega)
          have cx : wr.cell? ⟨B0, 5, none⟩ = some (.int .u8 (x1 : Int)) := L0.out.cell 5 |>.trans HE1.out
          have cy : wr.cell? ⟨B0, 6, none⟩ = some (.int .u8 (x2 : Int)) := L0.out.cell 6 |>.trans HE2.out
          have cC : wr.cell? ⟨C, 0, none⟩ = some (.pointer (some ⟨g, 0, none⟩)) := (HB'.out.cell (p := ⟨C, 0, none⟩) hCl).trans HC.out
          have u1 := u8_xor_nat x1 al g1 w3
          have u2 := u8_xor_nat x1 x2 g1 g2
          have u3 := xor8 g1 g2
          have u4 := dbl_lt (x1 ^^^ x2)
          have u5 := u8_xor_nat (x1 ^^^ al) (dbl (x1 ^^^ x2)) (xor8 g1 w3) u4
          rw [← Hp1.out] at u5
          have cT : wr.cell? ⟨g, 256 + (x1 ^^^ x2), none⟩ = some (.int .u8 (dbl (x1 ^^^ x2) : Nat)) := (HB'.out.cell (p := ⟨g, 256 + (x1 ^^^ x2), none⟩) hgl).trans (HT.out _ u3)
          obtain ⟨u, hu⟩ : ∃ u, (bvs (M 5))[5]? = some u := ⟨_, List.getElem?_eq_getElem (by rw [bvs_length, Hml.out 5 (by omega)]; omega)⟩
          have c2 : wr.cell? ⟨B2, 5, none⟩ = some u := (L2.out.cell 5).trans hu
          have f2 := L2.out.frozen 5
          have Hs := Lib.hid (Hms.out 5 (by omega))
          generalize dbl (x1 ^^^ x2) = dd at *
          generalize x1 ^^^ x2 = xy at *
          generalize x1 ^^^ al = xa at *
          generalize t.getD 5 0 = z at *
          have hxy0 : (0 : Int) ≤ (xy : Int) := by omega
          have hxy1 : (xy : Int) < 256 := by omega
          clear hu HbK HbN Hp0 Hp1 Hp2 Hp3
          have q2 : IntKind.i64.wrap 2 = 2 := rfl
          have q5 : IntKind.i64.wrap 5 = 5 := rfl
          have q6 : IntKind.i64.wrap 6 = 6 := rfl
          go_wp2_with fail
          refine wp_region_tail 33 (by kernel_rfl) (by kernel_rfl) ?_
          simp only [List.take_succ_cons, List.take_zero, List.drop_succ_cons, List.drop_zero]
          repeat still_step
          refine wpStill_nil ?_
          go_wp2_with fail
          go_roundw
          case rel => (repeat apply Exists.intro); exact ⟨⟨2, by omega, by first | rfl | go_num, (HB'.out.setCell (by simpa using hB2) _).drew, (L0.out.far (by simpa using h02) _).drew, (L1.out.far (by simpa using h12) _).drew, by show Blk _ B2 28 (bvs (M (5 + 1))); rw [← Hs.out, ← bvs_set]; exact (L2.out.set_ _ _).drew⟩, rfl⟩
          case measure => simp [intOf]
        · have HbK := HbC.out 6 (by omega)
          have HbN := HbC.out 7 (by omega)
          have cx : wr.cell? ⟨B0, 6, none⟩ = some (.int .u8 (x2 : Int)) := L0.out.cell 6 |>.trans HE2.out
          have cy : wr.cell? ⟨B0, 7, none⟩ = some (.int .u8 (x3 : Int)) := L0.out.cell 7 |>.trans HE3.out
          have cC : wr.cell? ⟨C, 0, none⟩ = some (.pointer (some ⟨g, 0, none⟩)) := (HB'.out.cell (p := ⟨C, 0, none⟩) hCl).trans HC.out
          have u1 := u8_xor_nat x2 al g2 w3
          have u2 := u8_xor_nat x2 x3 g2 g3
          have u3 := xor8 g2 g3
          have u4 := dbl_lt (x2 ^^^ x3)
          have u5 := u8_xor_nat (x2 ^^^ al) (dbl (x2 ^^^ x3)) (xor8 g2 w3) u4
          rw [← Hp2.out] at u5
          have cT : wr.cell? ⟨g, 256 + (x2 ^^^ x3), none⟩ = some (.int .u8 (dbl (x2 ^^^ x3) : Nat)) := (HB'.out.cell (p := ⟨g, 256 + (x2 ^^^ x3), none⟩) hgl).trans (HT.out _ u3)
          obtain ⟨u, hu⟩ : ∃ u, (bvs (M 6))[6]? = some u := ⟨_, List.getElem?_eq_getElem (by rw [bvs_length, Hml.out 6 (by omega)]; omega)⟩
          have c2 : wr.cell? ⟨B2, 6, none⟩ = some u := (L2.out.cell 6).trans hu
          have f2 := L2.out.frozen 6
          have Hs := Lib.hid (Hms.out 6 (by omega))
          generalize dbl (x2 ^^^ x3) = dd at *
          generalize x2 ^^^ x3 = xy at *
          generalize x2 ^^^ al = xa at *
          generalize t.getD 6 0 = z at *
          have hxy0 : (0 : Int) ≤ (xy : Int) := by omega
          have hxy1 : (xy : Int) < 256 := by omega
          clear hu HbK HbN Hp0 Hp1 Hp2 Hp3
          have q3 : IntKind.i64.wrap 3 = 3 := rfl
          have q6 : IntKind.i64.wrap 6 = 6 := rfl
          have q7 : IntKind.i64.wrap 7 = 7 := rfl
          go_wp2_with fail
          refine wp_region_tail 33 (by kernel_rfl) (by kernel_rfl) ?_
          simp only [List.take_succ_cons, List.take_zero, List.drop_succ_cons, List.drop_zero]
          repeat still_step
          refine wpStill_nil ?_
          go_wp2_with fail
          go_roundw
          case rel => (repeat apply Exists.intro); exact ⟨⟨3, by omega, by first | rfl | go_num, (HB'.out.setCell (by simpa using hB2) _).drew, (L0.out.far (by simpa using h02) _).drew, (L1.out.far (by simpa using h12) _).drew, by show Blk _ B2 28 (bvs (M (6 + 1))); rw [← Hs.out, ← bvs_set]; exact (L2.out.set_ _ _).drew⟩, rfl⟩
          case measure => simp [intOf]
        · have HbK := HbC.out 7 (by omega)
          have HbN := HbC.out 4 (by omega)
          have cx : wr.cell? ⟨B0, 7, none⟩ = some (.int .u8 (x3 : Int)) := L0.out.cell 7 |>.trans HE3.out
          have cy : wr.cell? ⟨B0, 4, none⟩ = some (.int .u8 (x0 : Int)) := L0.out.cell 4 |>.trans HE0.out
          have cC : wr.cell? ⟨C, 0, none⟩ = some (.pointer (some ⟨g, 0, none⟩)) := (HB'.out.cell (p := ⟨C, 0, none⟩) hCl).trans HC.out
          have u1 := u8_xor_nat x3 al g3 w3
          have u2 := u8_xor_nat x3 x0 g3 g0
          have u3 := xor8 g3 g0
          have u4 := dbl_lt (x3 ^^^ x0)
          have u5 := u8_xor_nat (x3 ^^^ al) (dbl (x3 ^^^ x0)) (xor8 g3 w3) u4
          rw [← Hp3.out] at u5
          have cT : wr.cell? ⟨g, 256 + (x3 ^^^ x0), none⟩ = some (.int .u8 (dbl (x3 ^^^ x0) : Nat)) := (HB'.out.cell (p := ⟨g, 256 + (x3 ^^^ x0), none⟩) hgl).trans (HT.out _ u3)
          obtain ⟨u, hu⟩ : ∃ u, (bvs (M 7))[7]? = some u := ⟨_, List.getElem?_eq_getElem (by rw [bvs_length, Hml.out 7 (by omega)]; omega)⟩
          have c2 : wr.cell? ⟨B2, 7, none⟩ = some u := (L2.out.cell 7).trans hu
          have f2 := L2.out.frozen 7
          have Hs := Lib.hid (Hms.out 7 (by omega))
          generalize dbl (x3 ^^^ x0) = dd at *
          generalize x3 ^^^ x0 = xy at *
          generalize x3 ^^^ al = xa at *
          generalize t.getD 7 0 = z at *
          have hxy0 : (0 : Int) ≤ (xy : Int) := by omega
          have hxy1 : (xy : Int) < 256 := by omega
          clear hu HbK HbN Hp0 Hp1 Hp2 Hp3
          have q0 : IntKind.i64.wrap 0 = 0 := rfl
          have q4 : IntKind.i64.wrap 4 = 4 := rfl
          have q7 : IntKind.i64.wrap 7 = 7 := rfl
          go_wp2_with fail
          refine wp_region_tail 33 (by kernel_rfl) (by kernel_rfl) ?_
          simp only [List.take_succ_cons, List.take_zero, List.drop_succ_cons, List.drop_zero]
          repeat still_step
          refine wpStill_nil ?_
          go_wp2_with fail
          go_roundw
          case rel => (repeat apply Exists.intro); exact ⟨⟨4, by omega, by first | rfl | go_num, (HB'.out.setCell (by simpa using hB2) _).drew, (L0.out.far (by simpa using h02) _).drew, (L1.out.far (by simpa using h12) _).drew, by show Blk _ B2 28 (bvs (M (7 + 1))); rw [← Hs.out, ← bvs_set]; exact (L2.out.set_ _ _).drew⟩, rfl⟩
          case measure => simp [intOf]
        · go_wp2_with fail
          go_roundw
          case rel => exact ⟨2, by omega, by first | rfl | go_num, HB'.out, L0.out, L1.out, L2.out⟩
          case measure => simp [intOf]
    · have Ha : Hid (mxA b 2 = b.getD 8 0 ^^^ b.getD 9 0 ^^^ b.getD 10 0 ^^^ b.getD 11 0) := rfl
      have c0 : wo.cell? ⟨B0, 8, none⟩ = some (.int .u8 ((b.getD 8 0 : Nat) : Int)) := by rw [L0.out.cell, HbC.out 8 (by omega)]
      have g0 := Hbb.out 8
      have c1 : wo.cell? ⟨B0, 9, none⟩ = some (.int .u8 ((b.getD 9 0 : Nat) : Int)) := by rw [L0.out.cell, HbC.out 9 (by omega)]
      have g1 := Hbb.out 9
      have c2 : wo.cell? ⟨B0, 10, none⟩ = some (.int .u8 ((b.getD 10 0 : Nat) : Int)) := by rw [L0.out.cell, HbC.out 10 (by omega)]
      have g2 := Hbb.out 10
      have c3 : wo.cell? ⟨B0, 11, none⟩ = some (.int .u8 ((b.getD 11 0 : Nat) : Int)) := by rw [L0.out.cell, HbC.out 11 (by omega)]
      have g3 := Hbb.out 11
      have Hp0 : Hid ((t.getD 8 0) = b.getD 8 0 ^^^ mxA b 2 ^^^ dbl (b.getD 8 0 ^^^ b.getD 9 0)) := Ht.out 8 (by omega)
      have Hp1 : Hid ((t.getD 9 0) = b.getD 9 0 ^^^ mxA b 2 ^^^ dbl (b.getD 9 0 ^^^ b.getD 10 0)) := Ht.out 9 (by omega)
      have Hp2 : Hid ((t.getD 10 0) = b.getD 10 0 ^^^ mxA b 2 ^^^ dbl (b.getD 10 0 ^^^ b.getD 11 0)) := Ht.out 10 (by omega)
      have Hp3 : Hid ((t.getD 11 0) = b.getD 11 0 ^^^ mxA b 2 ^^^ dbl (b.getD 11 0 ^^^ b.getD 8 0)) := Ht.out 11 (by omega)
      have HE0 := Lib.hid (HbC.out 8 (by omega))
      have HE1 := Lib.hid (HbC.out 9 (by omega))
      have HE2 := Lib.hid (HbC.out 10 (by omega))
      have HE3 := Lib.hid (HbC.out 11 (by omega))
      have cC : wo.cell? ⟨C, 0, none⟩ = some (.pointer (some ⟨g, 0, none⟩)) := (HB'.out.cell (p := ⟨C, 0, none⟩) hCl).trans HC.out
      generalize mxA b 2 = al at *
      generalize b.getD 8 0 = x0 at *
      generalize b.getD 9 0 = x1 at *
      generalize b.getD 10 0 = x2 at *
      generalize b.getD 11 0 = x3 at *
      have v1 := u8_xor_nat x0 x1 g0 g1
      have w1 := xor8 g0 g1
      have v2 := u8_xor_nat (x0 ^^^ x1) x2 w1 g2
      have w2 := xor8 w1 g2
      have v3 := u8_xor_nat (x0 ^^^ x1 ^^^ x2) x3 w2 g3
      have w3 := xor8 w2 g3
      rw [← Ha.out] at v3 w3
      clear Ha
      generalize x0 ^^^ x1 ^^^ x2 = y2 at v2 v3
      generalize x0 ^^^ x1 = y1 at v1 v2
      go_wp2_with fail
      go_quiet (fail)
      have N0 : Hid (Below B0 w (wo.drewN nq)) := dn HB'.out _
      have N1 : Hid (Blk (wo.drewN nq) B0 28 bb) := L0.out.drewN _
      have N2 : Hid (Blk (wo.drewN nq) B1 28 Z) := L1.out.drewN _
      have N3 : Hid (Blk (wo.drewN nq) B2 28 (bvs (M 8))) := L2.out.drewN _
      clear c0 c1 c2 c3 cC HB' L0 L1 L2 v1 v2 v3 w1 w2
      go_wp2_with fail
      go_loopw [31] (fun i wr => ∃ k : Nat, k ≤ 4 ∧ i = .int .i64 k ∧ Hid (Below B0 w wr) ∧ Hid (Blk wr B0 28 bb) ∧ Hid (Blk wr B1 28 Z) ∧ Hid (Blk wr B2 28 (bvs (M (8 + k))))) (fun i _ => 4 - (intOf i).toNat)
      case atStart => exact ⟨0, by omega, rfl, N0.out, N1.out, N2.out, N3.out⟩
      case round =>
        obtain ⟨k, hk, rfl, HB', L0, L1, L2⟩ := hrel
        clear N0 N1 N2 N3
        obtain rfl | rfl | rfl | rfl | rfl : k = 0 ∨ k = 1 ∨ k = 2 ∨ k = 3 ∨ k = 4 := by omega
        · have HbK := HbC.out 8 (by omega)
          have HbN := HbC.out 9 (by omega)
          have cx : wr.cell? ⟨B0, 8, none⟩ = some (.int .u8 (x0 : Int)) := L0.out.cell 8 |>.trans HE0.out
          have cy : wr.cell? ⟨B0, 9, none⟩ = some (.int .u8 (x1 : Int)) := L0.out.cell 9 |>.trans HE1.out
          have cC : wr.cell? ⟨C, 0, none⟩ = some (.pointer (some ⟨g, 0, none⟩)) := (HB'.out.cell (p := ⟨C, 0, none⟩) hCl).trans HC.out
          have u1 := u8_xor_nat x0 al g0 w3
          have u2 := u8_xor_nat x0 x1 g0 g1
          have u3 := xor8 g0 g1
          have u4 := dbl_lt (x0 ^^^ x1)
          have u5 := u8_xor_nat (x0 ^^^ al) (dbl (x0 ^^^ x1)) (xor8 g0 w3) u4
          rw [← Hp0.out] at u5
          have cT : wr.cell? ⟨g, 256 + (x0 ^^^ x1), none⟩ = some (.int .u8 (dbl (x0 ^^^ x1) : Nat)) := (HB'.out.cell (p := ⟨g, 256 + (x0 ^^^ x1), none⟩) hgl).trans (HT.out _ u3)
          obtain ⟨u, hu⟩ : ∃ u, (bvs (M 8))[8]? = some u := ⟨_, List.getElem?_eq_getElem (by rw [bvs_length, Hml.out 8 (by omega)]; omega)⟩
          have c2 : wr.cell? ⟨B2, 8, none⟩ = some u := (L2.out.cell 8).trans hu
          have f2 := L2.out.frozen 8
          have Hs := Lib.hid (Hms.out 8 (by omega))
          generalize dbl (x0 ^^^ x1) = dd at *
          generalize x0 ^^^ x1 = xy at *
          generalize x0 ^^^ al = xa at *
          generalize t.getD 8 0 = z at *
          have hxy0 : (0 : Int) ≤ (xy : Int) := by omega
          have hxy1 : (xy : Int) < 256 := by omega
          clear hu HbK HbN Hp0 Hp1 Hp2 Hp3
          have q1 : IntKind.i64.wrap 1 = 1 := rfl
          have q8 : IntKind.i64.wrap 8 = 8 := rfl
          have q9 : IntKind.i64.wrap 9 = 9 := rfl
          go_wp2_with fail
          refine wp_region_tail 33 (by kernel_rfl) (by kernel_rfl) ?_
          simp only [List.take_succ_cons, List.take_zero, List.drop_succ_cons, List.drop_zero]
          repeat still_step
          refine wpStill_nil ?_
          go_wp2_with fail
          go_roundw
          case rel => (repeat apply Exists.intro); exact ⟨⟨1, by omega, by first | rfl | go_num, (HB'.out.setCell (by simpa using hB2) _).drew, (L0.out.far (by simpa using h02) _).drew, (L1.out.far (by simpa using h12) _).drew, by show Blk _ B2 28 (bvs (M (8 + 1))); rw [← Hs.out, ← bvs_set]; exact (L2.out.set_ _ _).drew⟩, rfl⟩
          case measure => simp [intOf]
        · have HbK := HbC.out 9 (by omega)
          have HbN := HbC.out 10 (by omega)
          have cx : wr.cell? ⟨B0, 9, none⟩ = some (.int .u8 (x1 : Int)) := L0.out.cell 9 |>.trans HE1.out
          have cy : wr.cell? ⟨B0, 10, none⟩ = some (.int .u8 (x2 : Int)) := L0.out.cell 10 |>.trans HE2.out
          have cC : wr.cell? ⟨C, 0, none⟩ = some (.pointer (some ⟨g, 0, none⟩)) := (HB'.out.cell (p := ⟨C, 0, none⟩) hCl).trans HC.out
          have u1 := u8_xor_nat x1 al g1 w3
          have u2 := u8_xor_nat x1 x2 g1 g2
          have u3 := xor8 g1 g2
          have u4 := dbl_lt (x1 ^^^ x2)
          have u5 := u8_xor_nat (x1 ^^^ al) (dbl (x1 ^^^ x2)) (xor8 g1 w3) u4
          rw [← Hp1.out] at u5
          have cT : wr.cell? ⟨g, 256 + (x1 ^^^ x2), none⟩ = some (.int .u8 (dbl (x1 ^^^ x2) : Nat)) := (HB'.out.cell (p := ⟨g, 256 + (x1 ^^^ x2), none⟩) hgl).trans (HT.out _ u3)
          obtain ⟨u, hu⟩ : ∃ u, (bvs (M 9))[9]? = some u := ⟨_, List.getElem?_eq_getElem (by rw [bvs_length, Hml.out 9 (by omega)]; omega)⟩
          have c2 : wr.cell? ⟨B2, 9, none⟩ = some u := (L2.out.cell 9).trans hu
          have f2 := L2.out.frozen 9
          have Hs := Lib.hid (Hms.out 9 (by omega))
          generalize dbl (x1 ^^^ x2) = dd at *
          generalize x1 ^^^ x2 = xy at *
          generalize x1 ^^^ al = xa at *
          generalize t.getD 9 0 = z at *
          have hxy0 : (0 : Int) ≤ (xy : Int) := by omega
          have hxy1 : (xy : Int) < 256 := by omega
          clear hu HbK HbN Hp0 Hp1 Hp2 Hp3
          have q2 : IntKind.i64.wrap 2 = 2 := rfl
          have q9 : IntKind.i64.wrap 9 = 9 := rfl
          have q10 : IntKind.i64.wrap 10 = 10 := rfl
          go_wp2_with fail
          refine wp_region_tail 33 (by kernel_rfl) (by kernel_rfl) ?_
          simp only [List.take_succ_cons, List.take_zero, List.drop_succ_cons, List.drop_zero]
          repeat still_step
          refine wpStill_nil ?_
          go_wp2_with fail
          go_roundw
          case rel => (repeat apply Exists.intro); exact ⟨⟨2, by omega, by first | rfl | go_num, (HB'.out.setCell (by simpa using hB2) _).drew, (L0.out.far (by simpa using h02) _).drew, (L1.out.far (by simpa using h12) _).drew, by show Blk _ B2 28 (bvs (M (9 + 1))); rw [← Hs.out, ← bvs_set]; exact (L2.out.set_ _ _).drew⟩, rfl⟩
          case measure => simp [intOf]
        · have HbK := HbC.out 10 (by omega)
          have HbN := HbC.out 11 (by omega)
          have cx : wr.cell? ⟨B0, 10, none⟩ = some (.int .u8 (x2 : Int)) := L0.out.cell 10 |>.trans HE2.out
          have cy : wr.cell? ⟨B0, 11, none⟩ = some (.int .u8 (x3 : Int)) := L0.out.cell 11 |>.trans HE3.out
          have cC : wr.cell? ⟨C, 0, none⟩ = some (.pointer (some ⟨g, 0, none⟩)) := (HB'.out.cell (p := ⟨C, 0, none⟩) hCl).trans HC.out
          have u1 := u8_xor_nat x2 al g2 w3
          have u2 := u8_xor_nat x2 x3 g2 g3
          have u3 := xor8 g2 g3
          have u4 := dbl_lt (x2 ^^^ x3)
          have u5 := u8_xor_nat (x2 ^^^ al) (dbl (x2 ^^^ x3)) (xor8 g2 w3) u4
          rw [← Hp2.out] at u5
          have cT : wr.cell? ⟨g, 256 + (x2 ^^^ x3), none⟩ = some (.int .u8 (dbl (x2 ^^^ x3) : Nat)) := (HB'.out.cell (p := ⟨g, 256 + (x2 ^^^ x3), none⟩) hgl).trans (HT.out _ u3)
          obtain ⟨u, hu⟩ : ∃ u, (bvs (M 10))[10]? = some u := ⟨_, List.getElem?_eq_getElem (by rw [bvs_length, Hml.out 10 (by omega)]; omega)⟩
          have c2 : wr.cell? ⟨B2, 10, none⟩ = some u := (L2.out.cell 10).trans hu
          have f2 := L2.out.frozen 10
          have Hs := Lib.hid (Hms.out 10 (by omega))
          generalize dbl (x2 ^^^ x3) = dd at *
          generalize x2 ^^^ x3 = xy at *
          generalize x2 ^^^ al = xa at *
          generalize t.getD 10 0 = z at *
          have hxy0 : (0 : Int) ≤ (xy : Int) := by omega
          have hxy1 : (xy : Int) < 256 := by omega
          clear hu HbK HbN Hp0 Hp1 Hp2 Hp3
          have q3 : IntKind.i64.wrap 3 = 3 := rfl
          have q10 : IntKind.i64.wrap 10 = 10 := rfl
          have q11 : IntKind.i64.wrap 11 = 11 := rfl
          go_wp2_with fail
          refine wp_region_tail 33 (by kernel_rfl) (by kernel_rfl) ?_
          simp only [List.take_succ_cons, List.take_zero, List.drop_succ_cons, List.drop_zero]
          repeat still_step
          refine wpStill_nil ?_
          go_wp2_with fail
          go_roundw
          case rel => (repeat apply Exists.intro); exact ⟨⟨3, by omega, by first | rfl | go_num, (HB'.out.setCell (by simpa using hB2) _).drew, (L0.out.far (by simpa using h02) _).drew, (L1.out.far (by simpa using h12) _).drew, by show Blk _ B2 28 (bvs (M (10 + 1))); rw [← Hs.out, ← bvs_set]; exact (L2.out.set_ _ _).drew⟩, rfl⟩
          case measure => simp [intOf]
        · have HbK := HbC.out 11 (by omega)
          have HbN := HbC.out 8 (by omega)
          have cx : wr.cell? ⟨B0, 11, none⟩ = some (.int .u8 (x3 : Int)) := L0.out.cell 11 |>.trans HE3.out
          have cy : wr.cell? ⟨B0, 8, none⟩ = some (.int .u8 (x0 : Int)) := L0.out.cell 8 |>.trans HE0.out
          have cC : wr.cell? ⟨C, 0, none⟩ = some (.pointer (some ⟨g, 0, none⟩)) := (HB'.out.cell (p := ⟨C, 0, none⟩) hCl).trans HC.out
          have u1 := u8_xor_nat x3 al g3 w3
          have u2 := u8_xor_nat x3 x0 g3 g0
          have u3 := xor8 g3 g0
          have u4 := dbl_lt (x3 ^^^ x0)
          have u5 := u8_xor_nat (x3 ^^^ al) (dbl (x3 ^^^ x0)) (xor8 g3 w3) u4
          rw [← Hp3.out] at u5
          have cT : wr.cell? ⟨g, 256 + (x3 ^^^ x0), none⟩ = some (.int .u8 (dbl (x3 ^^^ x0) : Nat)) := (HB'.out.cell (p := ⟨g, 256 + (x3 ^^^ x0), none⟩) hgl).trans (HT.out _ u3)
          obtain ⟨u, hu⟩ : ∃ u, (bvs (M 11))[11]? = some u := ⟨_, List.getElem?_eq_getElem (by rw [bvs_length, Hml.out 11 (by omega)]; omega)⟩
          have c2 : wr.cell? ⟨B2, 11, none⟩ = some u := (L2.out.cell 11).trans hu
          have f2 := L2.out.frozen 11
          have Hs := Lib.hid (Hms.out 11 (by omega))
          generalize dbl (x3 ^^^ x0) = dd at *
          generalize x3 ^^^ x0 = xy at *
          generalize x3 ^^^ al = xa at *
          generalize t.getD 11 0 = z at *
          have hxy0 : (0 : Int) ≤ (xy : Int) := by omega
          have hxy1 : (xy : Int) < 256 := by omega
          clear hu HbK HbN Hp0 Hp1 Hp2 Hp3
          have q0 : IntKind.i64.wrap 0 = 0 := rfl
          have q4 : IntKind.i64.wrap 4 = 4 := rfl
          have q8 : IntKind.i64.wrap 8 = 8 := rfl
          have q11 : IntKind.i64.wrap 11 = 11 := rfl
          go_wp2_with fail
          refine wp_region_tail 33 (by kernel_rfl) (by kernel_rfl) ?_
          simp only [List.take_succ_cons, List.take_zero, List.drop_succ_cons, List.drop_zero]
          repeat still_step
          refine wpStill_nil ?_
          go_wp2_with fail
          go_roundw
          case rel => (repeat apply Exists.intro); exact ⟨⟨4, by omega, by first | rfl | go_num, (HB'.out.setCell (by simpa using hB2) _).drew, (L0.out.far (by simpa using h02) _).drew, (L1.out.far (by simpa using h12) _).drew, by show Blk _ B2 28 (bvs (M (11 + 1))); rw [← Hs.out, ← bvs_set]; exact (L2.out.set_ _ _).drew⟩, rfl⟩
          case measure => simp [intOf]
        · go_wp2_with fail
          go_roundw
          case rel => exact ⟨3, by omega, by first | rfl | go_num, HB'.out, L0.out, L1.out, L2.out⟩
          case measure => simp [intOf]
    · have Ha : Hid (mxA b 3 = b.getD 12 0 ^^^ b.getD 13 0 ^^^ b.getD 14 0 ^^^ b.getD 15 0) := rfl
      have c0 : wo.cell? ⟨B0, 12, none⟩ = some (.int .u8 ((b.getD 12 0 : Nat) : Int)) := by rw [L0.out.cell, HbC.out 12 (by omega)]
      have g0 := Hbb.out 12
      have c1 : wo.cell? ⟨B0, 13, none⟩ = some (.int .u8 ((b.getD 13 0 : Nat) : Int)) := by rw [L0.out.cell, HbC.out 13 (by omega)]
      have g1 := Hbb.out 13
      have c2 : wo.cell? ⟨B0, 14, none⟩ = some (.int .u8 ((b.getD 14 0 : Nat) : Int)) := by rw [L0.out.cell, HbC.out 14 (by omega)]
      have g2 := Hbb.out 14
      have c3 : wo.cell? ⟨B0, 15, none⟩ = some (.int .u8 ((b.getD 15 0 : Nat) : Int)) := by rw [L0.out.cell, HbC.out 15 (by omega)]
      have g3 := Hbb.out 15
      have Hp0 : Hid ((t.getD 12 0) = b.getD 12 0 ^^^ mxA b 3 ^^^ dbl (b.getD 12 0 ^^^ b.getD 13 0)) := Ht.out 12 (by omega)
      have Hp1 : Hid ((t.getD 13 0) = b.getD 13 0 ^^^ mxA b 3 ^^^ dbl (b.getD 13 0 ^^^ b.getD 14 0)) := Ht.out 13 (by omega)
      have Hp2 : Hid ((t.getD 14 0) = b.getD 14 0 ^^^ mxA b 3 ^^^ dbl (b.getD 14 0 ^^^ b.getD 15 0)) := Ht.out 14 (by omega)
      have Hp3 : Hid ((t.getD 15 0) = b.getD 15 0 ^^^ mxA b 3 ^^^ dbl (b.getD 15 0 ^^^ b.getD 12 0)) := Ht.out 15 (by omega)
      have HE0 := Lib.hid (HbC.out 12 (by omega))
      have HE1 := Lib.hid (HbC.out 13 (by omega))
      have HE2 := Lib.hid (HbC.out 14 (by omega))
      have HE3 := Lib.hid (HbC.out 15 (by omega))
      have cC : wo.cell? ⟨C, 0, none⟩ = some (.pointer (some ⟨g, 0, none⟩)) := (HB'.out.cell (p := ⟨C, 0, none⟩) hCl).trans HC.out
      generalize mxA b 3 = al at *
      generalize b.getD 12 0 = x0 at *
      generalize b.getD 13 0 = x1 at *
      generalize b.getD 14 0 = x2 at *
      generalize b.getD 15 0 = x3 at *
      have v1 := u8_xor_nat x0 x1 g0 g1
      have w1 := xor8 g0 g1
      have v2 := u8_xor_nat (x0 ^^^ x1) x2 w1 g2
      have w2 := xor8 w1 g2
      have v3 := u8_xor_nat (x0 ^^^ x1 ^^^ x2) x3 w2 g3
      have w3 := xor8 w2 g3
      rw [← Ha.out] at v3 w3
      clear Ha
      generalize x0 ^^^ x1 ^^^ x2 = y2 at v2 v3
      generalize x0 ^^^ x1 = y1 at v1 v2
      go_wp2_with fail
      go_quiet (fail)
      have N0 : Hid (Below B0 w (wo.drewN nq)) := dn HB'.out _
      have N1 : Hid (Blk (wo.drewN nq) B0 28 bb) := L0.out.drewN _
      have N2 : Hid (Blk (wo.drewN nq) B1 28 Z) := L1.out.drewN _
      have N3 : Hid (Blk (wo.drewN nq) B2 28 (bvs (M 12))) := L2.out.drewN _
      clear c0 c1 c2 c3 cC HB' L0 L1 L2 v1 v2 v3 w1 w2
      go_wp2_with fail
      go_loopw [31] (fun i wr => ∃ k : Nat, k ≤ 4 ∧ i = .int .i64 k ∧ Hid (Below B0 w wr) ∧ Hid (Blk wr B0 28 bb) ∧ Hid (Blk wr B1 28 Z) ∧ Hid (Blk wr B2 28 (bvs (M (12 + k))))) (fun i _ => 4 - (intOf i).toNat)
      case atStart => exact ⟨0, by omega, rfl, N0.out, N1.out, N2.out, N3.out⟩
      case round =>
        obtain ⟨k, hk, rfl, HB', L0, L1, L2⟩ := hrel
        clear N0 N1 N2 N3
        obtain rfl | rfl | rfl | rfl | rfl : k = 0 ∨ k = 1 ∨ k = 2 ∨ k = 3 ∨ k = 4 := by omega
        · have HbK := HbC.out 12 (by omega)
          have HbN := HbC.out 13 (by omega)
          have cx : wr.cell? ⟨B0, 12, none⟩ = some (.int .u8 (x0 : Int)) := L0.out.cell 12 |>.trans HE0.out
          have cy : wr.cell? ⟨B0, 13, none⟩ = some (.int .u8 (x1 : Int)) := L0.out.cell 13 |>.trans HE1.out
          have cC : wr.cell? ⟨C, 0, none⟩ = some (.pointer (some ⟨g, 0, none⟩)) := (HB'.out.cell (p := ⟨C, 0, none⟩) hCl).trans HC.out
          have u1 := u8_xor_nat x0 al g0 w3
          have u2 := u8_xor_nat x0 x1 g0 g1
          have u3 := xor8 g0 g1
          have u4 := dbl_lt (x0 ^^^ x1)
          have u5 := u8_xor_nat (x0 ^^^ al) (dbl (x0 ^^^ x1)) (xor8 g0 w3) u4
          rw [← Hp0.out] at u5
          have cT : wr.cell? ⟨g, 256 + (x0 ^^^ x1), none⟩ = some (.int .u8 (dbl (x0 ^^^ x1) : Nat)) := (HB'.out.cell (p := ⟨g, 256 + (x0 ^^^ x1), none⟩) hgl).trans (HT.out _ u3)
          obtain ⟨u, hu⟩ : ∃ u, (bvs (M 12))[12]? = some u := ⟨_, List.getElem?_eq_getElem (by rw [bvs_length, Hml.out 12 (by omega)]; omega)⟩
          have c2 : wr.cell? ⟨B2, 12, none⟩ = some u := (L2.out.cell 12).trans hu
          have f2 := L2.out.frozen 12
          have Hs := Lib.hid (Hms.out 12 (by omega))
          generalize dbl (x0 ^^^ x1) = dd at *
          generalize x0 ^^^ x1 = xy at *
          generalize x0 ^^^ al = xa at *
          generalize t.getD 12 0 = z at *
          have hxy0 : (0 : Int) ≤ (xy : Int) := by omega
          have hxy1 : (xy : Int) < 256 := by omega
          clear hu HbK HbN Hp0 Hp1 Hp2 Hp3
          have q1 : IntKind.i64.wrap 1 = 1 := rfl
          have q12 : IntKind.i64.wrap 12 = 12 := rfl
          have q13 : IntKind.i64.wrap 13 = 13 := rfl
          go_wp2_with fail
          refine wp_region_tail 33 (by kernel_rfl) (by kernel_rfl) ?_
          simp only [List.take_succ_cons, List.take_zero, List.drop_succ_cons, List.drop_zero]
          repeat still_step
          refine wpStill_nil ?_
          go_wp2_with fail
          go_roundw
          case rel => (repeat apply Exists.intro); exact ⟨⟨1, by omega, by first | rfl | go_num, (HB'.out.setCell (by simpa using hB2) _).drew, (L0.out.far (by simpa using h02) _).drew, (L1.out.far (by simpa using h12) _).drew, by show Blk _ B2 28 (bvs (M (12 + 1))); rw [← Hs.out, ← bvs_set]; exact (L2.out.set_ _ _).drew⟩, rfl⟩
          case measure => simp [intOf]
        · have HbK := HbC.out 13 (by omega)
          have HbN := HbC.out 14 (by omega)
          have cx : wr.cell? ⟨B0, 13, none⟩ = some (.int .u8 (x1 : Int)) := L0.out.cell 13 |>.trans HE1.out
          have cy : wr.cell? ⟨B0, 14, none⟩ = some (.int .u8 (x2 : Int)) := L0.out.cell 14 |>.trans HE2.out
          have cC : wr.cell? ⟨C, 0, none⟩ = some (.pointer (some ⟨g, 0, none⟩)) := (HB'.out.cell (p := ⟨C, 0, none⟩) hCl).trans HC.out
          have u1 := u8_xor_nat x1 al g1 w3
          have u2 := u8_xor_nat x1 x2 g1 g2
          have u3 := xor8 g1 g2
          have u4 := dbl_lt (x1 ^^^ x2)
          have u5 := u8_xor_nat (x1 ^^^ al) (dbl (x1 ^^^ x2)) (xor8 g1 w3) u4
          rw [← Hp1.out] at u5
          have cT : wr.cell? ⟨g, 256 + (x1 ^^^ x2), none⟩ = some (.int .u8 (dbl (x1 ^^^ x2) : Nat)) := (HB'.out.cell (p := ⟨g, 256 + (x1 ^^^ x2), none⟩) hgl).trans (HT.out _ u3)
          obtain ⟨u, hu⟩ : ∃ u, (bvs (M 13))[13]? = some u := ⟨_, List.getElem?_eq_getElem (by rw [bvs_length, Hml.out 13 (by omega)]; omega)⟩
          have c2 : wr.cell? ⟨B2, 13, none⟩ = some u := (L2.out.cell 13).trans hu
          have f2 := L2.out.frozen 13
          have Hs := Lib.hid (Hms.out 13 (by omega))
          generalize dbl (x1 ^^^ x2) = dd at *
          generalize x1 ^^^ x2 = xy at *
          generalize x1 ^^^ al = xa at *
          generalize t.getD 13 0 = z at *
          have hxy0 : (0 : Int) ≤ (xy : Int) := by omega
          have hxy1 : (xy : Int) < 256 := by omega
          clear hu HbK HbN Hp0 Hp1 Hp2 Hp3
          have q2 : IntKind.i64.wrap 2 = 2 := rfl
          have q13 : IntKind.i64.wrap 13 = 13 := rfl
          have q14 : IntKind.i64.wrap 14 = 14 := rfl
          go_wp2_with fail
          refine wp_region_tail 33 (by kernel_rfl) (by kernel_rfl) ?_
          simp only [List.take_succ_cons, List.take_zero, List.drop_succ_cons, List.drop_zero]
          repeat still_step
          refine wpStill_nil ?_
          go_wp2_with fail
          go_roundw
          case rel => (repeat apply Exists.intro); exact ⟨⟨2, by omega, by first | rfl | go_num, (HB'.out.setCell (by simpa using hB2) _).drew, (L0.out.far (by simpa using h02) _).drew, (L1.out.far (by simpa using h12) _).drew, by show Blk _ B2 28 (bvs (M (13 + 1))); rw [← Hs.out, ← bvs_set]; exact (L2.out.set_ _ _).drew⟩, rfl⟩
          case measure => simp [intOf]
        · have HbK := HbC.out 14 (by omega)
          have HbN := HbC.out 15 (by omega)
          have cx : wr.cell? ⟨B0, 14, none⟩ = some (.int .u8 (x2 : Int)) := L0.out.cell 14 |>.trans HE2.out
          have cy : wr.cell? ⟨B0, 15, none⟩ = some (.int .u8 (x3 : Int)) := L0.out.cell 15 |>.trans HE3.out
          have cC : wr.cell? ⟨C, 0, none⟩ = some (.pointer (some ⟨g, 0, none⟩)) := (HB'.out.cell (p := ⟨C, 0, none⟩) hCl).trans HC.out
          have u1 := u8_xor_nat x2 al g2 w3
          have u2 := u8_xor_nat x2 x3 g2 g3
          have u3 := xor8 g2 g3
          have u4 := dbl_lt (x2 ^^^ x3)
          have u5 := u8_xor_nat (x2 ^^^ al) (dbl (x2 ^^^ x3)) (xor8 g2 w3) u4
          rw [← Hp2.out] at u5
          have cT : wr.cell? ⟨g, 256 + (x2 ^^^ x3), none⟩ = some (.int .u8 (dbl (x2 ^^^ x3) : Nat)) := (HB'.out.cell (p := ⟨g, 256 + (x2 ^^^ x3), none⟩) hgl).trans (HT.out _ u3)
          obtain ⟨u, hu⟩ : ∃ u, (bvs (M 14))[14]? = some u := ⟨_, List.getElem?_eq_getElem (by rw [bvs_length, Hml.out 14 (by omega)]; omega)⟩
          have c2 : wr.cell? ⟨B2, 14, none⟩ = some u := (L2.out.cell 14).trans hu
          have f2 := L2.out.frozen 14
          have Hs := Lib.hid (Hms.out 14 (by omega))
          generalize dbl (x2 ^^^ x3) = dd at *
          generalize x2 ^^^ x3 = xy at *
          generalize x2 ^^^ al = xa at *
          generalize t.getD 14 0 = z at *
          have hxy0 : (0 : Int) ≤ (xy : Int) := by omega
          have hxy1 : (xy : Int) < 256 := by omega
          clear hu HbK HbN Hp0 Hp1 Hp2 Hp3
          have q3 : IntKind.i64.wrap 3 = 3 := rfl
          have q14 : IntKind.i64.wrap 14 = 14 := rfl
          have q15 : IntKind.i64.wrap 15 = 15 := rfl
          go_wp2_with fail
          refine wp_region_tail 33 (by kernel_rfl) (by kernel_rfl) ?_
          simp only [List.take_succ_cons, List.take_zero, List.drop_succ_cons, List.drop_zero]
          repeat still_step
          refine wpStill_nil ?_
          go_wp2_with fail
          go_roundw
          case rel => (repeat apply Exists.intro); exact ⟨⟨3, by omega, by first | rfl | go_num, (HB'.out.setCell (by simpa using hB2) _).drew, (L0.out.far (by simpa using h02) _).drew, (L1.out.far (by simpa using h12) _).drew, by show Blk _ B2 28 (bvs (M (14 + 1))); rw [← Hs.out, ← bvs_set]; exact (L2.out.set_ _ _).drew⟩, rfl⟩
          case measure => simp [intOf]
        · have HbK := HbC.out 15 (by omega)
          have HbN := HbC.out 12 (by omega)
          have cx : wr.cell? ⟨B0, 15, none⟩ = some (.int .u8 (x3 : Int)) := L0.out.cell 15 |>.trans HE3.out
          have cy : wr.cell? ⟨B0, 12, none⟩ = some (.int .u8 (x0 : Int)) := L0.out.cell 12 |>.trans HE0.out
          have cC : wr.cell? ⟨C, 0, none⟩ = some (.pointer (some ⟨g, 0, none⟩)) := (HB'.out.cell (p := ⟨C, 0, none⟩) hCl).trans HC.out
          have u1 := u8_xor_nat x3 al g3 w3
          have u2 := u8_xor_nat x3 x0 g3 g0
          have u3 := xor8 g3 g0
          have u4 := dbl_lt (x3 ^^^ x0)
          have u5 := u8_xor_nat (x3 ^^^ al) (dbl (x3 ^^^ x0)) (xor8 g3 w3) u4
          rw [← Hp3.out] at u5
          have cT : wr.cell? ⟨g, 256 + (x3 ^^^ x0), none⟩ = some (.int .u8 (dbl (x3 ^^^ x0) : Nat)) := (HB'.out.cell (p := ⟨g, 256 + (x3 ^^^ x0), none⟩) hgl).trans (HT.out _ u3)
          obtain ⟨u, hu⟩ : ∃ u, (bvs (M 15))[15]? = some u := ⟨_, List.getElem?_eq_getElem (by rw [bvs_length, Hml.out 15 (by omega)]; omega)⟩
          have c2 : wr.cell? ⟨B2, 15, none⟩ = some u := (L2.out.cell 15).trans hu
          have f2 := L2.out.frozen 15
          have Hs := Lib.hid (Hms.out 15 (by omega))
          generalize dbl (x3 ^^^ x0) = dd at *
          generalize x3 ^^^ x0 = xy at *
          generalize x3 ^^^ al = xa at *
          generalize t.getD 15 0 = z at *
          have hxy0 : (0 : Int) ≤ (xy : Int) := by omega
          have hxy1 : (xy : Int) < 256 := by omega
          clear hu HbK HbN Hp0 Hp1 Hp2 Hp3
          have q0 : IntKind.i64.wrap 0 = 0 := rfl
          have q4 : IntKind.i64.wrap 4 = 4 := rfl
          have q12 : IntKind.i64.wrap 12 = 12 := rfl
          have q15 : IntKind.i64.wrap 15 = 15 := rfl
          go_wp2_with fail
          refine wp_region_tail 33 (by kernel_rfl) (by kernel_rfl) ?_
          simp only [List.take_succ_cons, List.take_zero, List.drop_succ_cons, List.drop_zero]
          repeat still_step
          refine wpStill_nil ?_
          go_wp2_with fail
          go_roundw
          case rel => (repeat apply Exists.intro); exact ⟨⟨4, by omega, by first | rfl | go_num, (HB'.out.setCell (by simpa using hB2) _).drew, (L0.out.far (by simpa using h02) _).drew, (L1.out.far (by simpa using h12) _).drew, by show Blk _ B2 28 (bvs (M (15 + 1))); rw [← Hs.out, ← bvs_set]; exact (L2.out.set_ _ _).drew⟩, rfl⟩
          case measure => simp [intOf]
        · go_wp2_with fail
          go_roundw
          case rel => exact ⟨4, by omega, by first | rfl | go_num, HB'.out, L0.out, L1.out, L2.out⟩
          case measure => simp [intOf]
    · have Hsz : Hid ((Try.prog.info? 28).map (·.size) = some (bvs (M 16)).toArray.size) := by
        show (Try.prog.info? 28).map (·.size) = some (bvs (M 16)).toArray.size
        simp [size28, bvs_length, Hml.out 16 (by omega)]
      have Hl16 : Hid ((bvs (M 16)).length = 16) := by show (bvs (M 16)).length = 16; rw [bvs_length, Hml.out 16 (by omega)]
      have Hone := Lib.hid (bvs_one (M 16))
      go_wp2_with (first
        | (refine wpList_load_row rfl 28 (.tmp 5) rfl B2 rfl 28 (bvs (M 16)).toArray (0, 0) _ L2.out Try.underlying28 rfl Hsz.out ?_)
        | (refine st28 rfl (.tmp 4) (.tmp 68) rfl B1 (bvs (M 16)) Z rfl rfl L1.out HZl.out Hl16.out Hone.out ?_; intro w2 hw1 hw2 hw3; have Hw1 := Lib.hid hw1; have Hw2 := Lib.hid (hw2 _ _ HB'.out hB1); clear hw1 hw2 hw3))
      refine bodyPost_ret (ret28 rfl _ _ B1 _ rfl Hw1.out Hl16.out) rfl ⟨by rw [Hmf.out], ?_⟩
      have h := Hw2.out
      rw [← HB.out] at h
      exact h
end Go.Proofs.Ytiaceoecilinkaa
