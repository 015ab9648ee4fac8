/- The reference's shifted: what it answers. -/
import Derived.Test.YtiaceoecilinkaaA12
import Derived.Test.YtiaceoecilinkaaA13
namespace Go.Proofs.Ytiaceoecilinkaa
open Go.RowKit
set_option linter.unusedSimpArgs false

set_option maxRecDepth 100000 in
set_option maxHeartbeats 32000000 in
theorem shifted30 (X : Option Addr) (cx : Nat) (B : Option Addr) (cb : Nat) (b : List Nat) (w : World) (hX : Rd w X (bvs boxLit)) (hB : Rd w B (bvs b)) (hb : b.length = 16) (hbb : B256 b) :
    Calls Try.prog 30 #[.slice X 256 cx, .slice B 16 cb] w (BytRes w (shL b)) := by
  have htl : (shL b).length = 16 := map16_len _
  have Ht : Hid (∀ i, i < 16 → (shL b).getD i 0 = sb (b.getD ((i + 4 * (i % 4)) % 16) 0)) := fun i hi => map16_get _ hi
  have Hsn : Hid (∀ k, k < 16 → (shL b).take (k + 1) = (shL b).take k ++ [(shL b).getD k 0]) := fun k hk => take_getD (by rw [htl]; exact hk)
  have Hfull : Hid ((shL b).take 16 = shL b) := List.take_of_length_le (Nat.le_of_eq htl)
  have Hzero : Hid ((shL b).take 0 = []) := rfl
  have Htl := Lib.hid htl
  obtain ⟨bb, bo, rfl, hbl, hbc⟩ := hB.at_ (by rw [bvs_length]; omega)
  have HbC : Hid (∀ W, Below w.heap.size w W → ∀ j, j < 16 → W.cell? ⟨bb, bo + j, none⟩ = some (.int .u8 ((b.getD j 0 : Nat) : Int))) := fun W hW j hj =>
    ((bcell hW).1 _ _ hbl).trans (hbc j _ (bvs_getD (by omega)))
  obtain ⟨xb, xo, rfl, hxl, hxc⟩ := hX.at_ (by rw [bvs_length, boxLit_len]; omega)
  have HxC : Hid (∀ W, Below w.heap.size w W → ∀ j, j < 256 → W.cell? ⟨xb, xo + j, none⟩ = some (.int .u8 ((sb j : Nat) : Int))) := fun W hW j hj =>
    ((bcell hW).1 _ _ hxl).trans (hxc j _ (bvs_getD (by rw [boxLit_len]; exact hj)))
  clear hX hxl hxc
  have Hbb := Lib.hid (hbb.getD)
  clear hB hb hbb hbc hbl htl
  generalize shL b = t at *
  generalize htk : (fun k => t.take k) = T at *
  have hT : ∀ k, t.take k = T k := fun k => by rw [← htk]
  simp only [hT] at Hsn Hfull Hzero
  clear hT htk
  go_enter Try.func30, Try.ntmps30
  go_wp2_with fail
  go_loopw [5, 6] (fun o i wr => ∃ q : Nat, q ≤ 4 ∧ i = .int .i64 q ∧ Hid (wr.ownsRow w.heap.size 5 1 o (4 * q) (bvs (T (4 * q)))) ∧ Hid (Below w.heap.size w wr)) (fun _ i _ => 4 - (intOf i).toNat)
  case atStart => exact ⟨0, by omega, rfl, by rw [Hzero.out]; exact own_nil _ _ _, Below.refl _ _⟩
  case round =>
    obtain ⟨q, hq, rfl, HO, HB⟩ := hrel
    obtain ⟨wo, rfl⟩ : ∃ wo : World, wo = wr := ⟨_, rfl⟩
    obtain rfl | rfl | rfl | rfl | rfl : q = 0 ∨ q = 1 ∨ q = 2 ∨ q = 3 ∨ q = 4 := by omega
    · go_wp2_with fail
      go_loopw [5, 7] (fun o i wr => ∃ k : Nat, k ≤ 4 ∧ i = .int .i64 k ∧ Hid (wr.ownsRow w.heap.size 5 1 o (0 + k) (bvs (T (0 + k)))) ∧ Hid (Below w.heap.size w wr)) (fun _ i _ => 4 - (intOf i).toNat)
      case atStart => exact ⟨0, by omega, rfl, HO.out, HB.out⟩
      case round =>
        obtain ⟨k, hk, rfl, HO2, HB2⟩ := hrel
        clear HO HB
        have hbase := HB2.out.size
        obtain rfl | rfl | rfl | rfl | rfl : k = 0 ∨ k = 1 ∨ k = 2 ∨ k = 3 ∨ k = 4 := by omega
        · have HS : Hid (T (0 + 1) = T 0 ++ [sb (b.getD 0 0)]) := by
            show T (0 + 1) = T 0 ++ [sb (b.getD 0 0)]
            rw [Hsn.out 0 (by omega), Ht.out 0 (by omega)]
          have c0 := HbC.out _ HB2.out 0 (by omega)
          simp only [Nat.add_zero] at c0
          have c1 := HxC.out _ HB2.out (b.getD 0 0) (Hbb.out 0)
          have hx := Hbb.out 0
          generalize T 0 = L at *
          generalize sb (b.getD 0 0) = y at *
          generalize b.getD 0 0 = x at *
          have hx0 : (0 : Int) ≤ (x : Int) := by omega
          have hx1 : (x : Int) < 256 := by omega
          go_wp2_with (at_builtin; refine ap1 row27 rfl (.tmp 16) (.tmp 30) rfl w.heap.size _ 0 (bvs L) _ rfl HO2.out rfl rfl (by omega) hbase ?_; intro v2 w2 hown2 hb2; have Hown2 := Lib.hid hown2; clear hown2)
          go_roundw
          case rel => first | exact ⟨1, by omega, by first | rfl | go_num, by show World.ownsRow w2 w.heap.size 5 1 v2 (0 + 1) (bvs (T (0 + 1))); rw [HS.out, ← bvs_snoc]; exact Hown2.out, HB2.out.trans hb2⟩ | ((repeat apply Exists.intro); exact ⟨⟨1, by omega, by first | rfl | go_num, by show World.ownsRow w2 w.heap.size 5 1 v2 (0 + 1) (bvs (T (0 + 1))); rw [HS.out, ← bvs_snoc]; exact Hown2.out, HB2.out.trans hb2⟩, rfl⟩)
          case measure => simp [intOf]
        · have HS : Hid (T (1 + 1) = T 1 ++ [sb (b.getD 5 0)]) := by
            show T (1 + 1) = T 1 ++ [sb (b.getD 5 0)]
            rw [Hsn.out 1 (by omega), Ht.out 1 (by omega)]
          have c0 := HbC.out _ HB2.out 5 (by omega)
          have c1 := HxC.out _ HB2.out (b.getD 5 0) (Hbb.out 5)
          have hx := Hbb.out 5
          generalize T 1 = L at *
          generalize sb (b.getD 5 0) = y at *
          generalize b.getD 5 0 = x at *
          have hx0 : (0 : Int) ≤ (x : Int) := by omega
          have hx1 : (x : Int) < 256 := by omega
          go_wp2_with (at_builtin; refine ap1 row27 rfl (.tmp 16) (.tmp 30) rfl w.heap.size _ 1 (bvs L) _ rfl HO2.out rfl rfl (by omega) hbase ?_; intro v2 w2 hown2 hb2; have Hown2 := Lib.hid hown2; clear hown2)
          go_roundw
          case rel => first | exact ⟨2, by omega, by first | rfl | go_num, by show World.ownsRow w2 w.heap.size 5 1 v2 (1 + 1) (bvs (T (1 + 1))); rw [HS.out, ← bvs_snoc]; exact Hown2.out, HB2.out.trans hb2⟩ | ((repeat apply Exists.intro); exact ⟨⟨2, by omega, by first | rfl | go_num, by show World.ownsRow w2 w.heap.size 5 1 v2 (1 + 1) (bvs (T (1 + 1))); rw [HS.out, ← bvs_snoc]; exact Hown2.out, HB2.out.trans hb2⟩, rfl⟩)
          case measure => simp [intOf]
        · have HS : Hid (T (2 + 1) = T 2 ++ [sb (b.getD 10 0)]) := by
            show T (2 + 1) = T 2 ++ [sb (b.getD 10 0)]
            rw [Hsn.out 2 (by omega), Ht.out 2 (by omega)]
          have c0 := HbC.out _ HB2.out 10 (by omega)
          have c1 := HxC.out _ HB2.out (b.getD 10 0) (Hbb.out 10)
          have hx := Hbb.out 10
          generalize T 2 = L at *
          generalize sb (b.getD 10 0) = y at *
          generalize b.getD 10 0 = x at *
          have hx0 : (0 : Int) ≤ (x : Int) := by omega
          have hx1 : (x : Int) < 256 := by omega
          go_wp2_with (at_builtin; refine ap1 row27 rfl (.tmp 16) (.tmp 30) rfl w.heap.size _ 2 (bvs L) _ rfl HO2.out rfl rfl (by omega) hbase ?_; intro v2 w2 hown2 hb2; have Hown2 := Lib.hid hown2; clear hown2)
          go_roundw
          case rel => first | exact ⟨3, by omega, by first | rfl | go_num, by show World.ownsRow w2 w.heap.size 5 1 v2 (2 + 1) (bvs (T (2 + 1))); rw [HS.out, ← bvs_snoc]; exact Hown2.out, HB2.out.trans hb2⟩ | ((repeat apply Exists.intro); exact ⟨⟨3, by omega, by first | rfl | go_num, by show World.ownsRow w2 w.heap.size 5 1 v2 (2 + 1) (bvs (T (2 + 1))); rw [HS.out, ← bvs_snoc]; exact Hown2.out, HB2.out.trans hb2⟩, rfl⟩)
          case measure => simp [intOf]
        · have HS : Hid (T (3 + 1) = T 3 ++ [sb (b.getD 15 0)]) := by
            show T (3 + 1) = T 3 ++ [sb (b.getD 15 0)]
            rw [Hsn.out 3 (by omega), Ht.out 3 (by omega)]
          have c0 := HbC.out _ HB2.out 15 (by omega)
          have c1 := HxC.out _ HB2.out (b.getD 15 0) (Hbb.out 15)
          have hx := Hbb.out 15
          generalize T 3 = L at *
          generalize sb (b.getD 15 0) = y at *
          generalize b.getD 15 0 = x at *
          have hx0 : (0 : Int) ≤ (x : Int) := by omega
          have hx1 : (x : Int) < 256 := by omega
          go_wp2_with (at_builtin; refine ap1 row27 rfl (.tmp 16) (.tmp 30) rfl w.heap.size _ 3 (bvs L) _ rfl HO2.out rfl rfl (by omega) hbase ?_; intro v2 w2 hown2 hb2; have Hown2 := Lib.hid hown2; clear hown2)
          go_roundw
          case rel => first | exact ⟨4, by omega, by first | rfl | go_num, by show World.ownsRow w2 w.heap.size 5 1 v2 (3 + 1) (bvs (T (3 + 1))); rw [HS.out, ← bvs_snoc]; exact Hown2.out, HB2.out.trans hb2⟩ | ((repeat apply Exists.intro); exact ⟨⟨4, by omega, by first | rfl | go_num, by show World.ownsRow w2 w.heap.size 5 1 v2 (3 + 1) (bvs (T (3 + 1))); rw [HS.out, ← bvs_snoc]; exact Hown2.out, HB2.out.trans hb2⟩, rfl⟩)
          case measure => simp [intOf]
        · go_wp2_with fail
          go_roundw
          case rel => exact ⟨1, by omega, by first | rfl | go_num, HO2.out, HB2.out⟩
          case measure => simp [intOf]
    · go_wp2_with fail
      go_loopw [5, 7] (fun o i wr => ∃ k : Nat, k ≤ 4 ∧ i = .int .i64 k ∧ Hid (wr.ownsRow w.heap.size 5 1 o (4 + k) (bvs (T (4 + k)))) ∧ Hid (Below w.heap.size w wr)) (fun _ i _ => 4 - (intOf i).toNat)
      case atStart => exact ⟨0, by omega, rfl, HO.out, HB.out⟩
      case round =>
        obtain ⟨k, hk, rfl, HO2, HB2⟩ := hrel
        clear HO HB
        have hbase := HB2.out.size
        obtain rfl | rfl | rfl | rfl | rfl : k = 0 ∨ k = 1 ∨ k = 2 ∨ k = 3 ∨ k = 4 := by omega
        · have HS : Hid (T (4 + 1) = T 4 ++ [sb (b.getD 4 0)]) := by
            show T (4 + 1) = T 4 ++ [sb (b.getD 4 0)]
            rw [Hsn.out 4 (by omega), Ht.out 4 (by omega)]
          have c0 := HbC.out _ HB2.out 4 (by omega)
          have c1 := HxC.out _ HB2.out (b.getD 4 0) (Hbb.out 4)
          have hx := Hbb.out 4
          generalize T 4 = L at *
          generalize sb (b.getD 4 0) = y at *
          generalize b.getD 4 0 = x at *
          have hx0 : (0 : Int) ≤ (x : Int) := by omega
          have hx1 : (x : Int) < 256 := by omega
          go_wp2_with (at_builtin; refine ap1 row27 rfl (.tmp 16) (.tmp 30) rfl w.heap.size _ 4 (bvs L) _ rfl HO2.out rfl rfl (by omega) hbase ?_; intro v2 w2 hown2 hb2; have Hown2 := Lib.hid hown2; clear hown2)
          go_roundw
          case rel => first | exact ⟨1, by omega, by first | rfl | go_num, by show World.ownsRow w2 w.heap.size 5 1 v2 (4 + 1) (bvs (T (4 + 1))); rw [HS.out, ← bvs_snoc]; exact Hown2.out, HB2.out.trans hb2⟩ | ((repeat apply Exists.intro); exact ⟨⟨1, by omega, by first | rfl | go_num, by show World.ownsRow w2 w.heap.size 5 1 v2 (4 + 1) (bvs (T (4 + 1))); rw [HS.out, ← bvs_snoc]; exact Hown2.out, HB2.out.trans hb2⟩, rfl⟩)
          case measure => simp [intOf]
        · have HS : Hid (T (5 + 1) = T 5 ++ [sb (b.getD 9 0)]) := by
            show T (5 + 1) = T 5 ++ [sb (b.getD 9 0)]
            rw [Hsn.out 5 (by omega), Ht.out 5 (by omega)]
          have c0 := HbC.out _ HB2.out 9 (by omega)
          have c1 := HxC.out _ HB2.out (b.getD 9 0) (Hbb.out 9)
          have hx := Hbb.out 9
          generalize T 5 = L at *
          generalize sb (b.getD 9 0) = y at *
          generalize b.getD 9 0 = x at *
          have hx0 : (0 : Int) ≤ (x : Int) := by omega
          have hx1 : (x : Int) < 256 := by omega
          go_wp2_with (at_builtin; refine ap1 row27 rfl (.tmp 16) (.tmp 30) rfl w.heap.size _ 5 (bvs L) _ rfl HO2.out rfl rfl (by omega) hbase ?_; intro v2 w2 hown2 hb2; have Hown2 := Lib.hid hown2; clear hown2)
          go_roundw
          case rel => first | exact ⟨2, by omega, by first | rfl | go_num, by show World.ownsRow w2 w.heap.size 5 1 v2 (5 + 1) (bvs (T (5 + 1))); rw [HS.out, ← bvs_snoc]; exact Hown2.out, HB2.out.trans hb2⟩ | ((repeat apply Exists.intro); exact ⟨⟨2, by omega, by first | rfl | go_num, by show World.ownsRow w2 w.heap.size 5 1 v2 (5 + 1) (bvs (T (5 + 1))); rw [HS.out, ← bvs_snoc]; exact Hown2.out, HB2.out.trans hb2⟩, rfl⟩)
          case measure => simp [intOf]
        · have HS : Hid (T (6 + 1) = T 6 ++ [sb (b.getD 14 0)]) := by
            show T (6 + 1) = T 6 ++ [sb (b.getD 14 0)]
            rw [Hsn.out 6 (by omega), Ht.out 6 (by omega)]
          have c0 := HbC.out _ HB2.out 14 (by omega)
          have c1 := HxC.out _ HB2.out (b.getD 14 0) (Hbb.out 14)
          have hx := Hbb.out 14
          generalize T 6 = L at *
          generalize sb (b.getD 14 0) = y at *
          generalize b.getD 14 0 = x at *
          have hx0 : (0 : Int) ≤ (x : Int) := by omega
          have hx1 : (x : Int) < 256 := by omega
          go_wp2_with (at_builtin; refine ap1 row27 rfl (.tmp 16) (.tmp 30) rfl w.heap.size _ 6 (bvs L) _ rfl HO2.out rfl rfl (by omega) hbase ?_; intro v2 w2 hown2 hb2; have Hown2 := Lib.hid hown2; clear hown2)
          go_roundw
          case rel => first | exact ⟨3, by omega, by first | rfl | go_num, by show World.ownsRow w2 w.heap.size 5 1 v2 (6 + 1) (bvs (T (6 + 1))); rw [HS.out, ← bvs_snoc]; exact Hown2.out, HB2.out.trans hb2⟩ | ((repeat apply Exists.intro); exact ⟨⟨3, by omega, by first | rfl | go_num, by show World.ownsRow w2 w.heap.size 5 1 v2 (6 + 1) (bvs (T (6 + 1))); rw [HS.out, ← bvs_snoc]; exact Hown2.out, HB2.out.trans hb2⟩, rfl⟩)
          case measure => simp [intOf]
        · have HS : Hid (T (7 + 1) = T 7 ++ [sb (b.getD 3 0)]) := by
            show T (7 + 1) = T 7 ++ [sb (b.getD 3 0)]
            rw [Hsn.out 7 (by omega), Ht.out 7 (by omega)]
          have c0 := HbC.out _ HB2.out 3 (by omega)
          have c1 := HxC.out _ HB2.out (b.getD 3 0) (Hbb.out 3)
          have hx := Hbb.out 3
          generalize T 7 = L at *
          generalize sb (b.getD 3 0) = y at *
          generalize b.getD 3 0 = x at *
          have hx0 : (0 : Int) ≤ (x : Int) := by omega
          have hx1 : (x : Int) < 256 := by omega
          go_wp2_with (at_builtin; refine ap1 row27 rfl (.tmp 16) (.tmp 30) rfl w.heap.size _ 7 (bvs L) _ rfl HO2.out rfl rfl (by omega) hbase ?_; intro v2 w2 hown2 hb2; have Hown2 := Lib.hid hown2; clear hown2)
          go_roundw
          case rel => first | exact ⟨4, by omega, by first | rfl | go_num, by show World.ownsRow w2 w.heap.size 5 1 v2 (7 + 1) (bvs (T (7 + 1))); rw [HS.out, ← bvs_snoc]; exact Hown2.out, HB2.out.trans hb2⟩ | ((repeat apply Exists.intro); exact ⟨⟨4, by omega, by first | rfl | go_num, by show World.ownsRow w2 w.heap.size 5 1 v2 (7 + 1) (bvs (T (7 + 1))); rw [HS.out, ← bvs_snoc]; exact Hown2.out, HB2.out.trans hb2⟩, rfl⟩)
          case measure => simp [intOf]
        · go_wp2_with fail
          go_roundw
          case rel => exact ⟨2, by omega, by first | rfl | go_num, HO2.out, HB2.out⟩
          case measure => simp [intOf]
    · go_wp2_with fail
      go_loopw [5, 7] (fun o i wr => ∃ k : Nat, k ≤ 4 ∧ i = .int .i64 k ∧ Hid (wr.ownsRow w.heap.size 5 1 o (8 + k) (bvs (T (8 + k)))) ∧ Hid (Below w.heap.size w wr)) (fun _ i _ => 4 - (intOf i).toNat)
      case atStart => exact ⟨0, by omega, rfl, HO.out, HB.out⟩
      case round =>
        obtain ⟨k, hk, rfl, HO2, HB2⟩ := hrel
        clear HO HB
        have hbase := HB2.out.size
        obtain rfl | rfl | rfl | rfl | rfl : k = 0 ∨ k = 1 ∨ k = 2 ∨ k = 3 ∨ k = 4 := by omega
        · have HS : Hid (T (8 + 1) = T 8 ++ [sb (b.getD 8 0)]) := by
            show T (8 + 1) = T 8 ++ [sb (b.getD 8 0)]
            rw [Hsn.out 8 (by omega), Ht.out 8 (by omega)]
          have c0 := HbC.out _ HB2.out 8 (by omega)
          have c1 := HxC.out _ HB2.out (b.getD 8 0) (Hbb.out 8)
          have hx := Hbb.out 8
          generalize T 8 = L at *
          generalize sb (b.getD 8 0) = y at *
          generalize b.getD 8 0 = x at *
          have hx0 : (0 : Int) ≤ (x : Int) := by omega
          have hx1 : (x : Int) < 256 := by omega
          go_wp2_with (at_builtin; refine ap1 row27 rfl (.tmp 16) (.tmp 30) rfl w.heap.size _ 8 (bvs L) _ rfl HO2.out rfl rfl (by omega) hbase ?_; intro v2 w2 hown2 hb2; have Hown2 := Lib.hid hown2; clear hown2)
          go_roundw
          case rel => first | exact ⟨1, by omega, by first | rfl | go_num, by show World.ownsRow w2 w.heap.size 5 1 v2 (8 + 1) (bvs (T (8 + 1))); rw [HS.out, ← bvs_snoc]; exact Hown2.out, HB2.out.trans hb2⟩ | ((repeat apply Exists.intro); exact ⟨⟨1, by omega, by first | rfl | go_num, by show World.ownsRow w2 w.heap.size 5 1 v2 (8 + 1) (bvs (T (8 + 1))); rw [HS.out, ← bvs_snoc]; exact Hown2.out, HB2.out.trans hb2⟩, rfl⟩)
          case measure => simp [intOf]
        · have HS : Hid (T (9 + 1) = T 9 ++ [sb (b.getD 13 0)]) := by
            show T (9 + 1) = T 9 ++ [sb (b.getD 13 0)]
            rw [Hsn.out 9 (by omega), Ht.out 9 (by omega)]
          have c0 := HbC.out _ HB2.out 13 (by omega)
          have c1 := HxC.out _ HB2.out (b.getD 13 0) (Hbb.out 13)
          have hx := Hbb.out 13
          generalize T 9 = L at *
          generalize sb (b.getD 13 0) = y at *
          generalize b.getD 13 0 = x at *
          have hx0 : (0 : Int) ≤ (x : Int) := by omega
          have hx1 : (x : Int) < 256 := by omega
          go_wp2_with (at_builtin; refine ap1 row27 rfl (.tmp 16) (.tmp 30) rfl w.heap.size _ 9 (bvs L) _ rfl HO2.out rfl rfl (by omega) hbase ?_; intro v2 w2 hown2 hb2; have Hown2 := Lib.hid hown2; clear hown2)
          go_roundw
          case rel => first | exact ⟨2, by omega, by first | rfl | go_num, by show World.ownsRow w2 w.heap.size 5 1 v2 (9 + 1) (bvs (T (9 + 1))); rw [HS.out, ← bvs_snoc]; exact Hown2.out, HB2.out.trans hb2⟩ | ((repeat apply Exists.intro); exact ⟨⟨2, by omega, by first | rfl | go_num, by show World.ownsRow w2 w.heap.size 5 1 v2 (9 + 1) (bvs (T (9 + 1))); rw [HS.out, ← bvs_snoc]; exact Hown2.out, HB2.out.trans hb2⟩, rfl⟩)
          case measure => simp [intOf]
        · have HS : Hid (T (10 + 1) = T 10 ++ [sb (b.getD 2 0)]) := by
            show T (10 + 1) = T 10 ++ [sb (b.getD 2 0)]
            rw [Hsn.out 10 (by omega), Ht.out 10 (by omega)]
          have c0 := HbC.out _ HB2.out 2 (by omega)
          have c1 := HxC.out _ HB2.out (b.getD 2 0) (Hbb.out 2)
          have hx := Hbb.out 2
          generalize T 10 = L at *
          generalize sb (b.getD 2 0) = y at *
          generalize b.getD 2 0 = x at *
          have hx0 : (0 : Int) ≤ (x : Int) := by omega
          have hx1 : (x : Int) < 256 := by omega
          go_wp2_with (at_builtin; refine ap1 row27 rfl (.tmp 16) (.tmp 30) rfl w.heap.size _ 10 (bvs L) _ rfl HO2.out rfl rfl (by omega) hbase ?_; intro v2 w2 hown2 hb2; have Hown2 := Lib.hid hown2; clear hown2)
          go_roundw
          case rel => first | exact ⟨3, by omega, by first | rfl | go_num, by show World.ownsRow w2 w.heap.size 5 1 v2 (10 + 1) (bvs (T (10 + 1))); rw [HS.out, ← bvs_snoc]; exact Hown2.out, HB2.out.trans hb2⟩ | ((repeat apply Exists.intro); exact ⟨⟨3, by omega, by first | rfl | go_num, by show World.ownsRow w2 w.heap.size 5 1 v2 (10 + 1) (bvs (T (10 + 1))); rw [HS.out, ← bvs_snoc]; exact Hown2.out, HB2.out.trans hb2⟩, rfl⟩)
          case measure => simp [intOf]
        · have HS : Hid (T (11 + 1) = T 11 ++ [sb (b.getD 7 0)]) := by
            show T (11 + 1) = T 11 ++ [sb (b.getD 7 0)]
            rw [Hsn.out 11 (by omega), Ht.out 11 (by omega)]
          have c0 := HbC.out _ HB2.out 7 (by omega)
          have c1 := HxC.out _ HB2.out (b.getD 7 0) (Hbb.out 7)
          have hx := Hbb.out 7
          generalize T 11 = L at *
          generalize sb (b.getD 7 0) = y at *
          generalize b.getD 7 0 = x at *
          have hx0 : (0 : Int) ≤ (x : Int) := by omega
          have hx1 : (x : Int) < 256 := by omega
          go_wp2_with (at_builtin; refine ap1 row27 rfl (.tmp 16) (.tmp 30) rfl w.heap.size _ 11 (bvs L) _ rfl HO2.out rfl rfl (by omega) hbase ?_; intro v2 w2 hown2 hb2; have Hown2 := Lib.hid hown2; clear hown2)
          go_roundw
          case rel => first | exact ⟨4, by omega, by first | rfl | go_num, by show World.ownsRow w2 w.heap.size 5 1 v2 (11 + 1) (bvs (T (11 + 1))); rw [HS.out, ← bvs_snoc]; exact Hown2.out, HB2.out.trans hb2⟩ | ((repeat apply Exists.intro); exact ⟨⟨4, by omega, by first | rfl | go_num, by show World.ownsRow w2 w.heap.size 5 1 v2 (11 + 1) (bvs (T (11 + 1))); rw [HS.out, ← bvs_snoc]; exact Hown2.out, HB2.out.trans hb2⟩, rfl⟩)
          case measure => simp [intOf]
        · go_wp2_with fail
          go_roundw
          case rel => exact ⟨3, by omega, by first | rfl | go_num, HO2.out, HB2.out⟩
          case measure => simp [intOf]
    · go_wp2_with fail
      go_loopw [5, 7] (fun o i wr => ∃ k : Nat, k ≤ 4 ∧ i = .int .i64 k ∧ Hid (wr.ownsRow w.heap.size 5 1 o (12 + k) (bvs (T (12 + k)))) ∧ Hid (Below w.heap.size w wr)) (fun _ i _ => 4 - (intOf i).toNat)
      case atStart => exact ⟨0, by omega, rfl, HO.out, HB.out⟩
      case round =>
        obtain ⟨k, hk, rfl, HO2, HB2⟩ := hrel
        clear HO HB
        have hbase := HB2.out.size
        obtain rfl | rfl | rfl | rfl | rfl : k = 0 ∨ k = 1 ∨ k = 2 ∨ k = 3 ∨ k = 4 := by omega
        · have HS : Hid (T (12 + 1) = T 12 ++ [sb (b.getD 12 0)]) := by
            show T (12 + 1) = T 12 ++ [sb (b.getD 12 0)]
            rw [Hsn.out 12 (by omega), Ht.out 12 (by omega)]
          have c0 := HbC.out _ HB2.out 12 (by omega)
          have c1 := HxC.out _ HB2.out (b.getD 12 0) (Hbb.out 12)
          have hx := Hbb.out 12
          generalize T 12 = L at *
          generalize sb (b.getD 12 0) = y at *
          generalize b.getD 12 0 = x at *
          have hx0 : (0 : Int) ≤ (x : Int) := by omega
          have hx1 : (x : Int) < 256 := by omega
          go_wp2_with (at_builtin; refine ap1 row27 rfl (.tmp 16) (.tmp 30) rfl w.heap.size _ 12 (bvs L) _ rfl HO2.out rfl rfl (by omega) hbase ?_; intro v2 w2 hown2 hb2; have Hown2 := Lib.hid hown2; clear hown2)
          go_roundw
          case rel => first | exact ⟨1, by omega, by first | rfl | go_num, by show World.ownsRow w2 w.heap.size 5 1 v2 (12 + 1) (bvs (T (12 + 1))); rw [HS.out, ← bvs_snoc]; exact Hown2.out, HB2.out.trans hb2⟩ | ((repeat apply Exists.intro); exact ⟨⟨1, by omega, by first | rfl | go_num, by show World.ownsRow w2 w.heap.size 5 1 v2 (12 + 1) (bvs (T (12 + 1))); rw [HS.out, ← bvs_snoc]; exact Hown2.out, HB2.out.trans hb2⟩, rfl⟩)
          case measure => simp [intOf]
        · have HS : Hid (T (13 + 1) = T 13 ++ [sb (b.getD 1 0)]) := by
            show T (13 + 1) = T 13 ++ [sb (b.getD 1 0)]
            rw [Hsn.out 13 (by omega), Ht.out 13 (by omega)]
          have c0 := HbC.out _ HB2.out 1 (by omega)
          have c1 := HxC.out _ HB2.out (b.getD 1 0) (Hbb.out 1)
          have hx := Hbb.out 1
          generalize T 13 = L at *
          generalize sb (b.getD 1 0) = y at *
          generalize b.getD 1 0 = x at *
          have hx0 : (0 : Int) ≤ (x : Int) := by omega
          have hx1 : (x : Int) < 256 := by omega
          go_wp2_with (at_builtin; refine ap1 row27 rfl (.tmp 16) (.tmp 30) rfl w.heap.size _ 13 (bvs L) _ rfl HO2.out rfl rfl (by omega) hbase ?_; intro v2 w2 hown2 hb2; have Hown2 := Lib.hid hown2; clear hown2)
          go_roundw
          case rel => first | exact ⟨2, by omega, by first | rfl | go_num, by show World.ownsRow w2 w.heap.size 5 1 v2 (13 + 1) (bvs (T (13 + 1))); rw [HS.out, ← bvs_snoc]; exact Hown2.out, HB2.out.trans hb2⟩ | ((repeat apply Exists.intro); exact ⟨⟨2, by omega, by first | rfl | go_num, by show World.ownsRow w2 w.heap.size 5 1 v2 (13 + 1) (bvs (T (13 + 1))); rw [HS.out, ← bvs_snoc]; exact Hown2.out, HB2.out.trans hb2⟩, rfl⟩)
          case measure => simp [intOf]
        · have HS : Hid (T (14 + 1) = T 14 ++ [sb (b.getD 6 0)]) := by
            show T (14 + 1) = T 14 ++ [sb (b.getD 6 0)]
            rw [Hsn.out 14 (by omega), Ht.out 14 (by omega)]
          have c0 := HbC.out _ HB2.out 6 (by omega)
          have c1 := HxC.out _ HB2.out (b.getD 6 0) (Hbb.out 6)
          have hx := Hbb.out 6
          generalize T 14 = L at *
          generalize sb (b.getD 6 0) = y at *
          generalize b.getD 6 0 = x at *
          have hx0 : (0 : Int) ≤ (x : Int) := by omega
          have hx1 : (x : Int) < 256 := by omega
          go_wp2_with (at_builtin; refine ap1 row27 rfl (.tmp 16) (.tmp 30) rfl w.heap.size _ 14 (bvs L) _ rfl HO2.out rfl rfl (by omega) hbase ?_; intro v2 w2 hown2 hb2; have Hown2 := Lib.hid hown2; clear hown2)
          go_roundw
          case rel => first | exact ⟨3, by omega, by first | rfl | go_num, by show World.ownsRow w2 w.heap.size 5 1 v2 (14 + 1) (bvs (T (14 + 1))); rw [HS.out, ← bvs_snoc]; exact Hown2.out, HB2.out.trans hb2⟩ | ((repeat apply Exists.intro); exact ⟨⟨3, by omega, by first | rfl | go_num, by show World.ownsRow w2 w.heap.size 5 1 v2 (14 + 1) (bvs (T (14 + 1))); rw [HS.out, ← bvs_snoc]; exact Hown2.out, HB2.out.trans hb2⟩, rfl⟩)
          case measure => simp [intOf]
        · have HS : Hid (T (15 + 1) = T 15 ++ [sb (b.getD 11 0)]) := by
            show T (15 + 1) = T 15 ++ [sb (b.getD 11 0)]
            rw [Hsn.out 15 (by omega), Ht.out 15 (by omega)]
          have c0 := HbC.out _ HB2.out 11 (by omega)
          have c1 := HxC.out _ HB2.out (b.getD 11 0) (Hbb.out 11)
          have hx := Hbb.out 11
          generalize T 15 = L at *
          generalize sb (b.getD 11 0) = y at *
          generalize b.getD 11 0 = x at *
          have hx0 : (0 : Int) ≤ (x : Int) := by omega
          have hx1 : (x : Int) < 256 := by omega
          go_wp2_with (at_builtin; refine ap1 row27 rfl (.tmp 16) (.tmp 30) rfl w.heap.size _ 15 (bvs L) _ rfl HO2.out rfl rfl (by omega) hbase ?_; intro v2 w2 hown2 hb2; have Hown2 := Lib.hid hown2; clear hown2)
          go_roundw
          case rel => first | exact ⟨4, by omega, by first | rfl | go_num, by show World.ownsRow w2 w.heap.size 5 1 v2 (15 + 1) (bvs (T (15 + 1))); rw [HS.out, ← bvs_snoc]; exact Hown2.out, HB2.out.trans hb2⟩ | ((repeat apply Exists.intro); exact ⟨⟨4, by omega, by first | rfl | go_num, by show World.ownsRow w2 w.heap.size 5 1 v2 (15 + 1) (bvs (T (15 + 1))); rw [HS.out, ← bvs_snoc]; exact Hown2.out, HB2.out.trans hb2⟩, rfl⟩)
          case measure => simp [intOf]
        · go_wp2_with fail
          go_roundw
          case rel => exact ⟨4, by omega, by first | rfl | go_num, HO2.out, HB2.out⟩
          case measure => simp [intOf]
    · rw [Hfull.out] at HO
      obtain ⟨A2, c2, hv, h5, h6, h7⟩ := own_form HO.out
      subst hv
      have H6 := Lib.hid h6
      have H7 := Lib.hid h7
      clear h6 h7
      go_wp2_with fail
      go_ret
      exact ⟨A2, c2, by rw [Htl.out]; rfl, by rw [Htl.out]; exact h5, H6.out, H7.out, HB.out⟩
end Go.Proofs.Ytiaceoecilinkaa
