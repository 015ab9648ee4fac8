/- The reference's mixed: what it answers. -/
import Derived.Test.YtiaceoecilinkaaA12
import Derived.Test.YtiaceoecilinkaaA13
import Derived.Test.YtiaceoecilinkaaA21
namespace Go.Proofs.Ytiaceoecilinkaa
open Go.RowKit
set_option linter.unusedSimpArgs false

theorem quiet_left {P : Program} {f : FuncId} {args : Array Value} {w : World} {n : Nat} {v : Value}
    (h : Calls P f args (w.drewN n) fun e w' => e = .returned v ∧ w.drewN n = w') : Calls P f args (w.drewN n) fun e w'' => e = .returned v ∧ ∃ m, w'' = w.drewN m :=
  h.mono fun _ _ ⟨he, hm⟩ => ⟨he, n, hm.symm⟩
theorem times_two : (List.range 256).all (fun x => times x 2 == dbl x) = true := by decide +kernel
theorem times_three : (List.range 256).all (fun x => times x 3 == (dbl x ^^^ x)) = true := by decide +kernel
theorem times2 {x : Nat} (h : x < 256) : times x 2 = dbl x := by simpa using List.all_eq_true.1 times_two x (List.mem_range.2 h)
theorem times3 {x : Nat} (h : x < 256) : times x 3 = dbl x ^^^ x := by simpa using List.all_eq_true.1 times_three x (List.mem_range.2 h)
theorem mixv {x y z u s : Nat} (hx : x < 256) (hy : y < 256) (hs : s = x ^^^ y ^^^ z ^^^ u) : times x 2 ^^^ times y 3 ^^^ z ^^^ u = x ^^^ s ^^^ dbl (x ^^^ y) := by
  rw [times2 hx, times3 hy, dbl_xor hx hy, hs]
  have e : x ^^^ (x ^^^ y ^^^ z ^^^ u) ^^^ (dbl x ^^^ dbl y) = (x ^^^ x) ^^^ (dbl x ^^^ (dbl y ^^^ y) ^^^ z ^^^ u) := by ac_rfl
  rw [e, Nat.xor_self, Nat.zero_xor]

set_option maxRecDepth 100000 in
set_option maxHeartbeats 32000000 in
theorem mixed29 (B : Option Addr) (cb : Nat) (b : List Nat) (w : World) (hB : Rd w B (bvs b)) (hb : b.length = 16) (hbb : B256 b) :
    Calls Try.prog 29 #[.slice B 16 cb] w (BytRes w (mxL b)) := by
  have htl : (mxL b).length = 16 := map16_len _
  have Ht : Hid (∀ i, i < 16 → (mxL b).getD i 0 = mx1 b i) := fun i hi => map16_get _ hi
  have Hsn : Hid (∀ k, k < 16 → (mxL b).take (k + 1) = (mxL b).take k ++ [(mxL b).getD k 0]) := fun k hk => take_getD (by rw [htl]; exact hk)
  have Hfull : Hid ((mxL b).take 16 = mxL b) := List.take_of_length_le (Nat.le_of_eq htl)
  have Hzero : Hid ((mxL b).take 0 = []) := rfl
  have Htl := Lib.hid htl
  obtain ⟨bb, bo, rfl, hbl, hbc⟩ := hB.at_ (by rw [bvs_length]; omega)
  have HbC : Hid (∀ W, Below w.heap.size w W → ∀ j, j < 16 → W.cell? ⟨bb, bo + j, none⟩ = some (.int .u8 ((b.getD j 0 : Nat) : Int))) := fun W hW j hj =>
    ((bcell hW).1 _ _ hbl).trans (hbc j _ (bvs_getD (by omega)))
  have Hbb := Lib.hid (hbb.getD)
  clear hB hb hbb hbc hbl htl
  generalize mxL b = t at *
  generalize htk : (fun k => t.take k) = T at *
  have hT : ∀ k, t.take k = T k := fun k => by rw [← htk]
  simp only [hT] at Hsn Hfull Hzero
  clear hT htk
  go_enter Try.func29, Try.ntmps29
  go_wp2_with fail
  go_loopw [3, 4] (fun o i wr => ∃ q : Nat, q ≤ 4 ∧ i = .int .i64 q ∧ Hid (wr.ownsRow w.heap.size 5 1 o (4 * q) (bvs (T (4 * q)))) ∧ Hid (Below w.heap.size w wr)) (fun _ i _ => 4 - (intOf i).toNat)
  case atStart => exact ⟨0, by omega, rfl, by rw [Hzero.out]; exact own_nil _ _ _, Below.refl _ _⟩
  case round =>
    obtain ⟨q, hq, rfl, HO, HB⟩ := hrel
    obtain ⟨wo, rfl⟩ : ∃ wo : World, wo = wr := ⟨_, rfl⟩
    obtain rfl | rfl | rfl | rfl | rfl : q = 0 ∨ q = 1 ∨ q = 2 ∨ q = 3 ∨ q = 4 := by omega
    · go_wp2_with fail
      go_loopw [3, 5] (fun o i wr => ∃ k : Nat, k ≤ 4 ∧ i = .int .i64 k ∧ Hid (wr.ownsRow w.heap.size 5 1 o (0 + k) (bvs (T (0 + k)))) ∧ Hid (Below w.heap.size w wr)) (fun _ i _ => 4 - (intOf i).toNat)
      case atStart => exact ⟨0, by omega, rfl, HO.out, HB.out⟩
      case round =>
        obtain ⟨k, hk, rfl, HO2, HB2⟩ := hrel
        clear HO HB
        have hbase := HB2.out.size
        obtain rfl | rfl | rfl | rfl | rfl : k = 0 ∨ k = 1 ∨ k = 2 ∨ k = 3 ∨ k = 4 := by omega
        · have HS : Hid (T (0 + 1) = T 0 ++ [times (b.getD 0 0) 2 ^^^ times (b.getD 1 0) 3 ^^^ b.getD 2 0 ^^^ b.getD 3 0]) := by
            show T (0 + 1) = T 0 ++ [times (b.getD 0 0) 2 ^^^ times (b.getD 1 0) 3 ^^^ b.getD 2 0 ^^^ b.getD 3 0]
            have hm : mx1 b 0 = b.getD 0 0 ^^^ mxA b 0 ^^^ dbl (b.getD 0 0 ^^^ b.getD 1 0) := rfl
            have ha : mxA b 0 = b.getD 0 0 ^^^ b.getD 1 0 ^^^ b.getD 2 0 ^^^ b.getD 3 0 := by
              have hA : mxA b 0 = b.getD 0 0 ^^^ b.getD 1 0 ^^^ b.getD 2 0 ^^^ b.getD 3 0 := rfl
              rw [hA] <;> ac_rfl
            rw [Hsn.out 0 (by omega), Ht.out 0 (by omega), hm, mixv (Hbb.out 0) (Hbb.out 1) ha]
          have c0 := HbC.out _ HB2.out 0 (by omega)
          have c1 := HbC.out _ HB2.out 1 (by omega)
          have c2 := HbC.out _ HB2.out 2 (by omega)
          have c3 := HbC.out _ HB2.out 3 (by omega)
          simp only [Nat.add_zero] at c0
          have g0 := Hbb.out 0
          have g1 := Hbb.out 1
          have g2 := Hbb.out 2
          have g3 := Hbb.out 3
          generalize T 0 = L at *
          generalize b.getD 0 0 = x0 at *
          generalize b.getD 1 0 = x1 at *
          generalize b.getD 2 0 = x2 at *
          generalize b.getD 3 0 = x3 at *
          have t0 := tO_lt x0 2 g0 8
          have t1 := tO_lt x1 3 g1 8
          have z0 : times x0 2 < 256 := t0
          have z1 : times x1 3 < 256 := t1
          have p0 := Lib.hid (fun W => times31 x0 2 W g0 (by omega))
          have p1 := Lib.hid (fun W => times31 x1 3 W g1 (by omega))
          clear t0 t1
          generalize times x0 2 = y0 at *
          generalize times x1 3 = y1 at *
          have v1 := u8_xor_nat y0 y1 z0 z1
          have s1 := xor8 z0 z1
          have v2 := u8_xor_nat (y0 ^^^ y1) x2 s1 g2
          have s2 := xor8 s1 g2
          have v3 := u8_xor_nat (y0 ^^^ y1 ^^^ x2) x3 s2 g3
          generalize y0 ^^^ y1 ^^^ x2 ^^^ x3 = r3 at *
          generalize y0 ^^^ y1 ^^^ x2 = r2 at *
          generalize y0 ^^^ y1 = r1 at *
          have n0 : IntKind.i64.wrap 0 = 0 := rfl
          have n1 : IntKind.i64.wrap 1 = 1 := rfl
          have n2 : IntKind.i64.wrap 2 = 2 := rfl
          have n3 : IntKind.i64.wrap 3 = 3 := rfl
          go_wp2_with fail
          go_quiet ((first | (go_at_call 31; ((with_reducible exact quiet_left (p0.out _)))) | (go_at_call 31; ((with_reducible exact quiet_left (p1.out _))))))
          have HO3 : Hid ((wr.drewN nq).ownsRow w.heap.size 5 1 _ 0 (bvs L)) := own_below HO2.out (dn (b0 _) _)
          have HB3 : Hid (Below w.heap.size w (wr.drewN nq)) := dn HB2.out _
          go_wp2_with (at_builtin; refine ap1 row27 rfl (.tmp 53) (.tmp 55) rfl w.heap.size _ 0 (bvs L) _ rfl HO3.out rfl rfl (by omega) hbase ?_; intro v2 w2 hown2 hb2; have Hown2 := Lib.hid hown2; clear hown2)
          go_roundw
          case rel => first | exact ⟨1, by omega, by first | rfl | go_num, by show World.ownsRow w2 w.heap.size 5 1 v2 (0 + 1) (bvs (T (0 + 1))); rw [HS.out, ← bvs_snoc]; exact Hown2.out, HB3.out.trans hb2⟩ | ((repeat apply Exists.intro); exact ⟨⟨1, by omega, by first | rfl | go_num, by show World.ownsRow w2 w.heap.size 5 1 v2 (0 + 1) (bvs (T (0 + 1))); rw [HS.out, ← bvs_snoc]; exact Hown2.out, HB3.out.trans hb2⟩, rfl⟩)
          case measure => simp [intOf]
        · have HS : Hid (T (1 + 1) = T 1 ++ [times (b.getD 1 0) 2 ^^^ times (b.getD 2 0) 3 ^^^ b.getD 3 0 ^^^ b.getD 0 0]) := by
            show T (1 + 1) = T 1 ++ [times (b.getD 1 0) 2 ^^^ times (b.getD 2 0) 3 ^^^ b.getD 3 0 ^^^ b.getD 0 0]
            have hm : mx1 b 1 = b.getD 1 0 ^^^ mxA b 0 ^^^ dbl (b.getD 1 0 ^^^ b.getD 2 0) := rfl
            have ha : mxA b 0 = b.getD 1 0 ^^^ b.getD 2 0 ^^^ b.getD 3 0 ^^^ b.getD 0 0 := by
              have hA : mxA b 0 = b.getD 0 0 ^^^ b.getD 1 0 ^^^ b.getD 2 0 ^^^ b.getD 3 0 := rfl
              rw [hA] <;> ac_rfl
            rw [Hsn.out 1 (by omega), Ht.out 1 (by omega), hm, mixv (Hbb.out 1) (Hbb.out 2) ha]
          have c0 := HbC.out _ HB2.out 1 (by omega)
          have c1 := HbC.out _ HB2.out 2 (by omega)
          have c2 := HbC.out _ HB2.out 3 (by omega)
          have c3 := HbC.out _ HB2.out 0 (by omega)
          simp only [Nat.add_zero] at c3
          have g0 := Hbb.out 1
          have g1 := Hbb.out 2
          have g2 := Hbb.out 3
          have g3 := Hbb.out 0
          generalize T 1 = L at *
          generalize b.getD 1 0 = x0 at *
          generalize b.getD 2 0 = x1 at *
          generalize b.getD 3 0 = x2 at *
          generalize b.getD 0 0 = x3 at *
          have t0 := tO_lt x0 2 g0 8
          have t1 := tO_lt x1 3 g1 8
          have z0 : times x0 2 < 256 := t0
          have z1 : times x1 3 < 256 := t1
          have p0 := Lib.hid (fun W => times31 x0 2 W g0 (by omega))
          have p1 := Lib.hid (fun W => times31 x1 3 W g1 (by omega))
          clear t0 t1
          generalize times x0 2 = y0 at *
          generalize times x1 3 = y1 at *
          have v1 := u8_xor_nat y0 y1 z0 z1
          have s1 := xor8 z0 z1
          have v2 := u8_xor_nat (y0 ^^^ y1) x2 s1 g2
          have s2 := xor8 s1 g2
          have v3 := u8_xor_nat (y0 ^^^ y1 ^^^ x2) x3 s2 g3
          generalize y0 ^^^ y1 ^^^ x2 ^^^ x3 = r3 at *
          generalize y0 ^^^ y1 ^^^ x2 = r2 at *
          generalize y0 ^^^ y1 = r1 at *
          have n0 : IntKind.i64.wrap 0 = 0 := rfl
          have n1 : IntKind.i64.wrap 1 = 1 := rfl
          have n2 : IntKind.i64.wrap 2 = 2 := rfl
          have n3 : IntKind.i64.wrap 3 = 3 := rfl
          have n4 : IntKind.i64.wrap 4 = 4 := rfl
          go_wp2_with fail
          go_quiet ((first | (go_at_call 31; ((with_reducible exact quiet_left (p0.out _)))) | (go_at_call 31; ((with_reducible exact quiet_left (p1.out _))))))
          have HO3 : Hid ((wr.drewN nq).ownsRow w.heap.size 5 1 _ 1 (bvs L)) := own_below HO2.out (dn (b0 _) _)
          have HB3 : Hid (Below w.heap.size w (wr.drewN nq)) := dn HB2.out _
          go_wp2_with (at_builtin; refine ap1 row27 rfl (.tmp 53) (.tmp 55) rfl w.heap.size _ 1 (bvs L) _ rfl HO3.out rfl rfl (by omega) hbase ?_; intro v2 w2 hown2 hb2; have Hown2 := Lib.hid hown2; clear hown2)
          go_roundw
          case rel => first | exact ⟨2, by omega, by first | rfl | go_num, by show World.ownsRow w2 w.heap.size 5 1 v2 (1 + 1) (bvs (T (1 + 1))); rw [HS.out, ← bvs_snoc]; exact Hown2.out, HB3.out.trans hb2⟩ | ((repeat apply Exists.intro); exact ⟨⟨2, by omega, by first | rfl | go_num, by show World.ownsRow w2 w.heap.size 5 1 v2 (1 + 1) (bvs (T (1 + 1))); rw [HS.out, ← bvs_snoc]; exact Hown2.out, HB3.out.trans hb2⟩, rfl⟩)
          case measure => simp [intOf]
        · have HS : Hid (T (2 + 1) = T 2 ++ [times (b.getD 2 0) 2 ^^^ times (b.getD 3 0) 3 ^^^ b.getD 0 0 ^^^ b.getD 1 0]) := by
            show T (2 + 1) = T 2 ++ [times (b.getD 2 0) 2 ^^^ times (b.getD 3 0) 3 ^^^ b.getD 0 0 ^^^ b.getD 1 0]
            have hm : mx1 b 2 = b.getD 2 0 ^^^ mxA b 0 ^^^ dbl (b.getD 2 0 ^^^ b.getD 3 0) := rfl
            have ha : mxA b 0 = b.getD 2 0 ^^^ b.getD 3 0 ^^^ b.getD 0 0 ^^^ b.getD 1 0 := by
              have hA : mxA b 0 = b.getD 0 0 ^^^ b.getD 1 0 ^^^ b.getD 2 0 ^^^ b.getD 3 0 := rfl
              rw [hA] <;> ac_rfl
            rw [Hsn.out 2 (by omega), Ht.out 2 (by omega), hm, mixv (Hbb.out 2) (Hbb.out 3) ha]
          have c0 := HbC.out _ HB2.out 2 (by omega)
          have c1 := HbC.out _ HB2.out 3 (by omega)
          have c2 := HbC.out _ HB2.out 0 (by omega)
          have c3 := HbC.out _ HB2.out 1 (by omega)
          simp only [Nat.add_zero] at c2
          have g0 := Hbb.out 2
          have g1 := Hbb.out 3
          have g2 := Hbb.out 0
          have g3 := Hbb.out 1
          generalize T 2 = L at *
          generalize b.getD 2 0 = x0 at *
          generalize b.getD 3 0 = x1 at *
          generalize b.getD 0 0 = x2 at *
          generalize b.getD 1 0 = x3 at *
          have t0 := tO_lt x0 2 g0 8
          have t1 := tO_lt x1 3 g1 8
          have z0 : times x0 2 < 256 := t0
          have z1 : times x1 3 < 256 := t1
          have p0 := Lib.hid (fun W => times31 x0 2 W g0 (by omega))
          have p1 := Lib.hid (fun W => times31 x1 3 W g1 (by omega))
          clear t0 t1
          generalize times x0 2 = y0 at *
          generalize times x1 3 = y1 at *
          have v1 := u8_xor_nat y0 y1 z0 z1
          have s1 := xor8 z0 z1
          have v2 := u8_xor_nat (y0 ^^^ y1) x2 s1 g2
          have s2 := xor8 s1 g2
          have v3 := u8_xor_nat (y0 ^^^ y1 ^^^ x2) x3 s2 g3
          generalize y0 ^^^ y1 ^^^ x2 ^^^ x3 = r3 at *
          generalize y0 ^^^ y1 ^^^ x2 = r2 at *
          generalize y0 ^^^ y1 = r1 at *
          have n0 : IntKind.i64.wrap 0 = 0 := rfl
          have n1 : IntKind.i64.wrap 1 = 1 := rfl
          have n2 : IntKind.i64.wrap 2 = 2 := rfl
          have n3 : IntKind.i64.wrap 3 = 3 := rfl
          have n4 : IntKind.i64.wrap 4 = 4 := rfl
          have n5 : IntKind.i64.wrap 5 = 5 := rfl
          go_wp2_with fail
          go_quiet ((first | (go_at_call 31; ((with_reducible exact quiet_left (p0.out _)))) | (go_at_call 31; ((with_reducible exact quiet_left (p1.out _))))))
          have HO3 : Hid ((wr.drewN nq).ownsRow w.heap.size 5 1 _ 2 (bvs L)) := own_below HO2.out (dn (b0 _) _)
          have HB3 : Hid (Below w.heap.size w (wr.drewN nq)) := dn HB2.out _
          go_wp2_with (at_builtin; refine ap1 row27 rfl (.tmp 53) (.tmp 55) rfl w.heap.size _ 2 (bvs L) _ rfl HO3.out rfl rfl (by omega) hbase ?_; intro v2 w2 hown2 hb2; have Hown2 := Lib.hid hown2; clear hown2)
          go_roundw
          case rel => first | exact ⟨3, by omega, by first | rfl | go_num, by show World.ownsRow w2 w.heap.size 5 1 v2 (2 + 1) (bvs (T (2 + 1))); rw [HS.out, ← bvs_snoc]; exact Hown2.out, HB3.out.trans hb2⟩ | ((repeat apply Exists.intro); exact ⟨⟨3, by omega, by first | rfl | go_num, by show World.ownsRow w2 w.heap.size 5 1 v2 (2 + 1) (bvs (T (2 + 1))); rw [HS.out, ← bvs_snoc]; exact Hown2.out, HB3.out.trans hb2⟩, rfl⟩)
          case measure => simp [intOf]
        · have HS : Hid (T (3 + 1) = T 3 ++ [times (b.getD 3 0) 2 ^^^ times (b.getD 0 0) 3 ^^^ b.getD 1 0 ^^^ b.getD 2 0]) := by
            show T (3 + 1) = T 3 ++ [times (b.getD 3 0) 2 ^^^ times (b.getD 0 0) 3 ^^^ b.getD 1 0 ^^^ b.getD 2 0]
            have hm : mx1 b 3 = b.getD 3 0 ^^^ mxA b 0 ^^^ dbl (b.getD 3 0 ^^^ b.getD 0 0) := rfl
            have ha : mxA b 0 = b.getD 3 0 ^^^ b.getD 0 0 ^^^ b.getD 1 0 ^^^ b.getD 2 0 := by
              have hA : mxA b 0 = b.getD 0 0 ^^^ b.getD 1 0 ^^^ b.getD 2 0 ^^^ b.getD 3 0 := rfl
              rw [hA] <;> ac_rfl
            rw [Hsn.out 3 (by omega), Ht.out 3 (by omega), hm, mixv (Hbb.out 3) (Hbb.out 0) ha]
          have c0 := HbC.out _ HB2.out 3 (by omega)
          have c1 := HbC.out _ HB2.out 0 (by omega)
          have c2 := HbC.out _ HB2.out 1 (by omega)
          have c3 := HbC.out _ HB2.out 2 (by omega)
          simp only [Nat.add_zero] at c1
          have g0 := Hbb.out 3
          have g1 := Hbb.out 0
          have g2 := Hbb.out 1
          have g3 := Hbb.out 2
          generalize T 3 = L at *
          generalize b.getD 3 0 = x0 at *
          generalize b.getD 0 0 = x1 at *
          generalize b.getD 1 0 = x2 at *
          generalize b.getD 2 0 = x3 at *
          have t0 := tO_lt x0 2 g0 8
          have t1 := tO_lt x1 3 g1 8
          have z0 : times x0 2 < 256 := t0
          have z1 : times x1 3 < 256 := t1
          have p0 := Lib.hid (fun W => times31 x0 2 W g0 (by omega))
          have p1 := Lib.hid (fun W => times31 x1 3 W g1 (by omega))
          clear t0 t1
          generalize times x0 2 = y0 at *
          generalize times x1 3 = y1 at *
          have v1 := u8_xor_nat y0 y1 z0 z1
          have s1 := xor8 z0 z1
          have v2 := u8_xor_nat (y0 ^^^ y1) x2 s1 g2
          have s2 := xor8 s1 g2
          have v3 := u8_xor_nat (y0 ^^^ y1 ^^^ x2) x3 s2 g3
          generalize y0 ^^^ y1 ^^^ x2 ^^^ x3 = r3 at *
          generalize y0 ^^^ y1 ^^^ x2 = r2 at *
          generalize y0 ^^^ y1 = r1 at *
          have n0 : IntKind.i64.wrap 0 = 0 := rfl
          have n1 : IntKind.i64.wrap 1 = 1 := rfl
          have n2 : IntKind.i64.wrap 2 = 2 := rfl
          have n3 : IntKind.i64.wrap 3 = 3 := rfl
          have n4 : IntKind.i64.wrap 4 = 4 := rfl
          have n5 : IntKind.i64.wrap 5 = 5 := rfl
          have n6 : IntKind.i64.wrap 6 = 6 := rfl
          go_wp2_with fail
          go_quiet ((first | (go_at_call 31; ((with_reducible exact quiet_left (p0.out _)))) | (go_at_call 31; ((with_reducible exact quiet_left (p1.out _))))))
          have HO3 : Hid ((wr.drewN nq).ownsRow w.heap.size 5 1 _ 3 (bvs L)) := own_below HO2.out (dn (b0 _) _)
          have HB3 : Hid (Below w.heap.size w (wr.drewN nq)) := dn HB2.out _
          go_wp2_with (at_builtin; refine ap1 row27 rfl (.tmp 53) (.tmp 55) rfl w.heap.size _ 3 (bvs L) _ rfl HO3.out rfl rfl (by omega) hbase ?_; intro v2 w2 hown2 hb2; have Hown2 := Lib.hid hown2; clear hown2)
          go_roundw
          case rel => first | exact ⟨4, by omega, by first | rfl | go_num, by show World.ownsRow w2 w.heap.size 5 1 v2 (3 + 1) (bvs (T (3 + 1))); rw [HS.out, ← bvs_snoc]; exact Hown2.out, HB3.out.trans hb2⟩ | ((repeat apply Exists.intro); exact ⟨⟨4, by omega, by first | rfl | go_num, by show World.ownsRow w2 w.heap.size 5 1 v2 (3 + 1) (bvs (T (3 + 1))); rw [HS.out, ← bvs_snoc]; exact Hown2.out, HB3.out.trans hb2⟩, rfl⟩)
          case measure => simp [intOf]
        · go_wp2_with fail
          go_roundw
          case rel => exact ⟨1, by omega, by first | rfl | go_num, HO2.out, HB2.out⟩
          case measure => simp [intOf]
    · go_wp2_with fail
      go_loopw [3, 5] (fun o i wr => ∃ k : Nat, k ≤ 4 ∧ i = .int .i64 k ∧ Hid (wr.ownsRow w.heap.size 5 1 o (4 + k) (bvs (T (4 + k)))) ∧ Hid (Below w.heap.size w wr)) (fun _ i _ => 4 - (intOf i).toNat)
      case atStart => exact ⟨0, by omega, rfl, HO.out, HB.out⟩
      case round =>
        obtain ⟨k, hk, rfl, HO2, HB2⟩ := hrel
        clear HO HB
        have hbase := HB2.out.size
        obtain rfl | rfl | rfl | rfl | rfl : k = 0 ∨ k = 1 ∨ k = 2 ∨ k = 3 ∨ k = 4 := by omega
        · have HS : Hid (T (4 + 1) = T 4 ++ [times (b.getD 4 0) 2 ^^^ times (b.getD 5 0) 3 ^^^ b.getD 6 0 ^^^ b.getD 7 0]) := by
            show T (4 + 1) = T 4 ++ [times (b.getD 4 0) 2 ^^^ times (b.getD 5 0) 3 ^^^ b.getD 6 0 ^^^ b.getD 7 0]
            have hm : mx1 b 4 = b.getD 4 0 ^^^ mxA b 1 ^^^ dbl (b.getD 4 0 ^^^ b.getD 5 0) := rfl
            have ha : mxA b 1 = b.getD 4 0 ^^^ b.getD 5 0 ^^^ b.getD 6 0 ^^^ b.getD 7 0 := by
              have hA : mxA b 1 = b.getD 4 0 ^^^ b.getD 5 0 ^^^ b.getD 6 0 ^^^ b.getD 7 0 := rfl
              rw [hA] <;> ac_rfl
            rw [Hsn.out 4 (by omega), Ht.out 4 (by omega), hm, mixv (Hbb.out 4) (Hbb.out 5) ha]
          have c0 := HbC.out _ HB2.out 4 (by omega)
          have c1 := HbC.out _ HB2.out 5 (by omega)
          have c2 := HbC.out _ HB2.out 6 (by omega)
          have c3 := HbC.out _ HB2.out 7 (by omega)
          have g0 := Hbb.out 4
          have g1 := Hbb.out 5
          have g2 := Hbb.out 6
          have g3 := Hbb.out 7
          generalize T 4 = L at *
          generalize b.getD 4 0 = x0 at *
          generalize b.getD 5 0 = x1 at *
          generalize b.getD 6 0 = x2 at *
          generalize b.getD 7 0 = x3 at *
          have t0 := tO_lt x0 2 g0 8
          have t1 := tO_lt x1 3 g1 8
          have z0 : times x0 2 < 256 := t0
          have z1 : times x1 3 < 256 := t1
          have p0 := Lib.hid (fun W => times31 x0 2 W g0 (by omega))
          have p1 := Lib.hid (fun W => times31 x1 3 W g1 (by omega))
          clear t0 t1
          generalize times x0 2 = y0 at *
          generalize times x1 3 = y1 at *
          have v1 := u8_xor_nat y0 y1 z0 z1
          have s1 := xor8 z0 z1
          have v2 := u8_xor_nat (y0 ^^^ y1) x2 s1 g2
          have s2 := xor8 s1 g2
          have v3 := u8_xor_nat (y0 ^^^ y1 ^^^ x2) x3 s2 g3
          generalize y0 ^^^ y1 ^^^ x2 ^^^ x3 = r3 at *
          generalize y0 ^^^ y1 ^^^ x2 = r2 at *
          generalize y0 ^^^ y1 = r1 at *
          have n0 : IntKind.i64.wrap 0 = 0 := rfl
          have n1 : IntKind.i64.wrap 1 = 1 := rfl
          have n2 : IntKind.i64.wrap 2 = 2 := rfl
          have n3 : IntKind.i64.wrap 3 = 3 := rfl
          have n4 : IntKind.i64.wrap 4 = 4 := rfl
          have n5 : IntKind.i64.wrap 5 = 5 := rfl
          have n6 : IntKind.i64.wrap 6 = 6 := rfl
          have n7 : IntKind.i64.wrap 7 = 7 := rfl
          go_wp2_with fail
          go_quiet ((first | (go_at_call 31; ((with_reducible exact quiet_left (p0.out _)))) | (go_at_call 31; ((with_reducible exact quiet_left (p1.out _))))))
          have HO3 : Hid ((wr.drewN nq).ownsRow w.heap.size 5 1 _ 4 (bvs L)) := own_below HO2.out (dn (b0 _) _)
          have HB3 : Hid (Below w.heap.size w (wr.drewN nq)) := dn HB2.out _
          go_wp2_with (at_builtin; refine ap1 row27 rfl (.tmp 53) (.tmp 55) rfl w.heap.size _ 4 (bvs L) _ rfl HO3.out rfl rfl (by omega) hbase ?_; intro v2 w2 hown2 hb2; have Hown2 := Lib.hid hown2; clear hown2)
          go_roundw
          case rel => first | exact ⟨1, by omega, by first | rfl | go_num, by show World.ownsRow w2 w.heap.size 5 1 v2 (4 + 1) (bvs (T (4 + 1))); rw [HS.out, ← bvs_snoc]; exact Hown2.out, HB3.out.trans hb2⟩ | ((repeat apply Exists.intro); exact ⟨⟨1, by omega, by first | rfl | go_num, by show World.ownsRow w2 w.heap.size 5 1 v2 (4 + 1) (bvs (T (4 + 1))); rw [HS.out, ← bvs_snoc]; exact Hown2.out, HB3.out.trans hb2⟩, rfl⟩)
          case measure => simp [intOf]
        · have HS : Hid (T (5 + 1) = T 5 ++ [times (b.getD 5 0) 2 ^^^ times (b.getD 6 0) 3 ^^^ b.getD 7 0 ^^^ b.getD 4 0]) := by
            show T (5 + 1) = T 5 ++ [times (b.getD 5 0) 2 ^^^ times (b.getD 6 0) 3 ^^^ b.getD 7 0 ^^^ b.getD 4 0]
            have hm : mx1 b 5 = b.getD 5 0 ^^^ mxA b 1 ^^^ dbl (b.getD 5 0 ^^^ b.getD 6 0) := rfl
            have ha : mxA b 1 = b.getD 5 0 ^^^ b.getD 6 0 ^^^ b.getD 7 0 ^^^ b.getD 4 0 := by
              have hA : mxA b 1 = b.getD 4 0 ^^^ b.getD 5 0 ^^^ b.getD 6 0 ^^^ b.getD 7 0 := rfl
              rw [hA] <;> ac_rfl
            rw [Hsn.out 5 (by omega), Ht.out 5 (by omega), hm, mixv (Hbb.out 5) (Hbb.out 6) ha]
          have c0 := HbC.out _ HB2.out 5 (by omega)
          have c1 := HbC.out _ HB2.out 6 (by omega)
          have c2 := HbC.out _ HB2.out 7 (by omega)
          have c3 := HbC.out _ HB2.out 4 (by omega)
          have g0 := Hbb.out 5
          have g1 := Hbb.out 6
          have g2 := Hbb.out 7
          have g3 := Hbb.out 4
          generalize T 5 = L at *
          generalize b.getD 5 0 = x0 at *
          generalize b.getD 6 0 = x1 at *
          generalize b.getD 7 0 = x2 at *
          generalize b.getD 4 0 = x3 at *
          have t0 := tO_lt x0 2 g0 8
          have t1 := tO_lt x1 3 g1 8
          have z0 : times x0 2 < 256 := t0
          have z1 : times x1 3 < 256 := t1
          have p0 := Lib.hid (fun W => times31 x0 2 W g0 (by omega))
          have p1 := Lib.hid (fun W => times31 x1 3 W g1 (by omega))
          clear t0 t1
          generalize times x0 2 = y0 at *
          generalize times x1 3 = y1 at *
          have v1 := u8_xor_nat y0 y1 z0 z1
          have s1 := xor8 z0 z1
          have v2 := u8_xor_nat (y0 ^^^ y1) x2 s1 g2
          have s2 := xor8 s1 g2
          have v3 := u8_xor_nat (y0 ^^^ y1 ^^^ x2) x3 s2 g3
          generalize y0 ^^^ y1 ^^^ x2 ^^^ x3 = r3 at *
          generalize y0 ^^^ y1 ^^^ x2 = r2 at *
          generalize y0 ^^^ y1 = r1 at *
          have n0 : IntKind.i64.wrap 0 = 0 := rfl
          have n1 : IntKind.i64.wrap 1 = 1 := rfl
          have n2 : IntKind.i64.wrap 2 = 2 := rfl
          have n3 : IntKind.i64.wrap 3 = 3 := rfl
          have n4 : IntKind.i64.wrap 4 = 4 := rfl
          have n5 : IntKind.i64.wrap 5 = 5 := rfl
          have n6 : IntKind.i64.wrap 6 = 6 := rfl
          have n7 : IntKind.i64.wrap 7 = 7 := rfl
          go_wp2_with fail
          go_quiet ((first | (go_at_call 31; ((with_reducible exact quiet_left (p0.out _)))) | (go_at_call 31; ((with_reducible exact quiet_left (p1.out _))))))
          have HO3 : Hid ((wr.drewN nq).ownsRow w.heap.size 5 1 _ 5 (bvs L)) := own_below HO2.out (dn (b0 _) _)
          have HB3 : Hid (Below w.heap.size w (wr.drewN nq)) := dn HB2.out _
          go_wp2_with (at_builtin; refine ap1 row27 rfl (.tmp 53) (.tmp 55) rfl w.heap.size _ 5 (bvs L) _ rfl HO3.out rfl rfl (by omega) hbase ?_; intro v2 w2 hown2 hb2; have Hown2 := Lib.hid hown2; clear hown2)
          go_roundw
          case rel => first | exact ⟨2, by omega, by first | rfl | go_num, by show World.ownsRow w2 w.heap.size 5 1 v2 (5 + 1) (bvs (T (5 + 1))); rw [HS.out, ← bvs_snoc]; exact Hown2.out, HB3.out.trans hb2⟩ | ((repeat apply Exists.intro); exact ⟨⟨2, by omega, by first | rfl | go_num, by show World.ownsRow w2 w.heap.size 5 1 v2 (5 + 1) (bvs (T (5 + 1))); rw [HS.out, ← bvs_snoc]; exact Hown2.out, HB3.out.trans hb2⟩, rfl⟩)
          case measure => simp [intOf]
        · have HS : Hid (T (6 + 1) = T 6 ++ [times (b.getD 6 0) 2 ^^^ times (b.getD 7 0) 3 ^^^ b.getD 4 0 ^^^ b.getD 5 0]) := by
            show T (6 + 1) = T 6 ++ [times (b.getD 6 0) 2 ^^^ times (b.getD 7 0) 3 ^^^ b.getD 4 0 ^^^ b.getD 5 0]
            have hm : mx1 b 6 = b.getD 6 0 ^^^ mxA b 1 ^^^ dbl (b.getD 6 0 ^^^ b.getD 7 0) := rfl
            have ha : mxA b 1 = b.getD 6 0 ^^^ b.getD 7 0 ^^^ b.getD 4 0 ^^^ b.getD 5 0 := by
              have hA : mxA b 1 = b.getD 4 0 ^^^ b.getD 5 0 ^^^ b.getD 6 0 ^^^ b.getD 7 0 := rfl
              rw [hA] <;> ac_rfl
            rw [Hsn.out 6 (by omega), Ht.out 6 (by omega), hm, mixv (Hbb.out 6) (Hbb.out 7) ha]
          have c0 := HbC.out _ HB2.out 6 (by omega)
          have c1 := HbC.out _ HB2.out 7 (by omega)
          have c2 := HbC.out _ HB2.out 4 (by omega)
          have c3 := HbC.out _ HB2.out 5 (by omega)
          have g0 := Hbb.out 6
          have g1 := Hbb.out 7
          have g2 := Hbb.out 4
          have g3 := Hbb.out 5
          generalize T 6 = L at *
          generalize b.getD 6 0 = x0 at *
          generalize b.getD 7 0 = x1 at *
          generalize b.getD 4 0 = x2 at *
          generalize b.getD 5 0 = x3 at *
          have t0 := tO_lt x0 2 g0 8
          have t1 := tO_lt x1 3 g1 8
          have z0 : times x0 2 < 256 := t0
          have z1 : times x1 3 < 256 := t1
          have p0 := Lib.hid (fun W => times31 x0 2 W g0 (by omega))
          have p1 := Lib.hid (fun W => times31 x1 3 W g1 (by omega))
          clear t0 t1
          generalize times x0 2 = y0 at *
          generalize times x1 3 = y1 at *
          have v1 := u8_xor_nat y0 y1 z0 z1
          have s1 := xor8 z0 z1
          have v2 := u8_xor_nat (y0 ^^^ y1) x2 s1 g2
          have s2 := xor8 s1 g2
          have v3 := u8_xor_nat (y0 ^^^ y1 ^^^ x2) x3 s2 g3
          generalize y0 ^^^ y1 ^^^ x2 ^^^ x3 = r3 at *
          generalize y0 ^^^ y1 ^^^ x2 = r2 at *
          generalize y0 ^^^ y1 = r1 at *
          have n0 : IntKind.i64.wrap 0 = 0 := rfl
          have n1 : IntKind.i64.wrap 1 = 1 := rfl
          have n2 : IntKind.i64.wrap 2 = 2 := rfl
          have n3 : IntKind.i64.wrap 3 = 3 := rfl
          have n4 : IntKind.i64.wrap 4 = 4 := rfl
          have n5 : IntKind.i64.wrap 5 = 5 := rfl
          have n6 : IntKind.i64.wrap 6 = 6 := rfl
          have n7 : IntKind.i64.wrap 7 = 7 := rfl
          go_wp2_with fail
          go_quiet ((first | (go_at_call 31; ((with_reducible exact quiet_left (p0.out _)))) | (go_at_call 31; ((with_reducible exact quiet_left (p1.out _))))))
          have HO3 : Hid ((wr.drewN nq).ownsRow w.heap.size 5 1 _ 6 (bvs L)) := own_below HO2.out (dn (b0 _) _)
          have HB3 : Hid (Below w.heap.size w (wr.drewN nq)) := dn HB2.out _
          go_wp2_with (at_builtin; refine ap1 row27 rfl (.tmp 53) (.tmp 55) rfl w.heap.size _ 6 (bvs L) _ rfl HO3.out rfl rfl (by omega) hbase ?_; intro v2 w2 hown2 hb2; have Hown2 := Lib.hid hown2; clear hown2)
          go_roundw
          case rel => first | exact ⟨3, by omega, by first | rfl | go_num, by show World.ownsRow w2 w.heap.size 5 1 v2 (6 + 1) (bvs (T (6 + 1))); rw [HS.out, ← bvs_snoc]; exact Hown2.out, HB3.out.trans hb2⟩ | ((repeat apply Exists.intro); exact ⟨⟨3, by omega, by first | rfl | go_num, by show World.ownsRow w2 w.heap.size 5 1 v2 (6 + 1) (bvs (T (6 + 1))); rw [HS.out, ← bvs_snoc]; exact Hown2.out, HB3.out.trans hb2⟩, rfl⟩)
          case measure => simp [intOf]
        · have HS : Hid (T (7 + 1) = T 7 ++ [times (b.getD 7 0) 2 ^^^ times (b.getD 4 0) 3 ^^^ b.getD 5 0 ^^^ b.getD 6 0]) := by
            show T (7 + 1) = T 7 ++ [times (b.getD 7 0) 2 ^^^ times (b.getD 4 0) 3 ^^^ b.getD 5 0 ^^^ b.getD 6 0]
            have hm : mx1 b 7 = b.getD 7 0 ^^^ mxA b 1 ^^^ dbl (b.getD 7 0 ^^^ b.getD 4 0) := rfl
            have ha : mxA b 1 = b.getD 7 0 ^^^ b.getD 4 0 ^^^ b.getD 5 0 ^^^ b.getD 6 0 := by
              have hA : mxA b 1 = b.getD 4 0 ^^^ b.getD 5 0 ^^^ b.getD 6 0 ^^^ b.getD 7 0 := rfl
              rw [hA] <;> ac_rfl
            rw [Hsn.out 7 (by omega), Ht.out 7 (by omega), hm, mixv (Hbb.out 7) (Hbb.out 4) ha]
          have c0 := HbC.out _ HB2.out 7 (by omega)
          have c1 := HbC.out _ HB2.out 4 (by omega)
          have c2 := HbC.out _ HB2.out 5 (by omega)
          have c3 := HbC.out _ HB2.out 6 (by omega)
          have g0 := Hbb.out 7
          have g1 := Hbb.out 4
          have g2 := Hbb.out 5
          have g3 := Hbb.out 6
          generalize T 7 = L at *
          generalize b.getD 7 0 = x0 at *
          generalize b.getD 4 0 = x1 at *
          generalize b.getD 5 0 = x2 at *
          generalize b.getD 6 0 = x3 at *
          have t0 := tO_lt x0 2 g0 8
          have t1 := tO_lt x1 3 g1 8
          have z0 : times x0 2 < 256 := t0
          have z1 : times x1 3 < 256 := t1
          have p0 := Lib.hid (fun W => times31 x0 2 W g0 (by omega))
          have p1 := Lib.hid (fun W => times31 x1 3 W g1 (by omega))
          clear t0 t1
          generalize times x0 2 = y0 at *
          generalize times x1 3 = y1 at *
          have v1 := u8_xor_nat y0 y1 z0 z1
          have s1 := xor8 z0 z1
          have v2 := u8_xor_nat (y0 ^^^ y1) x2 s1 g2
          have s2 := xor8 s1 g2
          have v3 := u8_xor_nat (y0 ^^^ y1 ^^^ x2) x3 s2 g3
          generalize y0 ^^^ y1 ^^^ x2 ^^^ x3 = r3 at *
          generalize y0 ^^^ y1 ^^^ x2 = r2 at *
          generalize y0 ^^^ y1 = r1 at *
          have n0 : IntKind.i64.wrap 0 = 0 := rfl
          have n1 : IntKind.i64.wrap 1 = 1 := rfl
          have n2 : IntKind.i64.wrap 2 = 2 := rfl
          have n3 : IntKind.i64.wrap 3 = 3 := rfl
          have n4 : IntKind.i64.wrap 4 = 4 := rfl
          have n5 : IntKind.i64.wrap 5 = 5 := rfl
          have n6 : IntKind.i64.wrap 6 = 6 := rfl
          have n7 : IntKind.i64.wrap 7 = 7 := rfl
          go_wp2_with fail
          go_quiet ((first | (go_at_call 31; ((with_reducible exact quiet_left (p0.out _)))) | (go_at_call 31; ((with_reducible exact quiet_left (p1.out _))))))
          have HO3 : Hid ((wr.drewN nq).ownsRow w.heap.size 5 1 _ 7 (bvs L)) := own_below HO2.out (dn (b0 _) _)
          have HB3 : Hid (Below w.heap.size w (wr.drewN nq)) := dn HB2.out _
          go_wp2_with (at_builtin; refine ap1 row27 rfl (.tmp 53) (.tmp 55) rfl w.heap.size _ 7 (bvs L) _ rfl HO3.out rfl rfl (by omega) hbase ?_; intro v2 w2 hown2 hb2; have Hown2 := Lib.hid hown2; clear hown2)
          go_roundw
          case rel => first | exact ⟨4, by omega, by first | rfl | go_num, by show World.ownsRow w2 w.heap.size 5 1 v2 (7 + 1) (bvs (T (7 + 1))); rw [HS.out, ← bvs_snoc]; exact Hown2.out, HB3.out.trans hb2⟩ | ((repeat apply Exists.intro); exact ⟨⟨4, by omega, by first | rfl | go_num, by show World.ownsRow w2 w.heap.size 5 1 v2 (7 + 1) (bvs (T (7 + 1))); rw [HS.out, ← bvs_snoc]; exact Hown2.out, HB3.out.trans hb2⟩, rfl⟩)
          case measure => simp [intOf]
        · go_wp2_with fail
          go_roundw
          case rel => exact ⟨2, by omega, by first | rfl | go_num, HO2.out, HB2.out⟩
          case measure => simp [intOf]
    · go_wp2_with fail
      go_loopw [3, 5] (fun o i wr => ∃ k : Nat, k ≤ 4 ∧ i = .int .i64 k ∧ Hid (wr.ownsRow w.heap.size 5 1 o (8 + k) (bvs (T (8 + k)))) ∧ Hid (Below w.heap.size w wr)) (fun _ i _ => 4 - (intOf i).toNat)
      case atStart => exact ⟨0, by omega, rfl, HO.out, HB.out⟩
      case round =>
        obtain ⟨k, hk, rfl, HO2, HB2⟩ := hrel
        clear HO HB
        have hbase := HB2.out.size
        obtain rfl | rfl | rfl | rfl | rfl : k = 0 ∨ k = 1 ∨ k = 2 ∨ k = 3 ∨ k = 4 := by omega
        · have HS : Hid (T (8 + 1) = T 8 ++ [times (b.getD 8 0) 2 ^^^ times (b.getD 9 0) 3 ^^^ b.getD 10 0 ^^^ b.getD 11 0]) := by
            show T (8 + 1) = T 8 ++ [times (b.getD 8 0) 2 ^^^ times (b.getD 9 0) 3 ^^^ b.getD 10 0 ^^^ b.getD 11 0]
            have hm : mx1 b 8 = b.getD 8 0 ^^^ mxA b 2 ^^^ dbl (b.getD 8 0 ^^^ b.getD 9 0) := rfl
            have ha : mxA b 2 = b.getD 8 0 ^^^ b.getD 9 0 ^^^ b.getD 10 0 ^^^ b.getD 11 0 := by
              have hA : mxA b 2 = b.getD 8 0 ^^^ b.getD 9 0 ^^^ b.getD 10 0 ^^^ b.getD 11 0 := rfl
              rw [hA] <;> ac_rfl
            rw [Hsn.out 8 (by omega), Ht.out 8 (by omega), hm, mixv (Hbb.out 8) (Hbb.out 9) ha]
          have c0 := HbC.out _ HB2.out 8 (by omega)
          have c1 := HbC.out _ HB2.out 9 (by omega)
          have c2 := HbC.out _ HB2.out 10 (by omega)
          have c3 := HbC.out _ HB2.out 11 (by omega)
          have g0 := Hbb.out 8
          have g1 := Hbb.out 9
          have g2 := Hbb.out 10
          have g3 := Hbb.out 11
          generalize T 8 = L at *
          generalize b.getD 8 0 = x0 at *
          generalize b.getD 9 0 = x1 at *
          generalize b.getD 10 0 = x2 at *
          generalize b.getD 11 0 = x3 at *
          have t0 := tO_lt x0 2 g0 8
          have t1 := tO_lt x1 3 g1 8
          have z0 : times x0 2 < 256 := t0
          have z1 : times x1 3 < 256 := t1
          have p0 := Lib.hid (fun W => times31 x0 2 W g0 (by omega))
          have p1 := Lib.hid (fun W => times31 x1 3 W g1 (by omega))
          clear t0 t1
          generalize times x0 2 = y0 at *
          generalize times x1 3 = y1 at *
          have v1 := u8_xor_nat y0 y1 z0 z1
          have s1 := xor8 z0 z1
          have v2 := u8_xor_nat (y0 ^^^ y1) x2 s1 g2
          have s2 := xor8 s1 g2
          have v3 := u8_xor_nat (y0 ^^^ y1 ^^^ x2) x3 s2 g3
          generalize y0 ^^^ y1 ^^^ x2 ^^^ x3 = r3 at *
          generalize y0 ^^^ y1 ^^^ x2 = r2 at *
          generalize y0 ^^^ y1 = r1 at *
          have n0 : IntKind.i64.wrap 0 = 0 := rfl
          have n1 : IntKind.i64.wrap 1 = 1 := rfl
          have n2 : IntKind.i64.wrap 2 = 2 := rfl
          have n3 : IntKind.i64.wrap 3 = 3 := rfl
          have n8 : IntKind.i64.wrap 8 = 8 := rfl
          have n9 : IntKind.i64.wrap 9 = 9 := rfl
          have n10 : IntKind.i64.wrap 10 = 10 := rfl
          have n11 : IntKind.i64.wrap 11 = 11 := rfl
          go_wp2_with fail
          go_quiet ((first | (go_at_call 31; ((with_reducible exact quiet_left (p0.out _)))) | (go_at_call 31; ((with_reducible exact quiet_left (p1.out _))))))
          have HO3 : Hid ((wr.drewN nq).ownsRow w.heap.size 5 1 _ 8 (bvs L)) := own_below HO2.out (dn (b0 _) _)
          have HB3 : Hid (Below w.heap.size w (wr.drewN nq)) := dn HB2.out _
          go_wp2_with (at_builtin; refine ap1 row27 rfl (.tmp 53) (.tmp 55) rfl w.heap.size _ 8 (bvs L) _ rfl HO3.out rfl rfl (by omega) hbase ?_; intro v2 w2 hown2 hb2; have Hown2 := Lib.hid hown2; clear hown2)
          go_roundw
          case rel => first | exact ⟨1, by omega, by first | rfl | go_num, by show World.ownsRow w2 w.heap.size 5 1 v2 (8 + 1) (bvs (T (8 + 1))); rw [HS.out, ← bvs_snoc]; exact Hown2.out, HB3.out.trans hb2⟩ | ((repeat apply Exists.intro); exact ⟨⟨1, by omega, by first | rfl | go_num, by show World.ownsRow w2 w.heap.size 5 1 v2 (8 + 1) (bvs (T (8 + 1))); rw [HS.out, ← bvs_snoc]; exact Hown2.out, HB3.out.trans hb2⟩, rfl⟩)
          case measure => simp [intOf]
        · have HS : Hid (T (9 + 1) = T 9 ++ [times (b.getD 9 0) 2 ^^^ times (b.getD 10 0) 3 ^^^ b.getD 11 0 ^^^ b.getD 8 0]) := by
            show T (9 + 1) = T 9 ++ [times (b.getD 9 0) 2 ^^^ times (b.getD 10 0) 3 ^^^ b.getD 11 0 ^^^ b.getD 8 0]
            have hm : mx1 b 9 = b.getD 9 0 ^^^ mxA b 2 ^^^ dbl (b.getD 9 0 ^^^ b.getD 10 0) := rfl
            have ha : mxA b 2 = b.getD 9 0 ^^^ b.getD 10 0 ^^^ b.getD 11 0 ^^^ b.getD 8 0 := by
              have hA : mxA b 2 = b.getD 8 0 ^^^ b.getD 9 0 ^^^ b.getD 10 0 ^^^ b.getD 11 0 := rfl
              rw [hA] <;> ac_rfl
            rw [Hsn.out 9 (by omega), Ht.out 9 (by omega), hm, mixv (Hbb.out 9) (Hbb.out 10) ha]
          have c0 := HbC.out _ HB2.out 9 (by omega)
          have c1 := HbC.out _ HB2.out 10 (by omega)
          have c2 := HbC.out _ HB2.out 11 (by omega)
          have c3 := HbC.out _ HB2.out 8 (by omega)
          have g0 := Hbb.out 9
          have g1 := Hbb.out 10
          have g2 := Hbb.out 11
          have g3 := Hbb.out 8
          generalize T 9 = L at *
          generalize b.getD 9 0 = x0 at *
          generalize b.getD 10 0 = x1 at *
          generalize b.getD 11 0 = x2 at *
          generalize b.getD 8 0 = x3 at *
          have t0 := tO_lt x0 2 g0 8
          have t1 := tO_lt x1 3 g1 8
          have z0 : times x0 2 < 256 := t0
          have z1 : times x1 3 < 256 := t1
          have p0 := Lib.hid (fun W => times31 x0 2 W g0 (by omega))
          have p1 := Lib.hid (fun W => times31 x1 3 W g1 (by omega))
          clear t0 t1
          generalize times x0 2 = y0 at *
          generalize times x1 3 = y1 at *
          have v1 := u8_xor_nat y0 y1 z0 z1
          have s1 := xor8 z0 z1
          have v2 := u8_xor_nat (y0 ^^^ y1) x2 s1 g2
          have s2 := xor8 s1 g2
          have v3 := u8_xor_nat (y0 ^^^ y1 ^^^ x2) x3 s2 g3
          generalize y0 ^^^ y1 ^^^ x2 ^^^ x3 = r3 at *
          generalize y0 ^^^ y1 ^^^ x2 = r2 at *
          generalize y0 ^^^ y1 = r1 at *
          have n0 : IntKind.i64.wrap 0 = 0 := rfl
          have n1 : IntKind.i64.wrap 1 = 1 := rfl
          have n2 : IntKind.i64.wrap 2 = 2 := rfl
          have n3 : IntKind.i64.wrap 3 = 3 := rfl
          have n4 : IntKind.i64.wrap 4 = 4 := rfl
          have n8 : IntKind.i64.wrap 8 = 8 := rfl
          have n9 : IntKind.i64.wrap 9 = 9 := rfl
          have n10 : IntKind.i64.wrap 10 = 10 := rfl
          have n11 : IntKind.i64.wrap 11 = 11 := rfl
          go_wp2_with fail
          go_quiet ((first | (go_at_call 31; ((with_reducible exact quiet_left (p0.out _)))) | (go_at_call 31; ((with_reducible exact quiet_left (p1.out _))))))
          have HO3 : Hid ((wr.drewN nq).ownsRow w.heap.size 5 1 _ 9 (bvs L)) := own_below HO2.out (dn (b0 _) _)
          have HB3 : Hid (Below w.heap.size w (wr.drewN nq)) := dn HB2.out _
          go_wp2_with (at_builtin; refine ap1 row27 rfl (.tmp 53) (.tmp 55) rfl w.heap.size _ 9 (bvs L) _ rfl HO3.out rfl rfl (by omega) hbase ?_; intro v2 w2 hown2 hb2; have Hown2 := Lib.hid hown2; clear hown2)
          go_roundw
          case rel => first | exact ⟨2, by omega, by first | rfl | go_num, by show World.ownsRow w2 w.heap.size 5 1 v2 (9 + 1) (bvs (T (9 + 1))); rw [HS.out, ← bvs_snoc]; exact Hown2.out, HB3.out.trans hb2⟩ | ((repeat apply Exists.intro); exact ⟨⟨2, by omega, by first | rfl | go_num, by show World.ownsRow w2 w.heap.size 5 1 v2 (9 + 1) (bvs (T (9 + 1))); rw [HS.out, ← bvs_snoc]; exact Hown2.out, HB3.out.trans hb2⟩, rfl⟩)
          case measure => simp [intOf]
        · have HS : Hid (T (10 + 1) = T 10 ++ [times (b.getD 10 0) 2 ^^^ times (b.getD 11 0) 3 ^^^ b.getD 8 0 ^^^ b.getD 9 0]) := by
            show T (10 + 1) = T 10 ++ [times (b.getD 10 0) 2 ^^^ times (b.getD 11 0) 3 ^^^ b.getD 8 0 ^^^ b.getD 9 0]
            have hm : mx1 b 10 = b.getD 10 0 ^^^ mxA b 2 ^^^ dbl (b.getD 10 0 ^^^ b.getD 11 0) := rfl
            have ha : mxA b 2 = b.getD 10 0 ^^^ b.getD 11 0 ^^^ b.getD 8 0 ^^^ b.getD 9 0 := by
              have hA : mxA b 2 = b.getD 8 0 ^^^ b.getD 9 0 ^^^ b.getD 10 0 ^^^ b.getD 11 0 := rfl
              rw [hA] <;> ac_rfl
            rw [Hsn.out 10 (by omega), Ht.out 10 (by omega), hm, mixv (Hbb.out 10) (Hbb.out 11) ha]
          have c0 := HbC.out _ HB2.out 10 (by omega)
          have c1 := HbC.out _ HB2.out 11 (by omega)
          have c2 := HbC.out _ HB2.out 8 (by omega)
          have c3 := HbC.out _ HB2.out 9 (by omega)
          have g0 := Hbb.out 10
          have g1 := Hbb.out 11
          have g2 := Hbb.out 8
          have g3 := Hbb.out 9
          generalize T 10 = L at *
          generalize b.getD 10 0 = x0 at *
          generalize b.getD 11 0 = x1 at *
          generalize b.getD 8 0 = x2 at *
          generalize b.getD 9 0 = x3 at *
          have t0 := tO_lt x0 2 g0 8
          have t1 := tO_lt x1 3 g1 8
          have z0 : times x0 2 < 256 := t0
          have z1 : times x1 3 < 256 := t1
          have p0 := Lib.hid (fun W => times31 x0 2 W g0 (by omega))
          have p1 := Lib.hid (fun W => times31 x1 3 W g1 (by omega))
          clear t0 t1
          generalize times x0 2 = y0 at *
          generalize times x1 3 = y1 at *
          have v1 := u8_xor_nat y0 y1 z0 z1
          have s1 := xor8 z0 z1
          have v2 := u8_xor_nat (y0 ^^^ y1) x2 s1 g2
          have s2 := xor8 s1 g2
          have v3 := u8_xor_nat (y0 ^^^ y1 ^^^ x2) x3 s2 g3
          generalize y0 ^^^ y1 ^^^ x2 ^^^ x3 = r3 at *
          generalize y0 ^^^ y1 ^^^ x2 = r2 at *
          generalize y0 ^^^ y1 = r1 at *
          have n0 : IntKind.i64.wrap 0 = 0 := rfl
          have n1 : IntKind.i64.wrap 1 = 1 := rfl
          have n2 : IntKind.i64.wrap 2 = 2 := rfl
          have n3 : IntKind.i64.wrap 3 = 3 := rfl
          have n4 : IntKind.i64.wrap 4 = 4 := rfl
          have n5 : IntKind.i64.wrap 5 = 5 := rfl
          have n8 : IntKind.i64.wrap 8 = 8 := rfl
          have n9 : IntKind.i64.wrap 9 = 9 := rfl
          have n10 : IntKind.i64.wrap 10 = 10 := rfl
          have n11 : IntKind.i64.wrap 11 = 11 := rfl
          go_wp2_with fail
          go_quiet ((first | (go_at_call 31; ((with_reducible exact quiet_left (p0.out _)))) | (go_at_call 31; ((with_reducible exact quiet_left (p1.out _))))))
          have HO3 : Hid ((wr.drewN nq).ownsRow w.heap.size 5 1 _ 10 (bvs L)) := own_below HO2.out (dn (b0 _) _)
          have HB3 : Hid (Below w.heap.size w (wr.drewN nq)) := dn HB2.out _
          go_wp2_with (at_builtin; refine ap1 row27 rfl (.tmp 53) (.tmp 55) rfl w.heap.size _ 10 (bvs L) _ rfl HO3.out rfl rfl (by omega) hbase ?_; intro v2 w2 hown2 hb2; have Hown2 := Lib.hid hown2; clear hown2)
          go_roundw
          case rel => first | exact ⟨3, by omega, by first | rfl | go_num, by show World.ownsRow w2 w.heap.size 5 1 v2 (10 + 1) (bvs (T (10 + 1))); rw [HS.out, ← bvs_snoc]; exact Hown2.out, HB3.out.trans hb2⟩ | ((repeat apply Exists.intro); exact ⟨⟨3, by omega, by first | rfl | go_num, by show World.ownsRow w2 w.heap.size 5 1 v2 (10 + 1) (bvs (T (10 + 1))); rw [HS.out, ← bvs_snoc]; exact Hown2.out, HB3.out.trans hb2⟩, rfl⟩)
          case measure => simp [intOf]
        · have HS : Hid (T (11 + 1) = T 11 ++ [times (b.getD 11 0) 2 ^^^ times (b.getD 8 0) 3 ^^^ b.getD 9 0 ^^^ b.getD 10 0]) := by
            show T (11 + 1) = T 11 ++ [times (b.getD 11 0) 2 ^^^ times (b.getD 8 0) 3 ^^^ b.getD 9 0 ^^^ b.getD 10 0]
            have hm : mx1 b 11 = b.getD 11 0 ^^^ mxA b 2 ^^^ dbl (b.getD 11 0 ^^^ b.getD 8 0) := rfl
            have ha : mxA b 2 = b.getD 11 0 ^^^ b.getD 8 0 ^^^ b.getD 9 0 ^^^ b.getD 10 0 := by
              have hA : mxA b 2 = b.getD 8 0 ^^^ b.getD 9 0 ^^^ b.getD 10 0 ^^^ b.getD 11 0 := rfl
              rw [hA] <;> ac_rfl
            rw [Hsn.out 11 (by omega), Ht.out 11 (by omega), hm, mixv (Hbb.out 11) (Hbb.out 8) ha]
          have c0 := HbC.out _ HB2.out 11 (by omega)
          have c1 := HbC.out _ HB2.out 8 (by omega)
          have c2 := HbC.out _ HB2.out 9 (by omega)
          have c3 := HbC.out _ HB2.out 10 (by omega)
          have g0 := Hbb.out 11
          have g1 := Hbb.out 8
          have g2 := Hbb.out 9
          have g3 := Hbb.out 10
          generalize T 11 = L at *
          generalize b.getD 11 0 = x0 at *
          generalize b.getD 8 0 = x1 at *
          generalize b.getD 9 0 = x2 at *
          generalize b.getD 10 0 = x3 at *
          have t0 := tO_lt x0 2 g0 8
          have t1 := tO_lt x1 3 g1 8
          have z0 : times x0 2 < 256 := t0
          have z1 : times x1 3 < 256 := t1
          have p0 := Lib.hid (fun W => times31 x0 2 W g0 (by omega))
          have p1 := Lib.hid (fun W => times31 x1 3 W g1 (by omega))
          clear t0 t1
          generalize times x0 2 = y0 at *
          generalize times x1 3 = y1 at *
          have v1 := u8_xor_nat y0 y1 z0 z1
          have s1 := xor8 z0 z1
          have v2 := u8_xor_nat (y0 ^^^ y1) x2 s1 g2
          have s2 := xor8 s1 g2
          have v3 := u8_xor_nat (y0 ^^^ y1 ^^^ x2) x3 s2 g3
          generalize y0 ^^^ y1 ^^^ x2 ^^^ x3 = r3 at *
          generalize y0 ^^^ y1 ^^^ x2 = r2 at *
          generalize y0 ^^^ y1 = r1 at *
          have n0 : IntKind.i64.wrap 0 = 0 := rfl
          have n1 : IntKind.i64.wrap 1 = 1 := rfl
          have n2 : IntKind.i64.wrap 2 = 2 := rfl
          have n3 : IntKind.i64.wrap 3 = 3 := rfl
          have n4 : IntKind.i64.wrap 4 = 4 := rfl
          have n5 : IntKind.i64.wrap 5 = 5 := rfl
          have n6 : IntKind.i64.wrap 6 = 6 := rfl
          have n8 : IntKind.i64.wrap 8 = 8 := rfl
          have n9 : IntKind.i64.wrap 9 = 9 := rfl
          have n10 : IntKind.i64.wrap 10 = 10 := rfl
          have n11 : IntKind.i64.wrap 11 = 11 := rfl
          go_wp2_with fail
          go_quiet ((first | (go_at_call 31; ((with_reducible exact quiet_left (p0.out _)))) | (go_at_call 31; ((with_reducible exact quiet_left (p1.out _))))))
          have HO3 : Hid ((wr.drewN nq).ownsRow w.heap.size 5 1 _ 11 (bvs L)) := own_below HO2.out (dn (b0 _) _)
          have HB3 : Hid (Below w.heap.size w (wr.drewN nq)) := dn HB2.out _
          go_wp2_with (at_builtin; refine ap1 row27 rfl (.tmp 53) (.tmp 55) rfl w.heap.size _ 11 (bvs L) _ rfl HO3.out rfl rfl (by omega) hbase ?_; intro v2 w2 hown2 hb2; have Hown2 := Lib.hid hown2; clear hown2)
          go_roundw
          case rel => first | exact ⟨4, by omega, by first | rfl | go_num, by show World.ownsRow w2 w.heap.size 5 1 v2 (11 + 1) (bvs (T (11 + 1))); rw [HS.out, ← bvs_snoc]; exact Hown2.out, HB3.out.trans hb2⟩ | ((repeat apply Exists.intro); exact ⟨⟨4, by omega, by first | rfl | go_num, by show World.ownsRow w2 w.heap.size 5 1 v2 (11 + 1) (bvs (T (11 + 1))); rw [HS.out, ← bvs_snoc]; exact Hown2.out, HB3.out.trans hb2⟩, rfl⟩)
          case measure => simp [intOf]
        · go_wp2_with fail
          go_roundw
          case rel => exact ⟨3, by omega, by first | rfl | go_num, HO2.out, HB2.out⟩
          case measure => simp [intOf]
    · go_wp2_with fail
      go_loopw [3, 5] (fun o i wr => ∃ k : Nat, k ≤ 4 ∧ i = .int .i64 k ∧ Hid (wr.ownsRow w.heap.size 5 1 o (12 + k) (bvs (T (12 + k)))) ∧ Hid (Below w.heap.size w wr)) (fun _ i _ => 4 - (intOf i).toNat)
      case atStart => exact ⟨0, by omega, rfl, HO.out, HB.out⟩
      case round =>
        obtain ⟨k, hk, rfl, HO2, HB2⟩ := hrel
        clear HO HB
        have hbase := HB2.out.size
        obtain rfl | rfl | rfl | rfl | rfl : k = 0 ∨ k = 1 ∨ k = 2 ∨ k = 3 ∨ k = 4 := by omega
        · have HS : Hid (T (12 + 1) = T 12 ++ [times (b.getD 12 0) 2 ^^^ times (b.getD 13 0) 3 ^^^ b.getD 14 0 ^^^ b.getD 15 0]) := by
            show T (12 + 1) = T 12 ++ [times (b.getD 12 0) 2 ^^^ times (b.getD 13 0) 3 ^^^ b.getD 14 0 ^^^ b.getD 15 0]
            have hm : mx1 b 12 = b.getD 12 0 ^^^ mxA b 3 ^^^ dbl (b.getD 12 0 ^^^ b.getD 13 0) := rfl
            have ha : mxA b 3 = b.getD 12 0 ^^^ b.getD 13 0 ^^^ b.getD 14 0 ^^^ b.getD 15 0 := by
              have hA : mxA b 3 = b.getD 12 0 ^^^ b.getD 13 0 ^^^ b.getD 14 0 ^^^ b.getD 15 0 := rfl
              rw [hA] <;> ac_rfl
            rw [Hsn.out 12 (by omega), Ht.out 12 (by omega), hm, mixv (Hbb.out 12) (Hbb.out 13) ha]
          have c0 := HbC.out _ HB2.out 12 (by omega)
          have c1 := HbC.out _ HB2.out 13 (by omega)
          have c2 := HbC.out _ HB2.out 14 (by omega)
          have c3 := HbC.out _ HB2.out 15 (by omega)
          have g0 := Hbb.out 12
          have g1 := Hbb.out 13
          have g2 := Hbb.out 14
          have g3 := Hbb.out 15
          generalize T 12 = L at *
          generalize b.getD 12 0 = x0 at *
          generalize b.getD 13 0 = x1 at *
          generalize b.getD 14 0 = x2 at *
          generalize b.getD 15 0 = x3 at *
          have t0 := tO_lt x0 2 g0 8
          have t1 := tO_lt x1 3 g1 8
          have z0 : times x0 2 < 256 := t0
          have z1 : times x1 3 < 256 := t1
          have p0 := Lib.hid (fun W => times31 x0 2 W g0 (by omega))
          have p1 := Lib.hid (fun W => times31 x1 3 W g1 (by omega))
          clear t0 t1
          generalize times x0 2 = y0 at *
          generalize times x1 3 = y1 at *
          have v1 := u8_xor_nat y0 y1 z0 z1
          have s1 := xor8 z0 z1
          have v2 := u8_xor_nat (y0 ^^^ y1) x2 s1 g2
          have s2 := xor8 s1 g2
          have v3 := u8_xor_nat (y0 ^^^ y1 ^^^ x2) x3 s2 g3
          generalize y0 ^^^ y1 ^^^ x2 ^^^ x3 = r3 at *
          generalize y0 ^^^ y1 ^^^ x2 = r2 at *
          generalize y0 ^^^ y1 = r1 at *
          have n0 : IntKind.i64.wrap 0 = 0 := rfl
          have n1 : IntKind.i64.wrap 1 = 1 := rfl
          have n2 : IntKind.i64.wrap 2 = 2 := rfl
          have n3 : IntKind.i64.wrap 3 = 3 := rfl
          have n12 : IntKind.i64.wrap 12 = 12 := rfl
          have n13 : IntKind.i64.wrap 13 = 13 := rfl
          have n14 : IntKind.i64.wrap 14 = 14 := rfl
          have n15 : IntKind.i64.wrap 15 = 15 := rfl
          go_wp2_with fail
          go_quiet ((first | (go_at_call 31; ((with_reducible exact quiet_left (p0.out _)))) | (go_at_call 31; ((with_reducible exact quiet_left (p1.out _))))))
          have HO3 : Hid ((wr.drewN nq).ownsRow w.heap.size 5 1 _ 12 (bvs L)) := own_below HO2.out (dn (b0 _) _)
          have HB3 : Hid (Below w.heap.size w (wr.drewN nq)) := dn HB2.out _
          go_wp2_with (at_builtin; refine ap1 row27 rfl (.tmp 53) (.tmp 55) rfl w.heap.size _ 12 (bvs L) _ rfl HO3.out rfl rfl (by omega) hbase ?_; intro v2 w2 hown2 hb2; have Hown2 := Lib.hid hown2; clear hown2)
          go_roundw
          case rel => first | exact ⟨1, by omega, by first | rfl | go_num, by show World.ownsRow w2 w.heap.size 5 1 v2 (12 + 1) (bvs (T (12 + 1))); rw [HS.out, ← bvs_snoc]; exact Hown2.out, HB3.out.trans hb2⟩ | ((repeat apply Exists.intro); exact ⟨⟨1, by omega, by first | rfl | go_num, by show World.ownsRow w2 w.heap.size 5 1 v2 (12 + 1) (bvs (T (12 + 1))); rw [HS.out, ← bvs_snoc]; exact Hown2.out, HB3.out.trans hb2⟩, rfl⟩)
          case measure => simp [intOf]
        · have HS : Hid (T (13 + 1) = T 13 ++ [times (b.getD 13 0) 2 ^^^ times (b.getD 14 0) 3 ^^^ b.getD 15 0 ^^^ b.getD 12 0]) := by
            show T (13 + 1) = T 13 ++ [times (b.getD 13 0) 2 ^^^ times (b.getD 14 0) 3 ^^^ b.getD 15 0 ^^^ b.getD 12 0]
            have hm : mx1 b 13 = b.getD 13 0 ^^^ mxA b 3 ^^^ dbl (b.getD 13 0 ^^^ b.getD 14 0) := rfl
            have ha : mxA b 3 = b.getD 13 0 ^^^ b.getD 14 0 ^^^ b.getD 15 0 ^^^ b.getD 12 0 := by
              have hA : mxA b 3 = b.getD 12 0 ^^^ b.getD 13 0 ^^^ b.getD 14 0 ^^^ b.getD 15 0 := rfl
              rw [hA] <;> ac_rfl
            rw [Hsn.out 13 (by omega), Ht.out 13 (by omega), hm, mixv (Hbb.out 13) (Hbb.out 14) ha]
          have c0 := HbC.out _ HB2.out 13 (by omega)
          have c1 := HbC.out _ HB2.out 14 (by omega)
          have c2 := HbC.out _ HB2.out 15 (by omega)
          have c3 := HbC.out _ HB2.out 12 (by omega)
          have g0 := Hbb.out 13
          have g1 := Hbb.out 14
          have g2 := Hbb.out 15
          have g3 := Hbb.out 12
          generalize T 13 = L at *
          generalize b.getD 13 0 = x0 at *
          generalize b.getD 14 0 = x1 at *
          generalize b.getD 15 0 = x2 at *
          generalize b.getD 12 0 = x3 at *
          have t0 := tO_lt x0 2 g0 8
          have t1 := tO_lt x1 3 g1 8
          have z0 : times x0 2 < 256 := t0
          have z1 : times x1 3 < 256 := t1
          have p0 := Lib.hid (fun W => times31 x0 2 W g0 (by omega))
          have p1 := Lib.hid (fun W => times31 x1 3 W g1 (by omega))
          clear t0 t1
          generalize times x0 2 = y0 at *
          generalize times x1 3 = y1 at *
          have v1 := u8_xor_nat y0 y1 z0 z1
          have s1 := xor8 z0 z1
          have v2 := u8_xor_nat (y0 ^^^ y1) x2 s1 g2
          have s2 := xor8 s1 g2
          have v3 := u8_xor_nat (y0 ^^^ y1 ^^^ x2) x3 s2 g3
          generalize y0 ^^^ y1 ^^^ x2 ^^^ x3 = r3 at *
          generalize y0 ^^^ y1 ^^^ x2 = r2 at *
          generalize y0 ^^^ y1 = r1 at *
          have n0 : IntKind.i64.wrap 0 = 0 := rfl
          have n1 : IntKind.i64.wrap 1 = 1 := rfl
          have n2 : IntKind.i64.wrap 2 = 2 := rfl
          have n3 : IntKind.i64.wrap 3 = 3 := rfl
          have n4 : IntKind.i64.wrap 4 = 4 := rfl
          have n12 : IntKind.i64.wrap 12 = 12 := rfl
          have n13 : IntKind.i64.wrap 13 = 13 := rfl
          have n14 : IntKind.i64.wrap 14 = 14 := rfl
          have n15 : IntKind.i64.wrap 15 = 15 := rfl
          go_wp2_with fail
          go_quiet ((first | (go_at_call 31; ((with_reducible exact quiet_left (p0.out _)))) | (go_at_call 31; ((with_reducible exact quiet_left (p1.out _))))))
          have HO3 : Hid ((wr.drewN nq).ownsRow w.heap.size 5 1 _ 13 (bvs L)) := own_below HO2.out (dn (b0 _) _)
          have HB3 : Hid (Below w.heap.size w (wr.drewN nq)) := dn HB2.out _
          go_wp2_with (at_builtin; refine ap1 row27 rfl (.tmp 53) (.tmp 55) rfl w.heap.size _ 13 (bvs L) _ rfl HO3.out rfl rfl (by omega) hbase ?_; intro v2 w2 hown2 hb2; have Hown2 := Lib.hid hown2; clear hown2)
          go_roundw
          case rel => first | exact ⟨2, by omega, by first | rfl | go_num, by show World.ownsRow w2 w.heap.size 5 1 v2 (13 + 1) (bvs (T (13 + 1))); rw [HS.out, ← bvs_snoc]; exact Hown2.out, HB3.out.trans hb2⟩ | ((repeat apply Exists.intro); exact ⟨⟨2, by omega, by first | rfl | go_num, by show World.ownsRow w2 w.heap.size 5 1 v2 (13 + 1) (bvs (T (13 + 1))); rw [HS.out, ← bvs_snoc]; exact Hown2.out, HB3.out.trans hb2⟩, rfl⟩)
          case measure => simp [intOf]
        · have HS : Hid (T (14 + 1) = T 14 ++ [times (b.getD 14 0) 2 ^^^ times (b.getD 15 0) 3 ^^^ b.getD 12 0 ^^^ b.getD 13 0]) := by
            show T (14 + 1) = T 14 ++ [times (b.getD 14 0) 2 ^^^ times (b.getD 15 0) 3 ^^^ b.getD 12 0 ^^^ b.getD 13 0]
            have hm : mx1 b 14 = b.getD 14 0 ^^^ mxA b 3 ^^^ dbl (b.getD 14 0 ^^^ b.getD 15 0) := rfl
            have ha : mxA b 3 = b.getD 14 0 ^^^ b.getD 15 0 ^^^ b.getD 12 0 ^^^ b.getD 13 0 := by
              have hA : mxA b 3 = b.getD 12 0 ^^^ b.getD 13 0 ^^^ b.getD 14 0 ^^^ b.getD 15 0 := rfl
              rw [hA] <;> ac_rfl
            rw [Hsn.out 14 (by omega), Ht.out 14 (by omega), hm, mixv (Hbb.out 14) (Hbb.out 15) ha]
          have c0 := HbC.out _ HB2.out 14 (by omega)
          have c1 := HbC.out _ HB2.out 15 (by omega)
          have c2 := HbC.out _ HB2.out 12 (by omega)
          have c3 := HbC.out _ HB2.out 13 (by omega)
          have g0 := Hbb.out 14
          have g1 := Hbb.out 15
          have g2 := Hbb.out 12
          have g3 := Hbb.out 13
          generalize T 14 = L at *
          generalize b.getD 14 0 = x0 at *
          generalize b.getD 15 0 = x1 at *
          generalize b.getD 12 0 = x2 at *
          generalize b.getD 13 0 = x3 at *
          have t0 := tO_lt x0 2 g0 8
          have t1 := tO_lt x1 3 g1 8
          have z0 : times x0 2 < 256 := t0
          have z1 : times x1 3 < 256 := t1
          have p0 := Lib.hid (fun W => times31 x0 2 W g0 (by omega))
          have p1 := Lib.hid (fun W => times31 x1 3 W g1 (by omega))
          clear t0 t1
          generalize times x0 2 = y0 at *
          generalize times x1 3 = y1 at *
          have v1 := u8_xor_nat y0 y1 z0 z1
          have s1 := xor8 z0 z1
          have v2 := u8_xor_nat (y0 ^^^ y1) x2 s1 g2
          have s2 := xor8 s1 g2
          have v3 := u8_xor_nat (y0 ^^^ y1 ^^^ x2) x3 s2 g3
          generalize y0 ^^^ y1 ^^^ x2 ^^^ x3 = r3 at *
          generalize y0 ^^^ y1 ^^^ x2 = r2 at *
          generalize y0 ^^^ y1 = r1 at *
          have n0 : IntKind.i64.wrap 0 = 0 := rfl
          have n1 : IntKind.i64.wrap 1 = 1 := rfl
          have n2 : IntKind.i64.wrap 2 = 2 := rfl
          have n3 : IntKind.i64.wrap 3 = 3 := rfl
          have n4 : IntKind.i64.wrap 4 = 4 := rfl
          have n5 : IntKind.i64.wrap 5 = 5 := rfl
          have n12 : IntKind.i64.wrap 12 = 12 := rfl
          have n13 : IntKind.i64.wrap 13 = 13 := rfl
          have n14 : IntKind.i64.wrap 14 = 14 := rfl
          have n15 : IntKind.i64.wrap 15 = 15 := rfl
          go_wp2_with fail
          go_quiet ((first | (go_at_call 31; ((with_reducible exact quiet_left (p0.out _)))) | (go_at_call 31; ((with_reducible exact quiet_left (p1.out _))))))
          have HO3 : Hid ((wr.drewN nq).ownsRow w.heap.size 5 1 _ 14 (bvs L)) := own_below HO2.out (dn (b0 _) _)
          have HB3 : Hid (Below w.heap.size w (wr.drewN nq)) := dn HB2.out _
          go_wp2_with (at_builtin; refine ap1 row27 rfl (.tmp 53) (.tmp 55) rfl w.heap.size _ 14 (bvs L) _ rfl HO3.out rfl rfl (by omega) hbase ?_; intro v2 w2 hown2 hb2; have Hown2 := Lib.hid hown2; clear hown2)
          go_roundw
          case rel => first | exact ⟨3, by omega, by first | rfl | go_num, by show World.ownsRow w2 w.heap.size 5 1 v2 (14 + 1) (bvs (T (14 + 1))); rw [HS.out, ← bvs_snoc]; exact Hown2.out, HB3.out.trans hb2⟩ | ((repeat apply Exists.intro); exact ⟨⟨3, by omega, by first | rfl | go_num, by show World.ownsRow w2 w.heap.size 5 1 v2 (14 + 1) (bvs (T (14 + 1))); rw [HS.out, ← bvs_snoc]; exact Hown2.out, HB3.out.trans hb2⟩, rfl⟩)
          case measure => simp [intOf]
        · have HS : Hid (T (15 + 1) = T 15 ++ [times (b.getD 15 0) 2 ^^^ times (b.getD 12 0) 3 ^^^ b.getD 13 0 ^^^ b.getD 14 0]) := by
            show T (15 + 1) = T 15 ++ [times (b.getD 15 0) 2 ^^^ times (b.getD 12 0) 3 ^^^ b.getD 13 0 ^^^ b.getD 14 0]
            have hm : mx1 b 15 = b.getD 15 0 ^^^ mxA b 3 ^^^ dbl (b.getD 15 0 ^^^ b.getD 12 0) := rfl
            have ha : mxA b 3 = b.getD 15 0 ^^^ b.getD 12 0 ^^^ b.getD 13 0 ^^^ b.getD 14 0 := by
              have hA : mxA b 3 = b.getD 12 0 ^^^ b.getD 13 0 ^^^ b.getD 14 0 ^^^ b.getD 15 0 := rfl
              rw [hA] <;> ac_rfl
            rw [Hsn.out 15 (by omega), Ht.out 15 (by omega), hm, mixv (Hbb.out 15) (Hbb.out 12) ha]
          have c0 := HbC.out _ HB2.out 15 (by omega)
          have c1 := HbC.out _ HB2.out 12 (by omega)
          have c2 := HbC.out _ HB2.out 13 (by omega)
          have c3 := HbC.out _ HB2.out 14 (by omega)
          have g0 := Hbb.out 15
          have g1 := Hbb.out 12
          have g2 := Hbb.out 13
          have g3 := Hbb.out 14
          generalize T 15 = L at *
          generalize b.getD 15 0 = x0 at *
          generalize b.getD 12 0 = x1 at *
          generalize b.getD 13 0 = x2 at *
          generalize b.getD 14 0 = x3 at *
          have t0 := tO_lt x0 2 g0 8
          have t1 := tO_lt x1 3 g1 8
          have z0 : times x0 2 < 256 := t0
          have z1 : times x1 3 < 256 := t1
          have p0 := Lib.hid (fun W => times31 x0 2 W g0 (by omega))
          have p1 := Lib.hid (fun W => times31 x1 3 W g1 (by omega))
          clear t0 t1
          generalize times x0 2 = y0 at *
          generalize times x1 3 = y1 at *
          have v1 := u8_xor_nat y0 y1 z0 z1
          have s1 := xor8 z0 z1
          have v2 := u8_xor_nat (y0 ^^^ y1) x2 s1 g2
          have s2 := xor8 s1 g2
          have v3 := u8_xor_nat (y0 ^^^ y1 ^^^ x2) x3 s2 g3
          generalize y0 ^^^ y1 ^^^ x2 ^^^ x3 = r3 at *
          generalize y0 ^^^ y1 ^^^ x2 = r2 at *
          generalize y0 ^^^ y1 = r1 at *
          have n0 : IntKind.i64.wrap 0 = 0 := rfl
          have n1 : IntKind.i64.wrap 1 = 1 := rfl
          have n2 : IntKind.i64.wrap 2 = 2 := rfl
          have n3 : IntKind.i64.wrap 3 = 3 := rfl
          have n4 : IntKind.i64.wrap 4 = 4 := rfl
          have n5 : IntKind.i64.wrap 5 = 5 := rfl
          have n6 : IntKind.i64.wrap 6 = 6 := rfl
          have n12 : IntKind.i64.wrap 12 = 12 := rfl
          have n13 : IntKind.i64.wrap 13 = 13 := rfl
          have n14 : IntKind.i64.wrap 14 = 14 := rfl
          have n15 : IntKind.i64.wrap 15 = 15 := rfl
          go_wp2_with fail
          go_quiet ((first | (go_at_call 31; ((with_reducible exact quiet_left (p0.out _)))) | (go_at_call 31; ((with_reducible exact quiet_left (p1.out _))))))
          have HO3 : Hid ((wr.drewN nq).ownsRow w.heap.size 5 1 _ 15 (bvs L)) := own_below HO2.out (dn (b0 _) _)
          have HB3 : Hid (Below w.heap.size w (wr.drewN nq)) := dn HB2.out _
          go_wp2_with (at_builtin; refine ap1 row27 rfl (.tmp 53) (.tmp 55) rfl w.heap.size _ 15 (bvs L) _ rfl HO3.out rfl rfl (by omega) hbase ?_; intro v2 w2 hown2 hb2; have Hown2 := Lib.hid hown2; clear hown2)
          go_roundw
          case rel => first | exact ⟨4, by omega, by first | rfl | go_num, by show World.ownsRow w2 w.heap.size 5 1 v2 (15 + 1) (bvs (T (15 + 1))); rw [HS.out, ← bvs_snoc]; exact Hown2.out, HB3.out.trans hb2⟩ | ((repeat apply Exists.intro); exact ⟨⟨4, by omega, by first | rfl | go_num, by show World.ownsRow w2 w.heap.size 5 1 v2 (15 + 1) (bvs (T (15 + 1))); rw [HS.out, ← bvs_snoc]; exact Hown2.out, HB3.out.trans hb2⟩, rfl⟩)
          case measure => simp [intOf]
        · go_wp2_with fail
          go_roundw
          case rel => exact ⟨4, by omega, by first | rfl | go_num, HO2.out, HB2.out⟩
          case measure => simp [intOf]
    · rw [Hfull.out] at HO
      obtain ⟨A2, c2, hv, h5, h6, h7⟩ := own_form HO.out
      subst hv
      have H6 := Lib.hid h6
      have H7 := Lib.hid h7
      clear h6 h7
      go_wp2_with fail
      go_ret
      exact ⟨A2, c2, by rw [Htl.out]; rfl, by rw [Htl.out]; exact h5, H6.out, H7.out, HB.out⟩
end Go.Proofs.Ytiaceoecilinkaa
