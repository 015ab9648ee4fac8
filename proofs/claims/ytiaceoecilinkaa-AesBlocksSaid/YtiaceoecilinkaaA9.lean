/- Blocks of sixteen bytes: add, shift, mix. -/
import Derived.Test.YtiaceoecilinkaaA8
import Derived.Laws.Tables
import Derived.StillTailTactics
namespace Go.Proofs.Ytiaceoecilinkaa
open Go.RowKit
set_option linter.unusedSimpArgs false

theorem zero28 (w : World) : Sem.run Try.prog (zeroValue 28) w = .ok (.agg (zs 16).toArray) w := by kernel_rfl
theorem size28 : (Try.prog.info? 28).map (·.size) = some 16 := by kernel_rfl

/-- A region that draws its order, with a tail of operations that wait for all others. -/
theorem wp_region_tail {P : Program} {id : Nat} {Q : Exit → Act → World → Prop} {a : Act} {w : World} {l : List Oper} (n : Nat) (hm : P.follows .mixedOrders = true) (hB : Region.lexTailB .any l.toArray n = true)
    (h : wpStill P l.toArray w.drew (fun a' => wpList P l.toArray Q (l.drop n) a' w.drew) (l.take n) a) : (Code.region id l.toArray true).wp P Q a w :=
  wp_region_still_tail n hm hB h
/-- A whole block of sixteen bytes is stored. -/
theorem st28 {ops : Array Oper} {rest : List Oper} {o : Oper} {a : Act} {w : World} {Q : Exit → Act → World → Prop} (hgd : o.guard = none) (x y : Operand) (ho : o.op = .store 28 x y)
    (g : Nat) (vs cs : List Value) (hx : a.eval x = .pointer (some ⟨g, 0, none⟩)) (hy : a.eval y = .agg vs.toArray) (hb : Blk w g 28 cs) (hl : cs.length = 16) (hl' : vs.length = 16) (h1 : ∀ v ∈ vs, v.oneCell' = true)
    (h : ∀ w', Blk w' g 28 vs → (∀ B w0, Below B w0 w → B ≤ g → Below B w0 w') → (∀ g' t' cs', g' ≠ g → Blk w g' t' cs' → Blk w' g' t' cs') → wpList Try.prog ops Q rest (a.put o.dst undef) w') :
    wpList Try.prog ops Q (o :: rest) a w := by
  refine wpList_store_row hgd 28 x y ho g vs.toArray hx hy 28 cs.toArray hb (by simp [size28, hl']) (by simp [hl, hl']) (Array.all_eq_true_iff_forall_mem.2 (fun v hv => h1 v (by simpa using hv))) ?_
  refine h _ (setRow_heap w g _ _ 28 _ hb) (fun B w0 hB hg => below_setRow hB hg _) (fun g' t' cs' hne hb' => ?_)
  unfold Blk
  rw [setRow_other w g g' _ hne]
  exact hb'

/-- A block of sixteen bytes is handed back. -/
theorem ret28 {fn : Func} {p : Tmp} (hr : fn.results = #[.cell p 28]) (tmps : Array Value) (w : World) (g : Nat) (cs : List Value) (hp : tmps.getD p undef = .pointer (some ⟨g, 0, none⟩)) (hb : Blk w g 28 cs) (hl : cs.length = 16) :
    (results fn tmps).run Try.prog w = .ok (.agg cs.toArray) w :=
  results_cell_row hr tmps w g 28 cs.toArray (0, 0) _ hp hb Try.underlying28 rfl (by simp [size28, hl])

/-- A cipher: its tables, its rounds' keys. -/
def Ciph (w : World) (C : Nat) (K : List Nat) : Prop := ∃ g, Tabs w g ∧ Blk w C 50 (ccs g K)
theorem Ciph.to {w w' : World} {C : Nat} {K : List Nat} (h : Ciph w C K) (hb : Below w.heap.size w w') : Ciph w' C K := by
  obtain ⟨g, h1, h2⟩ := h
  exact ⟨g, h1.to hb, h2.to hb⟩
theorem ccs_get (g : Nat) {K : List Nat} {j : Nat} (h : j < K.length) : (ccs g K)[1 + j]? = some (.int .u8 ((K.getD j 0 : Nat) : Int)) := by
  unfold ccs
  rw [Nat.add_comm, List.getElem?_cons_succ, bvs_getD h]

/-- Byte by byte exclusive-or. -/
def xorL (a b : List Nat) : List Nat := List.zipWith (· ^^^ ·) a b
def rk (K : List Nat) (r : Nat) : List Nat := (K.drop (16 * r)).take 16
def B256 (b : List Nat) : Prop := ∀ x ∈ b, x < 256
theorem B256.getD {b : List Nat} (h : B256 b) (i : Nat) : b.getD i 0 < 256 := by
  by_cases hi : i < b.length
  · simp only [List.getD, List.getElem?_eq_getElem hi, Option.getD_some]
    exact h _ (List.getElem_mem hi)
  · simp [List.getD, List.getElem?_eq_none (Nat.le_of_not_lt hi)]

/-- A block that is turned byte by byte: the first k are. -/
def mk (b t : List Nat) (k : Nat) : List Nat := t.take k ++ b.drop k
theorem mk_len {b t : List Nat} {k n : Nat} (hb : b.length = n) (ht : t.length = n) (hk : k ≤ n) : (mk b t k).length = n := by
  unfold mk; rw [List.length_append, List.length_take, List.length_drop]; omega
theorem mk_zero (b t : List Nat) : mk b t 0 = b := by simp [mk]
theorem mk_full {b t : List Nat} {n : Nat} (hb : b.length = n) (ht : t.length = n) : mk b t n = t := by
  unfold mk; rw [List.take_of_length_le (by omega), List.drop_of_length_le (by omega), List.append_nil]
theorem mk_get {b t : List Nat} {k n : Nat} (_hb : b.length = n) (ht : t.length = n) (hk : k < n) : (mk b t k).getD k 0 = b.getD k 0 := by
  unfold mk
  simp only [List.getD]
  rw [List.getElem?_append_right (by rw [List.length_take]; omega), List.getElem?_drop, List.length_take]
  rw [show k + (k - min k t.length) = k from by omega]
theorem mk_set {b t : List Nat} {k n : Nat} (hb : b.length = n) (ht : t.length = n) (hk : k < n) : (mk b t k).set k (t.getD k 0) = mk b t (k + 1) := by
  unfold mk
  rw [List.set_append_right _ _ (by rw [List.length_take]; omega), List.length_take, show k - min k t.length = 0 from by omega, List.take_succ_eq_append_getElem (by omega), List.append_assoc, List.drop_eq_getElem_cons (by omega)]
  simp only [List.set_cons_zero, List.cons_append, List.nil_append, List.getD, List.getElem?_eq_getElem (show k < t.length by omega), Option.getD_some]

theorem xorL_get {a b : List Nat} {i : Nat} (ha : i < a.length) (hb : i < b.length) : (xorL a b).getD i 0 = a.getD i 0 ^^^ b.getD i 0 := by
  unfold xorL
  simp [List.getD, ha, hb, List.getElem?_zipWith]
theorem rk_get {K : List Nat} {r i : Nat} (hi : i < 16) : (rk K r).getD i 0 = K.getD (16 * r + i) 0 := by
  unfold rk
  simp only [List.getD]
  rw [List.getElem?_take, if_pos hi, List.getElem?_drop]

set_option maxRecDepth 100000 in
set_option maxHeartbeats 8000000 in
theorem add24 (C r : Nat) (K b : List Nat) (w : World) (hc : Ciph w C K) (hK : K.length = 240) (hKb : B256 K) (hb : b.length = 16) (hbb : B256 b) (hr : r < 15) :
    Calls Try.prog 24 #[.pointer (some ⟨C, 0, none⟩), .agg (bvs b).toArray, .int .i64 (r : Int)] w fun e w' => e = .returned (.agg (bvs (xorL b (rk K r))).toArray) ∧ Below w.heap.size w w' := by
  obtain ⟨g, _, hC⟩ := hc
  have hCl := hC.lt
  have HC := Lib.hid hC
  have hrl : (rk K r).length = 16 := by unfold rk; rw [List.length_take, List.length_drop]; omega
  have htl : (xorL b (rk K r)).length = 16 := by unfold xorL; rw [List.length_zipWith]; omega
  have Ht : Hid (∀ i, i < 16 → (xorL b (rk K r)).getD i 0 = b.getD i 0 ^^^ K.getD (16 * r + i) 0) := fun i hi => by
    rw [xorL_get (by omega) (by omega), rk_get hi]
  have Hm0 := Lib.hid (mk_zero b (xorL b (rk K r)))
  have Hml := Lib.hid (fun k => @mk_len b (xorL b (rk K r)) k 16 hb htl)
  have Hmf := Lib.hid (mk_full hb htl)
  have Hmg := Lib.hid (fun k => @mk_get b (xorL b (rk K r)) k 16 hb htl)
  have Hms := Lib.hid (fun k => @mk_set b (xorL b (rk K r)) k 16 hb htl)
  have HK := Lib.hid hK
  have HKb := Lib.hid (hKb.getD)
  have Hbb := Lib.hid (hbb.getD)
  have Htl := Lib.hid htl
  have hz := zero28
  clear hC hrl hK hb hKb hbb htl
  generalize xorL b (rk K r) = t at *
  generalize mk b t = M at *
  rw [← Hm0.out]
  generalize hz16 : zs 16 = Z at *
  have HZl : Hid (Z.length = 16) := by show Z.length = 16; rw [← hz16]; simp [zs, bvs]
  have hr0 : (0 : Int) ≤ (r : Int) := by omega
  have hr1 : (r : Int) < 15 := by omega
  clear hz16
  go_enter Try.func24, Try.ntmps24
  go_upto_region 1 with fail
  clear hz
  refine gen_world (G := fun W => Code.wp _ _ _ _ W) (I := fun W => Below w.heap.size w W ∧ Blk W w.heap.size 28 (bvs (M 0)) ∧ Blk W (w.heap.size + 1) 28 Z) ⟨?_, ?_, ?_⟩ ?_
  · exact ba (ba (b0 _) _) _
  · exact (Blk.new w 28 _).alloc _
  · have h := Blk.new (w.alloc (.cells (bvs (M 0)).toArray 28)) 28 Z
    simpa using h
  have hB0 : w.heap.size ≤ w.heap.size := Nat.le_refl _
  have hB1 : w.heap.size ≤ w.heap.size + 1 := by omega
  have h01 : w.heap.size ≠ w.heap.size + 1 := by omega
  have h10 : w.heap.size + 1 ≠ w.heap.size := by omega
  have hC0 : C ≠ w.heap.size := by omega
  have hC1 : C ≠ w.heap.size + 1 := by omega
  generalize w.heap.size + 1 = B1 at *
  generalize hB : w.heap.size = B0 at *
  have HB := Lib.hid hB
  clear hB
  rintro W ⟨hb, k0, k1⟩
  have Hb := Lib.hid hb
  have K0 := Lib.hid k0
  have K1 := Lib.hid k1
  clear hb k0 k1
  go_wp2_with fail
  go_loopw [8] (fun i wr => ∃ k : Nat, k ≤ 16 ∧ i = .int .i64 k ∧ Hid (Below B0 w wr) ∧ Hid (Blk wr B0 28 (bvs (M k))) ∧ Hid (Blk wr B1 28 Z)) (fun i _ => 16 - (intOf i).toNat)
  case atStart => exact ⟨0, by omega, rfl, Hb.out, K0.out, K1.out⟩
  case round =>
    obtain ⟨k, hk, rfl, HB', L0, L1⟩ := hrel
    clear Hb K0 K1
    by_cases hlt : k < 16
    · have hkz : (k : Int) < 16 := by omega
      have hk0 : (0 : Int) ≤ (k : Int) := by omega
      have c0 : wr.cell? ⟨B0, k, none⟩ = some (.int .u8 ((b.getD k 0 : Nat) : Int)) := by
        rw [L0.out.cell, bvs_getD (by rw [Hml.out k hk]; omega), Hmg.out k hlt]
      have f0 := L0.out.frozen k
      have c1 : wr.cell? ⟨C, 1 + r * 16 + k, none⟩ = some (.int .u8 ((K.getD (16 * r + k) 0 : Nat) : Int)) := by
        rw [HB'.out.cell (p := ⟨C, 1 + r * 16 + k, none⟩) hCl, HC.out.cell, show 1 + r * 16 + k = 1 + (16 * r + k) from by omega, ccs_get g (by rw [HK.out]; omega)]
      have hx := u8_xor_nat (b.getD k 0) (K.getD (16 * r + k) 0) (Hbb.out k) (HKb.out _)
      have Hx : Hid (bits .xor .u8 ((b.getD k 0 : Nat) : Int) ((K.getD (16 * r + k) 0 : Nat) : Int) = ((t.getD k 0 : Nat) : Int)) := by rw [Ht.out k hlt]; exact hx
      have Hs := Lib.hid (Hms.out k hlt)
      clear hx
      generalize b.getD k 0 = x at *
      generalize K.getD (16 * r + k) 0 = y at *
      generalize t.getD k 0 = z at *
      go_wp2_with fail
      refine wp_region_tail 13 (by kernel_rfl) (by kernel_rfl) ?_
      simp only [List.take_succ_cons, List.take_zero, List.drop_succ_cons, List.drop_zero]
      repeat still_step
      refine wpStill_nil ?_
      go_wp2_with fail
      go_roundw
      case rel => exact ⟨k + 1, by omega, by go_num, (HB'.out.setCell (Nat.le_refl _) _).drew, by rw [← Hs.out, ← bvs_set, ← Hx.out]; exact (L0.out.set_ _ _).drew, (L1.out.far (by simpa using h10) _).drew⟩
      case measure => simp [intOf]; omega
    · have : k = 16 := by omega
      subst this
      have Hsz : Hid ((Try.prog.info? 28).map (·.size) = some (bvs (M 16)).toArray.size) := by
        show (Try.prog.info? 28).map (·.size) = some (bvs (M 16)).toArray.size
        simp [size28, bvs_length, Hml.out 16 (by omega)]
      have Hl16 : Hid ((bvs (M 16)).length = 16) := by show (bvs (M 16)).length = 16; rw [bvs_length, Hml.out 16 (by omega)]
      have Hone := Lib.hid (bvs_one (M 16))
      go_wp2_with (first
        | (refine wpList_load_row rfl 28 (.tmp 4) rfl B0 rfl 28 (bvs (M 16)).toArray (0, 0) _ L0.out Try.underlying28 rfl Hsz.out ?_)
        | (refine st28 rfl (.tmp 6) (.tmp 25) rfl B1 (bvs (M 16)) Z rfl rfl L1.out HZl.out Hl16.out Hone.out ?_; intro w2 hw1 hw2 hw3; have Hw1 := Lib.hid hw1; have Hw2 := Lib.hid (hw2 _ _ HB'.out hB1); clear hw1 hw2 hw3))
      refine bodyPost_ret (ret28 rfl _ _ B1 _ rfl Hw1.out Hl16.out) rfl ⟨by rw [Hmf.out], ?_⟩
      have h := Hw2.out
      rw [← HB.out] at h
      exact h
end Go.Proofs.Ytiaceoecilinkaa
