/- works: a block of the standard's under a key of the standard's is what it is. -/
import Derived.Test.YtiaceoecilinkaaA14
namespace Go.Proofs.Ytiaceoecilinkaa
open Go.RowKit
set_option linter.unusedSimpArgs false

theorem Blk.ne_ {w : World} {g t g' t' : Nat} {cs cs' : List Value} (h : Blk w g t cs) (h' : Blk w g' t' cs') (hne : t ≠ t') : g ≠ g' := by
  rintro rfl
  unfold Blk at h h'
  rw [h] at h'
  injection h' with h'
  injection h' with _ ht
  exact hne ht
def wkey : List Nat := List.range 32
def wblk : List Nat := (List.range 16).map (17 * ·)
def wout : List Nat := [142, 162, 183, 202, 81, 103, 69, 191, 234, 252, 73, 144, 75, 73, 96, 137]
theorem wout_eq : aesP (KS wkey) wblk = wout := by decide +kernel
theorem wkey_256 : B256 wkey := by unfold B256 wkey; decide +kernel
theorem wblk_256 : B256 wblk := by unfold B256 wblk; decide +kernel
theorem make32 (w : World) : Sem.run Try.prog (Instr.makeSlice 27 (.int .i64 32) (.int .i64 32)) w = .ok (.slice (some ⟨w.heap.size, 0, none⟩) 32 32) (w.alloc (.cells (zs 32).toArray 5)) := by kernel_rfl

def wstr : ByteArray := ⟨#[56, 101, 97, 50, 98, 55, 99, 97, 53, 49, 54, 55, 52, 53, 98, 102, 101, 97, 102, 99, 52, 57, 57, 48, 52, 98, 52, 57, 54, 48, 56, 57]⟩
theorem wstr_eq : strB (hexL wout) = wstr := by decide +kernel

set_option maxRecDepth 100000 in
set_option maxHeartbeats 16000000 in
theorem works10 (w : World) : Calls Try.prog 10 #[] w fun e w' => e = .returned (.bool true) ∧ Below w.heap.size w w' := by
  have hmk := make32
  have hz := zero28
  have Hk0 : Hid (zs 32 = bvs (mk (List.replicate 32 0) wkey 0)) := by show zs 32 = _; rw [mk_zero]; rfl
  have Hb0' : Hid (zs 16 = bvs (mk (List.replicate 16 0) wblk 0)) := by show zs 16 = _; rw [mk_zero]; rfl
  have Hkl := Lib.hid (fun k => @mk_len (List.replicate 32 0) wkey k 32 (by simp) rfl)
  have Hbl := Lib.hid (fun k => @mk_len (List.replicate 16 0) wblk k 16 (by simp) rfl)
  have Hkf : Hid (mk (List.replicate 32 0) wkey 32 = wkey) := mk_full (by simp) rfl
  have Hbf : Hid (mk (List.replicate 16 0) wblk 16 = wblk) := mk_full (by simp) rfl
  have Hks : Hid (∀ k, k < 32 → (mk (List.replicate 32 0) wkey k).set k k = mk (List.replicate 32 0) wkey (k + 1)) := fun k hk => by
    rw [← @mk_set (List.replicate 32 0) wkey k 32 (by simp) rfl hk]; simp [wkey, List.getD, hk]
  have Hbs : Hid (∀ k, k < 16 → (mk (List.replicate 16 0) wblk k).set k (17 * k) = mk (List.replicate 16 0) wblk (k + 1)) := fun k hk => by
    rw [← @mk_set (List.replicate 16 0) wblk k 16 (by simp) rfl hk]; simp [wblk, List.getD, hk]
  rw [Hk0.out] at hmk
  rw [Hb0'.out] at hz
  clear Hk0 Hb0'
  generalize mk (List.replicate 32 0) wkey = MK at *
  generalize mk (List.replicate 16 0) wblk = MB at *
  generalize hbk : bvs (MK 0) = ZK at *
  generalize hbb : bvs (MB 0) = ZB at *
  have HZK := Lib.hid hbk
  have HZB := Lib.hid hbb
  clear hbk hbb
  go_enter Try.func10, Try.ntmps10
  go_upto_region 5 with (go_at_call 7; refine (build7 _).mono ?_; rintro e w1 ⟨g, rfl, hg, hb1, ht⟩; have Hb1 := Lib.hid hb1; have Ht := Lib.hid ht; clear hg hb1 ht)
  clear hmk
  refine gen_world (G := fun W => Code.wp _ _ _ _ W) (I := fun W => Below w.heap.size w W ∧ Tabs W g ∧ Blk W w1.heap.size 5 (bvs (MK 0))) ⟨?_, ?_, ?_⟩ ?_
  · exact ba Hb1.out _
  · exact Ht.out.to (ba (b0 _) _)
  · rw [HZK.out]; exact Blk.new w1 5 ZK
  have hBk : w.heap.size ≤ w1.heap.size := Hb1.out.size
  have hgk : g ≠ w1.heap.size := by have := Ht.out.lt; omega
  clear Hb1 Ht
  generalize w1.heap.size = Bk at *
  rintro W ⟨hb, ht, k0⟩
  have Hb := Lib.hid hb
  have Ht := Lib.hid ht
  have K0 := Lib.hid k0
  clear hb ht k0 HZK
  go_wp2_with fail
  go_loopw [3] (fun i wr => ∃ k : Nat, k ≤ 32 ∧ i = .int .i64 k ∧ Hid (Below w.heap.size w wr) ∧ Hid (Tabs wr g) ∧ Hid (Blk wr Bk 5 (bvs (MK k)))) (fun i _ => 32 - (intOf i).toNat)
  case atStart => exact ⟨0, by omega, rfl, Hb.out, Ht.out, K0.out⟩
  case round =>
    obtain ⟨k, hk, rfl, HB, HT, L0⟩ := hrel
    clear Hb Ht K0
    by_cases hlt : k < 32
    · have hkz : (k : Int) < 32 := by omega
      have hk0 : (0 : Int) ≤ (k : Int) := by omega
      obtain ⟨u, hu⟩ : ∃ u, (bvs (MK k))[k]? = some u := ⟨_, List.getElem?_eq_getElem (by rw [bvs_length, Hkl.out k hk]; omega)⟩
      have c1 : wr.cell? ⟨Bk, k, none⟩ = some u := (L0.out.cell k).trans hu
      have f1 := L0.out.frozen k
      have Hs := Lib.hid (Hks.out k hlt)
      clear hu
      go_wp2_with fail
      go_roundw
      case rel => exact ⟨k + 1, by omega, by go_num, bs HB.out (by simpa using hBk) _, Blk.far HT.out (by simpa using hgk) _, by rw [← Hs.out, ← bvs_set]; exact L0.out.set_ _ _⟩
      case measure => simp [intOf]; omega
    · have : k = 32 := by omega
      subst this
      rw [Hkf.out] at L0
      have Hbase := Lib.hid L0.out.rd
      go_upto_region 14 with (first
        | (go_at_call 12; ((with_reducible refine (newK12 g _ _ wkey _ HT.out Hbase.out rfl wkey_256 (by omega)).mono ?_)); rintro e w2 ⟨C, rfl, hb2, hc⟩; have Hb2 : Hid (Below w.heap.size w w2) := bt HB.out hb2; have Hc := Lib.hid hc; have HT2 := Lib.hid (HT.out.to hb2); clear hb2 hc)
        | (go_at_call 12; ((with_reducible refine (new12_len _ _ _ _ _ (by omega)).mono ?_)); rintro e w3 ⟨rfl, rfl⟩)
        | (go_at_call 12; ((with_reducible refine (new12_nil _ _ _ _).mono ?_)); rintro e w4 ⟨rfl, rfl⟩))
      have HKl := Lib.hid (KS_len wkey)
      have HK2 := Lib.hid (KS_256 wkey_256)
      have Hout := Lib.hid wout_eq
      generalize KS wkey = KK at *
      refine gen_world (G := fun W => Code.wp _ _ _ _ W) (I := fun W => Below w.heap.size w W ∧ Tabs W g ∧ Ciph W C KK) ⟨Hb2.out, HT2.out, Hc.out⟩ ?_
      clear Hb2 HT2 Hc HT HB L0 Hbase
      rintro W2 ⟨hb, ht, hc⟩
      have HB := Lib.hid hb
      have HT := Lib.hid ht
      have HC := Lib.hid hc
      clear hb ht hc
      go_upto_region 15 with fail
      refine gen_world (G := fun W => Code.wp _ _ _ _ W) (I := fun W => Below w.heap.size w W ∧ Tabs W g ∧ Ciph W C KK ∧ Blk W W2.heap.size 28 (bvs (MB 0))) ⟨?_, ?_, ?_, ?_⟩ ?_
      · exact ba HB.out _
      · exact HT.out.to (ba (b0 _) _)
      · exact HC.out.to (ba (b0 _) _)
      · rw [HZB.out]; exact Blk.new W2 28 ZB
      have hBb : w.heap.size ≤ W2.heap.size := HB.out.size
      have hgb : g ≠ W2.heap.size := by have := HT.out.lt; omega
      have HCl : C < W2.heap.size := by obtain ⟨_, _, h⟩ := HC.out; exact h.lt
      have hCb : C ≠ W2.heap.size := by omega
      clear HB HT HC HCl
      generalize W2.heap.size = Bb at *
      rintro W3 ⟨hb, ht, hc, k0⟩
      have HB := Lib.hid hb
      have HT := Lib.hid ht
      have HC := Lib.hid hc
      have K0 := Lib.hid k0
      clear hb ht hc k0
      go_wp2_with fail
      go_loopw [11] (fun i wr => ∃ k : Nat, k ≤ 16 ∧ i = .int .i64 k ∧ Hid (Below w.heap.size w wr) ∧ Hid (Tabs wr g) ∧ Hid (Ciph wr C KK) ∧ Hid (Blk wr Bb 28 (bvs (MB k)))) (fun i _ => 16 - (intOf i).toNat)
      case atStart => exact ⟨0, by omega, rfl, HB.out, HT.out, HC.out, K0.out⟩
      case round =>
        obtain ⟨k, hk, rfl, HB2, HT2, HC2, L0⟩ := hrel
        clear HB HT HC K0
        by_cases hlt : k < 16
        · have hkz : (k : Int) < 16 := by omega
          have hk0 : (0 : Int) ≤ (k : Int) := by omega
          obtain ⟨u, hu⟩ : ∃ u, (bvs (MB k))[k]? = some u := ⟨_, List.getElem?_eq_getElem (by rw [bvs_length, Hbl.out k hk]; omega)⟩
          have c1 : wr.cell? ⟨Bb, k, none⟩ = some u := (L0.out.cell k).trans hu
          have f1 := L0.out.frozen k
          have Hs := Lib.hid (Hbs.out k hlt)
          have Hy : Hid ((17 : Int) * (k : Int) = ((17 * k : Nat) : Int)) := by show (17 : Int) * (k : Int) = ((17 * k : Nat) : Int); omega
          clear hu
          go_wp2_with fail
          go_roundw
          case rel => exact ⟨k + 1, by omega, by go_num, bs HB2.out (by simpa using hBb) _, Blk.far HT2.out (by simpa using hgb) _, (by
            obtain ⟨g', h1, h2⟩ := HC2.out
            refine ⟨g', ?_, h2.far (by simpa using hCb) _⟩
            exact Blk.far h1 (Blk.ne_ h1 L0.out (by decide)) _), by rw [← Hs.out, ← bvs_set, Hy.out]; exact L0.out.set_ _ _⟩
          case measure => simp [intOf]; omega
        · have : k = 16 := by omega
          subst this
          rw [Hbf.out] at L0
          have Hsz : Hid ((Try.prog.info? 28).map (·.size) = some (bvs wblk).toArray.size) := by
            show (Try.prog.info? 28).map (·.size) = some (bvs wblk).toArray.size
            simp [size28, bvs_length]; rfl
          have HZBl : Hid (ZB.length = 16) := by show ZB.length = 16; rw [← HZB.out, bvs_length, Hbl.out 0 (by omega)]
          have q13 : Hid (∀ W, Ciph W C KK → Calls Try.prog 13 #[.pointer (some ⟨C, 0, none⟩), .agg (bvs wblk).toArray] W fun e w' => e = .returned (.agg (bvs wout).toArray) ∧ Below W.heap.size W w') := fun W hW => by
            have h := block13 C KK wblk W hW HKl.out HK2.out rfl wblk_256
            rw [Hout.out] at h
            exact h
          have q20 : Hid (∀ b W, Rd W (some ⟨b, 0, none⟩) (bvs wout) → Calls Try.prog 20 #[.slice (some ⟨b, 0, none⟩) 16 16] W fun e w' => e = .returned (.string ⟨#[56, 101, 97, 50, 98, 55, 99, 97, 53, 49, 54, 55, 52, 53, 98, 102, 101, 97, 102, 99, 52, 57, 57, 48, 52, 98, 52, 57, 54, 48, 56, 57]⟩) ∧ Below W.heap.size W w') := fun b W hW => by
            have h := hex20 b 0 16 wout W hW (by decide) (by decide) (fun i => B256.getD (show B256 wout by unfold B256; decide +kernel) i)
            rw [wstr_eq] at h
            exact h
          have q8 : Hid (∀ W, Tabs W g → Calls Try.prog 8 #[.pointer (some ⟨g, 0, none⟩), .int .u8 0] W fun e w' => e = .returned (.int .u8 99) ∧ W = w') := fun W hW => box8 g 0 W hW (by decide)
          have Hl1 : Hid ((bvs wout).length = 16) := rfl
          have Ho1 := Lib.hid (bvs_one wout)
          clear Hkl Hbl Hkf Hbf Hks Hbs HKl HK2 Hout
          generalize bvs wout = OUT at *
          generalize bvs wblk = INB at *
          go_wp2_with (first
            | (refine wpList_load_row rfl 28 (.tmp 10) rfl Bb rfl 28 INB.toArray (0, 0) _ L0.out Try.underlying28 rfl Hsz.out ?_)
            | (go_at_call 13; refine (q13.out _ HC2.out).mono ?_; rintro e w5 ⟨rfl, hb5⟩; have Hb5 := Lib.hid hb5; clear hb5)
            | (refine st28 rfl (.tmp 12) (.tmp 57) rfl w5.heap.size OUT ZB rfl rfl (Blk.new w5 28 ZB) HZBl.out Hl1.out Ho1.out ?_; intro w6 hw1 hw2 hw3; have N0 := Lib.hid hw1; have Nb := Lib.hid (hw2 _ _ (ba (bt HB2.out Hb5.out) _) (bt HB2.out Hb5.out).size); have NT : Hid (Tabs w6 g) := hw3 _ _ _ (by have := (HT2.out.to Hb5.out).lt; omega) ((HT2.out.to Hb5.out).to (ba (b0 _) _)); clear hw1 hw2 hw3)
            | (go_at_call 20; refine (q20.out _ _ N0.out.rd).mono ?_; rintro e w7 ⟨rfl, hb7⟩; have Hb7 := Lib.hid hb7; clear hb7)
            | (go_at_call 8; refine (q8.out _ (NT.out.to Hb7.out)).mono ?_; rintro e w8 ⟨rfl, rfl⟩))
          go_ret
          exact ⟨rfl, bt Nb.out Hb7.out⟩
end Go.Proofs.Ytiaceoecilinkaa
