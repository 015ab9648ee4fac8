/- New: a key's rounds. -/
import Derived.Test.YtiaceoecilinkaaA7
import Derived.Laws.CopyOwn
import Derived.Deep.RegionLaw
import Derived.Deep.RegionHeld3
import Derived.Deep.MidRow
namespace Go.Proofs.Ytiaceoecilinkaa
open Go.RowKit
set_option linter.unusedSimpArgs false

theorem zero50 (w : World) : Sem.run Try.prog (zeroValue 50) w = .ok (.agg (.pointer none :: zs 240).toArray) w := by kernel_rfl
theorem zero52 (w : World) : Sem.run Try.prog (zeroValue 52) w = .ok (.agg (wcs []).toArray) w := by kernel_rfl

set_option maxHeartbeats 1000000 in
theorem new12_nil (A : Option Addr) (n c : Nat) (w : World) : Calls Try.prog 12 #[.pointer none, .slice A n c] w fun e w' => e = .returned (.tuple #[.pointer none, .int .i64 1]) ∧ w = w' := by
  go_enter Try.func12, Try.ntmps12
  go_wp2_with fail
  go_ret2
  exact ⟨rfl, rfl⟩
set_option maxHeartbeats 1000000 in
theorem new12_len (g : Addr) (A : Option Addr) (n c : Nat) (w : World) (hn : n ≠ 32) : Calls Try.prog 12 #[.pointer (some g), .slice A n c] w fun e w' => e = .returned (.tuple #[.pointer none, .int .i64 17]) ∧ w = w' := by
  have h1 : ((n : Int) != 32) = true := by simp; omega
  clear hn
  go_enter Try.func12, Try.ntmps12
  go_wp2_with fail
  go_ret2
  exact ⟨rfl, rfl⟩

/-- A pointer to tables, and a key's rounds, in the midst of being laid. -/
def ccs (g : Nat) (bs : List Nat) : List Value := .pointer (some ⟨g, 0, none⟩) :: bvs bs
set_option maxRecDepth 100000 in
theorem rot32 (x : Wd) (h : x.ok) : bits .or .u32 (((x.n : Nat) : Int) * 256 % 4294967296) (((x.n : Nat) : Int) / 16777216) = ((w4 x.b x.c x.d x.a : Nat) : Int) := by
  obtain ⟨ha, hb, hc, hd⟩ := h
  have h1 : x.n * 256 % 4294967296 = x.b * 16777216 + x.c * 65536 + x.d * 256 := by unfold Wd.n w4; omega
  have h2 : x.n / 16777216 = x.a := by unfold Wd.n w4; omega
  have h3 := u32_or_nat (x.n * 256 % 4294967296) (x.n / 16777216) (by omega) (by omega)
  rw [show ((x.n : Nat) : Int) * 256 % 4294967296 = ((x.n * 256 % 4294967296 : Nat) : Int) from by omega, show ((x.n : Nat) : Int) / 16777216 = ((x.n / 16777216 : Nat) : Int) from by omega, h3, h1, h2,
    nat_join 8 _ x.a (by omega) (by omega)]
  rfl
theorem xor24 (x : Wd) (r : Nat) (hr : r < 256) : bits .xor .u32 ((w4 (sb x.b) (sb x.c) (sb x.d) (sb x.a) : Nat) : Int) ((r : Int) * 16777216) = (((x.mixr r).n : Nat) : Int) := by
  have h := w4_xor (sb x.b) (sb x.c) (sb x.d) (sb x.a) r 0 0 0 (sb_lt _) (sb_lt _) (sb_lt _) (by decide) (by decide) (by decide)
  have hl : w4 (sb x.b) (sb x.c) (sb x.d) (sb x.a) < 4294967296 := by
    have h1 := sb_lt x.b; have h2 := sb_lt x.c; have h3 := sb_lt x.d; have h4 := sb_lt x.a
    unfold w4; omega
  have h2 := u32_xor_nat _ (r * 16777216) hl (by omega)
  have e : r * 16777216 = w4 r 0 0 0 := by unfold w4; omega
  rw [show (r : Int) * 16777216 = ((r * 16777216 : Nat) : Int) from by omega, h2, e, h]
  simp [Wd.n, Wd.mixr]

/-- What New leaves: a pointer to the tables, and the rounds' keys, in a block of its own. -/
def NewRes (g : Nat) (key : List Nat) (w : World) (e : Ending) (w' : World) : Prop :=
  ∃ C, e = .returned (.tuple #[.pointer (some ⟨C, 0, none⟩), .int .i64 0]) ∧ w.heap.size ≤ C ∧ Below w.heap.size w w' ∧ Blk w' C 50 (ccs g ((wl key 60).flatMap Wd.bs))
/-- The first k words' bytes, noughts behind. -/
def kcs (L : List Wd) (k : Nat) : List Nat := (L.take k).flatMap Wd.bs ++ List.replicate (240 - 4 * k) 0
theorem putP_wd {x : Wd} (h : x.ok) : putP x.n 4 = x.bs := by
  obtain ⟨h1, h2, h3, h4⟩ := h
  have e0 : x.n / 16777216 % 256 = x.a := by unfold Wd.n w4; omega
  have e1 : x.n / 65536 % 256 = x.b := by unfold Wd.n w4; omega
  have e2 : x.n / 256 % 256 = x.c := by unfold Wd.n w4; omega
  have e3 : x.n / 1 % 256 = x.d := by unfold Wd.n w4; omega
  show [x.n / 16777216 % 256, x.n / 65536 % 256, x.n / 256 % 256, x.n / 1 % 256] = x.bs
  rw [e0, e1, e2, e3]; rfl

theorem ccs_splice (g : Nat) (K b : List Nat) (o : Nat) : splice (ccs g K) (1 + o) (bvs b) = ccs g (splice K o b) := by
  unfold splice ccs
  rw [Nat.add_comm 1 o, List.take_succ_cons, List.cons_append, bvs_length, show o + 1 + b.length = (o + b.length) + 1 from by omega, List.drop_succ_cons]
  simp [bvs]
theorem flat_len (L : List Wd) : (L.flatMap Wd.bs).length = 4 * L.length := by
  induction L with
  | nil => rfl
  | cons a t ih => simp [Wd.bs, ih]; omega
theorem kcs_len (L : List Wd) (k : Nat) (h : k ≤ L.length) (hk : k ≤ 60) : (kcs L k).length = 240 := by
  unfold kcs
  rw [List.length_append, flat_len, List.length_take, List.length_replicate]; omega
theorem kcs_succ (L : List Wd) (k : Nat) (h : k < L.length) (hk : k < 60) : kcs L (k + 1) = splice (kcs L k) (4 * k) (L.getD k .zero).bs := by
  have hl : ((L.take k).flatMap Wd.bs).length = 4 * k := by rw [flat_len, List.length_take]; omega
  have hb : (L.getD k .zero).bs.length = 4 := rfl
  unfold splice kcs
  rw [List.take_append_of_le_length (Nat.le_of_eq hl.symm), List.take_of_length_le (Nat.le_of_eq hl) (l := (L.take k).flatMap Wd.bs), hb, List.drop_append, hl, List.drop_of_length_le (by omega)]
  rw [List.take_succ_eq_append_getElem h, List.flatMap_append, List.append_assoc]
  simp only [List.flatMap_cons, List.flatMap_nil, List.append_nil, List.nil_append, List.drop_replicate]
  rw [show 4 * k + 4 - 4 * k = 4 from by omega, show 240 - 4 * (k + 1) = 240 - 4 * k - 4 from by omega]
  simp [List.getD, h]
theorem rd_pos {w : World} {A : Option Addr} {cs : List Value} (h : Rd w A cs) (hp : 0 < cs.length) : ∃ ad, A = some ad ∧ ∀ j v, cs[j]? = some v → w.cell? (ad.add j) = some v := by
  obtain ⟨b, o, rfl, _, hc⟩ := h.at_ hp
  exact ⟨_, rfl, fun j v hv => by rw [Addr.add_mid]; exact hc j v hv⟩

set_option maxRecDepth 100000 in
set_option maxHeartbeats 16000000 in
theorem new12 (g : Nat) (A : Option Addr) (c : Nat) (key : List Nat) (w : World) (ht : Tabs w g) (hA : Rd w A (bvs key)) (hk : key.length = 32) (hx : ∀ x ∈ key, x < 256) (hc : 32 ≤ c) :
    Calls Try.prog 12 #[.pointer (some ⟨g, 0, none⟩), .slice A 32 c] w (NewRes g key w) := by
  have h50 := zero50
  have h52 := zero52
  generalize hz5 : (zs 240) = Z5 at *
  generalize hz2 : wcs [] = Z2 at *
  have HZ5 := Lib.hid hz5
  have HZ2 := Lib.hid hz2
  have Ht := Lib.hid ht
  have Hok := Lib.hid (wl_ok hx)
  have Hlen := Lib.hid (wl_len key)
  have Hsnoc : Hid (∀ i, wl key (i + 1) = wl key i ++ [if i < 8 then kw key i else nx (wl key i) i]) := fun _ => rfl
  obtain ⟨kb, ko, rfl, hkb, hkc⟩ := hA.at_ (by rw [bvs_length]; omega)
  have Hkey : Hid (∀ i, i < 8 → ∀ W, Below w.heap.size w W → Calls Try.prog 21 #[.slice (some ⟨kb, ko + 4 * i, none⟩) 4 (c - 4 * i)] W fun e w' => e = .returned (.int .u64 ((kw key i).n : Nat)) ∧ W = w') := by
    intro i hi W hW
    have hg : ∀ j, j < 32 → key.getD j 0 < 256 := fun j hj => by
      simp only [List.getD, List.getElem?_eq_getElem (by omega : j < key.length), Option.getD_some]
      exact hx _ (List.getElem_mem _)
    have h := get21 (some ⟨kb, ko + 4 * i, none⟩) (c - 4 * i) [key.getD (4 * i) 0, key.getD (4 * i + 1) 0, key.getD (4 * i + 2) 0, key.getD (4 * i + 3) 0] W ?_ (by simp) (by
      intro x hx'
      simp only [List.mem_cons, List.not_mem_nil, or_false] at hx'
      rcases hx' with h | h | h | h <;> rw [h] <;> exact hg _ (by omega))
    · have e : getP [key.getD (4 * i) 0, key.getD (4 * i + 1) 0, key.getD (4 * i + 2) 0, key.getD (4 * i + 3) 0] = (kw key i).n := by
        simp only [getP, List.foldl_cons, List.foldl_nil, Wd.n, kw, w4]; omega
      rw [e] at h
      exact h
    · refine .inr ⟨kb, ko + 4 * i, rfl, fun j u hu => ?_⟩
      have hj : j < 4 := by have := (List.getElem?_eq_some_iff.1 hu).1; simpa [bvs] using this
      have h1 : W.cell? ⟨kb, ko + (4 * i + j), none⟩ = some (.int .u8 ((key.getD (4 * i + j) 0 : Nat) : Int)) := ((bcell hW).1 _ _ hkb).trans (hkc _ _ (bvs_getD (by omega)))
      rw [Nat.add_assoc, h1, ← hu]
      obtain rfl | rfl | rfl | rfl : j = 0 ∨ j = 1 ∨ j = 2 ∨ j = 3 := by omega
      all_goals simp [bvs, bv]
  have Hwl0 : Hid (wl key 0 = []) := rfl
  clear hz5 hz2 ht hA hkc hk
  generalize hV : wl key = V at *
  have HVV := Lib.hid hV
  clear hV
  go_enter Try.func12, Try.ntmps12
  go_upto_region 8 with fail
  clear h50 h52
  refine gen_world (G := fun W => Code.wp _ _ _ _ W) (I := fun W => Below w.heap.size w W ∧ Blk W w.heap.size 50 (ccs g (List.replicate 240 0)) ∧ Blk W (w.heap.size + 1) 52 (wcs [])) ⟨?_, ?_, ?_⟩ ?_
  · exact ba (ba (b0 _) _) _
  · have h : ccs g (List.replicate 240 0) = .pointer (some ⟨g, 0, none⟩) :: Z5 := by rw [← HZ5.out]; rfl
    rw [h]
    exact (Blk.new w 50 _).alloc _
  · rw [HZ2.out]
    have h := Blk.new (w.alloc (.cells (Value.pointer (some ⟨g, 0, none⟩) :: Z5).toArray 50)) 52 Z2
    simpa using h
  have hB1 : w.heap.size ≤ w.heap.size + 1 := by omega
  have h01 : w.heap.size ≠ w.heap.size + 1 := by omega
  have hgC : g ≠ w.heap.size := by have := Ht.out.lt; omega
  have hgB : g ≠ w.heap.size + 1 := by have := Ht.out.lt; omega
  generalize w.heap.size + 1 = B1 at *
  obtain ⟨C, hC⟩ : ∃ C, C = w.heap.size := ⟨_, rfl⟩
  have HC := Lib.hid hC
  rw [← hC] at hB1 h01 hgC
  rw [← hC]
  clear hC
  rintro W ⟨hb, k0, k1⟩
  have Hb := Lib.hid hb
  have K0 := Lib.hid k0
  have K1 := Lib.hid k1
  clear hb k0 k1 HZ2 HZ5
  go_wp2_with fail
  go_loopw [8, 21] (fun r i wr => ∃ k : Nat, k ≤ 60 ∧ i = .int .i64 k ∧ r = .int .u8 (rcon ((k + 7) / 8 - 1) : Nat) ∧ Hid (Below C w wr) ∧ Hid (Blk wr C 50 (ccs g (List.replicate 240 0))) ∧ Hid (Blk wr B1 52 (wcs (V k)))) (fun _ i _ => 60 - (intOf i).toNat)
  case atStart => exact ⟨0, by omega, rfl, rfl, Hb.out, K0.out, by rw [Hwl0.out]; exact K1.out⟩
  case round =>
    obtain ⟨k, hk, rfl, rfl, HB, L0, L1⟩ := hrel
    clear Hb K0 K1
    have hr := rcon_lt ((k + 7) / 8 - 1)
    by_cases hlt : k < 60
    · have HS := Lib.hid (Hsnoc.out k)
      have HL := Lib.hid (Hlen.out k)
      have HO := Lib.hid (Hok.out k)
      have HB' : Hid (Below w.heap.size w wr) := by
        have h := HB.out
        rw [HC.out] at h
        exact h
      have hsz : C ≤ wr.heap.size := by have h1 := HB.out.size; have h2 := HC.out; omega
      obtain ⟨u, hu⟩ : ∃ u, (wcs (V k))[k]? = some u := ⟨_, List.getElem?_eq_getElem (by rw [wcs_len _ (by rw [HL.out]; omega)]; omega)⟩
      have c1 : wr.cell? ⟨B1, k, none⟩ = some u := (L1.out.cell k).trans hu
      have f1 := L1.out.frozen k
      clear hu
      have hkz : (k : Int) < 60 := by omega
      have hk0 : (0 : Int) ≤ (k : Int) := by omega
      have hcz : (32 : Int) ≤ (c : Int) := by omega
      by_cases h8 : k < 8
      · have h8d : decide ((k : Int) < 8) = true := by simp <;> omega
        have h8z : (k : Int) < 8 := by omega
        have HV : Hid (V (k + 1) = V k ++ [kw key k]) := by
          have h := HS.out
          rw [if_pos h8] at h
          exact h
        have hn := Wd.n_lt (kw_ok hx k)
        have Hw := Lib.hid (wcs_snoc (V k) (kw key k) (by rw [HL.out]; omega))
        have q21 := Lib.hid (Hkey.out k h8 wr HB'.out)
        clear HS
        generalize (kw key k).n = x at *
        go_wp2_with (go_at_call 21; refine (q21.out).mono ?_; rintro e w' ⟨rfl, rfl⟩)
        go_roundw
        case rel => exact ⟨k + 1, by omega, by go_num, by rw [show (k + 1 + 7) / 8 - 1 = (k + 7) / 8 - 1 from by omega], HB.out.setCell (by simpa using hB1) _, L0.out.far (by simpa using h01) _, by rw [HV.out, ← Hw.out, HL.out]; exact L1.out.set_ _ _⟩
        case measure => simp [intOf]; omega
      · have h8d : decide ((k : Int) < 8) = false := by simp <;> omega
        have h8z : (8 : Int) ≤ (k : Int) := by omega
        have HV : Hid (V (k + 1) = V k ++ [nx (V k) k]) := by
          have h := HS.out
          rw [if_neg h8] at h
          exact h
        have Hw := Lib.hid (wcs_snoc (V k) (nx (V k) k) (by rw [HL.out]; omega))
        have cx : wr.cell? ⟨B1, k - 1, none⟩ = some (.int .u32 (((V k).getD (k - 1) .zero).n : Nat)) := (L1.out.cell _).trans (wcs_get (by rw [HL.out]; omega))
        have cy : wr.cell? ⟨B1, k - 8, none⟩ = some (.int .u32 (((V k).getD (k - 8) .zero).n : Nat)) := (L1.out.cell _).trans (wcs_get (by rw [HL.out]; omega))
        have HOx := Lib.hid (getD_ok HO.out (k - 1))
        have HOy := Lib.hid (getD_ok HO.out (k - 8))
        have Hnx : Hid (nx (V k) k = ((V k).getD (k - 8) .zero).xor (if k % 8 = 0 then ((V k).getD (k - 1) .zero).mixr (rcon (k / 8 - 1)) else if k % 8 = 4 then ((V k).getD (k - 1) .zero).sub else (V k).getD (k - 1) .zero)) := rfl
        generalize (V k).getD (k - 1) .zero = x at *
        generalize (V k).getD (k - 8) .zero = y at *
        clear HS
        have hyn := Wd.n_lt HOy.out
        have hxn := Wd.n_lt HOx.out
        by_cases hm0 : k % 8 = 0
        · have hm0d : ((k : Int) % 8 == 0) = true := by simp; omega
          have Hnz : Hid (nx (V k) k = y.xor (x.mixr (rcon ((k + 7) / 8 - 1)))) := by
            have h := Hnx.out
            rw [if_pos hm0, show k / 8 - 1 = (k + 7) / 8 - 1 from by omega] at h
            exact h
          have hrot := rot32 x HOx.out
          have h24 := xor24 x (rcon ((k + 7) / 8 - 1)) hr
          have hyx := Wd.n_xor HOy.out (Wd.mixr_ok x hr)
          have q22 := Lib.hid (fun W ht => word22 g x.b x.c x.d x.a W ht HOx.out.2.1 HOx.out.2.2.1 HOx.out.2.2.2 HOx.out.1)
          have q18 := Lib.hid (fun W => dbl18 (rcon ((k + 7) / 8 - 1)) W hr)
          have Hr1 : Hid (rcon ((k + 1 + 7) / 8 - 1) = dbl (rcon ((k + 7) / 8 - 1))) := by
            show rcon ((k + 1 + 7) / 8 - 1) = dbl (rcon ((k + 7) / 8 - 1))
            rw [show (k + 1 + 7) / 8 - 1 = ((k + 7) / 8 - 1) + 1 from by omega]; rfl
          have hxn2 := Wd.n_lt (Wd.mixr_ok x hr)
          generalize rcon ((k + 7) / 8 - 1) = r at *
          generalize nx (V k) k = z at *
          generalize x.mixr r = xm at *
          generalize hres : (y.xor xm).n = res at *
          have Hres := Lib.hid hres
          clear hres
          clear Hnx
          go_wp2_with (first
            | (go_at_call 22; refine (q22.out _ (Ht.out.to HB'.out)).mono ?_; rintro e w1 ⟨rfl, hb1⟩; have Hb1 := Lib.hid hb1; have cy1 : w1.cell? ⟨B1, k - 8, none⟩ = _ := ((bcell hb1).1 _ _ L1.out.lt).trans cy; have c11 : w1.cell? ⟨B1, k, none⟩ = _ := ((bcell hb1).1 _ _ L1.out.lt).trans c1; have f11 : w1.frozen? ⟨B1, k, none⟩ = _ := ((bcell hb1).2 _ _ L1.out.lt).trans f1; clear hb1)
            | (go_at_call 18; refine (q18.out _).mono ?_; rintro e w2 ⟨rfl, rfl⟩))
          go_roundw
          case rel => exact ⟨k + 1, by omega, by go_num, by rw [Hr1.out], (HB.out.trans (Hb1.out.mono hsz)).setCell (by simpa using hB1) _, (L0.out.to Hb1.out).far (by simpa using h01) _, by rw [HV.out, ← Hw.out, HL.out, Hnz.out, Hres.out]; exact (L1.out.to Hb1.out).set_ _ _⟩
          case measure => simp [intOf]; omega
        · have hm0d : ((k : Int) % 8 == 0) = false := by simp; omega
          have Hr1 : Hid (rcon ((k + 1 + 7) / 8 - 1) = rcon ((k + 7) / 8 - 1)) := by
            show rcon ((k + 1 + 7) / 8 - 1) = rcon ((k + 7) / 8 - 1)
            rw [show (k + 1 + 7) / 8 - 1 = (k + 7) / 8 - 1 from by omega]
          by_cases hm4 : k % 8 = 4
          · have hm4d : ((k : Int) % 8 == 4) = true := by simp; omega
            have Hnz : Hid (nx (V k) k = y.xor x.sub) := by
              have h := Hnx.out
              rw [if_neg hm0, if_pos hm4] at h
              exact h
            have hyx := Wd.n_xor HOy.out (Wd.sub_ok x)
            have q22 : Hid (∀ W, Tabs W g → Calls Try.prog 22 #[.pointer (some ⟨g, 0, none⟩), .int .u32 (x.n : Nat)] W fun e w' => e = .returned (.int .u32 (x.sub.n : Nat)) ∧ Below W.heap.size W w') :=
              fun W ht => word22 g x.a x.b x.c x.d W ht HOx.out.1 HOx.out.2.1 HOx.out.2.2.1 HOx.out.2.2.2
            have hxn2 := Wd.n_lt (Wd.sub_ok x)
            generalize rcon ((k + 7) / 8 - 1) = r at *
            generalize nx (V k) k = z at *
            generalize x.sub = xm at *
            generalize hres : (y.xor xm).n = res at *
            have Hres := Lib.hid hres
            clear hres Hnx
            go_wp2_with (go_at_call 22; refine (q22.out _ (Ht.out.to HB'.out)).mono ?_; rintro e w1 ⟨rfl, hb1⟩; have Hb1 := Lib.hid hb1; have cy1 : w1.cell? ⟨B1, k - 8, none⟩ = _ := ((bcell hb1).1 _ _ L1.out.lt).trans cy; have c11 : w1.cell? ⟨B1, k, none⟩ = _ := ((bcell hb1).1 _ _ L1.out.lt).trans c1; have f11 : w1.frozen? ⟨B1, k, none⟩ = _ := ((bcell hb1).2 _ _ L1.out.lt).trans f1; clear hb1)
            go_roundw
            case rel => exact ⟨k + 1, by omega, by go_num, by rw [Hr1.out], (HB.out.trans (Hb1.out.mono hsz)).setCell (by simpa using hB1) _, (L0.out.to Hb1.out).far (by simpa using h01) _, by rw [HV.out, ← Hw.out, HL.out, Hnz.out, Hres.out]; exact (L1.out.to Hb1.out).set_ _ _⟩
            case measure => simp [intOf]; omega
          · have hm4d : ((k : Int) % 8 == 4) = false := by simp; omega
            have Hnz : Hid (nx (V k) k = y.xor x) := by
              have h := Hnx.out
              rw [if_neg hm0, if_neg hm4] at h
              exact h
            have hyx := Wd.n_xor HOy.out HOx.out
            generalize rcon ((k + 7) / 8 - 1) = r at *
            generalize nx (V k) k = z at *
            generalize hres : (y.xor x).n = res at *
            have Hres := Lib.hid hres
            clear hres Hnx
            go_wp2_with fail
            go_roundw
            case rel => exact ⟨k + 1, by omega, by go_num, by rw [Hr1.out], (HB.out).setCell (by simpa using hB1) _, (L0.out).far (by simpa using h01) _, by rw [HV.out, ← Hw.out, HL.out, Hnz.out, Hres.out]; exact (L1.out).set_ _ _⟩
            case measure => simp [intOf]; omega
    · have : k = 60 := by omega
      subst this
      have HL := Lib.hid (Hlen.out 60)
      have HO := Lib.hid (Hok.out 60)
      generalize rcon _ = r60 at *
      have HV60 : Hid (∀ n, n = 60 → wl key n = V 60) := fun n hn => by rw [hn, HVV.out]
      clear HVV
      generalize V 60 = L at *
      have HR : Hid (wr.rangeAt B1 0 (wcs L)) := fun j v hv => by rw [Nat.zero_add, L1.out.cell, hv]
      have Hi52 : Hid ((Try.prog.info? 52).map (·.size) = some (wcs L).length) := by
        show (Try.prog.info? 52).map (·.size) = some (wcs L).length
        rw [wcs_len L (by rw [HL.out]; omega)]; kernel_rfl
      have Hidx : Hid (∀ j : Nat, j < 60 → ∀ W, Sem.run Try.prog (Instr.index 52 (.agg (wcs L).toArray) (.int .i64 (j : Int))) W = .ok (.int .u32 ((L.getD j .zero).n : Nat)) W) :=
        fun j hj W => index52 (wcs L) j _ hj (wcs_get (by rw [HL.out]; omega)) W
      have M0 : Hid (Blk wr C 50 (ccs g (kcs L 0))) := by
        have h : kcs L 0 = List.replicate 240 0 := by simp [kcs]
        show Blk wr C 50 (ccs g (kcs L 0))
        rw [h]; exact L0.out
      clear Hsnoc Hok Hlen Hwl0 Hkey L0 L1
      generalize wcs L = CS at *
      go_wp2_with (refine wpList_load_mid rfl 52 (.tmp 7) rfl B1 0 rfl CS _ HR.out Try.underlying52 rfl Hi52.out ?_)
      go_loopw [73] (fun i wr => ∃ k : Nat, k ≤ 60 ∧ i = .int .i64 k ∧ Hid (Below C w wr) ∧ Hid (Blk wr C 50 (ccs g (kcs L k)))) (fun i _ => 60 - (intOf i).toNat)
      case atStart => exact ⟨0, by omega, rfl, HB.out, M0.out⟩
      case round =>
        obtain ⟨k, hk, rfl, HB, M⟩ := hrel
        by_cases hlt : k < 60
        · have hidx := Hidx.out k hlt
          have hkz : (k : Int) < 60 := by omega
          have hk0 : (0 : Int) ≤ (k : Int) := by omega
          have hok := getD_ok HO.out k
          have hn := Wd.n_lt hok
          have hput : Hid (∀ W, Calls Try.prog 23 #[.int .u64 ((L.getD k .zero).n : Int), .int .i64 4] W fun e w' => ∃ A c, e = .returned (.slice A 4 c) ∧ Rd w' A (bvs (L.getD k .zero).bs) ∧ Below W.heap.size W w') := fun W => by
            have h := put23 (L.getD k .zero).n 4 W (by omega) (by omega)
            rw [putP_wd hok] at h
            exact h.mono fun e w' ⟨A, c, h1, _, _, h2, h3⟩ => ⟨A, c, h1, h2, h3⟩
          have HK : Hid (kcs L (k + 1) = splice (kcs L k) (4 * k) (L.getD k .zero).bs) := kcs_succ L k (by rw [HL.out]; omega) (by omega)
          have hkl : (kcs L k).length = 240 := kcs_len L k (by rw [HL.out]; omega) (by omega)
          have Hkl := Lib.hid hkl
          clear hkl
          generalize L.getD k .zero = x at *
          go_upto_region 25 with fail
          clear hidx
          obtain ⟨q, hq⟩ : ∃ q, q = k / 4 := ⟨_, rfl⟩
          obtain ⟨m, hm⟩ : ∃ m, m = k % 4 := ⟨_, rfl⟩
          have e0 : (k : Int) / 4 = (q : Int) := by omega
          have e1 : IntKind.i64.wrap (q : Int) = (q : Int) := IntWalk.i64_in _ (by omega)
          have e5 : IntKind.i64.wrap (m : Int) = (m : Int) := IntWalk.i64_in _ (by omega)
          have e2 : (k : Int) % 4 = (m : Int) := by omega
          have e3 : (k : Int).tmod 4 = (m : Int) := by rw [Int.tmod_eq_emod_of_nonneg (by omega)]; exact e2
          have e4 : IntKind.i64.wrap (4 * (m : Int)) = 4 * (m : Int) := IntWalk.i64_in _ (by omega)
          have q0 : (0 : Int) ≤ (q : Int) := by omega
          have q1 : (q : Int) < 15 := by omega
          have m0 : (0 : Int) ≤ 4 * (m : Int) := by omega
          have m1 : 4 * (m : Int) ≤ 16 := by omega
          have m2 : 4 * (m : Int) < 16 := by omega
          have m3 : (4 * (m : Int)).toNat = 4 * m := by omega
          have m4 : (4 * m = 16) = False := by simp; omega
          have Hq := Lib.hid hq
          have Hm := Lib.hid hm
          clear hq hm
          have hsz : C ≤ wr.heap.size := by have h1 := HB.out.size; have h2 := HC.out; omega
          have e6 : IntKind.u64.wrap (x.n : Int) = (x.n : Int) := by rw [IntKind.wrap_u64]; omega
          have hoff : 1 + q * 16 + 4 * m = 1 + 4 * k := by have := Hq.out; have := Hm.out; omega
          have Hoff := Lib.hid hoff
          clear hoff
          have Hlen4 : Hid ((bvs x.bs).length = Nat.min 4 (16 - 4 * m)) := by
            show 4 = Nat.min 4 (16 - 4 * m)
            exact (Nat.min_eq_left (by omega)).symm
          have Hfit : Hid (1 + q * 16 + 4 * m + (bvs x.bs).length ≤ (ccs g (kcs L k)).length) := by
            show 1 + q * 16 + 4 * m + 4 ≤ (ccs g (kcs L k)).length
            rw [Hoff.out]
            simp only [ccs, List.length_cons, bvs_length, Hkl.out]; omega
          have H5 : Hid ((Try.prog.info? 5).map (·.size) = some 1) := by show (Try.prog.info? 5).map (·.size) = some 1; kernel_rfl
          generalize hcur : ccs g (kcs L k) = cur at *
          have Hcur := Lib.hid hcur
          clear hcur
          generalize hxb : bvs x.bs = xb at *
          have Hxb := Lib.hid hxb
          have Hone : Hid (∀ v ∈ xb, v.oneCell' = true) := by rw [← hxb]; exact bvs_one _
          clear hxb
          go_region_held3 (fun _ => True) (trivial) (first
            | (go_at_call 23; refine (hput.out _).mono ?_; rintro e w1 ⟨A1, c1, rfl, hr1, hb1⟩; have HM1 : Hid (Blk w1 C 50 cur) := Blk.to (Blk.drew M.out) hb1; have HB1 : Hid (Below C w w1) := (HB.out.drew).trans (hb1.mono hsz); have Hr1 := Lib.hid hr1; clear hb1 hr1)
            | (refine step_copy_splice rfl (.tmp 86) (.tmp 89) 27 27 rfl 5 Try.underlying27 H5.out _ _ _ _ _ _ rfl rfl C (1 + q * 16 + 4 * m) cur 50 HM1.out xb Hlen4.out (fun hp => ⟨rfl, rd_pos Hr1.out hp⟩) Hfit.out Hone.out C w HB1.out (Nat.le_refl _) ?_; intro w2 HG2 hB2))
          have HM2 : Hid (Blk w2 C 50 (ccs g (kcs L (k + 1)))) := by
            have h := HG2.out
            rw [Hoff.out, ← Hcur.out, ← Hxb.out, ccs_splice, ← HK.out] at h
            exact h
          have HB2 := Lib.hid hB2
          clear hB2 HG2
          go_wp2_with fail
          go_roundw
          case rel => exact ⟨k + 1, by omega, by go_num, HB2.out, HM2.out⟩
          case measure => simp [intOf]; omega
        · have : k = 60 := by omega
          subst this
          have Hfin : Hid (kcs L 60 = L.flatMap Wd.bs) := by
            show kcs L 60 = L.flatMap Wd.bs
            unfold kcs
            rw [List.take_of_length_le (by rw [HL.out]; exact Nat.le_refl _)]
            simp
          go_wp2_with fail
          go_ret2
          exact ⟨C, rfl, by rw [HC.out]; exact Nat.le_refl _, by have h := HB.out; rw [HC.out] at h; exact h, by rw [HV60.out 60 rfl, ← Hfin.out]; exact M.out⟩
end Go.Proofs.Ytiaceoecilinkaa
