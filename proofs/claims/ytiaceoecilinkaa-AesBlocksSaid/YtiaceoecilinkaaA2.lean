/- Build: the tables. -/
import Derived.Test.YtiaceoecilinkaaA1
import Derived.Outline
import Derived.Deep.RegionHeld3
import Derived.Deep.RegionWith
import Derived.Deep.DeepCutAuto
namespace Go.Proofs.Ytiaceoecilinkaa
open Go.RowKit
set_option linter.unusedSimpArgs false

theorem sfv {o a b x : Nat} {A B : Int} (hx : x = o ^^^ (a ||| b)) (ha : A = (a : Int)) (hb : B = (b : Int)) (ho : o < 256) (h1 : a < 256) (h2 : b < 256) : Value.int .u8 (bits .xor .u8 (o : Int) (bits .or .u8 A B)) = .int .u8 (x : Int) := by
  rw [ha, hb, u8_or_nat a b h1 h2, u8_xor_nat o _ ho (Nat.or_lt_two_pow (n := 8) h1 h2), hx]

/-- What Build leaves: the tables in a block of their own. -/
def Tabs (w : World) (g : Nat) : Prop := Blk w g 45 (bvs (boxLit ++ (List.range 256).map dbl))
theorem Tabs.to {w w' : World} {g : Nat} (h : Tabs w g) (hb : Below w.heap.size w w') : Tabs w' g := Blk.to h hb

set_option maxRecDepth 100000 in
set_option maxHeartbeats 4000000 in
theorem build7 (w : World) : Calls Try.prog 7 #[] w fun e w' => ∃ g, e = .returned (.pointer (some ⟨g, 0, none⟩)) ∧ w.heap.size ≤ g ∧ Below w.heap.size w w' ∧ Tabs w' g := by
  have TL : Hid (∀ i, tabL (i + 1) = ((tabL i).set (256 + i) (dbl i)).set i (sf (inv_ i) 5)) := fun _ => rfl
  have h45 := zero45
  have h43 := zero43
  have h46 := zero46
  generalize hz5 : zs 512 = Z5 at *
  generalize hz2 : zs 256 = Z2 at *
  generalize hzi : ivs (List.replicate 256 0) = ZI at *
  have Hz2 := Lib.hid hz2
  have HZ5 := Lib.hid hz5
  have HzI := Lib.hid hzi
  clear hz2 hzi hz5
  go_enter Try.func7, Try.ntmps7
  go_upto_region 4 with fail
  clear h45 h43 h46
  refine gen_world (G := fun W => Code.wp _ _ _ _ W) (I := fun W => Below w.heap.size w W ∧ Blk W w.heap.size 45 Z5 ∧ Blk W (w.heap.size + 1) 43 Z2 ∧ Blk W (w.heap.size + 1 + 1) 46 ZI) ⟨?_, ?_, ?_, ?_⟩ ?_
  · exact ba (ba (ba (b0 _) _) _) _
  · exact ((Blk.new w 45 Z5).alloc _).alloc _
  · have h := (Blk.new (w.alloc (.cells Z5.toArray 45)) 43 Z2).alloc (.cells ZI.toArray 46); simpa using h
  · have h := Blk.new ((w.alloc (.cells Z5.toArray 45)).alloc (.cells Z2.toArray 43)) 46 ZI; simpa using h
  have hB0 : w.heap.size ≤ w.heap.size := Nat.le_refl _
  have hB1 : w.heap.size ≤ w.heap.size + 1 := by omega
  have hB2 : w.heap.size ≤ w.heap.size + 1 + 1 := by omega
  have h01 : w.heap.size ≠ w.heap.size + 1 := by omega
  have h02 : w.heap.size ≠ w.heap.size + 1 + 1 := by omega
  have h12 : w.heap.size + 1 ≠ w.heap.size + 1 + 1 := by omega
  generalize w.heap.size + 1 + 1 = B2 at *
  generalize w.heap.size + 1 = B1 at *
  generalize hB : w.heap.size = B0 at *
  have HB := Lib.hid hB
  clear hB
  rintro W ⟨hb, k0, k1, k2⟩
  have Hb := Lib.hid hb
  have K0 := Lib.hid k0
  have K1 := Lib.hid k1
  have K2 := Lib.hid k2
  clear hb k0 k1 k2
  go_wp2_with fail
  go_loopw [4, 13] (fun x c wr => ∃ k : Nat, k ≤ 255 ∧ c = .int .i64 k ∧ x = .int .u8 (pw k : Nat) ∧ Hid (Below B0 w wr) ∧ Hid (Blk wr B0 45 Z5) ∧ Hid (Blk wr B1 43 (bvs (powL k))) ∧ Hid (Blk wr B2 46 (ivs (logL k)))) (fun _ c _ => 255 - (intOf c).toNat)
  case atStart => exact ⟨0, by omega, rfl, rfl, Hb.out, K0.out, by have := K1.out; rw [← Hz2.out] at this; exact this, by have := K2.out; rw [← HzI.out] at this; exact this⟩
  case round =>
    obtain ⟨k, hk, rfl, rfl, HB', L0, L1, L2⟩ := hrel
    clear Hb K0 K1 K2
    have hpl := pw_lt k
    by_cases hlt : k < 255
    · have hkz : (k : Int) < 255 := by omega
      obtain ⟨u, hu⟩ : ∃ u, (bvs (powL k))[k]? = some u := ⟨_, List.getElem?_eq_getElem (by rw [bvs_length, powL_length]; omega)⟩
      obtain ⟨u', hu'⟩ : ∃ u, (ivs (logL k))[pw k]? = some u := ⟨_, List.getElem?_eq_getElem (by simp [ivs, logL_length]; omega)⟩
      have c1 : wr.cell? ⟨B1, k, none⟩ = some u := (L1.out.cell k).trans hu
      have f1 := L1.out.frozen k
      have c2 : wr.cell? ⟨B2, pw k, none⟩ = some u' := (L2.out.cell _).trans hu'
      have f2 := L2.out.frozen (pw k)
      have Hx : Hid (bits .xor .u8 (pw k : Int) (dbl (pw k) : Int) = ((pw (k + 1) : Nat) : Int)) := u8_xor_nat (pw k) (dbl (pw k)) hpl (dbl_lt _)
      have M1 : Hid (powL (k + 1) = (powL k).set k (pw k)) := rfl
      have M2 : Hid (logL (k + 1) = (logL k).set (pw k) k) := rfl
      clear hu hu'
      generalize pw k = x at *
      generalize powL k = P at *
      generalize logL k = L at *
      have hx0 : (0 : Int) ≤ (x : Int) := by omega
      have hx1 : (x : Int) < 256 := by omega
      go_wp2_with (go_at_call 18; refine (dbl18 x _ hpl).mono ?_; rintro e w' ⟨rfl, rfl⟩)
      go_roundw
      case rel => exact ⟨k + 1, by omega, by go_num, by rw [Hx.out], (HB'.out.setCell (by simpa using hB1) _).setCell (by simpa using hB2) _, (L0.out.far (by simpa using h01) _).far (by simpa using h02) _,
        by rw [M1.out, ← bvs_set]; exact (L1.out.set_ _ _).far (by simpa using h12) _,
        by rw [M2.out, ← ivs_set]; exact (L2.out.far (by simpa using h12.symm) _).set_ _ _⟩
      case measure => simp [intOf]; omega
    · have : k = 255 := by omega
      subst this
      rw [powL_lit] at L1
      rw [logL_lit] at L2
      have Q0 : Hid (Blk wr B0 45 (bvs (tabL 0))) := by rw [← HZ5.out] at L0; exact L0
      clear L0 HZ5 Hz2 HzI
      obtain ⟨wo, rfl⟩ : ∃ wo : World, wo = wr := ⟨_, rfl⟩
      generalize pw 255 = x255 at *
      go_wp2_with fail
      go_loopw [27] (fun c wr => ∃ i : Nat, i ≤ 256 ∧ c = .int .i64 i ∧ Hid (Below B0 w wr) ∧ Hid (Blk wr B0 45 (bvs (tabL i))) ∧ Hid (Blk wr B1 43 (bvs powLit)) ∧ Hid (Blk wr B2 46 (ivs logLit))) (fun c _ => 256 - (intOf c).toNat)
      case atStart => exact ⟨0, by omega, rfl, HB'.out, Q0.out, L1.out, L2.out⟩
      case round =>
        obtain ⟨i, hi, rfl, HC, K0, K1, K2⟩ := hrel
        clear HB' Q0 L1 L2
        by_cases hlt : i < 256
        · have hiz : (i : Int) < 256 := by omega
          have hi0 : (0 : Int) ≤ (i : Int) := by omega
          obtain ⟨u, hu⟩ : ∃ u, (bvs (tabL i))[256 + i]? = some u := ⟨_, List.getElem?_eq_getElem (by rw [bvs_length, tabL_length]; omega)⟩
          have c0 : wr.cell? ⟨B0, 256 + i, none⟩ = some u := (K0.out.cell _).trans hu
          have f0 := K0.out.frozen (256 + i)
          clear hu
          go_upto_region 15 with fail
          go_region_with (go_at_call 18; refine (dbl18 i _ hlt).mono ?_; rintro e w' ⟨rfl, rfl⟩)
          refine gen_world (G := fun W => Exit.then _ _ _ _ W) (I := fun W => Below B0 w W ∧ Blk W B0 45 (bvs ((tabL i).set (256 + i) (dbl i))) ∧ Blk W B1 43 (bvs powLit) ∧ Blk W B2 46 (ivs logLit)) ⟨?_, ?_, ?_, ?_⟩ ?_
          · exact (HC.out.setCell (Nat.le_refl _) _).drew
          · rw [← bvs_set]; exact (K0.out.set_ _ _).drew
          · exact (K1.out.far (by simpa using h01.symm) _).drew
          · exact (K2.out.far (by simpa using h02.symm) _).drew
          clear HC K0 K1 K2 c0 f0
          rintro W2 ⟨hc, k0, k1, k2⟩
          have HC := Lib.hid hc
          have K0 := Lib.hid k0
          have K1 := Lib.hid k1
          have K2 := Lib.hid k2
          clear hc k0 k1 k2
          obtain ⟨l, hl, hl2⟩ : ∃ l, logLit[i]? = some l ∧ l < 255 := by
            have h : i < logLit.length := Nat.lt_of_lt_of_eq hlt rfl
            exact ⟨logLit[i], List.getElem?_eq_getElem h, logLit_lt _ (List.getElem_mem h)⟩
          obtain ⟨q, hq, hq2⟩ : ∃ q, powLit[(255 - l) % 255]? = some q ∧ q < 256 := by
            have h : (255 - l) % 255 < powLit.length := Nat.lt_of_lt_of_eq (show (255 - l) % 255 < 256 by omega) rfl
            exact ⟨powLit[(255 - l) % 255], List.getElem?_eq_getElem h, powLit_lt _ (List.getElem_mem h)⟩
          have Hinv : Hid (inv_ i = if i = 0 then 0 else q) := by
            show inv_ i = if i = 0 then 0 else q
            unfold inv_
            simp [List.getD, hl, hq]
          have c2 : W2.cell? ⟨B2, i, none⟩ = some (.int .i64 (l : Nat)) := (K2.out.cell i).trans (by simp [ivs, iv, hl])
          have c1 : W2.cell? ⟨B1, (-(l : Int) % 255).toNat, none⟩ = some (.int .u8 (q : Nat)) := by
            rw [show (-(l : Int) % 255).toNat = (255 - l) % 255 from by omega]
            exact (K1.out.cell _).trans (by simp [bvs, bv, hq])
          clear hl hq
          have hl3 : (l : Int) < 255 := by omega
          go_upto_if 40 with fail
          go_cut [8] (fun s8 wx => s8 = .int .u8 (inv_ i : Nat) ∧ wx = W2)
          case first =>
            by_cases h0 : i = 0
            · subst h0
              go_wp2_with fail
              go_meet
              exact ⟨by rw [Hinv.out]; rfl, rfl⟩
            · have h0b : ((i : Int) != 0) = true := by simp; omega
              have Hi : Hid (inv_ i = q) := by
                show inv_ i = q
                rw [Hinv.out, if_neg h0]
              clear h0
              go_wp2_with fail
              go_meet
              exact ⟨by rw [Hi.out], rfl⟩
          case rest =>
            obtain ⟨rfl, rfl⟩ := hcut
            have hv : inv_ i < 256 := by rw [Hinv.out]; split <;> omega
            have Hsf : ∀ k, sf (inv_ i) k < 256 := sf_lt _ hv
            have Hst : Hid (∀ k, sf (inv_ i) (k + 1) = sf (inv_ i) k ^^^ ((inv_ i * 2 ^ k % 256) ||| (inv_ i / 2 ^ (8 - k)))) := fun k => rfl
            clear c1 c2 hl2 hl3 hq2 Hinv
            have Hs0 : Hid (sf (inv_ i) 0 = 99) := rfl
            generalize hv0 : inv_ i = v at *
            have Hv := Lib.hid hv0
            clear hv0
            go_wp2_with fail
            go_loopw [9, 48] (fun o c wr => ∃ k : Nat, k ≤ 5 ∧ c = .int .i64 k ∧ o = .int .u8 (sf v k : Nat) ∧ Hid (Below B0 w wr) ∧ Hid (Blk wr B0 45 (bvs ((tabL i).set (256 + i) (dbl i)))) ∧ Hid (Blk wr B1 43 (bvs powLit)) ∧ Hid (Blk wr B2 46 (ivs logLit))) (fun _ c _ => 5 - (intOf c).toNat)
            case atStart => exact ⟨0, by omega, rfl, by rw [Hs0.out]; rfl, HC.out, K0.out, K1.out, K2.out⟩
            case round =>
              obtain ⟨k, hk, rfl, rfl, HD, L0, L1, L2⟩ := hrel
              clear HC K0 K1 K2
              have ho := Hsf k
              by_cases hk5 : k < 5
              · have HstK := Lib.hid (Hst.out k)
                have ho' := Hsf k
                obtain rfl | rfl | rfl | rfl | rfl : k = 0 ∨ k = 1 ∨ k = 2 ∨ k = 3 ∨ k = 4 := by omega
                all_goals
                  go_wp2_with fail
                  go_quiet (fail)
                  go_wp2_with fail
                  go_roundw
                  case rel => exact ⟨_, by omega, by first | rfl | go_num, sfv HstK.out (by omega) (by omega) ho (by omega) (by omega), dn HD.out _, L0.out.drewN _, L1.out.drewN _, L2.out.drewN _⟩
                  case measure => simp [intOf]
              · have : k = 5 := by omega
                subst this
                have HSl : Hid ((tabL i).length = 512) := tabL_length i
                generalize hso : sf v 5 = o at *
                have Hso := Lib.hid hso
                clear hso
                obtain ⟨u2, hu2⟩ : ∃ u, (bvs ((tabL i).set (256 + i) (dbl i)))[i]? = some u := ⟨_, List.getElem?_eq_getElem (by rw [bvs_length, List.length_set, HSl.out]; omega)⟩
                have c0 : wr.cell? ⟨B0, i, none⟩ = some u2 := (L0.out.cell _).trans hu2
                have f0 := L0.out.frozen i
                clear hu2
                go_wp2_with fail
                go_roundw
                case rel => (repeat apply Exists.intro); exact ⟨⟨i + 1, by omega, by go_num, HD.out.setCell (Nat.le_refl _) _, by rw [TL.out i, Hv.out, Hso.out, ← bvs_set]; exact L0.out.set_ _ _, L1.out.far (by simpa using h01.symm) _, L2.out.far (by simpa using h02.symm) _⟩, rfl⟩
                case measure => simp [intOf]; omega
        · have : i = 256 := by omega
          subst this
          go_wp2_with fail
          go_ret
          exact ⟨B0, rfl, by rw [HB.out]; exact Nat.le_refl _, by rw [HB.out]; exact HC.out, by unfold Tabs; rw [← tab_lit]; exact K0.out⟩
end Go.Proofs.Ytiaceoecilinkaa
