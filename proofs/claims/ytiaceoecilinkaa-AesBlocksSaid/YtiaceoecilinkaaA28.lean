/- The reference's roundKey. -/
import Derived.Test.YtiaceoecilinkaaA27
namespace Go.Proofs.Ytiaceoecilinkaa
open Go.RowKit
set_option linter.unusedSimpArgs false

theorem wds_snoc (L : List Wd) (a k : Nat) (h : a + k < L.length) : ((L.drop a).take (k + 1)).flatMap Wd.bs = ((L.drop a).take k).flatMap Wd.bs ++ (L.getD (a + k) .zero).bs := by
  have e : (L.drop a)[k]? = some (L.getD (a + k) .zero) := by
    rw [List.getElem?_drop]; simp [List.getD, h]
  rw [List.take_add_one, e]
  simp

theorem roundKey28 (A : Option Addr) (c : Nat) (L : List Wd) (S : List Value) (r : Nat) (w : World) (hS : S.length = 60) (hA : Rd w A S) (hR : RowsOk w S none L) (hL : L.length = 60) (hr : r < 15) :
    Calls Try.prog 28 #[.slice A 60 c, .int .i64 (r : Int)] w (BytRes w (((L.drop (4 * r)).take 4).flatMap Wd.bs)) := by
  obtain ⟨rb, ro, rfl, hrb, hrc⟩ := hA.at_ (by omega)
  have Hrc := Lib.hid hrc
  have HR := Lib.hid hR
  have HL := Lib.hid hL
  have Hs : Hid (∀ k, k < 4 → ((L.drop (4 * r)).take (k + 1)).flatMap Wd.bs = ((L.drop (4 * r)).take k).flatMap Wd.bs ++ (L.getD (4 * r + k) .zero).bs) := fun k hk => wds_snoc L _ _ (by omega)
  have Hz : Hid (((L.drop (4 * r)).take 0).flatMap Wd.bs = []) := rfl
  have Hl : Hid ((((L.drop (4 * r)).take 4).flatMap Wd.bs).length = 16) := by
    show (((L.drop (4 * r)).take 4).flatMap Wd.bs).length = 16
    rw [flat_len, List.length_take, List.length_drop, hL]; omega
  clear hA hrc hR hS hL
  generalize htk : (fun k => ((L.drop (4 * r)).take k).flatMap Wd.bs) = T at *
  have hT : ∀ k, ((L.drop (4 * r)).take k).flatMap Wd.bs = T k := fun k => by rw [← htk]
  rw [hT] at *
  simp only [hT] at Hs Hz
  clear hT htk
  have hr0 : (0 : Int) ≤ (r : Int) := by omega
  go_enter Try.func28, Try.ntmps28
  go_wp2_with fail
  go_loopw [5, 6] (fun o i wr => ∃ k : Nat, k ≤ 4 ∧ i = .int .i64 k ∧ Hid (wr.ownsRow w.heap.size 5 1 o (4 * k) (bvs (T k))) ∧ Hid (Below w.heap.size w wr)) (fun _ i _ => 4 - (intOf i).toNat)
  case atStart => exact ⟨0, by omega, rfl, by rw [Hz.out]; exact own_nil _ _ _, Below.refl _ _⟩
  case round =>
    obtain ⟨k, hk, rfl, HO, HB⟩ := hrel
    have hbase := HB.out.size
    by_cases hlt : k < 4
    · have hkz : (k : Int) < 4 := by omega
      have hk0 : (0 : Int) ≤ (k : Int) := by omega
      have HS := Lib.hid (Hs.out k hlt)
      obtain ⟨b, o, c', h1, _, h2, h3⟩ := HR.out (4 * r + k) (L.getD (4 * r + k) .zero) (by simp [List.getD, show 4 * r + k < L.length by rw [HL.out]; omega])
      have c1 : wr.cell? ⟨rb, ro + (4 * r + k), none⟩ = some (.slice (some ⟨b, o, none⟩) 4 c') := ((bcell HB.out).1 _ _ hrb).trans (Hrc.out _ _ h1)
      have Hm : Hid (Rd wr (some ⟨b, o, none⟩) (bvs (L.getD (4 * r + k) .zero).bs)) := Rd.below (.inr ⟨b, o, rfl, h3⟩) HB.out
      clear h1 h2 h3
      generalize L.getD (4 * r + k) .zero = v at *
      generalize T k = TK at *
      have hi1 : (4 * (r : Int) + (k : Int)) < 60 := by omega
      go_wp2_with (at_builtin; refine apA row27 rfl (.tmp 11) (.tmp 18) rfl w.heap.size _ (4 * k) (bvs TK) (bvs v.bs) rfl HO.out _ c' rfl (fun h => by cases h) Hm.out (bvs_one _) (by omega) (by show 4 ≤ 1000000; decide) hbase ?_; intro v2 w2 hown2 hb2; have Hown2 := Lib.hid hown2; clear hown2)
      go_roundw
      case rel => exact ⟨k + 1, by omega, by go_num, by rw [HS.out, ← bvs_append]; exact Hown2.out, HB.out.trans hb2⟩
      case measure => simp [intOf]; omega
    · have : k = 4 := by omega
      subst this
      obtain ⟨A2, c2, hv, h5, h6, h7⟩ := own_form HO.out
      subst hv
      go_wp2_with fail
      go_ret
      exact ⟨A2, c2, by rw [Hl.out]; rfl, by rw [Hl.out]; exact h5, h6, h7, HB.out⟩

theorem wds_key {key : List Nat} {r : Nat} : (((wl key 60).drop (4 * r)).take 4).flatMap Wd.bs = rk (KS key) r := by
  unfold rk KS
  have hd : ∀ (n : Nat) (M : List Wd), (M.drop n).flatMap Wd.bs = (M.flatMap Wd.bs).drop (4 * n) := by
    intro n
    induction n with
    | zero => intro M; rfl
    | succ n ih =>
      intro M
      cases M with
      | nil => simp
      | cons x t => rw [List.drop_succ_cons, ih, List.flatMap_cons, show 4 * (n + 1) = x.bs.length + 4 * n from by simp [Wd.bs]; omega, ← List.drop_drop, List.drop_left]
  have ht : ∀ (n : Nat) (M : List Wd), (M.take n).flatMap Wd.bs = (M.flatMap Wd.bs).take (4 * n) := by
    intro n
    induction n with
    | zero => intro M; simp
    | succ n ih =>
      intro M
      cases M with
      | nil => simp
      | cons x t => rw [List.take_succ_cons, List.flatMap_cons, List.flatMap_cons, ih, show 4 * (n + 1) = x.bs.length + 4 * n from by simp [Wd.bs]; omega, List.take_append, show x.bs.length + 4 * n - x.bs.length = 4 * n from by omega, List.take_of_length_le (l := x.bs) (Nat.le_add_right _ _)]
  rw [ht, hd]
  congr 1
  congr 1
  omega
end Go.Proofs.Ytiaceoecilinkaa
