/- same, behind. -/
import Derived.Test.YtmaaekahkeibnaaA12
import Derived.StillTailTactics
namespace Go.Proofs.Ytmaaekahkeibnaa
open Go.RowKit
set_option linter.unusedSimpArgs false

set_option maxHeartbeats 2000000 in
theorem same24 (w0 : World) (A B : Option Addr) (c d : Nat) (l : List Ver) (w : World) (hb0 : Below w0.heap.size w0 w) (hl : l.length ≤ 40) (hg : ∀ v ∈ l, v.good w0) (hA : Rd w A (fl l)) (hB : Rd w B (fl l)) :
    Calls Try.prog 24 #[.slice A l.length c, .slice B l.length d] w fun e w' => e = .returned (.bool true) ∧ Below w.heap.size w w' := by
  have Hg := Lib.hid hg
  have HA := Lib.hid hA
  have HB2 := Lib.hid hB
  have Hb0 := Lib.hid hb0
  clear hg hA hB hb0
  obtain ⟨n, hn⟩ : ∃ n, l.length = n := ⟨_, rfl⟩
  rw [hn] at hl ⊢
  have Hn : Hid (l.length = n) := hn
  clear hn
  have h1 : ((n : Int) == (n : Int)) = true := by simp
  go_enter Try.func24, Try.ntmps24
  go_wp2
  go_loopw [5] (fun i wr => ∃ k : Nat, k ≤ n ∧ i = .int .i64 k ∧ Hid (Below w.heap.size w wr)) (fun i _ => n - (intOf i).toNat)
  case atStart => exact ⟨0, Nat.zero_le _, rfl, Below.refl _ _⟩
  case round =>
    obtain ⟨k, hk, rfl, HB⟩ := hrel
    by_cases hlt : k < n
    · have hkl : k < l.length := by have := Hn.out; omega
      have hltz : (k : Int) < (n : Int) := by omega
      obtain ⟨b, o, rfl, hbl, hcv⟩ := (HA.out.below HB.out).ver k hkl
      obtain ⟨e0, e1, e2, e3, e4, e5, e6, e7, e8, e9, e10⟩ := ver_cells hcv
      obtain ⟨b', o', rfl, hbl', hcv'⟩ := (HB2.out.below HB.out).ver k hkl
      obtain ⟨f0, f1, f2, f3, f4, f5, f6, f7, f8, f9, f10⟩ := ver_cells hcv'
      clear hcv hcv'
      have q11 := Lib.hid (fun W (hb : Below w0.heap.size w0 W) => same11 w0 l[k] l[k] (Hg.out _ (List.getElem_mem hkl)) (Hg.out _ (List.getElem_mem hkl)) W hb)
      rw [sameVer_self] at q11
      have Hb1 : Hid (Below w0.heap.size w0 wr) := bt Hb0.out HB.out
      generalize l[k] = x at *
      obtain ⟨x0, x1, x2, x3, x4, x5, ⟨p6, q6, r6⟩, ⟨p7, q7, r7⟩, x8, ⟨p9, q9, r9⟩, ⟨p10, q10, r10⟩⟩ := x
      simp only [Ver.agg, Ver.cells] at e0 e1 e2 e3 e4 e5 e6 e7 e8 e9 e10 f0 f1 f2 f3 f4 f5 f6 f7 f8 f9 f10 q11
      go_wp2
      refine wp_region_below (by kernel_rfl) (by kernel_rfl) ?_
      repeat (first | go_big_quiet_skip | (go_big_quiet_want; apply Exists.intro; refine ⟨fun W hW => ?_, ?_⟩; (obtain ⟨hcW, hfW⟩ := bcell hW.out; go_simp; first | exact rfl | exact ⟨rfl, rfl⟩ | exact q_call hW (q11.out _ (bt Hb1.out hW.out))); go_big_quiet_on; go_simp))
      refine wpQuiet_nil ?_
      intro w2 hb2
      go_wp2
      go_roundw
      case rel => exact ⟨k + 1, by omega, by go_num, bt HB.out hb2.out⟩
      case measure => simp [intOf]; omega
    · have : k = n := by omega
      subst this
      go_wp2
      go_ret
      exact ⟨rfl, HB.out⟩

end Go.Proofs.Ytmaaekahkeibnaa
