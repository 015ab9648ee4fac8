/- AesBoxes, AesKeys: what the statements' functions answer. -/
import Derived.Test.YtiaceoecilinkaaA15
import Derived.Test.YtiaceoecilinkaaA4
namespace Go.Proofs.Ytiaceoecilinkaa
open Go.RowKit
set_option linter.unusedSimpArgs false

set_option maxHeartbeats 4000000 in
theorem boxes3 (c : Nat) (w : World) (hc : c < 256) : Calls Try.prog 3 #[.int .u8 (c : Int)] w fun e w' => e = .returned (.bool true) ∧ Below w.heap.size w w' := by
  have q9 := Lib.hid (fun W => rbox9 c W hc)
  have q8 := Lib.hid (fun g W ht => box8 g c W ht hc)
  generalize sb c = s at *
  have hss : ((s : Int) == (s : Int)) = true := by simp
  go_enter Try.func3, Try.ntmps3
  go_wp2_with (first
    | (go_at_call 7; refine (build7 _).mono ?_; rintro e w1 ⟨g, rfl, hg, hb1, ht⟩; have Hb1 := Lib.hid hb1; have Ht := Lib.hid ht; clear hg hb1 ht)
    | (go_at_call 8; refine (q8.out _ _ Ht.out).mono ?_; rintro e w2 ⟨rfl, rfl⟩)
    | (go_at_call 9; refine (q9.out _).mono ?_; rintro e w3 ⟨rfl, hb3⟩; have Hb3 := Lib.hid hb3; clear hb3)
    | (go_at_call 10; refine (works10 _).mono ?_; rintro e w4 ⟨rfl, hb4⟩; have Hb4 := Lib.hid hb4; clear hb4))
  go_ret
  exact ⟨rfl, bt (bt Hb1.out Hb3.out) Hb4.out⟩

set_option maxHeartbeats 4000000 in
theorem keys5 (A : Option Addr) (c : Nat) (k : List Nat) (w : World) (hA : Rd w A (bvs k)) (hk : ∀ i, k.getD i 0 < 256) (hc : k.length ≤ c) :
    Calls Try.prog 5 #[.slice A k.length c] w fun e w' => e = .returned (.bool true) ∧ Below w.heap.size w w' := by
  by_cases hl : 100 < k.length
  · generalize k.length = n at *
    have h1 : decide ((100 : Int) < (n : Int)) = true := by simp <;> omega
    clear hA
    go_enter Try.func5, Try.ntmps5
    go_wp2_with (go_at_call 10; refine (works10 _).mono ?_; rintro e w4 ⟨rfl, hb4⟩; have Hb4 := Lib.hid hb4; clear hb4)
    go_ret
    exact ⟨rfl, Hb4.out⟩
  · by_cases h32 : k.length = 32
    · have q12 : Hid (∀ g W, Tabs W g → Below w.heap.size w W → Calls Try.prog 12 #[.pointer (some ⟨g, 0, none⟩), .slice A 32 c] W (NewOk k W)) := fun g W ht hW =>
        newK12 g A c k W ht (hA.below hW) h32 (mem_getD fun i _ => hk i) (by omega)
      rw [h32]
      clear hA hk hc hl h32
      go_enter Try.func5, Try.ntmps5
      go_wp2_with (first
        | (go_at_call 7; refine (build7 _).mono ?_; rintro e w1 ⟨g, rfl, hg, hb1, ht⟩; have Hb1 := Lib.hid hb1; have Ht := Lib.hid ht; clear hg hb1 ht)
        | (go_at_call 12; refine (q12.out _ _ Ht.out Hb1.out).mono ?_; rintro e w2 ⟨C, rfl, hb2, hc2⟩; have Hb2 := Lib.hid hb2; clear hb2 hc2)
        | (go_at_call 10; refine (works10 _).mono ?_; rintro e w4 ⟨rfl, hb4⟩; have Hb4 := Lib.hid hb4; clear hb4))
      go_ret
      exact ⟨rfl, bt (bt Hb1.out Hb2.out) Hb4.out⟩
    · generalize k.length = n at *
      have h1 : decide ((100 : Int) < (n : Int)) = false := by simp <;> omega
      have h2 : ((n : Int) == 32) = false := by rw [beq_eq_false_iff_ne]; omega
      have q12 := Lib.hid (fun g W => new12_len g A n c W h32)
      clear hA h32
      go_enter Try.func5, Try.ntmps5
      go_wp2_with (first
        | (go_at_call 7; refine (build7 _).mono ?_; rintro e w1 ⟨g, rfl, hg, hb1, ht⟩; have Hb1 := Lib.hid hb1; have Ht := Lib.hid ht; clear hg hb1 ht)
        | (go_at_call 12; refine (q12.out _ _).mono ?_; rintro e w2 ⟨rfl, rfl⟩)
        | (go_at_call 10; refine (works10 _).mono ?_; rintro e w4 ⟨rfl, hb4⟩; have Hb4 := Lib.hid hb4; clear hb4))
      go_ret
      exact ⟨rfl, bt Hb1.out Hb4.out⟩
end Go.Proofs.Ytiaceoecilinkaa
