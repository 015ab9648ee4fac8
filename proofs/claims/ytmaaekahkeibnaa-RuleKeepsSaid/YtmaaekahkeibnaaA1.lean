/- Same, SameLock, SameVersion, Hold, Turn: what they answer. -/
import Derived.Test.YtmaaekahkeibnaaA0
namespace Go.Proofs.Ytmaaekahkeibnaa
open Go.RowKit

def u8s (xs : List Int) : List Value := xs.map (Value.int .u8)
theorem u8s_length (xs : List Int) : (u8s xs).length = xs.length := by simp [u8s]
theorem u8s_get {xs : List Int} {k : Nat} (h : k < xs.length) : (u8s xs)[k]? = some (.int .u8 xs[k]) := by simp [u8s, h]

/-- Same, unlike lengths. -/
theorem same31_len (A B : Option Addr) (n m c d : Nat) (w : World) (h : n ≠ m) : Calls Try.prog 31 #[.slice A n c, .slice B m d] w fun e w' => e = .returned (.bool false) ∧ Below w.heap.size w w' := by
  have h1 : ((n : Int) == (m : Int)) = false := by simp; omega
  have h2 : ((n : Int) != (m : Int)) = true := by simp; omega
  have h3 : (n == m) = false := by simpa using h
  clear h
  go_enter Try.func31, Try.ntmps31
  go_wp2
  go_ret
  exact ⟨rfl, Below.refl _ _⟩

set_option maxHeartbeats 1000000 in
theorem same31 (A B : Option Addr) (c d : Nat) (xs ys : List Int) (w : World) (hA : Rd w A (u8s xs)) (hB : Rd w B (u8s ys)) (hl : xs.length = ys.length) (hm : xs.length ≤ 9223372036854775807) :
    Calls Try.prog 31 #[.slice A xs.length c, .slice B ys.length d] w fun e w' => e = .returned (.bool (decide (xs = ys))) ∧ Below w.heap.size w w' := by
  have Hl : Hid (xs.length = ys.length) := hl
  obtain ⟨n, hn⟩ : ∃ n, xs.length = n := ⟨_, rfl⟩
  have hn2 : ys.length = n := by omega
  rw [hn, hn2]
  have Hn : Hid (xs.length = n) := hn
  have Hn2 : Hid (ys.length = n) := hn2
  rw [hn] at hm
  clear hl hn hn2
  have h1 : ((n : Int) == (n : Int)) = true := by simp
  go_enter Try.func31, Try.ntmps31
  go_wp2
  go_loopw [5] (fun i wr => ∃ k : Nat, k ≤ n ∧ i = .int .i64 k ∧ Hid (Below w.heap.size w wr) ∧ Hid (xs.take k = ys.take k)) (fun i _ => n - (intOf i).toNat)
  case atStart => exact ⟨0, Nat.zero_le _, rfl, Below.refl _ _, by simp [Hid]⟩
  case round =>
    obtain ⟨k, hk, rfl, HB, HT⟩ := hrel
    by_cases hlt : k < n
    · have hltz : (k : Int) < (n : Int) := by omega
      have hx : k < xs.length := by have := Hn.out; omega
      have hy : k < ys.length := by have := Hn2.out; omega
      obtain ⟨b, o, rfl, _, hc⟩ := (hA.below HB.out).at_ (by rw [u8s_length]; omega)
      obtain ⟨b', o', rfl, _, hc'⟩ := (hB.below HB.out).at_ (by rw [u8s_length]; omega)
      have c1 := hc k _ (u8s_get hx)
      have c2 := hc' k _ (u8s_get hy)
      clear hc hc'
      by_cases he : xs[k] = ys[k]
      · have he1 : (xs[k] == ys[k]) = true := by simpa using he
        have he2 : (xs[k] != ys[k]) = false := by simpa using he
        have He := Lib.hid he
        clear he
        go_wp2
        go_quiet (fail)
        go_wp2
        go_roundw
        case rel => exact ⟨k + 1, by omega, by go_num, by first | exact HB.out | exact HB.out.drew | exact dn HB.out _, by
          show xs.take (k + 1) = ys.take (k + 1)
          rw [List.take_succ_eq_append_getElem hx, List.take_succ_eq_append_getElem hy, HT.out, He.out]⟩
        case measure => simp [intOf]; omega
      · have he1 : (xs[k] == ys[k]) = false := by simpa using he
        have he2 : (xs[k] != ys[k]) = true := by simpa using he
        have He := Lib.hid he
        clear he
        go_wp2
        go_quiet (fail)
        go_wp2
        go_ret
        have hne : xs ≠ ys := fun e => He.out (by subst e; rfl)
        exact ⟨by simp [hne], by first | exact HB.out | exact dn HB.out _⟩
    · have : k = n := by omega
      subst this
      have heq : xs = ys := by
        have h1 := HT.out
        rw [List.take_of_length_le (by have := Hn.out; omega), List.take_of_length_le (by have := Hn2.out; omega)] at h1
        exact h1
      have Heq := Lib.hid heq
      clear heq
      go_wp2
      go_ret
      exact ⟨by simp [Heq.out], HB.out⟩

end Go.Proofs.Ytmaaekahkeibnaa
