/- key32, Same: what they answer. -/
import Derived.Test.YtiaceoecilinkaaA5
namespace Go.Proofs.Ytiaceoecilinkaa
open Go.RowKit
set_option linter.unusedSimpArgs false

theorem bvs_at {w : World} {A : Option Addr} {xs : List Nat} (h : Rd w A (bvs xs)) (k : Nat) (hk : k < xs.length) : ∃ b o, A = some ⟨b, o, none⟩ ∧ b < w.heap.size ∧ w.cell? ⟨b, o + k, none⟩ = some (.int .u8 ((xs.getD k 0 : Nat) : Int)) := by
  obtain ⟨b, o, rfl, hb, hc⟩ := h.at_ (by rw [bvs_length]; omega)
  exact ⟨b, o, rfl, hb, hc k _ (bvs_getD hk)⟩

/-- Same, unlike lengths. -/
theorem same15_len (A B : Option Addr) (n m c d : Nat) (w : World) (h : n ≠ m) : Calls Try.prog 15 #[.slice A n c, .slice B m d] w fun e w' => e = .returned (.bool false) ∧ Below w.heap.size w w' := by
  have h1 : ((n : Int) == (m : Int)) = false := by simp; omega
  have h2 : ((n : Int) != (m : Int)) = true := by simp; omega
  have h3 : (n == m) = false := by simpa using h
  clear h
  go_enter Try.func15, Try.ntmps15
  go_wp2
  go_ret
  exact ⟨rfl, Below.refl _ _⟩

theorem take_getD {xs : List Nat} {k : Nat} (h : k < xs.length) : xs.take (k + 1) = xs.take k ++ [xs.getD k 0] := by
  rw [List.take_succ_eq_append_getElem h]; simp [List.getD, h]

set_option maxHeartbeats 1000000 in
theorem same15 (A B : Option Addr) (c d : Nat) (xs ys : List Nat) (w : World) (hA : Rd w A (bvs xs)) (hB : Rd w B (bvs ys)) (hl : xs.length = ys.length) (hm : xs.length ≤ 9223372036854775807) :
    Calls Try.prog 15 #[.slice A xs.length c, .slice B ys.length d] w fun e w' => e = .returned (.bool (decide (xs = ys))) ∧ Below w.heap.size w w' := by
  obtain ⟨n, hn⟩ : ∃ n, xs.length = n := ⟨_, rfl⟩
  have hn2 : ys.length = n := by omega
  rw [hn, hn2]
  have Hn : Hid (xs.length = n) := hn
  have Hn2 : Hid (ys.length = n) := hn2
  rw [hn] at hm
  clear hl hn hn2
  have h1 : ((n : Int) == (n : Int)) = true := by simp
  go_enter Try.func15, Try.ntmps15
  go_wp2
  go_loopw [5] (fun i wr => ∃ k : Nat, k ≤ n ∧ i = .int .i64 k ∧ Hid (Below w.heap.size w wr) ∧ Hid (xs.take k = ys.take k)) (fun i _ => n - (intOf i).toNat)
  case atStart => exact ⟨0, Nat.zero_le _, rfl, Below.refl _ _, by simp [Hid]⟩
  case round =>
    obtain ⟨k, hk, rfl, HB, HT⟩ := hrel
    by_cases hlt : k < n
    · have hltz : (k : Int) < (n : Int) := by omega
      have hx : k < xs.length := by have := Hn.out; omega
      have hy : k < ys.length := by have := Hn2.out; omega
      obtain ⟨b, o, rfl, _, c1⟩ := bvs_at (hA.below HB.out) k hx
      obtain ⟨b', o', rfl, _, c2⟩ := bvs_at (hB.below HB.out) k hy
      by_cases he : xs.getD k 0 = ys.getD k 0
      · have he1 : (((xs.getD k 0 : Nat) : Int) == ((ys.getD k 0 : Nat) : Int)) = true := by simp only [he, beq_self_eq_true]
        have he2 : (((xs.getD k 0 : Nat) : Int) != ((ys.getD k 0 : Nat) : Int)) = false := by simp only [he, bne_self_eq_false]
        have HTn : Hid (xs.take (k + 1) = ys.take (k + 1)) := by
          show xs.take (k + 1) = ys.take (k + 1)
          rw [take_getD hx, take_getD hy, HT.out, he]
        clear he
        generalize xs.getD k 0 = x at *
        generalize ys.getD k 0 = y at *
        go_wp2
        go_quiet (fail)
        go_wp2
        go_roundw
        case rel => exact ⟨k + 1, by omega, by go_num, by first | exact HB.out | exact HB.out.drew | exact dn HB.out _, HTn.out⟩
        case measure => simp [intOf]; omega
      · have he1 : (((xs.getD k 0 : Nat) : Int) == ((ys.getD k 0 : Nat) : Int)) = false := by rw [beq_eq_false_iff_ne]; omega
        have he2 : (((xs.getD k 0 : Nat) : Int) != ((ys.getD k 0 : Nat) : Int)) = true := by rw [bne_iff_ne]; omega
        have Hne : Hid (xs ≠ ys) := fun e => he (by rw [e])
        clear he
        generalize xs.getD k 0 = x at *
        generalize ys.getD k 0 = y at *
        go_wp2
        go_quiet (fail)
        go_wp2
        go_ret
        exact ⟨by rw [decide_eq_false Hne.out]; rfl, by first | exact HB.out | exact dn HB.out _⟩
    · have : k = n := by omega
      subst this
      have heq : xs = ys := by
        have h1 := HT.out
        rw [List.take_of_length_le (by have := Hn.out; omega), List.take_of_length_le (by have := Hn2.out; omega)] at h1
        exact h1
      have Heq := Lib.hid heq
      clear heq
      go_wp2
      go_ret
      exact ⟨by rw [decide_eq_true Heq.out]; rfl, HB.out⟩

/-- A key of 32 bytes, of any ones, repeated. -/
def keyD (b : List Nat) (k : Nat) : List Nat := (List.range k).map (fun i => if 0 < b.length then b.getD (i % b.length) 0 else 0)
theorem keyD_succ (b : List Nat) (k : Nat) : keyD b (k + 1) = keyD b k ++ [if 0 < b.length then b.getD (k % b.length) 0 else 0] := by simp [keyD, List.range_succ]
theorem keyD_len (b : List Nat) (k : Nat) : (keyD b k).length = k := by simp [keyD]
theorem keyD_256 {b : List Nat} (h : ∀ i, b.getD i 0 < 256) (k : Nat) : ∀ x ∈ keyD b k, x < 256 := fun x hx => by
  obtain ⟨i, _, rfl⟩ := List.mem_map.1 hx
  split
  · exact h _
  · decide

set_option maxHeartbeats 2000000 in
theorem key11 (A : Option Addr) (c : Nat) (b : List Nat) (w : World) (hA : Rd w A (bvs b)) (hl : b.length ≤ 100) :
    Calls Try.prog 11 #[.slice A b.length c] w (BytRes w (keyD b 32)) := by
  have Hs := Lib.hid (keyD_succ b)
  have Hlen := Lib.hid (keyD_len b)
  have H0 : Hid (keyD b 0 = []) := rfl
  obtain ⟨n, hn⟩ : ∃ n, b.length = n := ⟨_, rfl⟩
  have Hn : Hid (b.length = n) := hn
  have HA := Lib.hid hA
  rw [hn] at hl ⊢
  rw [hn] at Hs
  clear hn hA
  generalize keyD b = D at *
  go_enter Try.func11, Try.ntmps11
  go_wp2_with fail
  go_loopw [3, 4] (fun o i wr => ∃ k : Nat, k ≤ 32 ∧ i = .int .i64 k ∧ Hid (wr.ownsRow w.heap.size 5 1 o k (bvs (D k))) ∧ Hid (Below w.heap.size w wr)) (fun _ i _ => 32 - (intOf i).toNat)
  case atStart => exact ⟨0, by omega, rfl, by rw [H0.out]; exact own_nil _ _ _, Below.refl _ _⟩
  case round =>
    obtain ⟨k, hk, rfl, HO, HB⟩ := hrel
    have hbase := HB.out.size
    have HS := Lib.hid (Hs.out k)
    by_cases hlt : k < 32
    · have hkz : (k : Int) < 32 := by omega
      by_cases h0 : 0 < n
      · have h0d : decide ((0 : Int) < (n : Int)) = true := by simp <;> omega
        rw [if_pos h0] at HS
        have hm : k % n < n := Nat.mod_lt _ h0
        obtain ⟨g, o, rfl, _, c1⟩ := bvs_at (HA.out.below HB.out) (k % n) (by rw [Hn.out]; exact hm)
        have hn0 : (0 : Int) < (n : Int) := by omega
        have e1 : (k : Int) % (n : Int) = ((k % n : Nat) : Int) := rfl
        generalize b.getD (k % n) 0 = x at *
        generalize D k = L at *
        generalize k % n = m at *
        have hm1 : (m : Int) < (n : Int) := by omega
        go_wp2_with (at_builtin; refine ap1 row27 rfl (.tmp 12) (.tmp 20) rfl w.heap.size _ k (bvs L) _ rfl HO.out rfl rfl (by omega) hbase ?_; intro v2 w2 hown2 hb2; have Hown2 := Lib.hid hown2; clear hown2)
        go_roundw
        case rel => exact ⟨k + 1, by omega, by go_num, by rw [HS.out, ← bvs_snoc]; exact Hown2.out, HB.out.trans hb2⟩
        case measure => simp [intOf]; omega
      · have h0d : decide ((0 : Int) < (n : Int)) = false := by simp <;> omega
        rw [if_neg h0] at HS
        generalize D k = L at *
        go_wp2_with (at_builtin; refine ap1 row27 rfl (.tmp 22) (.tmp 23) rfl w.heap.size _ k (bvs L) _ rfl HO.out rfl rfl (by omega) hbase ?_; intro v2 w2 hown2 hb2; have Hown2 := Lib.hid hown2; clear hown2)
        go_roundw
        case rel => exact ⟨k + 1, by omega, by go_num, by rw [HS.out, ← bvs_snoc]; exact Hown2.out, HB.out.trans hb2⟩
        case measure => simp [intOf]; omega
    · have : k = 32 := by omega
      subst this
      obtain ⟨A2, c2, hv, h5, h6, h7⟩ := own_form HO.out
      subst hv
      have H6 := Lib.hid h6
      have H7 := Lib.hid h7
      clear h6 h7
      go_wp2_with fail
      go_ret
      exact ⟨A2, c2, by rw [Hlen.out]; rfl, by rw [Hlen.out]; exact h5, H6.out, H7.out, HB.out⟩
end Go.Proofs.Ytiaceoecilinkaa
