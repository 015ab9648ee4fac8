/- Apply's closure, and ContainsFunc with it. -/
import Derived.Test.YtmaaekahkeibnaaA3
namespace Go.Proofs.Ytmaaekahkeibnaa
open Go.RowKit

set_option maxHeartbeats 1000000 in
theorem apply35 (v : Ver) (id : Int) (B : Nat) (w : World) (hc : w.cell? ⟨B, 0, none⟩ = some (.int .i64 id)) :
    Calls Try.prog 35 #[v.agg, .pointer (some ⟨B, 0, none⟩)] w fun e w' => e = .returned (.bool (decide (v.seq = id))) ∧ Below w.heap.size w w' := by
  have hB : B < w.heap.size := World.block_lt_of_cell? w _ hc
  have hne : B ≠ w.heap.size := by omega
  obtain ⟨v0, v1, v2, v3, v4, v5, ⟨a6, n6, c6⟩, ⟨a7, n7, c7⟩, v8, ⟨a9, n9, c9⟩, ⟨a10, n10, c10⟩⟩ := v
  simp only [Ver.agg, Ver.cells] at *
  go_enter Try.func35, Try.ntmps35
  go_wp2
  go_ret
  exact ⟨by rfl, ba (b0 _) _⟩

set_option maxHeartbeats 1000000 in
theorem index29s (A : Option Addr) (c : Nat) (l : List Ver) (id : Int) (B : Nat) (w : World) (hl : l.length ≤ 31) (hA : Rd w A (fl l)) (hc : w.cell? ⟨B, 0, none⟩ = some (.int .i64 id)) :
    Calls Try.prog 29 #[.slice A l.length c, .func (.func 35) #[] #[.pointer (some ⟨B, 0, none⟩)]] w fun e w' => e = .returned (.int .i64 (fI (fun v => decide (v.seq = id)) l)) ∧ Below w.heap.size w w' := by
  have hB : B < w.heap.size := World.block_lt_of_cell? w _ hc
  obtain ⟨n, hn⟩ : ∃ n, l.length = n := ⟨_, rfl⟩
  rw [hn] at hl ⊢
  have Hn : Hid (l.length = n) := hn
  clear hn
  generalize hr : fI (fun v => decide (v.seq = id)) l = r
  have Hr := Lib.hid hr
  clear hr
  go_enter Try.func29, Try.ntmps29
  go_wp2
  go_loopw [5, 8] (fun _ i wr => ∃ k : Nat, k ≤ n ∧ i = .int .i64 k ∧ Hid (Below w.heap.size w wr) ∧ Hid (∀ j (h : j < l.length), j < k → l[j].seq ≠ id)) (fun _ i _ => n - (intOf i).toNat)
  case atStart => exact ⟨0, Nat.zero_le _, rfl, Below.refl _ _, fun j _ hj => absurd hj (Nat.not_lt_zero _)⟩
  case round =>
    obtain ⟨k, hk, rfl, HB, HT⟩ := hrel
    by_cases hlt : k < n
    · have hkl : k < l.length := by have := Hn.out; omega
      obtain ⟨b, o, rfl, _, hcv⟩ := (hA.below HB.out).ver k hkl
      obtain ⟨e0, e1, e2, e3, e4, e5, e6, e7, e8, e9, e10⟩ := ver_cells hcv
      clear hcv
      have hcB : wr.cell? ⟨B, 0, none⟩ = some (.int .i64 id) := (HB.out.cell (p := ⟨B, 0, none⟩) hB).trans hc
      have c30 := Lib.hid (apply35 l[k] id B wr hcB)
      clear hA
      by_cases hv : l[k].seq = id
      · have c30' : Hid (Calls Try.prog 35 #[l[k].agg, .pointer (some ⟨B, 0, none⟩)] wr fun e w' => e = .returned (.bool true) ∧ Below wr.heap.size wr w') := by
          have := c30.out; rw [decide_eq_true hv] at this; exact this
        clear c30
        have hrk : r = k := by rw [← Hr.out]; exact fI_hit hkl (by simpa using hv) (fun j hj hjk => by simpa using HT.out j hj hjk)
        have Hrk := Lib.hid hrk
        clear hv hrk
        go_wp2_with (go_at_call 35; refine (c30'.out).mono ?_; rintro e w1 ⟨rfl, hb1⟩)
        go_ret
        exact ⟨by rw [Hrk.out]; rfl, bt HB.out hb1⟩
      · have c30' : Hid (Calls Try.prog 35 #[l[k].agg, .pointer (some ⟨B, 0, none⟩)] wr fun e w' => e = .returned (.bool false) ∧ Below wr.heap.size wr w') := by
          have := c30.out; rw [decide_eq_false hv] at this; exact this
        clear c30
        have Hv := Lib.hid hv
        clear hv
        go_wp2_with (go_at_call 35; refine (c30'.out).mono ?_; rintro e w1 ⟨rfl, hb1⟩)
        go_roundw
        case rel => exact ⟨k + 1, by omega, by go_num, bt HB.out hb1, fun j hj hjk => by
          by_cases e : j = k
          · subst e; exact Hv.out
          · exact HT.out j hj (by omega)⟩
        case measure => simp [intOf]; omega
    · have : k = n := by omega
      subst this
      go_wp2
      go_ret
      exact ⟨by rw [← Hr.out, fI_miss (fun j hj => by simpa using HT.out j hj (by have := Hn.out; omega))]; rfl, HB.out⟩


set_option maxHeartbeats 1000000 in
theorem contains34 (A : Option Addr) (c : Nat) (l : List Ver) (id : Int) (B : Nat) (w : World) (hl : l.length ≤ 31) (hA : Rd w A (fl l)) (hc : w.cell? ⟨B, 0, none⟩ = some (.int .i64 id)) :
    Calls Try.prog 34 #[.slice A l.length c, .func (.func 35) #[] #[.pointer (some ⟨B, 0, none⟩)]] w fun e w' => e = .returned (.bool (decide (0 ≤ fI (fun v => decide (v.seq = id)) l))) ∧ Below w.heap.size w w' := by
  have q29 := Lib.hid (index29s A c l id B w hl hA hc)
  clear hA hc hl
  generalize fI (fun v => decide (v.seq = id)) l = r at *
  generalize l.length = n at *
  go_enter Try.func34, Try.ntmps34
  go_wp2_with (go_at_call 29; refine (q29.out).mono ?_; rintro e w1 ⟨rfl, hb1⟩)
  go_ret
  exact ⟨by rfl, hb1⟩

end Go.Proofs.Ytmaaekahkeibnaa
