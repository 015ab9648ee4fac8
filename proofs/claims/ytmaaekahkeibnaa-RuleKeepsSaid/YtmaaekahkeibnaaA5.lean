/- Pick and There, whole. -/
import Derived.Test.YtmaaekahkeibnaaA4
namespace Go.Proofs.Ytmaaekahkeibnaa
open Go.RowKit

set_option maxHeartbeats 1000000 in
theorem pick9_none (A : Option Addr) (c : Nat) (l : List Ver) (id : Int) (w : World) (hid : 0 ≤ id) (hl : l.length ≤ 31) (hA : Rd w A (fl l)) (hr : fI (fun v => decide (v.idOf = id)) l = -1) :
    Calls Try.prog 9 #[.slice A l.length c, .int .i64 id] w fun e w' => e = .returned (.tuple #[zv.agg, .bool false]) ∧ Below w.heap.size w w' := by
  have c29 := Lib.hid (fun W (hb : Below w.heap.size w W) B hc => index29 A c l id B W hl (hA.below hb) hc)
  rw [hr] at c29
  clear hr hA
  generalize l.length = n at *
  simp only [Ver.agg, Ver.cells, zv]
  have hz : decide (id < 0) = false := by simp; omega
  go_enter Try.func9, Try.ntmps9
  go_wp2_with (go_at_call 29; refine (c29.out _ (ba (ba (b0 _) _) _) _ (by simp)).mono ?_; rintro e w1 ⟨rfl, hb1⟩; obtain ⟨hc1, hf1⟩ := bcell hb1)
  refine bodyPost_ret (v := .tuple #[.agg #[.int .i64 0, .bool false, .bool false, .int .i64 0, .int .i64 0, .int .i64 0, .slice none 0 0, .slice none 0 0, .int .i64 0, .slice none 0 0, .slice none 0 0], .bool false]) ?_ rfl ⟨rfl, ?_⟩
  · simp [results, Try.results9, go_sem, hc1]
  · (repeat (refine bs ?_ (by simp) _))
    exact bt (ba (ba (b0 _) _) _) hb1

set_option maxHeartbeats 2000000 in
theorem pick9_at (A : Option Addr) (c : Nat) (l : List Ver) (id : Int) (w : World) (hid : 0 ≤ id) (hl : l.length ≤ 31) (hA : Rd w A (fl l)) (k : Nat) (hk : k < l.length) (hr : fI (fun v => decide (v.idOf = id)) l = k) :
    Calls Try.prog 9 #[.slice A l.length c, .int .i64 id] w fun e w' => e = .returned (.tuple #[l[k].agg, .bool true]) ∧ Below w.heap.size w w' := by
  have c29 := Lib.hid (fun W (hb : Below w.heap.size w W) B hc => index29 A c l id B W hl (hA.below hb) hc)
  rw [hr] at c29
  clear hr
  obtain ⟨b, o, rfl, hbl, hcv⟩ := hA.ver k hk
  obtain ⟨e0, e1, e2, e3, e4, e5, e6, e7, e8, e9, e10⟩ := ver_cells hcv
  clear hcv hA
  generalize l[k] = v at *
  obtain ⟨n, hn⟩ : ∃ n, l.length = n := ⟨_, rfl⟩
  rw [hn] at hl hk c29 ⊢
  clear hn
  obtain ⟨v0, v1, v2, v3, v4, v5, ⟨a6, n6, c6⟩, ⟨a7, n7, c7⟩, v8, ⟨a9, n9, c9⟩, ⟨a10, n10, c10⟩⟩ := v
  simp only [Ver.agg, Ver.cells] at *
  have hz : decide (id < 0) = false := by simp; omega
  have hkz : (k : Int) < (n : Int) := by omega
  have hb2 : b < w.heap.size + 1 + 1 := by omega
  have hb3 : b ≠ w.heap.size := by omega
  have hb4 : b ≠ w.heap.size + 1 := by omega
  go_enter Try.func9, Try.ntmps9
  go_wp2_with (go_at_call 29; refine (c29.out _ (ba (ba (b0 _) _) _) _ (by simp)).mono ?_; rintro e w1 ⟨rfl, hb1⟩; obtain ⟨hc1, hf1⟩ := bcell hb1)
  refine bodyPost_ret (v := .tuple #[.agg #[.int .i64 v0, .bool v1, .bool v2, .int .i64 v3, .int .i64 v4, .int .i64 v5, .slice a6 n6 c6, .slice a7 n7 c7, .int .i64 v8, .slice a9 n9 c9, .slice a10 n10 c10], .bool true]) ?_ rfl ⟨rfl, ?_⟩
  · simp [results, Try.results9, go_sem, hc1]
  · (repeat (refine bs ?_ (by simp) _))
    exact bt (ba (ba (b0 _) _) _) hb1

theorem pick9 (A : Option Addr) (c : Nat) (l : List Ver) (id : Int) (w : World) (hl : l.length ≤ 31) (hA : Rd w A (fl l)) :
    Calls Try.prog 9 #[.slice A l.length c, .int .i64 id] w fun e w' => e = .returned (.tuple #[(pkV l id).agg, .bool (pk l id).isSome]) ∧ Below w.heap.size w w' := by
  by_cases hid : id < 0
  · cases l with
    | nil => simpa [pkV, pk, hid] using pick9_empty A c id w hid
    | cons v t => simpa [pkV, pk, hid] using pick9_first A c v t id w hid hA (by simpa using hl)
  · rcases fI_spec (fun v => decide (v.idOf = id)) l with ⟨h1, h2⟩ | ⟨k, hk, h1, h2⟩
    · simpa [pkV, pk, hid, h2] using pick9_none A c l id w (by omega) hl hA h1
    · simpa [pkV, pk, hid, h2] using pick9_at A c l id w (by omega) hl hA k hk h1

end Go.Proofs.Ytmaaekahkeibnaa
