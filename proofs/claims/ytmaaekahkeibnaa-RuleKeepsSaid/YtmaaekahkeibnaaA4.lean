/- Pick: which version is asked for. -/
import Derived.Test.YtmaaekahkeibnaaA3
namespace Go.Proofs.Ytmaaekahkeibnaa
open Go.RowKit

theorem fI_spec (p : Ver → Bool) (l : List Ver) : (fI p l = -1 ∧ l.find? p = none) ∨ ∃ (k : Nat) (h : k < l.length), fI p l = k ∧ l.find? p = some l[k] := by
  unfold fI
  cases h : l.findIdx? p with
  | none =>
    refine .inl ⟨rfl, ?_⟩
    rw [List.findIdx?_eq_none_iff] at h
    rw [List.find?_eq_none]
    intro x hx
    simp [h x hx]
  | some k =>
    rw [List.findIdx?_eq_some_iff_getElem] at h
    obtain ⟨hk, h1, h2⟩ := h
    refine .inr ⟨k, hk, rfl, ?_⟩
    rw [List.find?_eq_some_iff_getElem]
    exact ⟨h1, k, hk, rfl, fun j hj => by simpa using h2 j hj⟩

def zv : Ver := ⟨0, false, false, 0, 0, 0, ⟨none, 0, 0⟩, ⟨none, 0, 0⟩, 0, ⟨none, 0, 0⟩, ⟨none, 0, 0⟩⟩
def pk (l : List Ver) (id : Int) : Option Ver := if id < 0 then l.head? else l.find? (fun v => decide (v.idOf = id))
def pkV (l : List Ver) (id : Int) : Ver := (pk l id).getD zv

set_option maxHeartbeats 1000000 in
theorem pick9_empty (A : Option Addr) (c : Nat) (id : Int) (w : World) (hid : id < 0) :
    Calls Try.prog 9 #[.slice A 0 c, .int .i64 id] w fun e w' => e = .returned (.tuple #[zv.agg, .bool false]) ∧ Below w.heap.size w w' := by
  simp only [Ver.agg, Ver.cells, zv]
  go_enter Try.func9, Try.ntmps9
  go_wp2
  refine bodyPost_ret (v := .tuple #[.agg #[.int .i64 0, .bool false, .bool false, .int .i64 0, .int .i64 0, .int .i64 0, .slice none 0 0, .slice none 0 0, .int .i64 0, .slice none 0 0, .slice none 0 0], .bool false]) ?_ rfl ⟨rfl, ?_⟩
  · simp [results, Try.results9, go_sem]
  · exact ba (ba (b0 _) _) _

set_option maxHeartbeats 1000000 in
theorem pick9_first (A : Option Addr) (c : Nat) (v : Ver) (t : List Ver) (id : Int) (w : World) (hid : id < 0) (hA : Rd w A (fl (v :: t))) (hl : t.length ≤ 30) :
    Calls Try.prog 9 #[.slice A (t.length + 1) c, .int .i64 id] w fun e w' => e = .returned (.tuple #[v.agg, .bool true]) ∧ Below w.heap.size w w' := by
  obtain ⟨b, o, rfl, hbl, hcv⟩ := hA.ver 0 (by simp)
  obtain ⟨e0, e1, e2, e3, e4, e5, e6, e7, e8, e9, e10⟩ := ver_cells (v := v) (o := o) (fun i u hu => by have := hcv i u (by simpa using hu); simpa using this)
  clear hcv hA
  obtain ⟨n, hn⟩ : ∃ n, t.length = n := ⟨_, rfl⟩
  rw [hn] at hl ⊢
  clear hn
  have h1 : (((n + 1 : Nat) : Int) == 0) = false := by simp; omega
  have h2 : ((n + 1 : Nat) == 0) = false := by simp
  have h3 : (0 : Int) < ((n + 1 : Nat) : Int) := by omega
  obtain ⟨v0, v1, v2, v3, v4, v5, ⟨a6, n6, c6⟩, ⟨a7, n7, c7⟩, v8, ⟨a9, n9, c9⟩, ⟨a10, n10, c10⟩⟩ := v
  simp only [Ver.agg, Ver.cells] at *
  go_enter Try.func9, Try.ntmps9
  go_wp2
  refine bodyPost_ret (v := .tuple #[.agg #[.int .i64 v0, .bool v1, .bool v2, .int .i64 v3, .int .i64 v4, .int .i64 v5, .slice a6 n6 c6, .slice a7 n7 c7, .int .i64 v8, .slice a9 n9 c9, .slice a10 n10 c10], .bool true]) ?_ rfl ⟨rfl, ?_⟩
  · simp [results, Try.results9, go_sem]
  · exact ba (ba (b0 _) _) _

end Go.Proofs.Ytmaaekahkeibnaa
