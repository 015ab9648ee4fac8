/- behind: a newer version than all. -/
import Derived.Test.YtmaaekahkeibnaaA12
import Derived.StillTailTactics
namespace Go.Proofs.Ytmaaekahkeibnaa
open Go.RowKit
set_option linter.unusedSimpArgs false

/-- A region that draws its order, with a tail of operations that wait for all others. -/
theorem wp_region_tail {P : Program} {id : Nat} {Q : Exit → Act → World → Prop} {a : Act} {w : World} {l : List Oper} (n : Nat) (hm : P.follows .mixedOrders = true) (hB : Region.lexTailB .any l.toArray n = true)
    (h : wpStill P l.toArray w.drew (fun a' => wpList P l.toArray Q (l.drop n) a' w.drew) (l.take n) a) : (Code.region id l.toArray true).wp P Q a w :=
  wp_region_still_tail n hm hB h

def bseq (s : Int) : Int := wrap64 (wrap64 (wrap64 (s.tdiv 2) + wrap64 (s.tdiv 2)) + 2)
def behindV (s : Int) : Ver := ⟨s, false, false, 0, 0, 0, ⟨none, 0, 0⟩, ⟨none, 0, 0⟩, 0, ⟨none, 0, 0⟩, ⟨none, 0, 0⟩⟩

set_option maxHeartbeats 1000000 in
theorem behind20_nil (A : Option Addr) (c : Nat) (w : World) :
    Calls Try.prog 20 #[.slice A 0 c] w fun e w' => e = .returned (behindV 1).agg ∧ Below w.heap.size w w' := by
  simp only [Ver.agg, Ver.cells, behindV]
  go_enter Try.func20, Try.ntmps20
  go_wp2
  refine bodyPost_ret (v := .agg #[.int .i64 1, .bool false, .bool false, .int .i64 0, .int .i64 0, .int .i64 0, .slice none 0 0, .slice none 0 0, .int .i64 0, .slice none 0 0, .slice none 0 0]) ?_ rfl ⟨rfl, ?_⟩
  · simp [results, Try.results20, go_sem]
  · exact ba (b0 _) _

set_option maxHeartbeats 1000000 in
theorem behind20_cons (A : Option Addr) (c : Nat) (v : Ver) (t : List Ver) (w : World) (hl : t.length ≤ 30) (hA : Rd w A (fl (v :: t))) :
    Calls Try.prog 20 #[.slice A (t.length + 1) c] w fun e w' => e = .returned (behindV (bseq v.seq)).agg ∧ Below w.heap.size w w' := by
  obtain ⟨b, o, rfl, hbl, hcv⟩ := hA.ver 0 (by simp)
  obtain ⟨e0, e1, e2, e3, e4, e5, e6, e7, e8, e9, e10⟩ := ver_cells (v := v) (o := o) (fun i u hu => by have := hcv i u (by simpa using hu); simpa using this)
  clear hcv hA e1 e2 e3 e4 e5 e6 e7 e8 e9 e10
  simp only [Ver.agg, Ver.cells, behindV]
  generalize v.seq = s at *
  obtain ⟨n, hn⟩ : ∃ n, t.length = n := ⟨_, rfl⟩
  rw [hn] at hl ⊢
  clear hn
  have h1 : (((n + 1 : Nat) : Int) == 0) = false := by simp; omega
  have h2 : ((n + 1 : Nat) == 0) = false := by simp
  have h3 : (0 : Int) < ((n + 1 : Nat) : Int) := by omega
  go_enter Try.func20, Try.ntmps20
  go_wp2
  have h4 : (0 : Int) < (n : Int) + 1 := by omega
  have hbn : b ≠ w.heap.size := by omega
  refine wp_region_tail 13 (by kernel_rfl) (by kernel_rfl) ?_
  simp only [List.take_succ_cons, List.take_zero, List.drop_succ_cons, List.drop_zero]
  repeat still_step
  refine wpStill_nil ?_
  go_wp2
  refine bodyPost_ret (v := .agg #[.int .i64 (bseq s), .bool false, .bool false, .int .i64 0, .int .i64 0, .int .i64 0, .slice none 0 0, .slice none 0 0, .int .i64 0, .slice none 0 0, .slice none 0 0]) ?_ rfl ⟨rfl, ?_⟩
  · simp [results, Try.results20, go_sem, bseq]
  · (repeat (first | (with_reducible refine bs ?_ (by simp) _) | (with_reducible refine bdr ?_) | (with_reducible refine ba ?_ _)))
    exact b0 _

end Go.Proofs.Ytmaaekahkeibnaa
