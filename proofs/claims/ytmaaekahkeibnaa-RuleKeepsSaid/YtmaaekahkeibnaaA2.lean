/- SameLock, SameVersion, Hold, Turn: what they answer. -/
import Derived.Test.YtmaaekahkeibnaaA1
namespace Go.Proofs.Ytmaaekahkeibnaa
open Go.RowKit

/-- A slice value that reads, in w0, as these bytes. -/
def Byt (w0 : World) (v : Value) (xs : List Int) : Prop := ∃ A c, v = .slice A xs.length c ∧ xs.length ≤ 9223372036854775807 ∧ Rd w0 A (u8s xs)
def IsByt (w0 : World) (v : Value) : Prop := ∃ xs, Byt w0 v xs
noncomputable def ct (w0 : World) (v : Value) : List Int := @Classical.epsilon _ ⟨[]⟩ (Byt w0 v)
theorem IsByt.ct {w0 : World} {v : Value} (h : IsByt w0 v) : Byt w0 v (ct w0 v) := Classical.epsilon_spec h

theorem same31_b (w0 : World) (v u : Value) (hv : IsByt w0 v) (hu : IsByt w0 u) (W : World) (hb : Below w0.heap.size w0 W) :
    Calls Try.prog 31 #[v, u] W fun e w' => e = .returned (.bool (decide (ct w0 v = ct w0 u))) ∧ Below W.heap.size W w' := by
  obtain ⟨A, c, e1, m1, r1⟩ := hv.ct
  obtain ⟨B, d, e2, m2, r2⟩ := hu.ct
  generalize ct w0 v = xs at *
  generalize ct w0 u = ys at *
  subst e1 e2
  by_cases hl : xs.length = ys.length
  · exact same31 A B c d xs ys W (r1.below hb) (r2.below hb) hl m1
  · have : xs ≠ ys := fun e => hl (by rw [e])
    simp only [this, decide_false]
    exact same31_len A B _ _ c d W hl

noncomputable def sameLock (w0 : World) (g : Int) (n w : Value) (g' : Int) (n' w' : Value) : Bool := decide ((g : Int) = g') && decide (ct w0 n = ct w0 n') && decide (ct w0 w = ct w0 w')

set_option maxHeartbeats 1000000 in
theorem lock32 (w0 : World) (g g' : Int) (n r n' r' : Sl) (h1 : IsByt w0 n.v) (h2 : IsByt w0 r.v) (h3 : IsByt w0 n'.v) (h4 : IsByt w0 r'.v) (W : World) (hb : Below w0.heap.size w0 W) :
    Calls Try.prog 32 #[.agg #[.int .i64 g, .slice n.a n.n n.c, .slice r.a r.n r.c], .agg #[.int .i64 g', .slice n'.a n'.n n'.c, .slice r'.a r'.n r'.c]] W fun e w' => e = .returned (.bool (sameLock w0 g n.v r.v g' n'.v r'.v)) ∧ Below W.heap.size W w' := by
  have c1 := Lib.hid (same31_b w0 _ _ h1 h3)
  have c2 := Lib.hid (same31_b w0 _ _ h2 h4)
  clear h1 h2 h3 h4
  unfold sameLock
  generalize ct w0 n.v = xn at *
  generalize ct w0 n'.v = xn' at *
  generalize ct w0 r.v = xr at *
  generalize ct w0 r'.v = xr' at *
  obtain ⟨a1, n1, k1⟩ := n
  obtain ⟨a2, n2, k2⟩ := r
  obtain ⟨a3, n3, k3⟩ := n'
  obtain ⟨a4, n4, k4⟩ := r'
  simp only [Sl.v] at *
  go_enter Try.func32, Try.ntmps32
  go_wp2_with (first
    | (go_at_call 31; ((with_reducible refine (c1.out _ ?_).mono ?_)); (first | exact ba (ba hb _) _); (rintro e w1 ⟨rfl, hb1⟩); obtain ⟨hc1, hf1⟩ := bcell hb1)
    | (go_at_call 31; ((with_reducible refine (c2.out _ ?_).mono ?_)); (first | exact bt (ba (ba hb _) _) hb1); (rintro e w2 ⟨rfl, hb2⟩)))
  all_goals go_ret
  · exact ⟨by simp_all, bt (bt (ba (ba (b0 _) _) _) hb1) hb2⟩
  · exact ⟨by simp_all, (bt (ba (ba (b0 _) _) _) hb1)⟩
  · exact ⟨by simp_all, (ba (ba (b0 _) _) _)⟩

/-- A version whose slices read in w0. -/
def Ver.good (w0 : World) (v : Ver) : Prop := IsByt w0 v.meta_.v ∧ IsByt w0 v.tags.v ∧ IsByt w0 v.nonce.v ∧ IsByt w0 v.wrap.v

noncomputable def sameVer (w0 : World) (a b : Ver) : Bool :=
  decide (a.seq = b.seq) && decide (a.null = b.null) && decide (a.mark = b.mark) && decide (a.at_ = b.at_) && decide (a.size = b.size) && decide (a.untl = b.untl) &&
  decide (ct w0 a.meta_.v = ct w0 b.meta_.v) && decide (ct w0 a.tags.v = ct w0 b.tags.v) && sameLock w0 a.gen a.nonce.v a.wrap.v b.gen b.nonce.v b.wrap.v
theorem sameVer_self (w0 : World) (a : Ver) : sameVer w0 a a = true := by simp [sameVer, sameLock]

set_option maxHeartbeats 2000000 in
theorem same11 (w0 : World) (a b : Ver) (ha : a.good w0) (hb' : b.good w0) (W : World) (hb : Below w0.heap.size w0 W) :
    Calls Try.prog 11 #[a.agg, b.agg] W fun e w' => e = .returned (.bool (sameVer w0 a b)) ∧ Below W.heap.size W w' := by
  obtain ⟨h1, h2, h3, h4⟩ := ha
  obtain ⟨g1, g2, g3, g4⟩ := hb'
  have c1 := Lib.hid (same31_b w0 _ _ h1 g1)
  have c2 := Lib.hid (same31_b w0 _ _ h2 g2)
  have c3 := Lib.hid (fun g g' => lock32 w0 g g' _ _ _ _ h3 h4 g3 g4)
  clear h1 h2 h3 h4 g1 g2 g3 g4
  unfold sameVer
  obtain ⟨v0, v1, v2, v3, v4, v5, s6, s7, v8, s9, s10⟩ := a
  obtain ⟨u0, u1, u2, u3, u4, u5, t6, t7, u8, t9, t10⟩ := b
  generalize ct w0 (Sl.v s6) = x6 at *
  generalize ct w0 (Sl.v t6) = y6 at *
  generalize ct w0 (Sl.v s7) = x7 at *
  generalize ct w0 (Sl.v t7) = y7 at *
  simp only [] at *
  simp only [Ver.agg, Ver.cells] at *
  generalize hsl : (fun g g' => sameLock w0 g s9.v s10.v g' t9.v t10.v) = sl at c3
  have hsl' : sameLock w0 v8 s9.v s10.v u8 t9.v t10.v = sl v8 u8 := by rw [← hsl]
  rw [hsl']
  have c4 : Hid (∀ (W : World), Below w0.heap.size w0 W → Calls Try.prog 32 #[.agg #[.int .i64 v8, .slice s9.a s9.n s9.c, .slice s10.a s10.n s10.c], .agg #[.int .i64 u8, .slice t9.a t9.n t9.c, .slice t10.a t10.n t10.c]] W fun e w' => e = .returned (.bool (sl v8 u8)) ∧ Below W.heap.size W w') := by
    intro W h
    have := c3.out v8 u8 W h
    rw [← hsl]
    exact this
  clear c3 hsl hsl'
  generalize sl v8 u8 = q at *
  obtain ⟨a6, n6, k6⟩ := s6
  obtain ⟨b6, m6, d6⟩ := t6
  obtain ⟨a7, n7, k7⟩ := s7
  obtain ⟨b7, m7, d7⟩ := t7
  obtain ⟨a9, n9, k9⟩ := s9
  obtain ⟨a10, n10, k10⟩ := s10
  obtain ⟨b9, m9, d9⟩ := t9
  obtain ⟨b10, m10, d10⟩ := t10
  simp only [Sl.v] at *
  go_enter Try.func11, Try.ntmps11
  go_wp2_with (first
    | (go_at_call 31; ((with_reducible refine (c1.out _ ?_).mono ?_)); (first | exact ba (ba hb _) _); (rintro e w1 ⟨rfl, hb1⟩); obtain ⟨hc1, hf1⟩ := bcell hb1; have hs1 := hb1.size)
    | (go_at_call 31; ((with_reducible refine (c2.out _ ?_).mono ?_)); (first | exact bt (ba (ba hb _) _) hb1); (rintro e w2 ⟨rfl, hb2⟩); obtain ⟨hc2, hf2⟩ := bcell (bt hb1 hb2))
    | (go_at_call 32; ((with_reducible refine (c4.out _ ?_).mono ?_)); (first | exact bt (bt (ba (ba hb _) _) hb1) hb2); (rintro e w3 ⟨rfl, hb3⟩)))
  all_goals go_ret
  all_goals first
    | exact ⟨by simp_all, bt (bt (bt (ba (ba (b0 _) _) _) hb1) hb2) hb3⟩
    | exact ⟨by simp_all, bt (bt (ba (ba (b0 _) _) _) hb1) hb2⟩
    | exact ⟨by simp_all, (bt (ba (ba (b0 _) _) _) hb1)⟩
    | exact ⟨by simp_all, (ba (ba (b0 _) _) _)⟩

def holdC (v : Ver) (u : Int) : Int := if v.mark then 15 else if u < 0 ∨ 1099511627776 < u then 2 else if u < v.untl then 14 else 0
def turnC (f t : Int) : Int := if t < 0 ∨ 2 < t then 2 else if t = 0 ∧ f ≠ 0 then 15 else 0

set_option maxHeartbeats 1000000 in
theorem hold14 (v : Ver) (u : Int) (w : World) : Calls Try.prog 14 #[v.agg, .int .i64 u] w fun e w' => e = .returned (.int .i64 (holdC v u)) ∧ Below w.heap.size w w' := by
  obtain ⟨v0, v1, v2, v3, v4, v5, v6, v7, v8, v9, v10⟩ := v
  simp only [Ver.agg, Ver.cells, holdC]
  cases v2
  all_goals
    go_enter Try.func14, Try.ntmps14
    go_wp2
    all_goals go_ret
    all_goals exact ⟨by first | rfl | (simp; done) | (simp; omega) | (simp; split <;> simp_all <;> omega), ba (b0 _) _⟩

set_option maxHeartbeats 1000000 in
theorem hold15 (v : Ver) (u : Int) (w : World) : Calls Try.prog 15 #[v.agg, .int .i64 u] w fun e w' => e = .returned (.int .i64 (holdC v u)) ∧ Below w.heap.size w w' := by
  obtain ⟨v0, v1, v2, v3, v4, v5, v6, v7, v8, v9, v10⟩ := v
  simp only [Ver.agg, Ver.cells, holdC]
  cases v2
  all_goals
    go_enter Try.func15, Try.ntmps15
    go_wp2
    all_goals go_ret
    all_goals exact ⟨by first | rfl | (simp; done) | (simp; omega) | (simp; split <;> simp_all <;> omega), ba (b0 _) _⟩

set_option maxHeartbeats 1000000 in
theorem turn16 (f t : Int) (w : World) : Calls Try.prog 16 #[.int .i64 f, .int .i64 t] w fun e w' => e = .returned (.int .i64 (turnC f t)) ∧ Below w.heap.size w w' := by
  unfold turnC
  by_cases hf : f = 0
  · subst hf
    go_enter Try.func16, Try.ntmps16
    go_wp2
    all_goals go_ret
    all_goals exact ⟨by first | rfl | (simp; done) | (simp; omega) | (simp; split <;> simp_all <;> omega), (b0 _)⟩
  · have h1 : (f != 0) = true := by simpa using hf
    have h2 : (f == 0) = false := by simpa using hf
    have Hf := Lib.hid hf
    clear hf
    go_enter Try.func16, Try.ntmps16
    go_wp2
    all_goals go_ret
    all_goals have hf := Hf.out
    all_goals exact ⟨by first | rfl | (simp; done) | (simp; omega) | (simp; split <;> simp_all <;> omega), (b0 _)⟩

set_option maxHeartbeats 1000000 in
theorem turn17 (f t : Int) (w : World) : Calls Try.prog 17 #[.int .i64 f, .int .i64 t] w fun e w' => e = .returned (.int .i64 (turnC f t)) ∧ Below w.heap.size w w' := by
  unfold turnC
  by_cases hf : f = 0
  · subst hf
    go_enter Try.func17, Try.ntmps17
    go_wp2
    all_goals go_ret
    all_goals exact ⟨by first | rfl | (simp; done) | (simp; omega) | (simp; split <;> simp_all <;> omega), (b0 _)⟩
  · have h1 : (f != 0) = true := by simpa using hf
    have h2 : (f == 0) = false := by simpa using hf
    have Hf := Lib.hid hf
    clear hf
    go_enter Try.func17, Try.ntmps17
    go_wp2
    all_goals go_ret
    all_goals have hf := Hf.out
    all_goals exact ⟨by first | rfl | (simp; done) | (simp; omega) | (simp; split <;> simp_all <;> omega), (b0 _)⟩

end Go.Proofs.Ytmaaekahkeibnaa
