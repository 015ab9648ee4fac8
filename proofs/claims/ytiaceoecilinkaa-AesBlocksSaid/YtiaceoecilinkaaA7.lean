/- The words of all rounds' keys, as the program and the reference reckon them. -/
import Derived.Test.YtiaceoecilinkaaA6
namespace Go.Proofs.Ytiaceoecilinkaa
open Go.RowKit
set_option linter.unusedSimpArgs false

/-- A word's four bytes. -/
structure Wd where
  a : Nat
  b : Nat
  c : Nat
  d : Nat
def Wd.n (x : Wd) : Nat := w4 x.a x.b x.c x.d
def Wd.bs (x : Wd) : List Nat := [x.a, x.b, x.c, x.d]
def Wd.ok (x : Wd) : Prop := x.a < 256 ∧ x.b < 256 ∧ x.c < 256 ∧ x.d < 256
def Wd.sub (x : Wd) : Wd := ⟨sb x.a, sb x.b, sb x.c, sb x.d⟩
def Wd.mixr (x : Wd) (r : Nat) : Wd := ⟨sb x.b ^^^ r, sb x.c, sb x.d, sb x.a⟩
def Wd.xor (x y : Wd) : Wd := ⟨x.a ^^^ y.a, x.b ^^^ y.b, x.c ^^^ y.c, x.d ^^^ y.d⟩
def Wd.zero : Wd := ⟨0, 0, 0, 0⟩
theorem Wd.zero_ok : Wd.zero.ok := ⟨by decide, by decide, by decide, by decide⟩
theorem xor8 {a b : Nat} (ha : a < 256) (hb : b < 256) : a ^^^ b < 256 := Nat.xor_lt_two_pow (n := 8) ha hb
theorem Wd.xor_ok {x y : Wd} (hx : x.ok) (hy : y.ok) : (x.xor y).ok := ⟨xor8 hx.1 hy.1, xor8 hx.2.1 hy.2.1, xor8 hx.2.2.1 hy.2.2.1, xor8 hx.2.2.2 hy.2.2.2⟩
theorem Wd.sub_ok (x : Wd) : x.sub.ok := ⟨sb_lt _, sb_lt _, sb_lt _, sb_lt _⟩
theorem Wd.mixr_ok (x : Wd) {r : Nat} (hr : r < 256) : (x.mixr r).ok := ⟨xor8 (sb_lt _) hr, sb_lt _, sb_lt _, sb_lt _⟩
theorem Wd.n_lt {x : Wd} (h : x.ok) : x.n < 4294967296 := by
  obtain ⟨h1, h2, h3, h4⟩ := h
  unfold Wd.n w4; omega

def rcon : Nat → Nat
  | 0 => 1
  | j + 1 => dbl (rcon j)
theorem rcon_lt : ∀ j, rcon j < 256
  | 0 => (by decide : 1 < 256)
  | _ + 1 => dbl_lt _
def kw (key : List Nat) (j : Nat) : Wd := ⟨key.getD (4 * j) 0, key.getD (4 * j + 1) 0, key.getD (4 * j + 2) 0, key.getD (4 * j + 3) 0⟩
def nx (L : List Wd) (i : Nat) : Wd :=
  (L.getD (i - 8) .zero).xor (if i % 8 = 0 then (L.getD (i - 1) .zero).mixr (rcon (i / 8 - 1)) else if i % 8 = 4 then (L.getD (i - 1) .zero).sub else L.getD (i - 1) .zero)
/-- The first words. -/
def wl (key : List Nat) : Nat → List Wd
  | 0 => []
  | i + 1 => wl key i ++ [if i < 8 then kw key i else nx (wl key i) i]
theorem wl_len (key : List Nat) : ∀ i, (wl key i).length = i
  | 0 => rfl
  | i + 1 => by simp [wl, wl_len key i]
theorem getD_ok {L : List Wd} (h : ∀ x ∈ L, x.ok) (i : Nat) : (L.getD i .zero).ok := by
  by_cases hi : i < L.length
  · simp only [List.getD, List.getElem?_eq_getElem hi, Option.getD_some]
    exact h _ (List.getElem_mem hi)
  · simp only [List.getD, List.getElem?_eq_none (Nat.le_of_not_lt hi), Option.getD_none]
    exact Wd.zero_ok
theorem nx_ok {L : List Wd} (h : ∀ x ∈ L, x.ok) (i : Nat) : (nx L i).ok := by
  unfold nx
  refine Wd.xor_ok (getD_ok h _) ?_
  split
  · exact Wd.mixr_ok _ (rcon_lt _)
  · split
    · exact Wd.sub_ok _
    · exact getD_ok h _
theorem kw_ok {key : List Nat} (h : ∀ x ∈ key, x < 256) (j : Nat) : (kw key j).ok := by
  have hg : ∀ i, key.getD i 0 < 256 := fun i => by
    by_cases hi : i < key.length
    · simp only [List.getD, List.getElem?_eq_getElem hi, Option.getD_some]
      exact h _ (List.getElem_mem hi)
    · simp [List.getD, List.getElem?_eq_none (Nat.le_of_not_lt hi)]
  exact ⟨hg _, hg _, hg _, hg _⟩
theorem wl_ok {key : List Nat} (h : ∀ x ∈ key, x < 256) : ∀ i, ∀ x ∈ wl key i, x.ok
  | 0, x, hx => by simp [wl] at hx
  | i + 1, x, hx => by
    simp only [wl, List.mem_append, List.mem_singleton] at hx
    rcases hx with hx | hx
    · exact wl_ok h i x hx
    · subst hx
      split
      · exact kw_ok h i
      · exact nx_ok (wl_ok h i) i

theorem xor_join (i x y b c : Nat) (hb : b < 2 ^ i) (hc : c < 2 ^ i) : (x * 2 ^ i + b) ^^^ (y * 2 ^ i + c) = (x ^^^ y) * 2 ^ i + (b ^^^ c) := by
  have hbc : b ^^^ c < 2 ^ i := Nat.xor_lt_two_pow hb hc
  apply Nat.eq_of_testBit_eq
  intro j
  rw [Nat.testBit_xor, Nat.mul_comm x, Nat.mul_comm y, Nat.mul_comm (x ^^^ y), Nat.testBit_two_pow_mul_add _ hb, Nat.testBit_two_pow_mul_add _ hc, Nat.testBit_two_pow_mul_add _ hbc]
  by_cases hj : j < i
  · simp [hj]
  · simp [hj]
theorem w4_xor (a b c d a' b' c' d' : Nat) (hb : b < 256) (hc : c < 256) (hd : d < 256) (hb' : b' < 256) (hc' : c' < 256) (hd' : d' < 256) :
    w4 a b c d ^^^ w4 a' b' c' d' = w4 (a ^^^ a') (b ^^^ b') (c ^^^ c') (d ^^^ d') := by
  have e : ∀ p q r s : Nat, w4 p q r s = ((p * 2 ^ 8 + q) * 2 ^ 8 + r) * 2 ^ 8 + s := fun p q r s => by unfold w4; omega
  rw [e, e, e, xor_join 8 _ _ d d' hd hd', xor_join 8 _ _ c c' hc hc', xor_join 8 _ _ b b' hb hb']
theorem Wd.n_xor {x y : Wd} (hx : x.ok) (hy : y.ok) : bits .xor .u32 (x.n : Int) (y.n : Int) = (((x.xor y).n : Nat) : Int) := by
  rw [u32_xor_nat x.n y.n (Wd.n_lt hx) (Wd.n_lt hy)]
  unfold Wd.n
  rw [w4_xor x.a x.b x.c x.d y.a y.b y.c y.d hx.2.1 hx.2.2.1 hx.2.2.2 hy.2.1 hy.2.2.1 hy.2.2.2]
  rfl

def uv (x : Nat) : Value := .int .u32 (x : Int)
/-- The cells of the array of words. -/
def wcs (L : List Wd) : List Value := L.map (fun x => uv x.n) ++ List.replicate (60 - L.length) (uv 0)
theorem wcs_len (L : List Wd) (h : L.length ≤ 60) : (wcs L).length = 60 := by simp [wcs]; omega
theorem wcs_get {L : List Wd} {j : Nat} (h : j < L.length) : (wcs L)[j]? = some (.int .u32 ((L.getD j .zero).n : Nat)) := by
  unfold wcs
  rw [List.getElem?_append_left (by simpa using h)]
  simp [List.getD, h, uv]
theorem wcs_snoc (L : List Wd) (x : Wd) (h : L.length < 60) : (wcs L).set L.length (.int .u32 (x.n : Nat)) = wcs (L ++ [x]) := by
  unfold wcs
  obtain ⟨m, hm⟩ : ∃ m, 60 - L.length = m + 1 := ⟨59 - L.length, by omega⟩
  rw [hm, List.set_append_right _ _ (by simp)]
  simp only [List.length_map, Nat.sub_self, List.replicate_succ, List.set_cons_zero, List.map_append, List.map_cons, List.map_nil, List.length_append, List.length_cons, List.length_nil, List.append_assoc, List.cons_append, List.nil_append]
  rw [show 60 - (L.length + (0 + 1)) = m from by omega]
  rfl

theorem index52 (cs : List Value) (k : Nat) (v : Value) (hk : k < 60) (hv : cs[k]? = some v) (W : World) : Sem.run Try.prog (Instr.index 52 (.agg cs.toArray) (.int .i64 (k : Int))) W = .ok v W := by
  have h0 : (0 : Int) ≤ (k : Int) ∧ (k : Int) < ((60 : Nat) : Int) := by omega
  simp [Instr.index, asIntOf, run_underlying Try.underlying52, h0, go_sem, hk, hv]

end Go.Proofs.Ytiaceoecilinkaa
