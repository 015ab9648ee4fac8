/- Plain laws: unlike blocks stay unlike under one key. -/
import Derived.Test.YtiaceoecilinkaaA12
namespace Go.Proofs.Ytiaceoecilinkaa
open Go.RowKit
set_option linter.unusedSimpArgs false

theorem xor_zero_eq {a b : Nat} (h : a ^^^ b = 0) : a = b := by
  have h2 : (a ^^^ b) ^^^ b = 0 ^^^ b := by rw [h]
  rw [Nat.xor_assoc, Nat.xor_self, Nat.xor_zero, Nat.zero_xor] at h2
  exact h2
theorem xor_cancel {a b c : Nat} (h : a ^^^ c = b ^^^ c) : a = b := by
  have h2 : (a ^^^ c) ^^^ c = (b ^^^ c) ^^^ c := by rw [h]
  rwa [Nat.xor_assoc, Nat.xor_assoc, Nat.xor_self, Nat.xor_zero, Nat.xor_zero] at h2
theorem getD_ext {a b : List Nat} {n : Nat} (ha : a.length = n) (hb : b.length = n) (h : ∀ i, i < n → a.getD i 0 = b.getD i 0) : a = b := by
  apply List.ext_getElem (by omega)
  intro i h1 h2
  have := h i (by omega)
  simpa [List.getD, h1, h2] using this

theorem xorL_inj {a b k : List Nat} (ha : a.length = 16) (hb : b.length = 16) (hk : k.length = 16) (h : xorL a k = xorL b k) : a = b :=
  getD_ext ha hb fun i hi => by
    have h1 : (xorL a k).getD i 0 = (xorL b k).getD i 0 := by rw [h]
    rw [xorL_get (by omega) (by omega), xorL_get (by omega) (by omega)] at h1
    exact xor_cancel h1

theorem isb_all : (List.range 256).all (fun x => boxLit.idxOf (sb x) == x) = true := by decide +kernel
theorem sb_inj {x y : Nat} (hx : x < 256) (hy : y < 256) (h : sb x = sb y) : x = y := by
  have h1 := List.all_eq_true.1 isb_all x (List.mem_range.2 hx)
  have h2 := List.all_eq_true.1 isb_all y (List.mem_range.2 hy)
  simp only [beq_iff_eq] at h1 h2
  rw [← h1, ← h2, h]
theorem perm16 : ∀ j, j < 16 → ∃ i, i < 16 ∧ (i + 4 * (i % 4)) % 16 = j := by decide +kernel
theorem shL_inj {a b : List Nat} (ha : a.length = 16) (hb : b.length = 16) (ba : B256 a) (bb : B256 b) (h : shL a = shL b) : a = b :=
  getD_ext ha hb fun j hj => by
    obtain ⟨i, hi, e⟩ := perm16 j hj
    have h1 : (shL a).getD i 0 = (shL b).getD i 0 := by rw [h]
    unfold shL at h1
    rw [map16_get _ hi, map16_get _ hi, e] at h1
    exact sb_inj (ba.getD j) (bb.getD j) h1

theorem dblx_all : (List.range 256).all (fun x => (List.range 256).all (fun y => dbl (x ^^^ y) == (dbl x ^^^ dbl y))) = true := by decide +kernel
theorem dbl_xor {x y : Nat} (hx : x < 256) (hy : y < 256) : dbl (x ^^^ y) = dbl x ^^^ dbl y := by
  have h1 := List.all_eq_true.1 dblx_all x (List.mem_range.2 hx)
  have h2 := List.all_eq_true.1 h1 y (List.mem_range.2 hy)
  simpa using h2
/-- Half a byte's double. -/
def hlf (y : Nat) : Nat := ((List.range 256).map dbl).idxOf y
theorem hlf_all : (List.range 256).all (fun x => hlf (dbl x) == x) = true := by decide +kernel
theorem hlf_dbl {x : Nat} (hx : x < 256) : hlf (dbl x) = x := by
  simpa using List.all_eq_true.1 hlf_all x (List.mem_range.2 hx)
def nxt (x : Nat) : Nat := hlf (x ^^^ dbl x)
theorem nxt_all : (List.range 256).all (fun x => (x ^^^ nxt x ^^^ nxt (nxt x) ^^^ nxt (nxt (nxt x)) != 0) || x == 0) = true := by decide +kernel
theorem nxt_zero {x : Nat} (hx : x < 256) (h : x ^^^ nxt x ^^^ nxt (nxt x) ^^^ nxt (nxt (nxt x)) = 0) : x = 0 := by
  have h1 := List.all_eq_true.1 nxt_all x (List.mem_range.2 hx)
  simpa [h] using h1
theorem nxt_of {x y : Nat} (hx : x < 256) (hy : y < 256) (h : x ^^^ dbl (x ^^^ y) = 0) : y = nxt x := by
  rw [dbl_xor hx hy] at h
  have h2 : x ^^^ dbl x = dbl y := xor_zero_eq (by rw [Nat.xor_assoc]; exact h)
  unfold nxt
  rw [h2, hlf_dbl hy]

/-- A mixed byte: of the byte, of all four, of the next one. -/
def mc (x s y : Nat) : Nat := x ^^^ s ^^^ dbl (x ^^^ y)
theorem mc_diff {x s y x' s' y' : Nat} (hx : x < 256) (hy : y < 256) (hx' : x' < 256) (hy' : y' < 256) (h : mc x s y = mc x' s' y') : mc (x ^^^ x') (s ^^^ s') (y ^^^ y') = 0 := by
  have h0 : mc x s y ^^^ mc x' s' y' = 0 := by rw [h, Nat.xor_self]
  rw [← h0]
  unfold mc
  have e : x ^^^ x' ^^^ (y ^^^ y') = (x ^^^ y) ^^^ (x' ^^^ y') := by ac_rfl
  rw [e, dbl_xor (xor8 hx hy) (xor8 hx' hy')]
  ac_rfl
theorem col_zero {d0 d1 d2 d3 : Nat} (h0 : d0 < 256) (h1 : d1 < 256) (h2 : d2 < 256) (h3 : d3 < 256)
    (e0 : mc d0 (d0 ^^^ d1 ^^^ d2 ^^^ d3) d1 = 0) (e1 : mc d1 (d0 ^^^ d1 ^^^ d2 ^^^ d3) d2 = 0) (e2 : mc d2 (d0 ^^^ d1 ^^^ d2 ^^^ d3) d3 = 0) (e3 : mc d3 (d0 ^^^ d1 ^^^ d2 ^^^ d3) d0 = 0) :
    d0 = 0 ∧ d1 = 0 ∧ d2 = 0 ∧ d3 = 0 := by
  obtain ⟨s, hs⟩ : ∃ s, s = d0 ^^^ d1 ^^^ d2 ^^^ d3 := ⟨_, rfl⟩
  rw [← hs] at e0 e1 e2 e3
  have hsum : mc d0 s d1 ^^^ mc d1 s d2 ^^^ mc d2 s d3 ^^^ mc d3 s d0 = s := by
    unfold mc
    have a : d0 ^^^ s ^^^ dbl (d0 ^^^ d1) ^^^ (d1 ^^^ s ^^^ dbl (d1 ^^^ d2)) ^^^ (d2 ^^^ s ^^^ dbl (d2 ^^^ d3)) ^^^ (d3 ^^^ s ^^^ dbl (d3 ^^^ d0)) =
        (d0 ^^^ d1 ^^^ d2 ^^^ d3) ^^^ ((s ^^^ s) ^^^ (s ^^^ s)) ^^^ ((dbl (d0 ^^^ d1) ^^^ dbl (d1 ^^^ d2)) ^^^ (dbl (d2 ^^^ d3) ^^^ dbl (d3 ^^^ d0))) := by ac_rfl
    have b : (dbl (d0 ^^^ d1) ^^^ dbl (d1 ^^^ d2)) ^^^ (dbl (d2 ^^^ d3) ^^^ dbl (d3 ^^^ d0)) = 0 := by
      rw [← dbl_xor (xor8 h0 h1) (xor8 h1 h2), ← dbl_xor (xor8 h2 h3) (xor8 h3 h0), ← dbl_xor (xor8 (xor8 h0 h1) (xor8 h1 h2)) (xor8 (xor8 h2 h3) (xor8 h3 h0))]
      have e : d0 ^^^ d1 ^^^ (d1 ^^^ d2) ^^^ (d2 ^^^ d3 ^^^ (d3 ^^^ d0)) = (d0 ^^^ d0) ^^^ (d1 ^^^ d1) ^^^ ((d2 ^^^ d2) ^^^ (d3 ^^^ d3)) := by ac_rfl
      rw [e]; simp only [Nat.xor_self]; rfl
    rw [a, b, ← hs]; simp only [Nat.xor_self, Nat.xor_zero]
  have hs0 : s = 0 := by rw [← hsum, e0, e1, e2, e3]; rfl
  unfold mc at e0 e1 e2
  rw [hs0, Nat.xor_zero] at e0 e1 e2
  have n1 := nxt_of h0 h1 e0
  have n2 := nxt_of h1 h2 e1
  have n3 := nxt_of h2 h3 e2
  have hz : d0 = 0 := nxt_zero h0 (by rw [← n1, ← n2, ← n3, ← hs, hs0])
  have hn0 : nxt 0 = 0 := by decide +kernel
  subst hz
  rw [hn0] at n1
  subst n1
  rw [hn0] at n2
  subst n2
  rw [hn0] at n3
  exact ⟨rfl, rfl, rfl, n3⟩

theorem mxL_inj {a b : List Nat} (ha : a.length = 16) (hb : b.length = 16) (ba : B256 a) (bb : B256 b) (h : mxL a = mxL b) : a = b := by
  have hcol : ∀ q, q < 4 → a.getD (4 * q) 0 = b.getD (4 * q) 0 ∧ a.getD (4 * q + 1) 0 = b.getD (4 * q + 1) 0 ∧ a.getD (4 * q + 2) 0 = b.getD (4 * q + 2) 0 ∧ a.getD (4 * q + 3) 0 = b.getD (4 * q + 3) 0 := by
    intro q hq
    have hg : ∀ j, j < 16 → mx1 a j = mx1 b j := fun j hj => by
      have h1 : (mxL a).getD j 0 = (mxL b).getD j 0 := by rw [h]
      unfold mxL at h1
      rwa [map16_get _ hj, map16_get _ hj] at h1
    have g0 := hg (4 * q) (by omega)
    have g1 := hg (4 * q + 1) (by omega)
    have g2 := hg (4 * q + 2) (by omega)
    have g3 := hg (4 * q + 3) (by omega)
    unfold mx1 at g0 g1 g2 g3
    rw [show 4 * q / 4 = q from by omega, show 4 * q + (4 * q % 4 + 1) % 4 = 4 * q + 1 from by omega] at g0
    rw [show (4 * q + 1) / 4 = q from by omega, show 4 * q + ((4 * q + 1) % 4 + 1) % 4 = 4 * q + 2 from by omega] at g1
    rw [show (4 * q + 2) / 4 = q from by omega, show 4 * q + ((4 * q + 2) % 4 + 1) % 4 = 4 * q + 3 from by omega] at g2
    rw [show (4 * q + 3) / 4 = q from by omega, show 4 * q + ((4 * q + 3) % 4 + 1) % 4 = 4 * q from by omega] at g3
    unfold mxA at g0 g1 g2 g3
    have a0 := ba.getD (4 * q); have a1 := ba.getD (4 * q + 1); have a2 := ba.getD (4 * q + 2); have a3 := ba.getD (4 * q + 3)
    have c0 := bb.getD (4 * q); have c1 := bb.getD (4 * q + 1); have c2 := bb.getD (4 * q + 2); have c3 := bb.getD (4 * q + 3)
    generalize a.getD (4 * q) 0 = x0 at *
    generalize a.getD (4 * q + 1) 0 = x1 at *
    generalize a.getD (4 * q + 2) 0 = x2 at *
    generalize a.getD (4 * q + 3) 0 = x3 at *
    generalize b.getD (4 * q) 0 = y0 at *
    generalize b.getD (4 * q + 1) 0 = y1 at *
    generalize b.getD (4 * q + 2) 0 = y2 at *
    generalize b.getD (4 * q + 3) 0 = y3 at *
    have es : x0 ^^^ x1 ^^^ x2 ^^^ x3 ^^^ (y0 ^^^ y1 ^^^ y2 ^^^ y3) = (x0 ^^^ y0) ^^^ (x1 ^^^ y1) ^^^ (x2 ^^^ y2) ^^^ (x3 ^^^ y3) := by ac_rfl
    have f0 := mc_diff a0 a1 c0 c1 g0
    have f1 := mc_diff a1 a2 c1 c2 g1
    have f2 := mc_diff a2 a3 c2 c3 g2
    have f3 := mc_diff a3 a0 c3 c0 g3
    rw [es] at f0 f1 f2 f3
    obtain ⟨z0, z1, z2, z3⟩ := col_zero (xor8 a0 c0) (xor8 a1 c1) (xor8 a2 c2) (xor8 a3 c3) f0 f1 f2 f3
    exact ⟨xor_zero_eq z0, xor_zero_eq z1, xor_zero_eq z2, xor_zero_eq z3⟩
  refine getD_ext ha hb fun i hi => ?_
  obtain ⟨h0, h1, h2, h3⟩ := hcol (i / 4) (by omega)
  have hm : i % 4 = 0 ∨ i % 4 = 1 ∨ i % 4 = 2 ∨ i % 4 = 3 := by omega
  rcases hm with hm | hm | hm | hm
  · rwa [show 4 * (i / 4) = i from by omega] at h0
  · rwa [show 4 * (i / 4) + 1 = i from by omega] at h1
  · rwa [show 4 * (i / 4) + 2 = i from by omega] at h2
  · rwa [show 4 * (i / 4) + 3 = i from by omega] at h3

theorem rnd_inj {K a b : List Nat} (hK : K.length = 240) (hKb : B256 K) (ha : a.length = 16) (hb : b.length = 16) (ba : B256 a) (bb : B256 b) : ∀ r, r < 14 → rnd K a r = rnd K b r → a = b
  | 0, _, h => xorL_inj ha hb (rk_len hK (by omega)) h
  | r + 1, hr, h => by
    obtain ⟨la, ua⟩ := rnd_ok hK hKb ha ba r (by omega)
    obtain ⟨lb, ub⟩ := rnd_ok hK hKb hb bb r (by omega)
    have h1 := xorL_inj (map16_len _) (map16_len _) (rk_len hK (by omega)) h
    have h2 := mxL_inj (map16_len _) (map16_len _) (sh_256 _) (sh_256 _) h1
    exact rnd_inj hK hKb ha hb ba bb r (by omega) (shL_inj la lb ua ub h2)
theorem aes_inj {K a b : List Nat} (hK : K.length = 240) (hKb : B256 K) (ha : a.length = 16) (hb : b.length = 16) (ba : B256 a) (bb : B256 b) : aesP K a = aesP K b ↔ a = b := by
  constructor
  · intro h
    obtain ⟨la, ua⟩ := rnd_ok hK hKb ha ba 13 (by omega)
    obtain ⟨lb, ub⟩ := rnd_ok hK hKb hb bb 13 (by omega)
    have h1 := xorL_inj (map16_len _) (map16_len _) (rk_len hK (by omega)) h
    exact rnd_inj hK hKb ha hb ba bb 13 (by omega) (shL_inj la lb ua ub h1)
  · rintro rfl; rfl
end Go.Proofs.Ytiaceoecilinkaa
