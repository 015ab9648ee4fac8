/- The reference's Boxes, both: what they answer. -/
import Derived.Test.YtiaceoecilinkaaA4
import Derived.Test.YtiaceoecilinkaaA12
import Derived.Test.YtiaceoecilinkaaA13
import Derived.StillTailTactics
import Derived.Deep.RegionHeld3
namespace Go.Proofs.Ytiaceoecilinkaa
open Go.RowKit
set_option linter.unusedSimpArgs false

/-- append(out, xs...) at a step of a region that draws its order. -/
theorem stA {T E : TypeId} {z : Value} {by_ : Nat} (R : Row1 T E z by_) {ops : Array Oper} {o : Oper} {a : Act} {K : Act → World → Prop} {Q : Exit → Act → World → Prop} {W : World} {X : Prop} (hgd : o.guard = none) (s x : Operand)
    (ho : o.op = .call { callee := .builtin .append, args := #[s, x], argTypes := #[T, T] }) (base : Nat) (val : Value) (n : Nat) (l m : List Value) (hs : a.eval s = val)
    (hown : W.ownsRow base E 1 val n l) (b f c : Nat) (hx : a.eval x = .slice (some ⟨b, f, none⟩) m.length c) (hm : ∀ j u, m[j]? = some u → W.cell? ⟨b, f + j, none⟩ = some u) (hone : ∀ u ∈ m, u.oneCell' = true) (hl : n ≤ 1000000) (hl2 : m.length ≤ 1000000) (hbase : base ≤ W.heap.size)
    (h : ∀ v' w', w'.ownsRow base E 1 v' (n + m.length) (l ++ m) → Below base W w' → K (a.put o.dst v') w') :
    if Region.wanted o (yielded ops a.tmps) = true then Oper.wp Try.prog o a W K Q else X := by
  have hw : Region.wanted o (yielded ops a.tmps) = true := by simp [Region.wanted, hgd]
  rw [if_pos hw]
  obtain ⟨i0, hi, hz0, hz1, hz2⟩ := info_parts R.inf
  have hby := R.small
  have hmul : (n + m.length) * by_ ≤ (n + m.length) * 24 := Nat.mul_le_mul_left _ hby
  obtain ⟨v', w', hrun, h2, h3, _⟩ := run_append_own_at (P := Try.prog) W base T o.type E i0 _ 1 by_ R.und hi hz0 hz1 hz2 R.one (by decide) val n l hown ⟨b, f, none⟩ m.length c m (by omega) (fun j u hu => by rw [Addr.add_lit]; exact hm j u hu) hone (by simp only [maxLen]; omega) (by omega) hbase
  unfold Oper.wp execOp
  simp only [ho, resolve, invoke, builtin, Sem.run_bind, Sem.run_pure, Result.andThen_ok, List.map_toArray, List.map_cons, List.map_nil, hs, hx, hrun]
  exact h v' w' h2 (below_of_grown h3 (b0 _) hbase (fun k hk => (hown.lt k hk).1))

theorem boxLit_take (k : Nat) (hk : k < 256) : boxLit.take (k + 1) = boxLit.take k ++ [sb k] := take_getD (by rw [boxLit_len]; exact hk)
set_option maxHeartbeats 2000000 in
theorem boxes14 (w : World) : Calls Try.prog 14 #[] w (BytRes w boxLit) := by
  have Hs := Lib.hid boxLit_take
  have Hf : Hid (boxLit.take 256 = boxLit) := List.take_of_length_le (Nat.le_of_eq boxLit_len)
  have Hz : Hid (boxLit.take 0 = []) := rfl
  have Hl := Lib.hid boxLit_len
  generalize htk : (fun k => boxLit.take k) = T at *
  have hT : ∀ k, boxLit.take k = T k := fun k => by rw [← htk]
  simp only [hT] at Hs Hf Hz
  clear hT htk
  generalize boxLit = box at *
  go_enter Try.func14, Try.ntmps14
  go_wp2_with fail
  go_loopw [1, 2] (fun o i wr => ∃ k : Nat, k ≤ 256 ∧ i = .int .i64 k ∧ Hid (wr.ownsRow w.heap.size 5 1 o k (bvs (T k))) ∧ Hid (Below w.heap.size w wr)) (fun _ i _ => 256 - (intOf i).toNat)
  case atStart => exact ⟨0, by omega, rfl, by rw [Hz.out]; exact own_nil _ _ _, Below.refl _ _⟩
  case round =>
    obtain ⟨k, hk, rfl, HO, HB⟩ := hrel
    by_cases hlt : k < 256
    · have hkz : (k : Int) < 256 := by omega
      have hk0 : (0 : Int) ≤ (k : Int) := by omega
      have HS := Lib.hid (Hs.out k hlt)
      have q9 := Lib.hid (fun W => rbox9 k W hlt)
      generalize T k = L at *
      generalize sb k = y at *
      go_wp2_with (first
        | (go_at_call 9; refine (q9.out _).mono ?_; rintro e w1 ⟨rfl, hb1⟩; have HO1 : Hid (w1.ownsRow w.heap.size 5 1 _ k (bvs L)) := own_below HO.out hb1; have HB1 : Hid (Below w.heap.size w w1) := bt HB.out hb1; have hbase := HB1.out.size; clear hb1)
        | (at_builtin; refine ap1 row27 rfl (.tmp 7) (.tmp 11) rfl w.heap.size _ k (bvs L) _ rfl HO1.out rfl rfl (by omega) hbase ?_; intro v2 w2 hown2 hb2; have Hown2 := Lib.hid hown2; clear hown2))
      go_roundw
      case rel => exact ⟨k + 1, by omega, by go_num, by rw [HS.out, ← bvs_snoc]; exact Hown2.out, HB1.out.trans hb2⟩
      case measure => simp [intOf]; omega
    · have : k = 256 := by omega
      subst this
      rw [Hf.out] at HO
      obtain ⟨A2, c2, hv, h5, h6, h7⟩ := own_form HO.out
      subst hv
      have H6 := Lib.hid h6
      have H7 := Lib.hid h7
      clear h6 h7
      go_wp2_with fail
      go_ret
      exact ⟨A2, c2, by rw [Hl.out]; rfl, by rw [Hl.out]; exact h5, H6.out, H7.out, HB.out⟩

/-- Bytes that are handed back, as a row of the call's own. -/
def OwnRes (w : World) (r : List Nat) (e : Ending) (w' : World) : Prop :=
  ∃ v, e = .returned v ∧ w'.ownsRow w.heap.size 5 1 v r.length (bvs r) ∧ Below w.heap.size w w'

set_option maxHeartbeats 2000000 in
theorem both27o (A B : Option Addr) (c d : Nat) (a b : List Nat) (w : World) (hA : Rd w A (bvs a)) (hB : Rd w B (bvs b)) (ha : B256 a) (hb : B256 b) (hl : a.length = b.length) (hs : a.length ≤ 1000) :
    Calls Try.prog 27 #[.slice A a.length c, .slice B b.length d] w (OwnRes w (xorL a b)) := by
  have hxl : (xorL a b).length = a.length := xor_len rfl hl.symm
  have Hs : Hid (∀ k, k < a.length → (xorL a b).take (k + 1) = (xorL a b).take k ++ [a.getD k 0 ^^^ b.getD k 0]) := fun k hk => by
    rw [take_getD (by omega), xorL_get hk (by omega)]
  have Hf : Hid ((xorL a b).take a.length = xorL a b) := List.take_of_length_le (Nat.le_of_eq hxl)
  have Hz : Hid ((xorL a b).take 0 = []) := rfl
  have Hl := Lib.hid hxl
  have HA : Hid (∀ W, Below w.heap.size w W → ∀ k, k < a.length → ∃ g o, A = some ⟨g, o, none⟩ ∧ g < w.heap.size ∧ W.cell? ⟨g, o + k, none⟩ = some (.int .u8 ((a.getD k 0 : Nat) : Int))) := fun W hW k hk => by
    obtain ⟨g, o, h1, h2, h3⟩ := bvs_at hA k hk
    exact ⟨g, o, h1, h2, ((bcell hW).1 _ _ h2).trans h3⟩
  have HB' : Hid (∀ W, Below w.heap.size w W → ∀ k, k < a.length → ∃ g o, B = some ⟨g, o, none⟩ ∧ g < w.heap.size ∧ W.cell? ⟨g, o + k, none⟩ = some (.int .u8 ((b.getD k 0 : Nat) : Int))) := fun W hW k hk => by
    obtain ⟨g, o, h1, h2, h3⟩ := bvs_at hB k (by omega)
    exact ⟨g, o, h1, h2, ((bcell hW).1 _ _ h2).trans h3⟩
  have Ha := Lib.hid (ha.getD)
  have Hb := Lib.hid (hb.getD)
  rw [← hl]
  clear hxl hA hB ha hb hl
  generalize htk : (fun k => (xorL a b).take k) = T at *
  have hT : ∀ k, (xorL a b).take k = T k := fun k => by rw [← htk]
  simp only [hT] at Hs Hf Hz
  clear hT htk
  generalize xorL a b = res at *
  generalize a.length = n at *
  go_enter Try.func27, Try.ntmps27
  go_wp2_with fail
  go_loopw [5, 6] (fun o i wr => ∃ k : Nat, k ≤ n ∧ i = .int .i64 k ∧ Hid (wr.ownsRow w.heap.size 5 1 o k (bvs (T k))) ∧ Hid (Below w.heap.size w wr)) (fun _ i _ => n - (intOf i).toNat)
  case atStart => exact ⟨0, by omega, rfl, by rw [Hz.out]; exact own_nil _ _ _, Below.refl _ _⟩
  case round =>
    obtain ⟨k, hk, rfl, HO, HB⟩ := hrel
    by_cases hlt : k < n
    · have hkz : (k : Int) < (n : Int) := by omega
      have hk0 : (0 : Int) ≤ (k : Int) := by omega
      have HS := Lib.hid (Hs.out k hlt)
      obtain ⟨g1, o1, rfl, hg1, c1⟩ := HA.out _ HB.out k hlt
      obtain ⟨g2, o2, rfl, hg2, c2⟩ := HB'.out _ HB.out k hlt
      have hx := u8_xor_nat (a.getD k 0) (b.getD k 0) (Ha.out k) (Hb.out k)
      have hz := xor8 (Ha.out k) (Hb.out k)
      have hbase := HB.out.size
      generalize T k = L at *
      generalize a.getD k 0 ^^^ b.getD k 0 = z at *
      generalize a.getD k 0 = x at *
      generalize b.getD k 0 = y at *
      go_wp2_with fail
      have Hcell : Hid (∀ W : World, (W.alloc (.cells #[.int .u8 (z : Int)] 5)).cell? ⟨W.heap.size, 0, none⟩ = some (.int .u8 (z : Int))) := fun W => by
        rw [World.cell?_alloc_at _ _ _ _ rfl]; rfl
      have Hm : Hid (∀ j u, ([.int .u8 (z : Int)] : List Value)[j]? = some u → (wr.alloc (.cells #[.int .u8 (z : Int)] 5)).cell? ⟨wr.heap.size, 0 + j, none⟩ = some u) := fun j u hu => by
        rw [Nat.zero_add, World.cell?_alloc_at _ _ _ _ rfl]; simpa using hu
      have Hone : Hid (∀ u ∈ ([.int .u8 (z : Int)] : List Value), u.oneCell' = true) := fun u hu => by rw [List.mem_singleton] at hu; rw [hu]; rfl
      have HO1 : Hid ((wr.alloc (.cells #[.int .u8 (z : Int)] 5)).drew.ownsRow w.heap.size 5 1 _ k (bvs L)) := own_below HO.out (bdr (ba (b0 _) _))
      have HO2 : Hid ((wr.drew.alloc (.cells #[.int .u8 (z : Int)] 5)).ownsRow w.heap.size 5 1 _ k (bvs L)) := own_below HO.out (ba (bdr (b0 _)) _)
      have hb1 : w.heap.size ≤ (wr.alloc (.cells #[.int .u8 (z : Int)] 5)).heap.size := by simp; omega
      have Hb1 := Lib.hid hb1
      clear hb1
      have HC1 : Hid ((wr.alloc (.cells #[.int .u8 (z : Int)] 5)).drew.cell? ⟨g1, o1 + k, none⟩ = some (.int .u8 (x : Int))) := ((bcell (bdr (ba (b0 wr) _))).1 _ _ (Nat.lt_of_lt_of_le hg1 hbase)).trans c1
      have HC2 : Hid ((wr.alloc (.cells #[.int .u8 (z : Int)] 5)).drew.cell? ⟨g2, o2 + k, none⟩ = some (.int .u8 (y : Int))) := ((bcell (bdr (ba (b0 wr) _))).1 _ _ (Nat.lt_of_lt_of_le hg2 hbase)).trans c2
      have hn1 : wr.heap.size ≠ g1 := by omega
      have hn2 : wr.heap.size ≠ g2 := by omega
      go_region_held3 (fun w' => w'.cell? ⟨g1, o1 + k, none⟩ = some (.int .u8 (x : Int)) ∧ w'.cell? ⟨g2, o2 + k, none⟩ = some (.int .u8 (y : Int))) (first | go_keep | exact ⟨(hb2.cell (p := ⟨g1, o1 + k, none⟩) hg1).trans HC1.out, (hb2.cell (p := ⟨g2, o2 + k, none⟩) hg2).trans HC2.out⟩)
        ((refine stA row27 rfl (.tmp 13) (.tmp 23) rfl w.heap.size _ k (bvs L) [.int .u8 (z : Int)] rfl HO1.out wr.heap.size 0 1 rfl Hm.out Hone.out (by omega) (by simp) Hb1.out ?_; intro v2 w2 hown2 hb2; have Hown2 := Lib.hid hown2; clear hown2))
      go_wp2_with fail
      go_roundw
      case rel => exact ⟨k + 1, by omega, by go_num, by rw [HS.out, ← bvs_snoc]; exact Hown2.out, (bdr (ba HB.out _)).trans hb2⟩
      case measure => simp [intOf]; omega
    · have : k = n := by omega
      subst this
      rw [Hf.out] at HO
      go_wp2_with fail
      go_ret
      exact ⟨_, rfl, by rw [Hl.out]; exact HO.out, HB.out⟩

theorem both27 (A B : Option Addr) (c d : Nat) (a b : List Nat) (w : World) (hA : Rd w A (bvs a)) (hB : Rd w B (bvs b)) (ha : B256 a) (hb : B256 b) (hl : a.length = b.length) (hs : a.length ≤ 1000) :
    Calls Try.prog 27 #[.slice A a.length c, .slice B b.length d] w (BytRes w (xorL a b)) :=
  (both27o A B c d a b w hA hB ha hb hl hs).mono fun e w' ⟨v, h1, h2, h3⟩ => by
    obtain ⟨A2, c2, hv, h5, h6, h7⟩ := own_form h2
    subst hv
    exact ⟨A2, c2, h1, h5, h6, h7, h3⟩
end Go.Proofs.Ytiaceoecilinkaa
