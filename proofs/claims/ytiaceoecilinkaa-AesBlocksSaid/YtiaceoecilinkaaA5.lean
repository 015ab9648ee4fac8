/- Rows of one-cell elements that a call makes: what append leaves; Get, Put, digit, Hex. -/
import Derived.Test.YtiaceoecilinkaaA3
import Derived.Maps.AppendAt
import Derived.Deep.AppendLies
import Derived.Laws.AppendOwnNone
namespace Go.Proofs.Ytiaceoecilinkaa
open Go.RowKit
set_option linter.unusedSimpArgs false

/-- A slice type of one-cell elements. -/
structure Row1 (T E : TypeId) (z : Value) (by_ : Nat) : Prop where
  und : Try.prog.underlying T = some (.slice E)
  inf : (Try.prog.info? E).map (fun i => (i.zero, i.size, i.bytes)) = some (some z, 1, by_)
  one : z.cells.size = 1
  small : by_ ≤ 24
theorem row27 : Row1 27 5 (.int .u8 0) 1 := ⟨Try.underlying27, by kernel_rfl, rfl, by decide⟩
theorem row38 : Row1 38 27 (.slice none 0 0) 24 := ⟨Try.underlying38, by kernel_rfl, rfl, by decide⟩

theorem below_of_grown {W W1 w' : World} {base : Nat} {row : Option Nat} (hg : W1.grownBy w' row) (hb : Below W.heap.size W W1) (hbase : base ≤ W.heap.size) (hr : ∀ k, row = some k → base ≤ k) : Below base W w' :=
  (hb.mono hbase).grown hg (Nat.le_trans hbase hb.size) hr

section
variable {T E : TypeId} {z : Value} {by_ : Nat}
/-- append(out, u). -/
theorem ap1 (R : Row1 T E z by_) {ops : Array Oper} {rest : List Oper} {o : Oper} {a : Act} {Q : Exit → Act → World → Prop} {W : World} (hgd : o.guard = none) (s x : Operand)
    (ho : o.op = .call { callee := .builtin .append, args := #[s, x], argTypes := #[T, T] }) (base : Nat) (val : Value) (n : Nat) (l : List Value) (u : Value) (hs : a.eval s = val)
    (hown : W.ownsRow base E 1 val n l) (hx : a.eval x = .slice (some ⟨W.heap.size, 0, none⟩) 1 1) (hu : u.oneCell' = true) (hl : n ≤ 1000000) (hbase : base ≤ W.heap.size)
    (h : ∀ v' w', w'.ownsRow base E 1 v' (n + 1) (l ++ [u]) → Below base W w' → wpList Try.prog ops Q rest (a.put o.dst v') w') :
    wpList Try.prog ops Q (o :: rest) a (W.alloc (.cells #[u] E)) := by
  obtain ⟨i0, hi, hz0, hz1, hz2⟩ := info_parts R.inf
  have hown1 := hown.alloc (.cells #[u] E)
  have hby := R.small
  have hmul : (n + 1) * by_ ≤ (n + 1) * 24 := Nat.mul_le_mul_left _ hby
  refine wpList_append_own_at _ hgd s x T ho base E i0 _ 1 by_ R.und hi hz0 hz1 hz2 R.one (by decide) val n l hs hown1 ⟨W.heap.size, 0, none⟩ 1 1 [u] hx rfl (fun j v hv => ?_) (fun v hv => by rw [List.mem_singleton] at hv; rw [hv]; exact hu) (by simp only [maxLen]; omega) (by omega) (by simp; omega) ?_
  · rw [Addr.add_lit, Nat.zero_add, World.cell?_alloc_at _ _ _ _ rfl]
    simpa using hv
  · intro v' w' h1 hg _ _
    exact h v' w' h1 (below_of_grown hg (ba (b0 _) _) hbase (fun k hk => (hown.lt k hk).1))

/-- append(out, xs...), nil let in. -/
theorem apA (R : Row1 T E z by_) {ops : Array Oper} {rest : List Oper} {o : Oper} {a : Act} {Q : Exit → Act → World → Prop} {W : World} (hgd : o.guard = none) (s x : Operand)
    (ho : o.op = .call { callee := .builtin .append, args := #[s, x], argTypes := #[T, T] }) (base : Nat) (val : Value) (n : Nat) (l m : List Value) (hs : a.eval s = val)
    (hown : W.ownsRow base E 1 val n l) (A : Option Addr) (c : Nat) (hx : a.eval x = .slice A m.length c) (hnil : A = none → c = 0) (hm : Rd W A m) (hone : ∀ u ∈ m, u.oneCell' = true) (hl : n ≤ 1000000) (hl2 : m.length ≤ 1000000) (hbase : base ≤ W.heap.size)
    (h : ∀ v' w', w'.ownsRow base E 1 v' (n + m.length) (l ++ m) → Below base W w' → wpList Try.prog ops Q rest (a.put o.dst v') w') :
    wpList Try.prog ops Q (o :: rest) a W := by
  obtain ⟨i0, hi, hz0, hz1, hz2⟩ := info_parts R.inf
  have hby := R.small
  have hmul : (n + m.length) * by_ ≤ (n + m.length) * 24 := Nat.mul_le_mul_left _ hby
  by_cases h0 : m = []
  · subst h0
    cases A with
    | none =>
      have hc := hnil rfl
      subst hc
      have hr := run_append_owned_none (P := Try.prog) (w := W) base T o.type E i0 1 R.und hi val n l hown
      refine wpList_plain hgd fun K hK => ?_
      unfold Oper.wp execOp
      simp only [ho, resolve, invoke, builtin, Sem.run_bind, Sem.run_pure, Result.andThen_ok, List.map_toArray, List.map_cons, List.map_nil, hs, hx, List.length_nil, hr]
      exact hK _ _ (h val W (by simpa using hown) (Below.refl _ _))
    | some ad =>
      refine wpList_append_own_at _ hgd s x T ho base E i0 _ 1 by_ R.und hi hz0 hz1 hz2 R.one (by decide) val n l hs hown ad 0 c [] hx rfl (fun j u hu => by simp at hu) (fun u hu => by simp at hu) (by simp only [maxLen]; omega) (by simpa using Nat.le_trans hmul (by omega)) hbase ?_
      intro v' w' h1 hg _ _
      exact h v' w' h1 (below_of_grown hg (b0 _) hbase (fun k hk => (hown.lt k hk).1))
  · have hpos : 0 < m.length := List.length_pos_iff.2 h0
    obtain ⟨b, f, rfl, _, hc⟩ := hm.at_ hpos
    refine wpList_append_own_at _ hgd s x T ho base E i0 _ 1 by_ R.und hi hz0 hz1 hz2 R.one (by decide) val n l hs hown ⟨b, f, none⟩ m.length c m hx (by omega) (fun j u hu => ?_) hone (by simp only [maxLen]; omega) (by omega) hbase ?_
    · rw [Addr.add_lit]
      exact hc j u hu
    · intro v' w' h1 hg _ _
      exact h v' w' h1 (below_of_grown hg (b0 _) hbase (fun k hk => (hown.lt k hk).1))
end

theorem own_nil (w : World) (base : Nat) (E : TypeId) : w.ownsRow base E 1 (.slice none 0 0) 0 [] := ⟨by simp, .inl ⟨rfl, rfl⟩⟩
theorem own_form {w : World} {base n : Nat} {E : TypeId} {v : Value} {l : List Value} (h : w.ownsRow base E 1 v n l) : ∃ A c, v = .slice A n c ∧ n ≤ c ∧ (A = none → c = 0) ∧ Rd w A l := by
  rcases h.2 with ⟨rfl, hn⟩ | ⟨g, cap, cur, rfl, hg, hh, hn, _, _, htake⟩
  · subst hn
    have : l = [] := List.eq_nil_of_length_eq_zero (by simpa using h.1)
    subst this
    exact ⟨none, 0, rfl, Nat.le_refl _, fun _ => rfl, .inl rfl⟩
  · refine ⟨some ⟨g, 0, none⟩, cap, rfl, hn, fun h => (by cases h), .inr ⟨g, 0, rfl, fun j u hu => ?_⟩⟩
    rw [Nat.zero_add, cell_of_row w g j cur E (0, 0) hh]
    rw [← htake, List.getElem?_take] at hu
    split at hu
    · simpa using hu
    · cases hu
theorem own_below {w w' : World} {base n : Nat} {E : TypeId} {v : Value} {l : List Value} (h : w.ownsRow base E 1 v n l) (hb : Below w.heap.size w w') : w'.ownsRow base E 1 v n l := by
  refine ⟨h.1, ?_⟩
  rcases h.2 with h2 | ⟨g, cap, cur, h3, h4, hh, h5⟩
  · exact .inl h2
  · have hlt : g < w.heap.size := by
      rcases Nat.lt_or_ge g w.heap.size with hlt | hge
      · exact hlt
      · rw [Array.getElem?_eq_none hge] at hh; cases hh
    exact .inr ⟨g, cap, cur, h3, h4, (hb.block g hlt).trans hh, h5⟩
theorem bvs_one (xs : List Nat) : ∀ u ∈ bvs xs, u.oneCell' = true := by
  intro u hu
  obtain ⟨x, _, rfl⟩ := List.mem_map.1 hu
  rfl
theorem bvs_snoc (xs : List Nat) (x : Nat) : bvs xs ++ [.int .u8 (x : Int)] = bvs (xs ++ [x]) := by simp [bvs, bv]
theorem bvs_append (xs ys : List Nat) : bvs xs ++ bvs ys = bvs (xs ++ ys) := by simp [bvs]

/-- Bytes that are handed back, in memory of the call's own. -/
def BytRes (w : World) (r : List Nat) (e : Ending) (w' : World) : Prop :=
  ∃ A c, e = .returned (.slice A r.length c) ∧ r.length ≤ c ∧ (A = none → c = 0) ∧ Rd w' A (bvs r) ∧ Below w.heap.size w w'

/-- A number of bytes, the highest first. -/
def getP (xs : List Nat) : Nat := xs.foldl (fun n c => n * 256 + c) 0
theorem getP_snoc (xs : List Nat) (x : Nat) : getP (xs ++ [x]) = getP xs * 256 + x := by simp [getP]
theorem getP_lt : ∀ (n : Nat) (xs : List Nat), xs.length = n → (∀ x ∈ xs, x < 256) → getP xs < 256 ^ n
  | 0, xs, hl, _ => by
    have : xs = [] := List.eq_nil_of_length_eq_zero hl
    subst this; decide
  | n + 1, xs, hl, h => by
    rcases List.eq_nil_or_concat xs with rfl | ⟨ys, y, rfl⟩
    · simp at hl
    · rw [List.concat_eq_append] at *
      rw [getP_snoc]
      have h1 := getP_lt n ys (by simpa using hl) (fun x hx => h x (by simp [hx]))
      have h2 := h y (by simp)
      rw [Nat.pow_succ]
      omega

theorem or_low (n c : Nat) (hn : n < 72057594037927936) (hc : c < 256) : bits .or .u64 ((n : Int) * 256) (c : Int) = ((n * 256 + c : Nat) : Int) := by
  have h := u64_or_nat (n * 256) c (by omega) (by omega)
  rw [nat_join 8 (n * 256) c (by omega) (by omega)] at h
  rw [← h]; rfl

set_option maxHeartbeats 1000000 in
theorem get21 (A : Option Addr) (c : Nat) (xs : List Nat) (w : World) (hA : Rd w A (bvs xs)) (hl : xs.length ≤ 8) (hx : ∀ x ∈ xs, x < 256) :
    Calls Try.prog 21 #[.slice A xs.length c] w fun e w' => e = .returned (.int .u64 (getP xs : Nat)) ∧ w = w' := by
  obtain ⟨n, hn⟩ : ∃ n, xs.length = n := ⟨_, rfl⟩
  have Hn : Hid (xs.length = n) := hn
  rw [hn] at hl ⊢
  clear hn
  have HX := Lib.hid hx
  have HA := Lib.hid hA
  clear hx hA
  go_enter Try.func21, Try.ntmps21
  go_wp2_with fail
  go_loop [3, 8] (fun v i => ∃ k : Nat, k ≤ n ∧ i = .int .i64 k ∧ v = .int .u64 (getP (xs.take k) : Nat)) (fun _ i => n - (intOf i).toNat)
  case atStart => exact ⟨0, by omega, rfl, rfl⟩
  case round =>
    obtain ⟨k, hk, rfl, rfl⟩ := hrel
    by_cases hlt : k < n
    · have hkl : k < xs.length := by have := Hn.out; omega
      obtain ⟨b, o, rfl, _, hc⟩ := HA.out.at_ (by rw [bvs_length]; omega)
      have c1 := hc k _ (bvs_get hkl)
      clear hc
      have hltz : (k : Int) < (n : Int) := by omega
      have hb := HX.out xs[k] (List.getElem_mem hkl)
      have hg : getP (xs.take k) < 72057594037927936 := by
        have h := getP_lt k (xs.take k) (by rw [List.length_take]; omega) (fun x hx => HX.out x (List.mem_of_mem_take hx))
        have h2 : 256 ^ k ≤ 256 ^ 7 := Nat.pow_le_pow_right (by decide) (by omega)
        have h3 : (256 : Nat) ^ 7 = 72057594037927936 := by decide
        omega
      have Hs : Hid (getP (xs.take (k + 1)) = getP (xs.take k) * 256 + xs[k]) := by
        show getP (xs.take (k + 1)) = getP (xs.take k) * 256 + xs[k]
        rw [List.take_succ_eq_append_getElem hkl, getP_snoc]
      generalize getP (xs.take k) = g at *
      generalize xs[k] = x at *
      have Ho := Lib.hid (or_low g x hg hb)
      go_wp2_with fail
      go_round
      case rel => exact ⟨k + 1, by omega, by go_num, by rw [Hs.out, ← Ho.out]⟩
      case measure => simp [intOf]; omega
    · have : k = n := by omega
      subst this
      go_wp2_with fail
      go_ret
      exact ⟨by rw [List.take_of_length_le (by have := Hn.out; omega)]; rfl, rfl⟩

end Go.Proofs.Ytiaceoecilinkaa
