/- Versions appended to a row of the call's own; Apply. -/
import Derived.Test.YtmaaekahkeibnaaA11
import Derived.Maps.AppendAt
import Derived.Deep.AppendLies
import Derived.Laws.AppendOwnNone
namespace Go.Proofs.Ytmaaekahkeibnaa
open Go.RowKit
set_option linter.unusedSimpArgs false

theorem info29 : (Try.prog.info? 29).map (fun i => (i.zero, i.size, i.bytes)) = some (some (.agg #[.int .i64 0, .bool false, .bool false, .int .i64 0, .int .i64 0, .int .i64 0, .slice none 0 0, .slice none 0 0, .int .i64 0, .slice none 0 0, .slice none 0 0]), 11, 144) := by kernel_rfl

theorem cells_one (v : Ver) : ∀ u ∈ v.cells, u.oneCell' = true := by
  intro u hu
  simp only [Ver.cells, List.mem_cons, List.not_mem_nil, or_false] at hu
  rcases hu with h | h | h | h | h | h | h | h | h | h | h <;> subst h <;> rfl
theorem fl_one (l : List Ver) : ∀ u ∈ fl l, u.oneCell' = true := by
  intro u hu
  obtain ⟨v, _, hv⟩ := List.mem_flatMap.1 hu
  exact cells_one v u hv
theorem fl_single (v : Ver) : fl [v] = v.cells := by simp [fl]

theorem below_of_grown {W W1 w' : World} {base : Nat} {row : Option Nat} (hg : W1.grownBy w' row) (hb : Below W.heap.size W W1) (hbase : base ≤ W.heap.size) (hr : ∀ k, row = some k → base ≤ k) : Below base W w' :=
  (hb.mono hbase).grown hg (Nat.le_trans hbase hb.size) hr

/-- append(out, v). -/
theorem ap1 {ops : Array Oper} {rest : List Oper} {o : Oper} {a : Act} {Q : Exit → Act → World → Prop} {W : World} (hgd : o.guard = none) (s x : Operand)
    (ho : o.op = .call { callee := .builtin .append, args := #[s, x], argTypes := #[22, 22] }) (base : Nat) (val : Value) (l : List Ver) (v : Ver) (hs : a.eval s = val)
    (hown : W.ownsRow base 29 11 val l.length (fl l)) (hx : a.eval x = .slice (some ⟨W.heap.size, 0, none⟩) 1 1) (hl : l.length ≤ 40) (hbase : base ≤ W.heap.size)
    (h : ∀ v' w', w'.ownsRow base 29 11 v' (l ++ [v]).length (fl (l ++ [v])) → Below base W w' → wpList Try.prog ops Q rest (a.put o.dst v') w') :
    wpList Try.prog ops Q (o :: rest) a (W.alloc (.cells v.cells.toArray 29)) := by
  obtain ⟨i0, hi, hz0, hz1, hz2⟩ := info_parts info29
  have hown1 := hown.alloc (.cells v.cells.toArray 29)
  refine wpList_append_own_at _ hgd s x 22 ho base 29 i0 _ 11 144 Try.underlying22 hi hz0 hz1 hz2 rfl (by decide) val l.length (fl l) hs hown1 ⟨W.heap.size, 0, none⟩ 1 1 v.cells hx rfl (fun j u hu => ?_) (cells_one v) (by simp only [maxLen]; omega) (by omega) (by simp; omega) ?_
  · rw [Addr.add_lit, Nat.zero_add, World.cell?_alloc_at _ _ _ _ rfl]
    simpa using hu
  · intro v' w' h1 hg _ _
    refine h v' w' ?_ (below_of_grown hg (ba (b0 _) _) hbase (fun k hk => (hown.lt k hk).1))
    rw [fl_append, fl_single, List.length_append]
    exact h1

/-- append(out, xs...). -/
theorem apn {ops : Array Oper} {rest : List Oper} {o : Oper} {a : Act} {Q : Exit → Act → World → Prop} {W : World} (hgd : o.guard = none) (s x : Operand)
    (ho : o.op = .call { callee := .builtin .append, args := #[s, x], argTypes := #[22, 22] }) (base : Nat) (val : Value) (l m : List Ver) (hs : a.eval s = val)
    (hown : W.ownsRow base 29 11 val l.length (fl l)) (b f c : Nat) (hx : a.eval x = .slice (some ⟨b, f, none⟩) m.length c) (hm : ∀ j u, (fl m)[j]? = some u → W.cell? ⟨b, f + j, none⟩ = some u) (hl : l.length ≤ 40) (hl2 : m.length ≤ 40) (hbase : base ≤ W.heap.size)
    (h : ∀ v' w', w'.ownsRow base 29 11 v' (l ++ m).length (fl (l ++ m)) → Below base W w' → wpList Try.prog ops Q rest (a.put o.dst v') w') :
    wpList Try.prog ops Q (o :: rest) a W := by
  obtain ⟨i0, hi, hz0, hz1, hz2⟩ := info_parts info29
  refine wpList_append_own_at _ hgd s x 22 ho base 29 i0 _ 11 144 Try.underlying22 hi hz0 hz1 hz2 rfl (by decide) val l.length (fl l) hs hown ⟨b, f, none⟩ m.length c (fl m) hx (fl_length m) (fun j u hu => ?_) (fl_one m) (by simp only [maxLen]; omega) (by omega) hbase ?_
  · rw [Addr.add_lit]
    exact hm j u hu
  · intro v' w' h1 hg _ _
    refine h v' w' ?_ (below_of_grown hg (b0 _) hbase (fun k hk => (hown.lt k hk).1))
    rw [fl_append, List.length_append]
    exact h1

/-- append(out, xs...), nil let in. -/
theorem apA {ops : Array Oper} {rest : List Oper} {o : Oper} {a : Act} {Q : Exit → Act → World → Prop} {W : World} (hgd : o.guard = none) (s x : Operand)
    (ho : o.op = .call { callee := .builtin .append, args := #[s, x], argTypes := #[22, 22] }) (base : Nat) (val : Value) (l m : List Ver) (hs : a.eval s = val)
    (hown : W.ownsRow base 29 11 val l.length (fl l)) (A : Option Addr) (c : Nat) (hx : a.eval x = .slice A m.length c) (hnil : A = none → c = 0) (hm : Rd W A (fl m)) (hl : l.length ≤ 40) (hl2 : m.length ≤ 40) (hbase : base ≤ W.heap.size)
    (h : ∀ v' w', w'.ownsRow base 29 11 v' (l ++ m).length (fl (l ++ m)) → Below base W w' → wpList Try.prog ops Q rest (a.put o.dst v') w') :
    wpList Try.prog ops Q (o :: rest) a W := by
  by_cases h0 : m = []
  · subst h0
    have hown' : W.ownsRow base 29 11 val (l ++ []).length (fl (l ++ [])) := by rw [List.append_nil]; exact hown
    obtain ⟨i0, hi, hz0, hz1, hz2⟩ := info_parts info29
    cases A with
    | none =>
      have hc := hnil rfl
      subst hc
      have hr := run_append_owned_none (P := Try.prog) (w := W) base 22 o.type 29 i0 11 Try.underlying22 hi val l.length (fl l) hown
      refine wpList_plain hgd fun K hK => ?_
      unfold Oper.wp execOp
      simp only [ho, resolve, invoke, builtin, Sem.run_bind, Sem.run_pure, Result.andThen_ok, List.map_toArray, List.map_cons, List.map_nil, hs, hx, List.length_nil, hr]
      exact hK _ _ (h val W hown' (Below.refl _ _))
    | some ad =>
      refine wpList_append_own_at _ hgd s x 22 ho base 29 i0 _ 11 144 Try.underlying22 hi hz0 hz1 hz2 rfl (by decide) val l.length (fl l) hs hown ad 0 c [] hx rfl (fun j u hu => by simp at hu) (fun u hu => by simp at hu) (by simp only [maxLen]; omega) (by omega) hbase ?_
      intro v' w' h1 hg _ _
      refine h v' w' ?_ (below_of_grown hg (b0 _) hbase (fun k hk => (hown.lt k hk).1))
      simpa using h1
  · have hpos : 0 < m.length := List.length_pos_iff.2 h0
    obtain ⟨b, f, rfl, _, hc⟩ := hm.at_ (by rw [fl_length]; omega)
    exact apn hgd s x ho base val l m hs hown b f c hx hc hl hl2 hbase h

/-- A row of versions is handed back. -/
def ListRes (w : World) (r : List Ver) (e : Ending) (w' : World) : Prop :=
  ∃ A c, e = .returned (.slice A r.length c) ∧ r.length ≤ c ∧ (A = none → c = 0) ∧ Rd w' A (fl r) ∧ Below w.heap.size w w'

theorem own_form {w : World} {base : Nat} {v : Value} {l : List Ver} (h : w.ownsRow base 29 11 v l.length (fl l)) : ∃ A c, v = .slice A l.length c ∧ l.length ≤ c ∧ (A = none → c = 0) ∧ Rd w A (fl l) := by
  rcases h.2 with ⟨rfl, hn⟩ | ⟨g, cap, cur, rfl, hg, hh, hn, _, _, htake⟩
  · have : l = [] := List.eq_nil_of_length_eq_zero hn
    subst this
    exact ⟨none, 0, rfl, Nat.le_refl _, fun _ => rfl, .inl rfl⟩
  · refine ⟨some ⟨g, 0, none⟩, cap, rfl, hn, fun h => (by cases h), .inr ⟨g, 0, rfl, fun j u hu => ?_⟩⟩
    rw [Nat.zero_add, cell_of_row w g j cur 29 (0, 0) hh]
    rw [← htake, List.getElem?_take] at hu
    split at hu
    · simpa using hu
    · cases hu

def gone (gl : List Ver) (x : Ver) : Bool := decide (0 ≤ fI (fun v => decide (v.seq = x.seq)) gl)
def apP (l gl : List Ver) (cm nu mk : Bool) (v : Ver) : List Ver := (if cm then [{ v with null := nu, mark := mk }] else []) ++ l.filter (fun x => !gone gl x)

end Go.Proofs.Ytmaaekahkeibnaa
