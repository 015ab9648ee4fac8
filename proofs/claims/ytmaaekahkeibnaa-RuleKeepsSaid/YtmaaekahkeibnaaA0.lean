/- Words of this claim: slices that read as lists of cells, versions as their raw cells; the small functions of versions. -/
import Derived.Test.YtmaaekahkeibnaaProg
import Derived.WalkKit
import Derived.WalkSpells
import Derived.Deep.QuietTactic
import Derived.BigQuiet
import Derived.Lib.Hide
import Derived.Deep.LoopGhost
import Derived.Shelf.SlicesQ.Load
namespace Go.Proofs.Ytmaaekahkeibnaa
open Go.RowKit

/-- A slice at A reads as these cells. -/
def Rd (w : World) (A : Option Addr) (cs : List Value) : Prop :=
  cs = [] ∨ ∃ b o, A = some ⟨b, o, none⟩ ∧ ∀ j u, cs[j]? = some u → w.cell? ⟨b, o + j, none⟩ = some u

theorem Rd.below {w w' : World} {A : Option Addr} {cs : List Value} (h : Rd w A cs) (hb : Below w.heap.size w w') : Rd w' A cs := by
  rcases h with h | ⟨b, o, rfl, hc⟩
  · exact .inl h
  · refine .inr ⟨b, o, rfl, fun j u hu => ?_⟩
    have h1 := hc j u hu
    rw [hb.cell (p := ⟨b, o + j, none⟩) (World.block_lt_of_cell? w _ h1)]
    exact h1

theorem Rd.at_ {w : World} {A : Option Addr} {cs : List Value} (h : Rd w A cs) (hn : 0 < cs.length) :
    ∃ b o, A = some ⟨b, o, none⟩ ∧ b < w.heap.size ∧ ∀ j u, cs[j]? = some u → w.cell? ⟨b, o + j, none⟩ = some u := by
  rcases h with h | ⟨b, o, rfl, hc⟩
  · rw [h] at hn; exact absurd hn (by simp)
  · exact ⟨b, o, rfl, World.block_lt_of_cell? w _ (hc 0 _ (List.getElem?_eq_getElem hn)), hc⟩

theorem dn {B : Nat} {w w' : World} (h : Below B w w') (n : Nat) : Below B w (w'.drewN n) := ⟨h.os, h.tape, h.output, h.size, h.block⟩

theorem ba {a w : World} (h : Below a.heap.size a w) (o : Obj) : Below a.heap.size a (w.alloc o) := h.alloc h.size o
theorem bt {a b c : World} (h : Below a.heap.size a b) (k : Below b.heap.size b c) : Below a.heap.size a c := h.trans (k.mono h.size)
theorem bs {a w : World} (h : Below a.heap.size a w) {p : Addr} (hp : a.heap.size ≤ p.block) (u : Value) : Below a.heap.size a (w.setCell p u) := h.setCell hp u
theorem bdr {B : Nat} {a w : World} (h : Below B a w) : Below B a w.drew := h.drew
theorem b0 (a : World) : Below a.heap.size a a := Below.refl _ _

theorem bcell {W w1 : World} (hb : Below W.heap.size W w1) : (∀ b o, b < W.heap.size → w1.cell? ⟨b, o, none⟩ = W.cell? ⟨b, o, none⟩) ∧ (∀ b o, b < W.heap.size → w1.frozen? ⟨b, o, none⟩ = W.frozen? ⟨b, o, none⟩) :=
  ⟨fun b o h => hb.cell (p := ⟨b, o, none⟩) h, fun b o h => hb.frozen (p := ⟨b, o, none⟩) h⟩

/-- The same, in a block from B on. -/
def Rf (B : Nat) (w : World) (A : Option Addr) (cs : List Value) : Prop :=
  cs = [] ∨ ∃ b o, A = some ⟨b, o, none⟩ ∧ B ≤ b ∧ ∀ j u, cs[j]? = some u → w.cell? ⟨b, o + j, none⟩ = some u
section
variable {B : Nat} {w w' : World} {A : Option Addr} {cs : List Value}
theorem Rf.rd (h : Rf B w A cs) : Rd w A cs := by
  rcases h with h | ⟨b, o, rfl, _, hc⟩
  · exact .inl h
  · exact .inr ⟨b, o, rfl, hc⟩
theorem Rf.mono {B' : Nat} (h : Rf B w A cs) (hB : B' ≤ B) : Rf B' w A cs := by
  rcases h with h | ⟨b, o, rfl, h1, hc⟩
  · exact .inl h
  · exact .inr ⟨b, o, rfl, Nat.le_trans hB h1, hc⟩
theorem Rf.below (h : Rf B w A cs) (hb : Below w.heap.size w w') : Rf B w' A cs := by
  rcases h with h | ⟨b, o, rfl, h1, hc⟩
  · exact .inl h
  · refine .inr ⟨b, o, rfl, h1, fun j u hu => ?_⟩
    have h2 := hc j u hu
    rw [hb.cell (p := ⟨b, o + j, none⟩) (World.block_lt_of_cell? w _ h2)]
    exact h2
theorem Rf.set (h : Rf B w A cs) {p : Addr} (hp : p.block < B) (u : Value) : Rf B (w.setCell p u) A cs := by
  rcases h with h | ⟨b, o, rfl, h1, hc⟩
  · exact .inl h
  · refine .inr ⟨b, o, rfl, h1, fun j v hv => ?_⟩
    rw [World.cell?_setCell_other w p _ u (by intro e; subst e; simp at hp; omega)]
    exact hc j v hv
theorem Rf.alloc (h : Rf B w A cs) (o : Obj) : Rf B (w.alloc o) A cs := h.below (ba (b0 _) o)
theorem Rf.drew (h : Rf B w A cs) : Rf B w.drew A cs := h.below (bdr (b0 _))
end

/-- What was there in w is there in W. -/
def Cls (w W : World) : Prop := Below w.heap.size w W
theorem Cls.out {w W : World} (h : Cls w W) : Below w.heap.size w W := h
/-- A region that draws its order, whose operations read and call what leaves all that was there as it was. -/
theorem wp_region_below {P : Program} {l : List Oper} {id : Nat} {Q : Exit → Act → World → Prop} {a : Act} {w : World} (hm : P.follows .mixedOrders = true) (hB : Region.lexB .any l.toArray = true)
    (h : wpQuiet P l.toArray (Cls w) (fun a' => ∀ w', Cls w w' → Q .normal a' w') l a) : (Code.region id l.toArray true).wp P Q a w :=
  wp_region_quiet (C := Cls w) hm hB (dn (b0 _) 1) (by simpa using h)
/-- A call in such a class, by its contract. -/
theorem q_call {P : Program} {w1 W : World} {f : FuncId} {args : Array Value} {v : Value} (hW : Cls w1 W) (h : Calls P f args W fun e w' => e = .returned v ∧ Below W.heap.size W w') :
    Calls P f args W fun e w'' => e = .returned v ∧ Cls w1 w'' := h.mono fun _ _ ⟨he, hb⟩ => ⟨he, bt hW hb⟩

/-- A slice's value. -/
structure Sl where
  a : Option Addr
  n : Nat
  c : Nat
def Sl.v (s : Sl) : Value := .slice s.a s.n s.c

/-- The raw cells of a version. -/
structure Ver where
  seq : Int
  null : Bool
  mark : Bool
  at_ : Int
  size : Int
  untl : Int
  meta_ : Sl
  tags : Sl
  gen : Int
  nonce : Sl
  wrap : Sl

def Ver.cells (v : Ver) : List Value := [.int .i64 v.seq, .bool v.null, .bool v.mark, .int .i64 v.at_, .int .i64 v.size, .int .i64 v.untl, .slice v.meta_.a v.meta_.n v.meta_.c, .slice v.tags.a v.tags.n v.tags.c, .int .i64 v.gen, .slice v.nonce.a v.nonce.n v.nonce.c, .slice v.wrap.a v.wrap.n v.wrap.c]
def Ver.agg (v : Ver) : Value := .agg v.cells.toArray
def Ver.idOf (v : Ver) : Int := if v.null then 0 else v.seq

set_option maxHeartbeats 400000 in
theorem id18 (v : Ver) (w : World) : Calls Try.prog 18 #[v.agg] w fun e w' => e = .returned (.int .i64 v.idOf) ∧ Below w.heap.size w w' := by
  obtain ⟨v0, v1, v2, v3, v4, v5, v6, v7, v8, v9, v10⟩ := v
  simp only [Ver.agg, Ver.cells, Ver.idOf]
  cases v1
  all_goals
    go_enter Try.func18, Try.ntmps18
    go_wp2
    go_ret
    exact ⟨by simp, (Below.refl _ _).alloc (Nat.le_refl _) _⟩

set_option maxHeartbeats 400000 in
theorem id19 (v : Ver) (w : World) : Calls Try.prog 19 #[v.agg] w fun e w' => e = .returned (.int .i64 v.idOf) ∧ Below w.heap.size w w' := by
  obtain ⟨v0, v1, v2, v3, v4, v5, v6, v7, v8, v9, v10⟩ := v
  simp only [Ver.agg, Ver.cells, Ver.idOf]
  cases v1
  all_goals
    go_enter Try.func19, Try.ntmps19
    go_wp2
    go_ret
    exact ⟨by simp, (Below.refl _ _).alloc (Nat.le_refl _) _⟩

set_option maxHeartbeats 400000 in
theorem held13 (v : Ver) (now : Int) (w : World) : Calls Try.prog 13 #[v.agg, .int .i64 now] w fun e w' => e = .returned (.bool (decide (now < v.untl))) ∧ Below w.heap.size w w' := by
  obtain ⟨v0, v1, v2, v3, v4, v5, v6, v7, v8, v9, v10⟩ := v
  simp only [Ver.agg, Ver.cells]
  go_enter Try.func13, Try.ntmps13
  go_wp2
  go_ret
  exact ⟨by simp, (Below.refl _ _).alloc (Nat.le_refl _) _⟩


end Go.Proofs.Ytmaaekahkeibnaa
