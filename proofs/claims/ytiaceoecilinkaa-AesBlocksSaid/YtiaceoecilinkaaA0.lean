/- Words of this claim: slices and blocks that read as cells; what calls that only allocate leave. -/
import Derived.Test.YtiaceoecilinkaaProg
import Derived.WalkKit
import Derived.WalkSpells
import Derived.WalkLawsBesides
import Derived.Deep.QuietTactic
import Derived.BigQuiet
import Derived.Lib.Hide
import Derived.Deep.LoopGhost
import Derived.Laws.BitsAllLaws
import Derived.Laws.OwnMore
import Derived.Laws.Rows
namespace Go.Proofs.Ytiaceoecilinkaa
open Go.RowKit

/-- A slice at A reads as these cells. -/
def Rd (w : World) (A : Option Addr) (cs : List Value) : Prop :=
  cs = [] ∨ ∃ b o, A = some ⟨b, o, none⟩ ∧ ∀ j u, cs[j]? = some u → w.cell? ⟨b, o + j, none⟩ = some u

theorem Rd.below {w w' : World} {A : Option Addr} {cs : List Value} (h : Rd w A cs) (hb : Below w.heap.size w w') : Rd w' A cs := by
  rcases h with h | ⟨b, o, rfl, hc⟩
  · exact .inl h
  · refine .inr ⟨b, o, rfl, fun j u hu => ?_⟩
    have h1 := hc j u hu
    rw [hb.cell (p := ⟨b, o + j, none⟩) (World.block_lt_of_cell? w _ h1)]
    exact h1

theorem Rd.at_ {w : World} {A : Option Addr} {cs : List Value} (h : Rd w A cs) (hn : 0 < cs.length) :
    ∃ b o, A = some ⟨b, o, none⟩ ∧ b < w.heap.size ∧ ∀ j u, cs[j]? = some u → w.cell? ⟨b, o + j, none⟩ = some u := by
  rcases h with h | ⟨b, o, rfl, hc⟩
  · rw [h] at hn; exact absurd hn (by simp)
  · exact ⟨b, o, rfl, World.block_lt_of_cell? w _ (hc 0 _ (List.getElem?_eq_getElem hn)), hc⟩

theorem dn {B : Nat} {w w' : World} (h : Below B w w') (n : Nat) : Below B w (w'.drewN n) := ⟨h.os, h.tape, h.output, h.size, h.block⟩
theorem ba {a w : World} (h : Below a.heap.size a w) (o : Obj) : Below a.heap.size a (w.alloc o) := h.alloc h.size o
theorem bt {a b c : World} (h : Below a.heap.size a b) (k : Below b.heap.size b c) : Below a.heap.size a c := h.trans (k.mono h.size)
theorem bs {a w : World} (h : Below a.heap.size a w) {p : Addr} (hp : a.heap.size ≤ p.block) (u : Value) : Below a.heap.size a (w.setCell p u) := h.setCell hp u
theorem bdr {B : Nat} {a w : World} (h : Below B a w) : Below B a w.drew := h.drew
theorem b0 (a : World) : Below a.heap.size a a := Below.refl _ _

theorem bcell {W w1 : World} (hb : Below W.heap.size W w1) : (∀ b o, b < W.heap.size → w1.cell? ⟨b, o, none⟩ = W.cell? ⟨b, o, none⟩) ∧ (∀ b o, b < W.heap.size → w1.frozen? ⟨b, o, none⟩ = W.frozen? ⟨b, o, none⟩) :=
  ⟨fun b o h => hb.cell (p := ⟨b, o, none⟩) h, fun b o h => hb.frozen (p := ⟨b, o, none⟩) h⟩

/-- What was there in w is there in W. -/
def Cls (w W : World) : Prop := Below w.heap.size w W
theorem Cls.out {w W : World} (h : Cls w W) : Below w.heap.size w W := h
/-- A region that draws its order, whose operations read and call what leaves all that was there as it was. -/
theorem wp_region_below {P : Program} {l : List Oper} {id : Nat} {Q : Exit → Act → World → Prop} {a : Act} {w : World} (hm : P.follows .mixedOrders = true) (hB : Region.lexB .any l.toArray = true)
    (h : wpQuiet P l.toArray (Cls w) (fun a' => ∀ w', Cls w w' → Q .normal a' w') l a) : (Code.region id l.toArray true).wp P Q a w :=
  wp_region_quiet (C := Cls w) hm hB (dn (b0 _) 1) (by simpa using h)
/-- A call in such a class, by its contract. -/
theorem q_call {P : Program} {w1 W : World} {f : FuncId} {args : Array Value} {v : Value} (hW : Cls w1 W) (h : Calls P f args W fun e w' => e = .returned v ∧ Below W.heap.size W w') :
    Calls P f args W fun e w'' => e = .returned v ∧ Cls w1 w'' := h.mono fun _ _ ⟨he, hb⟩ => ⟨he, bt hW hb⟩
theorem gen_world {G : World → Prop} {w : World} (I : World → Prop) (h1 : I w) (h2 : ∀ W, I W → G W) : G w := h2 w h1

/-- A block that is known whole. -/
def Blk (w : World) (g : Nat) (t : TypeId) (cs : List Value) : Prop := w.heap[g]? = some (.cells cs.toArray t (0, 0))
section
variable {w w' : World} {g : Nat} {t : TypeId} {cs : List Value}
theorem Blk.lt (h : Blk w g t cs) : g < w.heap.size := by
  rcases Nat.lt_or_ge g w.heap.size with hlt | hge
  · exact hlt
  · unfold Blk at h; rw [Array.getElem?_eq_none hge] at h; cases h
theorem Blk.cell (h : Blk w g t cs) (i : Nat) : w.cell? ⟨g, i, none⟩ = cs[i]? := by
  rw [cell_of_row w g i cs.toArray t (0, 0) h]; simp
theorem Blk.frozen (h : Blk w g t cs) (i : Nat) : w.frozen? ⟨g, i, none⟩ = false := by
  unfold Blk at h
  simp [World.frozen?, h]
theorem Blk.new (w : World) (t : TypeId) (cs : List Value) : Blk (w.alloc (.cells cs.toArray t)) w.heap.size t cs := heap_alloc_new w _
theorem Blk.drew (h : Blk w g t cs) : Blk w.drew g t cs := h
theorem Blk.drewN (h : Blk w g t cs) (n : Nat) : Blk (w.drewN n) g t cs := h
theorem Blk.alloc (h : Blk w g t cs) (o : Obj) : Blk (w.alloc o) g t cs := (Below.heap_alloc w o g h.lt).trans h
theorem Blk.set_ (h : Blk w g t cs) (i : Nat) (u : Value) : Blk (w.setCell ⟨g, i, none⟩ u) g t (cs.set i u) := by
  unfold Blk at h ⊢
  simp [World.setCell, Array.getElem?_modify, h]
theorem Blk.far (h : Blk w g t cs) {p : Addr} (hp : g ≠ p.block) (u : Value) : Blk (w.setCell p u) g t cs := (Below.heap_setCell w p u g hp).trans h
theorem Blk.below {B : Nat} (h : Blk w g t cs) (hb : Below B w w') (hg : g < B) : Blk w' g t cs := (hb.block g hg).trans h
theorem Blk.to (h : Blk w g t cs) (hb : Below w.heap.size w w') : Blk w' g t cs := h.below hb h.lt
theorem Blk.rd (h : Blk w g t cs) : Rd w (some ⟨g, 0, none⟩) cs := .inr ⟨g, 0, rfl, fun j u hu => by rw [Nat.zero_add, h.cell, hu]⟩
end

/-- A byte's value. -/
def bv (x : Nat) : Value := .int .u8 (x : Int)
def bvs (xs : List Nat) : List Value := xs.map bv
theorem bvs_length (xs : List Nat) : (bvs xs).length = xs.length := by simp [bvs]
theorem bvs_get {xs : List Nat} {k : Nat} (h : k < xs.length) : (bvs xs)[k]? = some (.int .u8 (xs[k] : Nat)) := by simp [bvs, h, bv]
theorem bvs_getD {xs : List Nat} {k : Nat} (h : k < xs.length) : (bvs xs)[k]? = some (.int .u8 ((xs.getD k 0 : Nat) : Int)) := by
  rw [bvs_get h]; simp [List.getD, h]
theorem bvs_set (xs : List Nat) (k x : Nat) : (bvs xs).set k (.int .u8 (x : Int)) = bvs (xs.set k x) := by
  simp [bvs, bv, List.map_set]

/-- A byte times two, in the field of 256. -/
def dbl (c : Nat) : Nat := if 128 ≤ c then (c * 2 % 256) ^^^ 27 else c * 2 % 256

theorem ret_u8 {a b : Int} (h : a = b) : Ending.returned (.int .u8 a) = .returned (.int .u8 b) := by rw [h]

set_option maxHeartbeats 400000 in
theorem dbl18 (c : Nat) (w : World) (hc : c < 256) : Calls Try.prog 18 #[.int .u8 (c : Int)] w fun e w' => e = .returned (.int .u8 (dbl c : Nat)) ∧ w = w' := by
  unfold dbl
  by_cases h : 128 ≤ c
  · have h1 : decide ((128 : Int) ≤ (c : Int)) = true := by simp <;> omega
    have hx := u8_xor_nat (c * 2 % 256) 27 (by omega) (by omega)
    have Hx := Lib.hid hx
    clear hx
    rw [if_pos h]
    go_enter Try.func18, Try.ntmps18
    go_wp2
    go_ret
    exact ⟨ret_u8 Hx.out, rfl⟩
  · have h1 : decide ((128 : Int) ≤ (c : Int)) = false := by simp <;> omega
    rw [if_neg h]
    go_enter Try.func18, Try.ntmps18
    go_wp2
    go_ret
    exact ⟨ret_u8 (by omega), rfl⟩

theorem dbl_lt (c : Nat) : dbl c < 256 := by
  unfold dbl
  split
  · exact Nat.xor_lt_two_pow (n := 8) (by omega) (by omega)
  · omega

end Go.Proofs.Ytiaceoecilinkaa
