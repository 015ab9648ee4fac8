/- Arrays of sixteen bytes, compared. -/
import Derived.Test.YtiaceoecilinkaaA12
import Derived.DeepKeys
import Derived.Laws.StructEq
namespace Go.Proofs.Ytiaceoecilinkaa
open Go.RowKit

theorem mapM_all {α β : Type} (f : α → Option β) (g : α → β) : ∀ l : List α, (∀ a ∈ l, f a = some (g a)) → l.mapM f = some (l.map g)
  | [], _ => rfl
  | a :: t, h => by
    rw [List.mapM_cons, h a (by simp), mapM_all f g t (fun b hb => h b (by simp [hb]))]; rfl

def u8lit (x : Nat) : Lit := .int .u8 (x : Int)
theorem flat1 (f : Nat → Lit) (l : List Nat) : (l.map (fun i => [f i])).flatten = l.map f := by
  induction l with
  | nil => rfl
  | cons a t ih => simp only [List.map_cons, List.flatten_cons, ih, List.singleton_append]
theorem keyLits28 (xs : List Nat) (hx : xs.length = 16) (h : ∀ x ∈ xs, x < 256) : Try.prog.keyLits 2 28 (bvs xs) = some (xs.map u8lit) := by
  have hc : Try.prog.cellsOf 28 = 16 := by kernel_rfl
  have hc5 : Try.prog.cellsOf 5 = 1 := by kernel_rfl
  unfold Program.keyLits
  simp only [Try.underlying28, bvs_length, hx, hc, if_true, hc5, Nat.mul_one]
  rw [mapM_all _ (fun i => [Lit.int .u8 ((xs.getD i 0 : Nat) : Int)])]
  · simp only [Option.map_some, Option.some.injEq]
    apply List.ext_getElem?
    intro i
    rw [flat1 (fun i => Lit.int .u8 ((xs.getD i 0 : Nat) : Int))]
    by_cases hi : i < 16
    · simp [hi, List.getD, show i < xs.length by omega, u8lit]
    · rw [List.getElem?_eq_none (by simp; omega), List.getElem?_eq_none (by simp; omega)]
  · intro i hi
    have hi' : i < 16 := List.mem_range.1 hi
    have e : ((bvs xs).drop i).take 1 = [.int .u8 ((xs.getD i 0 : Nat) : Int)] := by
      rw [List.drop_eq_getElem_cons (by rw [bvs_length]; omega)]
      simp [bvs, bv, List.getD, show i < xs.length by omega]
    rw [e]
    have hlt : xs.getD i 0 < 256 := by
      simp only [List.getD, List.getElem?_eq_getElem (show i < xs.length by omega), Option.getD_some]
      exact h _ (List.getElem_mem _)
    generalize xs.getD i 0 = x at *
    unfold Program.keyLits
    have hw : (Lit.int IntKind.u8 (x : Int)).wf = true := by
      show (decide (IntKind.u8.min ≤ (x : Int)) && decide ((x : Int) ≤ IntKind.u8.max)) = true
      rw [Bool.and_eq_true]
      exact ⟨decide_eq_true (show (0 : Int) ≤ x by omega), decide_eq_true (show (x : Int) ≤ 255 by omega)⟩
    simp only [Try.underlying5, hw, and_self, if_true]

theorem eq28 (xs ys : List Nat) (hx : xs.length = 16) (hy : ys.length = 16) (bx : ∀ x ∈ xs, x < 256) (by_ : ∀ x ∈ ys, x < 256) (w : World) :
    Sem.run Try.prog (binOp .eql 28 (.agg (bvs xs).toArray) (.agg (bvs ys).toArray)) w = .ok (.bool (decide (xs = ys))) w := by
  have hc : Try.prog.cellsOf 28 = 16 := by kernel_rfl
  have hf : ∀ zs : List Nat, zs.length = 16 → (Value.agg (bvs zs).toArray).formed Try.prog 28 = true := fun zs hz => by
    simp [Value.formed, Try.underlying28, hc, bvs_length, hz]
  obtain ⟨r, hr, hiff⟩ := run_equalIn_deep (P := Try.prog) 9990 10 28 (by kernel_rfl) w 2 2 (.agg (bvs xs).toArray) (.agg (bvs ys).toArray) _ _ (hf xs hx) (hf ys hy)
    (by simpa [Value.cells] using keyLits28 xs hx bx) (by simpa [Value.cells] using keyLits28 ys hy by_)
  have hinj : xs.map u8lit = ys.map u8lit ↔ xs = ys := by
    constructor
    · intro h
      refine List.map_inj_right (fun a b hab => ?_) |>.1 h
      injection hab with _ h2
      omega
    · rintro rfl; rfl
  have hrd : r = decide (xs = ys) := by
    rw [Bool.eq_iff_iff, hiff, hinj]; simp
  have hb : binOp .eql 28 (.agg (bvs xs).toArray) (.agg (bvs ys).toArray) = (do let b ← Op.equal 28 (.agg (bvs xs).toArray) (.agg (bvs ys).toArray); pure (.bool b)) := rfl
  have hr' : Sem.run Try.prog (Op.equal 28 (.agg (bvs xs).toArray) (.agg (bvs ys).toArray)) w = .ok r w := hr
  rw [hb, Sem.run_bind, hr', Result.andThen_ok, hrd]
  rfl
end Go.Proofs.Ytiaceoecilinkaa
