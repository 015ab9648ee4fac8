/- Reading the arguments: bytes, rows of bytes, arrays of bytes; what was there reads as it did. -/
import Derived.Test.YtiaceoecilinkaaRows
import Derived.Test.YtiaceoecilinkaaA5
import Derived.ProofKit
import Derived.Deep.Slices
import Derived.OpenShut
import Derived.Carry
namespace Go.Proofs.Ytiaceoecilinkaa
open Go.ChangeShapes Go.WideShapes Go.ChangeAt Go.RowKit Go.Deep
set_option linter.unusedSimpArgs false

theorem Try.own : ownKnob Try.prog.godebug = none := by kernel_rfl
theorem Try.laidOut : laidOutB Try.prog = true := by kernel_rfl
theorem Try.cells28 : Try.prog.cellsOf 28 = 16 := by kernel_rfl
theorem Try.cells5 : Try.prog.cellsOf 5 = 1 := by kernel_rfl

section
variable {H : Type} {enc : TypeId × Value → H} {W : World} {spare : Nat → Bool} {held : Bool} {base : Nat}

theorem u8_wf {n : Int} (h : (Lit.int IntKind.u8 n).wf = true) : ∃ k : Nat, n = (k : Int) ∧ k < 256 := by
  rw [show (Lit.int IntKind.u8 n).wf = (decide (IntKind.u8.min ≤ n) && decide (n ≤ IntKind.u8.max)) from rfl, Bool.and_eq_true] at h
  have h1 : (0 : Int) ≤ n := of_decide_eq_true h.1
  have h2 : n ≤ 255 := of_decide_eq_true h.2
  exact ⟨n.toNat, by omega, by omega⟩

theorem nats_of : ∀ (zs : List Int), (∀ n ∈ zs, (Lit.int IntKind.u8 n).wf = true) → ∃ xs : List Nat, zs = xs.map Int.ofNat ∧ ∀ x ∈ xs, x < 256
  | [], _ => ⟨[], rfl, by simp⟩
  | z :: zs, h => by
    obtain ⟨k, rfl, hk⟩ := u8_wf (h z (by simp))
    obtain ⟨xs, rfl, hx⟩ := nats_of zs (fun n hn => h n (by simp [hn]))
    exact ⟨k :: xs, rfl, fun x hx' => by
      rw [List.mem_cons] at hx'
      rcases hx' with rfl | hx'
      · exact hk
      · exact hx x hx'⟩

theorem byt_of {n : Nat} {cs : List Value} {x : DataW H × List MemPlace} (h : DataW.trod enc Try.prog W base spare held n 27 cs = some x) :
    ∃ A c xs, cs = [.slice A xs.length c] ∧ Rd W A (bvs xs) ∧ xs.length ≤ c ∧ (∀ x ∈ xs, x < 256) ∧ (A = none → c = 0) := by
  rcases open_ints Try.underlying27 Try.underlying5 Try.cells5 h with ⟨rfl, _⟩ | ⟨a, len, cap, zs, rfl, _, hl, hm, hz, _, hcell, hwf⟩
  · exact ⟨none, 0, [], rfl, .inl rfl, Nat.le_refl _, by simp, fun _ => rfl⟩
  · have hlz : len ≤ zs.length := by split at hz <;> omega
    obtain ⟨ys, hys, hy⟩ := nats_of zs hwf
    have hly : ys.length = zs.length := by rw [hys]; simp
    refine ⟨some a, cap, ys.take len, by rw [List.length_take, Nat.min_eq_left (by omega)], ?_, by rw [List.length_take]; omega, fun x hx => hy x (List.mem_of_mem_take hx), fun h => by cases h⟩
    by_cases h0 : len = 0
    · left; subst h0; rfl
    · right
      obtain ⟨b, o, spot⟩ := a
      have hspot : spot = none := by simpa [Addr.add] using World.cell?_spot (hcell 0 (by omega))
      subst hspot
      refine ⟨b, o, rfl, fun j u hu => ?_⟩
      have hj : j < len := by have := (List.getElem?_eq_some_iff.1 hu).1; rw [bvs_length, List.length_take] at this; omega
      have h1 := hcell j (by omega)
      rw [Addr.add_lit] at h1
      rw [h1, ← hu, bvs_get (by rw [List.length_take]; omega)]
      simp [hys, List.getD, show j < ys.length by omega]

theorem okWide_array {r : Reach} {b0 n : Nat} {t e : TypeId} {v : Value} (ht : Try.prog.underlying t = some (.array n e)) (h : Value.okWide Try.prog W r b0 t v) : ∃ cs, v = .agg cs ∧ cs.size = Try.prog.cellsOf t := by
  simp only [Value.okWide, ht] at h
  obtain ⟨cs, h1, h2, _⟩ := h
  exact ⟨cs, h1, h2⟩

theorem arr_of {cs : Array Value} {d : DataW H} {p : List MemPlace} (h : DataW.Trod enc Try.prog W base spare held 28 (.agg cs) d p) : ∃ xs : List Nat, cs = (bvs xs).toArray ∧ xs.length = 16 ∧ ∀ x ∈ xs, x < 256 := by
  obtain ⟨fuel, hf⟩ := h
  obtain ⟨ys, m, _, _, hlen, hyl, hg⟩ := DataW.trod_array Try.underlying28 hf
  rw [Try.cells28] at hlen
  have hcs : (Value.agg cs).cells.toList = cs.toList := rfl
  obtain ⟨l⟩ := cs
  simp only [Value.cells] at hlen hg
  have hl : l.length = 16 := hlen
  have each : ∀ i, i < 16 → ∃ k : Nat, l[i]? = some (.int .u8 (k : Int)) ∧ k < 256 := fun i hi => by
    have h1 := hg i hi
    rw [Try.cells5, Nat.mul_one] at h1
    have h2 : (l.drop i).take 1 = [l[i]'(by omega)] := by
      rw [List.drop_eq_getElem_cons (by omega)]; rfl
    rw [h2, List.getElem?_eq_getElem (by omega)] at h1
    obtain ⟨n, e1, _, wf⟩ := DataW.trod_int Try.underlying5 h1
    obtain ⟨k, rfl, hk⟩ := u8_wf wf
    simp only [List.cons.injEq, and_true] at e1
    exact ⟨k, by rw [List.getElem?_eq_getElem (by omega), e1], hk⟩
  obtain ⟨V, hV⟩ := @choose_lt Nat ⟨0⟩ _ _ each
  refine ⟨(List.range 16).map V, ?_, by simp, ?_⟩
  · congr 1
    apply List.ext_getElem?
    intro i
    by_cases hi : i < 16
    · rw [(hV i hi).1, bvs_get (by simpa using hi)]; simp
    · rw [List.getElem?_eq_none (by omega), List.getElem?_eq_none (by simp [bvs]; omega)]
  · intro x hx
    simp only [List.mem_map, List.mem_range] at hx
    obtain ⟨i, hi, rfl⟩ := hx
    exact (hV i hi).2

theorem trodAll_cons {sp : Nat → Bool} {t : TypeId} {ts : List TypeId} {vs : List Value} {ds : List (DataW H)} {ps : List MemPlace} (h : DataW.TrodAll enc Try.prog W base sp held (t :: ts) vs ds ps) :
    ∃ v vs' d ds' p q, vs = v :: vs' ∧ ds = d :: ds' ∧ DataW.Trod enc Try.prog W base sp held t v d p ∧ DataW.TrodAll enc Try.prog W base sp held ts vs' ds' q ∧ ps = p ++ q := by
  cases vs with
  | nil => exact absurd h (by simp [DataW.TrodAll])
  | cons v vs' =>
    cases ds with
    | nil => exact absurd h (by simp [DataW.TrodAll])
    | cons d ds' =>
      obtain ⟨p, q, h1, h2, rfl⟩ := h
      exact ⟨v, vs', d, ds', p, q, rfl, rfl, h1, h2, rfl⟩
theorem trodAll_end {sp : Nat → Bool} {vs : List Value} {ds : List (DataW H)} {ps : List MemPlace} (h : DataW.TrodAll enc Try.prog W base sp held [] vs ds ps) : vs = [] ∧ ds = [] := by
  cases vs with
  | nil =>
    cases ds with
    | nil => exact ⟨rfl, rfl⟩
    | cons d ds' => exact absurd h (by simp [DataW.TrodAll])
  | cons v vs' => exact absurd h (by simp [DataW.TrodAll])

/-- What was there reads as it did. -/
theorem trodAll_below {W' : World} (hb : Below W.heap.size W W') : ∀ (ts : List TypeId) (vs : List Value) (ds : List (DataW H)) (ps : List MemPlace), (∀ t ∈ ts, Try.prog.readableRec t = true ∧ t < Try.prog.types.size) →
    DataW.TrodAll enc Try.prog W 0 (fun _ => true) true ts vs ds ps → (∀ x ∈ ps, x.block < W.heap.size) → DataW.TrodAll enc Try.prog W' 0 (fun b => decide (b < W.heap.size)) true ts vs ds ps
  | [], [], [], _, _, h, _ => h
  | t :: ts, v :: vs, d :: ds, ps, ht, h, hlt => by
    obtain ⟨p, q, h1, h2, rfl⟩ := h
    refine ⟨p, q, Below.trod Try.laidOut (ht t (by simp)).1 (ht t (by simp)).2 h1 hb (fun x hx => hlt x (by simp [hx])), ?_, rfl⟩
    exact trodAll_below hb ts vs ds q (fun t h => ht t (by simp [h])) h2 (fun x hx => hlt x (by simp [hx]))
end

end Go.Proofs.Ytiaceoecilinkaa
