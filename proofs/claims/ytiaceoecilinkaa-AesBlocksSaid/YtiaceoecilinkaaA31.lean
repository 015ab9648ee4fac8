/- The statement AesBlocks, proved: for every row of bytes and any block the function answers true, and leaves what was there as it was. No condition. -/
import Derived.Test.YtiaceoecilinkaaA30
import Derived.Test.YtiaceoecilinkaaA17
namespace Go.Proofs.Ytiaceoecilinkaa
open Go.ChangeShapes Go.WideShapes Go.ChangeAt Go.RowKit Go.Deep
set_option linter.unusedSimpArgs false

set_option maxHeartbeats 4000000 in
set_option maxRecDepth 100000 in
theorem blocks_lifted (os : Os) (started : os.Started) (H : Type) (enc : TypeId × Value → H) :
    ReturnsInHanded {} Try.checked os 4 .any (Rows.aesBlocksSpec.pre6 enc Try.prog Try.f4 Rows.aesBlocksRow.domain false) (Rows.aesBlocksSpec.post enc Try.prog Try.f4 false true false false) := by
  refine returnsInHanded_of_change (C := Try.checked) Try.own started (by kernel_rfl) Try.func4
    (ChangeSpec.witness6 (enc := enc) (C := Try.checked) false ⟨#[], #[.slice none 0 0, .agg (bvs (List.replicate 16 0)).toArray], []⟩ 24 (by kernel_rfl) (by kernel_rfl) (by kernel_rfl) (by kernel_rfl)) ?_
  intro W base args ds gs before hval0 hW hcnd _
  have hval : ∀ (j : Nat) t v, Try.f4.params[j]? = some t → args[j]? = some v → Value.okWide Try.prog W .any base t v := hval0
  have hW' := hW
  obtain ⟨p, q, hA0, hV, rfl, hfz, hnd⟩ := hW
  have hA : DataW.TrodAll enc Try.prog W 0 (fun _ => true) true Try.f4.params.toList args.toList ds p := hA0
  have hAk := hA
  rw [Try.params4] at hA hval
  obtain ⟨rfl, rfl⟩ := trodVars_none hV
  obtain ⟨vals⟩ := args
  have hA1 : DataW.TrodAll enc Try.prog W 0 (fun _ => true) true [27, 28] vals ds p := hA
  clear hA hA0
  obtain ⟨v0, r0, d0, s0, p0, q0, rfl, rfl, h0, t0, _⟩ := trodAll_cons hA1
  obtain ⟨v1, r1, d1, s1, p1, q1, rfl, rfl, h1, t1, _⟩ := trodAll_cons t0
  obtain ⟨rfl, rfl⟩ := trodAll_end t1
  obtain ⟨A0', len0, cap0', rfl⟩ := okWide_slice Try.underlying27 (hval 0 27 v0 rfl rfl)
  obtain ⟨fuel0, hf0⟩ := h0
  obtain ⟨A0, c0, x0, hx0, hr0, hc0, hb0, hn0⟩ := byt_of (by simpa [Value.cells] using hf0)
  simp only [List.cons.injEq, Value.slice.injEq, and_true] at hx0
  obtain ⟨rfl, rfl, rfl⟩ := hx0
  obtain ⟨cs1, rfl, hcs1⟩ := okWide_array Try.underlying28 (hval 1 28 v1 rfl rfl)
  obtain ⟨x1, rfl, hl1, hb1⟩ := arr_of h1
  have hlt : ∀ x ∈ p, x.block < W.heap.size := fun x hx => hW'.lt x (List.mem_append_left _ hx)
  refine (blocks4 A0' cap0' x0 x1 W hr0 (B256.getD hb0) hl1 hb1).mono fun e W' ⟨he, hb⟩ => ?_
  subst he
  refine ⟨_, rfl, _, _, _, [], p, [], hW', ?_, ?_, rfl, hb.frame _, fun h => by cases h⟩
  · exact trodAll_mk1 (shut_bool Try.underlying4 true)
  · exact trodAll_below hb _ _ _ _ (by decide +kernel) hAk hlt

theorem blocks_holds : Rows.AesBlocksSaid :=
  OpenClaim.holds_of_wide 4 Try.f4 rfl rfl rfl rfl rfl rfl rfl ⟨rfl, rfl, rfl, rfl, rfl⟩ rfl rfl rfl rfl rfl (by kernel_rfl) Try.func4 (by kernel_rfl)
    (of_decide_eq_true (by kernel_rfl)) (by unfold Func.isWrapper; first | (rw [if_pos (by decide +kernel)]; kernel_rfl) | (rw [if_neg (by decide +kernel)]; exact ⟨rfl, rfl⟩))
    (fun os started H enc _ => blocks_lifted os started H enc)

end Go.Proofs.Ytiaceoecilinkaa
