/- The statement RuleDoes, proved: for every row of versions and all numbers the function answers true, and leaves what was there as it was. No condition. -/
import Derived.Test.YtmaaekahkeibnaaA36
import Derived.Test.YtmaaekahkeibnaaA30
namespace Go.Proofs.Ytmaaekahkeibnaa
open Go.ChangeShapes Go.WideShapes Go.ChangeAt Go.RowKit Go.Deep

set_option maxHeartbeats 4000000 in
set_option maxRecDepth 100000 in
theorem does_lifted (os : Os) (started : os.Started) (H : Type) (enc : TypeId × Value → H) :
    ReturnsInHanded {} Try.checked os 5 .any (Rows.ruleDoesSpec.pre6 enc Try.prog Try.f5 Rows.ruleDoesRow.domain false) (Rows.ruleDoesSpec.post enc Try.prog Try.f5 false true false false) := by
  refine returnsInHanded_of_change (C := Try.checked) Try.own started (by kernel_rfl) Try.func5
    (ChangeSpec.witness6 (enc := enc) (C := Try.checked) false ⟨#[], #[.slice none 0 0, .int .i64 0, .int .i64 0, .int .i64 0], []⟩ 8 (by kernel_rfl) (by kernel_rfl) (by kernel_rfl) (by kernel_rfl)) ?_
  intro W base args ds gs before hval0 hW hcnd _
  have hval : ∀ (j : Nat) t v, Try.f5.params[j]? = some t → args[j]? = some v → Value.okWide Try.prog W .any base t v := hval0
  have hW' := hW
  obtain ⟨p, q, hA0, hV, rfl, hfz, hnd⟩ := hW
  have hA : DataW.TrodAll enc Try.prog W 0 (fun _ => true) true Try.f5.params.toList args.toList ds p := hA0
  have hAk := hA
  rw [Try.params5] at hA hval
  obtain ⟨rfl, rfl⟩ := trodVars_none hV
  obtain ⟨vals⟩ := args
  have hA1 : DataW.TrodAll enc Try.prog W 0 (fun _ => true) true [22, 3, 3, 3] vals ds p := hA
  clear hA hA0
  obtain ⟨v0, r0, d0, s0, p0, q0, rfl, rfl, h0, t0, _⟩ := trodAll_cons hA1
  obtain ⟨v1, r1, d1, s1, p1, q1, rfl, rfl, h1, t1, _⟩ := trodAll_cons t0
  obtain ⟨v2, r2, d2, s2, p2, q2, rfl, rfl, h2, t2, _⟩ := trodAll_cons t1
  obtain ⟨v3, r3, d3, s3, p3, q3, rfl, rfl, h3, t3, _⟩ := trodAll_cons t2
  obtain ⟨rfl, rfl⟩ := trodAll_end t3
  obtain ⟨n1, rfl, _, _, w1⟩ := open_int Try.underlying3 (hval 1 3 v1 rfl rfl) h1
  obtain ⟨n2, rfl, _, _, w2⟩ := open_int Try.underlying3 (hval 2 3 v2 rfl rfl) h2
  obtain ⟨n3, rfl, _, _, w3⟩ := open_int Try.underlying3 (hval 3 3 v3 rfl rfl) h3
  obtain ⟨A, len, cap, rfl⟩ := okWide_slice Try.underlying22 (hval 0 22 v0 rfl rfl)
  obtain ⟨fuel, hf⟩ := h0
  obtain ⟨l, rfl, hR, hg, hnil⟩ := vers_of (by simpa [Value.cells] using hf)
  have hlt : ∀ x ∈ p, x.block < W.heap.size := fun x hx => hW'.lt x (List.mem_append_left _ hx)
  refine (does5 A cap l n1 n2 n3 W hR hg hnil).mono fun e W' ⟨he, hb⟩ => ?_
  subst he
  refine ⟨_, rfl, _, _, _, [], p, [], hW', ?_, ?_, rfl, hb.frame _, fun h => by cases h⟩
  · exact trodAll_mk1 (shut_bool Try.underlying4 true)
  · exact trodAll_below hb _ _ _ _ (by decide +kernel) hAk hlt

theorem does_holds : Rows.RuleDoesSaid :=
  OpenClaim.holds_of_wide 5 Try.f5 rfl rfl rfl rfl rfl rfl rfl ⟨rfl, rfl, rfl, rfl, rfl⟩ rfl rfl rfl rfl rfl (by kernel_rfl) Try.func5 (by kernel_rfl)
    (of_decide_eq_true (by kernel_rfl)) (by unfold Func.isWrapper; first | (rw [if_pos (by decide +kernel)]; kernel_rfl) | (rw [if_neg (by decide +kernel)]; exact ⟨rfl, rfl⟩))
    (fun os started H enc _ => does_lifted os started H enc)

end Go.Proofs.Ytmaaekahkeibnaa
