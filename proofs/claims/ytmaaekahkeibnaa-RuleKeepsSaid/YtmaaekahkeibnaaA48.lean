/- The statement RuleKeeps, proved: for every row of versions and all numbers the function answers true, and leaves what was there as it was. No condition. -/
import Derived.Test.YtmaaekahkeibnaaA47
import Derived.Test.YtmaaekahkeibnaaA46
namespace Go.Proofs.Ytmaaekahkeibnaa
open Go.ChangeShapes Go.WideShapes Go.ChangeAt Go.RowKit Go.Deep
set_option linter.unusedSimpArgs false

def kL (l : List Ver) (st id now : Int) (i : Nat) : List Ver :=
  if i = 0 then apP l (putP l st now).1 (putP l st now).2.1 (putP l st now).2.2.1 false (behindV (bh l))
  else if i = 1 then apP l (delP l st now).1 (delP l st now).2.1 (delP l st now).2.2.1 (delP l st now).2.2.2.1 (behindV (bh l))
  else apP l (remP l id now).1 false false false (behindV (bh l))

theorem kL_len (l : List Ver) (st id now : Int) (i : Nat) : (kL l st id now i).length ≤ l.length + 1 := by
  unfold kL
  split
  · exact apP_len _ _ _ _ _ _
  · split <;> exact apP_len _ _ _ _ _ _
theorem kL_good {w : World} {l : List Ver} (hg : ∀ v ∈ l, v.good w) (st id now : Int) (i : Nat) : ∀ v ∈ kL l st id now i, v.good w := by
  unfold kL
  split
  · exact apP_good hg
  · split <;> exact apP_good hg
theorem kL_held {l : List Ver} (hr : Right l) (st id now : Int) (i : Nat) : ∀ x ∈ l, now < x.untl → x ∈ kL l st id now i := by
  intro x hx hu
  unfold kL
  split
  · exact held_ap (put_fit hr st now) hx hu
  · split
    · exact held_ap (del_fit hr st now) hx hu
    · exact held_ap (rem_fit hr id now) hx hu
theorem kL_right {l : List Ver} (hr : Right l) (hl : l.length < 30) (hs : ∀ v ∈ l, v.seq < bh l) (h1 : 1 ≤ bh l) (st id now : Int) (i : Nat) : Right (kL l st id now i) := by
  unfold kL
  split
  · exact right_ap hr hl hs h1 (put_fit hr st now)
  · split
    · exact right_ap hr hl hs h1 (del_fit hr st now)
    · exact right_ap hr hl hs h1 (rem_fit hr id now)

set_option maxHeartbeats 4000000 in
theorem keeps6 (A : Option Addr) (c : Nat) (l : List Ver) (st id now : Int) (w : World) (hst : 0 ≤ st) (hst2 : st ≤ 255) (hA : Rd w A (fl l)) (hg : ∀ v ∈ l, v.good w) (hm : ∀ v ∈ l, v.seq ≤ 9223372036854775807) :
    Calls Try.prog 6 #[.slice A l.length c, .int .u8 st, .int .i64 id, .int .i64 now] w fun e w' => e = .returned (.bool true) ∧ Below w.heap.size w w' := by
  by_cases hr : Right l
  · have hl := hr.1
    have q7 := Lib.hid (right7a A c l w hA)
    simp only [hr, decide_true] at q7
    have q20 := Lib.hid (fun W (hb : Below w.heap.size w W) => behind20 A c l W (by omega) (hA.below hb))
    by_cases hs : bh l < 1
    · exact keeps6_small A c l.length (bh l) st id now w hs q7 q20
    · have lP := putP_len l (st % 3) now
      have lD := delP_len l (st % 3) now
      have lM := remP_len l id now
      have q21 := Lib.hid (fun W (hb : Below w.heap.size w W) => put21 A c l (st % 3) now W (by omega) (hA.below hb))
      have q22 := Lib.hid (fun W (hb : Below w.heap.size w W) => del22 A c l (st % 3) now W (by omega) (hA.below hb))
      have q27 := Lib.hid (fun W (hb : Below w.heap.size w W) => rem27 A c l id now W (by omega) (hA.below hb))
      have a23 : ∀ (gl : List Ver) (cm nu mk : Bool) (G : Option Addr) (k : Nat) (W : World), gl.length ≤ 1 → Below w.heap.size w W → Rd W G (fl gl) →
          Calls Try.prog 23 #[.slice A l.length c, .agg #[.slice G gl.length k, .bool cm, .bool nu, .bool mk], (behindV (bh l)).agg] W (ListRes W (apP l gl cm nu mk (behindV (bh l)))) :=
        fun gl cm nu mk G k W h1 hb hG => apply23 A c l G k gl cm nu mk (behindV (bh l)) W (by omega) (by omega) (hA.below hb) hG
      exact keeps6_in A c l.length l (bh l) st id now w (putP l (st % 3) now).1 (delP l (st % 3) now).1 (remP l id now).1 (putP l (st % 3) now).2.1 (putP l (st % 3) now).2.2.1 (delP l (st % 3) now).2.1 (delP l (st % 3) now).2.2.1 (delP l (st % 3) now).2.2.2.1
        (putP l (st % 3) now).2.2.2 (delP l (st % 3) now).2.2.2.2 (remP l id now).2 (kL l (st % 3) id now) (by omega) hst hst2 rfl hl hA hg
        (fun i _ => Nat.le_trans (kL_len l (st % 3) id now i) (by omega)) (fun i _ => kL_good hg (st % 3) id now i) (fun i _ => kL_held hr (st % 3) id now i)
        q7 q20 q21 q22 q27
        (fun G k W hb hG => a23 _ _ _ _ G k W lP hb hG) (fun G k W hb hG => a23 _ _ _ _ G k W lD hb hG) (fun G k W hb hG => a23 _ _ _ _ G k W lM hb hG)
        (fun h30 i _ G k W hG => by
          have h := right7a G k (kL l (st % 3) id now i) W hG
          rw [decide_eq_true (kL_right hr h30 (bh_gt hr hm (by omega)) (by omega) (st % 3) id now i)] at h
          exact h)
  · exact keeps6_out A c l st id now w hA hr

set_option maxHeartbeats 4000000 in
set_option maxRecDepth 100000 in
theorem keeps_lifted (os : Os) (started : os.Started) (H : Type) (enc : TypeId × Value → H) :
    ReturnsInHanded {} Try.checked os 6 .any (Rows.ruleKeepsSpec.pre6 enc Try.prog Try.f6 Rows.ruleKeepsRow.domain false) (Rows.ruleKeepsSpec.post enc Try.prog Try.f6 false true false false) := by
  refine returnsInHanded_of_change (C := Try.checked) Try.own started (by kernel_rfl) Try.func6
    (ChangeSpec.witness6 (enc := enc) (C := Try.checked) false ⟨#[], #[.slice none 0 0, .int .u8 0, .int .i64 0, .int .i64 0], []⟩ 8 (by kernel_rfl) (by kernel_rfl) (by kernel_rfl) (by kernel_rfl)) ?_
  intro W base args ds gs before hval0 hW hcnd _
  have hval : ∀ (j : Nat) t v, Try.f6.params[j]? = some t → args[j]? = some v → Value.okWide Try.prog W .any base t v := hval0
  have hW' := hW
  obtain ⟨p, q, hA0, hV, rfl, hfz, hnd⟩ := hW
  have hA : DataW.TrodAll enc Try.prog W 0 (fun _ => true) true Try.f6.params.toList args.toList ds p := hA0
  have hAk := hA
  rw [Try.params6] at hA hval
  obtain ⟨rfl, rfl⟩ := trodVars_none hV
  obtain ⟨vals⟩ := args
  have hA1 : DataW.TrodAll enc Try.prog W 0 (fun _ => true) true [22, 5, 3, 3] vals ds p := hA
  clear hA hA0
  obtain ⟨v0, r0, d0, s0, p0, q0, rfl, rfl, h0, t0, _⟩ := trodAll_cons hA1
  obtain ⟨v1, r1, d1, s1, p1, q1, rfl, rfl, h1, t1, _⟩ := trodAll_cons t0
  obtain ⟨v2, r2, d2, s2, p2, q2, rfl, rfl, h2, t2, _⟩ := trodAll_cons t1
  obtain ⟨v3, r3, d3, s3, p3, q3, rfl, rfl, h3, t3, _⟩ := trodAll_cons t2
  obtain ⟨rfl, rfl⟩ := trodAll_end t3
  obtain ⟨n1, rfl, _, _, w1⟩ := open_int Try.underlying5 (hval 1 5 v1 rfl rfl) h1
  obtain ⟨n2, rfl, _, _, w2⟩ := open_int Try.underlying3 (hval 2 3 v2 rfl rfl) h2
  obtain ⟨n3, rfl, _, _, w3⟩ := open_int Try.underlying3 (hval 3 3 v3 rfl rfl) h3
  obtain ⟨A, len, cap, rfl⟩ := okWide_slice Try.underlying22 (hval 0 22 v0 rfl rfl)
  obtain ⟨fuel, hf⟩ := h0
  obtain ⟨l, rfl, hR, hg, hnil⟩ := vers_of2 (by simpa [Value.cells] using hf)
  have hlt : ∀ x ∈ p, x.block < W.heap.size := fun x hx => hW'.lt x (List.mem_append_left _ hx)
  have hw := w1
  rw [show (Lit.int IntKind.u8 n1).wf = (decide (IntKind.u8.min ≤ n1) && decide (n1 ≤ IntKind.u8.max)) from rfl, Bool.and_eq_true] at hw
  have hlo : 0 ≤ n1 := of_decide_eq_true hw.1
  have hhi : n1 ≤ 255 := of_decide_eq_true hw.2
  refine (keeps6 A cap l n1 n2 n3 W hlo hhi hR (fun v hv => (hg v hv).1) (fun v hv => (hg v hv).2)).mono fun e W' ⟨he, hb⟩ => ?_
  subst he
  refine ⟨_, rfl, _, _, _, [], p, [], hW', ?_, ?_, rfl, hb.frame _, fun h => by cases h⟩
  · exact trodAll_mk1 (shut_bool Try.underlying4 true)
  · exact trodAll_below hb _ _ _ _ (by decide +kernel) hAk hlt

theorem keeps_holds : Rows.RuleKeepsSaid :=
  OpenClaim.holds_of_wide 6 Try.f6 rfl rfl rfl rfl rfl rfl rfl ⟨rfl, rfl, rfl, rfl, rfl⟩ rfl rfl rfl rfl rfl (by kernel_rfl) Try.func6 (by kernel_rfl)
    (of_decide_eq_true (by kernel_rfl)) (by unfold Func.isWrapper; first | (rw [if_pos (by decide +kernel)]; kernel_rfl) | (rw [if_neg (by decide +kernel)]; exact ⟨rfl, rfl⟩))
    (fun os started H enc _ => keeps_lifted os started H enc)

end Go.Proofs.Ytmaaekahkeibnaa
