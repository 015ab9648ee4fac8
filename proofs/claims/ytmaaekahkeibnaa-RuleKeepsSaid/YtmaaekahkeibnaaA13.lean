/- Apply: a name's versions behind a plan. -/
import Derived.Test.YtmaaekahkeibnaaA12
import Derived.Deep.CutRange
import Derived.Deep.CutBlock
import Derived.Deep.DeepCutAuto
namespace Go.Proofs.Ytmaaekahkeibnaa
open Go.RowKit
set_option linter.unusedSimpArgs false

theorem own_below {w w' : World} {base n : Nat} {v : Value} {cs : List Value} (h : w.ownsRow base 29 11 v n cs) (hb : Below w.heap.size w w') : w'.ownsRow base 29 11 v n cs := by
  refine ⟨h.1, ?_⟩
  rcases h.2 with h2 | ⟨g, cap, cur, hv, hg, hh, r⟩
  · exact .inl h2
  · exact .inr ⟨g, cap, cur, hv, hg, (hb.block g (Array.getElem?_eq_some_iff.1 hh).1).trans hh, r⟩

set_option maxHeartbeats 4000000 in
theorem apply23_no (A : Option Addr) (c : Nat) (l : List Ver) (G : Option Addr) (k : Nat) (gl : List Ver) (nu mk : Bool) (v : Ver) (w : World) (hl : l.length ≤ 31) (hgl : gl.length ≤ 31) (hA : Rd w A (fl l)) (hG : Rd w G (fl gl)) :
    Calls Try.prog 23 #[.slice A l.length c, .agg #[.slice G gl.length k, .bool false, .bool nu, .bool mk], v.agg] w (ListRes w (apP l gl false nu mk v)) := by
  have hap : apP l gl false nu mk v = [] ++ l.filter (fun x => !gone gl x) := by simp [apP]
  rw [hap]
  clear hap
  obtain ⟨v0, v1, v2, v3, v4, v5, ⟨a6, n6, c6⟩, ⟨a7, n7, c7⟩, v8, ⟨a9, n9, c9⟩, ⟨a10, n10, c10⟩⟩ := v
  simp only [Ver.agg, Ver.cells]
  have q34 := Lib.hid (fun W (hb : Below w.heap.size w W) id B hc => contains34 G k gl id B W hgl (hG.below hb) hc)
  clear hG
  have hA' := Lib.hid hA
  clear hA
  have hA := hA'
  clear hA'
  obtain ⟨n, hn⟩ : ∃ n, l.length = n := ⟨_, rfl⟩
  rw [hn] at hl ⊢
  have Hn : Hid (l.length = n) := hn
  clear hn
  go_enter Try.func23, Try.ntmps23
  go_upto_region 5 with (fail)
  obtain ⟨wb, hwbe⟩ : ∃ wb, wb = (w.alloc (.cells #[.slice G gl.length k, .bool false, .bool nu, .bool mk] 43)).alloc (.cells #[.int .i64 v0, .bool v1, .bool v2, .int .i64 v3, .int .i64 v4, .int .i64 v5, .slice a6 n6 c6, .slice a7 n7 c7, .int .i64 v8, .slice a9 n9 c9, .slice a10 n10 c10] 29) := ⟨_, rfl⟩
  rw [← hwbe]
  have pc0 : wb.cell? ⟨w.heap.size, 0, none⟩ = some (.slice G gl.length k) := by rw [hwbe]; simp
  have hB : Hid (Below w.heap.size w wb) := by rw [hwbe]; exact ba (ba (b0 _) _) _
  have hsz : wb.heap.size = w.heap.size + 2 := by rw [hwbe]; simp
  obtain ⟨base, hba⟩ : ∃ base, base = w.heap.size + 2 := ⟨_, rfl⟩
  have hbase : base ≤ wb.heap.size := by omega
  have hbase2 : w.heap.size + 2 ≤ base := by omega
  have Own : Hid (wb.ownsRow base 29 11 (.slice none 0 0) (([] : List Ver) ++ (l.take 0).filter (fun x => !gone gl x)).length (fl (([] : List Ver) ++ (l.take 0).filter (fun x => !gone gl x)))) := by
    simp only [List.take_zero, List.filter_nil, List.append_nil]
    exact World.ownsRow_nil _ _ _ _
  clear hwbe hsz hba
  have hwb : w.heap.size < base := by omega
  go_wp2
  go_loopw [7, 24] (fun out i wr => ∃ j : Nat, j ≤ n ∧ i = .int .i64 j ∧ Hid (Below base wb wr) ∧ Hid (wr.ownsRow base 29 11 out (([] : List Ver) ++ (l.take j).filter (fun x => !gone gl x)).length (fl (([] : List Ver) ++ (l.take j).filter (fun x => !gone gl x))))) (fun _ i _ => n - (intOf i).toNat)
  case atStart => exact ⟨0, Nat.zero_le _, rfl, Below.refl _ _, Own.out⟩
  case round =>
    obtain ⟨j, hj, rfl, HB, HO⟩ := hrel
    have HBw : Hid (Below w.heap.size w wr) := hB.out.trans (HB.out.mono (by omega))
    have hbr : base ≤ wr.heap.size := Nat.le_trans hbase HB.out.size
    by_cases hlt : j < n
    · have hjl : j < l.length := by have := Hn.out; omega
      obtain ⟨b, o, rfl, hbl, hcv⟩ := (hA.out.below HBw.out).ver j hjl
      obtain ⟨e0, e1, e2, e3, e4, e5, e6, e7, e8, e9, e10⟩ := ver_cells hcv
      clear hcv
      have pcr : wr.cell? ⟨w.heap.size, 0, none⟩ = some (.slice G gl.length k) := (HB.out.cell (p := ⟨w.heap.size, 0, none⟩) hwb).trans pc0
      have hlen : (([] : List Ver) ++ (l.take j).filter (fun x => !gone gl x)).length ≤ 40 := by
        have h1 := List.length_filter_le (fun x => !gone gl x) (l.take j)
        have h2 : (l.take j).length ≤ j := List.length_take_le _ _
        rw [List.length_append]; simp only [List.length_cons, List.length_nil]; omega
      have Hlen := Lib.hid hlen
      clear hlen
      have Htk : Hid (l.take (j + 1) = l.take j ++ [l[j]]) := List.take_succ_eq_append_getElem hjl
      generalize l[j] = x at *
      have Hgx : Hid (gone gl x = true ∨ gone gl x = false) := by cases gone gl x <;> simp [Hid]
      obtain ⟨x0, x1, x2, x3, x4, x5, ⟨p6, q6, r6⟩, ⟨p7, q7, r7⟩, x8, ⟨p9, q9, r9⟩, ⟨p10, q10, r10⟩⟩ := x
      simp only at e0 e1 e2 e3 e4 e5 e6 e7 e8 e9 e10
      have hbn : b ≠ wr.heap.size := by omega
      have hpn : w.heap.size ≠ wr.heap.size := by omega
      have hpl : w.heap.size < wr.heap.size := by omega
      have qc := Lib.hid (q34.out (wr.alloc (.cells #[.int .i64 x0, .bool x1, .bool x2, .int .i64 x3, .int .i64 x4, .int .i64 x5, .slice p6 q6 r6, .slice p7 q7 r7, .int .i64 x8, .slice p9 q9 r9, .slice p10 q10 r10] 29)) (HBw.out.alloc (by omega) _) x0 wr.heap.size (by simp))
      rcases Hgx.out with hg | hg
      · have qc' : Hid (Calls Try.prog 34 #[.slice G gl.length k, .func (.func 35) #[] #[.pointer (some ⟨wr.heap.size, 0, none⟩)]] (wr.alloc (.cells #[.int .i64 x0, .bool x1, .bool x2, .int .i64 x3, .int .i64 x4, .int .i64 x5, .slice p6 q6 r6, .slice p7 q7 r7, .int .i64 x8, .slice p9 q9 r9, .slice p10 q10 r10] 29)) fun e w' => e = .returned (.bool true) ∧ Below (wr.alloc (.cells #[.int .i64 x0, .bool x1, .bool x2, .int .i64 x3, .int .i64 x4, .int .i64 x5, .slice p6 q6 r6, .slice p7 q7 r7, .int .i64 x8, .slice p9 q9 r9, .slice p10 q10 r10] 29)).heap.size (wr.alloc (.cells #[.int .i64 x0, .bool x1, .bool x2, .int .i64 x3, .int .i64 x4, .int .i64 x5, .slice p6 q6 r6, .slice p7 q7 r7, .int .i64 x8, .slice p9 q9 r9, .slice p10 q10 r10] 29)) w') := by
          have h1 := qc.out; rw [show decide (0 ≤ fI (fun v => decide (v.seq = x0)) gl) = true from hg] at h1; exact h1
        clear qc
        have Hg := Lib.hid hg
        clear hg
        go_wp2_with (go_at_call 34; refine (qc'.out).mono ?_; rintro e w1 ⟨rfl, hb1⟩)
        go_roundw
        case rel => exact ⟨j + 1, by omega, by go_num, HB.out.trans ((ba (b0 _) _).trans (hb1.mono (by simp)) |>.mono hbr), by
          rw [Htk.out, List.filter_append]
          have h1 : ([(⟨x0, x1, x2, x3, x4, x5, ⟨p6, q6, r6⟩, ⟨p7, q7, r7⟩, x8, ⟨p9, q9, r9⟩, ⟨p10, q10, r10⟩⟩ : Ver)].filter (fun x => !gone gl x)) = [] := by simp [Hg.out]
          rw [h1, List.append_nil]
          exact own_below (HO.out.alloc _) hb1⟩
        case measure => simp [intOf]; omega
      · have qc' : Hid (Calls Try.prog 34 #[.slice G gl.length k, .func (.func 35) #[] #[.pointer (some ⟨wr.heap.size, 0, none⟩)]] (wr.alloc (.cells #[.int .i64 x0, .bool x1, .bool x2, .int .i64 x3, .int .i64 x4, .int .i64 x5, .slice p6 q6 r6, .slice p7 q7 r7, .int .i64 x8, .slice p9 q9 r9, .slice p10 q10 r10] 29)) fun e w' => e = .returned (.bool false) ∧ Below (wr.alloc (.cells #[.int .i64 x0, .bool x1, .bool x2, .int .i64 x3, .int .i64 x4, .int .i64 x5, .slice p6 q6 r6, .slice p7 q7 r7, .int .i64 x8, .slice p9 q9 r9, .slice p10 q10 r10] 29)).heap.size (wr.alloc (.cells #[.int .i64 x0, .bool x1, .bool x2, .int .i64 x3, .int .i64 x4, .int .i64 x5, .slice p6 q6 r6, .slice p7 q7 r7, .int .i64 x8, .slice p9 q9 r9, .slice p10 q10 r10] 29)) w') := by
          have h1 := qc.out; rw [show decide (0 ≤ fI (fun v => decide (v.seq = x0)) gl) = false from hg] at h1; exact h1
        clear qc
        have Hg := Lib.hid hg
        clear hg
        go_wp2_with (first
          | (go_at_call 34; refine (qc'.out).mono ?_; rintro e w1 ⟨rfl, hb1⟩; obtain ⟨hc1, hf1⟩ := bcell hb1; have hz1 : wr.heap.size < w1.heap.size := (by have := hb1.size; simp at this; omega); have gc0 : World.cell? w1 ⟨wr.heap.size, 0, none⟩ = some (.int .i64 x0) := (by rw [hc1 _ _ (by simp <;> omega)]; simp); have gc1 : World.cell? w1 ⟨wr.heap.size, 1, none⟩ = some (.bool x1) := (by rw [hc1 _ _ (by simp <;> omega)]; simp); have gc2 : World.cell? w1 ⟨wr.heap.size, 2, none⟩ = some (.bool x2) := (by rw [hc1 _ _ (by simp <;> omega)]; simp); have gc3 : World.cell? w1 ⟨wr.heap.size, 3, none⟩ = some (.int .i64 x3) := (by rw [hc1 _ _ (by simp <;> omega)]; simp); have gc4 : World.cell? w1 ⟨wr.heap.size, 4, none⟩ = some (.int .i64 x4) := (by rw [hc1 _ _ (by simp <;> omega)]; simp); have gc5 : World.cell? w1 ⟨wr.heap.size, 5, none⟩ = some (.int .i64 x5) := (by rw [hc1 _ _ (by simp <;> omega)]; simp); have gc6 : World.cell? w1 ⟨wr.heap.size, 6, none⟩ = some (.slice p6 q6 r6) := (by rw [hc1 _ _ (by simp <;> omega)]; simp); have gc7 : World.cell? w1 ⟨wr.heap.size, 7, none⟩ = some (.slice p7 q7 r7) := (by rw [hc1 _ _ (by simp <;> omega)]; simp); have gc8 : World.cell? w1 ⟨wr.heap.size, 8, none⟩ = some (.int .i64 x8) := (by rw [hc1 _ _ (by simp <;> omega)]; simp); have gc9 : World.cell? w1 ⟨wr.heap.size, 9, none⟩ = some (.slice p9 q9 r9) := (by rw [hc1 _ _ (by simp <;> omega)]; simp); have gc10 : World.cell? w1 ⟨wr.heap.size, 10, none⟩ = some (.slice p10 q10 r10) := (by rw [hc1 _ _ (by simp <;> omega)]; simp); clear hc1 hf1)
          | (at_builtin; refine ap1 rfl (.tmp 33) (.tmp 35) rfl base _ (([] : List Ver) ++ (l.take j).filter (fun x => !gone gl x)) ⟨x0, x1, x2, x3, x4, x5, ⟨p6, q6, r6⟩, ⟨p7, q7, r7⟩, x8, ⟨p9, q9, r9⟩, ⟨p10, q10, r10⟩⟩ rfl ?c1 rfl ?c2 ?c3 ?_; (case c1 => exact own_below (HO.out.alloc _) hb1); (case c2 => exact Hlen.out); (case c3 => omega); intro v2 w2 hown2 hb2; have Hown2 := Lib.hid hown2; clear hown2))
        go_roundw
        case rel => exact ⟨j + 1, by omega, by go_num, (HB.out.trans ((ba (b0 _) _).trans (hb1.mono (by simp)) |>.mono hbr)).trans hb2, by
          rw [Htk.out, List.filter_append]
          have h1 : ([(⟨x0, x1, x2, x3, x4, x5, ⟨p6, q6, r6⟩, ⟨p7, q7, r7⟩, x8, ⟨p9, q9, r9⟩, ⟨p10, q10, r10⟩⟩ : Ver)].filter (fun x => !gone gl x)) = [⟨x0, x1, x2, x3, x4, x5, ⟨p6, q6, r6⟩, ⟨p7, q7, r7⟩, x8, ⟨p9, q9, r9⟩, ⟨p10, q10, r10⟩⟩] := by simp [Hg.out]
          rw [h1, ← List.append_assoc]
          exact Hown2.out⟩
        case measure => simp [intOf]; omega
    · have : j = n := by omega
      subst this
      have Ht : Hid (l.take j = l) := List.take_of_length_le (by have := Hn.out; omega)
      obtain ⟨A2, k2, hu, hk2, hz2, hr2⟩ := own_form HO.out
      rw [Ht.out] at hu hk2 hr2
      have Hz2 := Lib.hid hz2
      clear hz2
      have Hu := Lib.hid hu
      clear hu
      go_wp2
      go_ret
      exact ⟨A2, k2, congrArg Ending.returned Hu.out, hk2, Hz2.out, hr2, HBw.out⟩

end Go.Proofs.Ytmaaekahkeibnaa
