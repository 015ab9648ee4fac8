/- right: which rows of versions are such as the statement speaks of. -/
import Derived.Test.YtmaaekahkeibnaaA20
namespace Go.Proofs.Ytmaaekahkeibnaa
open Go.RowKit
set_option linter.unusedSimpArgs false

/-- A version that may not stand behind one of that number. -/
def bad (p : Option Int) (v : Ver) : Bool := decide (v.seq < 1) || (match p with | none => false | some s => decide (s ≤ v.seq)) || decide (60 < v.meta_.n) || decide (60 < v.tags.n) || decide (100 < v.wrap.n) || decide (100 < v.nonce.n)
def prevOf (l : List Ver) (j : Nat) : Option Int := if j = 0 then none else (l[j - 1]?).map Ver.seq
def okAt (l : List Ver) (j : Nat) : Bool := match l[j]? with | none => true | some v => !bad (prevOf l j) v
def nulls (l : List Ver) : Nat := l.countP Ver.null
def Right (l : List Ver) : Prop := l.length ≤ 30 ∧ (∀ j, j < l.length → okAt l j = true) ∧ nulls l < 2
instance (l : List Ver) : Decidable (Right l) := by unfold Right; infer_instance

theorem nulls_take (l : List Ver) (k : Nat) (hk : k < l.length) : nulls (l.take (k + 1)) = nulls (l.take k) + (if l[k].null then 1 else 0) := by
  unfold nulls
  rw [List.take_succ_eq_append_getElem hk, List.countP_append]
  simp [List.countP_cons]
theorem nulls_le (l : List Ver) (k : Nat) : nulls (l.take k) ≤ k := Nat.le_trans List.countP_le_length (by simp; omega)

theorem right7_long (A : Option Addr) (c n : Nat) (w : World) (h : 30 < n) : Calls Try.prog 7 #[.slice A n c] w fun e w' => e = .returned (.bool false) ∧ Below w.heap.size w w' := by
  have h1 : decide ((30 : Int) < (n : Int)) = true := by simp <;> omega
  have h2 : decide (30 < n) = true := by simpa using h
  clear h
  go_enter Try.func7, Try.ntmps7
  go_wp2
  go_ret
  exact ⟨rfl, b0 _⟩

set_option maxRecDepth 100000 in
set_option maxHeartbeats 0 in
theorem right7 (A : Option Addr) (c : Nat) (l : List Ver) (w : World) (hl : l.length ≤ 30) (hA : Rd w A (fl l)) :
    Calls Try.prog 7 #[.slice A l.length c] w fun e w' => e = .returned (.bool (decide (Right l))) ∧ Below w.heap.size w w' := by
  have HA := Lib.hid hA
  have Hl := Lib.hid hl
  clear hA
  obtain ⟨n, hn⟩ : ∃ n, l.length = n := ⟨_, rfl⟩
  rw [hn] at hl ⊢
  have Hn : Hid (l.length = n) := hn
  clear hn
  generalize hR : decide (Right l) = R
  have HR := Lib.hid hR
  clear hR
  have h1 : decide ((30 : Int) < (n : Int)) = false := by simp <;> omega
  have h2 : decide (30 < n) = false := by simp <;> omega
  go_enter Try.func7, Try.ntmps7
  go_wp2
  go_loopw [3, 4] (fun z i wr => ∃ k q : Nat, k ≤ n ∧ q ≤ k ∧ i = .int .i64 k ∧ z = .int .i64 q ∧ Hid (Below w.heap.size w wr) ∧ Hid (q = nulls (l.take k)) ∧ Hid (∀ j, j < k → okAt l j = true)) (fun _ i _ => n - (intOf i).toNat)
  case atStart => exact ⟨0, 0, Nat.zero_le _, Nat.le_refl _, rfl, rfl, Below.refl _ _, by simp [Hid, nulls], fun j hj => absurd hj (Nat.not_lt_zero _)⟩
  case round =>
    obtain ⟨k, q, hk, hqk, rfl, rfl, HB, HQ, HT⟩ := hrel
    by_cases hlt : k < n
    · have hkl : k < l.length := by have := Hn.out; omega
      have hltz : (k : Int) < (n : Int) := by omega
      obtain ⟨b, o, rfl, hbl, hcv⟩ := (HA.out.below HB.out).ver k hkl
      obtain ⟨e0, e1, e2, e3, e4, e5, e6, e7, e8, e9, e10⟩ := ver_cells hcv
      clear hcv e2 e3 e4 e5 e8
      have HN : Hid (nulls (l.take (k + 1)) = q + (if l[k].null then 1 else 0)) := by have h := nulls_take l k hkl; rw [← HQ.out] at h; exact h
      have HK : Hid (okAt l k = !bad (prevOf l k) l[k]) := by unfold okAt; rw [List.getElem?_eq_getElem hkl]; rfl
      by_cases hz : k = 0
      · have HP : Hid (prevOf l k = none) := by simp [prevOf, hz, Hid]
        have hz1 : decide ((0 : Int) < (k : Int)) = false := by simp [hz]
        have hz2 : decide (0 < k) = false := by simp [hz]
        have hz3 : (0 < k) = False := by simp [hz]
        have Hz := Lib.hid hz
        clear hz
        generalize l[k] = x at *
        obtain ⟨x0, x1, x2, x3, x4, x5, ⟨p6, q6, r6⟩, ⟨p7, q7, r7⟩, x8, ⟨p9, q9, r9⟩, ⟨p10, q10, r10⟩⟩ := x
        simp only at e0 e1 e6 e7 e9 e10 HN
        by_cases d0 : x0 < 1
        · have f0a : decide (x0 < 1) = true := (by simp <;> omega); have f0b : (x0 < 1) = True := (by simp <;> omega)
          have D0 := Lib.hid d0
          clear d0
          go_wp2
          go_quiet (fail)
          go_wp2
          go_ret
          have hno : ¬ Right l := fun h => by
            have h1 := h.2.1 k hkl
            have hd := D0.out
            rw [HK.out, HP.out] at h1
            simp [bad] at h1
            omega
          exact ⟨by rw [← HR.out]; simp [hno], by first | exact HB.out | exact HB.out.drew | exact dn HB.out _⟩
        · have f0a : decide (x0 < 1) = false := (by simp <;> omega); have f0b : (x0 < 1) = False := (by simp <;> omega)
          by_cases d1 : 60 < q6
          · have f1a : decide (60 < q6) = true := (by simp <;> omega); have f1b : decide ((60 : Int) < (q6 : Int)) = true := (by simp <;> omega)
            have D1 := Lib.hid d1
            clear d1
            go_wp2
            go_quiet (fail)
            go_wp2
            go_ret
            have hno : ¬ Right l := fun h => by
              have h1 := h.2.1 k hkl
              have hd := D1.out
              rw [HK.out, HP.out] at h1
              simp [bad] at h1
              omega
            exact ⟨by rw [← HR.out]; simp [hno], by first | exact HB.out | exact HB.out.drew | exact dn HB.out _⟩
          · have f1a : decide (60 < q6) = false := (by simp <;> omega); have f1b : decide ((60 : Int) < (q6 : Int)) = false := (by simp <;> omega)
            by_cases d2 : 60 < q7
            · have f2a : decide (60 < q7) = true := (by simp <;> omega); have f2b : decide ((60 : Int) < (q7 : Int)) = true := (by simp <;> omega)
              have D2 := Lib.hid d2
              clear d2
              go_wp2
              go_quiet (fail)
              go_wp2
              go_ret
              have hno : ¬ Right l := fun h => by
                have h1 := h.2.1 k hkl
                have hd := D2.out
                rw [HK.out, HP.out] at h1
                simp [bad] at h1
                omega
              exact ⟨by rw [← HR.out]; simp [hno], by first | exact HB.out | exact HB.out.drew | exact dn HB.out _⟩
            · have f2a : decide (60 < q7) = false := (by simp <;> omega); have f2b : decide ((60 : Int) < (q7 : Int)) = false := (by simp <;> omega)
              by_cases d3 : 100 < q10
              · have f3a : decide (100 < q10) = true := (by simp <;> omega); have f3b : decide ((100 : Int) < (q10 : Int)) = true := (by simp <;> omega)
                have D3 := Lib.hid d3
                clear d3
                go_wp2
                go_quiet (fail)
                go_wp2
                go_ret
                have hno : ¬ Right l := fun h => by
                  have h1 := h.2.1 k hkl
                  have hd := D3.out
                  rw [HK.out, HP.out] at h1
                  simp [bad] at h1
                  omega
                exact ⟨by rw [← HR.out]; simp [hno], by first | exact HB.out | exact HB.out.drew | exact dn HB.out _⟩
              · have f3a : decide (100 < q10) = false := (by simp <;> omega); have f3b : decide ((100 : Int) < (q10 : Int)) = false := (by simp <;> omega)
                by_cases d4 : 100 < q9
                · have f4a : decide (100 < q9) = true := (by simp <;> omega); have f4b : decide ((100 : Int) < (q9 : Int)) = true := (by simp <;> omega)
                  have D4 := Lib.hid d4
                  clear d4
                  go_wp2
                  go_quiet (fail)
                  go_wp2
                  go_ret
                  have hno : ¬ Right l := fun h => by
                    have h1 := h.2.1 k hkl
                    have hd := D4.out
                    rw [HK.out, HP.out] at h1
                    simp [bad] at h1
                    omega
                  exact ⟨by rw [← HR.out]; simp [hno], by first | exact HB.out | exact HB.out.drew | exact dn HB.out _⟩
                · have f4a : decide (100 < q9) = false := (by simp <;> omega); have f4b : decide ((100 : Int) < (q9 : Int)) = false := (by simp <;> omega)
                  go_wp2
                  go_quiet (fail)
                  clear f0a f0b f1a f1b f2a f2b f3a f3b f4a f4b hz1 hz2 hz3
                  cases x1
                  · go_wp2
                    go_roundw
                    case rel => exact ⟨k + 1, q, by omega, by omega, by go_num, by go_num, by first | exact HB.out | exact HB.out.drew | exact dn HB.out _, HN.out.symm, fun j hj => by
                      by_cases e : j = k
                      · subst e; rw [HK.out, HP.out]; simp [bad]; omega
                      · exact HT.out j (by omega)⟩
                    case measure => simp [intOf]; omega
                  · go_wp2
                    go_roundw
                    case rel => exact ⟨k + 1, q + 1, by omega, by omega, by go_num, by go_num, by first | exact HB.out | exact HB.out.drew | exact dn HB.out _, HN.out.symm, fun j hj => by
                      by_cases e : j = k
                      · subst e; rw [HK.out, HP.out]; simp [bad]; omega
                      · exact HT.out j (by omega)⟩
                    case measure => simp [intOf]; omega
      · obtain ⟨p, hp⟩ : ∃ p, p = k - 1 := ⟨_, rfl⟩
        have hpl : p < l.length := by omega
        have hpz : (p : Int) < (n : Int) := by omega
        obtain ⟨b', o', hbo, _, hcp⟩ := (HA.out.below HB.out).ver p hpl
        obtain ⟨rfl, rfl⟩ : b = b' ∧ o = o' := by simpa using hbo
        have g0 := (ver_cells hcp).1
        clear hcp hbo
        have HP : Hid (prevOf l k = some l[p].seq) := by unfold prevOf; rw [if_neg hz, ← hp, List.getElem?_eq_getElem hpl]; rfl
        have hw1 : IntKind.i64.wrap ((k : Int) - 1) = (p : Int) := by rw [IntWalk.i64_in _ (by omega)]; omega
        have hz1 : decide ((0 : Int) < (k : Int)) = true := by simp <;> omega
        have hz2 : decide (0 < k) = true := by simp <;> omega
        have hz3 : (0 < k) = True := by simp <;> omega
        have hz4 : (k = 0) = False := by simp <;> omega
        have Hp := Lib.hid hp
        clear hz hp
        generalize l[p].seq = u at *
        generalize l[k] = x at *
        obtain ⟨x0, x1, x2, x3, x4, x5, ⟨p6, q6, r6⟩, ⟨p7, q7, r7⟩, x8, ⟨p9, q9, r9⟩, ⟨p10, q10, r10⟩⟩ := x
        simp only at e0 e1 e6 e7 e9 e10 HN
        by_cases d0 : x0 < 1
        · have f0a : decide (x0 < 1) = true := (by simp <;> omega); have f0b : (x0 < 1) = True := (by simp <;> omega)
          have D0 := Lib.hid d0
          clear d0
          go_wp2
          go_quiet (fail)
          go_wp2
          go_ret
          have hno : ¬ Right l := fun h => by
            have h1 := h.2.1 k hkl
            have hd := D0.out
            rw [HK.out, HP.out] at h1
            simp [bad] at h1
            omega
          exact ⟨by rw [← HR.out]; simp [hno], by first | exact HB.out | exact HB.out.drew | exact dn HB.out _⟩
        · have f0a : decide (x0 < 1) = false := (by simp <;> omega); have f0b : (x0 < 1) = False := (by simp <;> omega)
          by_cases d1 : u ≤ x0
          · have f1a : decide (u ≤ x0) = true := (by simp <;> omega); have f1b : (u ≤ x0) = True := (by simp <;> omega)
            have D1 := Lib.hid d1
            clear d1
            go_wp2
            go_quiet (fail)
            go_wp2
            go_ret
            have hno : ¬ Right l := fun h => by
              have h1 := h.2.1 k hkl
              have hd := D1.out
              rw [HK.out, HP.out] at h1
              simp [bad] at h1
              omega
            exact ⟨by rw [← HR.out]; simp [hno], by first | exact HB.out | exact HB.out.drew | exact dn HB.out _⟩
          · have f1a : decide (u ≤ x0) = false := (by simp <;> omega); have f1b : (u ≤ x0) = False := (by simp <;> omega)
            by_cases d2 : 60 < q6
            · have f2a : decide (60 < q6) = true := (by simp <;> omega); have f2b : decide ((60 : Int) < (q6 : Int)) = true := (by simp <;> omega)
              have D2 := Lib.hid d2
              clear d2
              go_wp2
              go_quiet (fail)
              go_wp2
              go_ret
              have hno : ¬ Right l := fun h => by
                have h1 := h.2.1 k hkl
                have hd := D2.out
                rw [HK.out, HP.out] at h1
                simp [bad] at h1
                omega
              exact ⟨by rw [← HR.out]; simp [hno], by first | exact HB.out | exact HB.out.drew | exact dn HB.out _⟩
            · have f2a : decide (60 < q6) = false := (by simp <;> omega); have f2b : decide ((60 : Int) < (q6 : Int)) = false := (by simp <;> omega)
              by_cases d3 : 60 < q7
              · have f3a : decide (60 < q7) = true := (by simp <;> omega); have f3b : decide ((60 : Int) < (q7 : Int)) = true := (by simp <;> omega)
                have D3 := Lib.hid d3
                clear d3
                go_wp2
                go_quiet (fail)
                go_wp2
                go_ret
                have hno : ¬ Right l := fun h => by
                  have h1 := h.2.1 k hkl
                  have hd := D3.out
                  rw [HK.out, HP.out] at h1
                  simp [bad] at h1
                  omega
                exact ⟨by rw [← HR.out]; simp [hno], by first | exact HB.out | exact HB.out.drew | exact dn HB.out _⟩
              · have f3a : decide (60 < q7) = false := (by simp <;> omega); have f3b : decide ((60 : Int) < (q7 : Int)) = false := (by simp <;> omega)
                by_cases d4 : 100 < q10
                · have f4a : decide (100 < q10) = true := (by simp <;> omega); have f4b : decide ((100 : Int) < (q10 : Int)) = true := (by simp <;> omega)
                  have D4 := Lib.hid d4
                  clear d4
                  go_wp2
                  go_quiet (fail)
                  go_wp2
                  go_ret
                  have hno : ¬ Right l := fun h => by
                    have h1 := h.2.1 k hkl
                    have hd := D4.out
                    rw [HK.out, HP.out] at h1
                    simp [bad] at h1
                    omega
                  exact ⟨by rw [← HR.out]; simp [hno], by first | exact HB.out | exact HB.out.drew | exact dn HB.out _⟩
                · have f4a : decide (100 < q10) = false := (by simp <;> omega); have f4b : decide ((100 : Int) < (q10 : Int)) = false := (by simp <;> omega)
                  by_cases d5 : 100 < q9
                  · have f5a : decide (100 < q9) = true := (by simp <;> omega); have f5b : decide ((100 : Int) < (q9 : Int)) = true := (by simp <;> omega)
                    have D5 := Lib.hid d5
                    clear d5
                    go_wp2
                    go_quiet (fail)
                    go_wp2
                    go_ret
                    have hno : ¬ Right l := fun h => by
                      have h1 := h.2.1 k hkl
                      have hd := D5.out
                      rw [HK.out, HP.out] at h1
                      simp [bad] at h1
                      omega
                    exact ⟨by rw [← HR.out]; simp [hno], by first | exact HB.out | exact HB.out.drew | exact dn HB.out _⟩
                  · have f5a : decide (100 < q9) = false := (by simp <;> omega); have f5b : decide ((100 : Int) < (q9 : Int)) = false := (by simp <;> omega)
                    go_wp2
                    go_quiet (fail)
                    clear f0a f0b f1a f1b f2a f2b f3a f3b f4a f4b f5a f5b hz1 hz2 hz3 hz4 hw1
                    cases x1
                    · go_wp2
                      go_roundw
                      case rel => exact ⟨k + 1, q, by omega, by omega, by go_num, by go_num, by first | exact HB.out | exact HB.out.drew | exact dn HB.out _, HN.out.symm, fun j hj => by
                        by_cases e : j = k
                        · subst e; rw [HK.out, HP.out]; simp [bad]; omega
                        · exact HT.out j (by omega)⟩
                      case measure => simp [intOf]; omega
                    · go_wp2
                      go_roundw
                      case rel => exact ⟨k + 1, q + 1, by omega, by omega, by go_num, by go_num, by first | exact HB.out | exact HB.out.drew | exact dn HB.out _, HN.out.symm, fun j hj => by
                        by_cases e : j = k
                        · subst e; rw [HK.out, HP.out]; simp [bad]; omega
                        · exact HT.out j (by omega)⟩
                      case measure => simp [intOf]; omega
    · have : k = n := by omega
      subst this
      have hlast : decide ((q : Int) < 2) = R := by
        rw [← HR.out]
        have h3 : q = nulls l := by have h := HQ.out; rw [List.take_of_length_le (by have := Hn.out; omega)] at h; exact h
        have h4 : Right l ↔ nulls l < 2 := ⟨fun h => h.2.2, fun h => ⟨Hl.out, fun j hj => HT.out j (by have := Hn.out; omega), h⟩⟩
        rw [h3]
        simp only [h4, decide_eq_decide]
        omega
      have Hlast := Lib.hid hlast
      clear hlast
      go_wp2
      go_ret
      exact ⟨by rw [← Hlast.out]; simp, HB.out⟩

end Go.Proofs.Ytmaaekahkeibnaa
