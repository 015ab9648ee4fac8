/- The reference's Find, without, ahead. -/
import Derived.Test.YtmaaekahkeibnaaA12
import Derived.StillTailTactics
namespace Go.Proofs.Ytmaaekahkeibnaa
open Go.RowKit
set_option linter.unusedSimpArgs false

def findI (l : List Ver) (id : Int) : Int := if id < 0 then (if l = [] then -1 else 0) else fI (fun v => decide (v.idOf = id)) l

theorem erase_at (l : List Ver) (m : Nat) (hm : m < l.length) : (l.take (m + 1)).eraseIdx m = (l.take m).eraseIdx m := by
  have hlen : (l.take m).length = m := by simp; omega
  have e2 : (l.take m).eraseIdx m = l.take m := List.eraseIdx_of_length_le (by omega)
  have e3 : m - (l.take m).length = 0 := by omega
  rw [e2, List.take_succ_eq_append_getElem hm, List.eraseIdx_append_of_length_le (by omega), e3]
  simp
theorem erase_step (l : List Ver) (m j : Nat) (hj : j < l.length) (hne : j ≠ m) : (l.take (j + 1)).eraseIdx m = (l.take j).eraseIdx m ++ [l[j]] := by
  have hlen : (l.take j).length = j := by simp; omega
  rw [List.take_succ_eq_append_getElem hj]
  rcases Nat.lt_or_ge m j with h | h
  · rw [List.eraseIdx_append_of_lt_length (by omega)]
  · have e2 : (l.take j).eraseIdx m = l.take j := List.eraseIdx_of_length_le (by omega)
    rw [e2, List.eraseIdx_of_length_le (by simp only [List.length_append, List.length_cons, List.length_nil]; omega)]

theorem find10_neg (A : Option Addr) (c n : Nat) (id : Int) (w : World) (hid : id < 0) :
    Calls Try.prog 10 #[.slice A n c, .int .i64 id] w fun e w' => e = .returned (.int .i64 (if n = 0 then -1 else 0)) ∧ Below w.heap.size w w' := by
  by_cases h0 : n = 0
  · subst h0
    go_enter Try.func10, Try.ntmps10
    go_wp2
    go_ret
    exact ⟨by simp, b0 _⟩
  · have h1 : ((n : Int) == 0) = false := by simp; omega
    have h2 : (n == 0) = false := by simpa using h0
    have H0 := Lib.hid h0
    clear h0
    go_enter Try.func10, Try.ntmps10
    go_wp2
    go_ret
    exact ⟨by simp [H0.out], b0 _⟩

set_option maxHeartbeats 1000000 in
theorem find10_pos (A : Option Addr) (c : Nat) (l : List Ver) (id : Int) (w : World) (hl : l.length ≤ 31) (hA : Rd w A (fl l)) (hid : 0 ≤ id) :
    Calls Try.prog 10 #[.slice A l.length c, .int .i64 id] w fun e w' => e = .returned (.int .i64 (fI (fun v => decide (v.idOf = id)) l)) ∧ Below w.heap.size w w' := by
  obtain ⟨n, hn⟩ : ∃ n, l.length = n := ⟨_, rfl⟩
  rw [hn] at hl ⊢
  have Hn : Hid (l.length = n) := hn
  clear hn
  have HA := Lib.hid hA
  clear hA
  generalize hr : fI (fun v => decide (v.idOf = id)) l = r
  have Hr := Lib.hid hr
  clear hr
  have hid2 : decide (id < 0) = false := by simp; omega
  go_enter Try.func10, Try.ntmps10
  go_wp2
  go_loopw [5] (fun i wr => ∃ k : Nat, k ≤ n ∧ i = .int .i64 k ∧ Hid (Below w.heap.size w wr) ∧ Hid (∀ j (h : j < l.length), j < k → l[j].idOf ≠ id)) (fun i _ => n - (intOf i).toNat)
  case atStart => exact ⟨0, Nat.zero_le _, rfl, Below.refl _ _, fun j _ hj => absurd hj (Nat.not_lt_zero _)⟩
  case round =>
    obtain ⟨k, hk, rfl, HB, HT⟩ := hrel
    by_cases hlt : k < n
    · have hkl : k < l.length := by have := Hn.out; omega
      obtain ⟨b, o, rfl, _, hcv⟩ := (HA.out.below HB.out).ver k hkl
      obtain ⟨e0, e1, e2, e3, e4, e5, e6, e7, e8, e9, e10⟩ := ver_cells hcv
      clear hcv
      have q19 := Lib.hid (id19 l[k] wr)
      by_cases hv : l[k].idOf = id
      · have q : Hid (Calls Try.prog 19 #[l[k].agg] wr fun e w' => e = .returned (.int .i64 id) ∧ Below wr.heap.size wr w') := by
          have := q19.out; rw [hv] at this; exact this
        clear q19
        have hrk : r = k := by rw [← Hr.out]; exact fI_hit hkl (by simpa using hv) (fun j hj hjk => by simpa using HT.out j hj hjk)
        have Hrk := Lib.hid hrk
        clear hv hrk
        go_wp2_with (go_at_call 19; refine (q.out).mono ?_; rintro e w1 ⟨rfl, hb1⟩)
        go_ret
        exact ⟨by rw [Hrk.out]; rfl, bt HB.out hb1⟩
      · have hv2 : (l[k].idOf == id) = false := by simpa using hv
        have Hv := Lib.hid hv
        clear hv
        generalize hq : l[k].idOf = q at *
        have Hq := Lib.hid hq
        clear hq
        go_wp2_with (go_at_call 19; refine (q19.out).mono ?_; rintro e w1 ⟨rfl, hb1⟩)
        go_roundw
        case rel => exact ⟨k + 1, by omega, by go_num, bt HB.out hb1, fun j hj hjk => by
          by_cases e : j = k
          · subst e; rw [Hq.out]; exact Hv.out
          · exact HT.out j hj (by omega)⟩
        case measure => simp [intOf]; omega
    · have : k = n := by omega
      subst this
      go_wp2
      go_ret
      exact ⟨by rw [← Hr.out, fI_miss (fun j hj => by simpa using HT.out j hj (by have := Hn.out; omega))]; rfl, HB.out⟩

theorem find10 (A : Option Addr) (c : Nat) (l : List Ver) (id : Int) (w : World) (hl : l.length ≤ 31) (hA : Rd w A (fl l)) :
    Calls Try.prog 10 #[.slice A l.length c, .int .i64 id] w fun e w' => e = .returned (.int .i64 (findI l id)) ∧ Below w.heap.size w w' := by
  unfold findI
  by_cases h : id < 0
  · have h1 := find10_neg A c l.length id w h
    simpa [h] using h1
  · simpa [h] using find10_pos A c l id w hl hA (by omega)

set_option maxHeartbeats 2000000 in
theorem without38 (A : Option Addr) (c : Nat) (l : List Ver) (m : Nat) (w : World) (hl : l.length ≤ 31) (hA : Rd w A (fl l)) (hm : m < l.length) :
    Calls Try.prog 38 #[.slice A l.length c, .int .i64 (m : Int)] w (ListRes w (l.eraseIdx m)) := by
  obtain ⟨n, hn⟩ : ∃ n, l.length = n := ⟨_, rfl⟩
  rw [hn] at hl hm ⊢
  have Hn : Hid (l.length = n) := hn
  clear hn
  have HA := Lib.hid hA
  clear hA
  obtain ⟨base, hba⟩ : ∃ base, base = w.heap.size := ⟨_, rfl⟩
  have hbase : base ≤ w.heap.size := by omega
  have hbase2 : w.heap.size ≤ base := by omega
  clear hba
  go_enter Try.func38, Try.ntmps38
  go_wp2
  go_loopw [5, 6] (fun out i wr => ∃ j : Nat, j ≤ n ∧ i = .int .i64 j ∧ Hid (Below base w wr) ∧ Hid (wr.ownsRow base 29 11 out ((l.take j).eraseIdx m).length (fl ((l.take j).eraseIdx m)))) (fun _ i _ => n - (intOf i).toNat)
  case atStart => exact ⟨0, Nat.zero_le _, rfl, Below.refl _ _, by simpa [Hid, fl] using World.ownsRow_nil w base 29 11⟩
  case round =>
    obtain ⟨j, hj, rfl, HB, HO⟩ := hrel
    have HBw : Hid (Below w.heap.size w wr) := HB.out.mono (by omega)
    have hbr : base ≤ wr.heap.size := Nat.le_trans hbase HB.out.size
    by_cases hlt : j < n
    · have hjl : j < l.length := by have := Hn.out; omega
      have Htk : Hid (l.take (j + 1) = l.take j ++ [l[j]]) := List.take_succ_eq_append_getElem hjl
      have Hlj : Hid ((l.take j).length = j) := by simp [Hid]; omega
      by_cases hjm : j = m
      · subst hjm
        go_wp2
        go_roundw
        case rel => exact ⟨j + 1, by omega, by go_num, HB.out, by
          have e1 := erase_at l j hjl
          rw [e1]
          exact HO.out⟩
        case measure => simp [intOf]; omega
      · obtain ⟨b, o, rfl, hbl, hcv⟩ := (HA.out.below HBw.out).ver j hjl
        obtain ⟨e0, e1, e2, e3, e4, e5, e6, e7, e8, e9, e10⟩ := ver_cells hcv
        clear hcv
        have hjz : ((j : Int) == (m : Int)) = false := by simp; omega
        have hjz2 : ((j : Int) != (m : Int)) = true := by simp; omega
        have Hes : Hid ((l.take (j + 1)).eraseIdx m = (l.take j).eraseIdx m ++ [l[j]]) := erase_step l m j hjl hjm
        clear hjm
        have Hlen : Hid (((l.take j).eraseIdx m).length ≤ 40) := by
          have h2 : ((l.take j).eraseIdx m).length ≤ (l.take j).length := List.length_eraseIdx_le _ _
          have := Hlj.out; simp only [Hid]; omega
        generalize l[j] = x at *
        obtain ⟨x0, x1, x2, x3, x4, x5, ⟨p6, q6, r6⟩, ⟨p7, q7, r7⟩, x8, ⟨p9, q9, r9⟩, ⟨p10, q10, r10⟩⟩ := x
        simp only at e0 e1 e2 e3 e4 e5 e6 e7 e8 e9 e10
        go_wp2_with (at_builtin; refine ap1 rfl (.tmp 16) (.tmp 21) rfl base _ ((l.take j).eraseIdx m) ⟨x0, x1, x2, x3, x4, x5, ⟨p6, q6, r6⟩, ⟨p7, q7, r7⟩, x8, ⟨p9, q9, r9⟩, ⟨p10, q10, r10⟩⟩ rfl ?c1 rfl ?c2 ?c3 ?_; (case c1 => exact HO.out); (case c2 => exact Hlen.out); (case c3 => omega); intro v2 w2 hown2 hb2; have Hown2 := Lib.hid hown2; clear hown2)
        go_roundw
        case rel => exact ⟨j + 1, by omega, by go_num, HB.out.trans hb2, by
          have e1 := Hes.out
          rw [e1]
          exact Hown2.out⟩
        case measure => simp [intOf]; omega
    · have : j = n := by omega
      subst this
      have Ht : Hid (l.take j = l) := List.take_of_length_le (by have := Hn.out; omega)
      obtain ⟨A2, k2, hu, hk2, hz2, hr2⟩ := own_form HO.out
      rw [Ht.out] at hu hk2 hr2
      have Hz2 := Lib.hid hz2
      have Hu := Lib.hid hu
      clear hu hz2
      go_wp2
      go_ret
      exact ⟨A2, k2, congrArg Ending.returned Hu.out, hk2, Hz2.out, hr2, HBw.out⟩

end Go.Proofs.Ytmaaekahkeibnaa
