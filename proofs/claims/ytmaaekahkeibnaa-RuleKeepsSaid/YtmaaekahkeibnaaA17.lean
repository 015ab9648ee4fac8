/- The reference's Put, Delete, Remove. -/
import Derived.Test.YtmaaekahkeibnaaA16
namespace Go.Proofs.Ytmaaekahkeibnaa
open Go.RowKit
set_option linter.unusedSimpArgs false

theorem rbareP_len (l : List Ver) (now : Int) : (rbareP l now).1.length ≤ l.length := by
  unfold rbareP
  cases pk l 0 with
  | none => exact Nat.le_refl _
  | some v => by_cases h : now < v.untl <;> simp [h]; exact List.length_eraseIdx_le _ _
theorem rbareP_code (l : List Ver) (now : Int) : ((rbareP l now).2 = 14 ∧ (rbareP l now).1 = l) ∨ (rbareP l now).2 = 0 := by
  unfold rbareP
  cases pk l 0 with
  | none => exact .inr rfl
  | some v => by_cases h : now < v.untl <;> simp [h]

set_option maxHeartbeats 4000000 in
theorem rput25_on (A : Option Addr) (c : Nat) (l : List Ver) (now : Int) (v : Ver) (w : World) (hl : l.length ≤ 31) (hA : Rd w A (fl l)) (hnil : A = none → c = 0) :
    Calls Try.prog 25 #[.slice A l.length c, .int .i64 1, .int .i64 now, v.agg] w (RowRes w ([{ v with null := false, mark := false }] ++ l) 0) := by
  have q36 := Lib.hid (fun W (hb : Below w.heap.size w W) => ahead36 A c l v false false W hl (hA.below hb) hnil)
  clear hA hnil
  obtain ⟨v0, v1, v2, v3, v4, v5, ⟨a6, n6, c6⟩, ⟨a7, n7, c7⟩, v8, ⟨a9, n9, c9⟩, ⟨a10, n10, c10⟩⟩ := v
  simp only [Ver.agg, Ver.cells] at *
  generalize [_] ++ l = r at *
  generalize l.length = n at *
  go_enter Try.func25, Try.ntmps25
  go_wp2_with (go_at_call 36; refine (q36.out _ (ba (b0 _) _)).mono ?_; rintro e w1 ⟨A1, k1, rfl, hk1, hz1, hr1, hb1⟩; have Hz1 := Lib.hid hz1; clear hz1)
  go_ret2
  exact ⟨A1, k1, rfl, Hz1.out, hr1, bt (ba (b0 _) _) hb1⟩

set_option maxHeartbeats 4000000 in
theorem rput25_no (A : Option Addr) (c : Nat) (l : List Ver) (st now : Int) (v : Ver) (w : World) (hl : l.length ≤ 31) (hA : Rd w A (fl l)) (hnil : A = none → c = 0) (hs : st ≠ 1) (hc : (rbareP l now).2 = 14) :
    Calls Try.prog 25 #[.slice A l.length c, .int .i64 st, .int .i64 now, v.agg] w (RowRes w l 14) := by
  have q37 := Lib.hid (fun W (hb : Below w.heap.size w W) => rbare37 A c l now W hl (hA.below hb) hnil)
  rw [hc] at q37
  have hs1 : (st == 1) = false := by simpa using hs
  have HA := Lib.hid hA
  have Hnil := Lib.hid hnil
  clear hA hnil hs hc
  obtain ⟨v0, v1, v2, v3, v4, v5, ⟨a6, n6, c6⟩, ⟨a7, n7, c7⟩, v8, ⟨a9, n9, c9⟩, ⟨a10, n10, c10⟩⟩ := v
  simp only [Ver.agg, Ver.cells] at *
  generalize (rbareP l now).1 = r at *
  go_enter Try.func25, Try.ntmps25
  go_wp2_with (go_at_call 37; refine (q37.out _ (ba (b0 _) _)).mono ?_; rintro e w1 ⟨A1, k1, rfl, hz1, hr1, hb1⟩; have Hz1 := Lib.hid hz1; clear hz1)
  go_ret2
  exact ⟨A, c, rfl, Hnil.out, HA.out.below (bt (ba (b0 _) _) hb1), bt (ba (b0 _) _) hb1⟩

set_option maxHeartbeats 4000000 in
theorem rput25_yes (A : Option Addr) (c : Nat) (l : List Ver) (st now : Int) (v : Ver) (w : World) (hl : l.length ≤ 31) (hA : Rd w A (fl l)) (hnil : A = none → c = 0) (hs : st ≠ 1) (hc : (rbareP l now).2 = 0) :
    Calls Try.prog 25 #[.slice A l.length c, .int .i64 st, .int .i64 now, v.agg] w (RowRes w ([{ v with null := true, mark := false }] ++ (rbareP l now).1) 0) := by
  have q37 := Lib.hid (fun W (hb : Below w.heap.size w W) => rbare37 A c l now W hl (hA.below hb) hnil)
  have hlr := Nat.le_trans (rbareP_len l now) hl
  rw [hc] at q37
  have hs1 : (st == 1) = false := by simpa using hs
  clear hA hnil hs hc
  generalize (rbareP l now).1 = r at *
  have q36 := Lib.hid (fun A c W (hA : Rd W A (fl r)) hnil => ahead36 A c r v true false W hlr hA hnil)
  obtain ⟨v0, v1, v2, v3, v4, v5, ⟨a6, n6, c6⟩, ⟨a7, n7, c7⟩, v8, ⟨a9, n9, c9⟩, ⟨a10, n10, c10⟩⟩ := v
  simp only [Ver.agg, Ver.cells] at *
  generalize [_] ++ r = r2 at *
  go_enter Try.func25, Try.ntmps25
  go_wp2_with (first
    | (go_at_call 37; refine (q37.out _ (ba (b0 _) _)).mono ?_; rintro e w1 ⟨A1, k1, rfl, hz1, hr1, hb1⟩; have Hz1 := Lib.hid hz1; have Hr1 := Lib.hid hr1; clear hz1 hr1; obtain ⟨hc1, hf1⟩ := bcell hb1)
    | (go_at_call 36; refine (q36.out A1 k1 _ Hr1.out Hz1.out).mono ?_; rintro e w2 ⟨A2, k2, rfl, hk2, hz2, hr2, hb2⟩; have Hz2 := Lib.hid hz2; clear hz2))
  go_ret2
  exact ⟨A2, k2, rfl, Hz2.out, hr2, bt (bt (ba (b0 _) _) hb1) hb2⟩

def rputP (l : List Ver) (st now : Int) (v : Ver) : List Ver × Int :=
  if st = 1 then ([{ v with null := false, mark := false }] ++ l, 0) else if (rbareP l now).2 = 0 then ([{ v with null := true, mark := false }] ++ (rbareP l now).1, 0) else (l, 14)

theorem rput25 (A : Option Addr) (c : Nat) (l : List Ver) (st now : Int) (v : Ver) (w : World) (hl : l.length ≤ 31) (hA : Rd w A (fl l)) (hnil : A = none → c = 0) :
    Calls Try.prog 25 #[.slice A l.length c, .int .i64 st, .int .i64 now, v.agg] w (RowRes w (rputP l st now v).1 (rputP l st now v).2) := by
  unfold rputP
  by_cases hs : st = 1
  · subst hs
    simpa using rput25_on A c l now v w hl hA hnil
  · rcases rbareP_code l now with ⟨h, _⟩ | h
    · simpa [hs, h] using rput25_no A c l st now v w hl hA hnil hs h
    · simpa [hs, h] using rput25_yes A c l st now v w hl hA hnil hs h

end Go.Proofs.Ytmaaekahkeibnaa
