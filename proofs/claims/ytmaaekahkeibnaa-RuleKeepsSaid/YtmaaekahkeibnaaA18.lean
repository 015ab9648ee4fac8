/- The reference's Delete, Remove. -/
import Derived.Test.YtmaaekahkeibnaaA17
namespace Go.Proofs.Ytmaaekahkeibnaa
open Go.RowKit
set_option linter.unusedSimpArgs false

/-- Versions, does a mark come, a code. -/
def RowRes3 (w : World) (r : List Ver) (b : Bool) (code : Int) (e : Ending) (w' : World) : Prop :=
  ∃ A c, e = .returned (.tuple #[.slice A r.length c, .bool b, .int .i64 code]) ∧ (A = none → c = 0) ∧ Rd w' A (fl r) ∧ Below w.heap.size w w'

set_option maxHeartbeats 4000000 in
theorem rdel26_else (A : Option Addr) (c : Nat) (l : List Ver) (st : Int) (now : Int) (v : Ver) (w : World) (hl : l.length ≤ 31) (hA : Rd w A (fl l)) (hnil : A = none → c = 0) (h0 : st ≠ 0) (h2 : st ≠ 2) :
    Calls Try.prog 26 #[.slice A l.length c, .int .i64 st, .int .i64 now, v.agg] w (RowRes3 w ([{ v with null := false, mark := true }] ++ l) true 0) := by
  have q36 := Lib.hid (fun W (hb : Below w.heap.size w W) => ahead36 A c l v false true W hl (hA.below hb) hnil)
  have e0 : (st != 0) = true := by simpa using h0
  have e1 : (st == 0) = false := by simpa using h0
  have e2 : (st != 2) = true := by simpa using h2
  have e3 : (st == 2) = false := by simpa using h2
  clear hA hnil h0 h2
  obtain ⟨v0, v1, v2, v3, v4, v5, ⟨a6, n6, c6⟩, ⟨a7, n7, c7⟩, v8, ⟨a9, n9, c9⟩, ⟨a10, n10, c10⟩⟩ := v
  simp only [Ver.agg, Ver.cells] at *
  generalize [_] ++ l = r at *
  generalize l.length = n at *
  go_enter Try.func26, Try.ntmps26
  go_wp2_with (go_at_call 36; refine (q36.out _ (ba (b0 _) _)).mono ?_; rintro e w1 ⟨A1, k1, rfl, hk1, hz1, hr1, hb1⟩; have Hz1 := Lib.hid hz1; clear hz1)
  go_ret3
  exact ⟨A1, k1, rfl, Hz1.out, hr1, bt (ba (b0 _) _) hb1⟩

set_option maxHeartbeats 4000000 in
theorem rdel26_off_no (A : Option Addr) (c : Nat) (l : List Ver) (now : Int) (v : Ver) (w : World) (hl : l.length ≤ 31) (hA : Rd w A (fl l)) (hnil : A = none → c = 0) (hc : (rbareP l now).2 = 14) :
    Calls Try.prog 26 #[.slice A l.length c, .int .i64 0, .int .i64 now, v.agg] w (RowRes3 w l false 14) := by
  have q37 := Lib.hid (fun W (hb : Below w.heap.size w W) => rbare37 A c l now W hl (hA.below hb) hnil)
  rw [hc] at q37
  have HA := Lib.hid hA
  have Hnil := Lib.hid hnil
  clear hA hnil hc
  obtain ⟨v0, v1, v2, v3, v4, v5, ⟨a6, n6, c6⟩, ⟨a7, n7, c7⟩, v8, ⟨a9, n9, c9⟩, ⟨a10, n10, c10⟩⟩ := v
  simp only [Ver.agg, Ver.cells] at *
  generalize (rbareP l now).1 = r at *
  go_enter Try.func26, Try.ntmps26
  go_wp2_with (go_at_call 37; refine (q37.out _ (ba (b0 _) _)).mono ?_; rintro e w1 ⟨A1, k1, rfl, hz1, hr1, hb1⟩; have Hz1 := Lib.hid hz1; have Hr1 := Lib.hid hr1; clear hz1 hr1; obtain ⟨hc1, hf1⟩ := bcell hb1)
  go_ret3
  exact ⟨A, c, rfl, Hnil.out, HA.out.below (bt (ba (b0 _) _) hb1), bt (ba (b0 _) _) hb1⟩

set_option maxHeartbeats 4000000 in
theorem rdel26_sus_no (A : Option Addr) (c : Nat) (l : List Ver) (now : Int) (v : Ver) (w : World) (hl : l.length ≤ 31) (hA : Rd w A (fl l)) (hnil : A = none → c = 0) (hc : (rbareP l now).2 = 14) :
    Calls Try.prog 26 #[.slice A l.length c, .int .i64 2, .int .i64 now, v.agg] w (RowRes3 w l false 14) := by
  have q37 := Lib.hid (fun W (hb : Below w.heap.size w W) => rbare37 A c l now W hl (hA.below hb) hnil)
  rw [hc] at q37
  have HA := Lib.hid hA
  have Hnil := Lib.hid hnil
  clear hA hnil hc
  obtain ⟨v0, v1, v2, v3, v4, v5, ⟨a6, n6, c6⟩, ⟨a7, n7, c7⟩, v8, ⟨a9, n9, c9⟩, ⟨a10, n10, c10⟩⟩ := v
  simp only [Ver.agg, Ver.cells] at *
  generalize (rbareP l now).1 = r at *
  go_enter Try.func26, Try.ntmps26
  go_wp2_with (go_at_call 37; refine (q37.out _ (ba (b0 _) _)).mono ?_; rintro e w1 ⟨A1, k1, rfl, hz1, hr1, hb1⟩; have Hz1 := Lib.hid hz1; have Hr1 := Lib.hid hr1; clear hz1 hr1; obtain ⟨hc1, hf1⟩ := bcell hb1)
  go_ret3
  exact ⟨A, c, rfl, Hnil.out, HA.out.below (bt (ba (b0 _) _) hb1), bt (ba (b0 _) _) hb1⟩

set_option maxHeartbeats 4000000 in
theorem rdel26_off_yes (A : Option Addr) (c : Nat) (l : List Ver) (now : Int) (v : Ver) (w : World) (hl : l.length ≤ 31) (hA : Rd w A (fl l)) (hnil : A = none → c = 0) (hc : (rbareP l now).2 = 0) :
    Calls Try.prog 26 #[.slice A l.length c, .int .i64 0, .int .i64 now, v.agg] w (RowRes3 w (rbareP l now).1 false 0) := by
  have q37 := Lib.hid (fun W (hb : Below w.heap.size w W) => rbare37 A c l now W hl (hA.below hb) hnil)
  rw [hc] at q37
  clear hA hnil hc
  obtain ⟨v0, v1, v2, v3, v4, v5, ⟨a6, n6, c6⟩, ⟨a7, n7, c7⟩, v8, ⟨a9, n9, c9⟩, ⟨a10, n10, c10⟩⟩ := v
  simp only [Ver.agg, Ver.cells] at *
  generalize (rbareP l now).1 = r at *
  generalize l.length = n at *
  go_enter Try.func26, Try.ntmps26
  go_wp2_with (go_at_call 37; refine (q37.out _ (ba (b0 _) _)).mono ?_; rintro e w1 ⟨A1, k1, rfl, hz1, hr1, hb1⟩; have Hz1 := Lib.hid hz1; have Hr1 := Lib.hid hr1; clear hz1 hr1; obtain ⟨hc1, hf1⟩ := bcell hb1)
  go_ret3
  exact ⟨A1, k1, rfl, Hz1.out, Hr1.out, bt (ba (b0 _) _) hb1⟩

set_option maxHeartbeats 4000000 in
theorem rdel26_sus_yes (A : Option Addr) (c : Nat) (l : List Ver) (now : Int) (v : Ver) (w : World) (hl : l.length ≤ 31) (hA : Rd w A (fl l)) (hnil : A = none → c = 0) (hc : (rbareP l now).2 = 0) :
    Calls Try.prog 26 #[.slice A l.length c, .int .i64 2, .int .i64 now, v.agg] w (RowRes3 w ([{ v with null := true, mark := true }] ++ (rbareP l now).1) true 0) := by
  have q37 := Lib.hid (fun W (hb : Below w.heap.size w W) => rbare37 A c l now W hl (hA.below hb) hnil)
  have hlr := Nat.le_trans (rbareP_len l now) hl
  rw [hc] at q37
  clear hA hnil hc
  generalize (rbareP l now).1 = r at *
  have q36 := Lib.hid (fun A c W (hA : Rd W A (fl r)) hnil => ahead36 A c r v true true W hlr hA hnil)
  obtain ⟨v0, v1, v2, v3, v4, v5, ⟨a6, n6, c6⟩, ⟨a7, n7, c7⟩, v8, ⟨a9, n9, c9⟩, ⟨a10, n10, c10⟩⟩ := v
  simp only [Ver.agg, Ver.cells] at *
  generalize [_] ++ r = r2 at *
  generalize l.length = n at *
  go_enter Try.func26, Try.ntmps26
  go_wp2_with (first
    | (go_at_call 37; refine (q37.out _ (ba (b0 _) _)).mono ?_; rintro e w1 ⟨A1, k1, rfl, hz1, hr1, hb1⟩; have Hz1 := Lib.hid hz1; have Hr1 := Lib.hid hr1; clear hz1 hr1; obtain ⟨hc1, hf1⟩ := bcell hb1)
    | (go_at_call 36; refine (q36.out A1 k1 _ Hr1.out Hz1.out).mono ?_; rintro e w2 ⟨A2, k2, rfl, hk2, hz2, hr2, hb2⟩; have Hz2 := Lib.hid hz2; clear hz2))
  go_ret3
  exact ⟨A2, k2, rfl, Hz2.out, hr2, bt (bt (ba (b0 _) _) hb1) hb2⟩

def rdelP (l : List Ver) (st now : Int) (v : Ver) : List Ver × Bool × Int :=
  if st ≠ 0 ∧ st ≠ 2 then ([{ v with null := false, mark := true }] ++ l, true, 0)
  else if (rbareP l now).2 = 0 then (if st = 0 then ((rbareP l now).1, false, 0) else ([{ v with null := true, mark := true }] ++ (rbareP l now).1, true, 0)) else (l, false, 14)

theorem rdel26 (A : Option Addr) (c : Nat) (l : List Ver) (st : Int) (now : Int) (v : Ver) (w : World) (hl : l.length ≤ 31) (hA : Rd w A (fl l)) (hnil : A = none → c = 0) :
    Calls Try.prog 26 #[.slice A l.length c, .int .i64 st, .int .i64 now, v.agg] w (RowRes3 w (rdelP l st now v).1 (rdelP l st now v).2.1 (rdelP l st now v).2.2) := by
  unfold rdelP
  by_cases h0 : st = 0
  · subst h0
    rcases rbareP_code l now with ⟨h, _⟩ | h
    · simpa [h] using rdel26_off_no A c l now v w hl hA hnil h
    · simpa [h] using rdel26_off_yes A c l now v w hl hA hnil h
  · by_cases h2 : st = 2
    · subst h2
      rcases rbareP_code l now with ⟨h, _⟩ | h
      · simpa [h] using rdel26_sus_no A c l now v w hl hA hnil h
      · simpa [h] using rdel26_sus_yes A c l now v w hl hA hnil h
    · simpa [h0, h2] using rdel26_else A c l st now v w hl hA hnil h0 h2

set_option maxHeartbeats 2000000 in
theorem rrem28_none (A : Option Addr) (c : Nat) (l : List Ver) (id now : Int) (w : World) (hl : l.length ≤ 31) (hA : Rd w A (fl l)) (hnil : A = none → c = 0) (hf : findI l id = -1) :
    Calls Try.prog 28 #[.slice A l.length c, .int .i64 id, .int .i64 now] w (RowRes w l 9) := by
  have q10 := Lib.hid (find10 A c l id w hl hA)
  rw [hf] at q10
  have HA := Lib.hid hA
  have Hnil := Lib.hid hnil
  clear hA hnil hf
  go_enter Try.func28, Try.ntmps28
  go_wp2_with (go_at_call 10; refine (q10.out).mono ?_; rintro e w1 ⟨rfl, hb1⟩)
  go_ret2
  exact ⟨A, c, rfl, Hnil.out, HA.out.below hb1, hb1⟩

set_option maxHeartbeats 2000000 in
theorem rrem28_neg (A : Option Addr) (c : Nat) (l : List Ver) (id now : Int) (w : World) (hl : l.length ≤ 31) (hA : Rd w A (fl l)) (hnil : A = none → c = 0) (k : Nat) (hf : findI l id = k) (hid : id < 0) :
    Calls Try.prog 28 #[.slice A l.length c, .int .i64 id, .int .i64 now] w (RowRes w l 9) := by
  have q10 := Lib.hid (find10 A c l id w hl hA)
  rw [hf] at q10
  have HA := Lib.hid hA
  have Hnil := Lib.hid hnil
  clear hA hnil hf
  have hid2 : decide (id < 0) = true := by simpa using hid
  go_enter Try.func28, Try.ntmps28
  go_wp2_with (go_at_call 10; refine (q10.out).mono ?_; rintro e w1 ⟨rfl, hb1⟩)
  go_ret2
  exact ⟨A, c, rfl, Hnil.out, HA.out.below hb1, hb1⟩

set_option maxHeartbeats 2000000 in
theorem rrem28_held (A : Option Addr) (c : Nat) (l : List Ver) (id now : Int) (w : World) (hl : l.length ≤ 31) (hA : Rd w A (fl l)) (hnil : A = none → c = 0) (k : Nat) (hk : k < l.length) (hf : findI l id = k) (hid : 0 ≤ id) (hh : now < l[k].untl) :
    Calls Try.prog 28 #[.slice A l.length c, .int .i64 id, .int .i64 now] w (RowRes w l 14) := by
  have q10 := Lib.hid (find10 A c l id w hl hA)
  rw [hf] at q10
  have HA := Lib.hid hA
  have Hnil := Lib.hid hnil
  obtain ⟨b, o, rfl, hbl, hcv⟩ := hA.ver k hk
  obtain ⟨e0, e1, e2, e3, e4, e5, e6, e7, e8, e9, e10⟩ := ver_cells hcv
  clear hcv hA hnil hf e0 e1 e2 e3 e4 e6 e7 e8 e9 e10
  generalize l[k].untl = u at *
  obtain ⟨n, hn⟩ : ∃ n, l.length = n := ⟨_, rfl⟩
  have Hn : Hid (l.length = n) := hn
  rw [hn] at hk q10 ⊢
  clear hn
  have hkz : (k : Int) < (n : Int) := by omega
  have hhd : decide (now < u) = true := by simpa using hh
  have hid2 : decide (id < 0) = false := by simp; omega
  go_enter Try.func28, Try.ntmps28
  go_wp2_with (go_at_call 10; refine (q10.out).mono ?_; rintro e w1 ⟨rfl, hb1⟩; have f5 : w1.cell? ⟨b, o + k * 11 + 5, none⟩ = some (.int .i64 u) := (hb1.cell (p := ⟨b, o + k * 11 + 5, none⟩) hbl).trans e5)
  go_ret2
  exact ⟨_, c, by rw [Hn.out]; rfl, Hnil.out, HA.out.below hb1, hb1⟩

set_option maxHeartbeats 2000000 in
theorem rrem28_gone (A : Option Addr) (c : Nat) (l : List Ver) (id now : Int) (w : World) (hl : l.length ≤ 31) (hA : Rd w A (fl l)) (hnil : A = none → c = 0) (k : Nat) (hk : k < l.length) (hf : findI l id = k) (hid : 0 ≤ id) (hh : ¬ now < l[k].untl) :
    Calls Try.prog 28 #[.slice A l.length c, .int .i64 id, .int .i64 now] w (RowRes w (l.eraseIdx k) 0) := by
  have q10 := Lib.hid (find10 A c l id w hl hA)
  rw [hf] at q10
  have q38 := Lib.hid (fun W (hb : Below w.heap.size w W) => without38 A c l k W hl (hA.below hb) hk)
  obtain ⟨b, o, rfl, hbl, hcv⟩ := hA.ver k hk
  obtain ⟨e0, e1, e2, e3, e4, e5, e6, e7, e8, e9, e10⟩ := ver_cells hcv
  clear hcv hA hnil hf e0 e1 e2 e3 e4 e6 e7 e8 e9 e10
  generalize l[k].untl = u at *
  generalize l.eraseIdx k = r at *
  generalize l.length = n at *
  have hkz : (k : Int) < (n : Int) := by omega
  have hhd : decide (now < u) = false := by simpa using hh
  have hid2 : decide (id < 0) = false := by simp; omega
  go_enter Try.func28, Try.ntmps28
  go_wp2_with (first
    | (go_at_call 10; refine (q10.out).mono ?_; rintro e w1 ⟨rfl, hb1⟩; have f5 : w1.cell? ⟨b, o + k * 11 + 5, none⟩ = some (.int .i64 u) := (hb1.cell (p := ⟨b, o + k * 11 + 5, none⟩) hbl).trans e5)
    | (go_at_call 38; refine (q38.out _ hb1).mono ?_; rintro e w2 ⟨A2, k2, rfl, hk2, hz2, hr2, hb2⟩; have Hz2 := Lib.hid hz2; clear hz2))
  go_ret2
  exact ⟨A2, k2, rfl, Hz2.out, hr2, bt hb1 hb2⟩

def rremP (l : List Ver) (id now : Int) : List Ver × Int := match pk l id with
  | none => (l, 9)
  | some v => if id < 0 then (l, 9) else if now < v.untl then (l, 14) else (l.eraseIdx (findI l id).toNat, 0)

theorem rrem28 (A : Option Addr) (c : Nat) (l : List Ver) (id now : Int) (w : World) (hl : l.length ≤ 31) (hA : Rd w A (fl l)) (hnil : A = none → c = 0) :
    Calls Try.prog 28 #[.slice A l.length c, .int .i64 id, .int .i64 now] w (RowRes w (rremP l id now).1 (rremP l id now).2) := by
  unfold rremP
  rcases findI_spec l id with ⟨h1, h2⟩ | ⟨k, hk, h1, h2⟩
  · simpa [h2] using rrem28_none A c l id now w hl hA hnil h1
  · by_cases hid : id < 0
    · simpa [h2, hid] using rrem28_neg A c l id now w hl hA hnil k h1 hid
    · by_cases hh : now < l[k].untl
      · simpa [h2, hid, hh] using rrem28_held A c l id now w hl hA hnil k hk h1 (by omega) hh
      · simpa [h2, hid, hh, h1] using rrem28_gone A c l id now w hl hA hnil k hk h1 (by omega) hh

end Go.Proofs.Ytmaaekahkeibnaa
