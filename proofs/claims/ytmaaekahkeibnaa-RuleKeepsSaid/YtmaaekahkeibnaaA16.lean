/- The reference's ahead, bare, Put, Delete, Remove. -/
import Derived.Test.YtmaaekahkeibnaaA15
import Derived.Test.YtmaaekahkeibnaaA4
namespace Go.Proofs.Ytmaaekahkeibnaa
open Go.RowKit
set_option linter.unusedSimpArgs false

theorem own_lit (W : World) (base : Nat) (v : Ver) (g : Nat) (hg : g = W.heap.size) (hb : base ≤ W.heap.size) :
    (W.alloc (.cells v.cells.toArray 29)).ownsRow base 29 11 (.slice (some ⟨g, 0, none⟩) 1 1) [v].length (fl [v]) := by
  subst hg
  rw [fl_single]
  have h := World.ownsRow_lit (base := base) (e := 29) (size := 11) W v.cells.toArray 1 hb (by simp [maxLen]) rfl
  simpa using h

set_option maxHeartbeats 2000000 in
theorem ahead36 (A : Option Addr) (c : Nat) (l : List Ver) (v : Ver) (nu mk : Bool) (w : World) (hl : l.length ≤ 31) (hA : Rd w A (fl l)) (hnil : A = none → c = 0) :
    Calls Try.prog 36 #[.slice A l.length c, v.agg, .bool nu, .bool mk] w (ListRes w ([{ v with null := nu, mark := mk }] ++ l)) := by
  obtain ⟨v0, v1, v2, v3, v4, v5, ⟨a6, n6, c6⟩, ⟨a7, n7, c7⟩, v8, ⟨a9, n9, c9⟩, ⟨a10, n10, c10⟩⟩ := v
  simp only [Ver.agg, Ver.cells]
  have HA := Lib.hid hA
  have Hnil := Lib.hid hnil
  clear hA hnil
  go_enter Try.func36, Try.ntmps36
  go_wp2_with (at_builtin; refine apA rfl (.tmp 18) (.tmp 19) rfl w.heap.size _ [(⟨v0, nu, mk, v3, v4, v5, ⟨a6, n6, c6⟩, ⟨a7, n7, c7⟩, v8, ⟨a9, n9, c9⟩, ⟨a10, n10, c10⟩⟩ : Ver)] l rfl ?c1 A c rfl Hnil.out ?c2 (by simp) (Nat.le_trans hl (by decide)) ?c3 ?_; rotate_left 3; (intro v2 w2 hown2 hb2); have Hown2 := Lib.hid hown2; clear hown2)
  case c1 => exact own_lit _ w.heap.size (⟨v0, nu, mk, v3, v4, v5, ⟨a6, n6, c6⟩, ⟨a7, n7, c7⟩, v8, ⟨a9, n9, c9⟩, ⟨a10, n10, c10⟩⟩ : Ver) _ (by simp) (by simp <;> omega)
  case c2 => exact HA.out.below (ba (ba (ba (b0 _) _) _) _)
  case c3 => simp <;> omega
  obtain ⟨A2, k2, hu, hk2, hz2, hr2⟩ := own_form Hown2.out
  have Hz2 := Lib.hid hz2
  have Hu := Lib.hid hu
  clear hu hz2
  go_ret
  exact ⟨A2, k2, congrArg Ending.returned Hu.out, hk2, Hz2.out, hr2, (ba (ba (ba (b0 _) _) _) _).trans hb2⟩

/-- Versions and a code. -/
def RowRes (w : World) (r : List Ver) (code : Int) (e : Ending) (w' : World) : Prop :=
  ∃ A c, e = .returned (.tuple #[.slice A r.length c, .int .i64 code]) ∧ (A = none → c = 0) ∧ Rd w' A (fl r) ∧ Below w.heap.size w w'

/-- What stands at a place that Find tells. -/
theorem findI_spec (l : List Ver) (id : Int) : (findI l id = -1 ∧ pk l id = none) ∨ ∃ (k : Nat) (h : k < l.length), findI l id = k ∧ pk l id = some l[k] := by
  unfold findI pk
  by_cases h : id < 0
  · cases l with
    | nil => exact .inl ⟨by simp [h], by simp [h]⟩
    | cons a t => exact .inr ⟨0, by simp, by simp [h], by simp [h]⟩
  · simp only [h, if_false]
    exact fI_spec _ l

/-- The versions without the one of this number, and why not. -/
def rbareP (l : List Ver) (now : Int) : List Ver × Int := match pk l 0 with
  | none => (l, 0)
  | some v => if now < v.untl then (l, 14) else (l.eraseIdx (findI l 0).toNat, 0)

set_option maxHeartbeats 2000000 in
theorem rbare37_none (A : Option Addr) (c : Nat) (l : List Ver) (now : Int) (w : World) (hl : l.length ≤ 31) (hA : Rd w A (fl l)) (hnil : A = none → c = 0) (hf : findI l 0 = -1) :
    Calls Try.prog 37 #[.slice A l.length c, .int .i64 now] w (RowRes w l 0) := by
  have q10 := Lib.hid (find10 A c l 0 w hl hA)
  rw [hf] at q10
  have HA := Lib.hid hA
  have Hnil := Lib.hid hnil
  clear hA hnil hf
  go_enter Try.func37, Try.ntmps37
  go_wp2_with (go_at_call 10; refine (q10.out).mono ?_; rintro e w1 ⟨rfl, hb1⟩)
  go_ret2
  exact ⟨A, c, rfl, Hnil.out, HA.out.below hb1, hb1⟩

set_option maxHeartbeats 2000000 in
theorem rbare37_held (A : Option Addr) (c : Nat) (l : List Ver) (now : Int) (w : World) (hl : l.length ≤ 31) (hA : Rd w A (fl l)) (hnil : A = none → c = 0) (k : Nat) (hk : k < l.length) (hf : findI l 0 = k) (hh : now < l[k].untl) :
    Calls Try.prog 37 #[.slice A l.length c, .int .i64 now] w (RowRes w l 14) := by
  have q10 := Lib.hid (find10 A c l 0 w hl hA)
  rw [hf] at q10
  have HA := Lib.hid hA
  have Hnil := Lib.hid hnil
  obtain ⟨b, o, rfl, hbl, hcv⟩ := hA.ver k hk
  obtain ⟨e0, e1, e2, e3, e4, e5, e6, e7, e8, e9, e10⟩ := ver_cells hcv
  clear hcv hA hnil hf e0 e1 e2 e3 e4 e6 e7 e8 e9 e10
  generalize l[k].untl = u at *
  obtain ⟨n, hn⟩ : ∃ n, l.length = n := ⟨_, rfl⟩
  have Hn : Hid (l.length = n) := hn
  rw [hn] at hk q10 ⊢
  clear hn
  have hkz : (k : Int) < (n : Int) := by omega
  have hhd : decide (now < u) = true := by simpa using hh
  go_enter Try.func37, Try.ntmps37
  go_wp2_with (go_at_call 10; refine (q10.out).mono ?_; rintro e w1 ⟨rfl, hb1⟩; have f5 : w1.cell? ⟨b, o + k * 11 + 5, none⟩ = some (.int .i64 u) := (hb1.cell (p := ⟨b, o + k * 11 + 5, none⟩) hbl).trans e5)
  go_ret2
  exact ⟨_, c, by rw [Hn.out]; rfl, Hnil.out, HA.out.below hb1, hb1⟩

set_option maxHeartbeats 2000000 in
theorem rbare37_gone (A : Option Addr) (c : Nat) (l : List Ver) (now : Int) (w : World) (hl : l.length ≤ 31) (hA : Rd w A (fl l)) (hnil : A = none → c = 0) (k : Nat) (hk : k < l.length) (hf : findI l 0 = k) (hh : ¬ now < l[k].untl) :
    Calls Try.prog 37 #[.slice A l.length c, .int .i64 now] w (RowRes w (l.eraseIdx k) 0) := by
  have q10 := Lib.hid (find10 A c l 0 w hl hA)
  rw [hf] at q10
  have q38 := Lib.hid (fun W (hb : Below w.heap.size w W) => without38 A c l k W hl (hA.below hb) hk)
  obtain ⟨b, o, rfl, hbl, hcv⟩ := hA.ver k hk
  obtain ⟨e0, e1, e2, e3, e4, e5, e6, e7, e8, e9, e10⟩ := ver_cells hcv
  clear hcv hA hnil hf e0 e1 e2 e3 e4 e6 e7 e8 e9 e10
  generalize l[k].untl = u at *
  generalize l.eraseIdx k = r at *
  generalize l.length = n at *
  have hkz : (k : Int) < (n : Int) := by omega
  have hhd : decide (now < u) = false := by simpa using hh
  go_enter Try.func37, Try.ntmps37
  go_wp2_with (first
    | (go_at_call 10; refine (q10.out).mono ?_; rintro e w1 ⟨rfl, hb1⟩; have f5 : w1.cell? ⟨b, o + k * 11 + 5, none⟩ = some (.int .i64 u) := (hb1.cell (p := ⟨b, o + k * 11 + 5, none⟩) hbl).trans e5)
    | (go_at_call 38; refine (q38.out _ hb1).mono ?_; rintro e w2 ⟨A2, k2, rfl, hk2, hz2, hr2, hb2⟩; have Hz2 := Lib.hid hz2; clear hz2))
  go_ret2
  exact ⟨A2, k2, rfl, Hz2.out, hr2, bt hb1 hb2⟩

theorem rbare37 (A : Option Addr) (c : Nat) (l : List Ver) (now : Int) (w : World) (hl : l.length ≤ 31) (hA : Rd w A (fl l)) (hnil : A = none → c = 0) :
    Calls Try.prog 37 #[.slice A l.length c, .int .i64 now] w (RowRes w (rbareP l now).1 (rbareP l now).2) := by
  unfold rbareP
  rcases findI_spec l 0 with ⟨h1, h2⟩ | ⟨k, hk, h1, h2⟩
  · simpa [h2] using rbare37_none A c l now w hl hA hnil h1
  · by_cases hh : now < l[k].untl
    · simpa [h2, hh] using rbare37_held A c l now w hl hA hnil k hk h1 hh
    · simpa [h2, hh, h1] using rbare37_gone A c l now w hl hA hnil k hk h1 hh

end Go.Proofs.Ytmaaekahkeibnaa
