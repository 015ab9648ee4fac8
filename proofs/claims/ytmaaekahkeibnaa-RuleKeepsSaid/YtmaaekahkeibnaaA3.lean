/- Rows of versions; Find, Pick. -/
import Derived.Test.YtmaaekahkeibnaaA2
namespace Go.Proofs.Ytmaaekahkeibnaa
open Go.RowKit

/-- The cells of versions, one behind the other. -/
def fl (l : List Ver) : List Value := l.flatMap Ver.cells
theorem cells_length (v : Ver) : v.cells.length = 11 := rfl
theorem fl_length (l : List Ver) : (fl l).length = l.length * 11 := by
  induction l with
  | nil => rfl
  | cons a t ih => simp [fl, cells_length] at ih ⊢; omega
theorem fl_get : ∀ (l : List Ver) (j : Nat) (hj : j < l.length) (i : Nat), i < 11 → (fl l)[j * 11 + i]? = (l[j].cells)[i]?
  | [], j, hj, _, _ => absurd hj (by simp)
  | a :: t, 0, _, i, hi => by
    show (a.cells ++ fl t)[0 * 11 + i]? = _
    rw [List.getElem?_append_left (by rw [cells_length]; omega)]
    simp
  | a :: t, j + 1, hj, i, hi => by
    show (a.cells ++ fl t)[(j + 1) * 11 + i]? = _
    rw [List.getElem?_append_right (by rw [cells_length]; omega), cells_length]
    have : (j + 1) * 11 + i - 11 = j * 11 + i := by omega
    rw [this, fl_get t j (by simpa using hj) i hi]
    rfl
theorem fl_append (a b : List Ver) : fl (a ++ b) = fl a ++ fl b := by simp [fl]

/-- Element j of versions that are read. -/
theorem Rd.ver {w : World} {A : Option Addr} {l : List Ver} (h : Rd w A (fl l)) (j : Nat) (hj : j < l.length) :
    ∃ b o, A = some ⟨b, o, none⟩ ∧ b < w.heap.size ∧ ∀ i u, (l[j].cells)[i]? = some u → w.cell? ⟨b, o + j * 11 + i, none⟩ = some u := by
  obtain ⟨b, o, rfl, hb, hc⟩ := h.at_ (by rw [fl_length]; omega)
  refine ⟨b, o, rfl, hb, fun i u hu => ?_⟩
  have hi : i < 11 := by have := (List.getElem?_eq_some_iff.1 hu).1; rwa [cells_length] at this
  rw [Nat.add_assoc]
  exact hc _ _ (by rw [fl_get l j hj i hi]; exact hu)

theorem load_ver {w : World} {b o : Nat} {v : Ver} (hc : ∀ i u, (v.cells)[i]? = some u → w.cell? ⟨b, o + i, none⟩ = some u) :
    Sem.run Try.prog (loadCellsFrom ⟨b, o, none⟩ 0 11 #[]) w = .ok v.cells.toArray w :=
  run_loadCellsFrom_list _ _ _ v.cells 11 rfl (fun j u hu => by rw [Addr.add_lit]; exact hc j u hu)

/-- The closure of Pick. -/
theorem pick30 (v : Ver) (id : Int) (B : Nat) (w : World) (hc : w.cell? ⟨B, 0, none⟩ = some (.int .i64 id)) :
    Calls Try.prog 30 #[v.agg, .pointer (some ⟨B, 0, none⟩)] w fun e w' => e = .returned (.bool (decide (v.idOf = id))) ∧ Below w.heap.size w w' := by
  have hB : B < w.heap.size := World.block_lt_of_cell? w _ hc
  have hne : B ≠ w.heap.size := by omega
  have c18 := Lib.hid (id18 v)
  generalize v.idOf = q at *
  obtain ⟨v0, v1, v2, v3, v4, v5, v6, v7, v8, v9, v10⟩ := v
  simp only [Ver.agg, Ver.cells] at *
  go_enter Try.func30, Try.ntmps30
  go_wp2
  refine wp_region_below (by kernel_rfl) (by kernel_rfl) ?_
  repeat (first | go_big_quiet_skip | (go_big_quiet_want; apply Exists.intro; refine ⟨fun W hW => ?_, ?_⟩; (obtain ⟨hcW, hfW⟩ := bcell hW.out; go_simp; first | exact rfl | exact ⟨rfl, rfl⟩ | exact q_call hW (c18.out _)); go_big_quiet_on; go_simp))
  refine wpQuiet_nil ?_
  intro w2 hb2
  go_wp2
  go_ret
  exact ⟨by rfl, bt (ba (b0 _) _) hb2.out⟩

/-- The first one's place. -/
def fI (p : Ver → Bool) (l : List Ver) : Int := match l.findIdx? p with
  | some i => (i : Int)
  | none => -1
theorem fI_hit {p : Ver → Bool} {l : List Ver} {k : Nat} (hk : k < l.length) (h : p l[k] = true) (hn : ∀ j (_ : j < l.length), j < k → p l[j] = false) : fI p l = k := by
  have : l.findIdx? p = some k := by
    rw [List.findIdx?_eq_some_iff_getElem]
    exact ⟨hk, h, fun j hj => by simp [hn j (by omega) hj]⟩
  simp [fI, this]
theorem fI_miss {p : Ver → Bool} {l : List Ver} (hn : ∀ j (_ : j < l.length), p l[j] = false) : fI p l = -1 := by
  have : l.findIdx? p = none := by
    rw [List.findIdx?_eq_none_iff]
    intro x hx
    obtain ⟨j, hj, rfl⟩ := List.getElem_of_mem hx
    exact hn j hj
  simp [fI, this]

theorem ver_cells {w : World} {b o : Nat} {v : Ver} (hc : ∀ i u, (v.cells)[i]? = some u → w.cell? ⟨b, o + i, none⟩ = some u) :
    w.cell? ⟨b, o, none⟩ = some (.int .i64 v.seq) ∧ w.cell? ⟨b, o + 1, none⟩ = some (.bool v.null) ∧ w.cell? ⟨b, o + 2, none⟩ = some (.bool v.mark) ∧ w.cell? ⟨b, o + 3, none⟩ = some (.int .i64 v.at_) ∧
    w.cell? ⟨b, o + 4, none⟩ = some (.int .i64 v.size) ∧ w.cell? ⟨b, o + 5, none⟩ = some (.int .i64 v.untl) ∧ w.cell? ⟨b, o + 6, none⟩ = some (.slice v.meta_.a v.meta_.n v.meta_.c) ∧ w.cell? ⟨b, o + 7, none⟩ = some (.slice v.tags.a v.tags.n v.tags.c) ∧
    w.cell? ⟨b, o + 8, none⟩ = some (.int .i64 v.gen) ∧ w.cell? ⟨b, o + 9, none⟩ = some (.slice v.nonce.a v.nonce.n v.nonce.c) ∧ w.cell? ⟨b, o + 10, none⟩ = some (.slice v.wrap.a v.wrap.n v.wrap.c) :=
  ⟨hc 0 _ rfl, hc 1 _ rfl, hc 2 _ rfl, hc 3 _ rfl, hc 4 _ rfl, hc 5 _ rfl, hc 6 _ rfl, hc 7 _ rfl, hc 8 _ rfl, hc 9 _ rfl, hc 10 _ rfl⟩

set_option maxHeartbeats 1000000 in
theorem index29 (A : Option Addr) (c : Nat) (l : List Ver) (id : Int) (B : Nat) (w : World) (hl : l.length ≤ 31) (hA : Rd w A (fl l)) (hc : w.cell? ⟨B, 0, none⟩ = some (.int .i64 id)) :
    Calls Try.prog 29 #[.slice A l.length c, .func (.func 30) #[] #[.pointer (some ⟨B, 0, none⟩)]] w fun e w' => e = .returned (.int .i64 (fI (fun v => decide (v.idOf = id)) l)) ∧ Below w.heap.size w w' := by
  have hB : B < w.heap.size := World.block_lt_of_cell? w _ hc
  obtain ⟨n, hn⟩ : ∃ n, l.length = n := ⟨_, rfl⟩
  rw [hn] at hl ⊢
  have Hn : Hid (l.length = n) := hn
  clear hn
  generalize hr : fI (fun v => decide (v.idOf = id)) l = r
  have Hr := Lib.hid hr
  clear hr
  go_enter Try.func29, Try.ntmps29
  go_wp2
  go_loopw [5, 8] (fun _ i wr => ∃ k : Nat, k ≤ n ∧ i = .int .i64 k ∧ Hid (Below w.heap.size w wr) ∧ Hid (∀ j (h : j < l.length), j < k → l[j].idOf ≠ id)) (fun _ i _ => n - (intOf i).toNat)
  case atStart => exact ⟨0, Nat.zero_le _, rfl, Below.refl _ _, fun j _ hj => absurd hj (Nat.not_lt_zero _)⟩
  case round =>
    obtain ⟨k, hk, rfl, HB, HT⟩ := hrel
    by_cases hlt : k < n
    · have hkl : k < l.length := by have := Hn.out; omega
      obtain ⟨b, o, rfl, _, hcv⟩ := (hA.below HB.out).ver k hkl
      obtain ⟨e0, e1, e2, e3, e4, e5, e6, e7, e8, e9, e10⟩ := ver_cells hcv
      clear hcv
      have hcB : wr.cell? ⟨B, 0, none⟩ = some (.int .i64 id) := (HB.out.cell (p := ⟨B, 0, none⟩) hB).trans hc
      have c30 := Lib.hid (pick30 l[k] id B wr hcB)
      clear hA
      by_cases hv : l[k].idOf = id
      · have c30' : Hid (Calls Try.prog 30 #[l[k].agg, .pointer (some ⟨B, 0, none⟩)] wr fun e w' => e = .returned (.bool true) ∧ Below wr.heap.size wr w') := by
          have := c30.out; rw [decide_eq_true hv] at this; exact this
        clear c30
        have hrk : r = k := by rw [← Hr.out]; exact fI_hit hkl (by simpa using hv) (fun j hj hjk => by simpa using HT.out j hj hjk)
        have Hrk := Lib.hid hrk
        clear hv hrk
        go_wp2_with (go_at_call 30; refine (c30'.out).mono ?_; rintro e w1 ⟨rfl, hb1⟩)
        go_ret
        exact ⟨by rw [Hrk.out]; rfl, bt HB.out hb1⟩
      · have c30' : Hid (Calls Try.prog 30 #[l[k].agg, .pointer (some ⟨B, 0, none⟩)] wr fun e w' => e = .returned (.bool false) ∧ Below wr.heap.size wr w') := by
          have := c30.out; rw [decide_eq_false hv] at this; exact this
        clear c30
        have Hv := Lib.hid hv
        clear hv
        go_wp2_with (go_at_call 30; refine (c30'.out).mono ?_; rintro e w1 ⟨rfl, hb1⟩)
        go_roundw
        case rel => exact ⟨k + 1, by omega, by go_num, bt HB.out hb1, fun j hj hjk => by
          by_cases e : j = k
          · subst e; exact Hv.out
          · exact HT.out j hj (by omega)⟩
        case measure => simp [intOf]; omega
    · have : k = n := by omega
      subst this
      go_wp2
      go_ret
      exact ⟨by rw [← Hr.out, fI_miss (fun j hj => by simpa using HT.out j hj (by have := Hn.out; omega))]; rfl, HB.out⟩

end Go.Proofs.Ytmaaekahkeibnaa
