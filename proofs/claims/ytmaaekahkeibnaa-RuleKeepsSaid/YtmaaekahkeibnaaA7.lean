/- bare: a version that may not go, one that goes. -/
import Derived.Test.YtmaaekahkeibnaaA6
namespace Go.Proofs.Ytmaaekahkeibnaa
open Go.RowKit

set_option maxHeartbeats 4000000 in
theorem bare33_held (A : Option Addr) (c : Nat) (l : List Ver) (now : Int) (w : World) (hl : l.length ≤ 31) (hA : Rd w A (fl l)) (v : Ver) (hp : pk l 0 = some v) (hh : now < v.untl) :
    Calls Try.prog 33 #[.slice A l.length c, .int .i64 now] w (PlanRes w [] false false false 14) := by
  have q9 := Lib.hid (fun W (hb : Below w.heap.size w W) => pick9 A c l 0 W hl (hA.below hb))
  have hv : pkV l 0 = v := by simp [pkV, hp]
  have q13 := Lib.hid (held13 v now)
  rw [hp, hv] at q9
  rw [decide_eq_true hh] at q13
  clear hv hp hA hh
  generalize l.length = n at *
  obtain ⟨v0, v1, v2, v3, v4, v5, ⟨a6, n6, c6⟩, ⟨a7, n7, c7⟩, v8, ⟨a9, n9, c9⟩, ⟨a10, n10, c10⟩⟩ := v
  simp only [Ver.agg, Ver.cells, Option.isSome_some] at q9 q13
  go_enter Try.func33, Try.ntmps33
  go_wp2_with (first
    | (go_at_call 9; refine (q9.out _ (ba (b0 _) _)).mono ?_; rintro e w1 ⟨rfl, hb1⟩; obtain ⟨hc1, hf1⟩ := bcell hb1; have hz1 : w.heap.size < w1.heap.size := (by have := hb1.size; simp at this; omega); have hz1n : w.heap.size ≠ w1.heap.size := (by omega); have gc0 : World.cell? w1 ⟨w.heap.size, 0, none⟩ = some (.slice none 0 0) := (by rw [hc1 _ _ (by simp <;> omega)]; simp); have gf0 : World.frozen? w1 ⟨w.heap.size, 0, none⟩ = false := (by rw [hf1 _ _ (by simp <;> omega)]; simp); have gc1 : World.cell? w1 ⟨w.heap.size, 1, none⟩ = some (.bool false) := (by rw [hc1 _ _ (by simp <;> omega)]; simp); have gf1 : World.frozen? w1 ⟨w.heap.size, 1, none⟩ = false := (by rw [hf1 _ _ (by simp <;> omega)]; simp); have gc2 : World.cell? w1 ⟨w.heap.size, 2, none⟩ = some (.bool false) := (by rw [hc1 _ _ (by simp <;> omega)]; simp); have gf2 : World.frozen? w1 ⟨w.heap.size, 2, none⟩ = false := (by rw [hf1 _ _ (by simp <;> omega)]; simp); have gc3 : World.cell? w1 ⟨w.heap.size, 3, none⟩ = some (.bool false) := (by rw [hc1 _ _ (by simp <;> omega)]; simp); have gf3 : World.frozen? w1 ⟨w.heap.size, 3, none⟩ = false := (by rw [hf1 _ _ (by simp <;> omega)]; simp); clear hc1 hf1)
    | (go_at_call 13; go_must (refine (q13.out _).mono ?_; rintro e w2 ⟨rfl, hb2⟩; obtain ⟨hc2, hf2⟩ := bcell hb2; have hz2 : w1.heap.size < w2.heap.size := (by have := hb2.size; simp at this; omega); have hz2n : w.heap.size < w2.heap.size := (by omega); have hlt1 : w.heap.size < w1.heap.size + 1 := (by omega); obtain ⟨hd2, he2⟩ := bcell (bt (ba (b0 _) _) hb2); have kc0 : World.cell? w2 ⟨w.heap.size, 0, none⟩ = some (.slice none 0 0) := (hd2 _ _ hz1).trans gc0; have kf0 : World.frozen? w2 ⟨w.heap.size, 0, none⟩ = false := (he2 _ _ hz1).trans gf0; have kc1 : World.cell? w2 ⟨w.heap.size, 1, none⟩ = some (.bool false) := (hd2 _ _ hz1).trans gc1; have kf1 : World.frozen? w2 ⟨w.heap.size, 1, none⟩ = false := (he2 _ _ hz1).trans gf1; have kc2 : World.cell? w2 ⟨w.heap.size, 2, none⟩ = some (.bool false) := (hd2 _ _ hz1).trans gc2; have kf2 : World.frozen? w2 ⟨w.heap.size, 2, none⟩ = false := (he2 _ _ hz1).trans gf2; have kc3 : World.cell? w2 ⟨w.heap.size, 3, none⟩ = some (.bool false) := (hd2 _ _ hz1).trans gc3; have kf3 : World.frozen? w2 ⟨w.heap.size, 3, none⟩ = false := (he2 _ _ hz1).trans gf3; clear hc2 hf2 hd2 he2)))
  refine bodyPost_ret (v := .tuple #[.agg #[.slice none 0 0, .bool false, .bool false, .bool false], .int .i64 14]) ?_ rfl ⟨none, 0, rfl, .inl rfl, ?_⟩
  · simp [results, Try.results33, go_sem, hz2, hz2n, kc0, kc1, kc2, kc3]
  · (repeat (first | (with_reducible refine bs ?_ (by simp) _) | (with_reducible refine bdr ?_) | (with_reducible refine ba ?_ _)))
    exact bt (ba (bt (ba (b0 _) _) hb1) _) hb2

set_option maxHeartbeats 4000000 in
theorem bare33_gone (A : Option Addr) (c : Nat) (l : List Ver) (now : Int) (w : World) (hl : l.length ≤ 31) (hA : Rd w A (fl l)) (v : Ver) (hp : pk l 0 = some v) (hh : ¬ now < v.untl) :
    Calls Try.prog 33 #[.slice A l.length c, .int .i64 now] w (PlanRes w [v] false false false 0) := by
  have q9 := Lib.hid (fun W (hb : Below w.heap.size w W) => pick9 A c l 0 W hl (hA.below hb))
  have hv : pkV l 0 = v := by simp [pkV, hp]
  have q13 := Lib.hid (held13 v now)
  rw [hp, hv] at q9
  rw [decide_eq_false hh] at q13
  clear hv hp hA hh
  generalize l.length = n at *
  obtain ⟨v0, v1, v2, v3, v4, v5, ⟨a6, n6, c6⟩, ⟨a7, n7, c7⟩, v8, ⟨a9, n9, c9⟩, ⟨a10, n10, c10⟩⟩ := v
  simp only [Ver.agg, Ver.cells, Option.isSome_some] at q9 q13
  go_enter Try.func33, Try.ntmps33
  go_wp2_with (first
    | (go_at_call 9; refine (q9.out _ (ba (b0 _) _)).mono ?_; rintro e w1 ⟨rfl, hb1⟩; obtain ⟨hc1, hf1⟩ := bcell hb1; have hz1 : w.heap.size < w1.heap.size := (by have := hb1.size; simp at this; omega); have hz1n : w.heap.size ≠ w1.heap.size := (by omega); have gc0 : World.cell? w1 ⟨w.heap.size, 0, none⟩ = some (.slice none 0 0) := (by rw [hc1 _ _ (by simp <;> omega)]; simp); have gf0 : World.frozen? w1 ⟨w.heap.size, 0, none⟩ = false := (by rw [hf1 _ _ (by simp <;> omega)]; simp); have gc1 : World.cell? w1 ⟨w.heap.size, 1, none⟩ = some (.bool false) := (by rw [hc1 _ _ (by simp <;> omega)]; simp); have gf1 : World.frozen? w1 ⟨w.heap.size, 1, none⟩ = false := (by rw [hf1 _ _ (by simp <;> omega)]; simp); have gc2 : World.cell? w1 ⟨w.heap.size, 2, none⟩ = some (.bool false) := (by rw [hc1 _ _ (by simp <;> omega)]; simp); have gf2 : World.frozen? w1 ⟨w.heap.size, 2, none⟩ = false := (by rw [hf1 _ _ (by simp <;> omega)]; simp); have gc3 : World.cell? w1 ⟨w.heap.size, 3, none⟩ = some (.bool false) := (by rw [hc1 _ _ (by simp <;> omega)]; simp); have gf3 : World.frozen? w1 ⟨w.heap.size, 3, none⟩ = false := (by rw [hf1 _ _ (by simp <;> omega)]; simp); clear hc1 hf1)
    | (go_at_call 13; go_must (refine (q13.out _).mono ?_; rintro e w2 ⟨rfl, hb2⟩; obtain ⟨hc2, hf2⟩ := bcell hb2; have hz2 : w1.heap.size < w2.heap.size := (by have := hb2.size; simp at this; omega); have hz2n : w.heap.size < w2.heap.size := (by omega); have hlt1 : w.heap.size < w1.heap.size + 1 := (by omega); obtain ⟨hd2, he2⟩ := bcell (bt (ba (b0 _) _) hb2); have kc0 : World.cell? w2 ⟨w.heap.size, 0, none⟩ = some (.slice none 0 0) := (hd2 _ _ hz1).trans gc0; have kf0 : World.frozen? w2 ⟨w.heap.size, 0, none⟩ = false := (he2 _ _ hz1).trans gf0; have kc1 : World.cell? w2 ⟨w.heap.size, 1, none⟩ = some (.bool false) := (hd2 _ _ hz1).trans gc1; have kf1 : World.frozen? w2 ⟨w.heap.size, 1, none⟩ = false := (he2 _ _ hz1).trans gf1; have kc2 : World.cell? w2 ⟨w.heap.size, 2, none⟩ = some (.bool false) := (hd2 _ _ hz1).trans gc2; have kf2 : World.frozen? w2 ⟨w.heap.size, 2, none⟩ = false := (he2 _ _ hz1).trans gf2; have kc3 : World.cell? w2 ⟨w.heap.size, 3, none⟩ = some (.bool false) := (hd2 _ _ hz1).trans gc3; have kf3 : World.frozen? w2 ⟨w.heap.size, 3, none⟩ = false := (he2 _ _ hz1).trans gf3; have mc0 : World.cell? w2 ⟨w1.heap.size, 0, none⟩ = some (.int .i64 v0) := (by rw [hc2 _ _ (by simp <;> omega)]; simp); have mf0 : World.frozen? w2 ⟨w1.heap.size, 0, none⟩ = false := (by rw [hf2 _ _ (by simp <;> omega)]; simp); have mc1 : World.cell? w2 ⟨w1.heap.size, 1, none⟩ = some (.bool v1) := (by rw [hc2 _ _ (by simp <;> omega)]; simp); have mf1 : World.frozen? w2 ⟨w1.heap.size, 1, none⟩ = false := (by rw [hf2 _ _ (by simp <;> omega)]; simp); have mc2 : World.cell? w2 ⟨w1.heap.size, 2, none⟩ = some (.bool v2) := (by rw [hc2 _ _ (by simp <;> omega)]; simp); have mf2 : World.frozen? w2 ⟨w1.heap.size, 2, none⟩ = false := (by rw [hf2 _ _ (by simp <;> omega)]; simp); have mc3 : World.cell? w2 ⟨w1.heap.size, 3, none⟩ = some (.int .i64 v3) := (by rw [hc2 _ _ (by simp <;> omega)]; simp); have mf3 : World.frozen? w2 ⟨w1.heap.size, 3, none⟩ = false := (by rw [hf2 _ _ (by simp <;> omega)]; simp); have mc4 : World.cell? w2 ⟨w1.heap.size, 4, none⟩ = some (.int .i64 v4) := (by rw [hc2 _ _ (by simp <;> omega)]; simp); have mf4 : World.frozen? w2 ⟨w1.heap.size, 4, none⟩ = false := (by rw [hf2 _ _ (by simp <;> omega)]; simp); have mc5 : World.cell? w2 ⟨w1.heap.size, 5, none⟩ = some (.int .i64 v5) := (by rw [hc2 _ _ (by simp <;> omega)]; simp); have mf5 : World.frozen? w2 ⟨w1.heap.size, 5, none⟩ = false := (by rw [hf2 _ _ (by simp <;> omega)]; simp); have mc6 : World.cell? w2 ⟨w1.heap.size, 6, none⟩ = some (.slice a6 n6 c6) := (by rw [hc2 _ _ (by simp <;> omega)]; simp); have mf6 : World.frozen? w2 ⟨w1.heap.size, 6, none⟩ = false := (by rw [hf2 _ _ (by simp <;> omega)]; simp); have mc7 : World.cell? w2 ⟨w1.heap.size, 7, none⟩ = some (.slice a7 n7 c7) := (by rw [hc2 _ _ (by simp <;> omega)]; simp); have mf7 : World.frozen? w2 ⟨w1.heap.size, 7, none⟩ = false := (by rw [hf2 _ _ (by simp <;> omega)]; simp); have mc8 : World.cell? w2 ⟨w1.heap.size, 8, none⟩ = some (.int .i64 v8) := (by rw [hc2 _ _ (by simp <;> omega)]; simp); have mf8 : World.frozen? w2 ⟨w1.heap.size, 8, none⟩ = false := (by rw [hf2 _ _ (by simp <;> omega)]; simp); have mc9 : World.cell? w2 ⟨w1.heap.size, 9, none⟩ = some (.slice a9 n9 c9) := (by rw [hc2 _ _ (by simp <;> omega)]; simp); have mf9 : World.frozen? w2 ⟨w1.heap.size, 9, none⟩ = false := (by rw [hf2 _ _ (by simp <;> omega)]; simp); have mc10 : World.cell? w2 ⟨w1.heap.size, 10, none⟩ = some (.slice a10 n10 c10) := (by rw [hc2 _ _ (by simp <;> omega)]; simp); have mf10 : World.frozen? w2 ⟨w1.heap.size, 10, none⟩ = false := (by rw [hf2 _ _ (by simp <;> omega)]; simp); clear hc2 hf2 hd2 he2)))
  refine bodyPost_ret (v := .tuple #[.agg #[.slice (some ⟨w2.heap.size, 0, none⟩) 1 1, .bool false, .bool false, .bool false], .int .i64 0]) ?_ rfl ⟨some ⟨w2.heap.size, 0, none⟩, 1, rfl, .inr ⟨w2.heap.size, 0, rfl, Nat.le_of_lt hz2n, ?_⟩, ?_⟩
  · simp [results, Try.results33, go_sem, hz2, hz2n, kc0, kc1, kc2, kc3]
  · intro j u hu
    rw [Nat.zero_add, World.cell?_alloc_at _ _ _ _ (by simp)]
    have h1 : (fl [(⟨v0, v1, v2, v3, v4, v5, ⟨a6, n6, c6⟩, ⟨a7, n7, c7⟩, v8, ⟨a9, n9, c9⟩, ⟨a10, n10, c10⟩⟩ : Ver)])[j]? = some u := hu
    rw [show fl [(⟨v0, v1, v2, v3, v4, v5, ⟨a6, n6, c6⟩, ⟨a7, n7, c7⟩, v8, ⟨a9, n9, c9⟩, ⟨a10, n10, c10⟩⟩ : Ver)] = [.int .i64 v0, .bool v1, .bool v2, .int .i64 v3, .int .i64 v4, .int .i64 v5, .slice a6 n6 c6, .slice a7 n7 c7, .int .i64 v8, .slice a9 n9 c9, .slice a10 n10 c10] from rfl] at h1
    simpa using h1
  · (repeat (first | (with_reducible refine bs ?_ (by simp) _) | (with_reducible refine bdr ?_) | (with_reducible refine ba ?_ _)))
    exact bt (ba (bt (ba (b0 _) _) hb1) _) hb2

theorem bare33 (A : Option Addr) (c : Nat) (l : List Ver) (now : Int) (w : World) (hl : l.length ≤ 31) (hA : Rd w A (fl l)) :
    Calls Try.prog 33 #[.slice A l.length c, .int .i64 now] w (PlanRes w (bareP l now).1 false false false (bareP l now).2) := by
  unfold bareP
  cases hp : pk l 0 with
  | none => exact bare33_none A c l now w hl hA hp
  | some v =>
    by_cases hh : now < v.untl
    · simpa [hh] using bare33_held A c l now w hl hA v hp hh
    · simpa [hh] using bare33_gone A c l now w hl hA v hp hh

end Go.Proofs.Ytmaaekahkeibnaa
