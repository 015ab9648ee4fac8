/- RuleDoes: the cases together. -/
import Derived.Test.YtmaaekahkeibnaaA38
import Derived.Test.YtmaaekahkeibnaaA39
import Derived.Test.YtmaaekahkeibnaaA40
import Derived.Test.YtmaaekahkeibnaaA41
import Derived.Test.YtmaaekahkeibnaaA42
import Derived.Test.YtmaaekahkeibnaaA43
import Derived.Test.YtmaaekahkeibnaaA44
namespace Go.Proofs.Ytmaaekahkeibnaa
open Go.RowKit
set_option linter.unusedSimpArgs false

set_option maxHeartbeats 4000000 in
theorem does5 (A : Option Addr) (c : Nat) (l : List Ver) (st id now : Int) (w : World) (hA : Rd w A (fl l)) (hg : ∀ v ∈ l, v.good w) (hnil : A = none → c = 0) :
    Calls Try.prog 5 #[.slice A l.length c, .int .i64 st, .int .i64 id, .int .i64 now] w fun e w' => e = .returned (.bool true) ∧ Below w.heap.size w w' := by
  by_cases hr : Right l
  · have hd := ((right_iff l).1 hr).2.2.1
    have hl := hr.1
    have hpe := put_eq hd st now (behindV (bh l))
    have hde := del_eq hd st now (behindV (bh l))
    have hre := rem_eq hd id now (behindV (bh l))
    have lP := putP_len l st now
    have lD := delP_len l st now
    have lM := remP_len l id now
    have q7 := Lib.hid (right7a A c l w hA)
    simp only [hr, decide_true] at q7
    have q20 := Lib.hid (fun W (hb : Below w.heap.size w W) => behind20 A c l W (by omega) (hA.below hb))
    have q21 := Lib.hid (fun W (hb : Below w.heap.size w W) => put21 A c l st now W (by omega) (hA.below hb))
    have q22 := Lib.hid (fun W (hb : Below w.heap.size w W) => del22 A c l st now W (by omega) (hA.below hb))
    have q27 := Lib.hid (fun W (hb : Below w.heap.size w W) => rem27 A c l id now W (by omega) (hA.below hb))
    have q25 := Lib.hid (fun W (hb : Below w.heap.size w W) => rput25 A c l st now (behindV (bh l)) W (by omega) (hA.below hb) hnil)
    have q26 := Lib.hid (fun W (hb : Below w.heap.size w W) => rdel26 A c l st now (behindV (bh l)) W (by omega) (hA.below hb) hnil)
    have q28 := Lib.hid (fun W (hb : Below w.heap.size w W) => rrem28 A c l id now W (by omega) (hA.below hb) hnil)
    rw [← hpe.1] at q25
    rw [← hde.1, ← hde.2.1] at q26
    rw [← hre.1] at q28
    have a23 : ∀ (gl : List Ver) (cm nu mk : Bool) (G : Option Addr) (k : Nat) (W : World), gl.length ≤ 1 → Below w.heap.size w W → Rd W G (fl gl) →
        Calls Try.prog 23 #[.slice A l.length c, .agg #[.slice G gl.length k, .bool cm, .bool nu, .bool mk], (behindV (bh l)).agg] W (ListRes W (apP l gl cm nu mk (behindV (bh l)))) :=
      fun gl cm nu mk G k W h1 hb hG => apply23 A c l G k gl cm nu mk (behindV (bh l)) W (by omega) (by omega) (hA.below hb) hG
    have a24 : ∀ (gl : List Ver) (cm nu mk : Bool) (G G' : Option Addr) (k k' : Nat) (W : World), Below w.heap.size w W → Rd W G (fl (apP l gl cm nu mk (behindV (bh l)))) → Rd W G' (fl (apP l gl cm nu mk (behindV (bh l)))) →
        Calls Try.prog 24 #[.slice G (apP l gl cm nu mk (behindV (bh l))).length k, .slice G' (apP l gl cm nu mk (behindV (bh l))).length k'] W fun e w' => e = .returned (.bool true) ∧ Below W.heap.size W w' :=
      fun gl cm nu mk G G' k k' W hb h1 h2 => same24 w G G' k k' _ W hb (by have := apP_len l gl cm nu mk (behindV (bh l)); omega) (apP_good hg) h1 h2
    by_cases zP : (putP l st now).2.2.2 = 0 <;> by_cases zD : (delP l st now).2.2.2.2 = 0 <;> by_cases zM : (remP l id now).2 = 0
    · exact does5_111 A c l.length (bh l) st id now w _ _ _ _ _ _ _ _ _ _ _ _ _ _ q7 q20 q21 q22 q27 q25 q26 q28 (fun G k W hb hG => by have h := a23 (putP l st now).1 (putP l st now).2.1 (putP l st now).2.2.1 false G k W lP hb hG; rw [hpe.2 zP] at h; exact h) (fun G G' k k' W hb h1 h2 => by have h := a24 (putP l st now).1 (putP l st now).2.1 (putP l st now).2.2.1 false G G' k k' W hb; rw [hpe.2 zP] at h; exact h h1 h2) zP (fun G k W hb hG => by have h := a23 (delP l st now).1 (delP l st now).2.1 (delP l st now).2.2.1 (delP l st now).2.2.2.1 G k W lD hb hG; rw [hde.2.2 zD] at h; exact h) (fun G G' k k' W hb h1 h2 => by have h := a24 (delP l st now).1 (delP l st now).2.1 (delP l st now).2.2.1 (delP l st now).2.2.2.1 G G' k k' W hb; rw [hde.2.2 zD] at h; exact h h1 h2) zD (fun G k W hb hG => by have h := a23 (remP l id now).1 false false false G k W lM hb hG; rw [hre.2 zM] at h; exact h) (fun G G' k k' W hb h1 h2 => by have h := a24 (remP l id now).1 false false false G G' k k' W hb; rw [hre.2 zM] at h; exact h h1 h2) zM
    · exact does5_110 A c l.length (bh l) st id now w _ _ _ _ _ _ _ _ _ _ _ _ _ _ q7 q20 q21 q22 q27 q25 q26 q28 (fun G k W hb hG => by have h := a23 (putP l st now).1 (putP l st now).2.1 (putP l st now).2.2.1 false G k W lP hb hG; rw [hpe.2 zP] at h; exact h) (fun G G' k k' W hb h1 h2 => by have h := a24 (putP l st now).1 (putP l st now).2.1 (putP l st now).2.2.1 false G G' k k' W hb; rw [hpe.2 zP] at h; exact h h1 h2) zP (fun G k W hb hG => by have h := a23 (delP l st now).1 (delP l st now).2.1 (delP l st now).2.2.1 (delP l st now).2.2.2.1 G k W lD hb hG; rw [hde.2.2 zD] at h; exact h) (fun G G' k k' W hb h1 h2 => by have h := a24 (delP l st now).1 (delP l st now).2.1 (delP l st now).2.2.1 (delP l st now).2.2.2.1 G G' k k' W hb; rw [hde.2.2 zD] at h; exact h h1 h2) zD zM
    · exact does5_101 A c l.length (bh l) st id now w _ _ _ _ _ _ _ _ _ _ _ _ _ _ q7 q20 q21 q22 q27 q25 q26 q28 (fun G k W hb hG => by have h := a23 (putP l st now).1 (putP l st now).2.1 (putP l st now).2.2.1 false G k W lP hb hG; rw [hpe.2 zP] at h; exact h) (fun G G' k k' W hb h1 h2 => by have h := a24 (putP l st now).1 (putP l st now).2.1 (putP l st now).2.2.1 false G G' k k' W hb; rw [hpe.2 zP] at h; exact h h1 h2) zP zD (fun G k W hb hG => by have h := a23 (remP l id now).1 false false false G k W lM hb hG; rw [hre.2 zM] at h; exact h) (fun G G' k k' W hb h1 h2 => by have h := a24 (remP l id now).1 false false false G G' k k' W hb; rw [hre.2 zM] at h; exact h h1 h2) zM
    · exact does5_100 A c l.length (bh l) st id now w _ _ _ _ _ _ _ _ _ _ _ _ _ _ q7 q20 q21 q22 q27 q25 q26 q28 (fun G k W hb hG => by have h := a23 (putP l st now).1 (putP l st now).2.1 (putP l st now).2.2.1 false G k W lP hb hG; rw [hpe.2 zP] at h; exact h) (fun G G' k k' W hb h1 h2 => by have h := a24 (putP l st now).1 (putP l st now).2.1 (putP l st now).2.2.1 false G G' k k' W hb; rw [hpe.2 zP] at h; exact h h1 h2) zP zD zM
    · exact does5_011 A c l.length (bh l) st id now w _ _ _ _ _ _ _ _ _ _ _ _ _ _ q7 q20 q21 q22 q27 q25 q26 q28 zP (fun G k W hb hG => by have h := a23 (delP l st now).1 (delP l st now).2.1 (delP l st now).2.2.1 (delP l st now).2.2.2.1 G k W lD hb hG; rw [hde.2.2 zD] at h; exact h) (fun G G' k k' W hb h1 h2 => by have h := a24 (delP l st now).1 (delP l st now).2.1 (delP l st now).2.2.1 (delP l st now).2.2.2.1 G G' k k' W hb; rw [hde.2.2 zD] at h; exact h h1 h2) zD (fun G k W hb hG => by have h := a23 (remP l id now).1 false false false G k W lM hb hG; rw [hre.2 zM] at h; exact h) (fun G G' k k' W hb h1 h2 => by have h := a24 (remP l id now).1 false false false G G' k k' W hb; rw [hre.2 zM] at h; exact h h1 h2) zM
    · exact does5_010 A c l.length (bh l) st id now w _ _ _ _ _ _ _ _ _ _ _ _ _ _ q7 q20 q21 q22 q27 q25 q26 q28 zP (fun G k W hb hG => by have h := a23 (delP l st now).1 (delP l st now).2.1 (delP l st now).2.2.1 (delP l st now).2.2.2.1 G k W lD hb hG; rw [hde.2.2 zD] at h; exact h) (fun G G' k k' W hb h1 h2 => by have h := a24 (delP l st now).1 (delP l st now).2.1 (delP l st now).2.2.1 (delP l st now).2.2.2.1 G G' k k' W hb; rw [hde.2.2 zD] at h; exact h h1 h2) zD zM
    · exact does5_001 A c l.length (bh l) st id now w _ _ _ _ _ _ _ _ _ _ _ _ _ _ q7 q20 q21 q22 q27 q25 q26 q28 zP zD (fun G k W hb hG => by have h := a23 (remP l id now).1 false false false G k W lM hb hG; rw [hre.2 zM] at h; exact h) (fun G G' k k' W hb h1 h2 => by have h := a24 (remP l id now).1 false false false G G' k k' W hb; rw [hre.2 zM] at h; exact h h1 h2) zM
    · exact does5_000 A c l.length (bh l) st id now w _ _ _ _ _ _ _ _ _ _ _ _ _ _ q7 q20 q21 q22 q27 q25 q26 q28 zP zD zM
  · exact does5_out A c l st id now w hA hr

end Go.Proofs.Ytmaaekahkeibnaa
