/- AesApart: what the statement's function answers. -/
import Derived.Test.YtiaceoecilinkaaA20
import Derived.Test.YtiaceoecilinkaaA21
import Derived.Test.YtiaceoecilinkaaA15
namespace Go.Proofs.Ytiaceoecilinkaa
open Go.RowKit
set_option linter.unusedSimpArgs false

theorem q_load28 {o : Oper} {a : Act} {C : World → Prop} {W : World} (x : Operand) (ho : o.op = .load 28 x) (g : Nat) (cs : List Value) (hx : a.eval x = .pointer (some ⟨g, 0, none⟩)) (hb : Blk W g 28 cs) (hl : cs.length = 16) :
    Oper.quietAt Try.prog o a C W (.agg cs.toArray) := by
  unfold Oper.quietAt execOp
  simp only [ho, hx, Instr.loadAt, Instr.sureAddr, Sem.run_bind, Sem.run_pure, Result.andThen_ok, run_loadVar_row W g 28 28 cs.toArray (0, 0) _ hb Try.underlying28 rfl (by simp [size28, hl])]
  exact ⟨rfl, rfl⟩
theorem q_eq28 {o : Oper} {a : Act} {C : World → Prop} {W : World} (x y : Operand) (t : TypeId) (ho : o.op = .binOp .eql 28 x y t) (xs ys : Array Value) (r : Bool) (hx : a.eval x = .agg xs) (hy : a.eval y = .agg ys)
    (h : ∀ w, Sem.run Try.prog (binOp .eql 28 (.agg xs) (.agg ys)) w = .ok (.bool r) w) : Oper.quietAt Try.prog o a C W (.bool r) := by
  have hg : Sem.run Try.prog (eqGuard .eql 28 x y (.agg xs) (.agg ys)) W = .ok () W := run_eqGuard_agg W .eql 28 x y xs ys (by kernel_rfl)
  unfold Oper.quietAt execOp
  simp only [ho, hx, hy, Sem.run_bind, hg, Result.andThen_ok, h, Sem.run_pure]
  exact ⟨rfl, rfl⟩

theorem apart6_long (A : Option Addr) (c n : Nat) (a b : List Value) (w : World) (hl : 100 < n) :
    Calls Try.prog 6 #[.slice A n c, .agg a.toArray, .agg b.toArray] w fun e w' => e = .returned (.bool true) ∧ Below w.heap.size w w' := by
  have h1 : decide ((100 : Int) < (n : Int)) = true := by simp <;> omega
  go_enter Try.func6, Try.ntmps6
  go_wp2_with (go_at_call 10; refine (works10 _).mono ?_; rintro e w4 ⟨rfl, hb4⟩; have Hb4 := Lib.hid hb4; clear hb4)
  go_ret
  exact ⟨rfl, bt (ba (ba (b0 _) _) _) Hb4.out⟩

set_option maxRecDepth 100000 in
set_option maxHeartbeats 4000000 in
theorem apart6_in (A : Option Addr) (c : Nat) (k a b : List Nat) (w : World) (hA : Rd w A (bvs k)) (hk : ∀ i, k.getD i 0 < 256) (hl : k.length ≤ 100) (la : a.length = 16) (lb : b.length = 16) (ua : B256 a) (ub : B256 b) :
    Calls Try.prog 6 #[.slice A k.length c, .agg (bvs a).toArray, .agg (bvs b).toArray] w fun e w' => e = .returned (.bool true) ∧ Below w.heap.size w w' := by
  have hkey : B256 (keyD k 32) := keyD_256 hk 32
  have q11 : Hid (∀ W, Below w.heap.size w W → Calls Try.prog 11 #[.slice A k.length c] W fun e w' => ∃ A2 c2, e = .returned (.slice A2 32 c2) ∧ 32 ≤ c2 ∧ Rd w' A2 (bvs (keyD k 32)) ∧ Below W.heap.size W w') := fun W hW =>
    (key11 A c k W (hA.below hW) hl).mono fun e w' ⟨A2, c2, h1, h2, _, h4, h5⟩ => by
      rw [keyD_len] at h1 h2
      exact ⟨A2, c2, h1, h2, h4, h5⟩
  have q12 : Hid (∀ g A2 c2 W, Tabs W g → Rd W A2 (bvs (keyD k 32)) → 32 ≤ c2 → Calls Try.prog 12 #[.pointer (some ⟨g, 0, none⟩), .slice A2 32 c2] W fun e w' => ∃ C, e = .returned (.tuple #[.pointer (some ⟨C, 0, none⟩), .int .i64 0]) ∧ Below W.heap.size W w' ∧ Ciph w' C (KS (keyD k 32))) := fun g A2 c2 W ht hR hc =>
    newK12 g A2 c2 _ W ht hR (keyD_len k 32) hkey hc
  have h1 : decide ((100 : Int) < (k.length : Int)) = false := by simp <;> omega
  have hKl := KS_len (keyD k 32)
  have hK2 := KS_256 hkey
  have q13 : Hid (∀ C W x, x.length = 16 → B256 x → Ciph W C (KS (keyD k 32)) → Calls Try.prog 13 #[.pointer (some ⟨C, 0, none⟩), .agg (bvs x).toArray] W fun e w' => e = .returned (.agg (bvs (aesP (KS (keyD k 32)) x)).toArray) ∧ Below W.heap.size W w') :=
    fun C W x hx ux hC => block13 C _ x W hC hKl hK2 hx ux
  have qa := Lib.hid (fun C W => q13.out C W a la ua)
  have qb := Lib.hid (fun C W => q13.out C W b lb ub)
  have e1 := Lib.hid (eq28 _ _ (aes_len a hKl) (aes_len b hKl) (aes_256 a hKl hK2) (aes_256 b hKl hK2))
  have e2 := Lib.hid (eq28 a b la lb ua ub)
  have hiff : decide (aesP (KS (keyD k 32)) a = aesP (KS (keyD k 32)) b) = decide (a = b) := by
    rw [Bool.eq_iff_iff, decide_eq_true_iff, decide_eq_true_iff]; exact aes_inj hKl hK2 la lb ua ub
  rw [hiff] at e1
  have Hla : Hid ((bvs a).length = 16) := by show (bvs a).length = 16; rw [bvs_length, la]
  have Hlb : Hid ((bvs b).length = 16) := by show (bvs b).length = 16; rw [bvs_length, lb]
  have Hlen := Lib.hid (keyD_len k 32)
  clear q13 hiff hKl hK2 hkey hA hk la lb ua ub
  generalize KS (keyD k 32) = KK at *
  generalize bvs (aesP KK a) = EA at *
  generalize bvs (aesP KK b) = EB at *
  generalize decide (a = b) = dd at *
  generalize bvs a = VA at *
  generalize bvs b = VB at *
  generalize k.length = n at *
  generalize keyD k 32 = key at *
  go_enter Try.func6, Try.ntmps6
  go_upto_region 3 with fail
  refine gen_world (G := fun W => Code.wp _ _ _ _ W) (I := fun W => Below w.heap.size w W ∧ Blk W w.heap.size 28 VA ∧ Blk W (w.heap.size + 1) 28 VB) ⟨?_, ?_, ?_⟩ ?_
  · exact ba (ba (b0 _) _) _
  · exact (Blk.new w 28 _).alloc _
  · have h := Blk.new (w.alloc (.cells VA.toArray 28)) 28 VB
    simpa using h
  generalize w.heap.size + 1 = B1
  obtain ⟨B0, hBB⟩ : ∃ B0, B0 = w.heap.size := ⟨_, rfl⟩
  rintro W ⟨hb, k0, k1⟩
  rw [← hBB] at k0
  rw [← hBB]
  clear hBB
  have Hb := Lib.hid hb
  have K0 := Lib.hid k0
  have K1 := Lib.hid k1
  clear hb k0 k1
  go_upto_region 6 with (first
    | (go_at_call 7; refine (build7 _).mono ?_; rintro e w1 ⟨g, rfl, hg, hb1, ht⟩; have Hb1 := Lib.hid hb1; have Ht := Lib.hid ht; clear hg hb1 ht)
    | (go_at_call 11; refine (q11.out _ (bt Hb.out Hb1.out)).mono ?_; rintro e w2 ⟨A2, c2, rfl, hc2, hr2, hb2⟩; have Hb2 := Lib.hid hb2; have Hr2 := Lib.hid hr2; have Hc2 := Lib.hid hc2; have Ht2 := Lib.hid (Ht.out.to hb2); clear hb2 hr2 hc2)
    | (go_at_call 12; refine (q12.out _ _ _ _ Ht2.out Hr2.out Hc2.out).mono ?_; rintro e w3 ⟨C, rfl, hb3, hc3⟩; have Hb3 := Lib.hid hb3; have Hc3 := Lib.hid hc3; clear hb3 hc3))
  have Hb4 : Hid (Below w.heap.size w w3) := bt (bt (bt Hb.out Hb1.out) Hb2.out) Hb3.out
  have M0 : Hid (Blk w3 B0 28 VA) := ((K0.out.to Hb1.out).to Hb2.out).to Hb3.out
  have M1 : Hid (Blk w3 B1 28 VB) := ((K1.out.to Hb1.out).to Hb2.out).to Hb3.out
  have hdd : (dd == dd) = true := by simp
  clear Hb Hb1 Hb2 Hb3 K0 K1 Ht Ht2 Hr2 Hc2 q11 q12
  refine wp_region_below (by kernel_rfl) (by kernel_rfl) ?_
  repeat (first | go_big_quiet_skip | (go_big_quiet_want; apply Exists.intro; refine ⟨fun W hW => ?_, ?_⟩; (first | ((with_reducible refine q_load28 (.tmp 4) ?_ B0 VA ?_ ?_ ?_); (with_reducible rfl); (rfl); (exact M0.out.to hW.out); (exact Hla.out)) | ((with_reducible refine q_load28 (.tmp 5) ?_ B1 VB ?_ ?_ ?_); (with_reducible rfl); (rfl); (exact M1.out.to hW.out); (exact Hlb.out)) | ((with_reducible refine q_eq28 (.tmp 28) (.tmp 31) 28 ?_ EA.toArray EB.toArray dd ?_ ?_ ?_); (with_reducible rfl); (rfl); (rfl); (exact e1.out)) | ((with_reducible refine q_eq28 (.tmp 33) (.tmp 34) 28 ?_ VA.toArray VB.toArray dd ?_ ?_ ?_); (with_reducible rfl); (rfl); (rfl); (exact e2.out)) | (obtain ⟨hcW, hfW⟩ := bcell hW.out; go_simp; first | (with_reducible exact rfl) | (with_reducible exact ⟨rfl, rfl⟩) | (with_reducible exact q_call hW (qa.out _ _ (Hc3.out.to hW.out))) | (with_reducible exact q_call hW (qb.out _ _ (Hc3.out.to hW.out))) | (with_reducible exact q_call hW (works10 _)))); go_big_quiet_on; go_simp))
  refine wpQuiet_nil ?_
  intro W5 hb5
  go_wp2
  go_ret
  exact ⟨rfl, bt Hb4.out hb5.out⟩

theorem apart6 (A : Option Addr) (c : Nat) (k a b : List Nat) (w : World) (hA : Rd w A (bvs k)) (hk : ∀ i, k.getD i 0 < 256) (la : a.length = 16) (lb : b.length = 16) (ua : B256 a) (ub : B256 b) :
    Calls Try.prog 6 #[.slice A k.length c, .agg (bvs a).toArray, .agg (bvs b).toArray] w fun e w' => e = .returned (.bool true) ∧ Below w.heap.size w w' := by
  by_cases hl : k.length ≤ 100
  · exact apart6_in A c k a b w hA hk hl la lb ua ub
  · exact apart6_long A c k.length _ _ w (by omega)
end Go.Proofs.Ytiaceoecilinkaa
