/- Hex; New in short. -/
import Derived.Test.YtiaceoecilinkaaA6
import Derived.Test.YtiaceoecilinkaaA12
import Derived.Test.YtiaceoecilinkaaA13
import Derived.Laws.BytesArg
namespace Go.Proofs.Ytiaceoecilinkaa
open Go.RowKit
set_option linter.unusedSimpArgs false

def hexL (xs : List Nat) : List Nat := xs.flatMap (fun c => [digP (c / 16), digP (c % 16)])
theorem hexL_snoc (xs : List Nat) (c : Nat) : hexL (xs ++ [c]) = hexL xs ++ [digP (c / 16), digP (c % 16)] := by simp [hexL]
theorem hexL_len (xs : List Nat) : (hexL xs).length = 2 * xs.length := by
  induction xs with
  | nil => rfl
  | cons a t ih => simp [hexL] at ih ⊢; omega
def strB (xs : List Nat) : ByteArray := strOfNums (xs.map Int.ofNat)

theorem band16 (c : Nat) (h : c < 256) : bits .and .u8 (c : Int) 15 = ((c % 16 : Nat) : Int) := by
  have h := u8_and_nat c 15 h (by omega)
  rw [show ((15 : Nat) : Int) = 15 from rfl] at h
  rw [h, nat_mask4]

set_option maxHeartbeats 2000000 in
theorem hex20 (b o c : Nat) (xs : List Nat) (w : World) (hA : Rd w (some ⟨b, o, none⟩) (bvs xs)) (h1 : 0 < xs.length) (hl : xs.length ≤ 100) (hx : ∀ i, xs.getD i 0 < 256) :
    Calls Try.prog 20 #[.slice (some ⟨b, o, none⟩) xs.length c] w fun e w' => e = .returned (.string (strB (hexL xs))) ∧ Below w.heap.size w w' := by
  obtain ⟨n, hn⟩ : ∃ n, xs.length = n := ⟨_, rfl⟩
  have Hn : Hid (xs.length = n) := hn
  have HA := Lib.hid hA
  have HX := Lib.hid hx
  rw [hn] at hl h1 ⊢
  clear hn hA hx
  go_enter Try.func20, Try.ntmps20
  go_wp2_with fail
  go_loopw [3, 8] (fun s i wr => ∃ k : Nat, k ≤ n ∧ i = .int .i64 k ∧ Hid (wr.ownsRow w.heap.size 5 1 s (2 * k) (bvs (hexL (xs.take k)))) ∧ Hid (Below w.heap.size w wr)) (fun _ i _ => n - (intOf i).toNat)
  case atStart => exact ⟨0, by omega, rfl, own_nil _ _ _, Below.refl _ _⟩
  case round =>
    obtain ⟨k, hk, rfl, HO, HB⟩ := hrel
    have hbase := HB.out.size
    by_cases hlt : k < n
    · have hkz : (k : Int) < (n : Int) := by omega
      have hkl : k < xs.length := by have := Hn.out; omega
      have c1 : wr.cell? ⟨b, o + k, none⟩ = some (.int .u8 ((xs.getD k 0 : Nat) : Int)) := by
        obtain ⟨b', o', he, _, hc⟩ := bvs_at (HA.out.below HB.out) k hkl
        simp only [Option.some.injEq, Addr.mk.injEq, and_true] at he
        obtain ⟨rfl, rfl⟩ := he
        exact hc
      have hx := HX.out k
      have HS : Hid (hexL (xs.take (k + 1)) = hexL (xs.take k) ++ [digP (xs.getD k 0 / 16), digP (xs.getD k 0 % 16)]) := by
        show hexL (xs.take (k + 1)) = _
        rw [take_getD hkl, hexL_snoc]
      have Hlen : Hid (2 * k + 2 = 2 * (k + 1)) := by show 2 * k + 2 = 2 * (k + 1); omega
      generalize hexL (xs.take k) = L at *
      generalize xs.getD k 0 = x at *
      have e1 := band16 x hx
      have e2 : (x : Int) / 16 = ((x / 16 : Nat) : Int) := rfl
      have q1 := Lib.hid (fun W => digit32 (x / 16) W (by omega))
      have q2 := Lib.hid (fun W => digit32 (x % 16) W (by omega))
      have hd1 : x / 16 < 16 := by omega
      have hd2 : x % 16 < 16 := by omega
      generalize x / 16 = d1 at *
      generalize x % 16 = d2 at *
      go_wp2_with (first
        | (go_at_call 32; ((with_reducible refine (q1.out _).mono ?_)); rintro e w1 ⟨rfl, rfl⟩)
        | (go_at_call 32; ((with_reducible refine (q2.out _).mono ?_)); rintro e w2 ⟨rfl, rfl⟩)
        | (at_builtin; refine apA row27 rfl (.tmp 12) (.tmp 19) rfl w.heap.size _ (2 * k) (bvs L) [.int .u8 (digP d1 : Nat), .int .u8 (digP d2 : Nat)] rfl (HO.out.alloc _) _ _ rfl ?c1 ?c2 ?c3 (by omega) (by simp) (by simp; omega) ?_; rotate_left 3; (intro v2 w2 hown2 hb2; have Hown2 := Lib.hid hown2; clear hown2)))
      case c1 => intro h; cases h
      case c2 => exact .inr ⟨_, 0, rfl, fun j u hu => by rw [Nat.zero_add, World.cell?_alloc_at _ _ _ _ rfl]; simpa using hu⟩
      case c3 => intro u hu; simp only [List.mem_cons, List.not_mem_nil, or_false] at hu; rcases hu with h | h <;> rw [h] <;> rfl
      go_roundw
      case rel => exact ⟨k + 1, by omega, by go_num, by rw [HS.out, ← bvs_append, ← Hlen.out]; exact Hown2.out, HB.out.trans ((ba (b0 _) _).mono hbase |>.trans hb2)⟩
      case measure => simp [intOf]; omega
    · have : k = n := by omega
      subst this
      rw [List.take_of_length_le (by have := Hn.out; omega)] at HO
      obtain ⟨A2, c2, hv, h5, h6, h7⟩ := own_form HO.out
      subst hv
      have hlen : (hexL xs).length = 2 * k := by rw [hexL_len, Hn.out]
      obtain ⟨g2, o2, rfl, _, hc2⟩ := h7.at_ (by rw [bvs_length, hlen]; omega)
      have hconv := run_convert_bytes_arg (P := Try.prog) wr 27 5 Try.underlying27 Try.underlying5 g2 o2 (2 * k) c2 ((hexL xs).map Int.ofNat) (by rw [List.length_map, hlen]) (fun i hi => by
        rw [hc2 i _ (bvs_getD (by rw [hlen]; exact hi))]
        simp [List.getD, show i < (hexL xs).length by rw [hlen]; exact hi]) 9 Try.underlying9
      have Hst : Hid (strB (hexL xs) = strOfNums ((hexL xs).map Int.ofNat)) := rfl
      generalize strOfNums ((hexL xs).map Int.ofNat) = st at *
      clear h6 h7 hc2 hlen
      go_wp2_with fail
      go_ret
      exact ⟨by rw [Hst.out]; rfl, HB.out⟩

/-- The bytes of all rounds' keys. -/
def KS (key : List Nat) : List Nat := (wl key 60).flatMap Wd.bs
theorem KS_len (key : List Nat) : (KS key).length = 240 := by unfold KS; rw [flat_len, wl_len]
theorem KS_256 {key : List Nat} (h : B256 key) : B256 (KS key) := fun x hx => by
  unfold KS at hx
  obtain ⟨v, hv, hx⟩ := List.mem_flatMap.1 hx
  have hok := wl_ok h 60 v hv
  simp only [Wd.bs, List.mem_cons, List.not_mem_nil, or_false] at hx
  rcases hx with rfl | rfl | rfl | rfl
  · exact hok.1
  · exact hok.2.1
  · exact hok.2.2.1
  · exact hok.2.2.2
def NewOk (key : List Nat) (w : World) (e : Ending) (w' : World) : Prop :=
  ∃ C, e = .returned (.tuple #[.pointer (some ⟨C, 0, none⟩), .int .i64 0]) ∧ Below w.heap.size w w' ∧ Ciph w' C (KS key)
theorem newK12 (g : Nat) (A : Option Addr) (c : Nat) (key : List Nat) (w : World) (ht : Tabs w g) (hA : Rd w A (bvs key)) (hk : key.length = 32) (hx : B256 key) (hc : 32 ≤ c) :
    Calls Try.prog 12 #[.pointer (some ⟨g, 0, none⟩), .slice A 32 c] w (NewOk key w) :=
  (new12 g A c key w ht hA hk hx hc).mono fun _ _ ⟨C, h1, _, h3, h4⟩ => ⟨C, h1, h3, g, ht.to h3, h4⟩

end Go.Proofs.Ytiaceoecilinkaa
