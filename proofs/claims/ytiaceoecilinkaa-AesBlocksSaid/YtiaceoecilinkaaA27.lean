/- Rows of words; the reference's Words. -/
import Derived.Test.YtiaceoecilinkaaA26
import Derived.Test.YtiaceoecilinkaaA14
import Derived.Test.YtiaceoecilinkaaA25
namespace Go.Proofs.Ytiaceoecilinkaa
open Go.RowKit
set_option linter.unusedSimpArgs false

/-- Words that lie each in a slice of its own, none in block rb. -/
def RowsOk (w : World) (S : List Value) (rb : Option Nat) (L : List Wd) : Prop :=
  ∀ (j : Nat) (x : Wd), L[j]? = some x → ∃ (b o c : Nat), S[j]? = some (Value.slice (some ⟨b, o, none⟩) 4 c) ∧ some b ≠ rb ∧ b < w.heap.size ∧ ∀ i u, (bvs x.bs)[i]? = some u → w.cell? ⟨b, o + i, none⟩ = some u
theorem RowsOk.below {w w' : World} {S : List Value} {rb : Option Nat} {L : List Wd} (h : RowsOk w S rb L) (hb : Below w.heap.size w w') : RowsOk w' S rb L := by
  intro j x hx
  obtain ⟨b, o, c, h1, h2, h3, h4⟩ := h j x hx
  exact ⟨b, o, c, h1, h2, Nat.lt_of_lt_of_le h3 hb.size, fun i u hu => ((bcell hb).1 _ _ h3).trans (h4 i u hu)⟩
theorem RowsOk.grown {w w' : World} {S : List Value} {rb rb' : Option Nat} {L : List Wd} (h : RowsOk w S rb L) (hg : w.grownBy w' rb) (hr : rb' = rb ∨ rb' = some w.heap.size) : RowsOk w' S rb' L := by
  intro j x hx
  obtain ⟨b, o, c, h1, h2, h3, h4⟩ := h j x hx
  refine ⟨b, o, c, h1, ?_, Nat.lt_of_lt_of_le h3 hg.size, fun i u hu => ?_⟩
  · rcases hr with hr | hr
    · rw [hr]; exact h2
    · rw [hr]; intro e; injection e with e; omega
  · rw [World.cell?_of_block (hg.block b h3 h2)]
    exact h4 i u hu
theorem RowsOk.snoc {w : World} {S : List Value} {rb : Option Nat} {L : List Wd} {x : Wd} {b o c : Nat} (h : RowsOk w S rb L) (hl : S.length = L.length) (hb : some b ≠ rb) (hlt : b < w.heap.size) (hc : ∀ i u, (bvs x.bs)[i]? = some u → w.cell? ⟨b, o + i, none⟩ = some u) :
    RowsOk w (S ++ [.slice (some ⟨b, o, none⟩) 4 c]) rb (L ++ [x]) := by
  intro j y hy
  by_cases hj : j < L.length
  · rw [List.getElem?_append_left hj] at hy
    obtain ⟨b', o', c', h1, h2⟩ := h j y hy
    exact ⟨b', o', c', by rw [List.getElem?_append_left (by omega)]; exact h1, h2⟩
  · have hj' : j = L.length := by
      have := (List.getElem?_eq_some_iff.1 hy).1
      simp at this; omega
    subst hj'
    rw [List.getElem?_append_right (Nat.le_refl _), Nat.sub_self] at hy
    simp only [List.getElem?_cons_zero, Option.some.injEq] at hy
    subst hy
    exact ⟨b, o, c, by rw [List.getElem?_append_right (by omega)]; simp [hl], hb, hlt, hc⟩

/-- append(rows, u), and where the row lies. -/
theorem apR {ops : Array Oper} {rest : List Oper} {o : Oper} {a : Act} {Q : Exit → Act → World → Prop} {W : World} (hgd : o.guard = none) (s x : Operand)
    (ho : o.op = .call { callee := .builtin .append, args := #[s, x], argTypes := #[38, 38] }) (base : Nat) (val : Value) (n : Nat) (l : List Value) (u : Value) (hs : a.eval s = val)
    (hown : W.ownsRow base 27 1 val n l) (hx : a.eval x = .slice (some ⟨W.heap.size, 0, none⟩) 1 1) (hu : u.oneCell' = true) (hl : n ≤ 1000000) (hbase : base ≤ W.heap.size)
    (h : ∀ v' w', w'.ownsRow base 27 1 v' (n + 1) (l ++ [u]) → Below base W w' → (W.alloc (.cells #[u] 27)).grownBy w' val.ownBlock → (v'.ownBlock = val.ownBlock ∨ v'.ownBlock = some (W.alloc (.cells #[u] 27)).heap.size) → wpList Try.prog ops Q rest (a.put o.dst v') w') :
    wpList Try.prog ops Q (o :: rest) a (W.alloc (.cells #[u] 27)) := by
  obtain ⟨i0, hi, hz0, hz1, hz2⟩ := info_parts row38.inf
  have hown1 := hown.alloc (.cells #[u] 27)
  refine wpList_append_own_at _ hgd s x 38 ho base 27 i0 _ 1 24 row38.und hi hz0 hz1 hz2 row38.one (by decide) val n l hs hown1 ⟨W.heap.size, 0, none⟩ 1 1 [u] hx rfl (fun j v hv => ?_) (fun v hv => by rw [List.mem_singleton] at hv; rw [hv]; exact hu) (by simp only [maxLen]; omega) (by omega) (by simp; omega) ?_
  · rw [Addr.add_lit, Nat.zero_add, World.cell?_alloc_at _ _ _ _ rfl]
    simpa using hv
  · intro v' w' h1 hg _ hat
    exact h v' w' h1 (below_of_grown hg (ba (b0 _) _) hbase (fun k hk => (hown.lt k hk).1)) hg hat

/-- What Words leaves. -/
def WordsRes (L : List Wd) (w : World) (e : Ending) (w' : World) : Prop :=
  ∃ A c S, e = .returned (.slice A L.length c) ∧ S.length = L.length ∧ Rd w' A S ∧ RowsOk w' S none L ∧ Below w.heap.size w w'
theorem RowsOk.none_ {w : World} {S : List Value} {rb : Option Nat} {L : List Wd} (h : RowsOk w S rb L) : RowsOk w S none L := by
  intro j x hx
  obtain ⟨b, o, c, h1, _, h3⟩ := h j x hx
  exact ⟨b, o, c, h1, by simp, h3⟩

set_option maxRecDepth 100000 in
set_option maxHeartbeats 16000000 in
theorem words17 (X A : Option Addr) (cx c : Nat) (key : List Nat) (w : World) (hX : Rd w X (bvs boxLit)) (hA : Rd w A (bvs key)) (hk : key.length = 32) (hx : B256 key) (hc : 32 ≤ c) (KW : List Wd) (hKW : ∀ n, n = 60 → wl key n = KW) :
    Calls Try.prog 17 #[.slice X 256 cx, .slice A 32 c] w (WordsRes KW w) := by
  obtain ⟨xb, xo, rfl, hxl, hxc⟩ := hX.at_ (by rw [bvs_length, boxLit_len]; omega)
  have HxC : Hid (∀ W, Below w.heap.size w W → ∀ j, j < 256 → W.cell? ⟨xb, xo + j, none⟩ = some (.int .u8 ((sb j : Nat) : Int))) := fun W hW j hj =>
    ((bcell hW).1 _ _ hxl).trans (hxc j _ (bvs_getD (by rw [boxLit_len]; exact hj)))
  obtain ⟨kb, ko, rfl, hkb, hkc⟩ := hA.at_ (by rw [bvs_length]; omega)
  have Hkey : Hid (∀ i, i < 8 → ∀ W, Below w.heap.size w W → ∀ j u, (bvs (kw key i).bs)[j]? = some u → W.cell? ⟨kb, ko + 4 * i + j, none⟩ = some u) := fun i hi W hW j u hu => by
    have hj : j < 4 := by have := (List.getElem?_eq_some_iff.1 hu).1; simpa [bvs, Wd.bs] using this
    have h1 : W.cell? ⟨kb, ko + (4 * i + j), none⟩ = some (.int .u8 ((key.getD (4 * i + j) 0 : Nat) : Int)) := ((bcell hW).1 _ _ hkb).trans (hkc _ _ (bvs_getD (by omega)))
    rw [Nat.add_assoc, h1, ← hu]
    obtain rfl | rfl | rfl | rfl : j = 0 ∨ j = 1 ∨ j = 2 ∨ j = 3 := by omega
    all_goals simp [bvs, bv, Wd.bs, kw]
  have Hok := Lib.hid (wl_ok hx)
  have Hlen := Lib.hid (wl_len key)
  have Hsnoc : Hid (∀ i, wl key (i + 1) = wl key i ++ [if i < 8 then kw key i else nx (wl key i) i]) := fun _ => rfl
  have Hwl0 : Hid (wl key 0 = []) := rfl
  have HKW := Lib.hid hKW
  have Hxl := Lib.hid hxl
  have Hkb := Lib.hid hkb
  clear hX hA hxc hkc hk hx hKW
  generalize wl key = V at *
  go_enter Try.func17, Try.ntmps17
  go_wp2_with fail
  go_loopw [5, 6] (fun o i wr => ∃ k : Nat, k ≤ 8 ∧ i = .int .i64 k ∧ Hid (Below w.heap.size w wr) ∧ Hid (∃ S : List Value, S.length = k ∧ wr.ownsRow w.heap.size 27 1 o k S ∧ RowsOk wr S o.ownBlock (V k))) (fun _ i _ => 8 - (intOf i).toNat)
  case atStart => exact ⟨0, by omega, rfl, Below.refl _ _, [], rfl, own_nil _ _ _, by rw [Hwl0.out]; intro j x hx; simp at hx⟩
  case round =>
    obtain ⟨k, hk, rfl, HB, HS⟩ := hrel
    obtain ⟨S, hSl, hSo, hSr⟩ := HS.out
    have HSl := Lib.hid hSl
    have HSo := Lib.hid hSo
    have HSr := Lib.hid hSr
    have hbase := HB.out.size
    clear HS hSl hSo hSr
    by_cases hlt : k < 8
    · have hkz : (k : Int) < 8 := by omega
      have hk0 : (0 : Int) ≤ (k : Int) := by omega
      have hcz : (32 : Int) ≤ (c : Int) := by omega
      have HV : Hid (V (k + 1) = V k ++ [kw key k]) := by
        have h := Hsnoc.out k
        rw [if_pos hlt] at h
        exact h
      go_wp2_with (at_builtin; refine apR rfl (.tmp 14) (.tmp 22) rfl w.heap.size _ k S (.slice (some ⟨kb, ko + 4 * k, none⟩) 4 (c - 4 * k)) rfl HSo.out rfl rfl (by omega) hbase ?_; intro v2 w2 hown2 hb2 hg2 hat2; have Hown2 := Lib.hid hown2; have Hg2 := Lib.hid hg2; have Hat2 := Lib.hid hat2; clear hown2 hg2 hat2)
      go_roundw
      case rel => exact ⟨k + 1, by omega, by go_num, HB.out.trans hb2, S ++ [.slice (some ⟨kb, ko + 4 * k, none⟩) 4 (c - 4 * k)], by rw [List.length_append, HSl.out]; rfl, Hown2.out, by
        rw [HV.out]
        exact ((HSr.out.snoc (by rw [HSl.out, Hlen.out]) (fun e => by have h1 := (HSo.out.lt kb e.symm).1; have h2 := Hkb.out; omega) (Nat.lt_of_lt_of_le Hkb.out hbase) (Hkey.out k hlt _ HB.out)).below (ba (b0 _) _)).grown Hg2.out Hat2.out⟩
      case measure => simp [intOf]; omega
    · have : k = 8 := by omega
      subst this
      clear Hkey Hkb
      go_wp2_with fail
      go_loopw [5, 7, 8] (fun o r i wr => ∃ k : Nat, 8 ≤ k ∧ k ≤ 60 ∧ i = .int .i64 k ∧ r = .int .u8 (rcon ((k + 7) / 8 - 1) : Nat) ∧ Hid (Below w.heap.size w wr) ∧ Hid (∃ S : List Value, S.length = k ∧ wr.ownsRow w.heap.size 27 1 o k S ∧ RowsOk wr S o.ownBlock (V k))) (fun _ _ i _ => 60 - (intOf i).toNat)
      case atStart => exact ⟨8, by omega, by omega, rfl, rfl, HB.out, S, HSl.out, HSo.out, HSr.out⟩
      case round =>
        obtain ⟨k, hk8, hk, rfl, rfl, HB, HS⟩ := hrel
        clear HSl HSo HSr hbase
        obtain ⟨S, hSl, hSo, hSr⟩ := HS.out
        have HSl := Lib.hid hSl
        have HSr0 := Lib.hid hSr
        have hbase := HB.out.size
        obtain ⟨R0, rc, hv, hrc, hrn, hrd⟩ := own_form hSo
        subst hv
        have HSo := Lib.hid hSo
        have HSr : Hid (RowsOk wr S (Value.ownBlock (.slice R0 k rc)) (V k)) := HSr0.out
        clear HS hSl hSo hSr HSr0
        have hr := rcon_lt ((k + 7) / 8 - 1)
        by_cases hlt : k < 60
        · obtain ⟨rb, ro, rfl, hrb, hrcell⟩ := hrd.at_ (by rw [HSl.out]; omega)
          have hkz : (k : Int) < 60 := by omega
          have hk0 : (8 : Int) ≤ (k : Int) := by omega
          have HL := Lib.hid (Hlen.out k)
          have HO := Lib.hid (Hok.out k)
          have HV : Hid (V (k + 1) = V k ++ [nx (V k) k]) := by
            have h := Hsnoc.out k
            rw [if_neg (by omega)] at h
            exact h
          obtain ⟨bx, ox, cx', hSx, hnx, hbx, hcx⟩ := HSr.out (k - 1) ((V k).getD (k - 1) .zero) (by simp [List.getD, show k - 1 < (V k).length by rw [HL.out]; omega])
          obtain ⟨by', oy, cy', hSy, hny, hby, hcy⟩ := HSr.out (k - 8) ((V k).getD (k - 8) .zero) (by simp [List.getD, show k - 8 < (V k).length by rw [HL.out]; omega])
          have cRx : wr.cell? ⟨rb, ro + (k - 1), none⟩ = some (.slice (some ⟨bx, ox, none⟩) 4 cx') := hrcell _ _ hSx
          have cRy : wr.cell? ⟨rb, ro + (k - 8), none⟩ = some (.slice (some ⟨by', oy, none⟩) 4 cy') := hrcell _ _ hSy
          have HOx := Lib.hid (getD_ok HO.out (k - 1))
          have HOy := Lib.hid (getD_ok HO.out (k - 8))
          have HRx : Hid (Rd wr (some ⟨bx, ox, none⟩) (bvs ((V k).getD (k - 1) .zero).bs)) := .inr ⟨bx, ox, rfl, hcx⟩
          have HRy : Hid (Rd wr (some ⟨by', oy, none⟩) (bvs ((V k).getD (k - 8) .zero).bs)) := .inr ⟨by', oy, rfl, hcy⟩
          have Hnx : Hid (nx (V k) k = ((V k).getD (k - 8) .zero).xor (if k % 8 = 0 then ((V k).getD (k - 1) .zero).mixr (rcon (k / 8 - 1)) else if k % 8 = 4 then ((V k).getD (k - 1) .zero).sub else (V k).getD (k - 1) .zero)) := rfl
          have Hrc := Lib.hid hrc
          have Hrb := Lib.hid hrb
          have hrb2 := hrb
          clear hrc hrn hrd hrcell hSx hSy hnx hny hby hcy
          generalize (V k).getD (k - 1) .zero = x at *
          generalize (V k).getD (k - 8) .zero = y at *
          have qb : Hid (∀ (z : Wd), z.ok → ∀ (B2 : Option Addr) c2 W, Rd W (some ⟨by', oy, none⟩) (bvs y.bs) → Rd W B2 (bvs z.bs) → Calls Try.prog 27 #[.slice (some ⟨by', oy, none⟩) 4 cy', .slice B2 4 c2] W fun e w' => ∃ g c3, e = .returned (.slice (some ⟨g, 0, none⟩) 4 c3) ∧ W.heap.size ≤ g ∧ g < w'.heap.size ∧ Rd w' (some ⟨g, 0, none⟩) (bvs (y.xor z).bs) ∧ Below W.heap.size W w') := fun z hz B2 c2 W h1 h2 => by
            have hb := fun (v : Wd) (hv : v.ok) => show B256 v.bs from fun u hu => by
              simp only [Wd.bs, List.mem_cons, List.not_mem_nil, or_false] at hu
              rcases hu with h | h | h | h <;> rw [h]
              · exact hv.1
              · exact hv.2.1
              · exact hv.2.2.1
              · exact hv.2.2.2
            refine (both27o _ _ cy' c2 y.bs z.bs W h1 h2 (hb y HOy.out) (hb z hz) rfl (by show 4 ≤ 1000; decide)).mono ?_
            rintro e w' ⟨v, h3, h4, h5⟩
            obtain ⟨g, cap, hv, _, hlt'⟩ := h4.form (by show 0 < 4; decide)
            subst hv
            obtain ⟨A5, c5, hv5, _, _, h6⟩ := own_form h4
            simp only [Value.slice.injEq, true_and] at hv5
            obtain ⟨rfl, _⟩ := hv5
            exact ⟨g, cap, h3, (h4.lt g rfl).1, hlt', h6, h5⟩
          by_cases hm0 : k % 8 = 0
          · have hm0d : ((k : Int) % 8 == 0) = true := by simp; omega
            have hm4d : ((k : Int) % 8 == 4) = false := by simp; omega
            have Hnz : Hid (nx (V k) k = y.xor (x.mixr (rcon ((k + 7) / 8 - 1)))) := by
              have h := Hnx.out
              rw [if_pos hm0, show k / 8 - 1 = (k + 7) / 8 - 1 from by omega] at h
              exact h
            have Hr1 : Hid (rcon ((k + 1 + 7) / 8 - 1) = dbl (rcon ((k + 7) / 8 - 1))) := by
              show rcon ((k + 1 + 7) / 8 - 1) = dbl (rcon ((k + 7) / 8 - 1))
              rw [show (k + 1 + 7) / 8 - 1 = ((k + 7) / 8 - 1) + 1 from by omega]; rfl
            have q27 := Lib.hid (qb.out _ (Wd.mixr_ok x hr))
            have q31 : Hid (∀ W, Calls Try.prog 31 #[.int .u8 (rcon ((k + 7) / 8 - 1) : Nat), .int .u8 2] W fun e w' => e = .returned (.int .u8 (dbl (rcon ((k + 7) / 8 - 1)) : Nat)) ∧ W = w') := fun W => by
              have h := times31 (rcon ((k + 7) / 8 - 1)) 2 W hr (by omega)
              rw [times2 hr] at h
              exact h
            have d0 : wr.cell? ⟨bx, ox, none⟩ = some (.int .u8 (x.a : Int)) := by have := hcx 0 _ rfl; simpa [bv] using this
            have d1 : wr.cell? ⟨bx, ox + 1, none⟩ = some (.int .u8 (x.b : Int)) := hcx 1 _ rfl
            have d2 : wr.cell? ⟨bx, ox + 2, none⟩ = some (.int .u8 (x.c : Int)) := hcx 2 _ rfl
            have d3 : wr.cell? ⟨bx, ox + 3, none⟩ = some (.int .u8 (x.d : Int)) := hcx 3 _ rfl
            have s0 := HxC.out _ HB.out x.a HOx.out.1
            have s1 := HxC.out _ HB.out x.b HOx.out.2.1
            have s2 := HxC.out _ HB.out x.c HOx.out.2.2.1
            have s3 := HxC.out _ HB.out x.d HOx.out.2.2.2
            have i0 : (x.a : Int) < 256 := by have := HOx.out.1; omega
            have i1 : (x.b : Int) < 256 := by have := HOx.out.2.1; omega
            have i2 : (x.c : Int) < 256 := by have := HOx.out.2.2.1; omega
            have i3 : (x.d : Int) < 256 := by have := HOx.out.2.2.2; omega
            have j0 : (0 : Int) ≤ (x.a : Int) := by omega
            have j1 : (0 : Int) ≤ (x.b : Int) := by omega
            have j2 : (0 : Int) ≤ (x.c : Int) := by omega
            have j3 : (0 : Int) ≤ (x.d : Int) := by omega
            have hxr := u8_xor_nat (sb x.b) (rcon ((k + 7) / 8 - 1)) (sb_lt _) hr
            have hn1 : wr.heap.size ≠ bx := by omega
            have hn2 : wr.heap.size ≠ xb := by have := Hxl.out; omega
            have Hlit : Hid (bvs (x.mixr (rcon ((k + 7) / 8 - 1))).bs = [.int .u8 (sb x.b ^^^ rcon ((k + 7) / 8 - 1) : Nat), .int .u8 (sb x.c : Nat), .int .u8 (sb x.d : Nat), .int .u8 (sb x.a : Nat)]) := rfl
            generalize rcon ((k + 7) / 8 - 1) = r at *
            generalize nx (V k) k = z at *
            generalize x.mixr r = xm at *
            generalize sb x.b ^^^ r = l0 at *
            generalize sb x.b = sxb at *
            generalize sb x.c = sxc at *
            generalize sb x.d = sxd at *
            generalize sb x.a = sxa at *
            clear Hnx hcx
            go_upto_region 12 with fail
            go_region_held3 (fun w' => w'.cell? ⟨bx, ox, none⟩ = some (.int .u8 (x.a : Int)) ∧ w'.cell? ⟨bx, ox + 1, none⟩ = some (.int .u8 (x.b : Int)) ∧ w'.cell? ⟨bx, ox + 2, none⟩ = some (.int .u8 (x.c : Int)) ∧ w'.cell? ⟨bx, ox + 3, none⟩ = some (.int .u8 (x.d : Int)) ∧ w'.cell? ⟨xb, xo + x.a, none⟩ = some (.int .u8 (sxa : Int)) ∧ w'.cell? ⟨xb, xo + x.b, none⟩ = some (.int .u8 (sxb : Int)) ∧ w'.cell? ⟨xb, xo + x.c, none⟩ = some (.int .u8 (sxc : Int)) ∧ w'.cell? ⟨xb, xo + x.d, none⟩ = some (.int .u8 (sxd : Int))) (go_keep) (fail)
            refine gen_world (G := fun W => Exit.then _ _ _ _ W) (I := fun W => Below wr.heap.size wr W ∧ Rd W (some ⟨wr.heap.size, 0, none⟩) (bvs xm.bs)) ⟨bdr (ba (b0 _) _), ?_⟩ ?_
            · rw [Hlit.out]
              have h := Rd.below (Blk.rd (Blk.new wr 5 [.int .u8 (l0 : Nat), .int .u8 (sxc : Nat), .int .u8 (sxd : Nat), .int .u8 (sxa : Nat)])) (bdr (b0 _))
              exact h
            rintro W1 ⟨hbW, hrX⟩
            have HRx1 := Lib.hid hrX
            clear hrX d0 d1 d2 d3 s0 s1 s2 s3
            have HbW := Lib.hid hbW
            have cRy1 : W1.cell? ⟨rb, ro + (k - 8), none⟩ = some (.slice (some ⟨by', oy, none⟩) 4 cy') := ((bcell hbW).1 _ _ Hrb.out).trans cRy
            have HRy1 := Lib.hid (HRy.out.below hbW)
            clear hbW
            go_wp2_with (first
              | (go_at_call 31; refine (q31.out _).mono ?_; rintro e w2 ⟨rfl, rfl⟩)
              | (go_at_call 27; ((with_reducible refine (q27.out _ _ _ HRy1.out HRx1.out).mono ?_)); rintro e w3 ⟨g, c3, rfl, hg1, hg2, hrd3, hb3⟩; have Hb3 : Hid (Below wr.heap.size wr w3) := bt HbW.out hb3; have HSo3 : Hid (w3.ownsRow w.heap.size 27 1 (.slice (some ⟨rb, ro, none⟩) k rc) k S) := own_below HSo.out Hb3.out; have hbase3 : w.heap.size ≤ w3.heap.size := Nat.le_trans hbase Hb3.out.size; have Hg1 : Hid (wr.heap.size ≤ g) := Nat.le_trans HbW.out.size hg1; have Hrd3 := Lib.hid hrd3; have Hg2' := Lib.hid hg2; clear hb3 hg1 hg2 hrd3)
              | (at_builtin; refine apR rfl (.tmp 93) (.tmp 101) rfl w.heap.size _ k S (.slice (some ⟨g, 0, none⟩) 4 c3) rfl HSo3.out rfl rfl (by omega) hbase3 ?_; intro v4 w4 hown4 hb4 hg4 hat4; have Hown4 := Lib.hid hown4; have Hg4 := Lib.hid hg4; have Hat4 := Lib.hid hat4; clear hown4 hg4 hat4))
            have Hcg : Hid (∀ i u, (bvs (y.xor xm).bs)[i]? = some u → w3.cell? ⟨g, 0 + i, none⟩ = some u) := fun i u hu => by
              obtain ⟨g', o', he, _, hc'⟩ := Hrd3.out.at_ (by show 0 < 4; decide)
              simp only [Option.some.injEq, Addr.mk.injEq, and_true] at he
              obtain ⟨rfl, rfl⟩ := he
              exact hc' i u hu
            have HF : ∃ S' : List Value, S'.length = k + 1 ∧ w4.ownsRow w.heap.size 27 1 v4 (k + 1) S' ∧ RowsOk w4 S' v4.ownBlock (V (k + 1)) := ⟨S ++ [.slice (some ⟨g, 0, none⟩) 4 c3], by rw [List.length_append, HSl.out]; rfl, Hown4.out, by
              rw [HV.out, Hnz.out]
              exact (((HSr.out.below Hb3.out).snoc (by rw [HSl.out, HL.out]) (fun e => by have h1 := (HSo.out.lt g e.symm).2; have h2 := Hg1.out; omega) Hg2'.out Hcg.out).below (ba (b0 _) _)).grown Hg4.out Hat4.out⟩
            have HF4 := Lib.hid HF
            clear HF
            go_roundw
            case rel => first
              | exact ⟨k + 1, by omega, by omega, by go_num, by rw [Hr1.out], (bt HB.out Hb3.out).trans hb4, HF4.out⟩
              | ((repeat apply Exists.intro); exact ⟨⟨k + 1, by omega, by omega, by go_num, by rw [Hr1.out], (bt HB.out Hb3.out).trans hb4, HF4.out⟩, rfl⟩)
            case measure => simp [intOf]; omega
          · have hm0d : ((k : Int) % 8 == 0) = false := by simp; omega
            have Hr1 : Hid (rcon ((k + 1 + 7) / 8 - 1) = rcon ((k + 7) / 8 - 1)) := by
              show rcon ((k + 1 + 7) / 8 - 1) = rcon ((k + 7) / 8 - 1)
              rw [show (k + 1 + 7) / 8 - 1 = (k + 7) / 8 - 1 from by omega]
            have q31 : Hid True := trivial
            by_cases hm4 : k % 8 = 4
            · have hm4d : ((k : Int) % 8 == 4) = true := by simp; omega
              have Hnz : Hid (nx (V k) k = y.xor x.sub) := by
                have h := Hnx.out
                rw [if_neg hm0, if_pos hm4] at h
                exact h
              have q27 := Lib.hid (qb.out _ (Wd.sub_ok x))
              have d0 : wr.cell? ⟨bx, ox, none⟩ = some (.int .u8 (x.a : Int)) := by have := hcx 0 _ rfl; simpa [bv] using this
              have d1 : wr.cell? ⟨bx, ox + 1, none⟩ = some (.int .u8 (x.b : Int)) := hcx 1 _ rfl
              have d2 : wr.cell? ⟨bx, ox + 2, none⟩ = some (.int .u8 (x.c : Int)) := hcx 2 _ rfl
              have d3 : wr.cell? ⟨bx, ox + 3, none⟩ = some (.int .u8 (x.d : Int)) := hcx 3 _ rfl
              have s0 := HxC.out _ HB.out x.a HOx.out.1
              have s1 := HxC.out _ HB.out x.b HOx.out.2.1
              have s2 := HxC.out _ HB.out x.c HOx.out.2.2.1
              have s3 := HxC.out _ HB.out x.d HOx.out.2.2.2
              have i0 : (x.a : Int) < 256 := by have := HOx.out.1; omega
              have i1 : (x.b : Int) < 256 := by have := HOx.out.2.1; omega
              have i2 : (x.c : Int) < 256 := by have := HOx.out.2.2.1; omega
              have i3 : (x.d : Int) < 256 := by have := HOx.out.2.2.2; omega
              have j0 : (0 : Int) ≤ (x.a : Int) := by omega
              have j1 : (0 : Int) ≤ (x.b : Int) := by omega
              have j2 : (0 : Int) ≤ (x.c : Int) := by omega
              have j3 : (0 : Int) ≤ (x.d : Int) := by omega
              have hn1 : wr.heap.size ≠ bx := by omega
              have hn2 : wr.heap.size ≠ xb := by have := Hxl.out; omega
              have Hlit : Hid (bvs x.sub.bs = [.int .u8 (sb x.a : Nat), .int .u8 (sb x.b : Nat), .int .u8 (sb x.c : Nat), .int .u8 (sb x.d : Nat)]) := rfl
              generalize rcon ((k + 7) / 8 - 1) = r at *
              generalize nx (V k) k = z at *
              generalize x.sub = xm at *
              generalize sb x.b = sxb at *
              generalize sb x.c = sxc at *
              generalize sb x.d = sxd at *
              generalize sb x.a = sxa at *
              clear Hnx hcx
              go_upto_region 15 with fail
              go_region_held3 (fun w' => w'.cell? ⟨bx, ox, none⟩ = some (.int .u8 (x.a : Int)) ∧ w'.cell? ⟨bx, ox + 1, none⟩ = some (.int .u8 (x.b : Int)) ∧ w'.cell? ⟨bx, ox + 2, none⟩ = some (.int .u8 (x.c : Int)) ∧ w'.cell? ⟨bx, ox + 3, none⟩ = some (.int .u8 (x.d : Int)) ∧ w'.cell? ⟨xb, xo + x.a, none⟩ = some (.int .u8 (sxa : Int)) ∧ w'.cell? ⟨xb, xo + x.b, none⟩ = some (.int .u8 (sxb : Int)) ∧ w'.cell? ⟨xb, xo + x.c, none⟩ = some (.int .u8 (sxc : Int)) ∧ w'.cell? ⟨xb, xo + x.d, none⟩ = some (.int .u8 (sxd : Int))) (go_keep) (fail)
              refine gen_world (G := fun W => Exit.then _ _ _ _ W) (I := fun W => Below wr.heap.size wr W ∧ Rd W (some ⟨wr.heap.size, 0, none⟩) (bvs xm.bs)) ⟨bdr (ba (b0 _) _), ?_⟩ ?_
              · rw [Hlit.out]
                have h := Rd.below (Blk.rd (Blk.new wr 5 [.int .u8 (sxa : Nat), .int .u8 (sxb : Nat), .int .u8 (sxc : Nat), .int .u8 (sxd : Nat)])) (bdr (b0 _))
                exact h
              rintro W1 ⟨hbW, hrX⟩
              have HRx1 := Lib.hid hrX
              clear hrX d0 d1 d2 d3 s0 s1 s2 s3
              have HbW := Lib.hid hbW
              have cRy1 : W1.cell? ⟨rb, ro + (k - 8), none⟩ = some (.slice (some ⟨by', oy, none⟩) 4 cy') := ((bcell hbW).1 _ _ Hrb.out).trans cRy
              have HRy1 := Lib.hid (HRy.out.below hbW)
              clear hbW
              go_wp2_with (first
                | (go_at_call 27; ((with_reducible refine (q27.out _ _ _ HRy1.out HRx1.out).mono ?_)); rintro e w3 ⟨g, c3, rfl, hg1, hg2, hrd3, hb3⟩; have Hb3 : Hid (Below wr.heap.size wr w3) := bt HbW.out hb3; have HSo3 : Hid (w3.ownsRow w.heap.size 27 1 (.slice (some ⟨rb, ro, none⟩) k rc) k S) := own_below HSo.out Hb3.out; have hbase3 : w.heap.size ≤ w3.heap.size := Nat.le_trans hbase Hb3.out.size; have Hg1 : Hid (wr.heap.size ≤ g) := Nat.le_trans HbW.out.size hg1; have Hrd3 := Lib.hid hrd3; have Hg2' := Lib.hid hg2; clear hb3 hg1 hg2 hrd3)
                | (at_builtin; refine apR rfl (.tmp 93) (.tmp 101) rfl w.heap.size _ k S (.slice (some ⟨g, 0, none⟩) 4 c3) rfl HSo3.out rfl rfl (by omega) hbase3 ?_; intro v4 w4 hown4 hb4 hg4 hat4; have Hown4 := Lib.hid hown4; have Hg4 := Lib.hid hg4; have Hat4 := Lib.hid hat4; clear hown4 hg4 hat4))
              have Hcg : Hid (∀ i u, (bvs (y.xor xm).bs)[i]? = some u → w3.cell? ⟨g, 0 + i, none⟩ = some u) := fun i u hu => by
                obtain ⟨g', o', he, _, hc'⟩ := Hrd3.out.at_ (by show 0 < 4; decide)
                simp only [Option.some.injEq, Addr.mk.injEq, and_true] at he
                obtain ⟨rfl, rfl⟩ := he
                exact hc' i u hu
              have HF : ∃ S' : List Value, S'.length = k + 1 ∧ w4.ownsRow w.heap.size 27 1 v4 (k + 1) S' ∧ RowsOk w4 S' v4.ownBlock (V (k + 1)) := ⟨S ++ [.slice (some ⟨g, 0, none⟩) 4 c3], by rw [List.length_append, HSl.out]; rfl, Hown4.out, by
                rw [HV.out, Hnz.out]
                exact (((HSr.out.below Hb3.out).snoc (by rw [HSl.out, HL.out]) (fun e => by have h1 := (HSo.out.lt g e.symm).2; have h2 := Hg1.out; omega) Hg2'.out Hcg.out).below (ba (b0 _) _)).grown Hg4.out Hat4.out⟩
              have HF4 := Lib.hid HF
              clear HF
              go_roundw
              case rel => first
                | exact ⟨k + 1, by omega, by omega, by go_num, by rw [Hr1.out], (bt HB.out Hb3.out).trans hb4, HF4.out⟩
                | ((repeat apply Exists.intro); exact ⟨⟨k + 1, by omega, by omega, by go_num, by rw [Hr1.out], (bt HB.out Hb3.out).trans hb4, HF4.out⟩, rfl⟩)
              case measure => simp [intOf]; omega
            · have hm4d : ((k : Int) % 8 == 4) = false := by simp; omega
              have Hnz : Hid (nx (V k) k = y.xor x) := by
                have h := Hnx.out
                rw [if_neg hm0, if_neg hm4] at h
                exact h
              have q27 := Lib.hid (qb.out _ HOx.out)
              generalize rcon ((k + 7) / 8 - 1) = r at *
              generalize nx (V k) k = z at *
              clear Hnx hcx
              go_upto_region 16 with fail
              refine gen_world (G := fun W => Code.wp _ _ _ _ W) (I := fun W => Below wr.heap.size wr W ∧ Rd W (some ⟨bx, ox, none⟩) (bvs x.bs)) ⟨b0 _, HRx.out⟩ ?_
              rintro W1 ⟨hbW, hrX⟩
              have HRx1 := Lib.hid hrX
              clear hrX
              have HbW := Lib.hid hbW
              have cRy1 : W1.cell? ⟨rb, ro + (k - 8), none⟩ = some (.slice (some ⟨by', oy, none⟩) 4 cy') := ((bcell hbW).1 _ _ Hrb.out).trans cRy
              have HRy1 := Lib.hid (HRy.out.below hbW)
              clear hbW
              go_wp2_with (first
                | (go_at_call 27; ((with_reducible refine (q27.out _ _ _ HRy1.out HRx1.out).mono ?_)); rintro e w3 ⟨g, c3, rfl, hg1, hg2, hrd3, hb3⟩; have Hb3 : Hid (Below wr.heap.size wr w3) := bt HbW.out hb3; have HSo3 : Hid (w3.ownsRow w.heap.size 27 1 (.slice (some ⟨rb, ro, none⟩) k rc) k S) := own_below HSo.out Hb3.out; have hbase3 : w.heap.size ≤ w3.heap.size := Nat.le_trans hbase Hb3.out.size; have Hg1 : Hid (wr.heap.size ≤ g) := Nat.le_trans HbW.out.size hg1; have Hrd3 := Lib.hid hrd3; have Hg2' := Lib.hid hg2; clear hb3 hg1 hg2 hrd3)
                | (at_builtin; refine apR rfl (.tmp 93) (.tmp 101) rfl w.heap.size _ k S (.slice (some ⟨g, 0, none⟩) 4 c3) rfl HSo3.out rfl rfl (by omega) hbase3 ?_; intro v4 w4 hown4 hb4 hg4 hat4; have Hown4 := Lib.hid hown4; have Hg4 := Lib.hid hg4; have Hat4 := Lib.hid hat4; clear hown4 hg4 hat4))
              have Hcg : Hid (∀ i u, (bvs (y.xor x).bs)[i]? = some u → w3.cell? ⟨g, 0 + i, none⟩ = some u) := fun i u hu => by
                obtain ⟨g', o', he, _, hc'⟩ := Hrd3.out.at_ (by show 0 < 4; decide)
                simp only [Option.some.injEq, Addr.mk.injEq, and_true] at he
                obtain ⟨rfl, rfl⟩ := he
                exact hc' i u hu
              have HF : ∃ S' : List Value, S'.length = k + 1 ∧ w4.ownsRow w.heap.size 27 1 v4 (k + 1) S' ∧ RowsOk w4 S' v4.ownBlock (V (k + 1)) := ⟨S ++ [.slice (some ⟨g, 0, none⟩) 4 c3], by rw [List.length_append, HSl.out]; rfl, Hown4.out, by
                rw [HV.out, Hnz.out]
                exact (((HSr.out.below Hb3.out).snoc (by rw [HSl.out, HL.out]) (fun e => by have h1 := (HSo.out.lt g e.symm).2; have h2 := Hg1.out; omega) Hg2'.out Hcg.out).below (ba (b0 _) _)).grown Hg4.out Hat4.out⟩
              have HF4 := Lib.hid HF
              clear HF
              go_roundw
              case rel => first
                | exact ⟨k + 1, by omega, by omega, by go_num, by rw [Hr1.out], (bt HB.out Hb3.out).trans hb4, HF4.out⟩
                | ((repeat apply Exists.intro); exact ⟨⟨k + 1, by omega, by omega, by go_num, by rw [Hr1.out], (bt HB.out Hb3.out).trans hb4, HF4.out⟩, rfl⟩)
              case measure => simp [intOf]; omega
        · have : k = 60 := by omega
          subst this
          have HK : Hid (V 60 = KW) := HKW.out 60 rfl
          rw [HK.out] at HSr
          have HKl : Hid (KW.length = 60) := by show KW.length = 60; rw [← HK.out, Hlen.out]
          have Hrd : Hid (Rd wr R0 S) := hrd
          clear hrd hrn hrc HSo
          go_wp2_with fail
          go_ret
          exact ⟨R0, rc, S, by rw [HKl.out]; rfl, by rw [HKl.out]; exact HSl.out, Hrd.out, HSr.out.none_, HB.out⟩
end Go.Proofs.Ytiaceoecilinkaa
