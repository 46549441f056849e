/- The law PulseAdds, walked. (Printed by genadds.py.) -/
import Derived.Test.YteieghndpkmobaaOfWalk
import Derived.Test.YteieghndpkmobaaLaterWalk
import Derived.Deep.OwnRows
namespace Go.Proofs.Yteieghndpkmobaa
open Go.RowKit

def half (z : Int) : Prop := 0 ≤ z ∧ z ≤ 524288
def sumL (xa xb : List Int) : List Int := List.zipWith (· + ·) xa xb
theorem sumL_length {xa xb : List Int} (h : xa.length = xb.length) : (sumL xa xb).length = xa.length := by simp [sumL, h]
theorem sumL_getD {xa xb : List Int} (h : xa.length = xb.length) (k : Nat) : (sumL xa xb).getD k 0 = xa.getD k 0 + xb.getD k 0 := by
  by_cases hk : k < xa.length
  · have hk2 : k < xb.length := by omega
    have hk3 : k < (sumL xa xb).length := by rw [sumL_length h]; exact hk
    simp only [List.getD_eq_getElem?_getD, List.getElem?_eq_getElem hk, List.getElem?_eq_getElem hk2, List.getElem?_eq_getElem hk3, Option.getD_some]
    simp [sumL]
  · have hk2 : ¬ k < xb.length := by omega
    have hk3 : ¬ k < (sumL xa xb).length := by rw [sumL_length h]; exact hk
    simp only [List.getD_eq_getElem?_getD, List.getElem?_eq_none (Nat.le_of_not_lt hk), List.getElem?_eq_none (Nat.le_of_not_lt hk2), List.getElem?_eq_none (Nat.le_of_not_lt hk3), Option.getD_none]
    rfl
theorem fs_sumL {xa xb : List Int} (h : xa.length = xb.length) (k m : Nat) : fs (sumL xa xb) k m = fs xa k m + fs xb k m := by
  induction m with
  | zero => rfl
  | succ m ih =>
    rw [fs_succ, fs_succ, fs_succ, ih, sumL_getD h]
    split <;> omega
theorem prt_sumL {xa xb : List Int} (h : xa.length = xb.length) (s m : Nat) : prt (sumL xa xb) s m = ((prt xa s m).1 + (prt xb s m).1, (prt xa s m).2 + (prt xb s m).2) := by
  unfold prt
  simp only [fs_sumL h]
  split
  · simp only [Prod.mk.injEq]; omega
  · split <;> simp only [Prod.mk.injEq] <;> omega
theorem parts_sumL {xa xb : List Int} (h : xa.length = xb.length) (p : Int) : parts (sumL xa xb) p = ((parts xa p).1 + (parts xb p).1, (parts xa p).2.1 + (parts xb p).2.1, (parts xa p).2.2) ∧ (parts xb p).2.2 = (parts xa p).2.2 := by
  unfold parts
  rw [sumL_length h, ← h]
  simp only [prt_sumL h]
  split
  · exact ⟨rfl, rfl⟩
  · split
    · exact ⟨rfl, rfl⟩
    · split
      · exact ⟨rfl, rfl⟩
      · exact ⟨rfl, rfl⟩
theorem parts_bd {l : List Int} (h : okCounts l) (p : Int) : (parts l p).1.natAbs ≤ 4398046511104 ∧ (parts l p).2.1.natAbs ≤ 4398046511104 := by
  have p0 := prt_bd (counts_of h) 0 l.length h.2.1
  have p2 := prt_bd (counts_of h) 2 l.length h.2.1
  have p1 := prt_bd (counts_of h) 1 l.length h.2.1
  unfold parts
  split
  · exact p0
  · split
    · exact p2
    · split
      · exact p1
      · simp
theorem beat_any (b : Nat) (l : List Int) (p : Int) (w : World) (h : IsP w 58 b l) (ok : okCounts l) (re im e0 : Int) (hp : parts l p = (re, im, e0)) :
    Calls Try.prog 12 #[.pointer (some ⟨b, 0, none⟩), .int .i64 p] w fun e w' => e = .returned (.tuple #[.complex .f64 (I re) (I im), .int .i64 e0]) ∧ w = w' := by
  have hl := ok.1
  have hm := ok.2.1
  have hc := counts_of ok
  by_cases h1 : p = 1
  · subst h1
    simp only [parts, if_pos, Prod.mk.injEq] at hp
    obtain ⟨rfl, rfl, rfl⟩ := hp
    exact beat_1 58 b l w h hl hm hc
  · by_cases h2 : p = 2
    · subst h2
      simp only [parts, if_neg h1, if_pos, Prod.mk.injEq] at hp
      obtain ⟨rfl, rfl, rfl⟩ := hp
      exact beat_2 58 b l w h hl hm hc
    · by_cases h4 : p = 4
      · subst h4
        simp only [parts, if_neg h1, if_neg h2, if_pos, Prod.mk.injEq] at hp
        obtain ⟨rfl, rfl, rfl⟩ := hp
        exact beat_4 58 b l w h hl hm hc
      · simp only [parts, if_neg h1, if_neg h2, if_neg h4, Prod.mk.injEq] at hp
        obtain ⟨rfl, rfl, rfl⟩ := hp
        rw [zero_I]
        exact beat_bad 58 b l p w h hl h1 h2 h4
theorem ok_half {xa : List Int} (h1 : 1 ≤ xa.length) (h2 : xa.length ≤ 1048576) (h : ∀ k, k < xa.length → 0 ≤ xa.getD k 0 ∧ xa.getD k 0 ≤ 1048576) : okCounts xa := by
  refine ⟨h1, h2, ?_⟩
  rw [List.any_eq_false]
  intro x hx
  obtain ⟨k, hk, rfl⟩ := List.mem_iff_getElem.1 hx
  have := h k hk
  rw [List.getD_eq_getElem?_getD, List.getElem?_eq_getElem hk] at this
  simp [bad] at this ⊢
  omega
theorem not_ok {xa : List Int} (h : ¬ (1 ≤ xa.length ∧ xa.length ≤ 1048576)) : ¬ okCounts xa := fun k => h ⟨k.1, k.2.1⟩

set_option maxRecDepth 100000 in
set_option maxHeartbeats 2000000 in
theorem adds_lt (w : World) (a : Option Addr) (la ca : Nat) (za : List Int) (hra : Reads w w.heap.size 1 a la (is za)) (ma : la ≤ ca) (ma2 : ca ≤ 17592186043904) (b : Option Addr) (lb cb : Nat) (zb : List Int) (hrb : Reads w w.heap.size 1 b lb (is zb)) (mb : lb ≤ cb) (mb2 : cb ≤ 17592186043904) (t : Int) (hlt : lb < la) :
    Calls Try.prog 6 #[.slice a la ca, .slice b lb cb, .int .i64 t] w fun e w' => e = .returned (.bool true) ∧ Below w.heap.size w w' := by
  have hmk : ∀ W : World, (Instr.makeSlice 22 (.int .i64 ((lb : Nat) : Int)) (.int .i64 ((lb : Nat) : Int))).run Try.prog W = .ok (.slice (some ⟨W.heap.size, 0, none⟩) lb lb) (W.alloc (.cells (madeCells #[.int .i64 0] lb) 3)) := fun W =>
    run_make_row' (P := Try.prog) 22 3 (.int .i64 0) 8 Try.underlying22 Try.info3 rfl .i64 .i64 lb (by omega) (by omega) W
  have hcut : lb ≤ la ∧ lb ≤ lb := by omega
  have hca : lb ≤ ca := by omega
  have hcb : lb ≤ cb := by omega
  have hlza : za.length = la := by have := hra.1; simpa [is] using this
  have hlzb : zb.length = lb := by have := hrb.1; simpa [is] using this
  have XA : Hid (Reads w w.heap.size 1 a lb (is (za.take lb))) := Lib.hid (reads_cut hra hcut.1)
  have XB : Hid (Reads w w.heap.size 1 b lb (is (zb.take lb))) := Lib.hid (reads_cut hrb hcut.2)
  have gA : Hid (∀ k, k < lb → (za.take lb).getD k 0 = za.getD k 0) := Lib.hid (fun k hk => by simp [List.getD_eq_getElem?_getD, List.getElem?_take, hk])
  have gB : Hid (∀ k, k < lb → (zb.take lb).getD k 0 = zb.getD k 0) := Lib.hid (fun k hk => by simp [List.getD_eq_getElem?_getD, List.getElem?_take, hk])
  have lA : Hid ((za.take lb).length = lb) := Lib.hid (by rw [List.length_take]; omega)
  have lB : Hid ((zb.take lb).length = lb) := Lib.hid (by rw [List.length_take]; omega)
  have HA := Lib.hid hra
  have HB := Lib.hid hrb
  clear hra hrb hlza hlzb
  go_enter Try.func6, Try.ntmps6
  go_wp2
  go_loopw [9] (fun vi wr => ∃ k : Nat, k ≤ lb ∧ vi = .int .i64 k ∧ Hid (∀ j, j < k → half (za.getD j 0) ∧ half (zb.getD j 0)) ∧ Hid (wr.rowIs w.heap.size 3 lb (fun j => .int .i64 (if j < k then za.getD j 0 + zb.getD j 0 else 0))) ∧ Hid (Below w.heap.size w wr)) (fun vi _ => lb - (intOf vi).toNat)
  case atStart => exact ⟨0, Nat.zero_le _, rfl, Lib.hid (fun j hj => by omega), Lib.hid (World.rowIs_made w _ _ _), Lib.hid ((Below.refl _ _).alloc (Nat.le_refl _) _)⟩
  case round =>
    obtain ⟨k, hk, rfl, hall, hrow, hbel⟩ := hrel
    by_cases hkn : k < lb
    · obtain ⟨ad, u, rfl, hab, hu, hca'⟩ := (HA.out.below hbel.out).at_ (k := k) (by omega)
      obtain ⟨_, rfl⟩ := is_at hu
      obtain ⟨bd, u, rfl, hbb, hu2, hcb'⟩ := (HB.out.below hbel.out).at_ (k := k) (by omega)
      obtain ⟨_, rfl⟩ := is_at hu2
      have hfz : wr.frozen? ⟨w.heap.size, k, none⟩ = false := hrow.out.frozen _
      have hcl := hrow.out.cell hkn
      obtain ⟨x, hx⟩ : ∃ x, x = za.getD k 0 := ⟨_, rfl⟩
      obtain ⟨y, hy⟩ : ∃ y, y = zb.getD k 0 := ⟨_, rfl⟩
      rw [← hx] at hca'
      rw [← hy] at hcb'
      have HX := Lib.hid hx
      have HY := Lib.hid hy
      clear hu hu2 hx hy hab hbb
      by_cases x0 : x < 0
      · go_wp2_with fail
        refine (lives_any wr).mono ?_
        rintro e w' ⟨rfl, hb1⟩
        have hb2 := hbel.out.trans (hb1.mono hbel.out.size)
        go_wp2
        go_ret
        exact ⟨rfl, hb2⟩
      · by_cases x1 : 524288 < x
        · go_wp2_with fail
          refine (lives_any wr).mono ?_
          rintro e w' ⟨rfl, hb1⟩
          have hb2 := hbel.out.trans (hb1.mono hbel.out.size)
          go_wp2
          go_ret
          exact ⟨rfl, hb2⟩
        · by_cases y0 : y < 0
          · go_wp2_with fail
            refine (lives_any wr).mono ?_
            rintro e w' ⟨rfl, hb1⟩
            have hb2 := hbel.out.trans (hb1.mono hbel.out.size)
            go_wp2
            go_ret
            exact ⟨rfl, hb2⟩
          · by_cases y1 : 524288 < y
            · go_wp2_with fail
              refine (lives_any wr).mono ?_
              rintro e w' ⟨rfl, hb1⟩
              have hb2 := hbel.out.trans (hb1.mono hbel.out.size)
              go_wp2
              go_ret
              exact ⟨rfl, hb2⟩
            · go_wp2
              go_region
              go_wp2
              go_roundw
              case rel =>
                refine ⟨k + 1, by omega, by go_num, Lib.hid (fun j hj => ?_), Lib.hid ((hrow.out.set k (.int .i64 (x + y))).congr (fun j hj => ?_)), Lib.hid (below_drewN (hbel.out.setCell (Nat.le_refl _) _) 1)⟩
                · by_cases e : j = k
                  · subst e
                    rw [← HX.out, ← HY.out]
                    exact ⟨⟨by omega, by omega⟩, ⟨by omega, by omega⟩⟩
                  · exact hall.out j (by omega)
                · by_cases e : j = k
                  · subst e
                    rw [if_pos rfl, if_pos (by omega), HX.out, HY.out]
                  · rw [if_neg e]
                    by_cases e2 : j < k
                    · rw [if_pos e2, if_pos (by omega)]
                    · rw [if_neg e2, if_neg (by omega)]
              case measure => simp [intOf]; omega
    · have ek : k = lb := by omega
      subst k
      have RS : Reads wr wr.heap.size 1 (some ⟨w.heap.size, 0, none⟩) lb (is (sumL (za.take lb) (zb.take lb))) := by
        refine ⟨by simp [is, sumL_length (lA.out.trans lB.out.symm), lA.out], fun h0 => ⟨_, rfl, hrow.out.lt, fun j u hu => ?_⟩⟩
        obtain ⟨hj, rfl⟩ := is_at hu
        rw [sumL_length (lA.out.trans lB.out.symm), lA.out] at hj
        rw [sumL_getD (lA.out.trans lB.out.symm), gA.out j hj, gB.out j hj]
        have := hrow.out.cell hj
        rw [if_pos hj] at this
        have e0 : (⟨w.heap.size, 0, none⟩ : Addr).add j = ⟨w.heap.size, j, none⟩ := by unfold Addr.add; split <;> simp_all
        rw [e0]
        exact this
      have RA := (XA.out.below hbel.out).more hbel.out.size
      have RB := (XB.out.below hbel.out).more hbel.out.size
      by_cases hn : 1 ≤ lb ∧ lb ≤ 1048576
      · have OA : Hid (okCounts (za.take lb)) := Lib.hid (ok_half (by rw [lA.out]; exact hn.1) (by rw [lA.out]; exact hn.2) (fun j hj => by
          rw [lA.out] at hj
          rw [gA.out j hj]
          have := (hall.out j hj).1
          exact ⟨this.1, Int.le_trans this.2 (by omega)⟩))
        have OB : Hid (okCounts (zb.take lb)) := Lib.hid (ok_half (by rw [lB.out]; exact hn.1) (by rw [lB.out]; exact hn.2) (fun j hj => by
          rw [lB.out] at hj
          rw [gB.out j hj]
          have := (hall.out j hj).2
          exact ⟨this.1, Int.le_trans this.2 (by omega)⟩))
        have lS : (sumL (za.take lb) (zb.take lb)).length = lb := by rw [sumL_length (lA.out.trans lB.out.symm), lA.out]
        have OS : Hid (okCounts (sumL (za.take lb) (zb.take lb))) := Lib.hid (ok_half (by rw [lS]; exact hn.1) (by rw [lS]; exact hn.2) (fun j hj => by
          rw [lS] at hj
          rw [sumL_getD (lA.out.trans lB.out.symm), gA.out j hj, gB.out j hj]
          obtain ⟨⟨q1, q2⟩, q3, q4⟩ := hall.out j hj
          omega))
        obtain ⟨PS, PE⟩ := parts_sumL (lA.out.trans lB.out.symm) t
        have dA := parts_bd OA.out t
        have dB := parts_bd OB.out t
        clear lA lB gA gB lS hall XA XB HA HB hrow
        generalize za.take lb = xa at *
        generalize zb.take lb = xb at *
        generalize sumL xa xb = xs at *
        obtain ⟨re, im, e0, hpa⟩ : ∃ re im e0, parts xa t = (re, im, e0) := ⟨_, _, _, rfl⟩
        obtain ⟨re2, im2, e2, hpb⟩ : ∃ re im e0, parts xb t = (re, im, e0) := ⟨_, _, _, rfl⟩
        rw [hpa, hpb] at PS
        rw [hpa, hpb] at PE
        rw [hpa] at dA
        rw [hpb] at dB
        simp only at PS PE dA dB
        subst PE
        have a1 := fun w => add_cplx (P := Try.prog) w 28 (a := re) (b := im) (c := re2) (d := im2) (by omega) (by omega) (by omega) (by omega)
        have g1 := eq_self (a := re + re2) (by omega)
        have g2 := eq_self (a := im + im2) (by omega)
        have BA := Lib.hid (fun bb w h => beat_any bb xa t w h OA.out re im e2 hpa)
        have BB := Lib.hid (fun bb w h => beat_any bb xb t w h OB.out re2 im2 e2 hpb)
        have BS := Lib.hid (fun bb w h => beat_any bb xs t w h OS.out (re + re2) (im + im2) e2 PS)
        have hBW := Lib.hid hbel.out
        have RB' := Lib.hid RB
        have RS' := Lib.hid RS
        clear RB RS hpa hpb PS dA dB hbel
        go_wp2_with fail
        refine (of_yes a lb ca xa wr RA OA.out).mono ?_
        rintro e w1 ⟨p, rfl, hp, hb1⟩
        have hB1 := hBW.out.trans (hb1.mono hBW.out.size)
        have RB2 := (RB'.out.below hb1).more hb1.size
        have RS2 := Lib.hid ((RS'.out.below hb1).more hb1.size)
        clear hb1 hBW RB' RS' RA
        go_wp2_with fail
        refine (of_yes b lb cb xb w1 RB2 OB.out).mono ?_
        rintro e w2 ⟨q, rfl, hq, hb2⟩
        have hB2 := hB1.trans (hb2.mono hB1.size)
        have RS3 := (RS2.out.below hb2).more hb2.size
        have hp2 := hp.below hb2
        clear hb2 hB1 RS2 hp RB2
        go_wp2_with fail
        refine (of_yes _ lb lb xs w2 RS3 OS.out).mono ?_
        rintro e w3 ⟨s, rfl, hs, hb3⟩
        have hB3 := hB2.trans (hb3.mono hB2.size)
        have hp3 := hp2.below hb3
        have hq3 := hq.below hb3
        clear hb3 hB2 RS3 hp2 hq
        go_wp2_with fail
        refine (lives_any w3).mono ?_
        rintro e w4 ⟨rfl, hb4⟩
        have hB4 := hB3.trans (hb4.mono hB3.size)
        have cA := Lib.hid (BA.out p w4 (hp3.below hb4))
        have cB := Lib.hid (BB.out q w4 (hq3.below hb4))
        have cS := Lib.hid (BS.out s w4 (hs.below hb4))
        clear hb4 hB3 hp3 hq3 hs BA BB BS
        go_wp2_with fail
        refine cA.out.mono ?_
        rintro e w' ⟨rfl, rfl⟩
        go_wp2_with fail
        refine cB.out.mono ?_
        rintro e w' ⟨rfl, rfl⟩
        go_wp2_with fail
        refine cS.out.mono ?_
        rintro e w' ⟨rfl, rfl⟩
        go_wp2
        go_ret
        exact ⟨rfl, hB4⟩
      · have NA : Hid (¬ okCounts (za.take lb)) := Lib.hid (not_ok (by rw [lA.out]; exact hn))
        have NB : Hid (¬ okCounts (zb.take lb)) := Lib.hid (not_ok (by rw [lB.out]; exact hn))
        have NS : Hid (¬ okCounts (sumL (za.take lb) (zb.take lb))) := Lib.hid (not_ok (by rw [sumL_length (lA.out.trans lB.out.symm), lA.out]; exact hn))
        clear lA lB gA gB hall XA XB HA HB hrow hn
        generalize za.take lb = xa at *
        generalize zb.take lb = xb at *
        generalize sumL xa xb = xs at *
        have hBW := hbel.out
        clear hbel
        go_wp2_with fail
        refine (of_no a lb ca xa _ wr RA (by omega) NA.out).mono ?_
        rintro e w' ⟨rfl, rfl⟩
        go_wp2_with fail
        refine (of_no b lb cb xb _ wr RB (by omega) NB.out).mono ?_
        rintro e w' ⟨rfl, rfl⟩
        go_wp2_with fail
        refine (of_no _ lb lb xs _ wr RS (by omega) NS.out).mono ?_
        rintro e w' ⟨rfl, rfl⟩
        go_wp2_with fail
        refine (lives_any wr).mono ?_
        rintro e w4 ⟨rfl, hb4⟩
        have hB4 := hBW.trans (hb4.mono hBW.size)
        clear hb4 hBW RA RB RS
        go_wp2
        go_ret
        exact ⟨rfl, hB4⟩

set_option maxRecDepth 100000 in
set_option maxHeartbeats 2000000 in
theorem adds_ge (w : World) (a : Option Addr) (la ca : Nat) (za : List Int) (hra : Reads w w.heap.size 1 a la (is za)) (ma : la ≤ ca) (ma2 : ca ≤ 17592186043904) (b : Option Addr) (lb cb : Nat) (zb : List Int) (hrb : Reads w w.heap.size 1 b lb (is zb)) (mb : lb ≤ cb) (mb2 : cb ≤ 17592186043904) (t : Int) (hlt : ¬ lb < la) :
    Calls Try.prog 6 #[.slice a la ca, .slice b lb cb, .int .i64 t] w fun e w' => e = .returned (.bool true) ∧ Below w.heap.size w w' := by
  have hmk : ∀ W : World, (Instr.makeSlice 22 (.int .i64 ((la : Nat) : Int)) (.int .i64 ((la : Nat) : Int))).run Try.prog W = .ok (.slice (some ⟨W.heap.size, 0, none⟩) la la) (W.alloc (.cells (madeCells #[.int .i64 0] la) 3)) := fun W =>
    run_make_row' (P := Try.prog) 22 3 (.int .i64 0) 8 Try.underlying22 Try.info3 rfl .i64 .i64 la (by omega) (by omega) W
  have hcut : la ≤ la ∧ la ≤ lb := by omega
  have hca : la ≤ ca := by omega
  have hcb : la ≤ cb := by omega
  have hlza : za.length = la := by have := hra.1; simpa [is] using this
  have hlzb : zb.length = lb := by have := hrb.1; simpa [is] using this
  have XA : Hid (Reads w w.heap.size 1 a la (is (za.take la))) := Lib.hid (reads_cut hra hcut.1)
  have XB : Hid (Reads w w.heap.size 1 b la (is (zb.take la))) := Lib.hid (reads_cut hrb hcut.2)
  have gA : Hid (∀ k, k < la → (za.take la).getD k 0 = za.getD k 0) := Lib.hid (fun k hk => by simp [List.getD_eq_getElem?_getD, List.getElem?_take, hk])
  have gB : Hid (∀ k, k < la → (zb.take la).getD k 0 = zb.getD k 0) := Lib.hid (fun k hk => by simp [List.getD_eq_getElem?_getD, List.getElem?_take, hk])
  have lA : Hid ((za.take la).length = la) := Lib.hid (by rw [List.length_take]; omega)
  have lB : Hid ((zb.take la).length = la) := Lib.hid (by rw [List.length_take]; omega)
  have HA := Lib.hid hra
  have HB := Lib.hid hrb
  clear hra hrb hlza hlzb
  go_enter Try.func6, Try.ntmps6
  go_wp2
  go_loopw [9] (fun vi wr => ∃ k : Nat, k ≤ la ∧ vi = .int .i64 k ∧ Hid (∀ j, j < k → half (za.getD j 0) ∧ half (zb.getD j 0)) ∧ Hid (wr.rowIs w.heap.size 3 la (fun j => .int .i64 (if j < k then za.getD j 0 + zb.getD j 0 else 0))) ∧ Hid (Below w.heap.size w wr)) (fun vi _ => la - (intOf vi).toNat)
  case atStart => exact ⟨0, Nat.zero_le _, rfl, Lib.hid (fun j hj => by omega), Lib.hid (World.rowIs_made w _ _ _), Lib.hid ((Below.refl _ _).alloc (Nat.le_refl _) _)⟩
  case round =>
    obtain ⟨k, hk, rfl, hall, hrow, hbel⟩ := hrel
    by_cases hkn : k < la
    · obtain ⟨ad, u, rfl, hab, hu, hca'⟩ := (HA.out.below hbel.out).at_ (k := k) (by omega)
      obtain ⟨_, rfl⟩ := is_at hu
      obtain ⟨bd, u, rfl, hbb, hu2, hcb'⟩ := (HB.out.below hbel.out).at_ (k := k) (by omega)
      obtain ⟨_, rfl⟩ := is_at hu2
      have hfz : wr.frozen? ⟨w.heap.size, k, none⟩ = false := hrow.out.frozen _
      have hcl := hrow.out.cell hkn
      obtain ⟨x, hx⟩ : ∃ x, x = za.getD k 0 := ⟨_, rfl⟩
      obtain ⟨y, hy⟩ : ∃ y, y = zb.getD k 0 := ⟨_, rfl⟩
      rw [← hx] at hca'
      rw [← hy] at hcb'
      have HX := Lib.hid hx
      have HY := Lib.hid hy
      clear hu hu2 hx hy hab hbb
      by_cases x0 : x < 0
      · go_wp2_with fail
        refine (lives_any wr).mono ?_
        rintro e w' ⟨rfl, hb1⟩
        have hb2 := hbel.out.trans (hb1.mono hbel.out.size)
        go_wp2
        go_ret
        exact ⟨rfl, hb2⟩
      · by_cases x1 : 524288 < x
        · go_wp2_with fail
          refine (lives_any wr).mono ?_
          rintro e w' ⟨rfl, hb1⟩
          have hb2 := hbel.out.trans (hb1.mono hbel.out.size)
          go_wp2
          go_ret
          exact ⟨rfl, hb2⟩
        · by_cases y0 : y < 0
          · go_wp2_with fail
            refine (lives_any wr).mono ?_
            rintro e w' ⟨rfl, hb1⟩
            have hb2 := hbel.out.trans (hb1.mono hbel.out.size)
            go_wp2
            go_ret
            exact ⟨rfl, hb2⟩
          · by_cases y1 : 524288 < y
            · go_wp2_with fail
              refine (lives_any wr).mono ?_
              rintro e w' ⟨rfl, hb1⟩
              have hb2 := hbel.out.trans (hb1.mono hbel.out.size)
              go_wp2
              go_ret
              exact ⟨rfl, hb2⟩
            · go_wp2
              go_region
              go_wp2
              go_roundw
              case rel =>
                refine ⟨k + 1, by omega, by go_num, Lib.hid (fun j hj => ?_), Lib.hid ((hrow.out.set k (.int .i64 (x + y))).congr (fun j hj => ?_)), Lib.hid (below_drewN (hbel.out.setCell (Nat.le_refl _) _) 1)⟩
                · by_cases e : j = k
                  · subst e
                    rw [← HX.out, ← HY.out]
                    exact ⟨⟨by omega, by omega⟩, ⟨by omega, by omega⟩⟩
                  · exact hall.out j (by omega)
                · by_cases e : j = k
                  · subst e
                    rw [if_pos rfl, if_pos (by omega), HX.out, HY.out]
                  · rw [if_neg e]
                    by_cases e2 : j < k
                    · rw [if_pos e2, if_pos (by omega)]
                    · rw [if_neg e2, if_neg (by omega)]
              case measure => simp [intOf]; omega
    · have ek : k = la := by omega
      subst k
      have RS : Reads wr wr.heap.size 1 (some ⟨w.heap.size, 0, none⟩) la (is (sumL (za.take la) (zb.take la))) := by
        refine ⟨by simp [is, sumL_length (lA.out.trans lB.out.symm), lA.out], fun h0 => ⟨_, rfl, hrow.out.lt, fun j u hu => ?_⟩⟩
        obtain ⟨hj, rfl⟩ := is_at hu
        rw [sumL_length (lA.out.trans lB.out.symm), lA.out] at hj
        rw [sumL_getD (lA.out.trans lB.out.symm), gA.out j hj, gB.out j hj]
        have := hrow.out.cell hj
        rw [if_pos hj] at this
        have e0 : (⟨w.heap.size, 0, none⟩ : Addr).add j = ⟨w.heap.size, j, none⟩ := by unfold Addr.add; split <;> simp_all
        rw [e0]
        exact this
      have RA := (XA.out.below hbel.out).more hbel.out.size
      have RB := (XB.out.below hbel.out).more hbel.out.size
      by_cases hn : 1 ≤ la ∧ la ≤ 1048576
      · have OA : Hid (okCounts (za.take la)) := Lib.hid (ok_half (by rw [lA.out]; exact hn.1) (by rw [lA.out]; exact hn.2) (fun j hj => by
          rw [lA.out] at hj
          rw [gA.out j hj]
          have := (hall.out j hj).1
          exact ⟨this.1, Int.le_trans this.2 (by omega)⟩))
        have OB : Hid (okCounts (zb.take la)) := Lib.hid (ok_half (by rw [lB.out]; exact hn.1) (by rw [lB.out]; exact hn.2) (fun j hj => by
          rw [lB.out] at hj
          rw [gB.out j hj]
          have := (hall.out j hj).2
          exact ⟨this.1, Int.le_trans this.2 (by omega)⟩))
        have lS : (sumL (za.take la) (zb.take la)).length = la := by rw [sumL_length (lA.out.trans lB.out.symm), lA.out]
        have OS : Hid (okCounts (sumL (za.take la) (zb.take la))) := Lib.hid (ok_half (by rw [lS]; exact hn.1) (by rw [lS]; exact hn.2) (fun j hj => by
          rw [lS] at hj
          rw [sumL_getD (lA.out.trans lB.out.symm), gA.out j hj, gB.out j hj]
          obtain ⟨⟨q1, q2⟩, q3, q4⟩ := hall.out j hj
          omega))
        obtain ⟨PS, PE⟩ := parts_sumL (lA.out.trans lB.out.symm) t
        have dA := parts_bd OA.out t
        have dB := parts_bd OB.out t
        clear lA lB gA gB lS hall XA XB HA HB hrow
        generalize za.take la = xa at *
        generalize zb.take la = xb at *
        generalize sumL xa xb = xs at *
        obtain ⟨re, im, e0, hpa⟩ : ∃ re im e0, parts xa t = (re, im, e0) := ⟨_, _, _, rfl⟩
        obtain ⟨re2, im2, e2, hpb⟩ : ∃ re im e0, parts xb t = (re, im, e0) := ⟨_, _, _, rfl⟩
        rw [hpa, hpb] at PS
        rw [hpa, hpb] at PE
        rw [hpa] at dA
        rw [hpb] at dB
        simp only at PS PE dA dB
        subst PE
        have a1 := fun w => add_cplx (P := Try.prog) w 28 (a := re) (b := im) (c := re2) (d := im2) (by omega) (by omega) (by omega) (by omega)
        have g1 := eq_self (a := re + re2) (by omega)
        have g2 := eq_self (a := im + im2) (by omega)
        have BA := Lib.hid (fun bb w h => beat_any bb xa t w h OA.out re im e2 hpa)
        have BB := Lib.hid (fun bb w h => beat_any bb xb t w h OB.out re2 im2 e2 hpb)
        have BS := Lib.hid (fun bb w h => beat_any bb xs t w h OS.out (re + re2) (im + im2) e2 PS)
        have hBW := Lib.hid hbel.out
        have RB' := Lib.hid RB
        have RS' := Lib.hid RS
        clear RB RS hpa hpb PS dA dB hbel
        go_wp2_with fail
        refine (of_yes a la ca xa wr RA OA.out).mono ?_
        rintro e w1 ⟨p, rfl, hp, hb1⟩
        have hB1 := hBW.out.trans (hb1.mono hBW.out.size)
        have RB2 := (RB'.out.below hb1).more hb1.size
        have RS2 := Lib.hid ((RS'.out.below hb1).more hb1.size)
        clear hb1 hBW RB' RS' RA
        go_wp2_with fail
        refine (of_yes b la cb xb w1 RB2 OB.out).mono ?_
        rintro e w2 ⟨q, rfl, hq, hb2⟩
        have hB2 := hB1.trans (hb2.mono hB1.size)
        have RS3 := (RS2.out.below hb2).more hb2.size
        have hp2 := hp.below hb2
        clear hb2 hB1 RS2 hp RB2
        go_wp2_with fail
        refine (of_yes _ la la xs w2 RS3 OS.out).mono ?_
        rintro e w3 ⟨s, rfl, hs, hb3⟩
        have hB3 := hB2.trans (hb3.mono hB2.size)
        have hp3 := hp2.below hb3
        have hq3 := hq.below hb3
        clear hb3 hB2 RS3 hp2 hq
        go_wp2_with fail
        refine (lives_any w3).mono ?_
        rintro e w4 ⟨rfl, hb4⟩
        have hB4 := hB3.trans (hb4.mono hB3.size)
        have cA := Lib.hid (BA.out p w4 (hp3.below hb4))
        have cB := Lib.hid (BB.out q w4 (hq3.below hb4))
        have cS := Lib.hid (BS.out s w4 (hs.below hb4))
        clear hb4 hB3 hp3 hq3 hs BA BB BS
        go_wp2_with fail
        refine cA.out.mono ?_
        rintro e w' ⟨rfl, rfl⟩
        go_wp2_with fail
        refine cB.out.mono ?_
        rintro e w' ⟨rfl, rfl⟩
        go_wp2_with fail
        refine cS.out.mono ?_
        rintro e w' ⟨rfl, rfl⟩
        go_wp2
        go_ret
        exact ⟨rfl, hB4⟩
      · have NA : Hid (¬ okCounts (za.take la)) := Lib.hid (not_ok (by rw [lA.out]; exact hn))
        have NB : Hid (¬ okCounts (zb.take la)) := Lib.hid (not_ok (by rw [lB.out]; exact hn))
        have NS : Hid (¬ okCounts (sumL (za.take la) (zb.take la))) := Lib.hid (not_ok (by rw [sumL_length (lA.out.trans lB.out.symm), lA.out]; exact hn))
        clear lA lB gA gB hall XA XB HA HB hrow hn
        generalize za.take la = xa at *
        generalize zb.take la = xb at *
        generalize sumL xa xb = xs at *
        have hBW := hbel.out
        clear hbel
        go_wp2_with fail
        refine (of_no a la ca xa _ wr RA (by omega) NA.out).mono ?_
        rintro e w' ⟨rfl, rfl⟩
        go_wp2_with fail
        refine (of_no b la cb xb _ wr RB (by omega) NB.out).mono ?_
        rintro e w' ⟨rfl, rfl⟩
        go_wp2_with fail
        refine (of_no _ la la xs _ wr RS (by omega) NS.out).mono ?_
        rintro e w' ⟨rfl, rfl⟩
        go_wp2_with fail
        refine (lives_any wr).mono ?_
        rintro e w4 ⟨rfl, hb4⟩
        have hB4 := hBW.trans (hb4.mono hBW.size)
        clear hb4 hBW RA RB RS
        go_wp2
        go_ret
        exact ⟨rfl, hB4⟩

theorem pulseAdds_walk (w : World) (a : Option Addr) (la ca : Nat) (za : List Int) (ga : Row w .i64 8 a la ca za) (b : Option Addr) (lb cb : Nat) (zb : List Int) (gb : Row w .i64 8 b lb cb zb) (t : Int) (_ : (Lit.int .i64 t).wf = true) :
    Calls Try.prog 6 #[.slice a la ca, .slice b lb cb, .int .i64 t] w fun e w' => e = .returned (.bool true) ∧ Below w.heap.size w w' := by
  obtain ⟨_, hra, hle, hcap⟩ := ints_of_row ga
  obtain ⟨_, hrb, hle2, hcap2⟩ := ints_of_row gb
  by_cases h : lb < la
  · exact adds_lt w a la ca za hra hle hcap b lb cb zb hrb hle2 hcap2 t h
  · exact adds_ge w a la ca za hra hle hcap b lb cb zb hrb hle2 hcap2 t h
end Go.Proofs.Yteieghndpkmobaa
