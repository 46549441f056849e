/- The reference's Decode: the message of bytes. (Printed by genrefdec.py.) -/
import Derived.Test.YtbekgccecdjdeaaDecode
namespace Go.Proofs.Ytbekgccecdjdeaa
open Go.RowKit

/-- The reference's Decode, on its way. -/
structure Rc (w W : World) (l : List Nat) (i : Nat) (acc : List Opt) (v : Value) : Prop where
  res : Blk W w.heap.size 31 (noMsg.val (.slice none 0 0))
  cur : Blk W (w.heap.size + 1) 31 ((msgOf l acc).val v)
  own : W.ownsRow (w.heap.size + 2) 28 3 v acc.length (os acc)
  bel : Below w.heap.size w W
  par : parse [] (l.drop 240) = parse acc (l.drop i)
  room : acc.length + cnt (l.drop i) ≤ 1048576
  lo : 240 ≤ i
  hi : i ≤ l.length
theorem drop_at (l : List Nat) (i k : Nat) : (l.drop i).getD k 0 = l.getD (i + k) 0 := by simp [List.getD_eq_getElem?_getD]
theorem cell_at {w : World} {B : Nat} {ad : Addr} {l : List Nat} (h : Reads w B 1 (some ad) l.length (bs l)) {i : Nat} (hi : i < l.length) : w.cell? (ad.add i) = some (.int .u8 (l.getD i 0 : Nat)) := by
  obtain ⟨ad2, u, e, _, hu, hc⟩ := h.at_ (k := i) hi
  obtain rfl := Option.some.inj e
  obtain ⟨_, rfl⟩ := bs_at hu
  exact hc

set_option maxRecDepth 1000000 in
set_option maxHeartbeats 8000000 in
theorem refDecode_any (A : Option Addr) (c : Nat) (l : List Nat) (w : World) (hr : Reads w w.heap.size 1 A l.length (bs l)) (h8 : ∀ k, l.getD k 0 ≤ 255) (hc : l.length ≤ c) (hl : l.length ≤ 4398046511104) (hroom : cnt (l.drop 240) ≤ 1048576) :
    Calls Try.prog 11 #[.slice A l.length c] w fun e w' => DecPost w l e w' := by
  have HR := Lib.hid hr
  have H8 := Lib.hid h8
  have HRM := Lib.hid hroom
  clear hr h8 hroom
  go_enter Try.func11, Try.ntmps11
  go_upto_region 1 with (fail)
  generalize hW2 : w.alloc _ = W2
  have HW : Hid (Blk W2 w.heap.size 31 (noMsg.val (.slice none 0 0)) ∧ Below w.heap.size w W2 ∧ W2.heap.size = w.heap.size + 1) := Lib.hid (by
    rw [← hW2]
    exact ⟨Blk.new _ _ _, (Below.refl _ _).alloc (Nat.le_refl _) _, by simp⟩)
  have HR2 := Lib.hid (HR.out.below HW.out.2.1)
  clear hW2
  go_cut [44] (fun s44 wx => s44 = .bool (!headB l) ∧ wx = W2)
  case first =>
    by_cases hL : l.length < 240
    · go_wp2_with fail
      go_meet
      refine ⟨?_, rfl⟩
      have : headB l = false := by
        unfold headB
        rw [show decide (240 ≤ l.length) = false by simp; omega]
        rfl
      rw [this]; rfl
    · obtain ⟨ad, rfl, hab, _⟩ := HR2.out.2 (by omega)
      have k0 := cell_at HR2.out (i := 0) (by omega)
      have k1 := cell_at HR2.out (i := 1) (by omega)
      have k2 := cell_at HR2.out (i := 2) (by omega)
      have k3 := cell_at HR2.out (i := 3) (by omega)
      rw [addr_add0] at k0
      rw [addr_addn _ (by omega)] at k1 k2 k3
      have HX := Lib.hid (headB_ref l H8.out)
      have HN : Hid (Calls Try.prog 18 #[.slice (some ⟨ad.block, ad.off + 236, none⟩) 4 (c - 236)] W2 fun e w' => e = .returned (.int .u64 (numAt l 236 4 : Nat)) ∧ W2 = w') := Lib.hid (by
        have h1 := num_any (some ⟨ad.block, ad.off + 236, none⟩) (c - 236) ((l.drop 236).take 4) W2 (by
          have := part_reads c HR2.out 236 4 (by omega) hc (by omega) (by omega)
          rw [part_length (by omega)]
          exact this.more HW.out.2.1.size) (part_le H8.out 236 4) (by rw [part_length (by omega)]; decide)
        rw [part_length (by omega)] at h1
        exact h1)
      have HL : Hid (240 ≤ l.length) := Lib.hid (by omega)
      have y0 := H8.out 0
      have y1 := H8.out 1
      have y2 := H8.out 2
      have y3 := H8.out 3
      generalize l.getD 0 0 = b0 at *
      generalize l.getD 1 0 = b1 at *
      generalize l.getD 2 0 = b2 at *
      generalize l.getD 3 0 = b3 at *
      have hc36 : (236 : Int) ≤ (c : Int) := by omega
      have hc40 : (240 : Int) ≤ (c : Int) := by omega
      have hcn : c ≠ 236 := by omega
      by_cases q0 : b0 = 1 ∨ b0 = 2
      · by_cases q1 : b1 = 1
        · by_cases q2 : b2 = 6
          · by_cases q3 : b3 = 0
            · subst q1; subst q2; subst q3
              have E : Hid (headB l = decide (numAt l 236 4 = 1669485411)) := Lib.hid (by
                by_cases h : numAt l 236 4 = 1669485411
                · rw [decide_eq_true h]; exact HX.out.2 ⟨HL.out, q0, rfl, rfl, rfl, h⟩
                · rw [decide_eq_false h, Bool.eq_false_iff]; exact fun q => h (HX.out.1 q).2.2.2.2.2)
              generalize numAt l 236 4 = nn at *
              rw [show ((1 : Nat) : Int) = 1 from rfl] at k1
              rw [show ((6 : Nat) : Int) = 6 from rfl] at k2
              rw [show ((0 : Nat) : Int) = 0 from rfl] at k3
              rcases q0 with rfl | rfl
              all_goals
                first | rw [show ((1 : Nat) : Int) = 1 from rfl] at k0 | rw [show ((2 : Nat) : Int) = 2 from rfl] at k0
                clear y0 y1 y2 y3 HX
                go_wp2_with (go_at_call 18; refine HN.out.mono ?_; rintro e w' ⟨rfl, rfl⟩)
                go_meet
                refine ⟨?_, rfl⟩
                rw [E.out]
                simp only [Value.bool.injEq]
                rw [show decide ((l.length : Int) < 240) = false from decide_eq_false (by omega), Bool.false_or]
                by_cases hn : nn = 1669485411
                · subst hn; decide
                · rw [decide_eq_false hn]; exact bne_iff_ne.2 (by omega)
            · subst q1; subst q2
              have E : Hid (headB l = false) := Lib.hid (by
                rw [Bool.eq_false_iff]; intro h; exact q3 (HX.out.1 h).2.2.2.2.1)
              rw [show ((1 : Nat) : Int) = 1 from rfl] at k1
              rw [show ((6 : Nat) : Int) = 6 from rfl] at k2
              rcases q0 with rfl | rfl
              all_goals
                first | rw [show ((1 : Nat) : Int) = 1 from rfl] at k0 | rw [show ((2 : Nat) : Int) = 2 from rfl] at k0
                clear y0 y1 y2 y3 HX
                go_wp2_with fail
                go_meet
                exact ⟨by rw [E.out]; rfl, rfl⟩
          · subst q1
            have E : Hid (headB l = false) := Lib.hid (by
              rw [Bool.eq_false_iff]; intro h; exact q2 (HX.out.1 h).2.2.2.1)
            rw [show ((1 : Nat) : Int) = 1 from rfl] at k1
            rcases q0 with rfl | rfl
            all_goals
              first | rw [show ((1 : Nat) : Int) = 1 from rfl] at k0 | rw [show ((2 : Nat) : Int) = 2 from rfl] at k0
              clear y0 y1 y2 y3 HX
              go_wp2_with fail
              go_meet
              exact ⟨by rw [E.out]; rfl, rfl⟩
        · have E : Hid (headB l = false) := Lib.hid (by
            rw [Bool.eq_false_iff]; intro h; exact q1 (HX.out.1 h).2.2.1)
          rcases q0 with rfl | rfl
          all_goals
            first | rw [show ((1 : Nat) : Int) = 1 from rfl] at k0 | rw [show ((2 : Nat) : Int) = 2 from rfl] at k0
            clear y0 y1 y2 y3 HX
            go_wp2_with fail
            go_meet
            exact ⟨by rw [E.out]; rfl, rfl⟩
      · have E : Hid (headB l = false) := Lib.hid (by
          rw [Bool.eq_false_iff]; intro h; exact q0 (HX.out.1 h).2.1)
        have o1 : b0 ≠ 1 := fun h => q0 (.inl h)
        have o2 : b0 ≠ 2 := fun h => q0 (.inr h)
        clear y0 y1 y2 y3 HX q0
        go_wp2_with fail
        go_meet
        exact ⟨by rw [E.out]; rfl, rfl⟩
  case rest =>
    obtain ⟨rfl, rfl⟩ := hcut
    rcases hh : headB l with _ | _
    · have NO := Lib.hid (dec_no hh)
      have d0 : wc.cell? ⟨w.heap.size, 0, none⟩ = some (.int .i64 0) := HW.out.1.cell 0
      have f0 := HW.out.1.frozen 0
      have d1 : wc.cell? ⟨w.heap.size, 1, none⟩ = some (.int .u32 0) := HW.out.1.cell 1
      have f1 := HW.out.1.frozen 1
      have d2 : wc.cell? ⟨w.heap.size, 2, none⟩ = some (.int .i64 0) := HW.out.1.cell 2
      have f2 := HW.out.1.frozen 2
      have d3 : wc.cell? ⟨w.heap.size, 3, none⟩ = some (.int .i64 0) := HW.out.1.cell 3
      have f3 := HW.out.1.frozen 3
      have d4 : wc.cell? ⟨w.heap.size, 4, none⟩ = some (.int .u32 0) := HW.out.1.cell 4
      have f4 := HW.out.1.frozen 4
      have d5 : wc.cell? ⟨w.heap.size, 5, none⟩ = some (.int .u32 0) := HW.out.1.cell 5
      have f5 := HW.out.1.frozen 5
      have d6 : wc.cell? ⟨w.heap.size, 6, none⟩ = some (.int .u32 0) := HW.out.1.cell 6
      have f6 := HW.out.1.frozen 6
      have d7 : wc.cell? ⟨w.heap.size, 7, none⟩ = some (.int .u32 0) := HW.out.1.cell 7
      have f7 := HW.out.1.frozen 7
      have d8 : wc.cell? ⟨w.heap.size, 8, none⟩ = some (.int .u64 0) := HW.out.1.cell 8
      have f8 := HW.out.1.frozen 8
      have d9 : wc.cell? ⟨w.heap.size, 9, none⟩ = some (.slice none 0 0) := HW.out.1.cell 9
      have f9 := HW.out.1.frozen 9
      go_wp2_with fail
      refine bodyPost_ret (res10 rfl _ _ w.heap.size _ (set10 HW.out.1 _ _ _ _ _ _ _ _ _ _) rfl rfl) rfl ⟨below10 HW.out.2.1 (Nat.le_refl _) _ _ _ _ _ _ _ _ _ _, none, 0, 0, ?_, ?_⟩
      · rw [NO.out]; rfl
      · rw [NO.out]; exact ⟨rfl, fun h => absurd h (by decide)⟩
    · have hL : 240 ≤ l.length := by
        unfold headB at hh
        simp only [Bool.and_eq_true, decide_eq_true_eq] at hh
        exact hh.1.1.1
      have HH := Lib.hid hh
      clear hh
      obtain ⟨ad, rfl, hab, _⟩ := HR2.out.2 (by omega)
      have hcl := cell_at HR2.out (i := 0) (by omega)
      rw [addr_add0] at hcl
      have h8 := H8.out
      have hr2 := HR2.out
      have G : ∀ i n, 0 < i → 0 < n → n ≤ 8 → i + n ≤ l.length → Hid (∀ W', Below w.heap.size w W' → Calls Try.prog 18 #[.slice (some ⟨ad.block, ad.off + i, none⟩) n (c - i)] W' fun e w' => e = .returned (.int .u64 (numAt l i n : Nat)) ∧ W' = w') := by
        intro i n h0 hn hn8 hi
        refine Lib.hid fun W' hb => ?_
        have h1 := num_any (some ⟨ad.block, ad.off + i, none⟩) (c - i) ((l.drop i).take n) W' (by
          have := part_reads (w := W') (B := w.heap.size) c (HR.out.below hb) i n hi hc hn h0
          rw [part_length hi]
          exact this.more hb.size) (part_le h8 i n) (by rw [part_length hi]; exact hn8)
        rw [part_length hi] at h1
        exact h1
      have F : ∀ (i : Nat) (z : Int), z = i → i + 4 ≤ l.length → Hid (∀ W', Below w.heap.size w W' → Calls Try.prog 19 #[.slice (some ad) l.length c, .int .i64 z] W' fun e w' => e = .returned (.int .u32 (numAt l i 4 : Nat)) ∧ W' = w') := by
        intro i z hz hi
        subst hz
        exact Lib.hid fun W' hb => at4_any (some ad) c l i W' ((HR.out.below hb).more hb.size) h8 hi hc hl
      have g4 := F 4 4 rfl (by omega)
      have g8 := G 8 2 (by omega) (by omega) (by omega) (by omega)
      have g10 := G 10 2 (by omega) (by omega) (by omega) (by omega)
      have g12 := F 12 12 rfl (by omega)
      have g16 := F 16 16 rfl (by omega)
      have g20 := F 20 20 rfl (by omega)
      have g24 := F 24 24 rfl (by omega)
      have g28 := G 28 6 (by omega) (by omega) (by omega) (by omega)
      have wb : IntKind.i64.wrap ((l.getD 0 0 : Nat) : Int) = ((l.getD 0 0 : Nat) : Int) := wrap_small (by have := h8 0; omega)
      have w8 : IntKind.i64.wrap ((numAt l 8 2 : Nat) : Int) = ((numAt l 8 2 : Nat) : Int) := wrap_small (by have := numAt_lt h8 (i := 8) (n := 2) (by omega); omega)
      have w10 : IntKind.i64.wrap ((numAt l 10 2 : Nat) : Int) = ((numAt l 10 2 : Nat) : Int) := wrap_small (by have := numAt_lt h8 (i := 10) (n := 2) (by omega); omega)
      have r0 : 0 < l.length := by omega
      have q8 : (8 : Int) ≤ (c : Int) := by omega
      have p8 : c ≠ 8 := by omega
      have r8 : (8 : Int) ≤ (l.length : Int) := by omega
      have q10 : (10 : Int) ≤ (c : Int) := by omega
      have p10 : c ≠ 10 := by omega
      have r10 : (10 : Int) ≤ (l.length : Int) := by omega
      have q12 : (12 : Int) ≤ (c : Int) := by omega
      have q28 : (28 : Int) ≤ (c : Int) := by omega
      have p28 : c ≠ 28 := by omega
      have r28 : (28 : Int) ≤ (l.length : Int) := by omega
      have q34 : (34 : Int) ≤ (c : Int) := by omega
      have p34 : c ≠ 34 := by omega
      have r34 : (34 : Int) ≤ (l.length : Int) := by omega
      have HM : Hid (∀ o v, (msgOf l o).val v = #[.int .i64 (l.getD 0 0 : Nat), .int .u32 (numAt l 4 4 : Nat), .int .i64 (numAt l 8 2 : Nat), .int .i64 (numAt l 10 2 : Nat), .int .u32 (numAt l 12 4 : Nat), .int .u32 (numAt l 16 4 : Nat), .int .u32 (numAt l 20 4 : Nat), .int .u32 (numAt l 24 4 : Nat), .int .u64 (numAt l 28 6 : Nat), v]) := Lib.hid fun o v => rfl
      clear G F h8 hr2
      generalize numAt l 4 4 = n4 at *
      generalize numAt l 8 2 = n8 at *
      generalize numAt l 10 2 = n10 at *
      generalize numAt l 12 4 = n12 at *
      generalize numAt l 16 4 = n16 at *
      generalize numAt l 20 4 = n20 at *
      generalize numAt l 24 4 = n24 at *
      generalize numAt l 28 6 = n28 at *
      generalize l.getD 0 0 = b0 at *
      go_upto_region 3 with (fail)
      have HBW : Below w.heap.size w wc := HW.out.2.1
      have HCE : Hid (∀ W', Below w.heap.size w W' → Below w.heap.size w W' ∧ W'.cell? ad = some (.int .u8 b0)) := Lib.hid fun W' hb => ⟨hb, by rw [← hcl, HBW.cell hab, hb.cell hab]⟩
      have HB := Lib.hid HBW
      clear HBW hcl
      go_cut [4] (fun s4 wx => s4 = .pointer (some ⟨w.heap.size + 1, 0, none⟩) ∧ Hid (Blk wx w.heap.size 31 (noMsg.val (.slice none 0 0)) ∧ Blk wx (w.heap.size + 1) 31 ((msgOf l []).val (.slice none 0 0)) ∧ Below w.heap.size w wx))
      case first =>
        go_region_held3 (fun w' => Below w.heap.size w w' ∧ w'.cell? ad = some (.int .u8 b0))
          (first | (refine HCE.out _ ?_; first | exact redrew HB.out | exact HB.out | exact (redrew HB.out).alloc HB.out.size _ | exact redrew (HB.out.alloc HB.out.size _)) | assumption)
          (first
            | (go_at_call_of 19 (Value.int IntKind.i64 4); ((with_reducible refine (g4.out _ ‹Below w.heap.size w _ ∧ _›.1).mono ?_); rintro e w' ⟨rfl, rfl⟩))
            | (go_at_call 18; ((with_reducible refine (g8.out _ ‹Below w.heap.size w _ ∧ _›.1).mono ?_); rintro e w' ⟨rfl, rfl⟩))
            | (go_at_call 18; ((with_reducible refine (g10.out _ ‹Below w.heap.size w _ ∧ _›.1).mono ?_); rintro e w' ⟨rfl, rfl⟩))
            | (go_at_call_of 19 (Value.int IntKind.i64 12); ((with_reducible refine (g12.out _ ‹Below w.heap.size w _ ∧ _›.1).mono ?_); rintro e w' ⟨rfl, rfl⟩))
            | (go_at_call_of 19 (Value.int IntKind.i64 16); ((with_reducible refine (g16.out _ ‹Below w.heap.size w _ ∧ _›.1).mono ?_); rintro e w' ⟨rfl, rfl⟩))
            | (go_at_call_of 19 (Value.int IntKind.i64 20); ((with_reducible refine (g20.out _ ‹Below w.heap.size w _ ∧ _›.1).mono ?_); rintro e w' ⟨rfl, rfl⟩))
            | (go_at_call_of 19 (Value.int IntKind.i64 24); ((with_reducible refine (g24.out _ ‹Below w.heap.size w _ ∧ _›.1).mono ?_); rintro e w' ⟨rfl, rfl⟩))
            | (go_at_call 18; ((with_reducible refine (g28.out _ ‹Below w.heap.size w _ ∧ _›.1).mono ?_); rintro e w' ⟨rfl, rfl⟩)))
        all_goals
          go_wp2_with fail
          go_meet
          refine ⟨by rw [HW.out.2.2], Lib.hid ⟨(HW.out.1.alloc _).drew, ?_, redrew (HB.out.alloc HB.out.size _)⟩⟩
          rw [HM.out]
          have hn := Blk.new wc 31 #[.int .i64 b0, .int .u32 n4, .int .i64 n8, .int .i64 n10, .int .u32 n12, .int .u32 n16, .int .u32 n20, .int .u32 n24, .int .u64 n28, .slice none 0 0]
          rw [HW.out.2.2] at hn
          exact hn.drew
      case rest =>
        obtain ⟨rfl, HC⟩ := hcut
        clear g4 g8 g10 g12 g16 g20 g24 g28 wb w8 w10 HCE q8 p8 r8 q10 p10 r10 q12 q28 p28 r28 q34 p34 r34 HM HR2 HW HB
        go_wp2_with fail
        go_loopw [5] (fun iv wr => ∃ (i : Nat) (acc : List Opt) (v : Value), iv = .int .i64 i ∧ Hid (Rc w wr l i acc v)) (fun iv _ => l.length - (intOf iv).toNat)
        case atStart => exact ⟨240, [], .slice none 0 0, rfl, Lib.hid ⟨HC.out.1, HC.out.2.1, World.ownsRow_nil _ _ 28 3, HC.out.2.2, rfl, by simpa using HRM.out, Nat.le_refl _, hL⟩⟩
        case round =>
          obtain ⟨i, acc, v, rfl, hst⟩ := hrel
          have hlo := hst.out.lo
          have hhi := hst.out.hi
          clear HC
          by_cases hi : i < l.length
          · have k0 := cell_at HR.out hi
            rw [← hst.out.bel.cell (by rw [block_of_add]; exact hab)] at k0
            have y0 := H8.out i
            have hr0 : 0 < (l.drop i).length := by rw [List.length_drop]; omega
            have G0 : Hid ((l.drop i).getD 0 0 = l.getD i 0) := Lib.hid (drop_at l i 0)
            have HR0 := Lib.hid hr0
            clear hr0
            by_cases h255 : l.getD i 0 = 255
            · obtain ⟨M, hM⟩ : ∃ M, M = msgOf l acc := ⟨_, rfl⟩
              obtain ⟨Av, cv, rfl, _⟩ := own_slice hst.out.own
              have YES : Hid (dec l = (M, 0)) := Lib.hid (by rw [hM]; exact dec_yes HH.out (hst.out.par.trans (parse_end acc HR0.out (G0.out.trans h255))))
              have HAC : Hid (M.opts = acc) := Lib.hid (by rw [hM]; rfl)
              rw [h255] at k0
              rw [show ((255 : Nat) : Int) = 255 from rfl] at k0
              have c0 : wr.cell? ⟨w.heap.size + 1, 0, none⟩ = some (.int .i64 M.op) := by rw [hM]; exact hst.out.cur.cell 0
              have c1 : wr.cell? ⟨w.heap.size + 1, 1, none⟩ = some (.int .u32 M.xid) := by rw [hM]; exact hst.out.cur.cell 1
              have c2 : wr.cell? ⟨w.heap.size + 1, 2, none⟩ = some (.int .i64 M.secs) := by rw [hM]; exact hst.out.cur.cell 2
              have c3 : wr.cell? ⟨w.heap.size + 1, 3, none⟩ = some (.int .i64 M.flags) := by rw [hM]; exact hst.out.cur.cell 3
              have c4 : wr.cell? ⟨w.heap.size + 1, 4, none⟩ = some (.int .u32 M.ci) := by rw [hM]; exact hst.out.cur.cell 4
              have c5 : wr.cell? ⟨w.heap.size + 1, 5, none⟩ = some (.int .u32 M.yi) := by rw [hM]; exact hst.out.cur.cell 5
              have c6 : wr.cell? ⟨w.heap.size + 1, 6, none⟩ = some (.int .u32 M.si) := by rw [hM]; exact hst.out.cur.cell 6
              have c7 : wr.cell? ⟨w.heap.size + 1, 7, none⟩ = some (.int .u32 M.gi) := by rw [hM]; exact hst.out.cur.cell 7
              have c8 : wr.cell? ⟨w.heap.size + 1, 8, none⟩ = some (.int .u64 M.ch) := by rw [hM]; exact hst.out.cur.cell 8
              have c9 : wr.cell? ⟨w.heap.size + 1, 9, none⟩ = some (.slice Av acc.length cv) := hst.out.cur.cell 9
              have d0 : wr.cell? ⟨w.heap.size, 0, none⟩ = some (.int .i64 0) := hst.out.res.cell 0
              have f0 := hst.out.res.frozen 0
              have d1 : wr.cell? ⟨w.heap.size, 1, none⟩ = some (.int .u32 0) := hst.out.res.cell 1
              have f1 := hst.out.res.frozen 1
              have d2 : wr.cell? ⟨w.heap.size, 2, none⟩ = some (.int .i64 0) := hst.out.res.cell 2
              have f2 := hst.out.res.frozen 2
              have d3 : wr.cell? ⟨w.heap.size, 3, none⟩ = some (.int .i64 0) := hst.out.res.cell 3
              have f3 := hst.out.res.frozen 3
              have d4 : wr.cell? ⟨w.heap.size, 4, none⟩ = some (.int .u32 0) := hst.out.res.cell 4
              have f4 := hst.out.res.frozen 4
              have d5 : wr.cell? ⟨w.heap.size, 5, none⟩ = some (.int .u32 0) := hst.out.res.cell 5
              have f5 := hst.out.res.frozen 5
              have d6 : wr.cell? ⟨w.heap.size, 6, none⟩ = some (.int .u32 0) := hst.out.res.cell 6
              have f6 := hst.out.res.frozen 6
              have d7 : wr.cell? ⟨w.heap.size, 7, none⟩ = some (.int .u32 0) := hst.out.res.cell 7
              have f7 := hst.out.res.frozen 7
              have d8 : wr.cell? ⟨w.heap.size, 8, none⟩ = some (.int .u64 0) := hst.out.res.cell 8
              have f8 := hst.out.res.frozen 8
              have d9 : wr.cell? ⟨w.heap.size, 9, none⟩ = some (.slice none 0 0) := hst.out.res.cell 9
              have f9 := hst.out.res.frozen 9
              have HM : Hid (M = msgOf l acc) := Lib.hid hM
              clear hM h255 y0
              go_wp2_with fail
              refine bodyPost_ret (res10 rfl _ _ w.heap.size _ (set10 hst.out.res _ _ _ _ _ _ _ _ _ _) rfl rfl) rfl ⟨below10 hst.out.bel (Nat.le_refl _) _ _ _ _ _ _ _ _ _ _, Av, acc.length, cv, ?_, ?_⟩
              · rw [YES.out]; rfl
              · rw [YES.out]; simp only [HAC.out]; exact Reads.of_own (own10 hst.out.own (by omega) _ _ _ _ _ _ _ _ _ _)
            · by_cases hz : l.getD i 0 = 0
              · have PZ := Lib.hid (parse_zero acc HR0.out (G0.out.trans hz))
                have CZ := Lib.hid (cnt_zero HR0.out (G0.out.trans hz))
                rw [hz] at k0
                rw [show ((0 : Nat) : Int) = 0 from rfl] at k0
                clear h255 hz y0
                go_wp2_with fail
                refine ⟨⟨i + 1, acc, v, by go_num, Lib.hid ?_⟩, by simp [intOf]; omega⟩
                have Z := hst.out
                have e1 : (l.drop i).drop 1 = l.drop (i + 1) := by rw [List.drop_drop]
                exact ⟨Z.res, Z.cur, Z.own, Z.bel, by rw [Z.par, PZ.out, e1], by rw [← e1, ← CZ.out]; exact Z.room, by omega, by omega⟩
              · by_cases h3 : l.length ≤ i + 1 ∨ l.length < i + 2 + l.getD (i + 1) 0
                · have NO : Hid (dec l = (noMsg, 60)) := Lib.hid (dec_bad (hst.out.par.trans (parse_short acc HR0.out (fun h => h255 (G0.out.symm.trans h)) (fun h => hz (G0.out.symm.trans h)) (by rw [drop_at, List.length_drop]; omega))))
                  have d0 : wr.cell? ⟨w.heap.size, 0, none⟩ = some (.int .i64 0) := hst.out.res.cell 0
                  have f0 := hst.out.res.frozen 0
                  have d1 : wr.cell? ⟨w.heap.size, 1, none⟩ = some (.int .u32 0) := hst.out.res.cell 1
                  have f1 := hst.out.res.frozen 1
                  have d2 : wr.cell? ⟨w.heap.size, 2, none⟩ = some (.int .i64 0) := hst.out.res.cell 2
                  have f2 := hst.out.res.frozen 2
                  have d3 : wr.cell? ⟨w.heap.size, 3, none⟩ = some (.int .i64 0) := hst.out.res.cell 3
                  have f3 := hst.out.res.frozen 3
                  have d4 : wr.cell? ⟨w.heap.size, 4, none⟩ = some (.int .u32 0) := hst.out.res.cell 4
                  have f4 := hst.out.res.frozen 4
                  have d5 : wr.cell? ⟨w.heap.size, 5, none⟩ = some (.int .u32 0) := hst.out.res.cell 5
                  have f5 := hst.out.res.frozen 5
                  have d6 : wr.cell? ⟨w.heap.size, 6, none⟩ = some (.int .u32 0) := hst.out.res.cell 6
                  have f6 := hst.out.res.frozen 6
                  have d7 : wr.cell? ⟨w.heap.size, 7, none⟩ = some (.int .u32 0) := hst.out.res.cell 7
                  have f7 := hst.out.res.frozen 7
                  have d8 : wr.cell? ⟨w.heap.size, 8, none⟩ = some (.int .u64 0) := hst.out.res.cell 8
                  have f8 := hst.out.res.frozen 8
                  have d9 : wr.cell? ⟨w.heap.size, 9, none⟩ = some (.slice none 0 0) := hst.out.res.cell 9
                  have f9 := hst.out.res.frozen 9
                  by_cases h2 : l.length ≤ i + 1
                  · have h4 : (l.length : Int) ≤ (i : Int) + 1 := by omega
                    clear h3 h2
                    generalize l.getD i 0 = b0 at *
                    go_wp2_with fail
                    refine bodyPost_ret (res10 rfl _ _ w.heap.size _ (set10 hst.out.res _ _ _ _ _ _ _ _ _ _) rfl rfl) rfl ⟨below10 hst.out.bel (Nat.le_refl _) _ _ _ _ _ _ _ _ _ _, none, 0, 0, ?_, ?_⟩
                    · rw [NO.out]; rfl
                    · rw [NO.out]; exact ⟨rfl, fun h => absurd h (by decide)⟩
                  · have k1 := cell_at HR.out (i := i + 1) (by omega)
                    rw [← hst.out.bel.cell (by rw [block_of_add]; exact hab), addr_addn _ (by omega)] at k1
                    have hlt : (l.length : Int) < (i : Int) + 2 + ((l.getD (i + 1) 0 : Nat) : Int) := by omega
                    have h4 : (i : Int) + 1 < (l.length : Int) := by omega
                    have y1 := H8.out (i + 1)
                    clear h3 h2
                    generalize l.getD i 0 = b0 at *
                    generalize l.getD (i + 1) 0 = b1 at *
                    go_wp2_with fail
                    refine bodyPost_ret (res10 rfl _ _ w.heap.size _ (set10 hst.out.res _ _ _ _ _ _ _ _ _ _) rfl rfl) rfl ⟨below10 hst.out.bel (Nat.le_refl _) _ _ _ _ _ _ _ _ _ _, none, 0, 0, ?_, ?_⟩
                    · rw [NO.out]; rfl
                    · rw [NO.out]; exact ⟨rfl, fun h => absurd h (by decide)⟩
                · have k1 := cell_at HR.out (i := i + 1) (by omega)
                  rw [← hst.out.bel.cell (by rw [block_of_add]; exact hab), addr_addn _ (by omega)] at k1
                  have hfit : i + 2 + l.getD (i + 1) 0 ≤ l.length := by omega
                  have hge : i + 2 ≤ l.length := by omega
                  have PM0 := parse_more acc (r := l.drop i) (by rw [List.length_drop]; omega) (fun h => h255 (G0.out.symm.trans h)) (fun h => hz (G0.out.symm.trans h)) (by rw [drop_at, List.length_drop]; omega)
                  have CM0 := cnt_more (r := l.drop i) (by rw [List.length_drop]; omega) (fun h => h255 (G0.out.symm.trans h)) (fun h => hz (G0.out.symm.trans h)) (by rw [drop_at, List.length_drop]; omega)
                  rw [drop_at, drop_at, List.drop_drop, List.drop_drop, Nat.add_zero] at PM0
                  rw [drop_at, List.drop_drop] at CM0
                  have PM := Lib.hid PM0
                  have CM := Lib.hid CM0
                  clear PM0 CM0 G0
                  have y1 := H8.out (i + 1)
                  have DS : Hid (∀ W', Below (w.heap.size + 2) wr W' → (convert 37 9 (.slice (if c = i + 2 then some ad else some ⟨ad.block, ad.off + (i + 2), none⟩) (l.getD (i + 1) 0) (c - (i + 2)))).run Try.prog W' = .ok (.string (strOf ((l.drop (i + 2)).take (l.getD (i + 1) 0)))) W') := Lib.hid (by
                    intro W' hb
                    rcases Nat.eq_zero_or_pos (l.getD (i + 1) 0) with hn | hn
                    · rw [hn]
                      have h0 : Reads W' W'.heap.size 1 (if c = i + 2 then some ad else some ⟨ad.block, ad.off + (i + 2), none⟩) 0 (bs []) := ⟨rfl, fun h => absurd h (by omega)⟩
                      exact run_bytes_str Try.underlying37 Try.underlying5 Try.underlying9 (c - (i + 2)) h0
                    · have h1 := reads_part (i := i + 2) (n := l.getD (i + 1) 0) ((HR.out.below hst.out.bel).below (hb.mono (by omega))) (by omega) c hc hn
                      rw [part_length (by omega), Nat.mul_one] at h1
                      exact run_bytes_str Try.underlying37 Try.underlying5 Try.underlying9 (c - (i + 2)) h1)
                  generalize hq : (l.drop (i + 2)).take (l.getD (i + 1) 0) = q at *
                  generalize l.getD i 0 = b0 at *
                  generalize l.getD (i + 1) 0 = b1 at *
                  have c9 : wr.cell? ⟨w.heap.size + 1, 9, none⟩ = some v := hst.out.cur.cell 9
                  have f9 := hst.out.cur.frozen 9
                  clear h3 hq
                  have HS : Hid (∀ W', Below (w.heap.size + 2) wr W' → W'.cell? ⟨w.heap.size + 1, 9, none⟩ = some v ∧ W'.cell? (ad.add i) = some (.int .u8 b0) ∧ W'.cell? ⟨ad.block, ad.off + (i + 1), none⟩ = some (.int .u8 b1) ∧ (convert 37 9 (.slice (if c = i + 2 then some ad else some ⟨ad.block, ad.off + (i + 2), none⟩) b1 (c - (i + 2)))).run Try.prog W' = .ok (.string (strOf q)) W') := Lib.hid fun W' hb =>
                    ⟨(hb.cell (by simp)).trans c9, (hb.cell (by rw [block_of_add]; omega)).trans k0, (hb.cell (by simp only; omega)).trans k1, DS.out W' hb⟩
                  clear DS
                  have hsz : w.heap.size + 2 ≤ wr.heap.size := hst.out.cur.lt
                  have HSZ := Lib.hid hsz
                  clear hsz
                  go_wp2_with fail
                  refine wp_region_last (S := fun w' => Below (w.heap.size + 2) wr w') 25 (by kernel_rfl) ?_
                  obtain ⟨w0, hw0⟩ : ∃ w0, w0 = wr.drew := ⟨_, rfl⟩
                  have hHeld : Below (w.heap.size + 2) wr w0 := by rw [hw0]; exact redrew (Below.refl _ _)
                  have OW : Hid (w0.ownsRow (w.heap.size + 2) 28 3 v acc.length (os acc)) := Lib.hid (by rw [hw0]; exact hst.out.own.drew)
                  rw [← hw0]
                  clear hw0 c9 f9
                  have hw1 : IntKind.i64.wrap (b1 : Int) = (b1 : Int) := wrap_small (by omega)
                  have hw2 : IntKind.i64.wrap ((i : Int) + 2) = (i : Int) + 2 := by have := wrap_small (x := i + 2) (by omega); simpa using this
                  have hw4 : IntKind.i64.wrap ((i : Int) + 1) = (i : Int) + 1 := by have := wrap_small (x := i + 1) (by omega); simpa using this
                  have hwa : IntKind.i64.wrap ((i : Int) + 2 + (b1 : Int)) = (i : Int) + 2 + (b1 : Int) := by have := wrap_small (x := i + 2 + b1) (by omega); simpa using this
                  have hw6 : IntKind.i64.wrap (b0 : Int) = (b0 : Int) := wrap_small (by omega)
                  have hw3 : ((i : Int) + 2 + (b1 : Int)).toNat = i + 2 + b1 := by omega
                  have hwb : ((i : Int) + 2).toNat = i + 2 := by omega
                  have hwc : ((i : Int) + 1).toNat = i + 1 := by omega
                  have hw5 : max ((i : Int) + 2 + (b1 : Int)) 0 = (i : Int) + 2 + (b1 : Int) := by omega
                  have hwj : max ((i : Int) + 2) 0 = (i : Int) + 2 := by omega
                  have hwd : (0 : Int) ≤ (i : Int) + 2 := by omega
                  have hwe : (0 : Int) ≤ (i : Int) + 1 := by omega
                  have hwf : (i : Int) + 1 < (l.length : Int) := by omega
                  have hwh : (i : Int) + 2 ≤ (i : Int) + 2 + (b1 : Int) := by omega
                  have hw7 : (0 : Int) ≤ (i : Int) + 2 + (b1 : Int) := by omega
                  have hw8 : (i : Int) + 2 + (b1 : Int) ≤ (c : Int) := by omega
                  have hwi : i + 2 + b1 - (i + 2) = b1 := by omega
                  refine upToLast.take (i := 0) (oi := ⟨some 108, _, _, _, _, _⟩) (v := ?_) rfl (by kernel_rfl) (by kernel_rfl) (by kernel_rfl) (by kernel_rfl) (fun _ _ _ h => h) (by decide) (Or.inl ⟨by rfl, ?_⟩) hHeld ?_
                  rotate_left 1
                  · (intro w hSw; obtain ⟨S1, S2, S3, S4⟩ := HS.out w hSw; clear hSw; go_simp; try with_reducible rfl)
                  try simp only [Act.put, List.setIfInBounds_toArray, List.set_cons_zero, List.set_cons_succ]
                  refine upToLast.take (i := 1) (oi := ⟨some 109, _, _, _, _, _⟩) (v := ?_) rfl (by kernel_rfl) (by kernel_rfl) (by kernel_rfl) (by kernel_rfl) (fun _ _ _ h => h) (by decide) (Or.inl ⟨by rfl, ?_⟩) hHeld ?_
                  rotate_left 1
                  · (intro w hSw; obtain ⟨S1, S2, S3, S4⟩ := HS.out w hSw; clear hSw; go_simp; try with_reducible rfl)
                  try simp only [Act.put, List.setIfInBounds_toArray, List.set_cons_zero, List.set_cons_succ]
                  refine upToLast.take (i := 2) (oi := ⟨some 110, _, _, _, _, _⟩) (v := ?_) rfl (by kernel_rfl) (by kernel_rfl) (by kernel_rfl) (by kernel_rfl) (fun _ _ _ h => h) (by decide) (Or.inl ⟨by rfl, ?_⟩) hHeld ?_
                  rotate_left 1
                  · (intro w hSw; obtain ⟨S1, S2, S3, S4⟩ := HS.out w hSw; clear hSw; go_simp; try with_reducible rfl)
                  try simp only [Act.put, List.setIfInBounds_toArray, List.set_cons_zero, List.set_cons_succ]
                  refine upToLast.take (i := 3) (oi := ⟨some 111, _, _, _, _, _⟩) (v := ?_) rfl (by kernel_rfl) (by kernel_rfl) (by kernel_rfl) (by kernel_rfl) (fun _ _ _ h => h) (by decide) (Or.inl ⟨by rfl, ?_⟩) hHeld ?_
                  rotate_left 1
                  · (intro w hSw; obtain ⟨S1, S2, S3, S4⟩ := HS.out w hSw; clear hSw; go_simp; try with_reducible rfl)
                  try simp only [Act.put, List.setIfInBounds_toArray, List.set_cons_zero, List.set_cons_succ]
                  refine upToLast.take (i := 4) (oi := ⟨some 112, _, _, _, _, _⟩) (v := ?_) rfl (by kernel_rfl) (by kernel_rfl) (by kernel_rfl) (by kernel_rfl) (fun _ _ _ h => h) (by decide) (Or.inl ⟨by rfl, ?_⟩) hHeld ?_
                  rotate_left 1
                  · (intro w hSw; obtain ⟨S1, S2, S3, S4⟩ := HS.out w hSw; clear hSw; go_simp; try with_reducible rfl)
                  try simp only [Act.put, List.setIfInBounds_toArray, List.set_cons_zero, List.set_cons_succ]
                  refine upToLast.take (i := 5) (oi := ⟨some 113, _, _, _, _, _⟩) (v := ?_) rfl (by kernel_rfl) (by kernel_rfl) (by kernel_rfl) (by kernel_rfl) (fun _ _ _ h => h) (by decide) (Or.inl ⟨by rfl, ?_⟩) hHeld ?_
                  rotate_left 1
                  · (intro w hSw; obtain ⟨S1, S2, S3, S4⟩ := HS.out w hSw; clear hSw; go_simp; try with_reducible rfl)
                  try simp only [Act.put, List.setIfInBounds_toArray, List.set_cons_zero, List.set_cons_succ]
                  refine upToLast.take (i := 6) (oi := ⟨some 114, _, _, _, _, _⟩) (v := ?_) rfl (by kernel_rfl) (by kernel_rfl) (by kernel_rfl) (by kernel_rfl) (fun _ _ _ h => h) (by decide) (Or.inl ⟨by rfl, ?_⟩) hHeld ?_
                  rotate_left 1
                  · (intro w hSw; obtain ⟨S1, S2, S3, S4⟩ := HS.out w hSw; clear hSw; go_simp; try with_reducible rfl)
                  try simp only [Act.put, List.setIfInBounds_toArray, List.set_cons_zero, List.set_cons_succ]
                  refine upToLast.take (i := 7) (oi := ⟨some 115, _, _, _, _, _⟩) (v := ?_) rfl (by kernel_rfl) (by kernel_rfl) (by kernel_rfl) (by kernel_rfl) (fun _ _ _ h => h) (by decide) (Or.inl ⟨by rfl, ?_⟩) hHeld ?_
                  rotate_left 1
                  · (intro w hSw; obtain ⟨S1, S2, S3, S4⟩ := HS.out w hSw; clear hSw; go_simp; try with_reducible rfl)
                  try simp only [Act.put, List.setIfInBounds_toArray, List.set_cons_zero, List.set_cons_succ]
                  refine upToLast.take (i := 8) (oi := ⟨some 116, _, _, _, _, _⟩) (v := ?_) rfl (by kernel_rfl) (by kernel_rfl) (by kernel_rfl) (by kernel_rfl) (fun _ _ _ h => h) (by decide) (Or.inl ⟨by rfl, ?_⟩) hHeld ?_
                  rotate_left 1
                  · (intro w hSw; obtain ⟨S1, S2, S3, S4⟩ := HS.out w hSw; clear hSw; go_simp; try with_reducible rfl)
                  try simp only [Act.put, List.setIfInBounds_toArray, List.set_cons_zero, List.set_cons_succ]
                  refine upToLast.take (i := 9) (oi := ⟨some 117, _, _, _, _, _⟩) (v := ?_) rfl (by kernel_rfl) (by kernel_rfl) (by kernel_rfl) (by kernel_rfl) (fun _ _ _ h => h) (by decide) (Or.inl ⟨by rfl, ?_⟩) hHeld ?_
                  rotate_left 1
                  · (intro w hSw; obtain ⟨S1, S2, S3, S4⟩ := HS.out w hSw; clear hSw; go_simp; try with_reducible rfl)
                  try simp only [Act.put, List.setIfInBounds_toArray, List.set_cons_zero, List.set_cons_succ]
                  refine upToLast.take (i := 10) (oi := ⟨some 118, _, _, _, _, _⟩) (v := ?_) rfl (by kernel_rfl) (by kernel_rfl) (by kernel_rfl) (by kernel_rfl) (fun _ _ _ h => h) (by decide) (Or.inl ⟨by rfl, ?_⟩) hHeld ?_
                  rotate_left 1
                  · (intro w hSw; obtain ⟨S1, S2, S3, S4⟩ := HS.out w hSw; clear hSw; go_simp; try with_reducible rfl)
                  try simp only [Act.put, List.setIfInBounds_toArray, List.set_cons_zero, List.set_cons_succ]
                  refine upToLast.take (i := 11) (oi := ⟨some 119, _, _, _, _, _⟩) (v := ?_) rfl (by kernel_rfl) (by kernel_rfl) (by kernel_rfl) (by kernel_rfl) (fun _ _ _ h => h) (by decide) (Or.inl ⟨by rfl, ?_⟩) hHeld ?_
                  rotate_left 1
                  · (intro w hSw; obtain ⟨S1, S2, S3, S4⟩ := HS.out w hSw; clear hSw; go_simp; try with_reducible rfl)
                  try simp only [Act.put, List.setIfInBounds_toArray, List.set_cons_zero, List.set_cons_succ]
                  refine upToLast.take (i := 12) (oi := ⟨some 120, _, _, _, _, _⟩) (v := ?_) rfl (by kernel_rfl) (by kernel_rfl) (by kernel_rfl) (by kernel_rfl) (fun _ _ _ h => h) (by decide) (Or.inl ⟨by rfl, ?_⟩) hHeld ?_
                  rotate_left 1
                  · (intro w hSw; obtain ⟨S1, S2, S3, S4⟩ := HS.out w hSw; clear hSw; go_simp; try with_reducible rfl)
                  try simp only [Act.put, List.setIfInBounds_toArray, List.set_cons_zero, List.set_cons_succ]
                  refine upToLast.take (i := 13) (oi := ⟨some 121, _, _, _, _, _⟩) (v := ?_) rfl (by kernel_rfl) (by kernel_rfl) (by kernel_rfl) (by kernel_rfl) (fun _ _ _ h => h) (by decide) (Or.inl ⟨by rfl, ?_⟩) hHeld ?_
                  rotate_left 1
                  · (intro w hSw; obtain ⟨S1, S2, S3, S4⟩ := HS.out w hSw; clear hSw; go_simp; try with_reducible rfl)
                  try simp only [Act.put, List.setIfInBounds_toArray, List.set_cons_zero, List.set_cons_succ]
                  refine upToLast.take (i := 14) (oi := ⟨some 122, _, _, _, _, _⟩) (v := ?_) rfl (by kernel_rfl) (by kernel_rfl) (by kernel_rfl) (by kernel_rfl) (fun _ _ _ h => h) (by decide) (Or.inl ⟨by rfl, ?_⟩) hHeld ?_
                  rotate_left 1
                  · (intro w hSw; obtain ⟨S1, S2, S3, S4⟩ := HS.out w hSw; clear hSw; go_simp; try with_reducible rfl)
                  try simp only [Act.put, List.setIfInBounds_toArray, List.set_cons_zero, List.set_cons_succ]
                  refine upToLast.take (i := 15) (oi := ⟨some 123, _, _, _, _, _⟩) (v := ?_) rfl (by kernel_rfl) (by kernel_rfl) (by kernel_rfl) (by kernel_rfl) (fun _ _ _ h => h) (by decide) (Or.inl ⟨by rfl, ?_⟩) hHeld ?_
                  rotate_left 1
                  · (intro w hSw; obtain ⟨S1, S2, S3, S4⟩ := HS.out w hSw; clear hSw; go_simp; try with_reducible rfl)
                  try simp only [Act.put, List.setIfInBounds_toArray, List.set_cons_zero, List.set_cons_succ]
                  refine upToLast.take (i := 16) (oi := ⟨some 124, _, _, _, _, _⟩) (v := ?_) rfl (by kernel_rfl) (by kernel_rfl) (by kernel_rfl) (by kernel_rfl) (fun _ _ _ h => h) (by decide) (Or.inl ⟨by rfl, ?_⟩) hHeld ?_
                  rotate_left 1
                  · (intro w hSw; obtain ⟨S1, S2, S3, S4⟩ := HS.out w hSw; clear hSw; go_simp; try with_reducible rfl)
                  try simp only [Act.put, List.setIfInBounds_toArray, List.set_cons_zero, List.set_cons_succ]
                  refine upToLast.take (i := 17) (oi := ⟨some 125, _, _, _, _, _⟩) (v := ?_) rfl (by kernel_rfl) (by kernel_rfl) (by kernel_rfl) (by kernel_rfl) (fun _ _ _ h => h) (by decide) (Or.inl ⟨by rfl, ?_⟩) hHeld ?_
                  rotate_left 1
                  · (intro w hSw; obtain ⟨S1, S2, S3, S4⟩ := HS.out w hSw; clear hSw; go_simp; try with_reducible rfl)
                  try simp only [Act.put, List.setIfInBounds_toArray, List.set_cons_zero, List.set_cons_succ]
                  refine upToLast.take (i := 18) (oi := ⟨some 126, _, _, _, _, _⟩) (v := ?_) rfl (by kernel_rfl) (by kernel_rfl) (by kernel_rfl) (by kernel_rfl) (fun _ _ _ h => h) (by decide) (Or.inl ⟨by rfl, ?_⟩) hHeld ?_
                  rotate_left 1
                  · (intro w hSw; obtain ⟨S1, S2, S3, S4⟩ := HS.out w hSw; clear hSw; go_simp; try with_reducible rfl)
                  try simp only [Act.put, List.setIfInBounds_toArray, List.set_cons_zero, List.set_cons_succ]
                  refine upToLast.take (i := 19) (oi := ⟨some 127, _, _, _, _, _⟩) (v := ?_) rfl (by kernel_rfl) (by kernel_rfl) (by kernel_rfl) (by kernel_rfl) (fun _ _ _ h => h) (by decide) (Or.inl ⟨by rfl, ?_⟩) hHeld ?_
                  rotate_left 1
                  · (intro w hSw; obtain ⟨S1, S2, S3, S4⟩ := HS.out w hSw; clear hSw; go_simp; try with_reducible rfl)
                  try simp only [Act.put, List.setIfInBounds_toArray, List.set_cons_zero, List.set_cons_succ]
                  refine upToLast.take (i := 20) (oi := ⟨some 128, _, _, _, _, _⟩) (v := ?_) rfl (by kernel_rfl) (by kernel_rfl) (by kernel_rfl) (by kernel_rfl) (fun _ _ _ h => h) (by decide) (Or.inl ⟨by rfl, ?_⟩) hHeld ?_
                  rotate_left 1
                  · (intro w hSw; obtain ⟨S1, S2, S3, S4⟩ := HS.out w hSw; clear hSw; go_simp; try with_reducible rfl)
                  try simp only [Act.put, List.setIfInBounds_toArray, List.set_cons_zero, List.set_cons_succ]
                  refine upToLast.take (i := 21) (oi := ⟨some 129, _, _, _, _, _⟩) (v := ?_) rfl (by kernel_rfl) (by kernel_rfl) (by kernel_rfl) (by kernel_rfl) (fun _ _ _ h => h) (by decide) (Or.inl ⟨by rfl, ?_⟩) hHeld ?_
                  rotate_left 1
                  · (intro w hSw; obtain ⟨S1, S2, S3, S4⟩ := HS.out w hSw; clear hSw; go_simp; try with_reducible rfl)
                  try simp only [Act.put, List.setIfInBounds_toArray, List.set_cons_zero, List.set_cons_succ]
                  clear hw1 hw2 hw3 hw4 hw5 hw6 hw7 hw8 hwa hwb hwc hwd hwe hwf hwh hwi hwj
                  refine upToLast.next (rs := [22]) (by kernel_rfl) (by simp) ?_
                  refine (each1.cons rfl (fun K hK => ?_) each1.nil)
                  go_simp
                  have hs0 : w.heap.size + 2 ≤ w0.heap.size := Nat.le_trans HSZ.out hHeld.size
                  refine hK.out _ _ (fun _ => hHeld.alloc hs0 _) ?_
                  clear hK K
                  try simp only [Act.put, List.setIfInBounds_toArray, List.set_cons_zero, List.set_cons_succ]
                  refine upToLast.next (rs := [23]) (by kernel_rfl) (by simp) ?_
                  refine (each1.cons rfl (fun K hK => ?_) each1.nil)
                  refine step_app_opt rfl (.tmp 109) (.tmp 130) rfl (w.heap.size + 2) _ v acc rfl (OW.out.alloc _) (⟨0, b0, strOf q⟩ : Opt) w0.heap.size rfl (Blk.new w0 28 _) (by have := hst.out.room; omega) (Nat.le_trans hs0 (by simp)) ?_
                  intro v2 w2 ho2 hb2
                  have B2 : Below (w.heap.size + 2) wr w2 := (hHeld.alloc hs0 _).trans hb2
                  refine hK.out _ _ (fun _ => B2) ?_
                  clear hK K hHeld hb2
                  try simp only [Act.put, List.setIfInBounds_toArray, List.set_cons_zero, List.set_cons_succ]
                  refine upToLast.next (rs := [24]) (by kernel_rfl) (by simp) ?_
                  refine (each1.cons rfl (fun K hK => ?_) each1.nil)
                  go_simp
                  refine hK.out _ _ (fun _ => B2) ?_
                  clear hK K
                  try simp only [Act.put, List.setIfInBounds_toArray, List.set_cons_zero, List.set_cons_succ]
                  refine upToLast.next (rs := [25]) (by kernel_rfl) (by simp) ?_
                  refine (each1.cons rfl (fun K hK => ?_) each1.nil)
                  have X2 := hst.out.cur.below B2 (by omega)
                  have x9 : w2.cell? ⟨w.heap.size + 1, 9, none⟩ = some v := X2.cell 9
                  have fx9 := X2.frozen 9
                  obtain ⟨A2, c2, rfl, _⟩ := own_slice ho2
                  go_simp
                  refine hK.out _ _ (fun h => absurd rfl h) ?_
                  clear hK K
                  try simp only [Act.put, List.setIfInBounds_toArray, List.set_cons_zero, List.set_cons_succ]
                  refine upToLast.done (by kernel_rfl) ?_ _
                  generalize hw3 : w2.setCell _ _ = w3
                  have B3 : Below (w.heap.size + 1) wr w3 := by rw [← hw3]; exact (B2.mono (by omega)).setCell (by simp) _
                  have X3 : Blk w3 (w.heap.size + 1) 31 ((msgOf l (acc ++ [(⟨0, b0, strOf q⟩ : Opt)])).val (.slice A2 (acc ++ [(⟨0, b0, strOf q⟩ : Opt)]).length c2)) := by rw [← hw3, show (acc ++ [(⟨0, b0, strOf q⟩ : Opt)]).length = acc.length + 1 by simp]; exact X2.set_ 9 _
                  have O3 : w3.ownsRow (w.heap.size + 2) 28 3 (.slice A2 (acc ++ [(⟨0, b0, strOf q⟩ : Opt)]).length c2) (acc ++ [(⟨0, b0, strOf q⟩ : Opt)]).length (os (acc ++ [(⟨0, b0, strOf q⟩ : Opt)])) := by rw [← hw3]; exact ownsRow_setCell_below ho2 (by simp) _
                  have k3 : w3.cell? ⟨ad.block, ad.off + (i + 1), none⟩ = some (.int .u8 b1) := (B3.cell (by simp only; omega)).trans k1
                  have R3 := hst.out.res.below B3 (by omega)
                  have DC : Hid (Rc w w3 l (i + 2 + b1) (acc ++ [(⟨0, b0, strOf q⟩ : Opt)]) (.slice A2 (acc ++ [(⟨0, b0, strOf q⟩ : Opt)]).length c2)) := Lib.hid (by
                    have Z := hst.out
                    refine ⟨R3, X3, O3, Z.bel.trans (B3.mono (by omega)), by rw [Z.par, PM.out, Nat.add_assoc], ?_, by omega, hfit⟩
                    have := Z.room
                    rw [CM.out, show i + (2 + b1) = i + 2 + b1 by omega] at this
                    simp only [List.length_append, List.length_cons, List.length_nil]; omega)
                  clear X2 x9 fx9 B2 ho2 hw3 X3 O3 R3 B3
                  go_wp2_with fail
                  all_goals exact ⟨⟨i + 2 + b1, _, _, by go_num, DC⟩, by simp [intOf]; omega⟩
          · have NO : Hid (dec l = (noMsg, 60)) := Lib.hid (dec_bad (by rw [hst.out.par, List.drop_eq_nil_of_le (by omega), parse_nil]))
            have d0 : wr.cell? ⟨w.heap.size, 0, none⟩ = some (.int .i64 0) := hst.out.res.cell 0
            have f0 := hst.out.res.frozen 0
            have d1 : wr.cell? ⟨w.heap.size, 1, none⟩ = some (.int .u32 0) := hst.out.res.cell 1
            have f1 := hst.out.res.frozen 1
            have d2 : wr.cell? ⟨w.heap.size, 2, none⟩ = some (.int .i64 0) := hst.out.res.cell 2
            have f2 := hst.out.res.frozen 2
            have d3 : wr.cell? ⟨w.heap.size, 3, none⟩ = some (.int .i64 0) := hst.out.res.cell 3
            have f3 := hst.out.res.frozen 3
            have d4 : wr.cell? ⟨w.heap.size, 4, none⟩ = some (.int .u32 0) := hst.out.res.cell 4
            have f4 := hst.out.res.frozen 4
            have d5 : wr.cell? ⟨w.heap.size, 5, none⟩ = some (.int .u32 0) := hst.out.res.cell 5
            have f5 := hst.out.res.frozen 5
            have d6 : wr.cell? ⟨w.heap.size, 6, none⟩ = some (.int .u32 0) := hst.out.res.cell 6
            have f6 := hst.out.res.frozen 6
            have d7 : wr.cell? ⟨w.heap.size, 7, none⟩ = some (.int .u32 0) := hst.out.res.cell 7
            have f7 := hst.out.res.frozen 7
            have d8 : wr.cell? ⟨w.heap.size, 8, none⟩ = some (.int .u64 0) := hst.out.res.cell 8
            have f8 := hst.out.res.frozen 8
            have d9 : wr.cell? ⟨w.heap.size, 9, none⟩ = some (.slice none 0 0) := hst.out.res.cell 9
            have f9 := hst.out.res.frozen 9
            go_wp2_with fail
            refine bodyPost_ret (res10 rfl _ _ w.heap.size _ (set10 hst.out.res _ _ _ _ _ _ _ _ _ _) rfl rfl) rfl ⟨below10 hst.out.bel (Nat.le_refl _) _ _ _ _ _ _ _ _ _ _, none, 0, 0, ?_, ?_⟩
            · rw [NO.out]; rfl
            · rw [NO.out]; exact ⟨rfl, fun h => absurd h (by decide)⟩
end Go.Proofs.Ytbekgccecdjdeaa
