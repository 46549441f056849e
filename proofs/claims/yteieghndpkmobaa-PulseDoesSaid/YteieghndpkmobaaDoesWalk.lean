/- The law PulseDoes, walked. -/
import Derived.Test.YteieghndpkmobaaOwnTwo
import Derived.Test.YteieghndpkmobaaFrameS
import Derived.Test.YteieghndpkmobaaFourths
import Derived.Test.YteieghndpkmobaaOfWalk
import Derived.Deep.DeepCutAuto
import Derived.Deep.RegionWith
import Derived.Deep.LoopGhost
namespace Go.Proofs.Yteieghndpkmobaa
open Go.RowKit

set_option maxRecDepth 100000 in
set_option maxHeartbeats 2000000 in
theorem pulseDoes_walk (w : World) (a : Option Addr) (len cap : Nat) (F : Nat → Nat → Int) (hg : RowS w [.i64, .i64] 16 a len cap F) :
    Calls Try.prog 9 #[.slice a len cap] w fun e w' => e = .returned (.bool true) ∧ Below w.heap.size w w' := by
  have hlen : len ≤ 17592186043904 := by have := hg.le; have := hg.reach; omega
  have HG := Lib.hid hg
  clear hg
  go_enter Try.func9, Try.ntmps9
  go_wp2_with fail
  refine (new_any w).mono ?_
  rintro e w1 ⟨rfl, hp, hb1, hs1⟩
  have hn := Own.new w1 43
  have hT : Two w ((w1.alloc (.cells #[.int .i64 0] 3)).alloc (.cells #[.slice (some ⟨w1.heap.size, 0, none⟩) 1 1] 43)) (w.heap.size + 1) w.heap.size (w1.heap.size + 1) w1.heap.size [0] [0] := by
    have hb2 : Below w1.heap.size w1 ((w1.alloc (.cells #[.int .i64 0] 3)).alloc (.cells #[.slice (some ⟨w1.heap.size, 0, none⟩) 1 1] 43)) := ((Below.refl _ _).alloc (Nat.le_refl _) _).alloc (by rw [Deep.nblk_alloc]; omega) _
    refine ⟨hp.but ⟨hb2.os, hb2.tape, hb2.output, hb2.size, fun k hk _ _ => hb2.block k hk⟩ (b' := w1.heap.size) (g' := w1.heap.size) (by omega) (by omega) (by omega) (by omega), hn, hb1.trans (hb2.mono hb1.size), by omega, ?_, by omega⟩
    rw [Deep.nblk_alloc, Deep.nblk_alloc]
    omega
  rw [hs1] at hT
  have HT := Lib.hid hT
  clear hT hn hp hb1
  go_wp2_with fail
  generalize (w1.alloc (.cells #[.int .i64 0] 3)).alloc (.cells #[.slice (some ⟨w.heap.size + 2, 0, none⟩) 1 1] 43) = W2 at *
  refine (lives_any W2).mono ?_
  rintro e w3 ⟨rfl, hb3⟩
  have HT3 := Lib.hid (HT.out.more hb3)
  clear HT hb3
  go_wp2_with fail
  go_loopw [5] (fun vi wr => ∃ i : Nat, i ≤ len ∧ vi = .int .i64 i ∧ Hid (∃ gp gx l, Two w wr (w.heap.size + 1) gp (w.heap.size + 2 + 1) gx l l ∧ Inv l)) (fun vi _ => len - (intOf vi).toNat)
  case atStart => exact ⟨0, by omega, rfl, Lib.hid ⟨_, _, _, HT3.out, inv_zero⟩⟩
  case round =>
    obtain ⟨i, hi, rfl, hst⟩ := hrel
    by_cases hil : i < len
    · obtain ⟨gp, gx, l, hT, hI⟩ := hst.out
      obtain ⟨ad, rfl, hab, hcc⟩ := HG.out.reads (by omega)
      have c0 := (hT.bel.cell (p := ad.add (i * 2 + 0)) (by rw [block_of_add]; exact hab)).trans (hcc i 0 .i64 hil rfl).1
      have c1 := (hcc i 1 .i64 hil rfl).1
      rw [show i * [IntKind.i64, IntKind.i64].length + 1 = i * 2 + 1 from rfl, ← add_of_add] at c1
      have hcw : w.cell? ⟨(ad.add (i * 2)).block, (ad.add (i * 2)).off + 1, none⟩ = some (.int .i64 (F i 1)) := c1
      rw [Nat.add_zero] at c0
      have c2 := (hT.bel.cell (p := ⟨(ad.add (i * 2)).block, (ad.add (i * 2)).off + 1, none⟩) (by show (ad.add (i * 2)).block < _; rw [block_of_add]; exact hab)).trans hcw
      generalize F i 0 = kind at *
      generalize F i 1 = n at *
      have hlt : (ad.add (i * 2)).block < w.heap.size := by rw [block_of_add]; exact hab
      have hk : Hid (∀ {bp gp bx gx l m W'}, Two w W' bp gp bx gx l m → W'.cell? ⟨(ad.add (i * 2)).block, (ad.add (i * 2)).off + 1, none⟩ = some (.int .i64 n)) := Lib.hid (fun h => (h.bel.cell (p := ⟨(ad.add (i * 2)).block, (ad.add (i * 2)).off + 1, none⟩) hlt).trans hcw)
      have HT := Lib.hid hT
      have HI := Lib.hid hI
      have P0 := Lib.hid (fun m => (HT.out.drewN m).p.isP)
      have X0 := Lib.hid (fun m => (HT.out.drewN m).x.isP)
      clear hT hI hst hcc hcw c1 hlt hab
      by_cases k1 : kind = 1
      · subst k1
        go_upto_region 11 with fail
        clear c0
        go_region_with (first
          | (go_at_call 22; refine (count_any _ gp l n _ (HT.out.drewN 1).p HI.out.1 HI.out.2.1 HI.out.2.2).mono ?_; rintro e w' ⟨rfl, hL⟩; obtain ⟨gp', hT1⟩ := (HT.out.drewN 1).left_p hL; have HT1 := Lib.hid hT1; have c3 := hk.out hT1; clear hL hT1)
          | (go_at_call 25; refine (rcount_any _ gx l n _ HT1.out.x HI.out.1 HI.out.2.1 HI.out.2.2).mono ?_; rintro e w'' ⟨rfl, hL⟩; obtain ⟨gx', hT2⟩ := HT1.out.left_x hL; have HT2 := Lib.hid hT2; clear hL hT2))
        all_goals
          go_wp2_with fail
          go_roundw
          case rel => exact ⟨i + 1, by omega, by go_num, Lib.hid ⟨_, _, _, HT2.out, inv_count HI.out n⟩⟩
          case measure => simp [intOf]; omega
      by_cases k2 : kind = 2
      · subst k2
        go_upto_region 13 with fail
        clear c0
        go_region_with (first
          | (go_at_call 23; refine (tick_any _ gp l n _ (HT.out.drewN 1).p HI.out.1 HI.out.2.1).mono ?_; rintro e w' ⟨rfl, hL⟩; obtain ⟨gp', hT1⟩ := (HT.out.drewN 1).left_p hL; have HT1 := Lib.hid hT1; have c3 := hk.out hT1; clear hL hT1)
          | (go_at_call 26; refine (rtick_any _ gx l n _ HT1.out.x HI.out.2.1).mono ?_; rintro e w'' ⟨rfl, hL⟩; obtain ⟨gx', hT2⟩ := HT1.out.left_x hL; have HT2 := Lib.hid hT2; clear hL hT2))
        all_goals
          go_wp2_with fail
          go_roundw
          case rel => exact ⟨i + 1, by omega, by go_num, Lib.hid ⟨_, _, _, HT2.out, inv_tick HI.out n⟩⟩
          case measure => simp [intOf]; omega
      by_cases k3 : kind = 3
      · subst k3
        go_upto_region 15 with fail
        clear c0
        go_quiet ((first
          | (go_at_call 18; exact quiet_left (At_yes 58 _ l n _ (P0.out _) HI.out.1))
          | (go_at_call 19; exact quiet_left (RAt_any 43 _ l n _ (X0.out _)))))
        all_goals
          go_wp2_with fail
          go_roundw
          case rel => exact ⟨i + 1, by omega, by go_num, Lib.hid ⟨_, _, _, HT.out.drewN _, HI.out⟩⟩
          case measure => simp [intOf]; omega

      by_cases k4 : kind = 4
      · subst k4
        go_upto_region 17 with fail
        clear c0
        go_wp2_with (go_at_call 20; refine (asks_any _ _ l n _ (P0.out 0) (X0.out 0) HI.out.1 HI.out.2.1 HI.out.2.2).mono ?_; rintro e w' ⟨rfl, rfl⟩)
        all_goals
          go_roundw
          case rel => exact ⟨i + 1, by omega, by go_num, Lib.hid ⟨_, _, _, HT.out, HI.out⟩⟩
          case measure => simp [intOf]; omega

      by_cases k5 : kind = 5
      · subst k5
        go_upto_region 19 with fail
        clear c0
        go_quiet ((first
          | (go_at_call 14; exact quiet_left (fourth_both _ _ l n _ (P0.out _) (X0.out _) HI.out.1 HI.out.2.1 HI.out.2.2).1)
          | (go_at_call 27; exact quiet_left (fourth_both _ _ l n _ (P0.out _) (X0.out _) HI.out.1 HI.out.2.1 HI.out.2.2).2)))
        all_goals
          go_wp2_with fail
          go_roundw
          case rel => exact ⟨i + 1, by omega, by go_num, Lib.hid ⟨_, _, _, HT.out.drewN _, HI.out⟩⟩
          case measure => simp [intOf]; omega

      · obtain ⟨A, c, B, hB, hrr, hs⟩ := X0.out 0
        have hx0 : wr.cell? ⟨w.heap.size + 2 + 1, 0, none⟩ = some (.slice A l.length c) := hB.cell 0
        have l1 := HI.out.1
        have l2 := HI.out.2.1
        clear hB hrr hs
        go_upto_region 9 with fail
        clear c0 c2
        go_quiet ((go_at_call 17; exact quiet_left (ticks_yes 58 _ l _ (P0.out _) HI.out.1)))
        all_goals
          go_wp2_with fail
          go_roundw
          case rel => exact ⟨i + 1, by omega, by go_num, Lib.hid ⟨_, _, _, HT.out.drewN _, HI.out⟩⟩
          case measure => simp [intOf]; omega
    · obtain rfl : i = len := by omega
      obtain ⟨gp, gx, l, hT, hI⟩ := hst.out
      have HT := Lib.hid hT
      have HI := Lib.hid hI
      clear hst hT hI
      go_wp2_with (go_at_call 20; refine (asks_any _ _ l _ _ HT.out.p.isP HT.out.x.isP HI.out.1 HI.out.2.1 HI.out.2.2).mono ?_; rintro e w' ⟨rfl, rfl⟩)
      go_ret
      exact ⟨rfl, HT.out.bel⟩
end Go.Proofs.Yteieghndpkmobaa
