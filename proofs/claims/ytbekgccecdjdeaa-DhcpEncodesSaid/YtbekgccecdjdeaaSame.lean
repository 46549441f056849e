/- Same, of two like messages. -/
import Derived.Test.YtbekgccecdjdeaaFind
import Derived.Deep.QuietTactic
import Derived.BigQuiet
namespace Go.Proofs.Ytbekgccecdjdeaa
open Go.RowKit

set_option maxRecDepth 100000 in
set_option maxHeartbeats 4000000 in
theorem same_any (op xid secs flags ci yi si gi ch : Int) (A B : Option Addr) (n c d : Nat) (l : List Opt) (w : World) (hA : Reads w w.heap.size 3 A n (os l)) (hB : Reads w w.heap.size 3 B n (os l)) (hn : n ≤ 1073741824) :
    Calls Try.prog 12 #[.agg (Msg.val ⟨op, xid, secs, flags, ci, yi, si, gi, ch, l⟩ (.slice A n c)), .agg (Msg.val ⟨op, xid, secs, flags, ci, yi, si, gi, ch, l⟩ (.slice B n d))] w fun e w' => e = .returned (.bool true) ∧ Below w.heap.size w w' := by
  unfold Msg.val
  obtain ⟨W1, hW1, hz1, hb1⟩ := name_alloc w (.cells #[.int .i64 op, .int .u32 xid, .int .i64 secs, .int .i64 flags, .int .u32 ci, .int .u32 yi, .int .u32 si, .int .u32 gi, .int .u64 ch, .slice A n c] 31)
  have hB1 : Blk W1 w.heap.size 31 #[.int .i64 op, .int .u32 xid, .int .i64 secs, .int .i64 flags, .int .u32 ci, .int .u32 yi, .int .u32 si, .int .u32 gi, .int .u64 ch, .slice A n c] := by rw [← hW1]; exact Blk.new _ _ _
  obtain ⟨W2, hW2, hz2, hb2⟩ := name_alloc W1 (.cells #[.int .i64 op, .int .u32 xid, .int .i64 secs, .int .i64 flags, .int .u32 ci, .int .u32 yi, .int .u32 si, .int .u32 gi, .int .u64 ch, .slice B n d] 31)
  have hB2 : Blk W2 (w.heap.size + 1) 31 #[.int .i64 op, .int .u32 xid, .int .i64 secs, .int .i64 flags, .int .u32 ci, .int .u32 yi, .int .u32 si, .int .u32 gi, .int .u64 ch, .slice B n d] := by rw [← hW2, ← hz1]; exact Blk.new _ _ _
  have hB3 := hB1.below hb2 hB1.lt
  have HBEL := Lib.hid (hb1.trans (hb2.mono (by omega)))
  have H1 := Lib.hid hB3
  have H2 := Lib.hid hB2
  have HW := Lib.hid hW1
  have HW2 := Lib.hid hW2
  clear hB1 hB2 hB3 hb1 hb2 hz1 hz2 hW1 hW2
  go_enter Try.func12, Try.ntmps12
  go_wp2_with fail
  rw [HW.out, HW2.out]
  go_loopw [5] (fun iv wr => ∃ i : Nat, i ≤ n ∧ iv = .int .i64 i ∧ Hid (Below W2.heap.size W2 wr)) (fun iv _ => n - (intOf iv).toNat)
  case atStart => exact ⟨0, by omega, rfl, Lib.hid (Below.refl _ _)⟩
  case round =>
    obtain ⟨i, hi, rfl, HB⟩ := hrel
    have c1 := (H1.out.below HB.out H1.out.lt).cell
    have c2 := (H2.out.below HB.out H2.out.lt).cell
    by_cases h : i < n
    · obtain ⟨ad, rfl, hab, hab3, hl, e0, e1, e2⟩ := opt_cells hA h
      obtain ⟨ad2, rfl, hab2, hab32, hl2, g0, g1, g2⟩ := opt_cells hB h
      have HBW := HBEL.out.trans (HB.out.mono HBEL.out.size)
      rw [← HBW.cell (by first | exact hab | exact hab3)] at e0 e1 e2
      rw [← HBW.cell (by first | exact hab2 | exact hab32)] at g0 g1 g2
      have HHW := Lib.hid HBW
      clear HBW
      generalize l[i] = o at *
      obtain ⟨cls, cd, data⟩ := o
      simp only at e0 e1 e2 g0 g1 g2
      go_wp2_with fail
      go_quiet (fail)
      go_wp2_with fail
      exact ⟨⟨i + 1, by omega, by go_num, Lib.hid (below_drewN HB.out _)⟩, by simp [intOf]; omega⟩
    · obtain rfl : i = n := by omega
      have HBW := Lib.hid (HBEL.out.trans (HB.out.mono HBEL.out.size))
      go_wp2_with fail
      go_ret
      exact ⟨rfl, HBW.out⟩
end Go.Proofs.Ytbekgccecdjdeaa
