/- Bytes: a number's bytes. -/
import Derived.Test.YtbekgccecdjdeaaNums
import Derived.Test.YtbekgccecdjdeaaGrow
import Derived.Deep.OwnRows
namespace Go.Proofs.Ytbekgccecdjdeaa
open Go.RowKit

theorem be_at (x k m : Nat) (h : m < k) : (be x k)[m]? = some (x / 256 ^ (k - 1 - m) % 256) := by
  induction k generalizing m with
  | zero => omega
  | succ k ih =>
    cases m with
    | zero => simp [be]
    | succ m =>
      simp only [be, List.getElem?_cons_succ]
      rw [ih m (by omega), show k + 1 - 1 - (m + 1) = k - 1 - m by omega]

def fByte (x k j : Nat) : Nat → Value := fun m => .int .u8 (if k - j ≤ m then ((x / 256 ^ (k - 1 - m) % 256 : Nat) : Int) else 0)

set_option maxRecDepth 100000 in
theorem bytes_any (x k : Nat) (w : World) (hx : x < 18446744073709551616) (hk : k ≤ 8) :
    Calls Try.prog 21 #[.int .u64 x, .int .i64 k] w fun e w' => ∃ A c, e = .returned (.slice A k c) ∧ w'.ownsRow w.heap.size 5 1 (.slice A k c) k (bs (be x k)) ∧ Below w.heap.size w w' := by
  have MK : ∀ W : World, (Instr.makeSlice 37 (.int .i64 (k : Int)) (.int .i64 (k : Int))).run Try.prog W = .ok (.slice (some ⟨W.heap.size, 0, none⟩) k k) (W.alloc (.cells (madeCells #[.int .u8 0] k) 5)) := fun W =>
    run_make_row' (P := Try.prog) 37 5 (.int .u8 0) 1 Try.underlying37 (by kernel_rfl) rfl .i64 .i64 k (by omega) (by omega) W
  go_enter Try.func21, Try.ntmps21
  go_wp2_with fail
  go_loopw [0, 6] (fun xv iv wr => ∃ j : Nat, j ≤ k ∧ iv = .int .i64 ((k - j : Nat) - 1 : Int) ∧ xv = .int .u64 (x / 256 ^ j : Nat) ∧ Hid (wr.rowIs w.heap.size 5 k (fByte x k j)) ∧ Hid (Below w.heap.size w wr)) (fun _ iv _ => (intOf iv + 1).toNat)
  case atStart =>
    refine ⟨0, Nat.zero_le _, by simp, by simp, Lib.hid ((World.rowIs_made w _ _ _).congr fun m hm => ?_), Lib.hid ((Below.refl _ _).alloc (Nat.le_refl _) _)⟩
    unfold fByte
    rw [if_neg (by omega)]
  case round =>
    obtain ⟨j, hj, rfl, rfl, HR, HB⟩ := hrel
    by_cases h : j < k
    · obtain ⟨i, hi'⟩ : ∃ i, k - j = i + 1 := ⟨k - j - 1, by omega⟩
      rw [hi', show (((i + 1 : Nat) : Int) - 1) = (i : Int) by omega]
      have hik : i < k := by omega
      have hfz := HR.out.frozen i
      have hcl := HR.out.cell hik
      have hyl : x / 256 ^ j < 18446744073709551616 := Nat.lt_of_le_of_lt (Nat.div_le_self _ _) hx
      have HY : Hid (x / 256 ^ (j + 1) = x / 256 ^ j / 256) := Lib.hid (by rw [Nat.pow_succ, Nat.div_div_eq_div_mul])
      have HN : Hid ((wr.setCell ⟨w.heap.size, i, none⟩ (.int .u8 ((x / 256 ^ j % 256 : Nat) : Int))).rowIs w.heap.size 5 k (fByte x k (j + 1))) := Lib.hid ((HR.out.set i _).congr fun m hm => by
        unfold fByte
        by_cases e : m = i
        · rw [if_pos e, if_pos (by omega), show k - 1 - m = j by omega]
        · rw [if_neg e]
          by_cases e2 : k - j ≤ m
          · rw [if_pos e2, if_pos (by omega)]
          · rw [if_neg e2, if_neg (by omega)])
      generalize x / 256 ^ j = y at *
      go_wp2_with fail
      refine ⟨⟨j + 1, by omega, ?_, by rw [HY.out, Int.natCast_ediv]; rfl, Lib.hid HN.out, Lib.hid (HB.out.setCell (Nat.le_refl _) _)⟩, by simp [intOf]⟩
      rw [show k - (j + 1) = i by omega]
    · obtain rfl : j = k := by omega
      rw [Nat.sub_self] at ⊢
      go_wp2_with fail
      go_ret
      refine ⟨_, _, rfl, rowIs_own HR.out (Nat.le_refl _) (by unfold maxLen; omega) (Nat.le_refl _) (by rw [bs_length, be_length]) fun m hm => ?_, HB.out⟩
      unfold bs fByte
      rw [List.getElem?_map, be_at x j m hm, if_pos (by omega)]
      rfl
end Go.Proofs.Ytbekgccecdjdeaa
