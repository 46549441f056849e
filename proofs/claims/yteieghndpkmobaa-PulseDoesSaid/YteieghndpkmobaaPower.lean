/- What Power and whole compute. -/
import Derived.Test.YteieghndpkmobaaBeat
namespace Go.Proofs.Yteieghndpkmobaa
open Go.RowKit Ieee

def sqF (a : Int) : Nat := (double.mul (I a) (I a)).getD 0
def pwF (a b : Int) : Nat := (double.add (sqF a) (sqF b)).getD 0
theorem sqF_eq {a : Int} (h : a.natAbs < 2 ^ 53) : floatBits .mul .f64 (I a) (I a) = some (sqF a) ∧ Good (sqF a) := by
  obtain ⟨r, h1, h2⟩ := square_I h
  unfold sqF
  rw [h1]
  exact ⟨h1, h2⟩
theorem pwF_eq {a b : Int} (ha : a.natAbs < 2 ^ 53) (hb : b.natAbs < 2 ^ 53) : floatBits .add .f64 (sqF a) (sqF b) = some (pwF a b) ∧ Good (pwF a b) := by
  obtain ⟨r, h1, h2⟩ := add_good (sqF_eq ha).2 (sqF_eq hb).2
  unfold pwF
  rw [h1]
  exact ⟨h1, h2⟩

theorem power_of (p : Value) (period re im e : Int) (w : World) (ha : re.natAbs < 2 ^ 53) (hb : im.natAbs < 2 ^ 53)
    (h : Calls Try.prog 12 #[p, .int .i64 period] w fun e' w' => e' = .returned (.tuple #[.complex .f64 (I re) (I im), .int .i64 e]) ∧ w = w') :
    Calls Try.prog 21 #[p, .int .i64 period] w fun e' w' => e' = .returned (.tuple #[.float .f64 (pwF re im), .int .i64 e]) ∧ w = w' := by
  have h1 : ∀ w : World, (binOp .mul 31 (.float .f64 (I re)) (.float .f64 (I re))).run Try.prog w = .ok (.float .f64 (sqF re)) w := fun w => run_float_arith w .mul 31 .f64 _ _ _ (sqF_eq ha).1
  have h2 : ∀ w : World, (binOp .mul 31 (.float .f64 (I im)) (.float .f64 (I im))).run Try.prog w = .ok (.float .f64 (sqF im)) w := fun w => run_float_arith w .mul 31 .f64 _ _ _ (sqF_eq hb).1
  have h3 : ∀ w : World, (binOp .add 31 (.float .f64 (sqF re)) (.float .f64 (sqF im))).run Try.prog w = .ok (.float .f64 (pwF re im)) w := fun w => run_float_arith w .add 31 .f64 _ _ _ (pwF_eq ha hb).1
  have HC := Lib.hid h
  clear h ha hb
  go_enter Try.func21, Try.ntmps21
  go_wp2_with fail
  refine HC.out.mono ?_
  rintro e' w' ⟨rfl, rfl⟩
  go_wp2
  go_ret2
  exact ⟨rfl, rfl⟩
end Go.Proofs.Yteieghndpkmobaa
