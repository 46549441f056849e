/- What plus and Turn compute, on whole parts. -/
import Derived.Test.YteieghndpkmobaaRows
import Derived.Test.YteieghndpkmobaaKit
import Derived.Test.YteieghndpkmobaaFloats
import Derived.Test.YteieghndpkmobaaPlain
import Derived.WalkLawsBesides
namespace Go.Proofs.Yteieghndpkmobaa
open Go.RowKit

theorem unary_neg_float (k : FloatKind) (b : Nat) : Op.unary .neg (.float k b) = pure (.float k (Op.negFloat k b)) := rfl
attribute [local go_sem] unary_neg_float

theorem plus_any (s t : Bool) (a b : Nat) (ha : a < 2 ^ 53) (hb : b < 2 ^ 53) (w : World) :
    Calls Try.prog 32 #[.complex .f64 (W s a) (W t b)] w fun e w' => e = .returned (.complex .f64 (I (sg s a)) (I (sg t b))) ∧ w = w' := by
  have h1 : ∀ w : World, (binOp .add 31 (.float .f64 (W s a)) (.float .f64 0)).run Try.prog w = .ok (.float .f64 (I (sg s a))) w := fun w => run_float_arith w .add 31 .f64 _ _ _ (add_zero ha)
  have h2 : ∀ w : World, (binOp .add 31 (.float .f64 (W t b)) (.float .f64 0)).run Try.prog w = .ok (.float .f64 (I (sg t b))) w := fun w => run_float_arith w .add 31 .f64 _ _ _ (add_zero hb)
  clear ha hb
  go_enter Try.func32, Try.ntmps32
  go_wp2
  go_ret
  exact ⟨rfl, rfl⟩

theorem tmod4 (n : Int) : -3 ≤ n.tmod 4 ∧ n.tmod 4 ≤ 3 ∧ (n.tmod 4 + 4) % 4 = n % 4 := by
  rcases Int.le_total 0 n with h | h
  · rw [Int.tmod_eq_emod_of_nonneg h]; omega
  · obtain ⟨m, rfl⟩ : ∃ m : Int, n = -m := ⟨-n, by omega⟩
    rw [Int.neg_tmod, Int.tmod_eq_emod_of_nonneg (by omega)]; omega
theorem sg_not (s : Bool) (n : Nat) : sg (!s) n = -sg s n := by unfold sg; cases s <;> simp
theorem I_W (x : Int) : I x = W (decide (x < 0)) x.natAbs := rfl

/-- A number whose parts are floats of whole numbers, a zero of either sign. -/
def Parts (z : Value) (p : Int × Int) : Prop := ∃ (s t : Bool) (a b : Nat), z = .complex .f64 (W s a) (W t b) ∧ a < 2 ^ 53 ∧ b < 2 ^ 53 ∧ sg s a = p.1 ∧ sg t b = p.2

set_option maxRecDepth 100000 in
theorem turn_W (x y n : Int) (s0 t0 : Bool) (a0 b0 : Nat) (hx : a0 < 2 ^ 53) (hy : b0 < 2 ^ 53) (ex : sg s0 a0 = x) (ey : sg t0 b0 = y) (w : World) :
    Calls Try.prog 13 #[.complex .f64 (W s0 a0) (W t0 b0), .int .i64 n] w fun e w' => e = .returned (.complex .f64 (I (rot (x, y) (n % 4).toNat).1) (I (rot (x, y) (n % 4).toNat).2)) ∧ w = w' := by
  obtain ⟨m1, m2, m3⟩ := tmod4 n
  obtain ⟨K, hK⟩ : ∃ K : Nat, K = (n % 4).toNat := ⟨_, rfl⟩
  have m4 : (n.tmod 4 + 4) % 4 = (K : Int) := by omega
  rw [← hK]
  have hK3 : K ≤ 3 := by omega
  clear m3 hK
  have hp : Parts (.complex .f64 (W s0 a0) (W t0 b0)) (rot (x, y) 0) := ⟨_, _, _, _, rfl, hx, hy, ex, ey⟩
  go_enter Try.func13, Try.ntmps13
  go_wp2
  rw [m4]
  clear m1 m2 m4 hx hy ex ey
  go_loop [0, 9] (fun z i => ∃ j : Nat, j ≤ K ∧ i = .int .i64 j ∧ Parts z (rot (x, y) j)) (fun _ i => K - (intOf i).toNat)
  case atStart => exact ⟨0, Nat.zero_le _, rfl, hp⟩
  case round =>
    obtain ⟨j, hj, rfl, s, t, a, b, rfl, ha, hb, e1, e2⟩ := hrel
    have H1 := Lib.hid e1
    have H2 := Lib.hid e2
    clear e1 e2
    by_cases hlt : j < K
    · go_wp2
      rw [neg_W hb]
      go_wp2
      go_round
      case rel => exact ⟨j + 1, by omega, by go_num, !t, s, b, a, rfl, hb, ha, by rw [sg_not, H2.out]; rfl, H1.out⟩
      case measure => simp [intOf]; omega
    · obtain rfl : j = K := by omega
      go_wp2_with fail
      refine (plus_any s t a b ha hb _).mono ?_
      rintro e w' ⟨rfl, rfl⟩
      rw [H1.out, H2.out]
      go_wp2
      go_ret
      exact ⟨rfl, rfl⟩
theorem turn_any (x y n : Int) (hx : x.natAbs < 2 ^ 53) (hy : y.natAbs < 2 ^ 53) (w : World) :
    Calls Try.prog 13 #[.complex .f64 (I x) (I y), .int .i64 n] w fun e w' => e = .returned (.complex .f64 (I (rot (x, y) (n % 4).toNat).1) (I (rot (x, y) (n % 4).toNat).2)) ∧ w = w' :=
  turn_W x y n _ _ _ _ hx hy (sg_I x) (sg_I y) w
end Go.Proofs.Yteieghndpkmobaa
