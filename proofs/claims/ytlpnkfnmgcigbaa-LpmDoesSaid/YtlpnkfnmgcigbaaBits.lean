/- made, Mask, right, bit. -/
import Derived.Test.YtlpnkfnmgcigbaaTrie
import Derived.Test.YtlpnkfnmgcigbaaFrame
import Derived.Test.YtlpnkfnmgcigbaaRows
import Derived.Laws.BitsAllLaws
namespace Go.Proofs.Ytlpnkfnmgcigbaa
open Go.RowKit Lp

/-- The mask of so many bits. -/
def msk (k : Nat) : Nat := 2 ^ 32 - 2 ^ (32 - k)
def clamp (n : Int) : Nat := if n < 0 then 0 else if 32 < n then 32 else n.toNat
theorem clamp_le (n : Int) : clamp n ≤ 32 := by unfold clamp; split <;> (try split) <;> omega
theorem clamp_nat {k : Nat} (h : k ≤ 32) : clamp k = k := by unfold clamp; split <;> (try split) <;> omega
theorem msk_lt (k : Nat) : msk k < 4294967296 := by unfold msk; have := Nat.two_pow_pos (32 - k); omega
theorem pow_le {j : Nat} (h : j ≤ 32) : 2 ^ j ≤ 4294967296 := Nat.pow_le_pow_right (j := 32) (by decide : (2 : Nat) > 0) h

theorem shl_msk {j : Nat} (h : j ≤ 32) : (4294967295 * 2 ^ j) % 4294967296 = msk (32 - j) := by
  unfold msk
  have h1 := pow_le h
  have h2 := Nat.two_pow_pos j
  rw [show 32 - (32 - j) = j by omega]
  generalize 2 ^ j = p at *
  have : 4294967295 * p = (2 ^ 32 - p) + 4294967296 * (p - 1) := by omega
  rw [this, Nat.add_mul_mod_self_left, Nat.mod_eq_of_lt (by omega)]

theorem and_msk {x k : Nat} (hx : x < 4294967296) (hk : k ≤ 32) : x &&& msk k = top x k := by
  have e : msk k = (2 ^ k - 1) <<< (32 - k) := by
    unfold msk
    rw [Nat.shiftLeft_eq, Nat.sub_mul, ← Nat.pow_add, Nat.one_mul, show k + (32 - k) = 32 by omega]
  have e2 : top x k = (x >>> (32 - k)) <<< (32 - k) := by
    unfold top
    rw [Nat.shiftLeft_eq, Nat.shiftRight_eq_div_pow]
  rw [e, e2]
  apply Nat.eq_of_testBit_eq
  intro i
  rw [Nat.testBit_and, Nat.testBit_shiftLeft, Nat.testBit_shiftLeft, Nat.testBit_two_pow_sub_one, Nat.testBit_shiftRight]
  by_cases h : 32 - k ≤ i
  · rw [show 32 - k + (i - (32 - k)) = i by omega]
    by_cases h2 : i < 32
    · have : decide (i - (32 - k) < k) = true := by simp; omega
      rw [this]; simp [h]
    · have : x.testBit i = false := Nat.testBit_lt_two_pow (Nat.lt_of_lt_of_le hx (show 2 ^ 32 ≤ 2 ^ i from Nat.pow_le_pow_right (by decide : (2 : Nat) > 0) (by omega)))
      rw [this]; simp
  · simp [h]

theorem andNot_msk {x k : Nat} (hk : k ≤ 32) : x &&& (4294967295 - msk k) = x % 2 ^ (32 - k) := by
  have h1 := pow_le (j := 32 - k) (by omega)
  have h2 := Nat.two_pow_pos (32 - k)
  rw [show 4294967295 - msk k = 2 ^ (32 - k) - 1 by unfold msk; omega, Nat.and_two_pow_sub_one_eq_mod]

theorem or_son {q i : Nat} (h : Ok q i) (hi : i < 32) : q ||| 2 ^ (31 - i) = q + 2 ^ (31 - i) := by
  obtain ⟨c, hc⟩ := Nat.dvd_of_mod_eq_zero h.2.2
  have : 2 ^ (31 - i) < 2 ^ (32 - i) := Nat.pow_lt_pow_right (by decide) (by omega)
  rw [hc]
  exact (Nat.two_pow_add_eq_or_of_lt this c).symm

theorem mask_any (n : Int) (w : World) : Calls Try.prog 13 #[.int .i64 n] w fun e w' => e = .returned (.int .u32 (msk (clamp n))) ∧ w = w' := by
  by_cases h0 : n < 0
  · have E : clamp n = 0 := by simp [clamp, h0]
    rw [E]
    go_enter Try.func13, Try.ntmps13
    go_wp2
    all_goals first | (exfalso; omega) | skip
    go_ret
    exact ⟨rfl, rfl⟩
  · by_cases h1 : 32 < n
    · have E : clamp n = 32 := by simp [clamp, h0, h1]
      rw [E]
      go_enter Try.func13, Try.ntmps13
      go_wp2
      all_goals first | (exfalso; omega) | skip
      go_ret
      exact ⟨rfl, rfl⟩
    · obtain ⟨k, rfl⟩ : ∃ k : Nat, n = k := ⟨n.toNat, by omega⟩
      have hk : k ≤ 32 := by omega
      rw [clamp_nat hk]
      have E : (4294967295 * 2 ^ (32 - k) % 4294967296 : Int) = (msk k : Nat) := by
        have := shl_msk (j := 32 - k) (by omega)
        rw [show 32 - (32 - k) = k by omega] at this
        rw [← this, Int.natCast_emod, Int.natCast_mul, Int.natCast_pow]
        rfl
      go_enter Try.func13, Try.ntmps13
      go_wp2
      all_goals first | (exfalso; omega) | skip
      all_goals go_ret
      all_goals exact ⟨rfl, rfl⟩
theorem bit_any (x i : Nat) (hx : x < 4294967296) (hi : i < 32) (w : World) : Calls Try.prog 28 #[.int .u32 x, .int .i64 i] w fun e w' => e = .returned (.int .u32 (bit x i)) ∧ w = w' := by
  have E : bits BinOp.and IntKind.u32 ((x : Int) / 2 ^ (31 - i)) 1 = (bit x i : Nat) := by
    have h1 : x / 2 ^ (31 - i) < 4294967296 := Nat.lt_of_le_of_lt (Nat.div_le_self _ _) hx
    have := u32_and_nat (x / 2 ^ (31 - i)) 1 h1 (by decide)
    rw [Nat.and_one_is_mod] at this
    unfold bit
    rw [← this, Int.natCast_ediv, Int.natCast_pow]
    rfl
  go_enter Try.func28, Try.ntmps28
  go_wp2
  go_ret
  exact ⟨rfl, rfl⟩

/-- A prefix that may be. -/
def rightN (p : Nat) (n : Int) : Bool := decide (0 ≤ n) && decide (n ≤ 32) && decide (p % 2 ^ (32 - n.toNat) = 0)
theorem rightN_ok {p : Nat} {n : Int} (hp : p < 4294967296) : rightN p n = true ↔ ∃ k : Nat, n = k ∧ Ok p k := by
  unfold rightN Ok
  constructor
  · intro h
    simp at h
    exact ⟨n.toNat, by omega, by omega, hp, h.2⟩
  · rintro ⟨k, rfl, h1, h2, h3⟩
    simp
    exact ⟨by omega, h3⟩

theorem right_any (p : Nat) (n : Int) (hp : p < 4294967296) (w : World) : Calls Try.prog 26 #[.int .u32 p, .int .i64 n] w fun e w' => e = .returned (.bool (rightN p n)) ∧ w = w' := by
  by_cases h0 : 0 ≤ n
  · by_cases h1 : n ≤ 32
    · obtain ⟨k, rfl⟩ : ∃ k : Nat, n = k := ⟨n.toNat, by omega⟩
      have E : bits BinOp.andNot IntKind.u32 (p : Int) (msk k : Nat) = (p % 2 ^ (32 - k) : Nat) := by
        rw [u32_andNot_nat p _ hp (msk_lt k), andNot_msk (by omega)]
      have MK := Lib.hid (mask_any k)
      rw [clamp_nat (by omega)] at MK
      have E2 : rightN p k = decide (p % 2 ^ (32 - k) = 0) := by unfold rightN; simp; intro _; omega
      rw [E2]
      go_enter Try.func26, Try.ntmps26
      go_wp2_with (go_at_call 13; refine (MK.out _).mono ?_; rintro e w' ⟨rfl, rfl⟩; try rw [E])
      all_goals first | (exfalso; omega) | skip
      have E3 : ((p : Int) % 2 ^ (32 - k) == 0) = decide (p % 2 ^ (32 - k) = 0) := by
        have : ((p : Int) % 2 ^ (32 - k)) = ((p % 2 ^ (32 - k) : Nat) : Int) := by rw [Int.natCast_emod, Int.natCast_pow]; rfl
        rw [this, Bool.eq_iff_iff]
        simp only [beq_iff_eq, decide_eq_true_iff]
        omega
      rw [E3]
      go_ret
      exact ⟨rfl, rfl⟩
    · have E2 : rightN p n = false := by unfold rightN; simp; omega
      rw [E2]
      go_enter Try.func26, Try.ntmps26
      go_wp2
      all_goals first | (exfalso; omega) | skip
      go_ret
      exact ⟨rfl, rfl⟩
  · have E2 : rightN p n = false := by unfold rightN; simp; omega
    rw [E2]
    go_enter Try.func26, Try.ntmps26
    go_wp2
    all_goals first | (exfalso; omega) | skip
    go_ret
    exact ⟨rfl, rfl⟩
end Go.Proofs.Ytlpnkfnmgcigbaa
