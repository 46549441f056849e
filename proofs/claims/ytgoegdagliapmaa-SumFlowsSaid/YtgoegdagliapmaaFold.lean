/- What fold computes: the sum with carry of a number's words. -/
import Derived.Test.YtgoegdagliapmaaRows
import Derived.Test.YtgoegdagliapmaaPlain
import Derived.WalkKit
import Derived.Lib.Hide
namespace Go.Proofs.Ytgoegdagliapmaa
open Go.RowKit

theorem and_low (m : Nat) (h : m ≤ 4611686018427387904) : bits .and .u64 (m : Int) 65535 = ((m % 65536 : Nat) : Int) := by
  have := u64_and_nat m 65535 (by omega) (by omega)
  rw [show ((65535 : Nat) : Int) = 65535 from rfl] at this
  rw [this, show 65535 = 2 ^ 16 - 1 from rfl, Nat.and_two_pow_sub_one_eq_mod]
theorem wrap_small {m : Int} (h0 : 0 ≤ m) (h : m ≤ 4611686018427387904) : IntKind.u64.wrap m = m := by
  simp [IntKind.wrap, IntKind.signed, IntKind.bits]; omega
theorem fold_step (m : Nat) (h : m ≤ 4611686018427387904) : IntKind.u64.wrap (bits .and .u64 (m : Int) 65535 + (m : Int) / 65536) = ((m % 65536 + m / 65536 : Nat) : Int) := by
  rw [and_low m h, wrap_small (by omega) (by omega)]; omega

set_option maxRecDepth 1000000 in
theorem fold_any (x : Nat) (h1 : x ≤ 4611686018427387904) (w : World) :
    Calls Try.prog 24 #[.int .u64 (x : Int)] w fun e w' => e = .returned (.int .u16 (nrm x : Nat)) ∧ w = w' := by
  go_enter Try.func24, Try.ntmps24
  go_wp2
  refine wp_scope_jumps 0 (fun a' w' => w = w' ∧ ∃ (m : Nat) (u3 u4 u5 u6 u7 u8 u9 u10 u11 : Value), a' = { tmps := #[.int .u64 m, undef, .int .u16 0, u3, u4, u5, u6, u7, u8, u9, u10, u11], defers := [] } ∧ nrm m = nrm x ∧ m ≤ 4611686018427387904) (fun a' _ => (intOf (a'.tmps.getD 0 undef)).toNat) rfl ?_ ?_
  · go_wp2
    go_step3
    go_wp2
    · go_step3
      rw [fold_step x h1]
      exact ⟨rfl, rfl, x % 65536 + x / 65536, _, _, _, _, _, _, _, _, _, rfl, nrm_fold x, by omega⟩
    · have hx : (x : Int) ≤ 65535 := by assumption
      simp only [Exit.jump]
      go_ret
      rw [nrm_small (by omega)]
      exact ⟨rfl, rfl⟩
  · rintro a' w' ⟨rfl, m, u3, u4, u5, u6, u7, u8, u9, u10, u11, rfl, hs, hm⟩
    have H := Lib.hid hs
    clear hs
    go_wp2
    · have hx : 65535 < (m : Int) := by assumption
      go_step3
      rw [fold_step m hm]
      refine ⟨rfl, ⟨rfl, m % 65536 + m / 65536, _, _, _, _, _, _, _, _, _, rfl, ?_, by omega⟩, ?_⟩
      · rw [nrm_fold m]; exact H.out
      · simp [intOf]; omega
    · have hx : (m : Int) ≤ 65535 := by assumption
      simp only [Exit.jump]
      go_ret
      have e := H.out
      rw [nrm_small (by omega)] at e
      rw [← e]
      exact ⟨rfl, rfl⟩
end Go.Proofs.Ytgoegdagliapmaa
