/- What the closure of sum.Hash does. -/
import Derived.Test.YtgoegdagliapmaaLives
namespace Go.Proofs.Ytgoegdagliapmaa
open Go.RowKit

/-- A byte more in a flow's hash. -/
def stp (h b : Nat) : Nat := ((h ^^^ b) * 16777619) % 4294967296
theorem stp_lt (h b : Nat) : stp h b < 4294967296 := Nat.mod_lt _ (by omega)
/-- The hash behind k rounds over the n lowest bytes of x, the highest first. -/
def mixr (h x n : Nat) : Nat → Nat
  | 0 => h
  | k + 1 => stp (mixr h x n k) (x / 2 ^ (8 * (n - 1 - k)) % 256)
theorem mixr_lt {h x n : Nat} (hh : h < 4294967296) : ∀ k, mixr h x n k < 4294967296
  | 0 => hh
  | _ + 1 => stp_lt _ _

theorem byte_bits {x : Nat} (s : Nat) (hx : x < 4294967296) : bits .and .u32 ((x : Int) / 2 ^ s) 255 = ((x / 2 ^ s % 256 : Nat) : Int) := by
  have h1 : x / 2 ^ s < 4294967296 := Nat.lt_of_le_of_lt (Nat.div_le_self _ _) hx
  have := u32_and_nat (x / 2 ^ s) 255 h1 (by omega)
  rw [show ((x / 2 ^ s : Nat) : Int) = (x : Int) / 2 ^ s from by simp] at this
  rw [show ((255 : Nat) : Int) = 255 from rfl] at this
  rw [this, show 255 = 2 ^ 8 - 1 from rfl, Nat.and_two_pow_sub_one_eq_mod]
theorem stp_val {h x : Nat} (s : Nat) (hh : h < 4294967296) (hx : x < 4294967296) : bits .xor .u32 (h : Int) (bits .and .u32 ((x : Int) / 2 ^ s) 255) * 16777619 % 4294967296 = ((stp h (x / 2 ^ s % 256) : Nat) : Int) := by
  have hb : x / 2 ^ s % 256 < 256 := Nat.mod_lt _ (by omega)
  rw [byte_bits s hx, u32_xor_nat h _ hh (by omega)]
  unfold stp
  omega

set_option maxRecDepth 100000 in
theorem mix_any (x h n : Nat) (b : Nat) (w : World) (hB : Blk w b 33 #[.int .u32 (h : Int)]) (hx : x < 4294967296) (hh : h < 4294967296) (hn : n ≤ 4) :
    Calls Try.prog 25 #[.int .u32 (x : Int), .int .i64 (n : Int), .pointer (some ⟨b, 0, none⟩)] w fun e w' => e = .returned (.tuple #[]) ∧ Blk w' b 33 #[.int .u32 (mixr h x n n : Nat)] ∧ Below b w w' := by
  go_enter Try.func25, Try.ntmps25
  go_wp2
  go_loopw [5] (fun i wr => ∃ k : Nat, k ≤ n ∧ i = .int .i64 ((n : Int) - 1 - k) ∧ Blk wr b 33 #[.int .u32 (mixr h x n k : Nat)] ∧ Below b w wr) (fun i _ => (intOf i + 1).toNat)
  case atStart => exact ⟨0, Nat.zero_le _, by go_num, hB, Below.refl _ _⟩
  case round =>
    obtain ⟨k, hk, rfl, hBr, hbr⟩ := hrel
    have hm := mixr_lt (x := x) (n := n) hh k
    by_cases hlt : k < n
    · obtain ⟨s, hs⟩ : ∃ s : Nat, s = n - 1 - k := ⟨_, rfl⟩
      rw [show (n : Int) - 1 - k = (s : Int) from by omega]
      have hs3 : s ≤ 3 := by omega
      have hS := Lib.hid hs
      clear hs
      have hc : wr.cell? ⟨b, 0, none⟩ = some (.int .u32 (mixr h x n k : Nat)) := hBr.cell 0
      have hf := hBr.frozen 0
      have hv := Lib.hid (stp_val (x := x) (8 * s) hm hx)
      go_wp2
      go_region
      rw [hv.out]
      go_wp2
      go_roundw
      case rel => exact ⟨k + 1, by omega, by have := hS.out; go_num, by rw [mixr, ← hS.out]; exact (hBr.set_ 0 _), (hbr.setCell (p := ⟨b, 0, none⟩) (Nat.le_refl _) _).drew⟩
      case measure => simp [intOf]
    · obtain rfl : k = n := by omega
      go_wp2
      go_end0
      exact ⟨rfl, hBr, hbr⟩
end Go.Proofs.Ytgoegdagliapmaa
