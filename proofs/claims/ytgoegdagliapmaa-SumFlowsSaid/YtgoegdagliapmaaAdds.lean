/- What the adds, the check sums and the updates compute, and the sum of the reference. -/
import Derived.Test.YtgoegdagliapmaaSum
namespace Go.Proofs.Ytgoegdagliapmaa
open Go.RowKit

theorem not16 {x : Nat} (h : x ≤ 65535) : bits .xor .u16 IntKind.u16.max (x : Int) = ((65535 - x : Nat) : Int) := by
  have e : IntKind.u16.max = ((65535 : Nat) : Int) := rfl
  rw [e]
  have := u16_xor_nat 65535 x (by omega) (by omega)
  rw [this]
  have h2 : 65535 ^^^ x = 65535 - x := by
    have : 65535 = 2 ^ 16 - 1 := rfl
    have h3 : x < 2 ^ 16 := by omega
    apply Nat.eq_of_testBit_eq
    intro i
    rw [Nat.testBit_xor]
    show (Nat.testBit (2 ^ 16 - 1) i ^^ x.testBit i) = Nat.testBit (2 ^ 16 - 1 - x) i
    rw [show 2 ^ 16 - 1 - x = 2 ^ 16 - (x + 1) from by omega, Nat.testBit_two_pow_sub_succ h3, Nat.testBit_two_pow_sub_one]
    by_cases hi : i < 16
    · simp [hi]
    · simp [hi]
      exact Nat.testBit_lt_two_pow (Nat.lt_of_lt_of_le h3 (Nat.pow_le_pow_right (by omega) (by omega)))
  rw [h2]

theorem add_any (a b : Nat) (ha : a ≤ 65535) (hb : b ≤ 65535) (w : World) :
    Calls Try.prog 14 #[.int .u16 (a : Int), .int .u16 (b : Int)] w fun e w' => e = .returned (.int .u16 (nrm (a + b) : Nat)) ∧ w = w' := by
  go_enter Try.func14, Try.ntmps14
  go_wp2_with (go_at_call 24; refine (fold_any (a + b) (by omega) _).mono ?_; rintro e w' ⟨rfl, rfl⟩)
  go_ret
  exact ⟨rfl, rfl⟩

theorem check_any (A : Option Addr) (n c : Nat) (l : List Nat) (B : Nat) (w : World) (hr : Reads w B 1 A n (bs l)) (hl : ∀ k, l.getD k 0 ≤ 255) (hn : n ≤ 140737488355000) :
    Calls Try.prog 12 #[.slice A n c] w fun e w' => e = .returned (.int .u16 (65535 - nrm (tot l n) : Nat)) ∧ w = w' := by
  go_enter Try.func12, Try.ntmps12
  go_wp2_with (go_at_call 10; refine (sum_any A n c l B w hr hl hn).mono ?_; rintro e w' ⟨rfl, rfl⟩)
  go_ret
  exact ⟨ret_u16 (not16 (nrm_le _)), rfl⟩

set_option maxRecDepth 100000 in
theorem radd_int (a b : Int) (h0 : 0 ≤ a) (ha : a ≤ 65535) (h1 : 0 ≤ b) (hb : b ≤ 65535) (w : World) :
    Calls Try.prog 15 #[.int .u16 a, .int .u16 b] w fun e w' => e = .returned (.int .u16 (if 65536 ≤ a + b then a + b - 65535 else a + b)) ∧ w = w' := by
  by_cases h : 65536 ≤ a + b
  · go_enter Try.func15, Try.ntmps15
    go_wp2
    go_ret
    exact ⟨ret_u16 (by omega), rfl⟩
  · go_enter Try.func15, Try.ntmps15
    go_wp2
    go_ret
    exact ⟨ret_u16 (by omega), rfl⟩
theorem radd_any (a b : Nat) (ha : a ≤ 65535) (hb : b ≤ 65535) (w : World) :
    Calls Try.prog 15 #[.int .u16 (a : Int), .int .u16 (b : Int)] w fun e w' => e = .returned (.int .u16 (nrm (a + b) : Nat)) ∧ w = w' := by
  refine (radd_int a b (by omega) (by omega) (by omega) (by omega) w).mono ?_
  rintro e w' ⟨rfl, rfl⟩
  refine ⟨ret_u16 ?_, rfl⟩
  rw [add_two ha hb]
  split <;> split <;> omega

theorem update_any (c o n : Nat) (hc : c ≤ 65535) (ho : o ≤ 65535) (hn : n ≤ 65535) (w : World) :
    Calls Try.prog 16 #[.int .u16 (c : Int), .int .u16 (o : Int), .int .u16 (n : Int)] w fun e w' => e = .returned (.int .u16 (65535 - nrm ((65535 - c) + (65535 - o) + n) : Nat)) ∧ w = w' := by
  have k1 := not16 hc
  have k2 := not16 ho
  generalize hx : 65535 - c = x at *
  generalize hy : 65535 - o = y at *
  have hx1 : x ≤ 65535 := by omega
  have hy1 : y ≤ 65535 := by omega
  clear hx hy
  go_enter Try.func16, Try.ntmps16
  go_wp2_with fail
  have e : IntKind.u64.wrap (IntKind.u64.wrap (IntKind.u64.wrap (x : Int) + IntKind.u64.wrap (y : Int)) + (n : Int)) = ((x + y + n : Nat) : Int) := by
    rw [wrap_small (m := (x : Int)) (by omega) (by omega), wrap_small (m := (y : Int)) (by omega) (by omega), wrap_small (m := (x : Int) + (y : Int)) (by omega) (by omega), wrap_small (by omega) (by omega)]
    omega
  rw [e]
  refine (fold_any (x + y + n) (by omega) _).mono ?_
  rintro e w' ⟨rfl, rfl⟩
  go_wp2
  go_ret
  exact ⟨ret_u16 (not16 (nrm_le _)), rfl⟩

theorem rupdate_any (c o n : Nat) (hc : c ≤ 65535) (ho : o ≤ 65535) (hn : n ≤ 65535) (w : World) :
    Calls Try.prog 17 #[.int .u16 (c : Int), .int .u16 (o : Int), .int .u16 (n : Int)] w fun e w' => e = .returned (.int .u16 (65535 - nrm ((65535 - c) + (65535 - o) + n) : Nat)) ∧ w = w' := by
  obtain ⟨x, hx⟩ : ∃ x, x = 65535 - c := ⟨_, rfl⟩
  obtain ⟨y, hy⟩ : ∃ y, y = 65535 - o := ⟨_, rfl⟩
  have k1 : (65535 : Int) - c = x := by omega
  have k2 : (65535 : Int) - o = y := by omega
  rw [← hx, ← hy]
  have hx1 : x ≤ 65535 := by omega
  have hy1 : y ≤ 65535 := by omega
  have l1 := nrm_le (x + y)
  have l2 := nrm_le (nrm (x + y) + n)
  have H := Lib.hid (nrm_add (x + y) n)
  clear hx hy
  go_enter Try.func17, Try.ntmps17
  go_wp2_with fail
  refine (radd_any x y hx1 hy1 _).mono ?_
  rintro e w' ⟨rfl, rfl⟩
  go_wp2_with fail
  refine (radd_any (nrm (x + y)) n l1 hn _).mono ?_
  rintro e w' ⟨rfl, rfl⟩
  go_wp2
  go_ret
  refine ⟨ret_u16 ?_, rfl⟩
  rw [← H.out]
  omega

theorem tot_two (l : List Nat) (k : Nat) (h : k % 2 = 0) : tot l (k + 2) = tot l k + (l.getD k 0 * 256 + l.getD (k + 1) 0) := by
  rw [tot_odd l (k + 1) (by omega), tot_even l k h]; omega

set_option maxHeartbeats 400000 in
theorem rsum_any (A : Option Addr) (n c : Nat) (l : List Nat) (B : Nat) (w : World) (hr : Reads w B 1 A n (bs l)) (hl : ∀ k, l.getD k 0 ≤ 255) (hn : n ≤ 140737488355000) :
    Calls Try.prog 11 #[.slice A n c] w fun e w' => e = .returned (.int .u16 (nrm (tot l n) : Nat)) ∧ w = w' := by
  go_enter Try.func11, Try.ntmps11
  go_wp2
  go_loop [3, 4] (fun t i => ∃ k : Nat, k ≤ n + 1 ∧ k % 2 = 0 ∧ i = .int .i64 k ∧ t = .int .u16 (nrm (tot l (min k n)) : Nat)) (fun _ i => n + 1 - (intOf i).toNat)
  case atStart => exact ⟨0, by omega, by omega, rfl, by rw [Nat.zero_min]; rfl⟩
  case round =>
    obtain ⟨k, hk, hp, rfl, rfl⟩ := hrel
    have ht := nrm_le (tot l (min k n))
    by_cases hlt : k < n
    · obtain ⟨ad, u, rfl, _, hu, hc⟩ := hr.at_ hlt
      obtain ⟨_, rfl⟩ := bs_at hu
      have hb := hl k
      have E0 := Lib.hid hp
      clear hp hu
      rw [show min k n = k from by omega] at *
      by_cases hlt2 : k + 1 < n
      · obtain ⟨ad2, u2, ha2, _, hu2, hc2⟩ := hr.at_ hlt2
        obtain rfl : ad = ad2 := Option.some.inj ha2
        obtain ⟨_, rfl⟩ := bs_at hu2
        clear hu2 ha2
        rw [show ad.add (k + 1) = ⟨ad.block, ad.off + (k + 1), none⟩ from by simp [Addr.add]] at hc2
        have hb2 := hl (k + 1)
        have E := Lib.hid (tot_two l k E0.out)
        generalize hx : l.getD k 0 = x at *
        generalize hy : l.getD (k + 1) 0 = y at *
        clear hx hy
        go_wp2_with fail
        rw [show (x : Int) * 256 + (y : Int) = ((x * 256 + y : Nat) : Int) from by omega]
        refine (radd_any (nrm (tot l k)) (x * 256 + y) ht (by omega) _).mono ?_
        rintro e w' ⟨rfl, rfl⟩
        go_wp2
        go_round
        case rel => exact ⟨k + 2, by omega, by have := E0.out; omega, by go_num, by rw [show min (k + 2) n = k + 2 from by omega, E.out, nrm_add]⟩
        case measure => simp [intOf]; omega
      · have E := Lib.hid (tot_even l k E0.out)
        generalize hx : l.getD k 0 = x at *
        clear hx
        go_wp2_with fail
        rw [show (x : Int) * 256 = ((256 * x : Nat) : Int) from by omega]
        refine (radd_any (nrm (tot l k)) (256 * x) ht (by omega) _).mono ?_
        rintro e w' ⟨rfl, rfl⟩
        go_wp2
        go_round
        case rel => exact ⟨k + 2, by omega, by have := E0.out; omega, by go_num, by rw [show min (k + 2) n = k + 1 from by omega, E.out, nrm_add]⟩
        case measure => simp [intOf]; omega
    · have E : tot l (min k n) = tot l n := by rw [show min k n = n from by omega]
      rw [E] at *
      clear E hp
      go_wp2
      go_ret
      exact ⟨rfl, rfl⟩
end Go.Proofs.Ytgoegdagliapmaa
