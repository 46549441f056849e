/- What Beat and Power compute. -/
import Derived.Test.YteieghndpkmobaaReads
namespace Go.Proofs.Yteieghndpkmobaa
open Go.RowKit

theorem add_cplx {P : Program} (w : World) (t : TypeId) {a b c d : Int} (ha : a.natAbs < 2 ^ 52) (hb : b.natAbs < 2 ^ 52) (hc : c.natAbs < 2 ^ 52) (hd : d.natAbs < 2 ^ 52) :
    (binOp .add t (.complex .f64 (I a) (I b)) (.complex .f64 (I c) (I d))).run P w = .ok (.complex .f64 (I (a + c)) (I (b + d))) w := by
  refine run_complex_sum w .add (.inl rfl) t .f64 _ _ _ _ _ _ ?_
  unfold cSumBits floatBits
  show ((Ieee.double.add (I a) (I c)).bind fun re => (Ieee.double.add (I b) (I d)).bind fun im => some (re, im)) = _
  rw [add_I (by omega) (by omega) (by omega), add_I (by omega) (by omega) (by omega)]
  rfl

theorem rot_bd (x : Int) (k : Nat) : (rot (x, 0) k).1.natAbs ≤ x.natAbs ∧ (rot (x, 0) k).2.natAbs ≤ x.natAbs := by
  induction k with
  | zero => exact ⟨Nat.le_refl _, by simp [rot]⟩
  | succ k ih =>
    refine ⟨?_, ih.1⟩
    show (-(rot (x, 0) k).2).natAbs ≤ _
    rw [Int.natAbs_neg]; exact ih.2

theorem ret_cplx {a b c d : Nat} {e : Int} (h1 : a = c) (h2 : b = d) : Ending.returned (.tuple #[.complex .f64 a b, .int .i64 e]) = .returned (.tuple #[.complex .f64 c d, .int .i64 e]) := by rw [h1, h2]

theorem beat_nil (period : Int) (w : World) :
    Calls Try.prog 12 #[.pointer none, .int .i64 period] w fun e w' => e = .returned (.tuple #[.complex .f64 0 0, .int .i64 6]) ∧ w = w' := by
  go_enter Try.func12, Try.ntmps12
  go_wp2_with fail
  refine (made_no w).mono ?_
  rintro e w' ⟨rfl, rfl⟩
  go_wp2
  go_ret2
  exact ⟨rfl, rfl⟩

theorem beat_bad (T b : Nat) (l : List Int) (period : Int) (w : World) (h : IsP w T b l) (hl : 1 ≤ l.length) (h1 : period ≠ 1) (h2 : period ≠ 2) (h4 : period ≠ 4) :
    Calls Try.prog 12 #[.pointer (some ⟨b, 0, none⟩), .int .i64 period] w fun e w' => e = .returned (.tuple #[.complex .f64 0 0, .int .i64 1]) ∧ w = w' := by
  have e1 : (period == 1) = false := beq_eq_false_iff_ne.2 h1
  have e2 : (period == 2) = false := beq_eq_false_iff_ne.2 h2
  have e4 : (period == 4) = false := beq_eq_false_iff_ne.2 h4
  clear h1 h2 h4
  go_enter Try.func12, Try.ntmps12
  go_wp2_with fail
  refine (made_yes T b l w h hl).mono ?_
  rintro e w' ⟨rfl, rfl⟩
  go_wp2
  go_ret2
  exact ⟨rfl, rfl⟩

set_option maxHeartbeats 800000 in
theorem beat_1 (T b : Nat) (l : List Int) (w : World) (h : IsP w T b l) (hl : 1 ≤ l.length) (hm : l.length ≤ 1048576) (hc : Counts l) :
    Calls Try.prog 12 #[.pointer (some ⟨b, 0, none⟩), .int .i64 1] w fun e w' => e = .returned (.tuple #[.complex .f64 (I (prt l 0 l.length).1) (I (prt l 0 l.length).2), .int .i64 0]) ∧ w = w' := by
  have H := h
  obtain ⟨A, c, B, hB, hr, _⟩ := h
  have hcell : w.cell? ⟨b, 0, none⟩ = some (.slice A l.length c) := hB.cell 0
  clear hB
  have BE := Lib.hid (bt_eq l 0 (by omega))
  go_enter Try.func12, Try.ntmps12
  go_wp2_with fail
  refine (made_yes T b l w H hl).mono ?_
  rintro e w' ⟨rfl, rfl⟩
  go_wp2
  go_loop [7, 25] (fun t i => ∃ n : Nat, n ≤ l.length ∧ i = .int .i64 n ∧ t = .complex .f64 (I (bt l 0 n).1) (I (bt l 0 n).2)) (fun _ i => l.length - (intOf i).toNat)
  case atStart => exact ⟨0, Nat.zero_le _, rfl, rfl⟩
  case round =>
    obtain ⟨n, hn, rfl, rfl⟩ := hrel
    have pb := prt_bd hc 0 n (by omega)
    rw [← BE.out n] at pb
    obtain ⟨pb1, pb2⟩ := pb
    have hx := hc n
    by_cases hlt : n < l.length
    · obtain ⟨ad, u, rfl, _, hu, hcc⟩ := hr.at_ hlt
      obtain ⟨_, rfl⟩ := is_at hu
      have rb := rot_bd (l.getD n 0) (n % 4 * 0 % 4)
      have E : bt l 0 (n + 1) = ((bt l 0 n).1 + (rot (l.getD n 0, 0) (n % 4 * 0 % 4)).1, (bt l 0 n).2 + (rot (l.getD n 0, 0) (n % 4 * 0 % 4)).2) := rfl
      generalize (bt l 0 n).1 = sx at *
      generalize (bt l 0 n).2 = sy at *
      generalize l.getD n 0 = x at *
      have EH := Lib.hid E
      have RB := Lib.hid rb
      have PB1 := Lib.hid pb1
      have PB2 := Lib.hid pb2
      have hi : floatOfInt .f64 x = I x := nearest_I (by omega)
      have HI := Lib.hid hi
      clear hu E rb pb1 pb2 hi
      go_wp2_with fail
      rw [HI.out]
      refine (turn_any x 0 _ (by omega) (by omega) _).mono ?_
      rintro e w' ⟨rfl, rfl⟩
      obtain ⟨k, hk⟩ : ∃ k : Nat, k = n % 4 * 0 % 4 := ⟨_, rfl⟩
      have hk2 : ((0 : Int) % 4).toNat = k := by omega
      rw [hk2]
      rw [← hk] at EH RB
      have r1 := RB.out.1
      have r2 := RB.out.2
      have hadd := add_cplx (P := Try.prog) w 28 (a := sx) (b := sy) (c := (rot (x, 0) k).1) (d := (rot (x, 0) k).2) (by have := PB1.out; omega) (by have := PB2.out; omega) (by omega) (by omega)
      clear r1 r2 hk hk2
      go_wp2
      go_round
      case rel => exact ⟨n + 1, by omega, by go_num, by rw [EH.out]⟩
      case measure => simp [intOf]; omega
    · obtain rfl : n = l.length := by omega
      go_wp2_with fail
      refine (plus_any _ _ _ _ (by omega) (by omega) w).mono ?_
      rintro e w' ⟨rfl, rfl⟩
      rw [sg_I, sg_I]
      go_wp2
      go_ret2
      exact ⟨ret_cplx (by rw [BE.out]) (by rw [BE.out]), rfl⟩

set_option maxHeartbeats 800000 in
theorem beat_2 (T b : Nat) (l : List Int) (w : World) (h : IsP w T b l) (hl : 1 ≤ l.length) (hm : l.length ≤ 1048576) (hc : Counts l) :
    Calls Try.prog 12 #[.pointer (some ⟨b, 0, none⟩), .int .i64 2] w fun e w' => e = .returned (.tuple #[.complex .f64 (I (prt l 2 l.length).1) (I (prt l 2 l.length).2), .int .i64 0]) ∧ w = w' := by
  have H := h
  obtain ⟨A, c, B, hB, hr, _⟩ := h
  have hcell : w.cell? ⟨b, 0, none⟩ = some (.slice A l.length c) := hB.cell 0
  clear hB
  have BE := Lib.hid (bt_eq l 2 (by omega))
  go_enter Try.func12, Try.ntmps12
  go_wp2_with fail
  refine (made_yes T b l w H hl).mono ?_
  rintro e w' ⟨rfl, rfl⟩
  go_wp2
  go_loop [7, 25] (fun t i => ∃ n : Nat, n ≤ l.length ∧ i = .int .i64 n ∧ t = .complex .f64 (I (bt l 2 n).1) (I (bt l 2 n).2)) (fun _ i => l.length - (intOf i).toNat)
  case atStart => exact ⟨0, Nat.zero_le _, rfl, rfl⟩
  case round =>
    obtain ⟨n, hn, rfl, rfl⟩ := hrel
    have pb := prt_bd hc 2 n (by omega)
    rw [← BE.out n] at pb
    obtain ⟨pb1, pb2⟩ := pb
    have hx := hc n
    by_cases hlt : n < l.length
    · obtain ⟨ad, u, rfl, _, hu, hcc⟩ := hr.at_ hlt
      obtain ⟨_, rfl⟩ := is_at hu
      have rb := rot_bd (l.getD n 0) (n % 4 * 2 % 4)
      have E : bt l 2 (n + 1) = ((bt l 2 n).1 + (rot (l.getD n 0, 0) (n % 4 * 2 % 4)).1, (bt l 2 n).2 + (rot (l.getD n 0, 0) (n % 4 * 2 % 4)).2) := rfl
      generalize (bt l 2 n).1 = sx at *
      generalize (bt l 2 n).2 = sy at *
      generalize l.getD n 0 = x at *
      have EH := Lib.hid E
      have RB := Lib.hid rb
      have PB1 := Lib.hid pb1
      have PB2 := Lib.hid pb2
      have hi : floatOfInt .f64 x = I x := nearest_I (by omega)
      have HI := Lib.hid hi
      clear hu E rb pb1 pb2 hi
      go_wp2_with fail
      rw [HI.out]
      refine (turn_any x 0 _ (by omega) (by omega) _).mono ?_
      rintro e w' ⟨rfl, rfl⟩
      obtain ⟨k, hk⟩ : ∃ k : Nat, k = n % 4 * 2 % 4 := ⟨_, rfl⟩
      have hk2 : ((n : Int) % 4 * 2 % 4).toNat = k := by omega
      rw [hk2]
      rw [← hk] at EH RB
      have r1 := RB.out.1
      have r2 := RB.out.2
      have hadd := add_cplx (P := Try.prog) w 28 (a := sx) (b := sy) (c := (rot (x, 0) k).1) (d := (rot (x, 0) k).2) (by have := PB1.out; omega) (by have := PB2.out; omega) (by omega) (by omega)
      clear r1 r2 hk hk2
      go_wp2
      go_round
      case rel => exact ⟨n + 1, by omega, by go_num, by rw [EH.out]⟩
      case measure => simp [intOf]; omega
    · obtain rfl : n = l.length := by omega
      go_wp2_with fail
      refine (plus_any _ _ _ _ (by omega) (by omega) w).mono ?_
      rintro e w' ⟨rfl, rfl⟩
      rw [sg_I, sg_I]
      go_wp2
      go_ret2
      exact ⟨ret_cplx (by rw [BE.out]) (by rw [BE.out]), rfl⟩

set_option maxHeartbeats 800000 in
theorem beat_4 (T b : Nat) (l : List Int) (w : World) (h : IsP w T b l) (hl : 1 ≤ l.length) (hm : l.length ≤ 1048576) (hc : Counts l) :
    Calls Try.prog 12 #[.pointer (some ⟨b, 0, none⟩), .int .i64 4] w fun e w' => e = .returned (.tuple #[.complex .f64 (I (prt l 1 l.length).1) (I (prt l 1 l.length).2), .int .i64 0]) ∧ w = w' := by
  have H := h
  obtain ⟨A, c, B, hB, hr, _⟩ := h
  have hcell : w.cell? ⟨b, 0, none⟩ = some (.slice A l.length c) := hB.cell 0
  clear hB
  have BE := Lib.hid (bt_eq l 1 (by omega))
  go_enter Try.func12, Try.ntmps12
  go_wp2_with fail
  refine (made_yes T b l w H hl).mono ?_
  rintro e w' ⟨rfl, rfl⟩
  go_wp2
  go_loop [7, 25] (fun t i => ∃ n : Nat, n ≤ l.length ∧ i = .int .i64 n ∧ t = .complex .f64 (I (bt l 1 n).1) (I (bt l 1 n).2)) (fun _ i => l.length - (intOf i).toNat)
  case atStart => exact ⟨0, Nat.zero_le _, rfl, rfl⟩
  case round =>
    obtain ⟨n, hn, rfl, rfl⟩ := hrel
    have pb := prt_bd hc 1 n (by omega)
    rw [← BE.out n] at pb
    obtain ⟨pb1, pb2⟩ := pb
    have hx := hc n
    by_cases hlt : n < l.length
    · obtain ⟨ad, u, rfl, _, hu, hcc⟩ := hr.at_ hlt
      obtain ⟨_, rfl⟩ := is_at hu
      have rb := rot_bd (l.getD n 0) (n % 4 * 1 % 4)
      have E : bt l 1 (n + 1) = ((bt l 1 n).1 + (rot (l.getD n 0, 0) (n % 4 * 1 % 4)).1, (bt l 1 n).2 + (rot (l.getD n 0, 0) (n % 4 * 1 % 4)).2) := rfl
      generalize (bt l 1 n).1 = sx at *
      generalize (bt l 1 n).2 = sy at *
      generalize l.getD n 0 = x at *
      have EH := Lib.hid E
      have RB := Lib.hid rb
      have PB1 := Lib.hid pb1
      have PB2 := Lib.hid pb2
      have hi : floatOfInt .f64 x = I x := nearest_I (by omega)
      have HI := Lib.hid hi
      clear hu E rb pb1 pb2 hi
      go_wp2_with fail
      rw [HI.out]
      refine (turn_any x 0 _ (by omega) (by omega) _).mono ?_
      rintro e w' ⟨rfl, rfl⟩
      obtain ⟨k, hk⟩ : ∃ k : Nat, k = n % 4 * 1 % 4 := ⟨_, rfl⟩
      have hk2 : ((n : Int) % 4 % 4).toNat = k := by omega
      rw [hk2]
      rw [← hk] at EH RB
      have r1 := RB.out.1
      have r2 := RB.out.2
      have hadd := add_cplx (P := Try.prog) w 28 (a := sx) (b := sy) (c := (rot (x, 0) k).1) (d := (rot (x, 0) k).2) (by have := PB1.out; omega) (by have := PB2.out; omega) (by omega) (by omega)
      clear r1 r2 hk hk2
      go_wp2
      go_round
      case rel => exact ⟨n + 1, by omega, by go_num, by rw [EH.out]⟩
      case measure => simp [intOf]; omega
    · obtain rfl : n = l.length := by omega
      go_wp2_with fail
      refine (plus_any _ _ _ _ (by omega) (by omega) w).mono ?_
      rintro e w' ⟨rfl, rfl⟩
      rw [sg_I, sg_I]
      go_wp2
      go_ret2
      exact ⟨ret_cplx (by rw [BE.out]) (by rw [BE.out]), rfl⟩
end Go.Proofs.Yteieghndpkmobaa
