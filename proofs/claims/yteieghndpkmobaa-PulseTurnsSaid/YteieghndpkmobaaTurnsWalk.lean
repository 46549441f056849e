/- The law PulseTurns, walked. -/
import Derived.Test.YteieghndpkmobaaBackWalk
namespace Go.Proofs.Yteieghndpkmobaa
open Go.RowKit

theorem rot_back (x y : Int) : rot (rot (x, y) ((3 : Int) % 4).toNat) ((1 : Int) % 4).toNat = (x, y) := by simp [rot]
theorem tmod_big (x : Int) : (x.tmod 1099511627776).natAbs < 2 ^ 41 := by
  rw [Int.natAbs_tmod]
  have := Nat.mod_lt x.natAbs (show 0 < (1099511627776 : Int).natAbs by decide)
  have e : (1099511627776 : Int).natAbs = 1099511627776 := rfl
  rw [e] at this ⊢
  omega

set_option maxRecDepth 100000 in
set_option maxHeartbeats 800000 in
theorem turns_core (w : World) (re im n : Int) :
    Calls Try.prog 5 #[.int .i64 re, .int .i64 im, .int .i64 n] w fun e w' => e = .returned (.bool true) ∧ Below w.heap.size w w' := by
  obtain ⟨X, hX⟩ : ∃ X, re.tmod 1099511627776 = X := ⟨_, rfl⟩
  obtain ⟨Y, hY⟩ : ∃ Y, im.tmod 1099511627776 = Y := ⟨_, rfl⟩
  have bX : X.natAbs < 2 ^ 41 := by rw [← hX]; exact tmod_big re
  have bY : Y.natAbs < 2 ^ 41 := by rw [← hY]; exact tmod_big im
  obtain ⟨m1, m2, m3⟩ := tmod4 n
  have f1 : floatOfInt .f64 X = I X := nearest_I (by omega)
  have f2 : floatOfInt .f64 Y = I Y := nearest_I (by omega)
  have x1 : -2199023255552 ≤ X ∧ X ≤ 2199023255552 := by omega
  have y1 : -2199023255552 ≤ Y ∧ Y ≤ 2199023255552 := by omega
  obtain ⟨K, hK⟩ : ∃ K : Nat, K = (n % 4).toNat := ⟨_, rfl⟩
  have hK3 : K ≤ 3 := by omega
  have e0 := eq_self (a := X) (by omega)
  have e1 := eq_self (a := Y) (by omega)
  have BX := Lib.hid bX
  have BY := Lib.hid bY
  have M3 := Lib.hid m3
  have HK := Lib.hid hK
  obtain ⟨x1, x2⟩ := x1
  obtain ⟨y1, y2⟩ := y1
  clear bX bY m3 hK
  go_enter Try.func5, Try.ntmps5
  go_wp2
  · have hr : n.tmod 4 + 4 = (K : Int) := by have := HK.out; have := M3.out; omega
    rw [hr]
    clear hr m1 m2
    go_loop [9, 10, 11] (fun p q i => ∃ j : Nat, j ≤ K ∧ i = .int .i64 j ∧ p = .int .i64 (rot (X, Y) j).1 ∧ q = .int .i64 (rot (X, Y) j).2) (fun _ _ i => K - (intOf i).toNat)
    case atStart => exact ⟨0, Nat.zero_le _, rfl, rfl, rfl⟩
    case round =>
      obtain ⟨j, hj, rfl, rfl, rfl⟩ := hrel
      have rb := rot_bd2 X Y j (2 ^ 41) (Nat.le_of_lt BX.out) (Nat.le_of_lt BY.out)
      have r1 : -2199023255552 ≤ (rot (X, Y) j).1 ∧ (rot (X, Y) j).1 ≤ 2199023255552 := by omega
      have r2 : -2199023255552 ≤ (rot (X, Y) j).2 ∧ (rot (X, Y) j).2 ≤ 2199023255552 := by omega
      obtain ⟨r11, r12⟩ := r1
      obtain ⟨r21, r22⟩ := r2
      have RB := Lib.hid rb
      clear rb
      by_cases hlt : j < K
      · have RS : rot (X, Y) (j + 1) = (-(rot (X, Y) j).2, (rot (X, Y) j).1) := rfl
        have HS := Lib.hid RS
        clear RS
        go_wp2
        go_round
        case rel => exact ⟨j + 1, by omega, by go_num, by rw [HS.out], by rw [HS.out]⟩
        case measure => simp [intOf]; omega
      · obtain rfl : j = K := by omega
        have t := turn_any X Y n (by have := BX.out; omega) (by have := BY.out; omega)
        rw [← HK.out] at t
        have rb := RB.out
        have wh := whole_any (rot (X, Y) j).1 (rot (X, Y) j).2 (by omega) (by omega)
        have t3 := turn_any X Y 3 (by have := BX.out; omega) (by have := BY.out; omega)
        have b3 := rot_bd2 X Y ((3 : Int) % 4).toNat (2 ^ 41) (Nat.le_of_lt BX.out) (Nat.le_of_lt BY.out)
        have t1 := turn_any (rot (X, Y) ((3 : Int) % 4).toNat).1 (rot (X, Y) ((3 : Int) % 4).toNat).2 1 (by omega) (by omega)
        rw [show ((rot (X, Y) ((3 : Int) % 4).toNat).1, (rot (X, Y) ((3 : Int) % 4).toNat).2) = rot (X, Y) ((3 : Int) % 4).toNat from rfl, rot_back X Y] at t1
        generalize rot (X, Y) ((3 : Int) % 4).toNat = R3 at *
        generalize rot (X, Y) j = R at *
        have T := Lib.hid t
        have T3 := Lib.hid t3
        have T1 := Lib.hid t1
        have WH := Lib.hid wh
        clear t t3 t1 wh rb b3 r11 r12 r21 r22
        go_wp2_with fail
        refine (lives_any w).mono ?_
        rintro e w1 ⟨rfl, hb1⟩
        go_wp2_with fail
        refine (T.out w1).mono ?_
        rintro e w' ⟨rfl, rfl⟩
        go_wp2_with fail
        refine (WH.out w1).mono ?_
        rintro e w' ⟨rfl, rfl⟩
        go_wp2_with fail
        refine (T3.out w1).mono ?_
        rintro e w' ⟨rfl, rfl⟩
        go_wp2_with fail
        refine (T1.out w1).mono ?_
        rintro e w' ⟨rfl, rfl⟩
        go_wp2
        go_ret
        exact ⟨rfl, hb1⟩
  · have hr : n.tmod 4 = (K : Int) := by have := HK.out; have := M3.out; omega
    rw [hr]
    clear hr m1 m2
    go_loop [9, 10, 11] (fun p q i => ∃ j : Nat, j ≤ K ∧ i = .int .i64 j ∧ p = .int .i64 (rot (X, Y) j).1 ∧ q = .int .i64 (rot (X, Y) j).2) (fun _ _ i => K - (intOf i).toNat)
    case atStart => exact ⟨0, Nat.zero_le _, rfl, rfl, rfl⟩
    case round =>
      obtain ⟨j, hj, rfl, rfl, rfl⟩ := hrel
      have rb := rot_bd2 X Y j (2 ^ 41) (Nat.le_of_lt BX.out) (Nat.le_of_lt BY.out)
      have r1 : -2199023255552 ≤ (rot (X, Y) j).1 ∧ (rot (X, Y) j).1 ≤ 2199023255552 := by omega
      have r2 : -2199023255552 ≤ (rot (X, Y) j).2 ∧ (rot (X, Y) j).2 ≤ 2199023255552 := by omega
      obtain ⟨r11, r12⟩ := r1
      obtain ⟨r21, r22⟩ := r2
      have RB := Lib.hid rb
      clear rb
      by_cases hlt : j < K
      · have RS : rot (X, Y) (j + 1) = (-(rot (X, Y) j).2, (rot (X, Y) j).1) := rfl
        have HS := Lib.hid RS
        clear RS
        go_wp2
        go_round
        case rel => exact ⟨j + 1, by omega, by go_num, by rw [HS.out], by rw [HS.out]⟩
        case measure => simp [intOf]; omega
      · obtain rfl : j = K := by omega
        have t := turn_any X Y n (by have := BX.out; omega) (by have := BY.out; omega)
        rw [← HK.out] at t
        have rb := RB.out
        have wh := whole_any (rot (X, Y) j).1 (rot (X, Y) j).2 (by omega) (by omega)
        have t3 := turn_any X Y 3 (by have := BX.out; omega) (by have := BY.out; omega)
        have b3 := rot_bd2 X Y ((3 : Int) % 4).toNat (2 ^ 41) (Nat.le_of_lt BX.out) (Nat.le_of_lt BY.out)
        have t1 := turn_any (rot (X, Y) ((3 : Int) % 4).toNat).1 (rot (X, Y) ((3 : Int) % 4).toNat).2 1 (by omega) (by omega)
        rw [show ((rot (X, Y) ((3 : Int) % 4).toNat).1, (rot (X, Y) ((3 : Int) % 4).toNat).2) = rot (X, Y) ((3 : Int) % 4).toNat from rfl, rot_back X Y] at t1
        generalize rot (X, Y) ((3 : Int) % 4).toNat = R3 at *
        generalize rot (X, Y) j = R at *
        have T := Lib.hid t
        have T3 := Lib.hid t3
        have T1 := Lib.hid t1
        have WH := Lib.hid wh
        clear t t3 t1 wh rb b3 r11 r12 r21 r22
        go_wp2_with fail
        refine (lives_any w).mono ?_
        rintro e w1 ⟨rfl, hb1⟩
        go_wp2_with fail
        refine (T.out w1).mono ?_
        rintro e w' ⟨rfl, rfl⟩
        go_wp2_with fail
        refine (WH.out w1).mono ?_
        rintro e w' ⟨rfl, rfl⟩
        go_wp2_with fail
        refine (T3.out w1).mono ?_
        rintro e w' ⟨rfl, rfl⟩
        go_wp2_with fail
        refine (T1.out w1).mono ?_
        rintro e w' ⟨rfl, rfl⟩
        go_wp2
        go_ret
        exact ⟨rfl, hb1⟩

theorem pulseTurns_walk (w : World) (x : Int) (_ : (Lit.int .i64 x).wf = true) (y : Int) (_ : (Lit.int .i64 y).wf = true) (n : Int) (_ : (Lit.int .i64 n).wf = true) :
    Calls Try.prog 5 #[.int .i64 x, .int .i64 y, .int .i64 n] w fun e w' => e = .returned (.bool true) ∧ Below w.heap.size w w' := turns_core w x y n
end Go.Proofs.Yteieghndpkmobaa
