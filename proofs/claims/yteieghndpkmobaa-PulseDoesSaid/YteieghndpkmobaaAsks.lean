/- What the reference's Fourth and Parts, whole and asks answer. -/
import Derived.Test.YteieghndpkmobaaPower
namespace Go.Proofs.Yteieghndpkmobaa
open Go.RowKit Ieee

set_option maxHeartbeats 400000 in
theorem RFourth_in (T b : Nat) (l : List Int) (k : Nat) (w : World) (h : IsP w T b l) (hm : l.length ≤ 1048576) (hc : Counts l) :
    Calls Try.prog 27 #[.pointer (some ⟨b, 0, none⟩), .int .i64 (k : Int)] w fun e w' => e = .returned (.int .i64 (fs l k l.length)) ∧ w = w' := by
  obtain ⟨A, c, B, hB, hr, _⟩ := h
  have hcell : w.cell? ⟨b, 0, none⟩ = some (.slice A l.length c) := hB.cell 0
  clear hB
  go_enter Try.func27, Try.ntmps27
  go_wp2
  go_loop [5, 6] (fun t i => ∃ n : Nat, n ≤ l.length ∧ i = .int .i64 n ∧ t = .int .i64 (fs l k n)) (fun _ i => l.length - (intOf i).toNat)
  case atStart => exact ⟨0, by omega, rfl, rfl⟩
  case round =>
    obtain ⟨n, hn, rfl, rfl⟩ := hrel
    have hb := fs_bd hc k n
    have hx := hc n
    by_cases hlt : n < l.length
    · obtain ⟨ad, u, rfl, _, hu, hcc⟩ := hr.at_ hlt
      obtain ⟨_, rfl⟩ := is_at hu
      have E := Lib.hid (fs_succ l k n)
      generalize l.getD n 0 = x at *
      clear hu
      by_cases e4 : n % 4 = k
      · have t4 : ((n : Int) % 4 == (k : Int)) = true := by simp; omega
        have E4 := Lib.hid e4
        clear e4
        go_wp2
        go_round
        case rel => exact ⟨n + 1, by omega, by go_num, by rw [E.out, if_pos E4.out]⟩
        case measure => simp [intOf]; omega
      · have t4 : ((n : Int) % 4 == (k : Int)) = false := by simp; omega
        have E4 := Lib.hid e4
        clear e4
        go_wp2
        go_round
        case rel => exact ⟨n + 1, by omega, by go_num, by rw [E.out, if_neg E4.out, Int.add_zero]⟩
        case measure => simp [intOf]; omega
    · obtain rfl : n = l.length := by omega
      go_wp2
      go_ret
      exact ⟨rfl, rfl⟩

theorem ret_three {a b c a' b' c' : Int} (h1 : a = a') (h2 : b = b') (h3 : c = c') : Ending.returned (.tuple #[.int .i64 a, .int .i64 b, .int .i64 c]) = .returned (.tuple #[.int .i64 a', .int .i64 b', .int .i64 c']) := by rw [h1, h2, h3]

/-- What the reference answers of a period. -/
def parts (l : List Int) (period : Int) : Int × Int × Int :=
  if period = 1 then ((prt l 0 l.length).1, (prt l 0 l.length).2, 0) else if period = 2 then ((prt l 2 l.length).1, (prt l 2 l.length).2, 0) else if period = 4 then ((prt l 1 l.length).1, (prt l 1 l.length).2, 0) else (0, 0, 1)

theorem Parts_any (T b : Nat) (l : List Int) (period : Int) (w : World) (h : IsP w T b l) (hm : l.length ≤ 1048576) (hc : Counts l) :
    Calls Try.prog 33 #[.pointer (some ⟨b, 0, none⟩), .int .i64 period] w fun e w' => e = .returned (.tuple #[.int .i64 (parts l period).1, .int .i64 (parts l period).2.1, .int .i64 (parts l period).2.2]) ∧ w = w' := by
  have h0 := fs_bd hc 0 l.length
  have h1 := fs_bd hc 1 l.length
  have h2 := fs_bd hc 2 l.length
  have h3 := fs_bd hc 3 l.length
  have c0 := RFourth_in T b l 0 w h hm hc
  have c1 := RFourth_in T b l 1 w h hm hc
  have c2 := RFourth_in T b l 2 w h hm hc
  have c3 := RFourth_in T b l 3 w h hm hc
  have C0 := Lib.hid c0
  have C1 := Lib.hid c1
  have C2 := Lib.hid c2
  have C3 := Lib.hid c3
  have P0 : parts l 1 = (fs l 0 l.length + fs l 1 l.length + fs l 2 l.length + fs l 3 l.length, 0, 0) := by simp [parts, prt]
  have P2 : parts l 2 = (fs l 0 l.length - fs l 1 l.length + fs l 2 l.length - fs l 3 l.length, 0, 0) := by simp [parts, prt]
  have P4 : parts l 4 = (fs l 0 l.length - fs l 2 l.length, fs l 1 l.length - fs l 3 l.length, 0) := by simp [parts, prt]
  have PN : period ≠ 1 → period ≠ 2 → period ≠ 4 → parts l period = (0, 0, 1) := by intro a b c; simp [parts, a, b, c]
  clear c0 c1 c2 c3
  generalize fs l 0 l.length = a at *
  generalize fs l 1 l.length = b' at *
  generalize fs l 2 l.length = c at *
  generalize fs l 3 l.length = d at *
  by_cases e1 : period = 1
  · subst e1
    rw [P0]
    clear P0 P2 P4 PN
    go_enter Try.func33, Try.ntmps33
    go_wp2_with fail
    refine C0.out.mono ?_
    rintro e w' ⟨rfl, rfl⟩
    go_wp2_with fail
    refine C1.out.mono ?_
    rintro e w' ⟨rfl, rfl⟩
    go_wp2_with fail
    refine C2.out.mono ?_
    rintro e w' ⟨rfl, rfl⟩
    go_wp2_with fail
    refine C3.out.mono ?_
    rintro e w' ⟨rfl, rfl⟩
    go_wp2
    go_ret3
    exact ⟨ret_three rfl rfl rfl, rfl⟩
  · by_cases e2 : period = 2
    · subst e2
      rw [P2]
      clear P0 P2 P4 PN e1
      go_enter Try.func33, Try.ntmps33
      go_wp2_with fail
      refine C0.out.mono ?_
      rintro e w' ⟨rfl, rfl⟩
      go_wp2_with fail
      refine C1.out.mono ?_
      rintro e w' ⟨rfl, rfl⟩
      go_wp2_with fail
      refine C2.out.mono ?_
      rintro e w' ⟨rfl, rfl⟩
      go_wp2_with fail
      refine C3.out.mono ?_
      rintro e w' ⟨rfl, rfl⟩
      go_wp2
      go_ret3
      exact ⟨ret_three rfl rfl rfl, rfl⟩
    · by_cases e4 : period = 4
      · subst e4
        rw [P4]
        clear P0 P2 P4 PN e1 e2
        go_enter Try.func33, Try.ntmps33
        go_wp2_with fail
        refine C0.out.mono ?_
        rintro e w' ⟨rfl, rfl⟩
        go_wp2_with fail
        refine C1.out.mono ?_
        rintro e w' ⟨rfl, rfl⟩
        go_wp2_with fail
        refine C2.out.mono ?_
        rintro e w' ⟨rfl, rfl⟩
        go_wp2_with fail
        refine C3.out.mono ?_
        rintro e w' ⟨rfl, rfl⟩
        go_wp2
        go_ret3
        exact ⟨ret_three rfl rfl rfl, rfl⟩
      · rw [PN e1 e2 e4]
        have f1 : (period == 1) = false := beq_eq_false_iff_ne.2 e1
        have f2 : (period == 2) = false := beq_eq_false_iff_ne.2 e2
        have f4 : (period == 4) = false := beq_eq_false_iff_ne.2 e4
        clear P0 P2 P4 PN e1 e2 e4
        go_enter Try.func33, Try.ntmps33
        go_wp2_with fail
        refine C0.out.mono ?_
        rintro e w' ⟨rfl, rfl⟩
        go_wp2_with fail
        refine C1.out.mono ?_
        rintro e w' ⟨rfl, rfl⟩
        go_wp2_with fail
        refine C2.out.mono ?_
        rintro e w' ⟨rfl, rfl⟩
        go_wp2_with fail
        refine C3.out.mono ?_
        rintro e w' ⟨rfl, rfl⟩
        go_wp2
        go_ret3
        exact ⟨ret_three rfl rfl rfl, rfl⟩

def posInf : Nat := 9218868437227405312
theorem quo_zero : floatBits .quo .f64 4607182418800017408 0 = some posInf := by decide
theorem inf_gt : (double.order posInf 0 == some .gt) = true := by decide
theorem eq_self {a : Int} (h : a.natAbs < 2 ^ 53) : (FloatKind.f64.format.order (I a) (I a) == some .eq) = true := by
  have := eq_I h h
  rw [decide_eq_true rfl] at this
  exact this

set_option maxRecDepth 100000 in
theorem whole_any (re im : Int) (ha : re.natAbs < 2 ^ 53) (hb : im.natAbs < 2 ^ 53) (w : World) :
    Calls Try.prog 15 #[.complex .f64 (I re) (I im), .int .i64 re, .int .i64 im] w fun e w' => e = .returned (.bool true) ∧ w = w' := by
  have f1 : floatOfInt .f64 re = I re := nearest_I ha
  have f2 : floatOfInt .f64 im = I im := nearest_I hb
  have g1 := eq_self ha
  have g2 := eq_self hb
  have q : ∀ w : World, (binOp .quo 31 (.float .f64 4607182418800017408) (.float .f64 0)).run Try.prog w = .ok (.float .f64 posInf) w := fun w => run_float_arith w .quo 31 .f64 _ _ _ quo_zero
  have gt : (FloatKind.f64.format.order posInf 0 == some .gt) = true := inf_gt
  clear ha hb
  by_cases r0 : re = 0
  · subst r0
    rw [zero_I] at *
    by_cases i0 : im = 0
    · subst i0
      rw [zero_I] at *
      go_enter Try.func15, Try.ntmps15
      go_wp2
      go_ret
      exact ⟨rfl, rfl⟩
    · have n0 : (im != 0) = true := by simp [i0]
      clear i0
      go_enter Try.func15, Try.ntmps15
      go_wp2
      go_ret
      exact ⟨rfl, rfl⟩
  · have n1 : (re != 0) = true := by simp [r0]
    clear r0
    by_cases i0 : im = 0
    · subst i0
      rw [zero_I] at *
      go_enter Try.func15, Try.ntmps15
      go_wp2
      go_ret
      exact ⟨rfl, rfl⟩
    · have n0 : (im != 0) = true := by simp [i0]
      clear i0
      go_enter Try.func15, Try.ntmps15
      go_wp2
      go_ret
      exact ⟨rfl, rfl⟩

theorem prt_im0 (l : List Int) (m : Nat) : (prt l 0 m).2 = 0 ∧ (prt l 2 m).2 = 0 := by simp [prt]

set_option maxRecDepth 100000 in
set_option maxHeartbeats 800000 in
theorem asks_of (b x : Nat) (l : List Int) (period re im : Int) (w : World) (hx : IsP w 43 x l) (hm : l.length ≤ 1048576) (hc : Counts l)
    (hp : parts l period = (re, im, 0)) (ha : re.natAbs < 2 ^ 50) (hb : im.natAbs < 2 ^ 50)
    (hbeat : Calls Try.prog 12 #[.pointer (some ⟨b, 0, none⟩), .int .i64 period] w fun e' w' => e' = .returned (.tuple #[.complex .f64 (I re) (I im), .int .i64 0]) ∧ w = w') :
    Calls Try.prog 20 #[.pointer (some ⟨b, 0, none⟩), .pointer (some ⟨x, 0, none⟩), .int .i64 period] w fun e w' => e = .returned (.bool true) ∧ w = w' := by
  have hpow := power_of _ period re im 0 w (by omega) (by omega) hbeat
  have hpar := Parts_any 43 x l period w hx hm hc
  rw [hp] at hpar
  have hwh := whole_any re im (by omega) (by omega) w
  have C1 := Lib.hid hbeat
  have C2 := Lib.hid hpow
  have C3 := Lib.hid hpar
  have C4 := Lib.hid hwh
  have f1 : floatOfInt .f64 re = I re := nearest_I (by omega)
  have f2 : floatOfInt .f64 im = I im := nearest_I (by omega)
  have h1 : ∀ w : World, (binOp .mul 31 (.float .f64 (I re)) (.float .f64 (I re))).run Try.prog w = .ok (.float .f64 (sqF re)) w := fun w => run_float_arith w .mul 31 .f64 _ _ _ (sqF_eq (by omega)).1
  have h2 : ∀ w : World, (binOp .mul 31 (.float .f64 (I im)) (.float .f64 (I im))).run Try.prog w = .ok (.float .f64 (sqF im)) w := fun w => run_float_arith w .mul 31 .f64 _ _ _ (sqF_eq (by omega)).1
  have h3 : ∀ w : World, (binOp .add 31 (.float .f64 (sqF re)) (.float .f64 (sqF im))).run Try.prog w = .ok (.float .f64 (pwF re im)) w := fun w => run_float_arith w .add 31 .f64 _ _ _ (pwF_eq (by omega) (by omega)).1
  have h4 : (FloatKind.f64.format.order (pwF re im) (pwF re im) == some .eq) = true := order_good (pwF_eq (by omega) (by omega)).2
  clear hbeat hpow hpar hwh hp ha hb hx hm hc
  go_enter Try.func20, Try.ntmps20
  go_wp2_with fail
  refine C1.out.mono ?_
  rintro e w' ⟨rfl, rfl⟩
  go_wp2_with fail
  refine C2.out.mono ?_
  rintro e w' ⟨rfl, rfl⟩
  go_wp2_with fail
  refine C3.out.mono ?_
  rintro e w' ⟨rfl, rfl⟩
  go_wp2_with fail
  refine C4.out.mono ?_
  rintro e w' ⟨rfl, rfl⟩
  go_wp2
  go_ret
  exact ⟨rfl, rfl⟩

set_option maxRecDepth 100000 in
set_option maxHeartbeats 800000 in
theorem asks_bad (b x : Nat) (l : List Int) (period : Int) (w : World) (h : IsP w 58 b l) (hx : IsP w 43 x l) (hl : 1 ≤ l.length) (hm : l.length ≤ 1048576) (hc : Counts l)
    (h1 : period ≠ 1) (h2 : period ≠ 2) (h4 : period ≠ 4) :
    Calls Try.prog 20 #[.pointer (some ⟨b, 0, none⟩), .pointer (some ⟨x, 0, none⟩), .int .i64 period] w fun e w' => e = .returned (.bool true) ∧ w = w' := by
  have hbeat := beat_bad 58 b l period w h hl h1 h2 h4
  have hpow := power_of (.pointer (some ⟨b, 0, none⟩)) period 0 0 1 w (by omega) (by omega) hbeat
  have hpar := Parts_any 43 x l period w hx hm hc
  have hp : parts l period = (0, 0, 1) := by simp [parts, h1, h2, h4]
  rw [hp] at hpar
  have e0 : pwF 0 0 = 0 := by decide
  rw [e0] at hpow
  have C1 := Lib.hid hbeat
  have C2 := Lib.hid hpow
  have C3 := Lib.hid hpar
  have g : (FloatKind.f64.format.order 0 0 == some .eq) = true := by decide
  clear hbeat hpow hpar hp h hx hm hc h1 h2 h4 e0
  go_enter Try.func20, Try.ntmps20
  go_wp2_with fail
  refine C1.out.mono ?_
  rintro e w' ⟨rfl, rfl⟩
  go_wp2_with fail
  refine C2.out.mono ?_
  rintro e w' ⟨rfl, rfl⟩
  go_wp2_with fail
  refine C3.out.mono ?_
  rintro e w' ⟨rfl, rfl⟩
  go_wp2
  go_ret
  exact ⟨rfl, rfl⟩

theorem asks_any (b x : Nat) (l : List Int) (period : Int) (w : World) (h : IsP w 58 b l) (hx : IsP w 43 x l) (hl : 1 ≤ l.length) (hm : l.length ≤ 1048576) (hc : Counts l) :
    Calls Try.prog 20 #[.pointer (some ⟨b, 0, none⟩), .pointer (some ⟨x, 0, none⟩), .int .i64 period] w fun e w' => e = .returned (.bool true) ∧ w = w' := by
  have p0 := prt_bd hc 0 l.length hm
  have p2 := prt_bd hc 2 l.length hm
  have p1 := prt_bd hc 1 l.length hm
  by_cases h1 : period = 1
  · subst h1
    exact asks_of b x l 1 _ _ w hx hm hc (by simp [parts]) (by omega) (by omega) (beat_1 58 b l w h hl hm hc)
  · by_cases h2 : period = 2
    · subst h2
      exact asks_of b x l 2 _ _ w hx hm hc (by simp [parts]) (by omega) (by omega) (beat_2 58 b l w h hl hm hc)
    · by_cases h4 : period = 4
      · subst h4
        exact asks_of b x l 4 _ _ w hx hm hc (by simp [parts]) (by omega) (by omega) (beat_4 58 b l w h hl hm hc)
      · exact asks_bad b x l period w h hx hl hm hc h1 h2 h4
end Go.Proofs.Yteieghndpkmobaa
