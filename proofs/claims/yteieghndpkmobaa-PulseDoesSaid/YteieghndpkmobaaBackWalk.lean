/- The law PulseBack, walked. -/
import Derived.Test.YteieghndpkmobaaLives
import Derived.Test.YteieghndpkmobaaFrame
namespace Go.Proofs.Yteieghndpkmobaa
open Go.RowKit
attribute [local go_sem] unary_neg_float

theorem ints_of_row {w : World} {a : Option Addr} {len cap : Nat} {zs : List Int} (g : Row w .i64 8 a len cap zs) : zs.length = len ∧ Reads w w.heap.size 1 a len (is zs) ∧ len ≤ cap ∧ cap ≤ 17592186043904 :=
  ⟨g.len_eq, g.reads, g.le, by have := g.reach; omega⟩

theorem back_no (w : World) (a : Option Addr) (len cap : Nat) (zs : List Int) (hr : Reads w w.heap.size 1 a len (is zs)) (hm : len ≤ 17592186043904) (h : ¬ okCounts zs) :
    Calls Try.prog 3 #[.slice a len cap] w fun e w' => e = .returned (.bool true) ∧ Below w.heap.size w w' := by
  go_enter Try.func3, Try.ntmps3
  go_wp2_with fail
  refine (of_no a len cap zs _ w hr (by omega) h).mono ?_
  rintro e w' ⟨rfl, rfl⟩
  go_wp2_with fail
  refine (lives_any w).mono ?_
  rintro e w1 ⟨rfl, hb1⟩
  go_wp2
  go_ret
  exact ⟨rfl, hb1⟩

theorem back_round (l : List Int) (k m : Nat) (hk : k < 4) :
    (prt l 0 m).1 + (rot ((prt l 2 m).1, 0) (2 * (k : Int) % 4).toNat).1 + (rot (prt l 1 m) ((-(k : Int)) % 4).toNat).1 + (rot ((prt l 1 m).1, -(prt l 1 m).2) ((k : Int) % 4).toNat).1 = 4 * fs l k m ∧
    (rot ((prt l 2 m).1, 0) (2 * (k : Int) % 4).toNat).2 + (rot (prt l 1 m) ((-(k : Int)) % 4).toNat).2 + (rot ((prt l 1 m).1, -(prt l 1 m).2) ((k : Int) % 4).toNat).2 = 0 := by
  have h4 : k = 0 ∨ k = 1 ∨ k = 2 ∨ k = 3 := by omega
  rcases h4 with rfl | rfl | rfl | rfl <;> simp [prt, rot] <;> omega

theorem rot_bd2 (x y : Int) (k : Nat) (N : Nat) (hx : x.natAbs ≤ N) (hy : y.natAbs ≤ N) : (rot (x, y) k).1.natAbs ≤ N ∧ (rot (x, y) k).2.natAbs ≤ N := by
  induction k with
  | zero => exact ⟨hx, hy⟩
  | succ k ih =>
    refine ⟨?_, ih.1⟩
    show (-(rot (x, y) k).2).natAbs ≤ _
    rw [Int.natAbs_neg]; exact ih.2

set_option maxRecDepth 100000 in
set_option maxHeartbeats 400000 in
theorem back_yes (w : World) (a : Option Addr) (len cap : Nat) (zs : List Int) (hr : Reads w w.heap.size 1 a len (is zs)) (h : okCounts zs) :
    Calls Try.prog 3 #[.slice a len cap] w fun e w' => e = .returned (.bool true) ∧ Below w.heap.size w w' := by
  have hco := counts_of h
  have hl1 := h.1
  have hl2 := h.2.1
  have OK := Lib.hid h
  clear h
  have p0 := prt_bd hco 0 zs.length hl2
  have p2 := prt_bd hco 2 zs.length hl2
  have p1 := prt_bd hco 1 zs.length hl2
  have b0 := p0.1
  have b2 := p2.1
  have b1 := p1.1
  have q1 := p1.2
  clear p0 p1 p2
  go_enter Try.func3, Try.ntmps3
  go_wp2_with fail
  refine (of_yes a len cap zs w hr OK.out).mono ?_
  rintro e w1 ⟨b, rfl, hp, hb1⟩
  go_wp2_with fail
  refine (lives_any w1).mono ?_
  rintro e w2 ⟨rfl, hb2⟩
  have hb := hb1.trans (hb2.mono hb1.size)
  have hp2 := hp.below hb2
  have c1 := beat_1 58 b _ w2 hp2 hl1 hl2 hco
  have c2 := beat_2 58 b _ w2 hp2 hl1 hl2 hco
  have c4 := beat_4 58 b _ w2 hp2 hl1 hl2 hco
  rw [(prt_im0 zs zs.length).1] at c1
  rw [(prt_im0 zs zs.length).2] at c2
  have FK : Hid (∀ k : Nat, k ≤ 3 → Calls Try.prog 14 #[.pointer (some ⟨b, 0, none⟩), .int .i64 (k : Int)] w2 fun e w' => e = .returned (.int .i64 (fs zs k zs.length)) ∧ w2 = w') := Lib.hid (fun k hk => Fourth_in 58 b zs k w2 hp2 hl1 hl2 hco hk)
  have FB : Hid (∀ k : Nat, 0 ≤ fs zs k zs.length ∧ fs zs k zs.length ≤ 1048576 * zs.length) := Lib.hid (fun k => fs_bd hco k _)
  have BR : Hid (∀ k, k < 4 → _) := Lib.hid (fun k hk => back_round zs k zs.length hk)
  clear hp hp2 hb1 hb2 hr
  obtain ⟨P1, hP1⟩ : ∃ P, P = prt zs 1 zs.length := ⟨_, rfl⟩
  rw [← hP1] at c4 b1 q1 BR
  obtain ⟨C, D⟩ := P1
  simp only at c4 b1 q1 BR
  generalize (prt zs 0 zs.length).1 = A at *
  generalize (prt zs 2 zs.length).1 = B at *
  have C1 := Lib.hid c1
  have C2 := Lib.hid c2
  have C4 := Lib.hid c4
  clear c1 c2 c4 hP1 hco
  go_wp2_with fail
  refine C1.out.mono ?_
  rintro e w' ⟨rfl, rfl⟩
  go_wp2_with fail
  refine C2.out.mono ?_
  rintro e w' ⟨rfl, rfl⟩
  go_wp2_with fail
  refine C4.out.mono ?_
  rintro e w' ⟨rfl, rfl⟩
  go_wp2_with fail
  rw [show Op.negFloat .f64 (I D) = W (!decide (D < 0)) D.natAbs from neg_W (by omega)]
  go_wp2_with fail
  go_loop [12] (fun i => ∃ k : Nat, k ≤ 4 ∧ i = .int .i64 k) (fun i => 4 - (intOf i).toNat)
  case atStart => exact ⟨0, by omega, rfl⟩
  case round =>
    obtain ⟨k, hk, rfl⟩ := hrel
    by_cases hlt : k < 4
    · have F := FB.out k
      have R := BR.out k hlt
      have T1 := turn_any B 0 (2 * (k : Int)) (by omega) (by omega) w2
      have T2 := turn_any C D (-(k : Int)) (by omega) (by omega) w2
      have T3 := turn_W C (-D) (k : Int) (decide (C < 0)) (!decide (D < 0)) C.natAbs D.natAbs (by omega) (by omega) (sg_I C) (by rw [sg_not, sg_I]) w2
      have r1 := rot_bd2 B 0 (2 * (k : Int) % 4).toNat 4398046511104 (by omega) (by omega)
      have r2 := rot_bd2 C D (-(k : Int) % 4).toNat 4398046511104 (by omega) (by omega)
      have r3 := rot_bd2 C (-D) ((k : Int) % 4).toNat 4398046511104 (by omega) (by omega)
      have F4 := FK.out k (by omega)
      generalize rot (B, 0) (2 * (k : Int) % 4).toNat = P1 at *
      generalize rot (C, D) (-(k : Int) % 4).toNat = P2 at *
      generalize rot (C, -D) ((k : Int) % 4).toNat = P3 at *
      generalize fs zs k zs.length = G at *
      obtain ⟨x1, y1⟩ := P1
      obtain ⟨x2, y2⟩ := P2
      obtain ⟨x3, y3⟩ := P3
      simp only at T1 T2 T3 r1 r2 r3 R
      have a1 := add_cplx (P := Try.prog) w2 28 (a := A) (b := 0) (c := x1) (d := y1) (by omega) (by omega) (by omega) (by omega)
      rw [Int.zero_add] at a1
      have a2 := add_cplx (P := Try.prog) w2 28 (a := A + x1) (b := y1) (c := x2) (d := y2) (by omega) (by omega) (by omega) (by omega)
      have a3 := add_cplx (P := Try.prog) w2 28 (a := A + x1 + x2) (b := y1 + y2) (c := x3) (d := y3) (by omega) (by omega) (by omega) (by omega)
      rw [R.1, R.2] at a3
      have hi : floatOfInt .f64 (4 * G) = I (4 * G) := nearest_I (by omega)
      have e1 := eq_self (a := 4 * G) (by omega)
      have e2 := eq_self (a := 0) (by omega)
      obtain ⟨g1, g2⟩ := F
      have hT1 := Lib.hid T1
      have hT2 := Lib.hid T2
      have hT3 := Lib.hid T3
      have hF4 := Lib.hid F4
      clear T1 T2 T3 F4 R r1 r2 r3
      go_wp2_with fail
      refine hT1.out.mono ?_
      rintro e w' ⟨rfl, rfl⟩
      go_wp2_with fail
      refine hT2.out.mono ?_
      rintro e w' ⟨rfl, rfl⟩
      go_wp2_with fail
      refine hT3.out.mono ?_
      rintro e w' ⟨rfl, rfl⟩
      go_wp2_with fail
      refine hF4.out.mono ?_
      rintro e w' ⟨rfl, rfl⟩
      go_wp2
      go_round
      case rel => exact ⟨k + 1, by omega, by go_num⟩
      case measure => simp [intOf]; omega
    · obtain rfl : k = 4 := by omega
      go_wp2
      go_ret
      exact ⟨rfl, hb⟩

theorem pulseBack_walk (w : World) (a : Option Addr) (len cap : Nat) (zs : List Int) (g : Row w .i64 8 a len cap zs) :
    Calls Try.prog 3 #[.slice a len cap] w fun e w' => e = .returned (.bool true) ∧ Below w.heap.size w w' := by
  obtain ⟨_, hr, hle, hcap⟩ := ints_of_row g
  by_cases h : okCounts zs
  · exact back_yes w a len cap zs hr h
  · exact back_no w a len cap zs hr (by omega) h
end Go.Proofs.Yteieghndpkmobaa
