/- Floats of whole numbers below 2^53: their sums are exact. -/
import Derived.Laws.ComplexArith
set_option linter.unusedVariables false
namespace Go.Proofs.Yteieghndpkmobaa
open Ieee

/-- the word of a whole number below 2^53, with its sign. -/
def W (neg : Bool) (n : Nat) : Nat := if n = 0 then double.word neg 0 else double.word neg ((n.log2 + 1022) * 2 ^ 52 + n * 2 ^ (52 - n.log2))

/-- a datum is a number of this value and this sign. -/
def Val (d : Datum) (neg : Bool) (n : Nat) : Prop := ∃ (m : Nat) (p : Int) (K : Nat), d = .number neg m p ∧ 0 ≤ p + K ∧ m * 2 ^ (p + K).toNat = n * 2 ^ K

/-- the same with a larger K. -/
theorem Val.large {d : Datum} {neg : Bool} {n : Nat} (h : Val d neg n) (J : Nat) : ∃ (m : Nat) (p : Int) (K : Nat), d = .number neg m p ∧ J ≤ K ∧ 0 ≤ p + K - J ∧ m * 2 ^ (p + K).toNat = n * 2 ^ K := by
  obtain ⟨m, p, K, e, hp, h⟩ := h
  refine ⟨m, p, K + J, e, by omega, by omega, ?_⟩
  have e1 : (p + ((K + J : Nat) : Int)).toNat = (p + K).toNat + J := by omega
  rw [e1, Nat.pow_add, Nat.pow_add, ← Nat.mul_assoc, ← Nat.mul_assoc, h]

theorem log2_mul_pow (m j : Nat) (h : m ≠ 0) : (m * 2 ^ j).log2 = m.log2 + j := by
  have h2 : m * 2 ^ j ≠ 0 := Nat.mul_ne_zero h (Nat.pos_iff_ne_zero.1 (Nat.two_pow_pos j))
  rw [Nat.log2_eq_iff h2]
  have h3 := (Nat.log2_eq_iff h (k := m.log2)).1 rfl
  constructor
  · rw [Nat.pow_add]; exact Nat.mul_le_mul_right _ h3.1
  · rw [show m.log2 + j + 1 = (m.log2 + 1) + j from by omega, Nat.pow_add]; exact Nat.mul_lt_mul_of_pos_right h3.2 (Nat.two_pow_pos j)

theorem cut_exact (neg : Bool) (q drop : Nat) (hq : q ≠ 0) : Toward.even.cut neg (q * 2 ^ drop) drop = q := by
  have hl : drop ≤ (q * 2 ^ drop).log2 + 2 := by rw [log2_mul_pow q drop hq]; omega
  unfold Toward.cut
  simp only [Nat.min_eq_left hl, Nat.shiftLeft_eq, Nat.one_mul, Nat.mul_mod_left, Nat.mul_zero]
  rw [Nat.mul_div_cancel _ (Nat.two_pow_pos drop)]
  have h0 := Nat.two_pow_pos drop
  simp

theorem sig_bounds (n : Nat) (h0 : n ≠ 0) (h : n < 2 ^ 53) : n.log2 ≤ 52 ∧ 2 ^ 52 ≤ n * 2 ^ (52 - n.log2) ∧ n * 2 ^ (52 - n.log2) < 2 ^ 53 := by
  have h3 := (Nat.log2_eq_iff h0 (k := n.log2)).1 rfl
  have hl : n.log2 ≤ 52 := by
    have : n.log2 < 53 := (Nat.log2_lt h0).2 h
    omega
  refine ⟨hl, ?_, ?_⟩
  · calc 2 ^ 52 = 2 ^ n.log2 * 2 ^ (52 - n.log2) := by rw [← Nat.pow_add]; congr 1; omega
      _ ≤ _ := Nat.mul_le_mul_right _ h3.1
  · calc n * 2 ^ (52 - n.log2) < 2 ^ (n.log2 + 1) * 2 ^ (52 - n.log2) := Nat.mul_lt_mul_of_pos_right h3.2 (Nat.two_pow_pos _)
      _ = 2 ^ 53 := by rw [← Nat.pow_add]; congr 1; omega

theorem write_val {d : Datum} {neg : Bool} {n : Nat} (hn : n < 2 ^ 53) (h : Val d neg n) : double.write d = W neg n := by
  obtain ⟨m, p, K, rfl, hK, hp, e⟩ := h.large 2000
  have lp : double.leastPlace = -1074 := by decide
  by_cases h0 : n = 0
  · subst h0
    have : m = 0 := by
      rw [Nat.zero_mul] at e
      rcases Nat.mul_eq_zero.1 e with h | h
      · exact h
      · exact absurd h (Nat.pos_iff_ne_zero.1 (Nat.two_pow_pos _))
    subst this
    simp [Format.write, Format.nearest, W]
  · obtain ⟨hl, hq1, hq2⟩ := sig_bounds n h0 hn
    have hm : m ≠ 0 := by
      rintro rfl
      rw [Nat.zero_mul] at e
      rcases Nat.mul_eq_zero.1 e.symm with h | h
      · exact h0 h
      · exact absurd h (Nat.pos_iff_ne_zero.1 (Nat.two_pow_pos _))
    have hlog : m.log2 + (p + K).toNat = n.log2 + K := by rw [← log2_mul_pow m _ hm, ← log2_mul_pow n _ h0, e]
    have hlast : max (p + m.log2 - double.fractionBits) double.leastPlace = (n.log2 : Int) - 52 := by
      have : (double.fractionBits : Int) = 52 := rfl
      rw [lp, this]; omega
    have hkept : Toward.even.cut neg (m <<< (p - ((n.log2 : Int) - 52)).toNat) (((n.log2 : Int) - 52) - p).toNat = n * 2 ^ (52 - n.log2) := by
      by_cases hc : (n.log2 : Int) - 52 ≤ p
      · have e0 : (((n.log2 : Int) - 52) - p).toNat = 0 := by omega
        have e1 : m * 2 ^ (p - ((n.log2 : Int) - 52)).toNat = n * 2 ^ (52 - n.log2) := by
          refine Nat.eq_of_mul_eq_mul_right (Nat.two_pow_pos (K - (52 - n.log2))) ?_
          rw [Nat.mul_assoc, ← Nat.pow_add, Nat.mul_assoc, ← Nat.pow_add]
          rw [show (p - ((n.log2 : Int) - 52)).toNat + (K - (52 - n.log2)) = (p + K).toNat from by omega, show 52 - n.log2 + (K - (52 - n.log2)) = K from by omega]
          exact e
        rw [e0, Nat.shiftLeft_eq, e1]
        have := cut_exact neg (n * 2 ^ (52 - n.log2)) 0 (by omega)
        simpa using this
      · have e0 : (p - ((n.log2 : Int) - 52)).toNat = 0 := by omega
        have e1 : m = n * 2 ^ (52 - n.log2) * 2 ^ (((n.log2 : Int) - 52) - p).toNat := by
          refine Nat.eq_of_mul_eq_mul_right (Nat.two_pow_pos (p + K).toNat) ?_
          rw [e, Nat.mul_assoc, Nat.mul_assoc, ← Nat.pow_add, ← Nat.pow_add]
          congr 2; omega
        rw [e0, Nat.shiftLeft_zero, e1]
        exact cut_exact _ _ _ (by omega)
    unfold Format.write Format.nearest
    simp only [hm, if_false, hlast, hkept]
    unfold W
    rw [if_neg h0, lp]
    congr 1
    have i1 : double.infRung = 2047 * 2 ^ 52 := rfl
    have i2 : double.binade = 2 ^ 52 := rfl
    have i3 : (((n.log2 : Int) - 52) - (-1074)).toNat = n.log2 + 1022 := by omega
    rw [i1, i2, i3, Nat.min_eq_left]
    omega

theorem word_double (neg : Bool) (r : Nat) : double.word neg r = if neg then 2 ^ 63 + r else r := rfl

theorem read_word {neg : Bool} {r : Nat} (h : r < 2 ^ 63) : double.word neg r / double.signWeight % 2 = (if neg then 1 else 0) ∧ double.word neg r % double.signWeight = r := by
  have hs : double.signWeight = 2 ^ 63 := rfl
  rw [word_double, hs]
  cases neg <;> simp <;> omega

theorem zero_val (neg : Bool) (p : Int) : Val (.number neg 0 p) neg 0 := ⟨0, p, (-p).toNat, rfl, by omega, by rw [Nat.zero_mul, Nat.zero_mul]⟩

theorem read_W (neg : Bool) (n : Nat) (hn : n < 2 ^ 53) : Val (double.read (W neg n)) neg n := by
  have lp : double.leastPlace = -1074 := by decide
  have i1 : double.infRung = 2047 * 2 ^ 52 := rfl
  have i2 : double.binade = 2 ^ 52 := rfl
  have hb : ((if neg then 1 else 0 : Nat) == 1) = neg := by cases neg <;> rfl
  by_cases h0 : n = 0
  · subst h0
    obtain ⟨e1, e2⟩ := read_word (neg := neg) (r := 0) (by omega)
    have e : double.read (W neg 0) = .number neg 0 (-1074) := by
      unfold W Format.read
      simp only [if_true, e1, e2, hb, i2, lp]
      rw [if_pos (by omega)]
    rw [e]
    exact zero_val neg _
  · obtain ⟨hl, hq1, hq2⟩ := sig_bounds n h0 hn
    obtain ⟨e1, e2⟩ := read_word (neg := neg) (r := (n.log2 + 1022) * 2 ^ 52 + n * 2 ^ (52 - n.log2)) (by omega)
    refine ⟨n * 2 ^ (52 - n.log2), (n.log2 : Int) - 52, 52, ?_, by omega, ?_⟩
    · unfold W Format.read
      simp only [if_neg h0, e1, e2, hb, i1, i2, lp]
      rw [if_neg (by omega), if_pos (by omega)]
      generalize n * 2 ^ (52 - n.log2) = q at *
      have f1 : ((n.log2 + 1022) * 2 ^ 52 + q) % 2 ^ 52 = q - 2 ^ 52 := by omega
      have f2 : ((n.log2 + 1022) * 2 ^ 52 + q) / 2 ^ 52 = n.log2 + 1023 := by omega
      rw [f1, f2, show 2 ^ 52 + (q - 2 ^ 52) = q from by omega, show (-1074 : Int) + ((n.log2 + 1023 - 1 : Nat) : Int) = (n.log2 : Int) - 52 from by omega]
    · rw [Nat.mul_assoc, ← Nat.pow_add, show 52 - n.log2 + ((n.log2 : Int) - 52 + ((52 : Nat) : Int)).toNat = 52 from by omega]

/-- the whole number of a sign and a size. -/
def sg (neg : Bool) (n : Nat) : Int := if neg then -(n : Int) else n

theorem signed_mul (s : Bool) (m k J : Nat) : signed s m k * (2 ^ J : Nat) = sg s (m * 2 ^ (k + J)) := by
  unfold signed sg
  rw [Nat.shiftLeft_eq, Nat.pow_add]
  cases s <;> simp [Int.natCast_mul, Int.mul_assoc, Int.neg_mul]

theorem sg_mul (s : Bool) (n J : Nat) : sg s (n * J) = sg s n * (J : Int) := by
  unfold sg
  cases s <;> simp [Int.natCast_mul, Int.neg_mul]

theorem sums {s t : Bool} {a b m n : Nat} {i j : Int} {K : Nat} (hi : 0 ≤ i + K) (hj : 0 ≤ j + K) (ha : m * 2 ^ (i + K).toNat = a * 2 ^ K) (hb : n * 2 ^ (j + K).toNat = b * 2 ^ K) :
    signed s m (i - min i j).toNat * (2 ^ (min i j + K).toNat : Nat) = sg s a * (2 ^ K : Nat) ∧ signed t n (j - min i j).toNat * (2 ^ (min i j + K).toNat : Nat) = sg t b * (2 ^ K : Nat) := by
  constructor
  · rw [signed_mul, show (i - min i j).toNat + (min i j + K).toNat = (i + K).toNat from by omega, ha, sg_mul]
  · rw [signed_mul, show (j - min i j).toNat + (min i j + K).toNat = (j + K).toNat from by omega, hb, sg_mul]

theorem two_val {d e : Datum} {s t : Bool} {a b : Nat} (h1 : Val d s a) (h2 : Val e t b) :
    ∃ (m n : Nat) (i j : Int) (K : Nat), d = .number s m i ∧ e = .number t n j ∧ 0 ≤ i + K ∧ 0 ≤ j + K ∧ m * 2 ^ (i + K).toNat = a * 2 ^ K ∧ n * 2 ^ (j + K).toNat = b * 2 ^ K := by
  obtain ⟨m, i, K1, rfl, hi, ha⟩ := h1
  obtain ⟨n, j, K2, rfl, hj, hb⟩ := h2
  refine ⟨m, n, i, j, K1 + K2, rfl, rfl, by omega, by omega, ?_, ?_⟩
  · rw [show (i + ((K1 + K2 : Nat) : Int)).toNat = (i + K1).toNat + K2 from by omega, Nat.pow_add, Nat.pow_add, ← Nat.mul_assoc, ← Nat.mul_assoc, ha]
  · rw [show (j + ((K1 + K2 : Nat) : Int)).toNat = (j + K2).toNat + K1 from by omega, Nat.pow_add, Nat.add_comm K1 K2, Nat.pow_add, ← Nat.mul_assoc, ← Nat.mul_assoc, hb]

theorem mul_pow_inj {x y : Int} (J : Nat) (h : x * (2 ^ J : Nat) = y * (2 ^ J : Nat)) : x = y := by
  have h0 : ((2 ^ J : Nat) : Int) ≠ 0 := by have := Nat.two_pow_pos J; omega
  exact Int.eq_of_mul_eq_mul_right h0 h

theorem sum_val {d e : Datum} {s t : Bool} {a b : Nat} (h1 : Val d s a) (h2 : Val e t b) :
    ∃ f, d.sum e = some f ∧ Val f (if sg s a + sg t b = 0 then s && t else decide (sg s a + sg t b < 0)) (sg s a + sg t b).natAbs := by
  obtain ⟨m, n, i, j, K, rfl, rfl, hi, hj, ha, hb⟩ := two_val h1 h2
  obtain ⟨q1, q2⟩ := sums (s := s) (t := t) hi hj ha hb
  refine ⟨_, rfl, ?_⟩
  generalize signed s m (i - min i j).toNat = x at q1
  generalize signed t n (j - min i j).toNat = y at q2
  have q : (x + y) * (2 ^ (min i j + K).toNat : Nat) = (sg s a + sg t b) * (2 ^ K : Nat) := by rw [Int.add_mul, Int.add_mul, q1, q2]
  have z1 : ((2 ^ (min i j + K).toNat : Nat) : Int) > 0 := by have := Nat.two_pow_pos (min i j + K).toNat; omega
  have z2 : ((2 ^ K : Nat) : Int) > 0 := by have := Nat.two_pow_pos K; omega
  have e0 : x + y = 0 ↔ sg s a + sg t b = 0 := by
    constructor
    · intro h; rw [h, Int.zero_mul] at q; rcases Int.mul_eq_zero.1 q.symm with h | h
      · exact h
      · omega
    · intro h; rw [h, Int.zero_mul] at q; rcases Int.mul_eq_zero.1 q with h | h
      · exact h
      · omega
  have e1 : x + y < 0 ↔ sg s a + sg t b < 0 := by
    constructor
    · intro h
      have := Int.mul_neg_of_neg_of_pos h z1
      rw [q] at this
      exact Int.lt_of_not_ge fun hh => by have := Int.mul_nonneg hh (Int.le_of_lt z2); omega
    · intro h
      have := Int.mul_neg_of_neg_of_pos h z2
      rw [← q] at this
      exact Int.lt_of_not_ge fun hh => by have := Int.mul_nonneg hh (Int.le_of_lt z1); omega
  refine ⟨(x + y).natAbs, min i j, K, ?_, by omega, ?_⟩
  · congr 1
    by_cases h : x + y = 0
    · simp [h, e0.1 h]
    · simp [h, mt e0.2 h, e1]
  · have := congrArg Int.natAbs q
    rwa [Int.natAbs_mul, Int.natAbs_mul, Int.natAbs_natCast, Int.natAbs_natCast] at this

theorem order_val {d e : Datum} {s t : Bool} {a b : Nat} (h1 : Val d s a) (h2 : Val e t b) : d.order e = some (compare (sg s a) (sg t b)) := by
  obtain ⟨m, n, i, j, K, rfl, rfl, hi, hj, ha, hb⟩ := two_val h1 h2
  obtain ⟨q1, q2⟩ := sums (s := s) (t := t) hi hj ha hb
  unfold Datum.order
  simp only
  generalize signed s m (i - min i j).toNat = x at *
  generalize signed t n (j - min i j).toNat = y at *
  have z1 : ((2 ^ (min i j + K).toNat : Nat) : Int) > 0 := by have := Nat.two_pow_pos (min i j + K).toNat; omega
  have z2 : ((2 ^ K : Nat) : Int) > 0 := by have := Nat.two_pow_pos K; omega
  congr 1
  generalize sg s a = u at *
  generalize sg t b = v at *
  have l1 : x < y ↔ u < v := by
    rw [← Int.mul_lt_mul_right z1, q1, q2, Int.mul_lt_mul_right z2]
  have l2 : y < x ↔ v < u := by
    rw [← Int.mul_lt_mul_right z1, q1, q2, Int.mul_lt_mul_right z2]
  simp only [compare, compareOfLessAndEq]
  by_cases c1 : x < y
  · rw [if_pos c1, if_pos (l1.1 c1)]
  · rw [if_neg c1, if_neg (mt l1.2 c1)]
    by_cases c2 : x = y
    · have : u = v := by
        have a1 := mt l1.2 c1
        have : ¬ y < x := by omega
        have a2 := mt l2.2 this
        omega
      rw [if_pos c2, if_pos this]
    · have : u ≠ v := by
        have : y < x := by omega
        have := l2.1 this
        omega
      rw [if_neg c2, if_neg this]

/-- the word of a whole number; 0 is +0. -/
def I (n : Int) : Nat := W (decide (n < 0)) n.natAbs

theorem sg_I (n : Int) : sg (decide (n < 0)) n.natAbs = n := by
  unfold sg
  by_cases h : n < 0 <;> simp [h] <;> omega

theorem W_eq_I {s : Bool} {n : Nat} (h : n ≠ 0 ∨ s = false) : W s n = I (sg s n) := by
  unfold I sg
  cases s
  · have h1 : ¬ ((n : Int) < 0) := by omega
    simp [h1]
  · have h2 : n ≠ 0 := by simpa using h
    have h1 : -(n : Int) < 0 := by omega
    simp only [if_true, h1, decide_true, Int.natAbs_neg, Int.natAbs_natCast]

theorem nearest_I {n : Int} (h : n.natAbs < 2 ^ 53) : Go.floatOfInt .f64 n = I n := by
  refine write_val h ⟨n.natAbs, 0, 0, rfl, by omega, by simp⟩

theorem add_W {s t : Bool} {a b : Nat} (ha : a < 2 ^ 53) (hb : b < 2 ^ 53) (hc : (sg s a + sg t b).natAbs < 2 ^ 53) (hz : s = false ∨ t = false ∨ a ≠ 0 ∨ b ≠ 0) : double.add (W s a) (W t b) = some (I (sg s a + sg t b)) := by
  obtain ⟨f, hf, hv⟩ := sum_val (read_W s a ha) (read_W t b hb)
  unfold Format.add
  rw [hf, Option.map_some, write_val hc hv]
  unfold I
  congr 2
  by_cases h : sg s a + sg t b = 0
  · rw [if_pos h, h]
    have : (s && t) = false := by
      rcases hz with rfl | rfl | hz | hz
      · rfl
      · simp
      all_goals
        cases s <;> cases t <;> try rfl
        simp [sg] at h
        omega
    rw [this]; rfl
  · rw [if_neg h]

theorem add_I {a b : Int} (ha : a.natAbs < 2 ^ 53) (hb : b.natAbs < 2 ^ 53) (hc : (a + b).natAbs < 2 ^ 53) : double.add (I a) (I b) = some (I (a + b)) := by
  have h := add_W (s := decide (a < 0)) (t := decide (b < 0)) ha hb (by rw [sg_I, sg_I]; exact hc) (by
    by_cases h : a < 0
    · exact .inr (.inr (.inl (by omega)))
    · exact .inl (by simpa using h))
  rw [sg_I, sg_I] at h
  exact h

theorem zero_I : I 0 = 0 := rfl

theorem add_zero {s : Bool} {n : Nat} (h : n < 2 ^ 53) : double.add (W s n) 0 = some (I (sg s n)) := by
  have h2 := add_W (s := s) (t := false) (a := n) (b := 0) h (by omega) (by unfold sg; cases s <;> simp <;> omega) (.inr (.inl rfl))
  have e : sg false 0 = 0 := rfl
  rw [e, Int.add_zero] at h2
  exact h2

theorem xor_top {r : Nat} (h : r < 2 ^ 63) : r ^^^ 2 ^ 63 = 2 ^ 63 + r ∧ (2 ^ 63 + r) ^^^ 2 ^ 63 = r := by
  have e : 2 ^ 63 + r = 2 ^ 63 ^^^ r := by
    have := Nat.two_pow_add_eq_or_of_lt h 1
    rw [Nat.mul_one] at this
    rw [this]
    apply Nat.eq_of_testBit_eq
    intro i
    rw [Nat.testBit_or, Nat.testBit_xor, Nat.testBit_two_pow]
    by_cases hi : 63 = i
    · subst hi
      rw [Nat.testBit_lt_two_pow h]; simp
    · simp [hi]
  constructor
  · rw [e, Nat.xor_comm]
  · rw [e, Nat.xor_comm, ← Nat.xor_assoc, Nat.xor_self, Nat.zero_xor]

theorem neg_W {s : Bool} {n : Nat} (h : n < 2 ^ 53) : Go.Op.negFloat .f64 (W s n) = W (!s) n := by
  have key : ∀ r, r < 2 ^ 63 → Go.Op.negFloat .f64 (double.word s r) = double.word (!s) r := by
    intro r hr
    obtain ⟨e1, e2⟩ := xor_top hr
    show double.word s r ^^^ 2 ^ 63 = _
    rw [word_double, word_double]
    cases s
    · simpa using e1
    · simpa using e2
  unfold W
  by_cases h0 : n = 0
  · rw [if_pos h0, if_pos h0]; exact key 0 (by omega)
  · rw [if_neg h0, if_neg h0]
    obtain ⟨hl, hq1, hq2⟩ := sig_bounds n h0 h
    exact key _ (by omega)

theorem order_W {s t : Bool} {a b : Nat} (ha : a < 2 ^ 53) (hb : b < 2 ^ 53) : double.order (W s a) (W t b) = some (compare (sg s a) (sg t b)) := order_val (read_W s a ha) (read_W t b hb)

theorem order_I {a b : Int} (ha : a.natAbs < 2 ^ 53) (hb : b.natAbs < 2 ^ 53) : double.order (I a) (I b) = some (compare a b) := by
  have := order_W (s := decide (a < 0)) (t := decide (b < 0)) ha hb
  rwa [sg_I, sg_I] at this

theorem eq_I {a b : Int} (ha : a.natAbs < 2 ^ 53) (hb : b.natAbs < 2 ^ 53) : (double.order (I a) (I b) == some .eq) = decide (a = b) := by
  rw [order_I ha hb]
  by_cases h : a = b
  · subst h; simp
  · rw [decide_eq_false h]
    have : compare a b ≠ .eq := fun hh => h (Int.compare_eq_eq.1 hh)
    simpa using this

/-- a word that stands for no NaN, and for no negative infinity. -/
def Good (b : Nat) : Prop := (∃ m p, double.read b = .number false m p) ∨ double.read b = .infinity false

theorem good_nearest (m : Nat) (p : Int) : Good (double.nearest false m p) := by
  have key : ∀ r, r ≤ double.infRung → Good (double.word false r) := by
    intro r hr
    have i1 : double.infRung = 2047 * 2 ^ 52 := rfl
    have i2 : double.binade = 2 ^ 52 := rfl
    rw [i1] at hr
    obtain ⟨e1, e2⟩ := read_word (neg := false) (r := r) (by omega)
    unfold Good Format.read
    simp only [e1, e2, i1, i2]
    by_cases h1 : r < 2 ^ 52
    · rw [if_pos h1]; exact .inl ⟨_, _, rfl⟩
    · rw [if_neg h1]
      by_cases h2 : r < 2047 * 2 ^ 52
      · rw [if_pos h2]; exact .inl ⟨_, _, rfl⟩
      · rw [if_neg h2, if_pos (by omega)]; exact .inr rfl
  unfold Format.nearest
  dsimp only
  split
  · exact key _ (Nat.zero_le _)
  · exact key _ (Nat.min_le_right ..)

theorem square_I {a : Int} (ha : a.natAbs < 2 ^ 53) : ∃ r, double.mul (I a) (I a) = some r ∧ Good r := by
  obtain ⟨m, p, K, e, _, _⟩ := read_W (decide (a < 0)) a.natAbs ha
  refine ⟨double.nearest false (m * m) (p + p), ?_, good_nearest _ _⟩
  unfold Format.mul I
  rw [e]
  simp [Datum.product, Format.write]

theorem add_good {x y : Nat} (hx : Good x) (hy : Good y) : ∃ r, double.add x y = some r ∧ Good r := by
  unfold Format.add
  rcases hx with ⟨m, p, e⟩ | e <;> rcases hy with ⟨n, q, f⟩ | f <;> rw [e, f]
  · simp only [Datum.sum, Option.map_some, Option.some.injEq, exists_eq_left', Format.write]
    have : (if signed false m (p - min p q).toNat + signed false n (q - min p q).toNat = 0 then false && false else decide (signed false m (p - min p q).toNat + signed false n (q - min p q).toNat < 0)) = false := by
      unfold signed
      simp only [Bool.false_eq_true, if_false]
      split
      · rfl
      · exact decide_eq_false (Int.not_lt.2 (Int.add_nonneg (Int.natCast_nonneg _) (Int.natCast_nonneg _)))
    rw [this]
    exact good_nearest _ _
  all_goals
    refine ⟨_, rfl, ?_⟩
    exact .inr rfl

theorem order_good {x : Nat} (h : Good x) : (double.order x x == some .eq) = true := by
  unfold Format.order
  rcases h with ⟨m, p, e⟩ | e <;> rw [e] <;> simp [Datum.order]
end Go.Proofs.Yteieghndpkmobaa
