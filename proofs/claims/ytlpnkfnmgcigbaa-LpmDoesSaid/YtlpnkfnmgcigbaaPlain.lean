/- Prefixes: the plain law. -/
namespace Go.Proofs.Ytlpnkfnmgcigbaa
namespace Lp

structure Rt where
  p : Nat
  n : Nat
  v : Int
  deriving DecidableEq

/-- before, by address, then by length. -/
def kl (a b : Rt) : Bool := decide (a.p < b.p) || (decide (a.p = b.p) && decide (a.n < b.n))
theorem kl_iff (a b : Rt) : kl a b = true ↔ a.p < b.p ∨ a.p = b.p ∧ a.n < b.n := by simp [kl]

def Sorted (L : List Rt) : Prop := L.Pairwise (fun a b => kl a b = true)

def has (p n : Nat) (r : Rt) : Bool := decide (r.p = p) && decide (r.n = n)
theorem has_iff (p n : Nat) (r : Rt) : has p n r = true ↔ r.p = p ∧ r.n = n := by simp [has]

def lkp (L : List Rt) (p n : Nat) : Option Int := (L.find? (has p n)).map (·.v)

theorem look_none {L : List Rt} {p n : Nat} : lkp L p n = none ↔ ∀ r ∈ L, ¬ (r.p = p ∧ r.n = n) := by
  simp only [lkp, Option.map_eq_none_iff, List.find?_eq_none, has_iff]

theorem look_mem {L : List Rt} (hs : Sorted L) {p n : Nat} {v : Int} : lkp L p n = some v ↔ (⟨p, n, v⟩ : Rt) ∈ L := by
  constructor
  · intro h
    simp only [lkp, Option.map_eq_some_iff] at h
    obtain ⟨r, h1, rfl⟩ := h
    have h2 := (has_iff _ _ _).1 (List.find?_some h1)
    obtain ⟨rfl, rfl⟩ := h2
    exact List.mem_of_find?_eq_some h1
  · intro h
    induction L with
    | nil => cases h
    | cons a L ih =>
      have hs' := List.pairwise_cons.1 hs
      rcases List.mem_cons.1 h with rfl | h
      · simp [lkp, has]
      · have h1 := (kl_iff _ _).1 (hs'.1 _ h)
        have h2 : has p n a = false := by
          rw [Bool.eq_false_iff]; intro h3
          have := (has_iff _ _ _).1 h3
          simp only at h1; omega
        have := ih hs'.2 h
        unfold lkp at this ⊢
        rw [List.find?_cons, h2]; exact this

/-- where a prefix goes. -/
def ins (L : List Rt) (r : Rt) : List Rt := L.takeWhile (kl · r) ++ r :: L.dropWhile (kl · r)

theorem look_ins (L : List Rt) (r : Rt) (h : lkp L r.p r.n = none) (p n : Nat) : lkp (ins L r) p n = if r.p = p ∧ r.n = n then some r.v else lkp L p n := by
  have e : L.takeWhile (kl · r) ++ L.dropWhile (kl · r) = L := List.takeWhile_append_dropWhile
  unfold ins
  generalize L.takeWhile (kl · r) = A at *
  generalize L.dropWhile (kl · r) = B at *
  subst e
  by_cases c : r.p = p ∧ r.n = n
  · rw [if_pos c]
    obtain ⟨rfl, rfl⟩ := c
    have ha : A.find? (has r.p r.n) = none := by
      rw [List.find?_eq_none]; intro x hx hh
      exact look_none.1 h x (List.mem_append_left _ hx) ((has_iff _ _ _).1 hh)
    simp [lkp, List.find?_append, ha, has]
  · rw [if_neg c]
    have hr : has p n r = false := by rw [Bool.eq_false_iff]; intro hh; exact c ((has_iff _ _ _).1 hh)
    simp [lkp, List.find?_append, hr]

theorem mem_ins {L : List Rt} {r x : Rt} : x ∈ ins L r ↔ x = r ∨ x ∈ L := by
  have e : L.takeWhile (kl · r) ++ L.dropWhile (kl · r) = L := List.takeWhile_append_dropWhile
  have hm : x ∈ L ↔ x ∈ L.takeWhile (kl · r) ∨ x ∈ L.dropWhile (kl · r) := by
    conv => lhs; rw [← e]
    exact List.mem_append
  rw [hm]
  unfold ins
  rw [List.mem_append, List.mem_cons]
  constructor
  · rintro (h | h | h)
    · exact .inr (.inl h)
    · exact .inl h
    · exact .inr (.inr h)
  · rintro (h | h | h)
    · exact .inr (.inl h)
    · exact .inl h
    · exact .inr (.inr h)

theorem sorted_ins {L : List Rt} {r : Rt} (hs : Sorted L) (h : lkp L r.p r.n = none) : Sorted (ins L r) := by
  unfold Sorted ins
  induction L with
  | nil => simp
  | cons a L ih =>
    have hs' := List.pairwise_cons.1 hs
    have hl : lkp L r.p r.n = none := look_none.2 fun x hx => look_none.1 h x (List.mem_cons_of_mem _ hx)
    by_cases c : kl a r = true
    · rw [List.takeWhile_cons_of_pos (by simpa using c), List.dropWhile_cons_of_pos (by simpa using c), List.cons_append]
      refine List.pairwise_cons.2 ⟨?_, ih hs'.2 hl⟩
      intro x hx
      rcases (mem_ins (L := L) (r := r)).1 hx with rfl | hx
      · exact c
      · exact hs'.1 x hx
    · rw [List.takeWhile_cons_of_neg (by simpa using c), List.dropWhile_cons_of_neg (by simpa using c), List.nil_append]
      refine List.pairwise_cons.2 ⟨?_, hs⟩
      have hne := look_none.1 h a (List.mem_cons_self ..)
      have hra : kl r a = true := by
        rw [kl_iff] at c ⊢; omega
      intro x hx
      rcases List.mem_cons.1 hx with rfl | hx
      · exact hra
      · have := hs'.1 x hx
        rw [kl_iff] at this hra ⊢; omega

theorem length_ins (L : List Rt) (r : Rt) : (ins L r).length = L.length + 1 := by
  have e : L.takeWhile (kl · r) ++ L.dropWhile (kl · r) = L := List.takeWhile_append_dropWhile
  have := congrArg List.length e
  rw [List.length_append] at this
  unfold ins
  rw [List.length_append, List.length_cons]; omega

/-- without a prefix. -/
def del (L : List Rt) (p n : Nat) : List Rt := L.filter (fun r => !has p n r)

theorem look_del (L : List Rt) (p n q m : Nat) : lkp (del L p n) q m = if p = q ∧ n = m then none else lkp L q m := by
  by_cases c : p = q ∧ n = m
  · rw [if_pos c, look_none]
    obtain ⟨rfl, rfl⟩ := c
    intro r hr hh
    have := (List.mem_filter.1 hr).2
    rw [(has_iff _ _ _).2 hh] at this; cases this
  · rw [if_neg c]
    unfold lkp del
    rw [List.find?_filter]
    congr 2
    funext r
    by_cases hq : has q m r = true
    · have hp : has p n r = false := by
        rw [Bool.eq_false_iff]; intro hh
        have h1 := (has_iff _ _ _).1 hh
        have h2 := (has_iff _ _ _).1 hq
        omega
      simp [hq, hp]
    · have : has q m r = false := by simpa using hq
      simp [this]

theorem sorted_del {L : List Rt} (hs : Sorted L) (p n : Nat) : Sorted (del L p n) := List.Pairwise.sublist List.filter_sublist hs

/-- the index at which a prefix lies. -/
theorem del_at {L : List Rt} (hs : Sorted L) {i : Nat} {r : Rt} (h : L[i]? = some r) : del L r.p r.n = L.take i ++ L.drop (i + 1) := by
  induction L generalizing i with
  | nil => simp at h
  | cons a L ih =>
    have hs' := List.pairwise_cons.1 hs
    cases i with
    | zero =>
      simp at h; subst h
      have hk : has a.p a.n a = true := by simp [has]
      unfold del
      rw [List.filter_cons, hk]
      simp only [Bool.not_true, Bool.false_eq_true, if_false, List.take_zero, List.nil_append, Nat.zero_add, List.drop_succ_cons, List.drop_zero]
      rw [List.filter_eq_self]
      intro x hx
      have := (kl_iff _ _).1 (hs'.1 x hx)
      simp only [Bool.not_eq_true', Bool.eq_false_iff]
      intro hh
      have := (has_iff _ _ _).1 hh
      omega
    | succ i =>
      simp at h
      have hm : r ∈ L := List.mem_of_getElem? h
      have hk : has r.p r.n a = false := by
        rw [Bool.eq_false_iff]; intro hh
        have h1 := (has_iff _ _ _).1 hh
        have := (kl_iff _ _).1 (hs'.1 r hm)
        omega
      unfold del
      rw [List.filter_cons, hk]
      simp only [Bool.not_false, if_true, List.take_succ_cons, List.drop_succ_cons, List.cons_append]
      congr 1
      exact ih hs'.2 h

theorem length_del {L : List Rt} (hs : Sorted L) {i : Nat} {r : Rt} (h : L[i]? = some r) : (del L r.p r.n).length + 1 = L.length := by
  rw [del_at hs h]
  have hi := (List.getElem?_eq_some_iff.1 h).1
  rw [List.length_append, List.length_take, List.length_drop]; omega

/-- the highest bits of an address. -/
def top (ip i : Nat) : Nat := ip / 2 ^ (32 - i) * 2 ^ (32 - i)
def bit (ip i : Nat) : Nat := ip / 2 ^ (31 - i) % 2

theorem top_zero {ip : Nat} (h : ip < 2 ^ 32) : top ip 0 = 0 := by unfold top; rw [Nat.div_eq_of_lt (by simpa using h), Nat.zero_mul]
theorem top_32 (ip : Nat) : top ip 32 = ip := by simp [top]
theorem top_succ (ip i : Nat) (h : i < 32) : top ip (i + 1) = top ip i + bit ip i * 2 ^ (31 - i) := by
  unfold top bit
  obtain ⟨k, hk⟩ : ∃ k, k = 31 - i := ⟨_, rfl⟩
  rw [show 32 - (i + 1) = k from by omega, show 32 - i = k + 1 from by omega, ← hk, Nat.pow_succ, ← Nat.div_div_eq_div_mul]
  generalize ip / 2 ^ k = a
  have : a = a / 2 * 2 + a % 2 := by omega
  conv => lhs; rw [this]
  rw [Nat.add_mul, Nat.mul_assoc, Nat.mul_comm 2]
theorem top_le (ip i : Nat) : top ip i ≤ ip := Nat.div_mul_le_self _ _
theorem top_dvd (ip i : Nat) : top ip i % 2 ^ (32 - i) = 0 := Nat.mul_mod_left _ _
theorem bit_lt (ip i : Nat) : bit ip i = 0 ∨ bit ip i = 1 := by unfold bit; omega

theorem top_of_dvd {q i : Nat} (h : q % 2 ^ (32 - i) = 0) : top q i = q := by
  unfold top; exact Nat.div_mul_cancel (Nat.dvd_of_mod_eq_zero h)

theorem top_top {ip i j : Nat} (h : i ≤ j) : top (top ip j) i = top ip i := by
  unfold top
  have e : 2 ^ (32 - i) = 2 ^ (32 - j) * 2 ^ (32 - i - (32 - j)) := by rw [← Nat.pow_add]; congr 1; omega
  rw [e, ← Nat.div_div_eq_div_mul, ← Nat.div_div_eq_div_mul, Nat.mul_div_cancel _ (Nat.two_pow_pos _)]

/-- a prefix may be. -/
def Right (L : List Rt) : Prop := ∀ r ∈ L, r.p < 2 ^ 32 ∧ r.n ≤ 32 ∧ r.p % 2 ^ (32 - r.n) = 0

/-- what is below a node. -/
def below (q i : Nat) (r : Rt) : Bool := decide (q ≤ r.p) && decide (r.p < q + 2 ^ (32 - i)) && decide (i ≤ r.n)
theorem below_iff (q i : Nat) (r : Rt) : below q i r = true ↔ q ≤ r.p ∧ r.p < q + 2 ^ (32 - i) ∧ i ≤ r.n := by simp [below, and_assoc]

theorem filter_two {L : List Rt} (hs : Sorted L) (P Q : Rt → Bool) (h : ∀ a ∈ L, ∀ b ∈ L, P a = true → Q b = true → kl a b = true) (hd : ∀ a ∈ L, ¬ (P a = true ∧ Q a = true)) :
    L.filter (fun r => P r || Q r) = L.filter P ++ L.filter Q := by
  induction L with
  | nil => rfl
  | cons a L ih =>
    have hs' := List.pairwise_cons.1 hs
    have e := ih hs'.2 (fun x hx y hy => h x (List.mem_cons_of_mem _ hx) y (List.mem_cons_of_mem _ hy)) (fun x hx => hd x (List.mem_cons_of_mem _ hx))
    by_cases hp : P a = true
    · have hq : Q a = false := by rw [Bool.eq_false_iff]; intro hq; exact hd a (List.mem_cons_self ..) ⟨hp, hq⟩
      simp only [List.filter_cons, hp, hq, Bool.true_or, if_true, Bool.false_eq_true, if_false, List.cons_append, e]
    · have hp' : P a = false := by simpa using hp
      by_cases hq : Q a = true
      · have hn : L.filter P = [] := by
          rw [List.filter_eq_nil_iff]
          intro x hx hpx
          have h1 := (kl_iff _ _).1 (h x (List.mem_cons_of_mem _ hx) a (List.mem_cons_self ..) hpx hq)
          have h2 := (kl_iff _ _).1 (hs'.1 x hx)
          omega
        simp only [List.filter_cons, hp', hq, Bool.or_true, if_true, Bool.false_eq_true, if_false, e, hn, List.nil_append]
      · have hq' : Q a = false := by simpa using hq
        simp only [List.filter_cons, hp', hq', Bool.or_false, Bool.false_eq_true, if_false, e]

/-- what is below a node, in order; fuel. -/
def pre (L : List Rt) : Nat → Nat → Nat → List Rt
  | 0, _, _ => []
  | f + 1, q, i => (match lkp L q i with | some v => [⟨q, i, v⟩] | none => []) ++ (pre L f q (i + 1) ++ pre L f (q + 2 ^ (31 - i)) (i + 1))

theorem self_filter {L : List Rt} (hs : Sorted L) (q i : Nat) : L.filter (has q i) = (match lkp L q i with | some v => [⟨q, i, v⟩] | none => []) := by
  induction L with
  | nil => rfl
  | cons a L ih =>
    have hs' := List.pairwise_cons.1 hs
    by_cases c : has q i a = true
    · obtain ⟨rfl, rfl⟩ := (has_iff _ _ _).1 c
      have hn : L.filter (has a.p a.n) = [] := by
        rw [List.filter_eq_nil_iff]
        intro x hx hh
        have h1 := (kl_iff _ _).1 (hs'.1 x hx)
        have h2 := (has_iff _ _ _).1 hh
        omega
      simp only [List.filter_cons, c, if_true, hn, lkp, List.find?_cons, Option.map_some]
    · have c' : has q i a = false := by simpa using c
      simp only [List.filter_cons, c', Bool.false_eq_true, if_false, ih hs'.2, lkp, List.find?_cons]

theorem pre_eq {L : List Rt} (hs : Sorted L) (hr : Right L) : ∀ (f q i : Nat), i + f = 33 → q % 2 ^ (32 - i) = 0 → pre L f q i = L.filter (below q i) := by
  intro f
  induction f with
  | zero =>
    intro q i hi hq
    symm
    simp only [pre]
    rw [List.filter_eq_nil_iff]
    intro x hx hh
    have h1 := (below_iff _ _ _).1 hh
    have h2 := hr x hx
    omega
  | succ f ih =>
    intro q i hi hq
    simp only [pre]
    rw [← self_filter hs]
    by_cases h32 : i = 32
    · subst h32
      have hf : f = 0 := by omega
      subst hf
      simp only [pre, List.append_nil]
      apply List.filter_congr
      intro x hx
      have h2 := hr x hx
      rw [Bool.eq_iff_iff, has_iff, below_iff]
      simp
      omega
    · have hlt : i < 32 := by omega
      obtain ⟨k, hk⟩ : ∃ k, 31 - i = k := ⟨_, rfl⟩
      have e1 : 32 - i = k + 1 := by omega
      have e2 : 32 - (i + 1) = k := by omega
      have hp : 2 ^ (k + 1) = 2 * 2 ^ k := by rw [Nat.pow_succ, Nat.mul_comm]
      have hpos := Nat.two_pow_pos k
      rw [e1] at hq
      have d1 : q % 2 ^ k = 0 := by
        have : 2 ^ k ∣ q := Nat.dvd_trans ⟨2, by rw [hp, Nat.mul_comm]⟩ (Nat.dvd_of_mod_eq_zero hq)
        exact Nat.mod_eq_zero_of_dvd this
      have d2 : (q + 2 ^ k) % 2 ^ k = 0 := by rw [Nat.add_mod_right]; exact d1
      rw [hk, ih q (i + 1) (by omega) (by rw [e2]; exact d1), ih (q + 2 ^ k) (i + 1) (by omega) (by rw [e2]; exact d2)]
      rw [← filter_two hs (below q (i + 1)) (below (q + 2 ^ k) (i + 1)) ?_ ?_, ← filter_two hs]
      · apply List.filter_congr
        intro x hx
        have h2 := hr x hx
        rw [Bool.eq_iff_iff, Bool.or_eq_true, Bool.or_eq_true, has_iff, below_iff, below_iff, below_iff, e1, e2, hp]
        constructor
        · rintro (⟨rfl, rfl⟩ | h | h) <;> omega
        · rintro ⟨a, b, c⟩
          by_cases hn : x.n = i
          · -- the node itself: what it is a multiple of leaves only q
            left
            refine ⟨?_, hn⟩
            have h3 := h2.2.2
            rw [hn, e1] at h3
            have m1 := Nat.dvd_of_mod_eq_zero h3
            have m2 := Nat.dvd_of_mod_eq_zero hq
            have m3 := Nat.dvd_sub m1 m2
            have m4 := Nat.eq_zero_of_dvd_of_lt m3 (by rw [hp]; omega)
            omega
          · right; omega
      · intro a ha b hb h1 h2
        obtain ⟨rfl, rfl⟩ := (has_iff _ _ _).1 h1
        rw [Bool.or_eq_true, below_iff, below_iff, e2] at h2
        rw [kl_iff]
        omega
      · intro a ha ⟨h1, h2⟩
        obtain ⟨rfl, rfl⟩ := (has_iff _ _ _).1 h1
        rw [Bool.or_eq_true, below_iff, below_iff] at h2
        omega
      · intro a ha b hb h1 h2
        rw [below_iff, e2] at h1 h2
        rw [kl_iff]
        omega
      · intro a ha ⟨h1, h2⟩
        rw [below_iff, e2] at h1 h2
        omega

theorem pre_all {L : List Rt} (hs : Sorted L) (hr : Right L) : pre L 33 0 0 = L := by
  rw [pre_eq hs hr 33 0 0 (by omega) (by simp), List.filter_eq_self]
  intro x hx
  have := hr x hx
  rw [below_iff]; omega


/-- the longest prefix, shorter than k, that has an address. -/
def lon (L : List Rt) (ip : Nat) : Nat → Option Rt
  | 0 => none
  | k + 1 => match lkp L (top ip k) k with
    | some v => some ⟨top ip k, k, v⟩
    | none => lon L ip k

/-- a round of the plain search. -/
def better (ip : Nat) (b : Option Rt) (r : Rt) : Option Rt :=
  if top ip r.n = r.p ∧ (∀ x, b = some x → x.n < r.n) then some r else b

def Best (ip : Nat) (S : Rt → Prop) (b : Option Rt) : Prop :=
  (b = none → ∀ r, S r → top ip r.n ≠ r.p) ∧ (∀ x, b = some x → S x ∧ top ip x.n = x.p ∧ ∀ r, S r → top ip r.n = r.p → r.n ≤ x.n)

theorem best_snoc {ip : Nat} {S : Rt → Prop} {b : Option Rt} (r : Rt) (h : Best ip S b) : Best ip (fun x => S x ∨ x = r) (better ip b r) := by
  unfold better
  split
  · rename_i c
    refine ⟨fun h => by (cases h), fun x hx => ?_⟩
    cases hx
    refine ⟨.inr rfl, c.1, fun y hy hm => ?_⟩
    rcases hy with hy | rfl
    · cases b with
      | none => exact absurd hm (h.1 rfl y hy)
      | some z =>
        have h1 := (h.2 z rfl).2.2 y hy hm
        have h2 := c.2 z rfl
        omega
    · exact Nat.le_refl _
  · rename_i c
    constructor
    · rintro rfl x (hx | rfl)
      · exact h.1 rfl x hx
      · intro hm; exact c ⟨hm, fun _ h => by cases h⟩
    · rintro x rfl
      obtain ⟨h1, h2, h3⟩ := h.2 x rfl
      refine ⟨.inl h1, h2, ?_⟩
      rintro y (hy | rfl) hm
      · exact h3 y hy hm
      · exact Nat.le_of_not_lt fun hlt => c ⟨hm, fun z hz => by cases hz; exact hlt⟩

theorem best_fold (ip : Nat) (L : List Rt) : ∀ (S : Rt → Prop) (b : Option Rt), Best ip S b → Best ip (fun x => S x ∨ x ∈ L) (L.foldl (better ip) b) := by
  induction L with
  | nil => intro S b h; simpa using h
  | cons a L ih =>
    intro S b h
    have := ih _ _ (best_snoc a h)
    simpa [or_assoc, or_comm, or_left_comm] using this

theorem best_lon {L : List Rt} (hs : Sorted L) (ip : Nat) : ∀ k, Best ip (fun r => r ∈ L ∧ r.n < k) (lon L ip k) := by
  intro k
  induction k with
  | zero => exact ⟨fun _ r h => absurd h.2 (Nat.not_lt_zero _), fun x h => by cases h⟩
  | succ k ih =>
    unfold lon
    split
    · rename_i v hv
      refine ⟨fun h => by (cases h), fun x hx => ?_⟩
      cases hx
      exact ⟨⟨(look_mem hs).1 hv, Nat.lt_succ_self _⟩, rfl, fun r hr _ => Nat.le_of_lt_succ hr.2⟩
    · rename_i hv
      have hno : ∀ r, r ∈ L → r.n = k → top ip r.n ≠ r.p := by
        rintro r hr rfl hm
        exact look_none.1 hv r hr ⟨hm.symm, rfl⟩
      constructor
      · intro h0 r hr hm
        by_cases hk : r.n = k
        · exact hno r hr.1 hk hm
        · exact ih.1 h0 r ⟨hr.1, by have := hr.2; omega⟩ hm
      · intro x hx
        obtain ⟨h1, h2, h3⟩ := ih.2 x hx
        refine ⟨⟨h1.1, by have := h1.2; omega⟩, h2, fun r hr hm => ?_⟩
        by_cases hk : r.n = k
        · exact absurd hm (hno r hr.1 hk)
        · exact h3 r ⟨hr.1, by have := hr.2; omega⟩ hm

theorem same_key {L : List Rt} (hs : Sorted L) {x y : Rt} (hx : x ∈ L) (hy : y ∈ L) (hp : x.p = y.p) (hn : x.n = y.n) : x = y := by
  have h1 := (look_mem hs).2 (show (⟨x.p, x.n, x.v⟩ : Rt) ∈ L from hx)
  have h2 := (look_mem hs).2 (show (⟨y.p, y.n, y.v⟩ : Rt) ∈ L from hy)
  rw [hp, hn] at h1
  have h3 : x.v = y.v := Option.some.inj (h1.symm.trans h2)
  cases x; cases y; simp_all

theorem best_unique {L : List Rt} (hs : Sorted L) {ip : Nat} {a b : Option Rt} (ha : Best ip (· ∈ L) a) (hb : Best ip (· ∈ L) b) : a = b := by
  cases a with
  | none =>
    cases b with
    | none => rfl
    | some y => exact absurd (hb.2 y rfl).2.1 (ha.1 rfl y (hb.2 y rfl).1)
  | some x =>
    obtain ⟨h1, h2, h3⟩ := ha.2 x rfl
    cases b with
    | none => exact absurd h2 (hb.1 rfl x h1)
    | some y =>
      obtain ⟨g1, g2, g3⟩ := hb.2 y rfl
      have e : x.n = y.n := Nat.le_antisymm (g3 x h1 h2) (h3 y g1 g2)
      rw [same_key hs h1 g1 (by rw [← h2, ← g2, e]) e]

/-- THE TWO SEARCHES AGREE. -/
theorem find_eq {L : List Rt} (hs : Sorted L) (hr : Right L) (ip : Nat) : L.foldl (better ip) none = lon L ip 33 := by
  refine best_unique hs (ip := ip) ?_ ?_
  · have := best_fold ip L (fun _ => False) none ⟨fun _ r h => h.elim, fun x h => by cases h⟩
    simpa using this
  · have := best_lon hs ip 33
    constructor
    · intro h r hr'
      exact this.1 h r ⟨hr', by have := (hr r hr').2.1; omega⟩
    · intro x hx
      obtain ⟨h1, h2, h3⟩ := this.2 x hx
      exact ⟨h1.1, h2, fun r hr' hm => h3 r ⟨hr', by have := (hr r hr').2.1; omega⟩ hm⟩

theorem lon_none {L : List Rt} {ip i : Nat} (h : ∀ j, i ≤ j → j < 33 → lkp L (top ip j) j = none) : ∀ k, i ≤ k → k ≤ 33 → lon L ip k = lon L ip i := by
  intro k hk hk2
  induction k with
  | zero => have : i = 0 := by omega
            rw [this]
  | succ k ih =>
    by_cases e : i = k + 1
    · rw [e]
    · rw [← ih (by omega) (by omega)]
      conv => lhs; unfold lon
      rw [h k (by omega) (by omega)]

end Lp
end Go.Proofs.Ytlpnkfnmgcigbaa
