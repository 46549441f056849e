/- Plain facts on counts: sums by the rest of the tick's number, beats. No program here. -/
namespace Go.Proofs.Yteieghndpkmobaa

/-- The sum of the first m counts whose number leaves the rest k. -/
def fs (l : List Int) (k : Nat) : Nat → Int
  | 0 => 0
  | m + 1 => fs l k m + (if m % 4 = k then l.getD m 0 else 0)
theorem fs_succ (l : List Int) (k m : Nat) : fs l k (m + 1) = fs l k m + (if m % 4 = k then l.getD m 0 else 0) := rfl
theorem fs_four (l : List Int) (n : Nat) : ∀ k, n % 4 = k → fs l k (n + 4) = fs l k n + l.getD n 0 := by
  intro k h
  rw [fs_succ l k (n + 3), fs_succ l k (n + 2), fs_succ l k (n + 1), fs_succ l k n, if_pos h, if_neg (by omega), if_neg (by omega), if_neg (by omega)]
  omega
theorem fs_small (l : List Int) (k : Nat) : ∀ m, m ≤ k → fs l k m = 0 := by
  intro m
  induction m with
  | zero => intro _; rfl
  | succ m ih =>
    intro h
    rw [fs_succ, ih (by omega)]
    by_cases e : m % 4 = k
    · omega
    · rw [if_neg e]; rfl
theorem fs_past (l : List Int) (k : Nat) (m : Nat) : fs l k (l.length + m) = fs l k l.length := by
  induction m with
  | zero => rfl
  | succ m ih =>
    rw [← Nat.add_assoc, fs_succ, ih]
    have : l.getD (l.length + m) 0 = 0 := by rw [List.getD_eq_getElem?_getD, List.getElem?_eq_none (by omega)]; rfl
    rw [this]; split <;> omega

/-- Counts that a pulse may have. -/
def Counts (l : List Int) : Prop := ∀ k, 0 ≤ l.getD k 0 ∧ l.getD k 0 ≤ 1048576
theorem fs_bd {l : List Int} (h : Counts l) (k : Nat) : ∀ m : Nat, 0 ≤ fs l k m ∧ fs l k m ≤ 1048576 * m
  | 0 => by simp [fs]
  | m + 1 => by
    have := fs_bd h k m
    have := h m
    rw [fs_succ]
    split <;> omega

def rot (p : Int × Int) : Nat → Int × Int
  | 0 => p
  | k + 1 => (-(rot p k).2, (rot p k).1)
/-- The sum of the first m counts, each turned. -/
def bt (l : List Int) (step : Nat) : Nat → Int × Int
  | 0 => (0, 0)
  | m + 1 => ((bt l step m).1 + (rot (l.getD m 0, 0) (m % 4 * step % 4)).1, (bt l step m).2 + (rot (l.getD m 0, 0) (m % 4 * step % 4)).2)

/-- A beat's parts. -/
def prt (l : List Int) (step m : Nat) : Int × Int :=
  if step = 0 then (fs l 0 m + fs l 1 m + fs l 2 m + fs l 3 m, 0) else if step = 2 then (fs l 0 m - fs l 1 m + fs l 2 m - fs l 3 m, 0) else (fs l 0 m - fs l 2 m, fs l 1 m - fs l 3 m)
theorem bt_eq (l : List Int) (step : Nat) (hs : step = 0 ∨ step = 1 ∨ step = 2) : ∀ m, bt l step m = prt l step m := by
  intro m
  induction m with
  | zero => rcases hs with rfl | rfl | rfl <;> simp [bt, prt, fs]
  | succ m ih =>
    have h4 : m % 4 = 0 ∨ m % 4 = 1 ∨ m % 4 = 2 ∨ m % 4 = 3 := by omega
    unfold bt
    rw [ih]
    rcases hs with rfl | rfl | rfl <;> rcases h4 with h | h | h | h <;> simp [prt, fs_succ, rot, h] <;> omega
theorem prt_bd {l : List Int} (h : Counts l) (step m : Nat) (hm : m ≤ 1048576) : (prt l step m).1.natAbs ≤ 4398046511104 ∧ (prt l step m).2.natAbs ≤ 4398046511104 := by
  have h0 := fs_bd h 0 m
  have h1 := fs_bd h 1 m
  have h2 := fs_bd h 2 m
  have h3 := fs_bd h 3 m
  unfold prt
  split
  · simp only; omega
  · split <;> simp only <;> omega
end Go.Proofs.Yteieghndpkmobaa
