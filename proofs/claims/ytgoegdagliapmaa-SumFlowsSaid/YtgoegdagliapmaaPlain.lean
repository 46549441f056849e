/- Plain facts on sums with carry. No program here. -/
namespace Go.Proofs.Ytgoegdagliapmaa
/-- What a number's words sum up to, with carry. -/
def nrm (x : Nat) : Nat := if x = 0 then 0 else (x - 1) % 65535 + 1
theorem nrm_le (x : Nat) : nrm x ≤ 65535 := by unfold nrm; split <;> omega
theorem nrm_small {x : Nat} (h : x ≤ 65535) : nrm x = x := by unfold nrm; split <;> omega
theorem nrm_fold (x : Nat) : nrm (x % 65536 + x / 65536) = nrm x := by unfold nrm; split <;> split <;> omega
theorem nrm_add (a b : Nat) : nrm (nrm a + b) = nrm (a + b) := by unfold nrm; split <;> split <;> (try split) <;> omega
theorem nrm_add' (a b : Nat) : nrm (a + nrm b) = nrm (a + b) := by rw [Nat.add_comm, nrm_add, Nat.add_comm]
theorem add_two {a b : Nat} (ha : a ≤ 65535) (hb : b ≤ 65535) : nrm (a + b) = if 65536 ≤ a + b then a + b - 65535 else a + b := by unfold nrm; split <;> split <;> omega
theorem upd {t old now : Nat} (h : old ≤ t) (ho : old ≤ 65535) (hn : now ≤ 65535) :
  65535 - nrm (nrm t + (65535 - old) + now) = 65535 - nrm (t - old + now) ∨ ((65535 - nrm (nrm t + (65535 - old) + now)) % 65535 = 0 ∧ (65535 - nrm (t - old + now)) % 65535 = 0) := by
  unfold nrm; split <;> split <;> (try split) <;> omega

/-- The words of the first k bytes, added up. -/
def tot (l : List Nat) : Nat → Nat
  | 0 => 0
  | k + 1 => tot l k + (if k % 2 = 0 then 256 * l.getD k 0 else l.getD k 0)
theorem tot_even (l : List Nat) (k : Nat) (h : k % 2 = 0) : tot l (k + 1) = tot l k + 256 * l.getD k 0 := by simp [tot, h]
theorem tot_odd (l : List Nat) (k : Nat) (h : k % 2 = 1) : tot l (k + 1) = tot l k + l.getD k 0 := by simp [tot, h]
theorem tot_le2 (l : List Nat) (hl : ∀ k, l.getD k 0 ≤ 255) (k : Nat) : 2 * tot l k ≤ 65535 * k + (if k % 2 = 0 then 0 else 65025) := by
  induction k with
  | zero => simp [tot]
  | succ k ih =>
    have := hl k
    unfold tot
    by_cases h : k % 2 = 0
    · rw [if_pos h] at ih ⊢
      rw [if_neg (by omega)]; omega
    · rw [if_neg h] at ih ⊢
      rw [if_pos (by omega)]; omega
theorem tot_le (l : List Nat) (hl : ∀ k, l.getD k 0 ≤ 255) (k : Nat) : tot l k ≤ 32768 * k + 32768 := by
  have := tot_le2 l hl k
  split at this <;> omega
theorem nrm_full (t : Nat) : nrm (t + (65535 - nrm t)) = 65535 := by unfold nrm; split <;> (try split) <;> omega
theorem tot_take (l r : List Nat) (k : Nat) (h : k ≤ l.length) : tot (l ++ r) k = tot l k := by
  induction k with
  | zero => rfl
  | succ k ih =>
    have e : (l ++ r).getD k 0 = l.getD k 0 := by simp [List.getD, List.getElem?_append_left (show k < l.length by omega)]
    unfold tot
    rw [ih (by omega), e]
theorem tot_two' (l : List Nat) (x y : Nat) (h : l.length % 2 = 0) : tot (l ++ [x, y]) (l.length + 2) = tot l l.length + (256 * x + y) := by
  have e1 : (l ++ [x, y]).getD l.length 0 = x := by simp [List.getD]
  have e2 : (l ++ [x, y]).getD (l.length + 1) 0 = y := by simp [List.getD]
  rw [tot_odd _ (l.length + 1) (by omega), tot_even _ l.length h, e1, e2, tot_take _ _ _ (Nat.le_refl _)]; omega
end Go.Proofs.Ytgoegdagliapmaa
