/- The law SumPieces, walked. -/
import Derived.Test.YtgoegdagliapmaaRightWalk
import Derived.Lib.QuietBelow
import Derived.BigQuiet
namespace Go.Proofs.Ytgoegdagliapmaa
open Go.RowKit Go.Sort

/-- A contract that leaves the world alone, in a world of the class. -/
theorem regrown_same {P : Program} {f : FuncId} {args : Array Value} {w : World} {d : Nat} {os : Array Obj} {v : Value}
    (h : Calls P f args (grow (redrawn w d) os) fun e w' => e = .returned v ∧ grow (redrawn w d) os = w') : Calls P f args (grow (redrawn w d) os) fun e w'' => e = .returned v ∧ ∃ p : Regrown, w'' = grow (redrawn w p.d) p.os :=
  Calls.regrown_of (h.mono fun _ _ ⟨he, hw⟩ => ⟨he, hw ▸ Below.refl _ _⟩)
theorem Reads.regrown {w : World} {size n : Nat} {A : Option Addr} {xs : List Value} (h : Reads w w.heap.size size A n xs) (d : Nat) (os : Array Obj) : Reads (grow (redrawn w d) os) w.heap.size size A n xs := h.below (below_regrown w d os)


theorem tot_succ (l : List Nat) (k : Nat) : tot l (k + 1) = tot l k + (if k % 2 = 0 then 256 * l.getD k 0 else l.getD k 0) := rfl
theorem tot_drop (l : List Nat) (k : Nat) (hk : k % 2 = 0) (j : Nat) : tot l (k + j) = tot l k + tot (l.drop k) j := by
  induction j with
  | zero => simp [tot]
  | succ j ih =>
    have e : (l.drop k).getD j 0 = l.getD (k + j) 0 := by simp [List.getD]
    rw [show k + (j + 1) = (k + j) + 1 from by omega]
    rw [tot_succ l (k + j), tot_succ (l.drop k) j, ih, e]
    by_cases h : j % 2 = 0
    · rw [if_pos h, if_pos (by omega)]; omega
    · rw [if_neg h, if_neg (by omega)]; omega
theorem tot_of_take (l : List Nat) (m : Nat) : ∀ k, k ≤ m → tot (l.take m) k = tot l k := by
  intro k
  induction k with
  | zero => intro _; rfl
  | succ k ih =>
    intro hk
    have e : (l.take m).getD k 0 = l.getD k 0 := by simp [List.getD, show k < m by omega]
    unfold tot
    rw [ih (by omega), e]
theorem pieces_sum (l : List Nat) (k len : Nat) (hk : k % 2 = 0) (hl : k ≤ len) : nrm (nrm (tot (l.take k) k) + nrm (tot (l.drop k) (len - k))) = nrm (tot l len) := by
  rw [tot_of_take l k k (Nat.le_refl _), nrm_add, nrm_add', ← tot_drop l k hk, show k + (len - k) = len from by omega]
theorem reads_drop {w : World} {B n k cap : Nat} {A : Option Addr} {l : List Nat} (h : Reads w B 1 A n (bs l)) (hk : k ≤ n) (hc : n ≤ cap) : Reads w B 1 (if cap = k then A else A.map (fun x => x.add k)) (n - k) (bs (l.drop k)) := by
  have := h.cut hk hc
  rw [Nat.mul_one] at this
  unfold bs at this ⊢
  rw [List.map_drop]; exact this
theorem getD_drop_le {l : List Nat} (hl : ∀ k, l.getD k 0 ≤ 255) (m k : Nat) : (l.drop m).getD k 0 ≤ 255 := by
  have := hl (m + k)
  simpa [List.getD] using this

set_option maxHeartbeats 400000 in
theorem pieces (w : World) (a : Option Addr) (len cap : Nat) (l : List Nat) (at_ : Int) (hlen : l.length = len) (hr : Reads w w.heap.size 1 a len (bs l)) (hl : ∀ k, l.getD k 0 ≤ 255) (hle : len ≤ cap) (hreach : cap ≤ 140737488351232) :
    Calls Try.prog 6 #[.slice a len cap, .int .i64 at_] w fun e w' => e = .returned (.bool true) ∧ Below w.heap.size w w' := by
  have m1 : -(len : Int) ≤ at_.tmod (len + 1) := by
    have := Int.natAbs_tmod at_ (len + 1)
    have h3 : (at_.natAbs % ((len : Int) + 1).natAbs) < len + 1 := by
      have := Nat.mod_lt at_.natAbs (show ((len : Int) + 1).natAbs > 0 by omega)
      omega
    omega
  have m2 : at_.tmod (len + 1) ≤ len := by
    have := Int.natAbs_tmod at_ (len + 1)
    have h3 : (at_.natAbs % ((len : Int) + 1).natAbs) < len + 1 := by
      have := Nat.mod_lt at_.natAbs (show ((len : Int) + 1).natAbs > 0 by omega)
      omega
    omega
  go_enter Try.func6, Try.ntmps6
  go_wp2_with fail
  · obtain ⟨k, hk, hk2, hk3⟩ : ∃ k : Nat, at_.tmod (len + 1) + len + 1 - (at_.tmod (len + 1) + len + 1) % 2 = k ∧ k % 2 = 0 ∧ k ≤ len := ⟨(at_.tmod (len + 1) + len + 1 - (at_.tmod (len + 1) + len + 1) % 2).toNat, by omega, by omega, by omega⟩
    rw [hk]
    have K2 := Lib.hid (pieces_sum l k len hk2 hk3)
    clear hk hk2 m1 m2
    have hkc : k ≤ cap := by omega
    have l1 := nrm_le (tot (l.take k) k)
    have l2 := nrm_le (tot (l.drop k) (len - k))
    refine wp_region_quiet_below (by kernel_rfl) (by kernel_rfl) ?_
    repeat (quiet_step (first
      | (go_at_call 9; exact Calls.regrown_of (lives_any _))
      | (go_at_call 14; exact regrown_same (add_any _ _ l1 l2 _))
      | (go_at_call 10; with_reducible exact regrown_same (sum_any a k cap (l.take k) _ _ ((reads_take hr hk3).regrown _ _) (getD_take_le hl k) (by omega)))
      | (go_at_call 10; with_reducible exact regrown_same (sum_any a len cap l _ _ (hr.regrown _ _) hl (by omega)))
      | (go_at_call 10; with_reducible exact regrown_same (sum_any _ (len - k) (cap - k) (l.drop k) _ _ ((reads_drop hr hk3 hle).regrown _ _) (getD_drop_le hl k) (by omega)))))
    refine wpQuiet_nil ?_
    rintro w' ⟨p, rfl⟩
    rw [K2.out]
    go_wp2
    all_goals
      go_ret
      exact ⟨rfl, below_regrown _ _ _⟩
  · obtain ⟨k, hk, hk2, hk3⟩ : ∃ k : Nat, at_.tmod (len + 1) - at_.tmod (len + 1) % 2 = k ∧ k % 2 = 0 ∧ k ≤ len := ⟨(at_.tmod (len + 1) - at_.tmod (len + 1) % 2).toNat, by omega, by omega, by omega⟩
    rw [hk]
    have K2 := Lib.hid (pieces_sum l k len hk2 hk3)
    clear hk hk2 m1 m2
    have hkc : k ≤ cap := by omega
    have l1 := nrm_le (tot (l.take k) k)
    have l2 := nrm_le (tot (l.drop k) (len - k))
    refine wp_region_quiet_below (by kernel_rfl) (by kernel_rfl) ?_
    repeat (quiet_step (first
      | (go_at_call 9; exact Calls.regrown_of (lives_any _))
      | (go_at_call 14; exact regrown_same (add_any _ _ l1 l2 _))
      | (go_at_call 10; with_reducible exact regrown_same (sum_any a k cap (l.take k) _ _ ((reads_take hr hk3).regrown _ _) (getD_take_le hl k) (by omega)))
      | (go_at_call 10; with_reducible exact regrown_same (sum_any a len cap l _ _ (hr.regrown _ _) hl (by omega)))
      | (go_at_call 10; with_reducible exact regrown_same (sum_any _ (len - k) (cap - k) (l.drop k) _ _ ((reads_drop hr hk3 hle).regrown _ _) (getD_drop_le hl k) (by omega)))))
    refine wpQuiet_nil ?_
    rintro w' ⟨p, rfl⟩
    rw [K2.out]
    go_wp2
    all_goals
      go_ret
      exact ⟨rfl, below_regrown _ _ _⟩

theorem i64_bounds {a : Int} (h : (Lit.int .i64 a).wf = true) : -9223372036854775808 ≤ a ∧ a ≤ 9223372036854775807 := by
  simp [Lit.wf, IntKind.min, IntKind.max, IntKind.signed, IntKind.bits] at h
  exact h
theorem sumPieces_walk (w : World) (a : Option Addr) (len cap : Nat) (zs : List Int) (g : Row w .u8 1 a len cap zs) (x : Int) (_ : (Lit.int .i64 x).wf = true) :
    Calls Try.prog 6 #[.slice a len cap, .int .i64 x] w fun e w' => e = .returned (.bool true) ∧ Below w.heap.size w w' := by
  obtain ⟨l, hlen, hr, hl, hle, hreach⟩ := bytes_of_row g
  exact pieces w a len cap l x hlen hr hl hle hreach
end Go.Proofs.Ytgoegdagliapmaa
