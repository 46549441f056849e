/- What lives answers. -/
import Derived.Test.YtgoegdagliapmaaAdds
namespace Go.Proofs.Ytgoegdagliapmaa
open Go.RowKit

theorem rcheck_any (A : Option Addr) (n c : Nat) (l : List Nat) (B : Nat) (w : World) (hr : Reads w B 1 A n (bs l)) (hl : ∀ k, l.getD k 0 ≤ 255) (hn : n ≤ 140737488355000) :
    Calls Try.prog 13 #[.slice A n c] w fun e w' => e = .returned (.int .u16 (65535 - nrm (tot l n) : Nat)) ∧ w = w' := by
  have := nrm_le (tot l n)
  go_enter Try.func13, Try.ntmps13
  go_wp2_with (go_at_call 11; refine (rsum_any A n c l B w hr hl hn).mono ?_; rintro e w' ⟨rfl, rfl⟩)
  go_ret
  exact ⟨ret_u16 (by omega), rfl⟩

def pick (h n : Int) : Int := if n < 1 then 0 else h % n
theorem ret_i64 {a b : Int} (h : a = b) : Ending.returned (.int .i64 a) = .returned (.int .i64 b) := by rw [h]
theorem pick_wrap (h n : Int) (h0 : 0 ≤ h) (hh : h ≤ 4294967295) (hn : 1 ≤ n) : wrap64 (h % n) = pick h n := by
  have h1 := Int.emod_nonneg h (show n ≠ 0 by omega)
  have h2 := Int.emod_lt_of_pos h (show 0 < n by omega)
  have h3 : h % n ≤ h := by
    have := Int.mul_ediv_add_emod h n
    have := Int.mul_nonneg (show 0 ≤ n by omega) (Int.ediv_nonneg h0 (show 0 ≤ n by omega))
    omega
  unfold pick wrap64
  rw [if_neg (by omega)]
  omega
theorem pick_any (h n : Int) (h0 : 0 ≤ h) (hh : h ≤ 4294967295) (hn : n ≤ 9223372036854775807) (w : World) :
    Calls Try.prog 19 #[.int .u32 h, .int .i64 n] w fun e w' => e = .returned (.int .i64 (pick h n)) ∧ w = w' := by
  go_enter Try.func19, Try.ntmps19
  go_wp2
  · go_ret
    exact ⟨ret_i64 (by unfold pick; rw [if_pos (by assumption)]), rfl⟩
  · go_ret
    exact ⟨ret_i64 (pick_wrap h n h0 hh (by assumption)), rfl⟩

theorem reads_new (w : World) (t : TypeId) (cs : Array Value) (B : Nat) (hB : w.heap.size < B) : Reads (w.alloc (.cells cs t)) B 1 (some ⟨w.heap.size, 0, none⟩) cs.size cs.toList := by
  refine ⟨by simp, fun _ => ⟨_, rfl, hB, fun j u hu => ?_⟩⟩
  have e : (⟨w.heap.size, 0, none⟩ : Addr).add j = ⟨w.heap.size, j, none⟩ := by unfold Addr.add; split <;> simp_all
  rw [e, (Blk.new w t cs).cell]
  simpa using hu

theorem reads_lit (w : World) (t : TypeId) (cs : Array Value) (xs : List Value) (n B : Nat) (hB : w.heap.size < B) (h1 : cs.toList = xs) (h2 : cs.size = n) : Reads (w.alloc (.cells cs t)) B 1 (some ⟨w.heap.size, 0, none⟩) n xs := by
  subst h1; subst h2; exact reads_new w t cs B hB

def L20 : List Nat := [69, 0, 0, 28, 0, 0, 0, 0, 64, 1, 0, 0, 10, 0, 0, 1, 10, 0, 0, 2]
theorem L20_le (k : Nat) : L20.getD k 0 ≤ 255 := by
  by_cases h : k < 20
  · have : ∀ k : Fin 20, L20.getD k.val 0 ≤ 255 := by decide
    exact this ⟨k, h⟩
  · rw [List.getD_eq_getElem?_getD, List.getElem?_eq_none (by simp [L20]; omega)]; simp
theorem L1_le (k : Nat) : [1].getD k 0 ≤ 255 := by
  match k with
  | 0 => decide
  | k + 1 => simp

theorem tot20 : 65535 - nrm (tot L20 20) = 26335 := by decide
theorem tot1 : nrm (tot [1] 1) = 256 := by decide
/-- A world behind a new block, under a name. -/
theorem name_alloc (w : World) (o : Obj) : ∃ W, w.alloc o = W ∧ W.heap.size = w.heap.size + 1 ∧ Below w.heap.size w W := ⟨_, rfl, by simp, (Below.refl _ _).alloc (Nat.le_refl _) _⟩

set_option maxRecDepth 100000 in
theorem lives_any (w : World) : Calls Try.prog 9 #[] w fun e w' => e = .returned (.bool true) ∧ Below w.heap.size w w' := by
  go_enter Try.func9, Try.ntmps9
  go_wp2_with fail
  obtain ⟨W, hW, hz, hb⟩ := name_alloc w (.cells #[.int .u8 69, .int .u8 0, .int .u8 0, .int .u8 28, .int .u8 0, .int .u8 0, .int .u8 0, .int .u8 0, .int .u8 64, .int .u8 1, .int .u8 0, .int .u8 0, .int .u8 10, .int .u8 0, .int .u8 0, .int .u8 1, .int .u8 10, .int .u8 0, .int .u8 0, .int .u8 2] 5)
  have hR : Reads W (w.heap.size + 1) 1 (some ⟨w.heap.size, 0, none⟩) 20 (bs L20) := by rw [← hW]; exact reads_lit w 5 _ _ 20 _ (by omega) (by simp [bs, L20]) (by rfl)
  rw [hW]
  refine (check_any _ 20 20 L20 (w.heap.size + 1) W hR L20_le (by omega)).mono ?_
  clear hR hW
  rintro e w' ⟨rfl, rfl⟩
  rw [tot20]
  have Z := Lib.hid hz
  clear hz
  go_wp2_with fail
  obtain ⟨V, hV, hz2, hb2⟩ := name_alloc W (.cells #[.int .u8 1] 5)
  have hR : Reads V (W.heap.size + 1) 1 (some ⟨W.heap.size, 0, none⟩) 1 (bs [1]) := by rw [← hV]; exact reads_lit W 5 _ _ 1 _ (by omega) (by simp [bs]) (by rfl)
  rw [hV]
  refine (sum_any _ 1 1 [1] (W.heap.size + 1) V hR L1_le (by omega)).mono ?_
  clear hR hV
  rintro e w' ⟨rfl, rfl⟩
  rw [tot1]
  have Z2 := Lib.hid hz2
  clear hz2
  go_wp2_with fail
  refine (pick_any 7 4 (by omega) (by omega) (by omega) _).mono ?_
  rintro e w' ⟨rfl, rfl⟩
  rw [show pick 7 4 = 3 from by decide]
  go_wp2
  go_ret
  exact ⟨rfl, hb.trans (hb2.mono (by have := Z.out; omega))⟩
end Go.Proofs.Ytgoegdagliapmaa
