/- What the reference's Of makes; New; lives. -/
import Derived.Test.YteieghndpkmobaaOf
namespace Go.Proofs.Yteieghndpkmobaa
open Go.RowKit

theorem bad_parts {z : Int} (h : bad z = false) : 0 ≤ z ∧ z ≤ 1048576 := by simp [bad] at h; omega

set_option maxHeartbeats 800000 in
theorem rof_no (A : Option Addr) (n c : Nat) (zs : List Int) (B : Nat) (w : World) (hr : Reads w B 1 A n (is zs)) (h : ¬ okCounts zs) :
    Calls Try.prog 16 #[.slice A n c] w fun e w' => e = .returned (.tuple #[.pointer none, .int .i64 1]) ∧ w = w' := by
  have hlen : zs.length = n := by have := hr.1; simpa [is] using this
  by_cases h0 : n < 1
  · obtain rfl : n = 0 := by omega
    go_enter Try.func16, Try.ntmps16
    go_wp2
    go_ret2
    exact ⟨rfl, rfl⟩
  · by_cases h1 : 1048576 < n
    · go_enter Try.func16, Try.ntmps16
      go_wp2
      go_ret2
      exact ⟨rfl, rfl⟩
    · have hb : zs.any bad = true := by
        cases hc : zs.any bad
        · exact absurd ⟨by omega, by omega, hc⟩ h
        · rfl
      have hlt : zs.findIdx bad < n := by rw [← hlen]; exact List.findIdx_lt_length.2 (List.any_eq_true.1 hb)
      have HG : Hid (∀ j, j < zs.findIdx bad → j < n → bad (zs.getD j 0) = false) := Lib.hid (fun j h1 h2 => getD_good h1 (by omega))
      have HB : Hid (bad (zs.getD (zs.findIdx bad) 0) = true) := Lib.hid (getD_bad (by omega))
      generalize zs.findIdx bad = K at *
      clear h hb hlen
      go_enter Try.func16, Try.ntmps16
      go_wp2
      go_loop [4] (fun i => ∃ j : Nat, j ≤ K ∧ i = .int .i64 j) (fun i => n - (intOf i).toNat)
      case atStart => exact ⟨0, Nat.zero_le _, rfl⟩
      case round =>
        obtain ⟨j, hj, rfl⟩ := hrel
        have hjn : j < n := by omega
        obtain ⟨ad, u, rfl, _, hu, hc⟩ := hr.at_ hjn
        obtain ⟨_, rfl⟩ := is_at hu
        clear hu
        by_cases hjk : j < K
        · have e := bad_parts (HG.out j hjk hjn)
          generalize zs.getD j 0 = x at *
          obtain ⟨x0, x1⟩ := e
          go_wp2
          go_round
          case rel => exact ⟨j + 1, by omega, by go_num⟩
          case measure => simp [intOf]; omega
        · obtain rfl : j = K := by omega
          have e := HB.out
          generalize zs.getD j 0 = x at *
          by_cases hx : x < 0
          · clear e
            go_wp2
            go_ret2
            exact ⟨rfl, rfl⟩
          · have hx2 : 1048576 < x := by simp [bad] at e; omega
            clear e
            go_wp2
            go_ret2
            exact ⟨rfl, rfl⟩

set_option maxHeartbeats 800000 in
theorem rof_yes (A : Option Addr) (n c : Nat) (zs : List Int) (w : World) (hr : Reads w w.heap.size 1 A n (is zs)) (h : okCounts zs) :
    Calls Try.prog 16 #[.slice A n c] w fun e w' => ∃ b, e = .returned (.tuple #[.pointer (some ⟨b, 0, none⟩), .int .i64 0]) ∧ IsP w' 43 b zs ∧ Below w.heap.size w w' := by
  have hlen : zs.length = n := by have := hr.1; simpa [is] using this
  have hco := counts_of h
  have hn2 : n ≤ 1048576 := by have := h.2.1; omega
  have hn1 : 1 ≤ n := by have := h.1; omega
  have HL := Lib.hid hlen
  clear h hlen
  obtain ⟨i0, hi, hz0, hz1, hz2⟩ := info_parts Try.info3
  go_enter Try.func16, Try.ntmps16
  go_wp2
  go_loop [4] (fun i => ∃ j : Nat, j ≤ n ∧ i = .int .i64 j) (fun i => n - (intOf i).toNat)
  case atStart => exact ⟨0, Nat.zero_le _, rfl⟩
  case round =>
    obtain ⟨j, hj, rfl⟩ := hrel
    by_cases hjn : j < n
    · obtain ⟨ad, u, rfl, _, hu, hc⟩ := hr.at_ hjn
      obtain ⟨_, rfl⟩ := is_at hu
      obtain ⟨x0, x1⟩ := hco j
      generalize zs.getD j 0 = x at *
      clear hu
      go_wp2
      go_round
      case rel => exact ⟨j + 1, by omega, by go_num⟩
      case measure => simp [intOf]; omega
    · go_wp2_with (at_builtin; refine wpList_append_copy rfl (.tmp 31) (.tmp 32) 22 rfl w 3 i0 _ 1 8 Try.underlying22 hi hz0 hz1 hz2 rfl (by decide) rfl A n c (is zs) rfl hr (is_one zs) (by unfold maxLen; omega) (by omega) ?_; intro A1 c1 w1 hown hr1 hb1)
      go_ret2
      refine ⟨w1.heap.size, rfl, ⟨A1, c1, w1.heap.size, ?_, ?_, by simp⟩, hb1.alloc hb1.size _⟩
      · rw [HL.out]; exact Blk.new w1 43 #[.slice A1 n c1]
      · rw [HL.out]; exact hr1.alloc (Nat.le_refl _) _
end Go.Proofs.Yteieghndpkmobaa
