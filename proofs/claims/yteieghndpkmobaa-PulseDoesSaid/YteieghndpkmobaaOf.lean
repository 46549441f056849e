/- What pulse.Of, the reference's Of and New make. -/
import Derived.Test.YteieghndpkmobaaAsks
import Derived.WalkSpells
namespace Go.Proofs.Yteieghndpkmobaa
open Go.RowKit

def bad (z : Int) : Bool := decide (z < 0) || decide (1048576 < z)
theorem wrong_any (z : Int) (w : World) : Calls Try.prog 28 #[.int .i64 z] w fun e w' => e = .returned (.bool (bad z)) ∧ w = w' := by
  by_cases h : z < 0
  · have E : bad z = true := by simp [bad, h]
    rw [E]
    go_enter Try.func28, Try.ntmps28
    go_wp2
    go_ret
    exact ⟨rfl, rfl⟩
  · by_cases h2 : 1048576 < z
    · have E : bad z = true := by simp [bad, h2]
      rw [E]
      go_enter Try.func28, Try.ntmps28
      go_wp2
      go_ret
      exact ⟨rfl, rfl⟩
    · have E : bad z = false := by simp [bad]; omega
      rw [E]
      go_enter Try.func28, Try.ntmps28
      go_wp2
      go_ret
      exact ⟨rfl, rfl⟩

/-- The place of the first wrong count; -1: there is none. -/
def firstBad (zs : List Int) : Int := if zs.any bad then (zs.findIdx bad : Int) else -1

theorem getD_good {zs : List Int} {n : Nat} (h : n < zs.findIdx bad) (hl : n < zs.length) : bad (zs.getD n 0) = false := by
  have := List.not_of_lt_findIdx h
  rw [List.getD_eq_getElem?_getD, List.getElem?_eq_getElem hl]
  simpa using this
theorem getD_bad {zs : List Int} (h : zs.findIdx bad < zs.length) : bad (zs.getD (zs.findIdx bad) 0) = true := by
  rw [List.getD_eq_getElem?_getD, List.getElem?_eq_getElem h]
  exact List.findIdx_getElem (w := h)

set_option maxHeartbeats 400000 in
theorem index_any (A : Option Addr) (n c : Nat) (zs : List Int) (B : Nat) (w : World) (hr : Reads w B 1 A n (is zs)) (hn : n ≤ 1048576) :
    Calls Try.prog 34 #[.slice A n c, .func (.func 28) #[] #[]] w fun e w' => e = .returned (.int .i64 (firstBad zs)) ∧ w = w' := by
  have hlen : zs.length = n := by have := hr.1; simpa [is] using this
  have hk : zs.findIdx bad ≤ n := by rw [← hlen]; exact List.findIdx_le_length
  have hg : ∀ j, j < zs.findIdx bad → j < n → bad (zs.getD j 0) = false := fun j h1 h2 => getD_good h1 (by omega)
  have hb : zs.findIdx bad < n → bad (zs.getD (zs.findIdx bad) 0) = true := fun h => getD_bad (by omega)
  have r1 : zs.findIdx bad < n → firstBad zs = zs.findIdx bad := by
    intro h; unfold firstBad
    rw [if_pos (List.findIdx_lt_length.1 (by omega) |> fun h => List.any_eq_true.2 h)]
  have r2 : zs.findIdx bad = n → firstBad zs = -1 := by
    intro h; unfold firstBad
    rw [if_neg]
    intro ha
    have := List.findIdx_lt_length.2 (List.any_eq_true.1 ha)
    omega
  generalize zs.findIdx bad = K at *
  have R1 := Lib.hid r1
  have R2 := Lib.hid r2
  have HG := Lib.hid hg
  have HB := Lib.hid hb
  clear r1 r2 hg hb hlen
  go_enter Try.func34, Try.ntmps34
  go_wp2
  go_loop [8] (fun i => ∃ j : Nat, j ≤ K ∧ i = .int .i64 j) (fun i => n - (intOf i).toNat)
  case atStart => exact ⟨0, Nat.zero_le _, rfl⟩
  case round =>
    obtain ⟨j, hj, rfl⟩ := hrel
    by_cases hlt : j < n
    · obtain ⟨ad, u, rfl, _, hu, hc⟩ := hr.at_ hlt
      obtain ⟨_, rfl⟩ := is_at hu
      clear hu
      by_cases hjk : j < K
      · have e := HG.out j hjk hlt
        generalize zs.getD j 0 = x at *
        have E := Lib.hid e
        clear e
        go_wp2_with fail
        refine (wrong_any x w).mono ?_
        rintro e w' ⟨rfl, rfl⟩
        rw [E.out]
        go_wp2
        go_round
        case rel => exact ⟨j + 1, by omega, by go_num⟩
        case measure => simp [intOf]; omega
      · obtain rfl : j = K := by omega
        have e := HB.out hlt
        generalize zs.getD j 0 = x at *
        have E := Lib.hid e
        clear e
        go_wp2_with fail
        refine (wrong_any x w).mono ?_
        rintro e w' ⟨rfl, rfl⟩
        rw [E.out]
        go_wp2
        go_ret
        exact ⟨ret_i64 (by rw [R1.out hlt]), rfl⟩
    · have hjn : j = n := by omega
      have hkn : K = n := by omega
      clear hjn
      have HK := Lib.hid hkn
      clear hkn
      go_wp2
      go_ret
      exact ⟨ret_i64 (by rw [R2.out HK.out]), rfl⟩

theorem contains_any (A : Option Addr) (n c : Nat) (zs : List Int) (B : Nat) (w : World) (hr : Reads w B 1 A n (is zs)) (hn : n ≤ 1048576) :
    Calls Try.prog 29 #[.slice A n c, .func (.func 28) #[] #[]] w fun e w' => e = .returned (.bool (zs.any bad)) ∧ w = w' := by
  have E : decide (0 ≤ firstBad zs) = zs.any bad := by
    unfold firstBad
    cases h : zs.any bad
    · simp
    · simp
  have H := Lib.hid E
  clear E
  go_enter Try.func29, Try.ntmps29
  go_wp2_with fail
  refine (index_any A n c zs B w hr hn).mono ?_
  rintro e w' ⟨rfl, rfl⟩
  go_wp2
  go_ret
  exact ⟨ret_bool H.out, rfl⟩

theorem Try.info3 : (Try.prog.info? 3).map (fun i => (i.zero, i.size, i.bytes)) = some (some (.int .i64 0), 1, 8) := by kernel_rfl

theorem clone_any (A : Option Addr) (n c : Nat) (zs : List Int) (w : World) (hr : Reads w w.heap.size 1 A n (is zs)) (hn : n ≤ 1048576) (h1 : 1 ≤ n) :
    Calls Try.prog 30 #[.slice A n c] w fun e w' => ∃ A' c', e = .returned (.slice A' n c') ∧ w'.ownsRow w.heap.size 3 1 (.slice A' n c') n (is zs) ∧ Below w.heap.size w w' := by
  obtain ⟨i0, hi, hz0, hz1, hz2⟩ := info_parts Try.info3
  obtain ⟨ad, u, rfl, _, _, _⟩ := hr.at_ (k := 0) (by omega)
  have hq : ∀ w : World, (binOp .eql 22 (.slice (some ad) n c) (.slice none 0 0)).run Try.prog w = .ok (.bool false) w := fun w => Lib.run_eql_slice_nil w 22 3 (some ad) n c 0 0 Try.underlying22
  go_enter Try.func30, Try.ntmps30
  go_wp2_with (at_builtin; refine wpList_append_copy rfl (.tmp 5) (.tmp 6) 22 rfl w 3 i0 _ 1 8 Try.underlying22 hi hz0 hz1 hz2 rfl (by decide) rfl (some ad) n c (is zs) rfl hr (is_one zs) (by unfold maxLen; omega) (by omega) ?_; intro A1 c1 w1 hown hr1 hb1)
  go_ret
  exact ⟨A1, c1, rfl, hown, hb1⟩

/-- May counts be? -/
def okCounts (zs : List Int) : Prop := 1 ≤ zs.length ∧ zs.length ≤ 1048576 ∧ zs.any bad = false

theorem counts_of {zs : List Int} (h : okCounts zs) : Counts zs := by
  intro k
  by_cases hk : k < zs.length
  · have := List.any_eq_false.1 h.2.2 (zs[k]) (List.getElem_mem hk)
    rw [List.getD_eq_getElem?_getD, List.getElem?_eq_getElem hk]
    simp [bad] at this
    simpa using this
  · rw [List.getD_eq_getElem?_getD, List.getElem?_eq_none (by omega)]
    simp

theorem of_no (A : Option Addr) (n c : Nat) (zs : List Int) (B : Nat) (w : World) (hr : Reads w B 1 A n (is zs)) (hm : n ≤ 9223372036854775807) (h : ¬ okCounts zs) :
    Calls Try.prog 10 #[.slice A n c] w fun e w' => e = .returned (.tuple #[.pointer none, .int .i64 1]) ∧ w = w' := by
  have hlen : zs.length = n := by have := hr.1; simpa [is] using this
  by_cases h0 : n = 0
  · subst h0
    go_enter Try.func10, Try.ntmps10
    go_wp2
    go_ret2
    exact ⟨rfl, rfl⟩
  · have e0 : ((n : Int) == 0) = false := by simp; omega
    by_cases h1 : 1048576 < n
    · clear h0
      go_enter Try.func10, Try.ntmps10
      go_wp2
      go_ret2
      exact ⟨rfl, rfl⟩
    · have hb : zs.any bad = true := by
        cases hc : zs.any bad
        · exact absurd ⟨by omega, by omega, hc⟩ h
        · rfl
      have HB := Lib.hid hb
      clear h0 h hb hlen
      go_enter Try.func10, Try.ntmps10
      go_wp2_with fail
      refine (contains_any A n c zs B w hr (by omega)).mono ?_
      rintro e w' ⟨rfl, rfl⟩
      rw [HB.out]
      go_wp2
      go_ret2
      exact ⟨rfl, rfl⟩

theorem of_yes (A : Option Addr) (n c : Nat) (zs : List Int) (w : World) (hr : Reads w w.heap.size 1 A n (is zs)) (h : okCounts zs) :
    Calls Try.prog 10 #[.slice A n c] w fun e w' => ∃ b, e = .returned (.tuple #[.pointer (some ⟨b, 0, none⟩), .int .i64 0]) ∧ IsP w' 58 b zs ∧ Below w.heap.size w w' := by
  have hlen : zs.length = n := by have := hr.1; simpa [is] using this
  obtain ⟨h1, h2, h3⟩ := h
  have e0 : ((n : Int) == 0) = false := by simp; omega
  have hn2 : n ≤ 1048576 := by omega
  have hn1 : 1 ≤ n := by omega
  have HB := Lib.hid h3
  have HL := Lib.hid hlen
  clear h1 h2 h3 hlen
  go_enter Try.func10, Try.ntmps10
  go_wp2_with fail
  refine (contains_any A n c zs _ w hr (by omega)).mono ?_
  rintro e w' ⟨rfl, rfl⟩
  rw [HB.out]
  go_wp2_with fail
  refine (clone_any A n c zs w hr (by omega) (by omega)).mono ?_
  rintro e w1 ⟨A1, c1, rfl, hown, hb1⟩
  go_wp2
  go_ret2
  have hr1 := Reads.of_own hown
  refine ⟨w1.heap.size, rfl, ⟨A1, c1, w1.heap.size, ?_, ?_, by simp⟩, hb1.alloc hb1.size _⟩
  · rw [HL.out]; exact Blk.new w1 58 #[.slice A1 n c1]
  · rw [HL.out]; exact hr1.alloc (Nat.le_refl _) _
end Go.Proofs.Yteieghndpkmobaa
