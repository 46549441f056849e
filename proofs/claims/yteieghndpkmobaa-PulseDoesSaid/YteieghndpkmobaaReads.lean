/- The reading methods of a pulse: made, Ticks, At, Fourth, and the reference's At, Fourth, Parts. -/
import Derived.Test.YteieghndpkmobaaTurn
namespace Go.Proofs.Yteieghndpkmobaa
open Go.RowKit

/-- Block b holds a struct whose one field is a slice of these counts. -/
def IsP (w : World) (T b : Nat) (l : List Int) : Prop := ∃ A c B, Blk w b T #[.slice A l.length c] ∧ Reads w B 1 A l.length (is l) ∧ B ≤ w.heap.size
theorem IsP.below {w w' : World} {T b : Nat} {l : List Int} (h : IsP w T b l) (hb : Below w.heap.size w w') : IsP w' T b l := by
  obtain ⟨A, c, B, hB, hr, hs⟩ := h
  exact ⟨A, c, B, hB.below hb hB.lt, (hr.more hs).below hb |>.keep (fun _ _ => rfl) |> fun h => ⟨h.1, fun hn => by
    obtain ⟨ad, e, h1, h2⟩ := h.2 hn
    obtain ⟨ad', e', h1', _⟩ := hr.2 hn
    rw [e] at e'
    obtain rfl := Option.some.inj e'
    exact ⟨ad, e, h1', h2⟩⟩, Nat.le_trans hs hb.size⟩

theorem made_yes (T b : Nat) (l : List Int) (w : World) (h : IsP w T b l) (hl : 1 ≤ l.length) :
    Calls Try.prog 31 #[.pointer (some ⟨b, 0, none⟩)] w fun e w' => e = .returned (.bool true) ∧ w = w' := by
  obtain ⟨A, c, B, hB, hr, _⟩ := h
  have hc : w.cell? ⟨b, 0, none⟩ = some (.slice A l.length c) := hB.cell 0
  have hl2 : (0 : Int) < l.length := by omega
  have HL := Lib.hid hl
  clear hB hr hl
  go_enter Try.func31, Try.ntmps31
  go_wp2
  go_ret
  exact ⟨ret_bool (decide_eq_true HL.out), rfl⟩
theorem made_no (w : World) :
    Calls Try.prog 31 #[.pointer none] w fun e w' => e = .returned (.bool false) ∧ w = w' := by
  go_enter Try.func31, Try.ntmps31
  go_wp2
  go_ret
  exact ⟨rfl, rfl⟩

theorem ticks_yes (T b : Nat) (l : List Int) (w : World) (h : IsP w T b l) (hl : 1 ≤ l.length) :
    Calls Try.prog 17 #[.pointer (some ⟨b, 0, none⟩)] w fun e w' => e = .returned (.int .i64 l.length) ∧ w = w' := by
  have H := h
  obtain ⟨A, c, B, hB, hr, _⟩ := h
  have hc : w.cell? ⟨b, 0, none⟩ = some (.slice A l.length c) := hB.cell 0
  clear hB hr
  go_enter Try.func17, Try.ntmps17
  go_wp2_with fail
  refine (made_yes T b l w H hl).mono ?_
  rintro e w' ⟨rfl, rfl⟩
  go_wp2
  go_ret
  exact ⟨rfl, rfl⟩
theorem ticks_no (w : World) :
    Calls Try.prog 17 #[.pointer none] w fun e w' => e = .returned (.int .i64 0) ∧ w = w' := by
  go_enter Try.func17, Try.ntmps17
  go_wp2_with fail
  refine (made_no w).mono ?_
  rintro e w' ⟨rfl, rfl⟩
  go_wp2
  go_ret
  exact ⟨rfl, rfl⟩

/-- A tick's count. -/
def at_ (l : List Int) (t : Int) : Int := if 0 ≤ t ∧ t < l.length then l.getD t.toNat 0 else 0

theorem At_yes (T b : Nat) (l : List Int) (t : Int) (w : World) (h : IsP w T b l) (hl : 1 ≤ l.length) :
    Calls Try.prog 18 #[.pointer (some ⟨b, 0, none⟩), .int .i64 t] w fun e w' => e = .returned (.int .i64 (at_ l t)) ∧ w = w' := by
  have H := h
  obtain ⟨A, c, B, hB, hr, _⟩ := h
  have hc : w.cell? ⟨b, 0, none⟩ = some (.slice A l.length c) := hB.cell 0
  clear hB
  by_cases h0 : t < 0
  · have E : at_ l t = 0 := by unfold at_; rw [if_neg (by omega)]
    rw [E]
    clear E hr
    go_enter Try.func18, Try.ntmps18
    go_wp2
    go_ret
    exact ⟨rfl, rfl⟩
  · by_cases h1 : t < l.length
    · obtain ⟨k, rfl⟩ : ∃ k : Nat, t = k := ⟨t.toNat, by omega⟩
      have E : at_ l k = l.getD k 0 := by unfold at_; rw [if_pos ⟨by omega, by omega⟩]; rfl
      rw [E]
      obtain ⟨ad, u, rfl, _, hu, hcc⟩ := hr.at_ (k := k) (by omega)
      obtain ⟨_, rfl⟩ := is_at hu
      generalize l.getD k 0 = x at *
      clear E hr hu
      go_enter Try.func18, Try.ntmps18
      go_wp2_with fail
      refine (ticks_yes T b l w H hl).mono ?_
      rintro e w' ⟨rfl, rfl⟩
      go_wp2
      go_ret
      exact ⟨rfl, rfl⟩
    · have E : at_ l t = 0 := by unfold at_; rw [if_neg (by omega)]
      rw [E]
      clear E hr
      go_enter Try.func18, Try.ntmps18
      go_wp2_with fail
      refine (ticks_yes T b l w H hl).mono ?_
      rintro e w' ⟨rfl, rfl⟩
      go_wp2
      go_ret
      exact ⟨rfl, rfl⟩

def fourth (l : List Int) (k : Int) : Int := if k < 0 ∨ 3 < k then 0 else fs l k.toNat l.length

theorem Fourth_out (T b : Nat) (l : List Int) (k : Int) (w : World) (h : IsP w T b l) (hl : 1 ≤ l.length) (hk : k < 0 ∨ 3 < k) :
    Calls Try.prog 14 #[.pointer (some ⟨b, 0, none⟩), .int .i64 k] w fun e w' => e = .returned (.int .i64 0) ∧ w = w' := by
  rcases hk with hk | hk
  all_goals
    go_enter Try.func14, Try.ntmps14
    go_wp2_with fail
    refine (made_yes T b l w h hl).mono ?_
    rintro e w' ⟨rfl, rfl⟩
    go_wp2
    go_ret
    exact ⟨rfl, rfl⟩

set_option maxHeartbeats 400000 in
theorem Fourth_in (T b : Nat) (l : List Int) (k : Nat) (w : World) (h : IsP w T b l) (hl : 1 ≤ l.length) (hm : l.length ≤ 1048576) (hc : Counts l) (hk : k ≤ 3) :
    Calls Try.prog 14 #[.pointer (some ⟨b, 0, none⟩), .int .i64 (k : Int)] w fun e w' => e = .returned (.int .i64 (fs l k l.length)) ∧ w = w' := by
  have H := h
  obtain ⟨A, c, B, hB, hr, _⟩ := h
  have hcell : w.cell? ⟨b, 0, none⟩ = some (.slice A l.length c) := hB.cell 0
  clear hB
  go_enter Try.func14, Try.ntmps14
  go_wp2_with fail
  refine (made_yes T b l w H hl).mono ?_
  rintro e w' ⟨rfl, rfl⟩
  go_wp2
  go_loop [5, 6] (fun t i => ∃ n : Nat, n % 4 = k ∧ n ≤ l.length + 3 ∧ i = .int .i64 n ∧ t = .int .i64 (fs l k n)) (fun _ i => l.length + 4 - (intOf i).toNat)
  case atStart => exact ⟨k, by omega, by omega, rfl, by rw [fs_small l k k (Nat.le_refl _)]⟩
  case round =>
    obtain ⟨n, hn, hn2, rfl, rfl⟩ := hrel
    have hb := fs_bd hc k n
    have hx := hc n
    by_cases hlt : n < l.length
    · obtain ⟨ad, u, rfl, _, hu, hcc⟩ := hr.at_ hlt
      obtain ⟨_, rfl⟩ := is_at hu
      have E := Lib.hid (fs_four l n k hn)
      have N := Lib.hid hn
      generalize l.getD n 0 = x at *
      clear hu hn
      go_wp2
      go_round
      case rel => exact ⟨n + 4, by have := N.out; omega, by omega, by go_num, by rw [E.out]⟩
      case measure => simp [intOf]; omega
    · obtain ⟨m, rfl⟩ : ∃ m, n = l.length + m := ⟨n - l.length, by omega⟩
      have E := Lib.hid (fs_past l k m)
      clear hn
      go_wp2
      go_ret
      exact ⟨ret_i64 E.out, rfl⟩
end Go.Proofs.Yteieghndpkmobaa
