/- Fourth and the reference's Fourth agree at whatever number. -/
import Derived.Test.YteieghndpkmobaaLives
namespace Go.Proofs.Yteieghndpkmobaa
open Go.RowKit

theorem rfourth_neg (T b : Nat) (l : List Int) (k : Int) (hk : k < 0) (w : World) (h : IsP w T b l) (hm : l.length ≤ 1048576) :
    Calls Try.prog 27 #[.pointer (some ⟨b, 0, none⟩), .int .i64 k] w fun e w' => e = .returned (.int .i64 0) ∧ w = w' := by
  obtain ⟨A, c, B, hB, hr, _⟩ := h
  have hcell : w.cell? ⟨b, 0, none⟩ = some (.slice A l.length c) := hB.cell 0
  clear hB hr
  go_enter Try.func27, Try.ntmps27
  go_wp2
  go_loop [5, 6] (fun t i => ∃ n : Nat, n ≤ l.length ∧ i = .int .i64 n ∧ t = .int .i64 0) (fun _ i => l.length - (intOf i).toNat)
  case atStart => exact ⟨0, by omega, rfl, rfl⟩
  case round =>
    obtain ⟨n, hn, rfl, rfl⟩ := hrel
    have t4 : ((n : Int) % 4 == k) = false := by simp; omega
    by_cases hlt : n < l.length
    · go_wp2
      go_round
      case rel => exact ⟨n + 1, by omega, by go_num, rfl⟩
      case measure => simp [intOf]; omega
    · obtain rfl : n = l.length := by omega
      go_wp2
      go_ret
      exact ⟨rfl, rfl⟩

theorem fs_far (l : List Int) {k : Nat} (hk : 3 < k) : ∀ m, fs l k m = 0
  | 0 => rfl
  | m + 1 => by rw [fs_succ, fs_far l hk m, if_neg (by omega)]; rfl

/-- What both answer. -/
def fourthOf (l : List Int) (k : Int) : Int := if k < 0 then 0 else fs l k.toNat l.length
theorem fourth_both (b x : Nat) (l : List Int) (k : Int) (w : World) (h : IsP w 58 b l) (hx : IsP w 43 x l) (hl : 1 ≤ l.length) (hm : l.length ≤ 1048576) (hc : Counts l) :
    (Calls Try.prog 14 #[.pointer (some ⟨b, 0, none⟩), .int .i64 k] w fun e w' => e = .returned (.int .i64 (fourthOf l k)) ∧ w = w') ∧
    (Calls Try.prog 27 #[.pointer (some ⟨x, 0, none⟩), .int .i64 k] w fun e w' => e = .returned (.int .i64 (fourthOf l k)) ∧ w = w') := by
  unfold fourthOf
  by_cases h0 : k < 0
  · rw [if_pos h0]
    exact ⟨Fourth_out 58 b l k w h hl (.inl h0), rfourth_neg 43 x l k h0 w hx hm⟩
  · rw [if_neg h0]
    obtain ⟨n, rfl⟩ : ∃ n : Nat, k = n := ⟨k.toNat, by omega⟩
    refine ⟨?_, RFourth_in 43 x l n w hx hm hc⟩
    by_cases h3 : n ≤ 3
    · exact Fourth_in 58 b l n w h hl hm hc h3
    · have e0 : fs l ((n : Int)).toNat l.length = 0 := fs_far l (by omega) _
      rw [e0]
      exact Fourth_out 58 b l n w h hl (.inr (by omega))
end Go.Proofs.Yteieghndpkmobaa
