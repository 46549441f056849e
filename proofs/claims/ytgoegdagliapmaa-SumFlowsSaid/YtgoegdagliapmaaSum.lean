/- What sum.Sum computes. -/
import Derived.Test.YtgoegdagliapmaaFold
import Derived.Test.YtgoegdagliapmaaWords
namespace Go.Proofs.Ytgoegdagliapmaa
open Go.RowKit

/-- The bytes of a list, as cells. -/
def bs (l : List Nat) : List Value := l.map fun (b : Nat) => .int .u8 (b : Int)
theorem bs_at {l : List Nat} {k : Nat} {v : Value} (h : (bs l)[k]? = some v) : k < l.length ∧ v = .int .u8 (l.getD k 0 : Nat) := by
  unfold bs at h
  rw [List.getElem?_map, Option.map_eq_some_iff] at h
  obtain ⟨b, hb, rfl⟩ := h
  have := List.getElem?_eq_some_iff.1 hb
  exact ⟨this.1, by simp [List.getD, hb]⟩
theorem bs_length (l : List Nat) : (bs l).length = l.length := by simp [bs]

theorem ret_u16 {a b : Int} (h : a = b) : Ending.returned (.int .u16 a) = .returned (.int .u16 b) := by rw [h]

set_option maxHeartbeats 400000 in
theorem sum_any (A : Option Addr) (n c : Nat) (l : List Nat) (B : Nat) (w : World) (hr : Reads w B 1 A n (bs l)) (hl : ∀ k, l.getD k 0 ≤ 255) (hn : n ≤ 140737488355000) :
    Calls Try.prog 10 #[.slice A n c] w fun e w' => e = .returned (.int .u16 (nrm (tot l n) : Nat)) ∧ w = w' := by
  go_enter Try.func10, Try.ntmps10
  go_wp2
  go_loop [3, 8] (fun t i => ∃ k : Nat, k ≤ n ∧ i = .int .i64 k ∧ t = .int .u64 (tot l k : Nat)) (fun _ i => n - (intOf i).toNat)
  case atStart => exact ⟨0, Nat.zero_le _, rfl, rfl⟩
  case round =>
    obtain ⟨k, hk, rfl, rfl⟩ := hrel
    have ht := tot_le l hl k
    have hb := hl k
    by_cases hlt : k < n
    · obtain ⟨ad, u, rfl, _, hu, hc⟩ := hr.at_ hlt
      obtain ⟨_, rfl⟩ := bs_at hu
      generalize hx : l.getD k 0 = x at *
      by_cases hp : k % 2 = 0
      · have H := Lib.hid (tot_even l k hp)
        have H2 := Lib.hid hx
        clear hx hu
        have hp2 : ((k : Int) % 2 == 0) = true := by simp; omega
        clear hp
        go_wp2
        go_round
        case rel => exact ⟨k + 1, by omega, by go_num, by rw [H.out, H2.out]; go_num⟩
        case measure => simp [intOf]; omega
      · have H := Lib.hid (tot_odd l k (by omega))
        have H2 := Lib.hid hx
        clear hx hu
        have hp2 : ((k : Int) % 2 == 0) = false := by simp; omega
        clear hp
        go_wp2
        go_round
        case rel => exact ⟨k + 1, by omega, by go_num, by rw [H.out, H2.out]; go_num⟩
        case measure => simp [intOf]; omega
    · obtain rfl : k = n := by omega
      go_wp2_with (go_at_call 24; refine (fold_any (tot l k) (by omega) _).mono ?_; rintro e w' ⟨rfl, rfl⟩)
      go_ret
      exact ⟨rfl, rfl⟩
end Go.Proofs.Ytgoegdagliapmaa
