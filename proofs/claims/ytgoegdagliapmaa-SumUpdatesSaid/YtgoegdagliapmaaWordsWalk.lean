/- The law SumWords, walked. -/
import Derived.Test.YtgoegdagliapmaaLives
namespace Go.Proofs.Ytgoegdagliapmaa
open Go.RowKit

theorem u16_nat {a : Int} (h : (Lit.int .u16 a).wf = true) : ∃ n : Nat, a = n ∧ n ≤ 65535 := by
  simp [Lit.wf, IntKind.min, IntKind.max, IntKind.signed, IntKind.bits] at h
  exact ⟨a.toNat, by omega, by omega⟩

theorem words_nat (a b c : Nat) (ha : a ≤ 65535) (hb : b ≤ 65535) (hc : c ≤ 65535) (w : World) :
    Calls Try.prog 5 #[.int .u16 (a : Int), .int .u16 (b : Int), .int .u16 (c : Int)] w fun e w' => e = .returned (.bool true) ∧ Below w.heap.size w w' := by
  have e1 : nrm (b + a) = nrm (a + b) := by rw [Nat.add_comm]
  have e2 : nrm (a + nrm (b + c)) = nrm (nrm (a + b) + c) := by rw [nrm_add', nrm_add, Nat.add_assoc]
  have E1 := Lib.hid e1
  have E2 := Lib.hid e2
  clear e1 e2
  have l1 := nrm_le (a + b)
  have l2 := nrm_le (b + c)
  go_enter Try.func5, Try.ntmps5
  go_wp2_with fail
  refine (lives_any w).mono ?_
  rintro e w1 ⟨rfl, hb1⟩
  go_wp2_with fail
  refine (add_any a b ha hb _).mono ?_
  rintro e w' ⟨rfl, rfl⟩
  go_wp2_with fail
  refine (radd_any a b ha hb _).mono ?_
  rintro e w' ⟨rfl, rfl⟩
  go_wp2_with fail
  refine (add_any a b ha hb _).mono ?_
  rintro e w' ⟨rfl, rfl⟩
  go_wp2_with fail
  refine (add_any b a hb ha _).mono ?_
  rintro e w' ⟨rfl, rfl⟩
  rw [E1.out]
  go_wp2_with fail
  refine (add_any a b ha hb _).mono ?_
  rintro e w' ⟨rfl, rfl⟩
  go_wp2_with fail
  refine (add_any (nrm (a + b)) c l1 hc _).mono ?_
  rintro e w' ⟨rfl, rfl⟩
  go_wp2_with fail
  refine (add_any b c hb hc _).mono ?_
  rintro e w' ⟨rfl, rfl⟩
  go_wp2_with fail
  refine (add_any a (nrm (b + c)) ha l2 _).mono ?_
  rintro e w' ⟨rfl, rfl⟩
  rw [E2.out]
  go_wp2
  go_ret
  exact ⟨rfl, hb1⟩

theorem sumWords_walk (a : Int) (h0 : (Lit.int .u16 a).wf = true) (b : Int) (h1 : (Lit.int .u16 b).wf = true) (c : Int) (h2 : (Lit.int .u16 c).wf = true) (w : World) :
    Calls Try.prog 5 #[.int .u16 a, .int .u16 b, .int .u16 c] w fun e w' => e = .returned (.bool true) ∧ Below w.heap.size w w' := by
  obtain ⟨a, rfl, ha⟩ := u16_nat h0
  obtain ⟨b, rfl, hb⟩ := u16_nat h1
  obtain ⟨c, rfl, hc⟩ := u16_nat h2
  exact words_nat a b c ha hb hc w
end Go.Proofs.Ytgoegdagliapmaa
