/- LpmMasks: its walk. -/
import Derived.Test.YtlpnkfnmgcigbaaLives
import Derived.Test.YtlpnkfnmgcigbaaRef
namespace Go.Proofs.Ytlpnkfnmgcigbaa
open Go.RowKit Lp

theorem lpmMasks_walk (w : World) (n : Int) (_ : (Lit.int .i64 n).wf = true) : Calls Try.prog 4 #[.int .i64 n] w fun e w' => e = .returned (.bool true) ∧ Below w.heap.size w w' := by
  go_enter Try.func4, Try.ntmps4
  go_wp2_with fail
  refine (lives_any w).mono ?_
  rintro e w1 ⟨rfl, hb⟩
  have HB := Lib.hid hb
  clear hb
  go_wp2_with fail
  refine (mask_any n w1).mono ?_
  rintro e w2 ⟨rfl, rfl⟩
  go_wp2_with fail
  refine (rmask_any n w1).mono ?_
  rintro e w2 ⟨rfl, rfl⟩
  go_wp2
  go_ret
  exact ⟨rfl, HB.out⟩
end Go.Proofs.Ytlpnkfnmgcigbaa
