/- The law SumBytes, walked. -/
import Derived.Test.YtgoegdagliapmaaBytes
namespace Go.Proofs.Ytgoegdagliapmaa
open Go.RowKit

set_option maxHeartbeats 400000 in
theorem sumBytes_walk (w : World) (a : Option Addr) (len cap : Nat) (zs : List Int) (g : Row w .u8 1 a len cap zs) :
    Calls Try.prog 3 #[.slice a len cap] w fun e w' => e = .returned (.bool true) ∧ Below w.heap.size w w' := by
  obtain ⟨l, hlen, hr, hl, hle, hreach⟩ := bytes_of_row g
  clear g hlen
  obtain ⟨i0, hi, hz0, hz1, hz2⟩ := info_parts Try.info5
  have l1 := nrm_le (tot l len)
  go_enter Try.func3, Try.ntmps3
  go_wp2_with (at_builtin; refine wpList_append_copy rfl (.tmp 4) (.tmp 5) 22 rfl w 5 i0 _ 1 1 Try.underlying22 hi hz0 hz1 hz2 rfl (by decide) rfl a len cap (bs l) rfl hr (bs_one l) (by unfold maxLen; omega) (by omega) ?_; intro A1 c1 w1 hown hr1 hb1; clear hown)
  have hr' := hr.below hb1
  refine (lives_any w1).mono ?_
  rintro e w2 ⟨rfl, hb2⟩
  have hb := hb1.trans (hb2.mono hb1.size)
  have hr2 := hr1.below hb2
  have hr2' := hr'.below (hb2.mono hb1.size)
  have k1 := run_bytes_str (P := Try.prog) Try.underlying22 Try.underlying5 Try.underlying9 c1 hr2
  have k2 := run_bytes_str (P := Try.prog) Try.underlying22 Try.underlying5 Try.underlying9 cap hr2'
  clear hb1 hb2 hr1 hr' hr
  go_wp2_with fail
  refine (sum_any A1 len c1 l _ _ hr2 hl (by omega)).mono ?_
  rintro e w' ⟨rfl, rfl⟩
  go_wp2_with fail
  refine (rsum_any a len cap l _ _ hr2' hl (by omega)).mono ?_
  rintro e w' ⟨rfl, rfl⟩
  go_wp2_with fail
  refine (check_any A1 len c1 l _ _ hr2 hl (by omega)).mono ?_
  rintro e w' ⟨rfl, rfl⟩
  go_wp2_with fail
  refine (rcheck_any a len cap l _ _ hr2' hl (by omega)).mono ?_
  rintro e w' ⟨rfl, rfl⟩
  go_wp2
  go_ret
  exact ⟨rfl, hb⟩
end Go.Proofs.Ytgoegdagliapmaa
