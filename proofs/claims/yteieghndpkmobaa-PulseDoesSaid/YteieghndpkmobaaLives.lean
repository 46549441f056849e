/- New; lives. -/
import Derived.Test.YteieghndpkmobaaRof
namespace Go.Proofs.Yteieghndpkmobaa
open Go.RowKit

theorem ok4 : okCounts [1, 2, 3, 4] := ⟨by decide, by decide, by decide⟩
theorem prt4 : prt [1, 2, 3, 4] 1 4 = (-2, -2) := by decide
theorem fs4 : fs [1, 2, 3, 4] 1 4 = 2 := by decide
theorem rot4 : rot (-2, -2) ((1 : Int) % 4).toNat = (2, -2) := by decide
theorem g1 : (FloatKind.f64.format.order (I (-2)) 13835058055282163712 == some .eq) = true := by decide
theorem g2 : (FloatKind.f64.format.order (pwF (-2) (-2)) 4620693217682128896 == some .eq) = true := by decide
theorem g3 : (FloatKind.f64.format.order (I 2) 4611686018427387904 == some .eq) = true := by decide

set_option maxRecDepth 100000 in
set_option maxHeartbeats 800000 in
theorem lives_any (w : World) : Calls Try.prog 11 #[] w fun e w' => e = .returned (.bool true) ∧ Below w.heap.size w w' := by
  have h1 := g1
  have h2 := g2
  have h3 := g3
  go_enter Try.func11, Try.ntmps11
  go_wp2_with fail
  obtain ⟨W, hW, hz, hb⟩ := name_alloc w (.cells #[.int .i64 1, .int .i64 2, .int .i64 3, .int .i64 4] 3)
  have hR : Reads W W.heap.size 1 (some ⟨w.heap.size, 0, none⟩) 4 (is [1, 2, 3, 4]) := by rw [← hW]; exact reads_lit w 3 _ _ 4 _ (by simp) (by simp [is]) (by rfl)
  rw [hW]
  clear hW hz
  refine (of_yes _ 4 4 [1, 2, 3, 4] W hR ok4).mono ?_
  rintro e w1 ⟨b, rfl, hp, hb1⟩
  have hbw := hb.trans (hb1.mono hb.size)
  clear hR hb hb1
  have c1 := beat_4 58 b _ w1 hp (by decide) (by decide) (counts_of ok4)
  have c3 := Fourth_in 58 b _ 1 w1 hp (by decide) (by decide) (counts_of ok4) (by omega)
  rw [show ([1, 2, 3, 4] : List Int).length = 4 from rfl, prt4] at c1
  rw [show ([1, 2, 3, 4] : List Int).length = 4 from rfl, fs4] at c3
  have c2 := power_of _ 4 (-2) (-2) 0 w1 (by decide) (by decide) c1
  have c4 := turn_any (-2) (-2) 1 (by decide) (by decide) w1
  rw [rot4] at c4
  have C1 := Lib.hid c1
  have C2 := Lib.hid c2
  have C3 := Lib.hid c3
  have C4 := Lib.hid c4
  clear c1 c2 c3 c4 hp
  go_wp2_with fail
  refine C1.out.mono ?_
  rintro e w' ⟨rfl, rfl⟩
  go_wp2_with fail
  refine C2.out.mono ?_
  rintro e w' ⟨rfl, rfl⟩
  go_wp2_with fail
  refine C3.out.mono ?_
  rintro e w' ⟨rfl, rfl⟩
  go_wp2_with fail
  refine C4.out.mono ?_
  rintro e w' ⟨rfl, rfl⟩
  go_wp2
  go_ret
  exact ⟨rfl, hbw⟩
end Go.Proofs.Yteieghndpkmobaa
