/-
  The law 'LpmDoes' answers true for every input, and its arguments read behind the call as before. No condition.
-/
import Derived.Test.YtlpnkfnmgcigbaaDoesWalk
import Derived.Test.YtlpnkfnmgcigbaaFrameS
namespace Go.Proofs.Ytlpnkfnmgcigbaa.LpmDoesRow
open Go.ChangeShapes Go.WideShapes Go.ChangeAt Go.RowKit
open Go.ChangeMaps (open_string shut_string)
set_option linter.unusedVariables false

theorem own : ownKnob Try.prog.godebug = none := by kernel_rfl
theorem laidOut : laidOutB Try.prog = true := by kernel_rfl

set_option maxRecDepth 100000 in
theorem lifted (os : Os) (started : os.Started) (H : Type) (enc : TypeId × Value → H) :
    ReturnsInHanded {} Try.checked os 6 .any (Rows.lpmDoesSpec.pre6 enc Try.prog Try.f6 Rows.lpmDoesRow.domain false) (Rows.lpmDoesSpec.post enc Try.prog Try.f6 false true false false) := by
  refine returnsInHanded_of_change_sized (C := Try.checked) own started (by kernel_rfl) Try.func6
    (ChangeSpec.witness6 (enc := enc) (C := Try.checked) false ⟨#[], #[.slice none 0 0], []⟩ 8 (by kernel_rfl) (by kernel_rfl) (by kernel_rfl) (by kernel_rfl)) ?_
  intro W base args ds gs before hval0 hW hcnd hsz0 _
  have hsz : (DataW.weightsEach Try.prog (Try.f6.params.toList ++ Rows.lpmDoesSpec.plain.varTypes Try.prog) (ds ++ gs)).all (· ≤ reachBytes) = true := hsz0
  have hval : ∀ (j : Nat) t v, Try.f6.params[j]? = some t → args[j]? = some v → Value.okWide Try.prog W .any base t v := hval0
  have hW' := hW
  obtain ⟨p, q, hA0, hV, rfl, hfz, hnd⟩ := hW
  have hA : DataW.TrodAll enc Try.prog W 0 (fun _ => true) true Try.f6.params.toList args.toList ds p := hA0
  rw [Try.params6] at hA hval hsz
  obtain ⟨v0, vs0, d0, ds0, p0, q0, hargs, rfl, rfl, h0, r0⟩ := trodAll_cons hA
  obtain ⟨rfl, rfl, rfl⟩ := trodAll_nil r0
  obtain rfl : args = #[v0] := by cases args; simp_all
  obtain ⟨rfl, rfl⟩ := trodVars_none hV
  obtain ⟨a0, len0, cap0, rfl⟩ := okWide_slice Try.underlying22 (hval 0 22 v0 rfl rfl)
  have k0 := h0
  have lt0 : ∀ x ∈ p0, x.block < W.heap.size := by obtain ⟨m, hm⟩ := k0; exact DataW.trod_lt m _ _ _ hm
  obtain ⟨z0, g0⟩ := open_row_s (ks := [.i64, .u32, .i64, .i64]) (sz := 32) Try.underlying22 Try.underlying35 (by kernel_rfl) (by kernel_rfl) rfl (fun q f k hf hk => match q, hf, hk with | 0, hf, hk => by cases hf; cases hk; kernel_rfl | 1, hf, hk => by cases hf; cases hk; kernel_rfl | 2, hf, hk => by cases hf; cases hk; kernel_rfl | 3, hf, hk => by cases hf; cases hk; kernel_rfl | n + 4, hf, _ => by simp at hf) h0 (by decide) (fun es sp hd => by
    have := sized_slice hsz (j := 0) (t := 22) (e := 35) rfl (by rw [hd]; rfl) Try.underlying22
    rwa [show Try.prog.bytesOf 35 = 32 from by kernel_rfl] at this)
  clear hA0 hval0
  refine (lpmDoes_walk W a0 len0 cap0 z0 g0).mono fun e W' ⟨he, bel⟩ => ?_
  subst he
  exact ⟨_, rfl, _, _, _, [], _, [], hW', trodAll_mk1 (shut_bool Try.underlying4 _), (trodAll_cons_mk (Below.trod laidOut (by kernel_rfl) (of_decide_eq_true (by kernel_rfl)) k0 bel lt0) trodAll_mk0), rfl, bel.frame _, fun h => by cases h⟩

theorem over : Rows.lpmDoesRow.holds Try.pinned (OpenSpec.ofChange Rows.lpmDoesSpec) :=
  OpenClaim.holds_of_wide 6 Try.f6 rfl rfl rfl rfl rfl rfl rfl ⟨rfl, rfl, rfl, rfl, rfl⟩ rfl rfl rfl rfl rfl (by kernel_rfl) Try.func6 (by kernel_rfl)
    (of_decide_eq_true (by kernel_rfl)) (by unfold Func.isWrapper; first | (rw [if_pos (by decide +kernel)]; kernel_rfl) | (rw [if_neg (by decide +kernel)]; exact ⟨rfl, rfl⟩))
    (fun os started H enc _ => lifted os started H enc)

end Go.Proofs.Ytlpnkfnmgcigbaa.LpmDoesRow
namespace Go.Proofs.Ytlpnkfnmgcigbaa
theorem lpmDoes_holds : Rows.LpmDoesSaid := LpmDoesRow.over
end Go.Proofs.Ytlpnkfnmgcigbaa

