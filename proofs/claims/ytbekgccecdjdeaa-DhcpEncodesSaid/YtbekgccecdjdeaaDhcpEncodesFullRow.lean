/-
  The law 'DhcpEncodes' answers true for every input, and its arguments read behind the call as before. No condition.
-/
import Derived.Test.YtbekgccecdjdeaaEncodesFull
import Derived.Test.YtbekgccecdjdeaaFrameB
namespace Go.Proofs.Ytbekgccecdjdeaa.DhcpEncodesFull
open Go.ChangeShapes Go.WideShapes Go.ChangeAt Go.RowKit
open Go.ChangeMaps (open_string shut_string)
set_option linter.unusedVariables false

theorem own : ownKnob Try.prog.godebug = none := by kernel_rfl
theorem laidOut : laidOutB Try.prog = true := by kernel_rfl
theorem nat_of32 {z : Int} (h : (Lit.int .u32 z).wf = true) : ∃ k : Nat, z = (k : Int) ∧ k < 4294967296 := by
  simp [Lit.wf, IntKind.min, IntKind.max, IntKind.signed, IntKind.bits] at h
  exact ⟨z.toNat, by omega, by omega⟩
theorem nat_of64 {z : Int} (h : (Lit.int .u64 z).wf = true) : ∃ k : Nat, z = (k : Int) ∧ k < 18446744073709551616 := by
  simp [Lit.wf, IntKind.min, IntKind.max, IntKind.signed, IntKind.bits] at h
  exact ⟨z.toNat, by omega, by omega⟩

set_option maxRecDepth 100000 in
theorem lifted (os : Os) (started : os.Started) (H : Type) (enc : TypeId × Value → H) :
    ReturnsInHanded {} Try.checked os 5 .any (Rows.dhcpEncodesSpec.pre6 enc Try.prog Try.f5 Rows.dhcpEncodesRow.domain false) (Rows.dhcpEncodesSpec.post enc Try.prog Try.f5 false true false false) := by
  refine returnsInHanded_of_change_sized (C := Try.checked) own started (by kernel_rfl) Try.func5
    (ChangeSpec.witness6 (enc := enc) (C := Try.checked) false ⟨#[], #[.agg #[.int .i64 0, .int .u32 0, .int .i64 0, .int .i64 0, .int .u32 0, .int .u32 0, .int .u32 0, .int .u32 0, .int .u64 0, .slice none 0 0], .slice none 0 0], []⟩ 8 (by kernel_rfl) (by kernel_rfl) (by kernel_rfl) (by kernel_rfl)) ?_
  intro W base args ds gs before hval0 hW hcnd hsz0 _
  have hsz : (DataW.weightsEach Try.prog (Try.f5.params.toList ++ Rows.dhcpEncodesSpec.plain.varTypes Try.prog) (ds ++ gs)).all (· ≤ reachBytes) = true := hsz0
  have hval : ∀ (j : Nat) t v, Try.f5.params[j]? = some t → args[j]? = some v → Value.okWide Try.prog W .any base t v := hval0
  have hW' := hW
  obtain ⟨p, q, hA0, hV, rfl, hfz, hnd⟩ := hW
  have hA : DataW.TrodAll enc Try.prog W 0 (fun _ => true) true Try.f5.params.toList args.toList ds p := hA0
  rw [Try.params5] at hA hval hsz
  obtain ⟨v0, vs0, d0, ds0, p0, q0, hargs, rfl, rfl, h0, r0⟩ := trodAll_cons hA
  obtain ⟨v1, vs1, d1, ds1, p1, q1, rfl, rfl, rfl, h1, r1⟩ := trodAll_cons r0
  obtain ⟨rfl, rfl, rfl⟩ := trodAll_nil r1
  obtain rfl : args = #[v0, v1] := by cases args; simp_all
  obtain ⟨rfl, rfl⟩ := trodVars_none hV
  have k0 := h0
  have lt0 : ∀ x ∈ p0, x.block < W.heap.size := by obtain ⟨m, hm⟩ := k0; exact DataW.trod_lt m _ _ _ hm
  obtain ⟨u0, u1, u2, u3, u4, u5, u6, u7, u8, u9, y0, y1, y2, y3, y4, y5, y6, y7, y8, y9, nf, rfl, _, t0, t1, t2, t3, t4, t5, t6, t7, t8, t9⟩ := open_agg10 Try.underlying31 (by kernel_rfl) (by kernel_rfl) (hval 0 31 v0 rfl rfl) h0
  obtain ⟨op, e0, _, _⟩ := DataW.trod_int (k := .i64) (by kernel_rfl) t0
  obtain ⟨xid, e1, _, b1⟩ := DataW.trod_int (k := .u32) (by kernel_rfl) t1
  obtain ⟨secs, e2, _, _⟩ := DataW.trod_int (k := .i64) (by kernel_rfl) t2
  obtain ⟨flags, e3, _, _⟩ := DataW.trod_int (k := .i64) (by kernel_rfl) t3
  obtain ⟨ci, e4, _, b4⟩ := DataW.trod_int (k := .u32) (by kernel_rfl) t4
  obtain ⟨yi, e5, _, b5⟩ := DataW.trod_int (k := .u32) (by kernel_rfl) t5
  obtain ⟨si, e6, _, b6⟩ := DataW.trod_int (k := .u32) (by kernel_rfl) t6
  obtain ⟨gi, e7, _, b7⟩ := DataW.trod_int (k := .u32) (by kernel_rfl) t7
  obtain ⟨ch, e8, _, b8⟩ := DataW.trod_int (k := .u64) (by kernel_rfl) t8
  obtain ⟨A, n, c, l, e9, hr⟩ := open_opts t9
  simp only [List.cons.injEq, and_true] at e0 e1 e2 e3 e4 e5 e6 e7 e8
  subst e0; subst e1; subst e2; subst e3; subst e4; subst e5; subst e6; subst e7; subst e8; subst e9
  obtain ⟨xid, rfl, m1⟩ := nat_of32 b1
  obtain ⟨ci, rfl, m4⟩ := nat_of32 b4
  obtain ⟨yi, rfl, m5⟩ := nat_of32 b5
  obtain ⟨si, rfl, m6⟩ := nat_of32 b6
  obtain ⟨gi, rfl, m7⟩ := nat_of32 b7
  obtain ⟨ch, rfl, m8⟩ := nat_of64 b8
  obtain ⟨a1, len1, cap1, rfl⟩ := okWide_slice Try.underlying37 (hval 1 37 v1 rfl rfl)
  have k1 := h1
  have lt1 : ∀ x ∈ p1, x.block < W.heap.size := by obtain ⟨m, hm⟩ := k1; exact DataW.trod_lt m _ _ _ hm
  obtain ⟨z1, g1⟩ := open_row (sz := 1) Try.underlying37 Try.underlying5 (by kernel_rfl) h1 (fun es sp hd => by
    have := sized_slice hsz (j := 1) (t := 37) (e := 5) rfl (by rw [hd]; rfl) Try.underlying37
    rwa [show Try.prog.bytesOf 5 = 1 from by kernel_rfl] at this)
  clear hA0 hval0
  refine (dhcpEncodes_full W op xid secs flags ci yi si gi ch A n c l hr m1 m4 m5 m6 m7 m8 a1 len1 cap1 z1 g1).mono fun e W' ⟨he, bel⟩ => ?_
  subst he
  exact ⟨_, rfl, _, _, _, [], _, [], hW', trodAll_mk1 (shut_bool Try.underlying4 _), (trodAll_cons_mk (Below.trod laidOut (by kernel_rfl) (of_decide_eq_true (by kernel_rfl)) k0 bel lt0) (trodAll_cons_mk (Below.trod laidOut (by kernel_rfl) (of_decide_eq_true (by kernel_rfl)) k1 bel lt1) trodAll_mk0)), rfl, bel.frame _, fun h => by cases h⟩

theorem over : Rows.dhcpEncodesRow.holds Try.pinned (OpenSpec.ofChange Rows.dhcpEncodesSpec) :=
  OpenClaim.holds_of_wide 5 Try.f5 rfl rfl rfl rfl rfl rfl rfl ⟨rfl, rfl, rfl, rfl, rfl⟩ rfl rfl rfl rfl rfl (by kernel_rfl) Try.func5 (by kernel_rfl)
    (of_decide_eq_true (by kernel_rfl)) (by unfold Func.isWrapper; first | (rw [if_pos (by decide +kernel)]; kernel_rfl) | (rw [if_neg (by decide +kernel)]; exact ⟨rfl, rfl⟩))
    (fun os started H enc _ => lifted os started H enc)

end Go.Proofs.Ytbekgccecdjdeaa.DhcpEncodesFull
namespace Go.Proofs.Ytbekgccecdjdeaa
theorem dhcpEncodes_holds : Rows.DhcpEncodesSaid := DhcpEncodesFull.over
end Go.Proofs.Ytbekgccecdjdeaa
