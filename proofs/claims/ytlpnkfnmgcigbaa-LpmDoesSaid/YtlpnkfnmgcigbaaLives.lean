/- What lives answers. -/
import Derived.Test.YtlpnkfnmgcigbaaFind
namespace Go.Proofs.Ytlpnkfnmgcigbaa
open Go.RowKit Lp

theorem all_any (p : Option Addr) (w : World) : Calls Try.prog 22 #[.pointer p] w fun e w' => e = .returned (.func (.func 29) #[] #[.pointer (some ⟨w.heap.size, 0, none⟩)]) ∧ w' = w.alloc (.cells #[.pointer p] 24) := by
  go_enter Try.func22, Try.ntmps22
  go_wp2
  go_ret
  exact ⟨rfl, rfl⟩

theorem eql_func_in (w : World) (d : Nat) (b : Addr) : (Op.equalIn (d + 1) 51 (.func (.func 29) #[] #[.pointer (some b)]) .nilFunc).run Try.prog w = .ok false w := by
  simp [Op.equalIn, run_underlying Try.underlying51]
theorem eql_func (w : World) (b : Addr) : (binOp .eql 51 (.func (.func 29) #[] #[.pointer (some b)]) .nilFunc).run Try.prog w = .ok (.bool false) w := by
  simp only [binOp]
  simp [Op.equal, Op.maxDepth, eql_func_in w 9999 b]

theorem l_add1 : addC [] 167772160 8 = 0 ∧ addL [] 167772160 8 1 = [⟨167772160, 8, 1⟩] := ⟨by decide, by decide⟩
theorem l_add2 : addC [⟨167772160, 8, 1⟩] 167837696 16 = 0 ∧ addL [⟨167772160, 8, 1⟩] 167837696 16 2 = [⟨167772160, 8, 1⟩, ⟨167837696, 16, 2⟩] := ⟨by decide, by decide⟩
set_option maxRecDepth 100000 in
theorem l_find : lon [⟨167772160, 8, 1⟩, ⟨167837696, 16, 2⟩] 167837701 33 = some ⟨167837696, 16, 2⟩ := by decide
theorem l_mask : (msk (clamp 8) : Int) = 4278190080 := by decide

/-- A table that the call itself made. -/
structure Own (B : Nat) (w : World) (t : Nat) (nd : Nd) (L : List Rt) : Prop where
  tab : Tab w t nd L
  own : ∀ k, Mine nd t k → B ≤ k
theorem Own.next {B : Nat} {w w' : World} {t : Nat} {nd nd' : Nd} {L L' : List Rt} (h : Own B w t nd L) (hB : B ≤ w.heap.size) (hn : Next w w' t nd nd' L') : Own B w' t nd' L' ∧ Below B w w' :=
  ⟨⟨hn.tab, fun k hk => by rcases hn.new k hk with h1 | h1; exact h.own k h1; omega⟩, hn.only.to_below hB h.own⟩
theorem Own.below {B : Nat} {w w' : World} {t : Nat} {nd : Nd} {L : List Rt} (h : Own B w t nd L) (hb : Below w.heap.size w w') : Own B w' t nd L := ⟨h.tab.below hb, h.own⟩

set_option maxRecDepth 100000 in
set_option maxHeartbeats 4000000 in
theorem lives_any (w : World) : Calls Try.prog 9 #[] w fun e w' => e = .returned (.bool true) ∧ Below w.heap.size w w' := by
  go_enter Try.func9, Try.ntmps9
  go_wp2_with fail
  refine (new_any w).mono ?_
  rintro e w1 ⟨t, nd, rfl, hT, hb, ho⟩
  have O1 := Lib.hid (Own.mk hT ho)
  have B1 := Lib.hid hb
  clear hT hb ho
  go_wp2_with fail
  refine (all_any _ w1).mono ?_
  rintro e w2 ⟨rfl, hw2⟩
  have hb2 : Below w1.heap.size w1 w2 := by rw [hw2]; exact (Below.refl _ _).alloc (Nat.le_refl _) _
  have O2 := Lib.hid (O1.out.below hb2)
  have B2 := Lib.hid (B1.out.trans (hb2.mono B1.out.size))
  clear hw2 hb2 O1 B1
  have F1 := eql_func w2 ⟨w1.heap.size, 0, none⟩
  go_wp2_with fail
  clear F1
  refine (add_any t 167772160 8 1 nd [] w2 O2.out.tab (by decide) (by decide)).mono ?_
  rintro e w3 ⟨rfl, nd3, hn⟩
  rw [l_add1.1]
  rw [l_add1.2] at hn
  have h3 := O2.out.next B2.out.size hn
  have O3 := Lib.hid h3.1
  have B3 := Lib.hid (B2.out.trans h3.2)
  clear hn h3 O2 B2
  go_wp2_with fail
  refine (add_any t 167837696 16 2 nd3 _ w3 O3.out.tab (by decide) (by decide)).mono ?_
  rintro e w4 ⟨rfl, nd4, hn⟩
  rw [l_add2.1]
  rw [l_add2.2] at hn
  have h4 := O3.out.next B3.out.size hn
  have O4 := Lib.hid h4.1
  have B4 := Lib.hid (B3.out.trans h4.2)
  clear hn h4 O3 B3
  go_wp2_with fail
  refine (find_yes t 167837701 nd4 _ w4 O4.out.tab (by decide)).mono ?_
  rintro e w5 ⟨rfl, hb5⟩
  rw [l_find]
  simp only [rtV, rp, rn, rv, Option.isSome]
  have O5 := Lib.hid (O4.out.below hb5)
  have B5 := Lib.hid (B4.out.trans (hb5.mono B4.out.size))
  clear hb5 O4 B4
  go_wp2_with fail
  obtain ⟨W, hW, hz, hb6⟩ := name_alloc w5 (.cells #[.int .u32 167837696, .int .i64 16, .int .i64 2] 37)
  have O6 := Lib.hid (O5.out.below hb6)
  have B6 := Lib.hid (B5.out.trans (hb6.mono B5.out.size))
  rw [hW]
  clear hW hz hb6 O5 B5
  refine (len_yes t nd4 _ W O6.out.tab).mono ?_
  rintro e w7 ⟨rfl, rfl⟩
  simp only [List.length_cons, List.length_nil]
  go_wp2_with fail
  refine (mask_any 8 W).mono ?_
  rintro e w7 ⟨rfl, rfl⟩
  rw [l_mask]
  go_wp2
  go_ret
  exact ⟨rfl, B6.out⟩

theorem msk_agree (n : Int) : ((msk (clamp n) : Nat) : Int) = (msk (clamp n) : Nat) := rfl
end Go.Proofs.Ytlpnkfnmgcigbaa
