/- LpmNobody: its walk. -/
import Derived.Test.YtlpnkfnmgcigbaaLives
import Derived.RangeFuncFrom
import Derived.RangeFuncNested
import Derived.RangeFuncBound
import Derived.RangeFuncCalls
import Derived.RangeFuncLeaves
import Derived.Shelf.Abstract
import Derived.Shelf.RegionOpen
import Derived.OwnWalkIn
import Derived.TacticsInMore
import Derived.LoopNIn
import Derived.LoopIn
namespace Go.Proofs.Ytlpnkfnmgcigbaa
open Go.RowKit Go.Shelf Lp
attribute [local go_sem] Oper.semAt_some

theorem find_no (ip : Nat) (w : World) : Calls Try.prog 12 #[.pointer none, .int .u32 ip] w fun e w' => e = .returned (.tuple #[rtV none, .bool false]) ∧ Below w.heap.size w w' := by
  go_enter Try.func12, Try.ntmps12
  go_wp2_with fail
  refine wp_scope_key 0 (fun _ _ => False) (fun _ _ => 0) rfl (fun _ _ h => h.elim) (fun _ => ?_)
  go_wp2_with (go_at_call 25; refine (made_no _).mono ?_; rintro e w' ⟨rfl, rfl⟩)
  simp only [Exit.jump]
  refine bodyPost_ret (res3 rfl _ _ w.heap.size #[.int .u32 0, .int .i64 0, .int .i64 0] ((Blk.new w 37 _).alloc _) rfl rfl) rfl ?_
  refine ⟨rfl, ?_⟩
  exact ((Below.refl _ _).alloc (Nat.le_refl _) _).alloc (by simp) _

theorem each_nobody (Bt : Nat) (w : World) (n : Nat) (hB : Bt < w.heap.size) (hc : w.cell? ⟨Bt, 0, none⟩ = some (.pointer none)) (encs : Unit → Array Value) (n₀ : Nat) :
    SeqStopsK Fence.wide n Try.prog 29 #[.pointer (some ⟨Bt, 0, none⟩)] encs (Below n₀) (fun ys => ys = []) (fun _ => False) 0 w := fun l J Jx W hW _ _ _ h0 => by
  have hb := (hW.cell (p := ⟨Bt, 0, none⟩) hB).trans hc
  have MD := Lib.hid (callsIn_wide (n := n - 1).2 (made_no W))
  refine callsIn_of_wp Try.func29 rfl trivial ?_ rfl
  simp only [Try.ntmps29, List.size_toArray, List.length_cons, List.length_nil, Nat.reduceAdd, Nat.reduceSub, Array.replicate_succ, Array.replicate_zero, List.push_toArray, List.append_toArray, List.nil_append, List.cons_append]
  gi_wp2_with (refine ⟨trivial, fun h => (by cases h), ?_⟩; gi_at_call 25; refine MD.out.mono ?_; rintro e w' ⟨rfl, rfl⟩)
  go_end0
  exact ⟨⟨_, rfl⟩, .inl ⟨[], rfl, h0⟩⟩

set_option maxRecDepth 100000 in
set_option maxHeartbeats 4000000 in
theorem lpmNobody_walk (w : World) (ip : Int) (g0 : (Lit.int .u32 ip).wf = true) (n : Int) (_ : (Lit.int .i64 n).wf = true) : Calls Try.prog 7 #[.int .u32 ip, .int .i64 n] w fun e w' => e = .returned (.bool true) ∧ Below w.heap.size w w' := by
  obtain ⟨p, rfl, hp⟩ : ∃ p : Nat, ip = p ∧ p < 4294967296 := by
    simp [Lit.wf, IntKind.min, IntKind.max, IntKind.signed, IntKind.bits] at g0
    exact ⟨ip.toNat, by omega, by omega⟩
  clear g0
  refine (callsIn_wide (n := 3)).1 ?_
  refine callsIn_of_wp_marks Try.func7 rfl trivial ?_ rfl
  simp only [Try.ntmps7, List.size_toArray, List.length_cons, List.length_nil, Nat.reduceAdd, Nat.reduceSub, Array.replicate_succ, Array.replicate_zero, List.push_toArray, List.append_toArray, List.nil_append, List.cons_append]
  gi_wp2_with fail
  refine ⟨trivial, callsIn_wide.2 ((lives_any _).mono ?_)⟩
  rintro e w1 ⟨rfl, hb⟩
  have K1 : Hid (Blk w1 w.heap.size 4 #[.bool false] ∧ Below w.heap.size w w1) := Lib.hid ⟨(Blk.new w 4 _).below hb (by simp), ((Below.refl _ w).alloc (Nat.le_refl _) _).trans (hb.mono (by simp))⟩
  clear hb
  gi_wp2_with fail
  refine ⟨trivial, callsIn_wide.2 ((all_any none w1).mono ?_)⟩
  rintro e w2 ⟨rfl, hw2⟩
  have K2 : Hid (Blk w2 w.heap.size 4 #[.bool false] ∧ Below w.heap.size w w2) := Lib.hid ⟨by rw [hw2]; exact K1.out.1.alloc _, by rw [hw2]; exact K1.out.2.alloc K1.out.2.size _⟩
  have F1 := eql_func w2 ⟨w1.heap.size, 0, none⟩
  clear hw2 K1
  gi_wp2_with fail
  clear F1
  refine ⟨trivial, callsIn_wide.2 ((find_no p w2).mono ?_)⟩
  rintro e w3 ⟨rfl, hb3⟩
  have K3 : Hid (Blk w3 w.heap.size 4 #[.bool false] ∧ Below w.heap.size w w3) := Lib.hid ⟨K2.out.1.below hb3 K2.out.1.lt, K2.out.2.trans (hb3.mono K2.out.2.size)⟩
  clear hb3 K2
  simp only [rtV, rp, rn, rv]
  gi_wp2_with fail
  obtain ⟨w4, hw4, hz, hb4⟩ := name_alloc w3 (.cells #[.int .u32 0, .int .i64 0, .int .i64 0] 37)
  rw [hw4]
  have K4 : Hid (Blk w4 w.heap.size 4 #[.bool false] ∧ Below w.heap.size w w4) := Lib.hid ⟨K3.out.1.below hb4 K3.out.1.lt, K3.out.2.trans (hb4.mono K3.out.2.size)⟩
  clear hw4 hz hb4 K3
  refine ⟨trivial, callsIn_wide.2 ((get_no p n w4).mono ?_)⟩
  rintro e w5 ⟨rfl, rfl⟩
  gi_wp2_with fail
  refine ⟨trivial, callsIn_wide.2 ((all_any none w4).mono ?_)⟩
  rintro e w5 ⟨rfl, hw5⟩
  have K5 : Hid (Blk w5 w.heap.size 4 #[.bool false] ∧ Below w.heap.size w w5) := Lib.hid ⟨by rw [hw5]; exact K4.out.1.alloc _, by rw [hw5]; exact K4.out.2.alloc K4.out.2.size _⟩
  have F1 := eql_func w5 ⟨w4.heap.size, 0, none⟩
  clear hw5 K4
  gi_wp2_with fail
  clear F1
  refine ⟨trivial, callsIn_wide.2 ((all_any none w5).mono ?_)⟩
  rintro e w6 ⟨rfl, hw6⟩
  have hsz : w5.heap.size < w6.heap.size := by rw [hw6]; simp
  have hbx : w6.cell? ⟨w5.heap.size, 0, none⟩ = some (.pointer none) := by rw [hw6]; exact (Blk.new w5 24 #[.pointer none]).cell 0
  have K6 : Hid (Blk w6 w.heap.size 4 #[.bool false] ∧ Below w.heap.size w w6) := Lib.hid ⟨by rw [hw6]; exact K5.out.1.alloc _, by rw [hw6]; exact K5.out.2.alloc K5.out.2.size _⟩
  clear hw6 K5
  gi_wp2_with fail
  refine wpIn_rangeFunc_ownF rfl (by omega) (gf := 29) (lb := #[.pointer (some ⟨w5.heap.size, 0, none⟩)]) rfl trivial (enters_of Try.func29 (by kernel_rfl) rfl)
    (each_nobody w5.heap.size w6 2 hsz hbx (fun _ => #[rtV none]) w.heap.size) belowK_t (belowK_b K6.out.2.size) (Below.refl _ _) (fun _ => rfl)
    (fun _ W => (W.cell? ⟨w.heap.size, 0, none⟩ = some (.bool false) ∧ W.frozen? ⟨w.heap.size, 0, none⟩ = false) ∧ Below w.heap.size w W)
    (fun _ _ _ => False)
    (OwnFrom.and (Own.from (fun s A B row hs hg hr => ⟨cell_kept hs.1 hg hr, (frozen_kept hs.1 hg hr).trans hs.2⟩) _) (ownFrom_below (Nat.le_refl _) K6.out.2.size))
    (fun _ _ _ _ _ hs _ _ => hs)
    ⟨⟨K6.out.1.cell 0, K6.out.1.frozen 0⟩, K6.out.2⟩
    ?a1 ?assign ?body ?done ?stop
  case assign =>
    intro l x W K hK
    gi_wp2
    exact hK
  case body =>
    rintro l pre x W _ hlt
    exact absurd hlt (by simp)
  case done =>
    rintro D ys W hD rfl ⟨⟨hc, hf⟩, hB⟩ hK
    have HB := Lib.hid hB
    clear hB
    gi_wp2_with (first
      | (refine ⟨trivial, ?_⟩; gi_at_call 11; refine (callsIn_wide.2 (add_no p n n _)).mono ?_; rintro e w' ⟨rfl, rfl⟩)
      | (refine ⟨trivial, ?_⟩; gi_at_call 16; refine (callsIn_wide.2 (remove_no p n _)).mono ?_; rintro e w' ⟨rfl, rfl⟩)
      | (refine ⟨trivial, ?_⟩; gi_at_call 17; refine (callsIn_wide.2 (len_no _)).mono ?_; rintro e w' ⟨rfl, rfl⟩))
    have hK' := (KeepsOthers.setCell W ⟨w.heap.size, 0, none⟩ (.bool true)).same D _ hK rfl
    refine ⟨by simp, .inl ⟨_, _, rfl, run_takeDeferred hK', ?_⟩⟩
    have hc5 := cell_kept (World.cell?_setCell_same' W ⟨w.heap.size, 0, none⟩ (.bool true) (by rw [hc]; rfl)) (grownBy_putObj' _ D (.deferred none)) (fun r e => by cases e; exact ⟨_, hK', rfl⟩)
    refine ⟨.bool true, ?_, rfl, (HB.out.setCell (p := ⟨w.heap.size, 0, none⟩) (Nat.le_refl _) _).trans (belowK_b (w := w) (Nat.le_refl _) _ D _ _ (by have := K6.out.2.size; omega) hK' rfl rfl)⟩
    simp [results, Try.f7, go_sem, hc5]
  case stop =>
    rintro D c pre W _ h _ _
    exact h.elim
end Go.Proofs.Ytlpnkfnmgcigbaa
