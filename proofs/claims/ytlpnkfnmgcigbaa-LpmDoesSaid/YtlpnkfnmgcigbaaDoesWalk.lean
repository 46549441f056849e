/- LpmDoes: its walk. -/
import Derived.Test.YtlpnkfnmgcigbaaUno
import Derived.Deep.DeepCutAuto
namespace Go.Proofs.Ytlpnkfnmgcigbaa
open Go.RowKit Lp

set_option maxRecDepth 100000 in
set_option maxHeartbeats 8000000 in
theorem lpmDoes_walk (w : World) (a : Option Addr) (len cap : Nat) (F : Nat → Nat → Int) (hF : RowS w [.i64, .u32, .i64, .i64] 32 a len cap F) :
    Calls Try.prog 6 #[.slice a len cap] w fun e w' => e = .returned (.bool true) ∧ Below w.heap.size w w' := by
  have hla : len ≤ 4398046511104 := by have := hF.le; have := hF.reach; omega
  have HF := Lib.hid hF
  clear hF
  go_enter Try.func6, Try.ntmps6
  go_wp2_with fail
  refine (new_any w).mono ?_
  rintro e w1 ⟨t, nd, rfl, h1, hb1, ho1⟩
  have U1 : Hid (Uno w (w1.alloc (.cells #[.slice none 0 0] 30)) t nd w1.heap.size (w1.heap.size + 1) []) := Lib.hid
    ⟨⟨h1.alloc _, ho1⟩, ⟨⟨none, 0, Blk.new _ _ _, Reads.none_, fun ad h => (by cases h), Nat.le_refl _⟩, by omega⟩, fun hm => by have := h1.lt hm; omega, hb1.size, .inl (Blk.new _ _ _), hb1.alloc hb1.size _⟩
  clear h1 hb1 ho1
  go_wp2_with fail
  obtain ⟨x, hx⟩ : ∃ x, x = w1.heap.size := ⟨_, rfl⟩
  obtain ⟨w2, hw2⟩ : ∃ w2, w2 = w1.alloc (.cells #[.slice none 0 0] 30) := ⟨_, rfl⟩
  rw [← hw2, ← hx] at U1 ⊢
  clear hx hw2
  refine (lives_any w2).mono ?_
  rintro e w3 ⟨rfl, hb3⟩
  have U3 := Lib.hid (U1.out.below hb3)
  clear U1 hb3
  go_wp2_with fail
  go_loopw [5] (fun vi wr => ∃ i : Nat, i ≤ len ∧ vi = .int .i64 i ∧ Hid (∃ nd g L, Uno w wr t nd x g L ∧ L.length ≤ i)) (fun vi _ => len - (intOf vi).toNat)
  case atStart => exact ⟨0, by omega, rfl, Lib.hid ⟨_, _, _, U3.out, by simp⟩⟩
  case round =>
    obtain ⟨i, hi, rfl, hst⟩ := hrel
    obtain ⟨nd', g, L, hU, hL⟩ := hst.out
    by_cases hil : i < len
    · obtain ⟨ad, kd, p, n, v, rfl, hp, hcc⟩ := op_cells HF.out hil
      obtain ⟨c0, c1, c2, c3⟩ := hcc wr hU.bel
      have hm : ¬ Mine nd' t wr.heap.size := fun h => by have := hU.a.tab.lt h; omega
      have hbx : wr.heap.size ≠ x := by have := hU.rf.lt; omega
      have HB := Lib.hid (Blk.new wr 35 #[.int .i64 kd, .int .u32 p, .int .i64 n, .int .i64 v])
      have HU := Lib.hid (hU.alloc (.cells #[.int .i64 kd, .int .u32 p, .int .i64 n, .int .i64 v] 35))
      clear hcc hU hst U3
      go_upto_region 8 with fail
      obtain ⟨w4, hw4⟩ : ∃ w4, w4 = wr.alloc (.cells #[.int .i64 kd, .int .u32 p, .int .i64 n, .int .i64 v] 35) := ⟨_, rfl⟩
      rw [← hw4] at HB HU ⊢
      obtain ⟨bo, hbo⟩ : ∃ bo, bo = wr.heap.size := ⟨_, rfl⟩
      rw [← hbo] at HB hm hbx ⊢
      clear hw4 hbo c0 c1 c2 c3
      have HM := Lib.hid hm
      have HX := Lib.hid hbx
      clear hm hbx
      have b0 : w4.cell? ⟨bo, 0, none⟩ = some (.int .i64 kd) := HB.out.cell 0
      have b1 : w4.cell? ⟨bo, 1, none⟩ = some (.int .u32 p) := HB.out.cell 1
      have b2 : w4.cell? ⟨bo, 2, none⟩ = some (.int .i64 n) := HB.out.cell 2
      have b3 : w4.cell? ⟨bo, 3, none⟩ = some (.int .i64 v) := HB.out.cell 3
      have hL2 : L.length ≤ 4398046511104 := by omega
      by_cases k1 : kd = 1
      · subst k1
        go_wp2_with fail
        go_region_held (fun w' => w'.cell? ⟨bo, 1, none⟩ = some (.int .u32 p) ∧ w'.cell? ⟨bo, 2, none⟩ = some (.int .i64 n) ∧ w'.cell? ⟨bo, 3, none⟩ = some (.int .i64 v))
          (first | assumption | exact ⟨b1, b2, b3⟩)
          (first
            | (go_at_call 11; refine (add_any t p n v nd' L _ HU.out.drew.a.tab hp (by omega)).mono ?_; rintro e w5 ⟨rfl, nd5, hn⟩; have HU5 := Lib.hid (HU.out.drew.na hn); have HB5 := Lib.hid (far_next hn (HB.out.drewN 1) HM.out); have hS5 : w5.cell? ⟨bo, 1, none⟩ = some (.int .u32 p) ∧ w5.cell? ⟨bo, 2, none⟩ = some (.int .i64 n) ∧ w5.cell? ⟨bo, 3, none⟩ = some (.int .i64 v) := ⟨HB5.out.cell 1, HB5.out.cell 2, HB5.out.cell 3⟩; clear hn)
            | (go_at_call 10; refine (radd_any x g p n v L _ HU5.out.rf hp hL2).mono ?_; rintro e w6 ⟨rfl, g6, hn⟩; have HU6 := Lib.hid (HU5.out.nr hn); have HB6 := far_only hn.only HB5.out HX.out; have hS6 : w6.cell? ⟨bo, 1, none⟩ = some (.int .u32 p) ∧ w6.cell? ⟨bo, 2, none⟩ = some (.int .i64 n) ∧ w6.cell? ⟨bo, 3, none⟩ = some (.int .i64 v) := ⟨HB6.cell 1, HB6.cell 2, HB6.cell 3⟩; clear hn HB6))
        all_goals
          go_wp2_with fail
          go_roundw
          case rel => exact ⟨i + 1, by omega, by go_num, Lib.hid ⟨_, _, _, HU6.out, by have := addL_length L p n v; omega⟩⟩
          case measure => simp [intOf]; omega
      by_cases k2 : kd = 2
      · subst k2
        go_wp2_with fail
        go_region_held (fun w' => w'.cell? ⟨bo, 1, none⟩ = some (.int .u32 p) ∧ w'.cell? ⟨bo, 2, none⟩ = some (.int .i64 n))
          (first | assumption | exact ⟨b1, b2⟩)
          (first
            | (go_at_call 16; refine (remove_any t p n nd' L _ HU.out.drew.a.tab hp (by omega)).mono ?_; rintro e w5 ⟨rfl, nd5, hn⟩; have HU5 := Lib.hid (HU.out.drew.na hn); have HB5 := Lib.hid (far_next hn (HB.out.drewN 1) HM.out); have hS5 : w5.cell? ⟨bo, 1, none⟩ = some (.int .u32 p) ∧ w5.cell? ⟨bo, 2, none⟩ = some (.int .i64 n) := ⟨HB5.out.cell 1, HB5.out.cell 2⟩; clear hn)
            | (go_at_call 18; refine (rrem_any x g p n L _ HU5.out.rf HU.out.a.tab.trie.sorted hp hL2).mono ?_; rintro e w6 ⟨rfl, g6, hn⟩; have HU6 := Lib.hid (HU5.out.rem hn); have HB6 := far_only hn.only HB5.out HX.out; have hS6 : w6.cell? ⟨bo, 1, none⟩ = some (.int .u32 p) ∧ w6.cell? ⟨bo, 2, none⟩ = some (.int .i64 n) := ⟨HB6.cell 1, HB6.cell 2⟩; clear hn HB6))
        all_goals
          go_wp2_with fail
          go_roundw
          case rel => exact ⟨i + 1, by omega, by go_num, Lib.hid ⟨_, _, _, HU6.out, by have := remL_length (L := L) p n; omega⟩⟩
          case measure => simp [intOf]; omega
      by_cases k3 : kd = 3
      · subst k3
        obtain ⟨x1, x2, x3, x4, FY, FR⟩ : ∃ (x1 x2 : Nat) (x3 : Int) (x4 : Bool), Hid (∀ W t nd, Tab W t nd L → Calls Try.prog 12 #[.pointer (some ⟨t, 0, none⟩), .int .u32 p] W fun e w' => e = .returned (.tuple #[.agg #[.int .u32 x1, .int .i64 x2, .int .i64 x3], .bool x4]) ∧ Below W.heap.size W w') ∧
            Hid (∀ W g, Rf W x g L → Calls Try.prog 19 #[.pointer (some ⟨x, 0, none⟩), .int .u32 p] W fun e w' => e = .returned (.tuple #[.agg #[.int .u32 x1, .int .i64 x2, .int .i64 x3], .bool x4]) ∧ Below W.heap.size W w') :=
          ⟨_, _, _, _, Lib.hid fun W t nd h => find_yes t p nd L W h hp, Lib.hid fun W g h => rfind_best x g p L W h HU.out.a.tab.trie.sorted HU.out.a.tab.trie.right hp hL2⟩
        go_wp2_with fail
        refine (FY.out _ t nd' HU.out.a.tab).mono ?_
        rintro e w5 ⟨rfl, hb5⟩
        have HU5 := Lib.hid (HU.out.below hb5)
        have HB5 := HB.out.below hb5 HB.out.lt
        have d1 := (HB5.alloc (.cells #[.int .u32 x1, .int .i64 x2, .int .i64 x3] 37)).cell 1
        clear hb5 HB5
        go_wp2_with fail
        refine (FR.out _ g (HU5.out.alloc _).rf).mono ?_
        rintro e w6 ⟨rfl, hb6⟩
        have KA := ((Blk.new w5 37 #[.int .u32 x1, .int .i64 x2, .int .i64 x3]).below hb6 (by simp)).alloc (.cells #[.int .u32 x1, .int .i64 x2, .int .i64 x3] 37)
        have q0 := KA.cell 0
        have q1 := KA.cell 1
        have q2 := KA.cell 2
        have HU6 := Lib.hid (((HU5.out.alloc (.cells #[.int .u32 x1, .int .i64 x2, .int .i64 x3] 37)).below hb6).alloc (.cells #[.int .u32 x1, .int .i64 x2, .int .i64 x3] 37))
        clear hb6 HU5 d1 KA
        go_wp2_with fail
        go_roundw
        case rel => exact ⟨i + 1, by omega, by go_num, Lib.hid ⟨_, _, _, HU6.out, by omega⟩⟩
        case measure => simp [intOf]; omega
      by_cases k4 : kd = 4
      · subst k4
        go_wp2_with fail
        refine (get_yes t p n nd' L _ HU.out.a.tab hp).mono ?_
        rintro e w5 ⟨rfl, hd5⟩
        have HU5 : Hid (Uno w w5 t nd' x g L) := Lib.hid (by obtain ⟨m, rfl⟩ := hd5; exact HU.out.drewN m)
        have HB5 : Blk w5 bo 35 #[.int .i64 4, .int .u32 p, .int .i64 n, .int .i64 v] := by obtain ⟨m, rfl⟩ := hd5; exact HB.out.drewN m
        have d1 := HB5.cell 1
        have d2 := HB5.cell 2
        clear hd5 HB5
        go_wp2_with fail
        refine (rget_any x g p n L _ HU5.out.rf HU5.out.a.tab.trie.right hp hL2).mono ?_
        rintro e w6 ⟨rfl, rfl⟩
        go_wp2_with fail
        go_roundw
        case rel => exact ⟨i + 1, by omega, by go_num, Lib.hid ⟨_, _, _, HU5.out, by omega⟩⟩
        case measure => simp [intOf]; omega
      · go_wp2_with fail
        refine (looks_any t nd' x g L _ HU.out.both hL2).mono ?_
        rintro e w5 ⟨rfl, hb5⟩
        have HU5 := Lib.hid (HU.out.below hb5)
        clear hb5
        go_wp2_with fail
        go_roundw
        case rel => exact ⟨i + 1, by omega, by go_num, Lib.hid ⟨_, _, _, HU5.out, by omega⟩⟩
        case measure => simp [intOf]; omega
    · have HU := Lib.hid hU
      have hL2 : L.length ≤ 4398046511104 := by omega
      clear hU hst U3
      go_wp2_with fail
      refine (looks_any t nd' x g L _ HU.out.both hL2).mono ?_
      rintro e w5 ⟨rfl, hb5⟩
      have HU5 := Lib.hid (HU.out.below hb5)
      clear hb5
      go_wp2_with fail
      go_ret
      exact ⟨rfl, HU5.out.bel⟩
end Go.Proofs.Ytlpnkfnmgcigbaa
