/- LpmLongest: its walk. -/
import Derived.Test.YtlpnkfnmgcigbaaTri
import Derived.Test.YtlpnkfnmgcigbaaGoneWalk
namespace Go.Proofs.Ytlpnkfnmgcigbaa
open Go.RowKit Lp

set_option maxRecDepth 100000 in
set_option maxHeartbeats 8000000 in
theorem lpmLongest_walk (w : World) (a : Option Addr) (len cap : Nat) (F : Nat → Nat → Int) (hF : RowS w [.i64, .u32, .i64, .i64] 32 a len cap F)
    (c : Option Addr) (lenc capc : Nat) (zs : List Int) (hz : Row w .u32 4 c lenc capc zs) :
    Calls Try.prog 3 #[.slice a len cap, .slice c lenc capc] w fun e w' => e = .returned (.bool true) ∧ Below w.heap.size w w' := by
  have hla : len ≤ 4398046511104 := by have := hF.le; have := hF.reach; omega
  have hlc : lenc ≤ 35184372088832 := by have := hz.le; have := hz.reach; omega
  have HF := Lib.hid hF
  have HZ := Lib.hid hz
  clear hF hz
  go_enter Try.func3, Try.ntmps3
  go_wp2_with fail
  refine (new_any w).mono ?_
  rintro e w1 ⟨t1, nd1, rfl, h1, hb1, ho1⟩
  go_wp2_with fail
  refine (new_any w1).mono ?_
  rintro e w2 ⟨t2, nd2, rfl, h2, hb2, ho2⟩
  have D2 := Lib.hid (duo_new h1 hb1 ho1 h2 hb2 ho2)
  clear h1 hb1 ho1 h2 hb2 ho2
  go_wp2_with fail
  refine (lives_any w2).mono ?_
  rintro e w3 ⟨rfl, hb3⟩
  have D3 := D2.out.below hb3
  have T3 : Hid (Tri w (w3.alloc (.cells #[.slice none 0 0] 30)) t1 nd1 [] t2 nd2 [] w3.heap.size (w3.heap.size + 1) []) := Lib.hid
    ⟨D3.alloc _, ⟨⟨none, 0, Blk.new _ _ _, Reads.none_, fun ad h => (by cases h), Nat.le_refl _⟩, by omega⟩, fun hm => by have := D3.a.tab.lt hm; omega, fun hm => by have := D3.b.tab.lt hm; omega, D3.bel.size, .inl (Blk.new _ _ _)⟩
  clear D2 D3 hb3
  go_wp2_with fail
  obtain ⟨x, hx⟩ : ∃ x, x = w3.heap.size := ⟨_, rfl⟩
  obtain ⟨w4, hw4⟩ : ∃ w4, w4 = w3.alloc (.cells #[.slice none 0 0] 30) := ⟨_, rfl⟩
  rw [← hw4, ← hx] at T3 ⊢
  clear hx hw4
  go_loopw [8] (fun vi wr => ∃ i : Nat, i ≤ len ∧ vi = .int .i64 i ∧ Hid (∃ nd1 nd2 g L, Tri w wr t1 nd1 L t2 nd2 [] x g L ∧ L.length ≤ i)) (fun vi _ => len - (intOf vi).toNat)
  case atStart => exact ⟨0, by omega, rfl, Lib.hid ⟨_, _, _, _, T3.out, by simp⟩⟩
  case round =>
    obtain ⟨i, hi, rfl, hst⟩ := hrel
    by_cases hil : i < len
    · obtain ⟨nd1', nd2', g, L, hT, hL⟩ := hst.out
      obtain ⟨ad, kd, p, n, v, rfl, hp, hcc⟩ := op_cells HF.out hil
      have HT := Lib.hid hT
      have HC := Lib.hid hcc
      obtain ⟨_, c1, c2, c3⟩ := hcc wr hT.duo.bel
      clear hT hcc hst T3
      go_wp2_with fail
      refine wp_region_still_tail 16 (by kernel_rfl) (by kernel_rfl) ?_
      simp only [List.take_succ_cons, List.take_zero, List.drop_succ_cons, List.drop_zero]
      repeat still_step
      refine wpStill_nil ?_
      change wpList _ _ _ _ _ wr.drew
      go_wp2_with fail
      refine (radd_any x g p n v L wr.drew HT.out.drew.rf hp (by omega)).mono ?_
      rintro e w5 ⟨rfl, g5, hn⟩
      have HT4 := Lib.hid (HT.out.drew.nr hn)
      obtain ⟨_, d1, d2, d3⟩ := HC.out w5 HT4.out.duo.bel
      clear hn c1 c2 c3 HT
      go_wp2_with fail
      refine wp_region_still_tail 16 (by kernel_rfl) (by kernel_rfl) ?_
      simp only [List.take_succ_cons, List.take_zero, List.drop_succ_cons, List.drop_zero]
      repeat still_step
      refine wpStill_nil ?_
      change wpList _ _ _ _ _ w5.drew
      go_wp2_with fail
      refine (add_any t1 p n v nd1' L w5.drew HT4.out.drew.duo.a.tab hp (by omega)).mono ?_
      rintro e w6 ⟨rfl, nd4, hn⟩
      have HT5 := Lib.hid (HT4.out.drew.na hn)
      clear hn d1 d2 d3 HT4
      go_wp2_with fail
      go_roundw
      case rel => exact ⟨i + 1, by omega, by go_num, Lib.hid ⟨_, _, _, _, HT5.out, by have := addL_length L p n v; omega⟩⟩
      case measure => simp [intOf]; omega
    · obtain ⟨nd1', nd2', g, L, hT, hL⟩ := hst.out
      have HT := Lib.hid hT
      have HSO := Lib.hid hT.duo.a.tab.trie.sorted
      have HRI := Lib.hid hT.duo.a.tab.trie.right
      obtain ⟨A, cc, hB, _, _, hcc⟩ := hT.rf.row
      have cx : wr.cell? ⟨x, 0, none⟩ = some (.slice A L.length cc) := hB.cell 0
      clear hT hst T3 hB hcc
      go_wp2_with fail
      clear cx
      go_loopw [9] (fun vi wr => ∃ k : Nat, k ≤ L.length ∧ vi = .int .i64 ((k : Int) - 1) ∧ Hid (∃ nd2, Tri w wr t1 nd1' L t2 nd2 (L.drop k) x g L)) (fun vi _ => (intOf vi + 1).toNat)
      case atStart => exact ⟨L.length, by omega, rfl, Lib.hid ⟨_, by rw [List.drop_length]; exact HT.out⟩⟩
      case round =>
        obtain ⟨k, hk, rfl, hst⟩ := hrel
        cases k with
        | succ j =>
          rw [show (((j + 1 : Nat) : Int) - 1) = (j : Int) by omega]
          have hjl : j < L.length := by omega
          obtain ⟨nd3, hT⟩ := hst.out
          obtain ⟨A, cc, hB, hR, _, hcc⟩ := hT.rf.row
          obtain ⟨ad, rfl, hab, hab3, e0, e1, e2⟩ := rt_cells hR hjl
          have cx : wr.cell? ⟨x, 0, none⟩ = some (.slice (some ad) L.length cc) := hB.cell 0
          have hpj : L[j].p < 4294967296 := (HRI.out L[j] (List.getElem_mem hjl)).1
          have AF := Lib.hid (add_front HSO.out HRI.out hjl)
          have HTJ := Lib.hid hT
          have hdl : (L.drop (j + 1)).length < 4611686018427387904 := by rw [List.length_drop]; omega
          clear hT hst hB hR HT
          generalize L[j] = o at *
          obtain ⟨op, on, ov⟩ := o
          simp only at e0 e1 e2 hpj AF
          go_wp2_with fail
          refine wp_region_still_tail 25 (by kernel_rfl) (by kernel_rfl) ?_
          simp only [List.take_succ_cons, List.take_zero, List.drop_succ_cons, List.drop_zero]
          repeat still_step
          refine wpStill_nil ?_
          change wpList _ _ _ _ _ wr.drew
          go_wp2_with fail
          refine (add_any t2 op on ov nd3 (L.drop (j + 1)) wr.drew HTJ.out.drew.duo.b.tab hpj hdl).mono ?_
          rintro e w5 ⟨rfl, nd4, hn⟩
          rw [AF.out.1]
          rw [AF.out.2] at hn
          have HT5 := Lib.hid (HTJ.out.drew.nb hn)
          clear hn HTJ cx e0 e1 e2 hdl
          go_wp2_with fail
          go_roundw
          case rel => exact ⟨j, by omega, rfl, Lib.hid ⟨_, HT5.out⟩⟩
          case measure => simp [intOf]
        | zero =>
          rw [show (((0 : Nat) : Int) - 1) = -1 by omega]
          obtain ⟨nd3, hT⟩ := hst.out
          rw [List.drop_zero] at hT
          have HT3 := Lib.hid hT
          clear hT hst HT
          go_wp2_with fail
          go_loopw [10] (fun vi wr => ∃ i : Nat, i ≤ lenc ∧ vi = .int .i64 i ∧ Hid (Tri w wr t1 nd1' L t2 nd3 L x g L)) (fun vi _ => lenc - (intOf vi).toNat)
          case atStart => exact ⟨0, by omega, rfl, HT3⟩
          case round =>
            obtain ⟨m, hm, rfl, HT4⟩ := hrel
            by_cases hml : m < lenc
            · obtain ⟨ad, ip, rfl, hip, hc⟩ := ip_cell HZ.out hml
              have HC := Lib.hid hc
              have c0 := hc _ HT4.out.duo.bel
              clear hc HT3
              obtain ⟨x1, x2, x3, x4, FY, SAY, HAS⟩ : ∃ (x1 x2 : Nat) (x3 : Int) (x4 : Bool), Hid (∀ W t nd, Tab W t nd L → Calls Try.prog 12 #[.pointer (some ⟨t, 0, none⟩), .int .u32 ip] W fun e w' => e = .returned (.tuple #[.agg #[.int .u32 x1, .int .i64 x2, .int .i64 x3], .bool x4]) ∧ Below W.heap.size W w') ∧
                  Hid (∀ r ∈ L, top ip r.n = r.p → x4 = true ∧ (r.n : Int) ≤ x2) ∧ Hid (x4 = true → top ip x2 = x1 ∧ x2 ≤ 32) :=
                ⟨_, _, _, _, Lib.hid fun W t nd h => find_yes t ip nd L W h hip, Lib.hid fun r hr ht => lon_says HSO.out HRI.out ip r hr ht, Lib.hid fun h => lon_has HSO.out HRI.out ip h⟩
              go_wp2_with fail
              refine (FY.out _ t1 nd1' HT4.out.duo.a.tab).mono ?_
              rintro e w5 ⟨rfl, hb5⟩
              have HT5 := Lib.hid (HT4.out.below hb5)
              clear hb5 HT4 c0
              have c1 := HC.out _ (HT5.out.alloc (.cells #[.int .u32 x1, .int .i64 x2, .int .i64 x3] 37)).duo.bel
              go_wp2_with fail
              refine (FY.out _ t2 nd3 (HT5.out.alloc _).duo.b.tab).mono ?_
              rintro e w6 ⟨rfl, hb6⟩
              have HT6 := Lib.hid (((HT5.out.alloc (.cells #[.int .u32 x1, .int .i64 x2, .int .i64 x3] 37)).below hb6).alloc (.cells #[.int .u32 x1, .int .i64 x2, .int .i64 x3] 37))
              have KB : Blk w6 w5.heap.size 37 #[.int .u32 x1, .int .i64 x2, .int .i64 x3] := (Blk.new w5 37 _).below hb6 (by simp)
              have KA := KB.alloc (.cells #[.int .u32 x1, .int .i64 x2, .int .i64 x3] 37)
              have k0 := KA.cell 0
              have k1 := KA.cell 1
              have k2 := KA.cell 2
              have HKA := Lib.hid KA
              clear hb6 HT5 c1 KB KA FY
              go_wp2_with fail
              obtain ⟨ba, hba⟩ : ∃ ba, ba = w5.heap.size := ⟨_, rfl⟩
              obtain ⟨w7, hw7⟩ : ∃ w7, w7 = w6.alloc (.cells #[.int .u32 x1, .int .i64 x2, .int .i64 x3] 37) := ⟨_, rfl⟩
              rw [← hba, ← hw7] at HKA ⊢
              rw [← hw7] at HT6
              clear hba hw7 k0 k1 k2
              go_loopw [15] (fun vi wr => ∃ q : Nat, q ≤ L.length ∧ vi = .int .i64 q ∧ Hid (Tri w wr t1 nd1' L t2 nd3 L x g L ∧ Blk wr ba 37 #[.int .u32 x1, .int .i64 x2, .int .i64 x3])) (fun vi _ => L.length - (intOf vi).toNat)
              case atStart => exact ⟨0, by omega, rfl, Lib.hid ⟨HT6.out, HKA.out⟩⟩
              case round =>
                obtain ⟨q, hq, rfl, hst⟩ := hrel
                obtain ⟨hT, hK⟩ := hst.out
                have ca := HC.out _ hT.duo.bel
                have HTQ := Lib.hid hT
                have HKQ := Lib.hid hK
                clear hst HT6 HKA
                by_cases hql : q < L.length
                · obtain ⟨A, cc, hB, hR, _, hcc⟩ := hT.rf.row
                  obtain ⟨ar, rfl, hab, hab3, e0, e1, e2⟩ := rt_cells hR hql
                  have cx : wr.cell? ⟨x, 0, none⟩ = some (.slice (some ar) L.length cc) := hB.cell 0
                  have hon : L[q].n ≤ 32 := (HRI.out L[q] (List.getElem_mem hql)).2.1
                  have SQ := Lib.hid (SAY.out L[q] (List.getElem_mem hql))
                  clear hT hK hB hR
                  generalize L[q] = o at *
                  obtain ⟨op, on, ov⟩ := o
                  simp only at e0 e1 e2 hon SQ
                  go_wp2_with fail
                  obtain ⟨w8, hw8⟩ : ∃ w8, w8 = wr.alloc (.cells #[.int .u32 op, .int .i64 on, .int .i64 ov] 37) := ⟨_, rfl⟩
                  have hbr := Blk.new wr 37 #[.int .u32 op, .int .i64 on, .int .i64 ov]
                  have HT8 := Lib.hid (HTQ.out.alloc (.cells #[.int .u32 op, .int .i64 on, .int .i64 ov] 37))
                  have HK8 := Lib.hid (HKQ.out.alloc (.cells #[.int .u32 op, .int .i64 on, .int .i64 ov] 37))
                  rw [← hw8] at hbr HT8 HK8 ⊢
                  have b0 : w8.cell? ⟨wr.heap.size, 0, none⟩ = some (.int .u32 op) := hbr.cell 0
                  have b1 : w8.cell? ⟨wr.heap.size, 1, none⟩ = some (.int .i64 on) := hbr.cell 1
                  have a0 : w8.cell? ⟨ba, 0, none⟩ = some (.int .u32 x1) := HK8.out.cell 0
                  have a1 : w8.cell? ⟨ba, 1, none⟩ = some (.int .i64 x2) := HK8.out.cell 1
                  have ca8 := HC.out w8 HT8.out.duo.bel
                  have MK : Hid (∀ w, Calls Try.prog 13 #[.int .i64 on] w fun e w' => e = .returned (.int .u32 (msk on)) ∧ w = w') := Lib.hid (by have := mask_any on; rw [clamp_nat hon] at this; exact this)
                  have EM : bits BinOp.and IntKind.u32 (ip : Int) (msk on : Nat) = (top ip on : Nat) := by rw [u32_and_nat ip _ hip (msk_lt on), and_msk hip hon]
                  clear hw8 hbr e0 e1 e2 cx ca
                  by_cases hto : top ip on = op
                  · obtain ⟨hx4, hle⟩ := SQ.out hto
                    subst hx4
                    have hd : decide ((x2 : Int) < (on : Int)) = false := by simp; omega
                    have hd2 : decide (x2 < on) = false := by simp; omega
                    have heq : ((top ip on : Nat) : Int) = (op : Int) := by omega
                    have EM2 : bits BinOp.and IntKind.u32 (ip : Int) (msk on : Nat) = (op : Int) := EM.trans heq
                    clear hto EM heq SQ hle
                    go_quiet ((go_at_call 13; exact quiet_left (MK.out _)))
                    go_wp2_with fail
                    go_roundw
                    case rel => exact ⟨q + 1, by omega, by go_num, Lib.hid ⟨HT8.out.drewN _, HK8.out.drewN _⟩⟩
                    case measure => simp [intOf]; omega
                  · have hne : (((top ip on : Nat) : Int) == (op : Int)) = false := by simp; omega
                    have hne2 : ((top ip on) == op) = false := by simp; omega
                    clear hto SQ
                    go_quiet ((go_at_call 13; exact quiet_left (MK.out _)))
                    go_wp2_with fail
                    go_roundw
                    case rel => exact ⟨q + 1, by omega, by go_num, Lib.hid ⟨HT8.out.drewN _, HK8.out.drewN _⟩⟩
                    case measure => simp [intOf]; omega
                · obtain ⟨A, cc, hB, _, _, hcc⟩ := hT.rf.row
                  have cx : wr.cell? ⟨x, 0, none⟩ = some (.slice A L.length cc) := hB.cell 0
                  have a0 : wr.cell? ⟨ba, 0, none⟩ = some (.int .u32 x1) := hK.cell 0
                  have a1 : wr.cell? ⟨ba, 1, none⟩ = some (.int .i64 x2) := hK.cell 1
                  clear hT hK hB
                  cases x4 with
                  | false =>
                    go_wp2_with fail
                    go_quiet (fail)
                    go_wp2_with fail
                    go_roundw
                    case rel => exact ⟨m + 1, by omega, by go_num, Lib.hid (HTQ.out.drewN _)⟩
                    case measure => simp [intOf]; omega
                  | true =>
                    obtain ⟨ht, h32⟩ := HAS.out rfl
                    have MK : Hid (∀ w, Calls Try.prog 13 #[.int .i64 x2] w fun e w' => e = .returned (.int .u32 (msk x2)) ∧ w = w') := Lib.hid (by have := mask_any x2; rw [clamp_nat h32] at this; exact this)
                    have EM : bits BinOp.and IntKind.u32 (ip : Int) (msk x2 : Nat) = (x1 : Nat) := by rw [u32_and_nat ip _ hip (msk_lt x2), and_msk hip h32, ht]
                    clear ht h32
                    go_wp2_with fail
                    go_quiet ((go_at_call 13; exact quiet_left (MK.out _)))
                    go_wp2_with fail
                    go_roundw
                    case rel => exact ⟨m + 1, by omega, by go_num, Lib.hid (HTQ.out.drewN _)⟩
                    case measure => simp [intOf]; omega
            · have hLL : L.length ≤ 4398046511104 := by omega
              clear HT3
              go_wp2_with fail
              refine (looks_any t1 nd1' x g L _ HT4.out.both1 hLL).mono ?_
              rintro e w5 ⟨rfl, hb5⟩
              have HT5 := Lib.hid (HT4.out.below hb5)
              clear hb5 HT4
              go_wp2_with fail
              refine (looks_any t2 nd3 x g L _ HT5.out.both2 hLL).mono ?_
              rintro e w6 ⟨rfl, hb6⟩
              have HT6 := Lib.hid (HT5.out.below hb6)
              clear hb6 HT5
              go_wp2_with fail
              go_ret
              exact ⟨rfl, HT6.out.duo.bel⟩
end Go.Proofs.Ytlpnkfnmgcigbaa
