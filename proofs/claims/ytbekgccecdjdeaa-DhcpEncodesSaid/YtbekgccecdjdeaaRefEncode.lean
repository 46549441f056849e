/- The reference's Encode: a message's bytes. (Printed by genrefenc.py.) -/
import Derived.Test.YtbekgccecdjdeaaEncode
import Derived.Test.YtbekgccecdjdeaaAnswer
import Derived.Test.YtbekgccecdjdeaaRefBytes
namespace Go.Proofs.Ytbekgccecdjdeaa
open Go.RowKit

theorem Bf.under {base : Nat} {wc w w' : World} {v : Value} {l : List Nat} (h : Bf base wc w v l) (hbase : base ≤ wc.heap.size) (hb : Below w.heap.size w w') : Bf base wc w' v l :=
  ⟨ownsRow_below h.own hb, h.bel.trans (hb.mono (Nat.le_trans hbase h.bel.size))⟩
theorem wpList_app_bs {ops : Array Oper} {rest : List Oper} {o : Oper} {a : Act} {Q : Exit → Act → World → Prop} (hgd : o.guard = none) (s x : Operand)
    (ho : o.op = .call { callee := .builtin .append, args := #[s, x], argTypes := #[37, 37] }) (base : Nat) (wc w : World) (v : Value) (l : List Nat) (hs : a.eval s = v) (hB : Hid (Bf base wc w v l)) (hbase : base ≤ wc.heap.size)
    (A : Option Addr) (m c : Nat) (l2 : List Nat) (hx : a.eval x = .slice A m c) (hr : Hid (Reads w w.heap.size 1 A m (bs l2))) (hn : l.length + m ≤ 4294967296)
    (h : ∀ v' w', Hid (Bf base wc w' v' (l ++ l2)) → wpList Try.prog ops Q rest (a.put o.dst v') w') :
    wpList Try.prog ops Q (o :: rest) a w := by
  obtain ⟨i0, hi, hz0, hz1, hz2⟩ := info_parts Try.info5
  have hbw : base ≤ w.heap.size := Nat.le_trans hbase hB.out.bel.size
  refine wpList_append_any _ hgd s x 37 ho base 5 i0 _ 1 1 Try.underlying37 hi hz0 hz1 hz2 rfl (by decide) v l.length (bs l) hs hB.out.own w.heap.size A m c (bs l2) hx hr.out (bs_one l2) (by unfold maxLen; omega) (by omega) hbw ?_
  intro v' w' h2 h3 h4
  have hm : m = l2.length := by have := hr.out.1; rw [bs_length] at this; omega
  refine h v' w' (Lib.hid ⟨?_, hB.out.bel.trans ((Below.refl _ _).grown h3 hbw (fun k hk => (hB.out.own.lt k hk).1))⟩)
  rw [bs_append, List.length_append, ← hm]
  exact h2
set_option maxRecDepth 100000 in
set_option maxHeartbeats 4000000 in
theorem refEncode_any (op : Int) (xid : Nat) (secs flags : Int) (ci yi si gi ch : Nat) (A : Option Addr) (n c : Nat) (l : List Opt) (w : World) (hr : Reads w w.heap.size 3 A n (os l))
    (hxid : xid < 4294967296) (hci : ci < 4294967296) (hyi : yi < 4294967296) (hsi : si < 4294967296) (hgi : gi < 4294967296) (hch : ch < 18446744073709551616) :
    Calls Try.prog 14 #[.agg (Msg.val ⟨op, xid, secs, flags, ci, yi, si, gi, ch, l⟩ (.slice A n c))] w fun e w' => EncPost w ⟨op, xid, secs, flags, ci, yi, si, gi, ch, l⟩ e w' := by
  obtain rfl : n = l.length := by have := hr.1; rw [os_length] at this; omega
  obtain ⟨z, hz⟩ : ∃ z : Int, z = (ch : Int) := ⟨_, rfl⟩
  rw [← hz]
  have HZ := Lib.hid hz
  have HCH := Lib.hid hch
  clear hz hch
  unfold Msg.val
  have hb0 := Blk.new w 31 (Msg.val ⟨op, xid, secs, flags, ci, yi, si, gi, z, l⟩ (.slice A l.length c))
  have hbel : Below w.heap.size w (w.alloc (.cells (Msg.val ⟨op, xid, secs, flags, ci, yi, si, gi, z, l⟩ (.slice A l.length c)) 31)) := (Below.refl _ _).alloc (Nat.le_refl _) _
  have hsz : (w.alloc (.cells (Msg.val ⟨op, xid, secs, flags, ci, yi, si, gi, z, l⟩ (.slice A l.length c)) 31)).heap.size = w.heap.size + 1 := by simp
  unfold Msg.val at hb0 hbel hsz
  go_enter Try.func14, Try.ntmps14
  go_upto_region 1 with fail
  generalize w.alloc _ = w1 at *
  have h0 := hb0.cell
  have HB0 : Hid (Blk w1 w.heap.size 31 (Msg.val ⟨op, xid, secs, flags, ci, yi, si, gi, z, l⟩ (.slice A l.length c))) := Lib.hid hb0
  have HL := Lib.hid hbel
  have SZ := Lib.hid hsz
  clear hb0 hbel hsz
  have HRD := Lib.hid hr
  clear hr
  go_cut [45] (fun s45 wx => s45 = .bool (!headOk ⟨op, xid, secs, flags, ci, yi, si, gi, z, l⟩) ∧ wx = w1)
  case first =>
    by_cases o1 : op = 1
    · subst o1
      have E := Lib.hid (headOk_rest ⟨1, xid, secs, flags, ci, yi, si, gi, z, l⟩ (.inl rfl))
      go_wp2_with fail
      all_goals
        go_meet
        refine ⟨?_, rfl⟩
        refine (congrArg Value.bool ?_).trans (congrArg Value.bool E.out)
        first
          | rfl
          | (rw [Bool.eq_iff_iff]
             simp only [Bool.or_eq_true, decide_eq_true_eq, true_iff]
             omega)
    · by_cases o2 : op = 2
      · subst o2
        have E := Lib.hid (headOk_rest ⟨2, xid, secs, flags, ci, yi, si, gi, z, l⟩ (.inr rfl))
        go_wp2_with fail
        all_goals
          go_meet
          refine ⟨?_, rfl⟩
          refine (congrArg Value.bool ?_).trans (congrArg Value.bool E.out)
          first
            | rfl
            | (rw [Bool.eq_iff_iff]
               simp only [Bool.or_eq_true, decide_eq_true_eq, true_iff]
               omega)
      · have E := Lib.hid (headOk_no (m := ⟨op, xid, secs, flags, ci, yi, si, gi, z, l⟩) (fun h => h.1.elim o1 o2))
        go_wp2_with fail
        go_meet
        exact ⟨by rw [E.out]; rfl, rfl⟩
  case rest =>
    obtain ⟨rfl, rfl⟩ := hcut
    obtain rfl := HZ.out
    have hch := HCH.out
    obtain ⟨wc0, hwc0⟩ : ∃ W, W = wc := ⟨_, rfl⟩
    subst hwc0
    by_cases hh : headOk ⟨op, xid, secs, flags, ci, yi, si, gi, ch, l⟩ = true
    · rw [hh]
      have HK := Lib.hid hh
      clear hh
      obtain ⟨ho1, hs0, hs1, hf0, hf1, hc1, hq1⟩ := (headOk_iff _).1 HK.out
      simp only [] at ho1 hs0 hs1 hf0 hf1 hc1 hq1
      obtain ⟨sn, rfl⟩ : ∃ sn : Nat, secs = sn := ⟨secs.toNat, by omega⟩
      obtain ⟨fn, rfl⟩ : ∃ fn : Nat, flags = fn := ⟨flags.toNat, by omega⟩
      obtain ⟨on, rfl⟩ : ∃ on : Nat, op = on := ⟨op.toNat, by omega⟩
      have e8 : (on : Int) % 256 = (on : Int) := by omega
      have O1 := Lib.hid ho1
      have Q1 := Lib.hid hq1
      clear ho1 hs0 hf0 hc1 hq1
      have HLT : Hid (w.heap.size < wc0.heap.size) := Lib.hid (by have := SZ.out; omega)
      go_upto_region 4 with fail
      have HB1 : Hid (Bf wc0.heap.size wc0 (wc0.alloc (.cells #[.int .u8 (on : Int), .int .u8 1, .int .u8 6, .int .u8 0] 5)) (.slice (some ⟨wc0.heap.size, 0, none⟩) 4 4) [on, 1, 6, 0]) :=
        Lib.hid ⟨World.ownsRow_lit wc0 #[.int .u8 (on : Int), .int .u8 1, .int .u8 6, .int .u8 0] 4 (Nat.le_refl _) (by decide) (by rfl), (Below.refl _ _).alloc (Nat.le_refl _) _⟩
      clear h0 e8
      generalize wc0.alloc _ = w1 at *
      have BX := (Bf.box HB1 HB0 HLT).cell
      simp only [Msg.val] at BX
      have ex1 := wrap_u64 xid (by omega)
      have ex2 := wrap_u64 sn (by omega)
      have ex3 := wrap_u64 fn (by omega)
      have ex4 := wrap_u64 ci (by omega)
      have ex5 := wrap_u64 yi (by omega)
      have ex6 := wrap_u64 si (by omega)
      have ex7 := wrap_u64 gi (by omega)
      obtain ⟨v1, hv1⟩ : ∃ v, v = Value.slice (some ⟨wc0.heap.size, 0, none⟩) 4 4 := ⟨_, rfl⟩
      rw [← hv1] at HB1 ⊢
      clear hv1
      go_wp2_with fail
      refine (bytes_any xid 4 _ (by omega) (by decide)).mono ?_
      rintro e w1a ⟨A1, c1, rfl, ho, hb⟩
      have HB1a : Hid (Bf wc0.heap.size wc0 w1a v1 ([on, 1, 6, 0])) := Lib.hid (HB1.out.under (Nat.le_refl _) hb)
      have HR1 : Hid (Reads w1a w1a.heap.size 1 A1 4 (bs (be xid 4))) := Lib.hid (Reads.of_own ho)
      clear ho hb BX HB1
      go_wp2_with (at_builtin; refine wpList_app_bs rfl (.tmp 50) (.tmp 54) rfl wc0.heap.size wc0 w1a v1 _ rfl HB1a (Nat.le_refl _) A1 4 c1 _ rfl HR1 (by simp [be_length]) ?_; intro v2 w2 HB2; clear HB1a HR1; have BX := (Bf.box HB2 HB0 HLT).cell; simp only [Msg.val] at BX)
      go_wp2_with fail
      refine (bytes_any sn 2 _ (by omega) (by decide)).mono ?_
      rintro e w2a ⟨A2, c2, rfl, ho, hb⟩
      have HB2a : Hid (Bf wc0.heap.size wc0 w2a v2 ([on, 1, 6, 0] ++ be xid 4)) := Lib.hid (HB2.out.under (Nat.le_refl _) hb)
      have HR2 : Hid (Reads w2a w2a.heap.size 1 A2 2 (bs (be sn 2))) := Lib.hid (Reads.of_own ho)
      clear ho hb BX HB2
      go_wp2_with (at_builtin; refine wpList_app_bs rfl (.tmp 56) (.tmp 60) rfl wc0.heap.size wc0 w2a v2 _ rfl HB2a (Nat.le_refl _) A2 2 c2 _ rfl HR2 (by simp [be_length]) ?_; intro v3 w3 HB3; clear HB2a HR2; have BX := (Bf.box HB3 HB0 HLT).cell; simp only [Msg.val] at BX)
      go_wp2_with fail
      refine (bytes_any fn 2 _ (by omega) (by decide)).mono ?_
      rintro e w3a ⟨A3, c3, rfl, ho, hb⟩
      have HB3a : Hid (Bf wc0.heap.size wc0 w3a v3 ([on, 1, 6, 0] ++ be xid 4 ++ be sn 2)) := Lib.hid (HB3.out.under (Nat.le_refl _) hb)
      have HR3 : Hid (Reads w3a w3a.heap.size 1 A3 2 (bs (be fn 2))) := Lib.hid (Reads.of_own ho)
      clear ho hb BX HB3
      go_wp2_with (at_builtin; refine wpList_app_bs rfl (.tmp 62) (.tmp 66) rfl wc0.heap.size wc0 w3a v3 _ rfl HB3a (Nat.le_refl _) A3 2 c3 _ rfl HR3 (by simp [be_length]) ?_; intro v4 w4 HB4; clear HB3a HR3; have BX := (Bf.box HB4 HB0 HLT).cell; simp only [Msg.val] at BX)
      go_wp2_with fail
      refine (bytes_any ci 4 _ (by omega) (by decide)).mono ?_
      rintro e w4a ⟨A4, c4, rfl, ho, hb⟩
      have HB4a : Hid (Bf wc0.heap.size wc0 w4a v4 ([on, 1, 6, 0] ++ be xid 4 ++ be sn 2 ++ be fn 2)) := Lib.hid (HB4.out.under (Nat.le_refl _) hb)
      have HR4 : Hid (Reads w4a w4a.heap.size 1 A4 4 (bs (be ci 4))) := Lib.hid (Reads.of_own ho)
      clear ho hb BX HB4
      go_wp2_with (at_builtin; refine wpList_app_bs rfl (.tmp 68) (.tmp 72) rfl wc0.heap.size wc0 w4a v4 _ rfl HB4a (Nat.le_refl _) A4 4 c4 _ rfl HR4 (by simp [be_length]) ?_; intro v5 w5 HB5; clear HB4a HR4; have BX := (Bf.box HB5 HB0 HLT).cell; simp only [Msg.val] at BX)
      go_wp2_with fail
      refine (bytes_any yi 4 _ (by omega) (by decide)).mono ?_
      rintro e w5a ⟨A5, c5, rfl, ho, hb⟩
      have HB5a : Hid (Bf wc0.heap.size wc0 w5a v5 ([on, 1, 6, 0] ++ be xid 4 ++ be sn 2 ++ be fn 2 ++ be ci 4)) := Lib.hid (HB5.out.under (Nat.le_refl _) hb)
      have HR5 : Hid (Reads w5a w5a.heap.size 1 A5 4 (bs (be yi 4))) := Lib.hid (Reads.of_own ho)
      clear ho hb BX HB5
      go_wp2_with (at_builtin; refine wpList_app_bs rfl (.tmp 74) (.tmp 78) rfl wc0.heap.size wc0 w5a v5 _ rfl HB5a (Nat.le_refl _) A5 4 c5 _ rfl HR5 (by simp [be_length]) ?_; intro v6 w6 HB6; clear HB5a HR5; have BX := (Bf.box HB6 HB0 HLT).cell; simp only [Msg.val] at BX)
      go_wp2_with fail
      refine (bytes_any si 4 _ (by omega) (by decide)).mono ?_
      rintro e w6a ⟨A6, c6, rfl, ho, hb⟩
      have HB6a : Hid (Bf wc0.heap.size wc0 w6a v6 ([on, 1, 6, 0] ++ be xid 4 ++ be sn 2 ++ be fn 2 ++ be ci 4 ++ be yi 4)) := Lib.hid (HB6.out.under (Nat.le_refl _) hb)
      have HR6 : Hid (Reads w6a w6a.heap.size 1 A6 4 (bs (be si 4))) := Lib.hid (Reads.of_own ho)
      clear ho hb BX HB6
      go_wp2_with (at_builtin; refine wpList_app_bs rfl (.tmp 80) (.tmp 84) rfl wc0.heap.size wc0 w6a v6 _ rfl HB6a (Nat.le_refl _) A6 4 c6 _ rfl HR6 (by simp [be_length]) ?_; intro v7 w7 HB7; clear HB6a HR6; have BX := (Bf.box HB7 HB0 HLT).cell; simp only [Msg.val] at BX)
      go_wp2_with fail
      refine (bytes_any gi 4 _ (by omega) (by decide)).mono ?_
      rintro e w7a ⟨A7, c7, rfl, ho, hb⟩
      have HB7a : Hid (Bf wc0.heap.size wc0 w7a v7 ([on, 1, 6, 0] ++ be xid 4 ++ be sn 2 ++ be fn 2 ++ be ci 4 ++ be yi 4 ++ be si 4)) := Lib.hid (HB7.out.under (Nat.le_refl _) hb)
      have HR7 : Hid (Reads w7a w7a.heap.size 1 A7 4 (bs (be gi 4))) := Lib.hid (Reads.of_own ho)
      clear ho hb BX HB7
      go_wp2_with (at_builtin; refine wpList_app_bs rfl (.tmp 86) (.tmp 90) rfl wc0.heap.size wc0 w7a v7 _ rfl HB7a (Nat.le_refl _) A7 4 c7 _ rfl HR7 (by simp [be_length]) ?_; intro v8 w8 HB8; clear HB7a HR7; have BX := (Bf.box HB8 HB0 HLT).cell; simp only [Msg.val] at BX)
      go_wp2_with fail
      refine (bytes_any ch 6 _ (by omega) (by decide)).mono ?_
      rintro e w8a ⟨A8, c8, rfl, ho, hb⟩
      have HB8a : Hid (Bf wc0.heap.size wc0 w8a v8 ([on, 1, 6, 0] ++ be xid 4 ++ be sn 2 ++ be fn 2 ++ be ci 4 ++ be yi 4 ++ be si 4 ++ be gi 4)) := Lib.hid (HB8.out.under (Nat.le_refl _) hb)
      have HR8 : Hid (Reads w8a w8a.heap.size 1 A8 6 (bs (be ch 6))) := Lib.hid (Reads.of_own ho)
      clear ho hb BX HB8
      go_wp2_with (first
        | (at_builtin; refine wpList_app_bs rfl (.tmp 92) (.tmp 95) rfl wc0.heap.size wc0 w8a v8 _ rfl HB8a (Nat.le_refl _) A8 6 c8 _ rfl HR8 (by simp [be_length]) ?_; intro v9 w9 HB9; clear HB8a HR8)
        | (at_builtin; refine wpList_append_zeros rfl (.tmp 97) _ rfl wc0.heap.size w9 v9 _ _ rfl HB9.out.own 202 rfl (by simp) (by simp [be_length]) HB9.out.bel.size ?_; intro v10 w10 ho10 hb10; have HB10 : Hid (Bf wc0.heap.size wc0 w10 v10 ([on, 1, 6, 0] ++ be xid 4 ++ be sn 2 ++ be fn 2 ++ be ci 4 ++ be yi 4 ++ be si 4 ++ be gi 4 ++ be ch 6 ++ List.replicate 202 0)) := Lib.hid ⟨by rw [List.length_append, bs_append, List.length_replicate]; exact ho10, HB9.out.bel.trans hb10⟩; clear ho10 hb10 HB9)
        | (at_builtin; refine wpList_append_lit rfl (.tmp 99) (.tmp 100) rfl wc0.heap.size w10 _ 4 rfl v10 _ _ rfl HB10.out.own rfl (by intro u hu; simp at hu; rcases hu with rfl | rfl | rfl | rfl <;> rfl) (by simp [be_length]) HB10.out.bel.size ?_; intro v11 w11 ho11 hb11 _; have HB11 : Hid (Bf wc0.heap.size wc0 w11 v11 (headBytes ⟨on, xid, sn, fn, ci, yi, si, gi, ch, l⟩)) := Lib.hid ⟨by unfold headBytes; rw [List.length_append, bs_append]; exact ho11, HB10.out.bel.trans hb11⟩; clear ho11 hb11 HB10))
      go_loopw [4, 5] (fun v4 iv wr => ∃ i : Nat, i ≤ l.length ∧ iv = .int .i64 i ∧ Hid (Bf wc0.heap.size wc0 wr v4 (headBytes ⟨on, xid, sn, fn, ci, yi, si, gi, ch, l⟩ ++ (l.take i).flatMap optBytes)) ∧ Hid ((l.take i).all optOk = true)) (fun v4 iv _ => l.length - (intOf iv).toNat)
      case atStart => exact ⟨0, by omega, rfl, by simpa using HB11, Lib.hid (by simp)⟩
      case round =>
        obtain ⟨i, hi, rfl, HB12, HA⟩ := hrel
        have hlen : (headBytes ⟨on, xid, sn, fn, ci, yi, si, gi, ch, l⟩ ++ (l.take i).flatMap optBytes).length ≤ 20000 := by
          have h1 := opts_length _ HA.out
          have h2 := Q1.out
          rw [List.length_append, headBytes_length]
          simp only [List.length_take] at h1
          omega
        have HLEN := Lib.hid hlen
        clear hlen
        by_cases hil : i < l.length
        · obtain ⟨ad, rfl, hab, hab3, hl, e0, e1, e2⟩ := opt_cells HRD.out hil
          have hbw : Below w.heap.size w wr := HL.out.trans (HB12.out.bel.mono (by have := SZ.out; omega))
          rw [← hbw.cell (by first | exact hab | exact hab3)] at e0 e1 e2
          have HIL := Lib.hid hil
          have TF := Lib.hid (take_flat l i hl)
          have TA := Lib.hid (take_all l i hl HA.out)
          have IN := Lib.hid (List.getElem_mem hl)
          have HBW := Lib.hid hbw
          clear hbw hab hab3
          generalize l[i] = o at *
          obtain ⟨cls, cd, data⟩ := o
          have b9 : wr.cell? ⟨w.heap.size, 9, none⟩ = some (.slice (some ad) l.length c) := (Bf.box HB12 HB0 HLT).cell 9
          go_upto_region 18 with fail
          have hN := Blk.new wr 28 #[.int .i64 cls, .int .i64 cd, .string data]
          have hB9 : Hid (Bf wc0.heap.size wc0 (wr.alloc (.cells #[.int .i64 cls, .int .i64 cd, .string data] 28)) u4 (headBytes ⟨on, xid, sn, fn, ci, yi, si, gi, ch, l⟩ ++ (l.take i).flatMap optBytes)) := Lib.hid ⟨HB12.out.own.alloc _, HB12.out.bel.alloc HB12.out.bel.size _⟩
          clear e0 e1 e2 HB12 HBW b9
          generalize wr.heap.size = ko at *
          generalize wr.alloc (.cells #[.int .i64 cls, .int .i64 cd, .string data] 28) = W9 at *
          have n0 := hN.cell
          have HN := Lib.hid hN
          clear hN
          go_cut [132] (fun v wx => v = .bool (!optOk ⟨cls, cd, data⟩) ∧ wx = W9)
          case first =>
            clear HB11 hB9 HA TF TA IN HLEN
            by_cases q0 : cls = 0
            · subst q0
              by_cases q1 : cd < 1
              · have d1 : decide (cd < 1) = true := by simp [q1]
                have V : Hid (true = !optOk ⟨0, cd, data⟩) := Lib.hid (by simp [optOk]; omega)
                go_wp2_with fail
                go_meet
                exact ⟨congrArg Value.bool V.out, rfl⟩
              · have d1 : decide (cd < 1) = false := by simp [q1]
                by_cases q2 : 254 < cd
                · have d2 : decide ((254 : Int) < cd) = true := by simp [q2]
                  have V : Hid (true = !optOk ⟨0, cd, data⟩) := Lib.hid (by simp [optOk]; omega)
                  go_wp2_with fail
                  go_meet
                  exact ⟨congrArg Value.bool V.out, rfl⟩
                · have d2 : decide ((254 : Int) < cd) = false := by simp [q2]
                  have V : Hid (decide ((255 : Int) < (data.size : Int)) = !optOk ⟨0, cd, data⟩) := Lib.hid (by rw [Bool.eq_iff_iff]; simp [optOk]; omega)
                  go_wp2_with fail
                  go_meet
                  exact ⟨congrArg Value.bool V.out, rfl⟩
            · have d0 : (cls != 0) = true := by simp [q0]
              have V : Hid (true = !optOk ⟨cls, cd, data⟩) := Lib.hid (by simp [optOk, q0])
              go_wp2_with fail
              go_meet
              exact ⟨congrArg Value.bool V.out, rfl⟩
          case rest =>
            obtain ⟨rfl, rfl⟩ := hcut
            obtain ⟨W9, hW9⟩ : ∃ W, W = wc := ⟨_, rfl⟩
            subst hW9
            by_cases hok : optOk ⟨cls, cd, data⟩ = true
            · obtain ⟨hc0, hc1, hc2, hc3⟩ := (optOk_iff _).1 hok
              simp only [] at hc0 hc1 hc2 hc3
              subst hc0
              obtain ⟨cn, rfl⟩ : ∃ cn : Nat, cd = cn := ⟨cd.toNat, by omega⟩
              have TA2 := Lib.hid (TA.out hok)
              rw [hok]
              have HC : Hid ((cn : Int) ≤ 254) := Lib.hid hc2
              have HD : Hid (data.size ≤ 255) := Lib.hid hc3
              clear hok hc1 hc2 hc3 HA TA HB11
              go_upto_region 20 with fail
              have x1 := wrap_u8 cn (by have := HC.out; omega)
              have x2 := wrap_u8 data.size (by have := HD.out; omega)
              have x3 : (cn : Int) % 256 = cn := by have := HC.out; omega
              have x4 : (data.size : Int) % 256 = data.size := by have := HD.out; omega
              go_region_held3 (fun w' => w'.cell? ⟨ko, 1, none⟩ = some (.int .i64 cn) ∧ w'.cell? ⟨ko, 2, none⟩ = some (.string data))
                (first | exact kOpt (Lib.hid HN.out.drew) | exact kOpt (Lib.hid (HN.out.alloc _).drew) | exact kOpt HNa | exact kOpt HNb)
                (first
                  | (refine step_append_litD rfl (.tmp 133) (.tmp 141) rfl wc0.heap.size W9 _ 2 rfl u4 _ _ rfl hB9.out.own rfl (by intro u hu; simp at hu; rcases hu with rfl | rfl <;> rfl) (by have := HLEN.out; omega) hB9.out.bel.size ?_; intro va wa hoa hba hga; have HNa : Hid (Blk wa ko 28 #[.int .i64 0, .int .i64 cn, .string data]) := Lib.hid (hga.block HN.out (own_blk_ne hB9.out.own HN.out (by decide))); have HBa : Hid (Bf wc0.heap.size wc0 wa va (headBytes ⟨on, xid, sn, fn, ci, yi, si, gi, ch, l⟩ ++ (l.take i).flatMap optBytes ++ [cn, data.size])) := Lib.hid ⟨by rw [bs_append, List.length_append]; exact hoa, hB9.out.bel.trans hba⟩; clear hoa hba hga)
                  | (refine step_append_text rfl (.tmp 142) (.tmp 144) rfl wc0.heap.size wa va _ _ rfl HBa.out.own data rfl (by have := HLEN.out; have := HD.out; rw [List.length_append]; simp only [List.length_cons, List.length_nil]; omega) HBa.out.bel.size ?_; intro vb wb hob hbb hgb; have HNb : Hid (Blk wb ko 28 #[.int .i64 0, .int .i64 cn, .string data]) := Lib.hid (HNa.out.grown hgb (Ne.symm (own_blk_ne HBa.out.own HNa.out (by decide)))); have HBb : Hid (Bf wc0.heap.size wc0 wb vb (headBytes ⟨on, xid, sn, fn, ci, yi, si, gi, ch, l⟩ ++ (l.take i).flatMap optBytes ++ [cn, data.size] ++ strNats data)) := Lib.hid ⟨by rw [bs_append, List.length_append, strNats_length]; exact hob, HBa.out.bel.trans hbb⟩; clear hob hbb hgb))
              all_goals
                have HBe : Hid (Bf wc0.heap.size wc0 wb vb (headBytes ⟨on, xid, sn, fn, ci, yi, si, gi, ch, l⟩ ++ (l.take (i + 1)).flatMap optBytes)) := by
                  have e := HBb
                  rw [TF.out]
                  simpa [optBytes, List.append_assoc] using e
                clear HBb HBa HNa HNb hB9 HN
                have hq64 : l.length ≤ 64 := Q1.out
                have hil2 := HIL.out
                go_wp2_with fail
                go_roundw
                case rel => exact ⟨i + 1, by have := HIL.out; omega, by go_num, HBe, TA2⟩
                case measure => have := HIL.out; simp [intOf]; omega
            · have NO := Lib.hid (enc_opt (m := ⟨on, xid, sn, fn, ci, yi, si, gi, ch, l⟩) IN.out (by simpa using hok))
              rw [show optOk ⟨cls, cd, data⟩ = false by simpa using hok]
              have HBB := Lib.hid (HL.out.trans (hB9.out.bel.mono (by have := SZ.out; omega)))
              go_wp2_with fail
              go_ret2
              exact EncPost.no NO.out HBB.out rfl
        · obtain rfl : i = l.length := by omega
          rw [List.take_length] at HB12 HA
          have b9 : wr.cell? ⟨w.heap.size, 9, none⟩ = some (.slice A l.length c) := (Bf.box HB12 HB0 HLT).cell 9
          have YES := Lib.hid (enc_yes HK.out HA.out)
          go_wp2_with (at_builtin; refine wpList_append_lit rfl (.tmp 146) (.tmp 147) rfl wc0.heap.size wr _ 1 rfl u4 _ _ rfl HB12.out.own rfl (by intro u hu; simp at hu; subst hu; rfl) (by have := HLEN.out; rw [List.take_length] at this; omega) HB12.out.bel.size ?_; intro v13 w13 ho13 hb13 _; obtain ⟨A13, c13, rfl, _⟩ := own_slice ho13; have HCAP := Lib.hid (own_cap ho13); have HO13 := Lib.hid ho13; have HBB := Lib.hid (HL.out.trans ((HB12.out.bel.trans hb13).mono (by have := SZ.out; omega))); clear ho13 hb13)
          go_ret2
          have h1 := Reads.of_own HO13.out
          have hx : bs (headBytes ⟨on, xid, sn, fn, ci, yi, si, gi, ch, l⟩ ++ l.flatMap optBytes) ++ [Value.int .u8 255] = bs (headBytes ⟨on, xid, sn, fn, ci, yi, si, gi, ch, l⟩ ++ l.flatMap optBytes ++ [255]) := (bs_append _ [255]).symm
          clear HO13 HB12
          refine EncPost.yes (A := A13) (c := c13) YES.out HBB.out ?_ h1 HCAP.out hx
          simp
    · have NO := Lib.hid (enc_bad (m := ⟨op, xid, secs, flags, ci, yi, si, gi, ch, l⟩) (by simpa using hh))
      rw [show headOk ⟨op, xid, secs, flags, ci, yi, si, gi, ch, l⟩ = false by simpa using hh]
      go_wp2_with fail
      go_ret2
      exact EncPost.no NO.out HL.out rfl
end Go.Proofs.Ytbekgccecdjdeaa
