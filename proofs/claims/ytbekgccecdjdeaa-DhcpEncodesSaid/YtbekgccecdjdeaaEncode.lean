/- Encode: a message's bytes. -/
import Derived.Test.YtbekgccecdjdeaaFind
import Derived.Deep.DeepCutAuto
import Derived.Deep.RegionLaw
import Derived.Deep.LoopGhost
import Derived.Deep.RegionHeld3
import Derived.Test.YtbekgccecdjdeaaGrow
namespace Go.Proofs.Ytbekgccecdjdeaa
open Go.RowKit

def optOk (o : Opt) : Bool := decide (o.cls = 0) && decide (1 ≤ o.code) && decide (o.code ≤ 254) && decide (o.data.size ≤ 255)
def optBytes (o : Opt) : List Nat := o.code.toNat :: o.data.size :: strNats o.data
def headOk (m : Msg) : Bool := (decide (m.op = 1) || decide (m.op = 2)) && decide (0 ≤ m.secs) && decide (m.secs ≤ 65535) && decide (0 ≤ m.flags) && decide (m.flags ≤ 65535) && decide (m.ch ≤ 281474976710655) && decide (m.opts.length ≤ 64)
theorem headOk_iff (m : Msg) : headOk m = true ↔ (m.op = 1 ∨ m.op = 2) ∧ 0 ≤ m.secs ∧ m.secs ≤ 65535 ∧ 0 ≤ m.flags ∧ m.flags ≤ 65535 ∧ m.ch ≤ 281474976710655 ∧ m.opts.length ≤ 64 := by simp [headOk, and_assoc]
theorem headOk_no {m : Msg} (h : ¬ ((m.op = 1 ∨ m.op = 2) ∧ 0 ≤ m.secs ∧ m.secs ≤ 65535 ∧ 0 ≤ m.flags ∧ m.flags ≤ 65535 ∧ m.ch ≤ 281474976710655 ∧ m.opts.length ≤ 64)) : headOk m = false := by
  rw [← headOk_iff] at h
  simpa using h
theorem headOk_rest (m : Msg) (h : m.op = 1 ∨ m.op = 2) : (decide (m.secs < 0) || decide (65535 < m.secs) || decide (m.flags < 0) || decide (65535 < m.flags) || decide (281474976710655 < m.ch) || decide ((64 : Int) < (m.opts.length : Int))) = !headOk m := by
  have e := headOk_iff m
  rcases hh : headOk m with _ | _
  · rw [hh] at e
    simp only [Bool.not_false, Bool.or_eq_true, decide_eq_true_eq]
    have : ¬ (0 ≤ m.secs ∧ m.secs ≤ 65535 ∧ 0 ≤ m.flags ∧ m.flags ≤ 65535 ∧ m.ch ≤ 281474976710655 ∧ m.opts.length ≤ 64) := fun q => by have := e.2 ⟨h, q⟩; cases this
    omega
  · have := e.1 hh
    simp only [Bool.not_true, Bool.or_eq_false_iff, decide_eq_false_iff_not]
    omega
def headBytes (m : Msg) : List Nat := [m.op.toNat, 1, 6, 0] ++ be m.xid.toNat 4 ++ be m.secs.toNat 2 ++ be m.flags.toNat 2 ++ be m.ci.toNat 4 ++ be m.yi.toNat 4 ++ be m.si.toNat 4 ++ be m.gi.toNat 4 ++ be m.ch.toNat 6 ++ List.replicate 202 0 ++ [99, 130, 83, 99]
def enc (m : Msg) : Option (List Nat) := if headOk m = true ∧ m.opts.all optOk = true then some (headBytes m ++ m.opts.flatMap optBytes ++ [255]) else none
theorem own_cap {w : World} {base size n c : Nat} {e : TypeId} {A : Option Addr} {xs : List Value} (h : w.ownsRow base e size (.slice A n c) n xs) : n ≤ c := by
  rcases h.2 with ⟨hv, _⟩ | ⟨g, cap, cur, hv, _, _, hnc, _⟩
  · injection hv with _ h1 h2; omega
  · injection hv with _ _ h2; omega
def EncPost (w : World) (m : Msg) (e : Ending) (w' : World) : Prop := Below w.heap.size w w' ∧
  match enc m with
  | none => e = .returned (.tuple #[.slice none 0 0, .int .i64 1])
  | some l => ∃ A c, e = .returned (.tuple #[.slice A l.length c, .int .i64 0]) ∧ Reads w' w'.heap.size 1 A l.length (bs l) ∧ l.length ≤ c
theorem EncPost.no {w w' : World} {m : Msg} (h : enc m = none) (hb : Below w.heap.size w w') {e : Ending} (he : e = .returned (.tuple #[.slice none 0 0, .int .i64 1])) : EncPost w m e w' := by
  refine ⟨hb, ?_⟩
  rw [h]
  exact he
theorem EncPost.yes {w w' : World} {m : Msg} {l : List Nat} (h : enc m = some l) (hb : Below w.heap.size w w') {e : Ending} {A : Option Addr} {n c : Nat} (he : e = .returned (.tuple #[.slice A n c, .int .i64 0]))
    {xs : List Value} (hr : Reads w' w'.heap.size 1 A n xs) (hc : n ≤ c) (hx : xs = bs l) : EncPost w m e w' := by
  subst hx
  obtain rfl : n = l.length := by have := hr.1; rw [bs_length] at this; omega
  refine ⟨hb, ?_⟩
  rw [h]
  exact ⟨A, c, he, hr, hc⟩
theorem enc_bad {m : Msg} (h : headOk m = false) : enc m = none := if_neg (by rw [h]; simp)
theorem enc_opt {m : Msg} {o : Opt} (ho : o ∈ m.opts) (h : optOk o = false) : enc m = none := if_neg (fun q => by
  have := List.all_eq_true.1 q.2 o ho
  rw [h] at this
  cases this)
theorem enc_yes {m : Msg} (h : headOk m = true) (ho : m.opts.all optOk = true) : enc m = some (headBytes m ++ m.opts.flatMap optBytes ++ [255]) := if_pos ⟨h, ho⟩
theorem optOk_iff (o : Opt) : optOk o = true ↔ o.cls = 0 ∧ 1 ≤ o.code ∧ o.code ≤ 254 ∧ o.data.size ≤ 255 := by simp [optOk, and_assoc]
theorem optBytes_length (o : Opt) : (optBytes o).length = o.data.size + 2 := by simp [optBytes, strNats_length]
theorem opts_length (l : List Opt) (h : l.all optOk = true) : (l.flatMap optBytes).length ≤ 257 * l.length := by
  induction l with
  | nil => simp
  | cons o l ih =>
    simp only [List.all_cons, Bool.and_eq_true] at h
    have := ih h.2
    have := ((optOk_iff o).1 h.1).2.2.2
    simp only [List.flatMap_cons, List.length_append, optBytes_length, List.length_cons]
    omega
theorem headBytes_length (m : Msg) : (headBytes m).length = 240 := by simp only [headBytes, List.length_append, be_length, List.length_replicate, List.length_cons, List.length_nil]

/-- Bytes under way. -/
structure Bf (base : Nat) (wc wx : World) (v : Value) (l : List Nat) : Prop where
  own : wx.ownsRow base 5 1 v l.length (bs l)
  bel : Below base wc wx
theorem wrap_u64 (x : Nat) (h : x < 4294967296) : IntKind.u64.wrap (x : Int) = (x : Int) := by simp [IntKind.wrap, IntKind.signed, IntKind.bits]; omega
theorem undrew {B : Nat} {w w' : World} (h : Below B w.drew w') : Below B w w' := ⟨h.os, h.tape, h.output, h.size, h.block⟩
theorem wrap_u8 (x : Nat) (h : x < 256) : IntKind.u8.wrap (x : Int) = (x : Int) := by simp [IntKind.wrap, IntKind.signed, IntKind.bits]; omega
theorem kOpt {w : World} {ko : Nat} {cn : Int} {data : ByteArray} (h : Hid (Blk w ko 28 #[.int .i64 0, .int .i64 cn, .string data])) : w.cell? ⟨ko, 1, none⟩ = some (.int .i64 cn) ∧ w.cell? ⟨ko, 2, none⟩ = some (.string data) := ⟨h.out.cell 1, h.out.cell 2⟩
theorem take_flat (l : List Opt) (i : Nat) (h : i < l.length) : (l.take (i + 1)).flatMap optBytes = (l.take i).flatMap optBytes ++ optBytes l[i] := by
  rw [List.take_succ_eq_append_getElem h, List.flatMap_append]; simp
theorem take_all (l : List Opt) (i : Nat) (h : i < l.length) (h1 : (l.take i).all optOk = true) (h2 : optOk l[i] = true) : (l.take (i + 1)).all optOk = true := by
  rw [List.take_succ_eq_append_getElem h, List.all_append, h1]; simp [h2]
section
variable {base b : Nat} {wc wx : World} {v : Value} {l : List Nat} {m : Msg} {s : Value}
theorem Bf.box (h : Hid (Bf base wc wx v l)) (hB : Hid (Blk wc b 31 (m.val s))) (hlt : Hid (b < base)) : Blk wx b 31 (m.val s) := hB.out.below h.out.bel hlt.out
theorem keepE (h : Hid (Bf base wc wx v l)) (hB : Hid (Blk wc b 31 (m.val s))) (hlt : Hid (b < base)) :
    wx.cell? ⟨b, 1, none⟩ = some (.int .u32 m.xid) ∧ wx.cell? ⟨b, 2, none⟩ = some (.int .i64 m.secs) ∧ wx.cell? ⟨b, 3, none⟩ = some (.int .i64 m.flags) :=
  ⟨(Bf.box h hB hlt).cell 1, (Bf.box h hB hlt).cell 2, (Bf.box h hB hlt).cell 3⟩
end

set_option maxRecDepth 100000 in
set_option maxHeartbeats 4000000 in
theorem encode_any (op : Int) (xid : Nat) (secs flags : Int) (ci yi si gi ch : Nat) (A : Option Addr) (n c : Nat) (l : List Opt) (w : World) (hr : Reads w w.heap.size 3 A n (os l))
    (hxid : xid < 4294967296) (hci : ci < 4294967296) (hyi : yi < 4294967296) (hsi : si < 4294967296) (hgi : gi < 4294967296) (hch : ch < 18446744073709551616) :
    Calls Try.prog 13 #[.agg (Msg.val ⟨op, xid, secs, flags, ci, yi, si, gi, ch, l⟩ (.slice A n c))] w fun e w' => EncPost w ⟨op, xid, secs, flags, ci, yi, si, gi, ch, l⟩ e w' := by
  obtain rfl : n = l.length := by have := hr.1; rw [os_length] at this; omega
  unfold Msg.val
  have hb0 := Blk.new w 31 (Msg.val ⟨op, xid, secs, flags, ci, yi, si, gi, ch, l⟩ (.slice A l.length c))
  have hbel : Below w.heap.size w (w.alloc (.cells (Msg.val ⟨op, xid, secs, flags, ci, yi, si, gi, ch, l⟩ (.slice A l.length c)) 31)) := (Below.refl _ _).alloc (Nat.le_refl _) _
  have hsz : (w.alloc (.cells (Msg.val ⟨op, xid, secs, flags, ci, yi, si, gi, ch, l⟩ (.slice A l.length c)) 31)).heap.size = w.heap.size + 1 := by simp
  unfold Msg.val at hb0 hbel hsz
  go_enter Try.func13, Try.ntmps13
  go_upto_region 1 with fail
  generalize w.alloc _ = w1 at *
  have h0 := hb0.cell
  have HB0 : Hid (Blk w1 w.heap.size 31 (Msg.val ⟨op, xid, secs, flags, ci, yi, si, gi, ch, l⟩ (.slice A l.length c))) := Lib.hid hb0
  have HL := Lib.hid hbel
  have SZ := Lib.hid hsz
  clear hb0 hbel hsz
  have HRD := Lib.hid hr
  clear hr
  go_cut [47] (fun s47 wx => s47 = .bool (!headOk ⟨op, xid, secs, flags, ci, yi, si, gi, ch, l⟩) ∧ wx = w1)
  case first =>
    by_cases o1 : op = 1
    · subst o1
      have E := Lib.hid (headOk_rest ⟨1, xid, secs, flags, ci, yi, si, gi, ch, l⟩ (.inl rfl))
      go_wp2_with fail
      all_goals
        go_meet
        refine ⟨?_, rfl⟩
        refine (congrArg Value.bool ?_).trans (congrArg Value.bool E.out)
        first
          | rfl
          | (rw [Bool.eq_iff_iff]
             simp only [Bool.or_eq_true, decide_eq_true_eq, true_iff]
             omega)
    · by_cases o2 : op = 2
      · subst o2
        have E := Lib.hid (headOk_rest ⟨2, xid, secs, flags, ci, yi, si, gi, ch, l⟩ (.inr rfl))
        go_wp2_with fail
        all_goals
          go_meet
          refine ⟨?_, rfl⟩
          refine (congrArg Value.bool ?_).trans (congrArg Value.bool E.out)
          first
            | rfl
            | (rw [Bool.eq_iff_iff]
               simp only [Bool.or_eq_true, decide_eq_true_eq, true_iff]
               omega)
      · have E := Lib.hid (headOk_no (m := ⟨op, xid, secs, flags, ci, yi, si, gi, ch, l⟩) (fun h => h.1.elim o1 o2))
        go_wp2_with fail
        go_meet
        exact ⟨by rw [E.out]; rfl, rfl⟩
  case rest =>
    obtain ⟨rfl, rfl⟩ := hcut
    obtain ⟨wc0, hwc0⟩ : ∃ W, W = wc := ⟨_, rfl⟩
    subst hwc0
    by_cases hh : headOk ⟨op, xid, secs, flags, ci, yi, si, gi, ch, l⟩ = true
    · rw [hh]
      have HK := Lib.hid hh
      clear hh
      obtain ⟨ho1, hs0, hs1, hf0, hf1, hc1, hq1⟩ := (headOk_iff _).1 HK.out
      simp only [] at ho1 hs0 hs1 hf0 hf1 hc1 hq1
      obtain ⟨sn, rfl⟩ : ∃ sn : Nat, secs = sn := ⟨secs.toNat, by omega⟩
      obtain ⟨fn, rfl⟩ : ∃ fn : Nat, flags = fn := ⟨flags.toNat, by omega⟩
      obtain ⟨on, rfl⟩ : ∃ on : Nat, op = on := ⟨op.toNat, by omega⟩
      have e8 : (on : Int) % 256 = (on : Int) := by omega
      have O1 := Lib.hid ho1
      have C1 := Lib.hid hc1
      have Q1 := Lib.hid hq1
      have S1 := Lib.hid hs1
      have F1 := Lib.hid hf1
      clear ho1 hs0 hf0 hc1 hq1 hs1 hf1
      have HLT : Hid (w.heap.size < wc0.heap.size) := Lib.hid (by have := SZ.out; omega)
      go_upto_region 4 with (at_builtin; go_loud (refine wpList_append_text rfl (.tmp 51) _ rfl wc0.heap.size _ (.slice (some ⟨wc0.heap.size, 0, none⟩) 1 1) 1 _ rfl (World.ownsRow_lit wc0 #[.int .u8 (on : Int)] 1 (Nat.le_refl _) (by decide) (by rfl)) _ rfl (by decide) (by simp) ?go))
      case go =>
        intro v1 w1 hown hb _
        have HB1 : Hid (Bf wc0.heap.size wc0 w1 v1 [on, 1, 6, 0]) := Lib.hid ⟨hown, ((Below.refl _ _).alloc (Nat.le_refl _) _).trans hb⟩
        clear hown hb
        go_upto_region 4 with fail
        have K1 := keepE HB1 HB0 HLT
        simp only [] at K1
        obtain ⟨k1, k2, k3⟩ := K1
        go_cut [4] (fun s4 wx => Hid (Bf wc0.heap.size wc0 wx s4 ([on, 1, 6, 0] ++ be xid 4 ++ be sn 2 ++ be fn 2)))
        case first =>
          have ew1 := wrap_u64 xid (by omega)
          have ew2 := wrap_u64 sn (by have := S1.out; omega)
          have ew3 := wrap_u64 fn (by have := F1.out; omega)
          go_region_held3 (fun w' => w'.cell? ⟨w.heap.size, 1, none⟩ = some (.int .u32 xid) ∧ w'.cell? ⟨w.heap.size, 2, none⟩ = some (.int .i64 sn) ∧ w'.cell? ⟨w.heap.size, 3, none⟩ = some (.int .i64 fn))
            (first | exact ⟨k1, k2, k3⟩ | exact keepE (by assumption) HB0 HLT)
            (first
              | (go_at_call_of 20 (Value.int IntKind.u64 xid); refine (put_bs wc0.heap.size v1 _ xid 4 _ HB1.out.own.drew (by have := HB1.out.bel.size; exact this) (by omega) (by decide) (by simp)).mono ?_; rintro e w2 ⟨v2, rfl, ho2, hb2, _⟩; have HB2 : Hid (Bf wc0.heap.size wc0 w2 v2 ([on, 1, 6, 0] ++ be xid 4)) := Lib.hid ⟨ho2, HB1.out.bel.trans (undrew hb2)⟩; clear ho2 hb2)
              | (go_at_call_of 20 (Value.int IntKind.u64 sn); refine (put_bs wc0.heap.size v2 _ sn 2 _ HB2.out.own HB2.out.bel.size (by have := S1.out; omega) (by decide) (by simp [be_length])).mono ?_; rintro e w3 ⟨v3, rfl, ho3, hb3, _⟩; have HB3 : Hid (Bf wc0.heap.size wc0 w3 v3 ([on, 1, 6, 0] ++ be xid 4 ++ be sn 2)) := Lib.hid ⟨ho3, HB2.out.bel.trans hb3⟩; clear ho3 hb3)
              | (go_at_call_of 20 (Value.int IntKind.u64 fn); refine (put_bs wc0.heap.size v3 _ fn 2 _ HB3.out.own HB3.out.bel.size (by have := F1.out; omega) (by decide) (by simp [be_length])).mono ?_; rintro e w4 ⟨v4, rfl, ho4, hb4, _⟩; have HB4 : Hid (Bf wc0.heap.size wc0 w4 v4 ([on, 1, 6, 0] ++ be xid 4 ++ be sn 2 ++ be fn 2)) := Lib.hid ⟨ho4, HB3.out.bel.trans hb4⟩; clear ho4 hb4))
          all_goals
            go_wp2_with fail
            go_meet
            exact HB4
        case rest =>
          have HB5 := hcut
          clear hcut k1 k2 k3 h0
          have hlo := HB5.out.own.lt
          have BX := (Bf.box HB5 HB0 HLT).cell
          simp only [Msg.val] at BX
          obtain ⟨W5, hW5⟩ : ∃ W, W = wc := ⟨_, rfl⟩
          subst hW5
          go_wp2_with fail
          go_loopw [4, 6, 76] (fun v4 v6 iv wr => ∃ i : Nat, i ≤ 4 ∧ iv = .int .i64 i ∧ Hid (Bf wc0.heap.size wc0 wr v4 (([on, 1, 6, 0] ++ be xid 4 ++ be sn 2 ++ be fn 2) ++ (([ci, yi, si, gi].take i).map (be · 4)).flatten)) ∧ Hid (Blk wr W5.heap.size 22 #[.int .u32 ci, .int .u32 yi, .int .u32 si, .int .u32 gi] ∧ v4.ownBlock ≠ some W5.heap.size)) (fun v4 v6 iv _ => 4 - (intOf iv).toNat)
          case atStart =>
            refine ⟨0, by omega, rfl, Lib.hid ⟨?_, ?_⟩, Lib.hid ⟨Blk.new _ _ _, fun e => ?_⟩⟩
            · simpa using HB5.out.own.alloc _
            · exact HB5.out.bel.alloc HB5.out.bel.size _
            · have := hlo _ e; omega
          case round =>
            obtain ⟨i, hi, rfl, HB6, HQ⟩ := hrel
            by_cases hi4 : i < 4
            · have hq := HQ.out.1.cell
              have hcell : wr.cell? ⟨W5.heap.size, i, none⟩ = some (.int .u32 (([ci, yi, si, gi].getD i 0 : Nat))) := by
                rw [hq i]
                match i, hi4 with
                | 0, _ => rfl
                | 1, _ => rfl
                | 2, _ => rfl
                | 3, _ => rfl
              have hxl : [ci, yi, si, gi].getD i 0 < 4294967296 := by
                match i, hi4 with
                | 0, _ => exact hci
                | 1, _ => exact hyi
                | 2, _ => exact hsi
                | 3, _ => exact hgi
              have htk : [ci, yi, si, gi].take (i + 1) = [ci, yi, si, gi].take i ++ [[ci, yi, si, gi].getD i 0] := by
                match i, hi4 with
                | 0, _ => rfl
                | 1, _ => rfl
                | 2, _ => rfl
                | 3, _ => rfl
              have HTK := Lib.hid htk
              have HXL := Lib.hid hxl
              generalize [ci, yi, si, gi].getD i 0 = xx at *
              clear hq htk hxl BX hlo
              have ew := wrap_u64 xx HXL.out
              go_wp2_with fail
              refine (put_bs wc0.heap.size u4 _ xx 4 _ HB6.out.own HB6.out.bel.size (by have := HXL.out; omega) (by decide) ?len).mono ?_
              case len => rw [List.length_append]; simp only [List.length_append, be_length, List.length_cons, List.length_nil]; match i, hi4 with | 0, _ => simp | 1, _ => simp [be_length] | 2, _ => simp [be_length] | 3, _ => simp [be_length]
              rintro e w7 ⟨v7, rfl, ho7, hb7, hg7⟩
              have HB7 : Hid (Bf wc0.heap.size wc0 w7 v7 (([on, 1, 6, 0] ++ be xid 4 ++ be sn 2 ++ be fn 2) ++ (([ci, yi, si, gi].take (i + 1)).map (be · 4)).flatten)) := by
                have e7 : (([on, 1, 6, 0] ++ be xid 4 ++ be sn 2 ++ be fn 2) ++ (([ci, yi, si, gi].take (i + 1)).map (be · 4)).flatten) = ([on, 1, 6, 0] ++ be xid 4 ++ be sn 2 ++ be fn 2) ++ (([ci, yi, si, gi].take i).map (be · 4)).flatten ++ be xx 4 := by
                  rw [HTK.out]; simp
                rw [e7]
                exact Lib.hid ⟨ho7, HB6.out.bel.trans hb7⟩
              have HQ7 : Hid (Blk w7 W5.heap.size 22 #[.int .u32 ci, .int .u32 yi, .int .u32 si, .int .u32 gi] ∧ v7.ownBlock ≠ some W5.heap.size) := by
                refine Lib.hid ⟨hg7.block HQ.out.1 HQ.out.2, ?_⟩
                rcases hg7.at_ with e | ⟨k, e, hk⟩
                · rw [e]; exact HQ.out.2
                · rw [e]; intro q; have := HQ.out.1.lt; simp only [Option.some.injEq] at q; omega
              clear ho7 hb7 hg7 HB6 HQ HTK
              go_wp2_with fail
              go_roundw
              case rel => exact ⟨i + 1, by omega, by go_num, HB7, HQ7⟩
              case measure => simp [intOf]; omega
            · obtain rfl : i = 4 := by omega
              have HB8 : Hid (Bf wc0.heap.size wc0 wr u4 ([on, 1, 6, 0] ++ be xid 4 ++ be sn 2 ++ be fn 2 ++ be ci 4 ++ be yi 4 ++ be si 4 ++ be gi 4)) := by
                have := HB6.out
                simpa using Lib.hid this
              clear HB6 HQ BX hlo
              have BX := (Bf.box HB8 HB0 HLT).cell
              simp only [Msg.val] at BX
              go_wp2_with fail
              refine (put_bs wc0.heap.size u4 _ ch 6 _ HB8.out.own HB8.out.bel.size hch (by decide) (by simp [be_length])).mono ?_
              rintro e w9 ⟨v9, rfl, ho9, hb9, _⟩
              have HB9 : Hid (Bf wc0.heap.size wc0 w9 v9 ([on, 1, 6, 0] ++ be xid 4 ++ be sn 2 ++ be fn 2 ++ be ci 4 ++ be yi 4 ++ be si 4 ++ be gi 4 ++ be ch 6)) := Lib.hid ⟨ho9, HB8.out.bel.trans hb9⟩
              clear ho9 hb9 HB8 BX
              go_wp2_with (first
                | (at_builtin; refine wpList_append_zeros rfl (.tmp 88) _ rfl wc0.heap.size w9 v9 _ _ rfl HB9.out.own 202 rfl (by simp) (by simp [be_length]) HB9.out.bel.size ?_; intro v10 w10 ho10 hb10; have HB10 : Hid (Bf wc0.heap.size wc0 w10 v10 ([on, 1, 6, 0] ++ be xid 4 ++ be sn 2 ++ be fn 2 ++ be ci 4 ++ be yi 4 ++ be si 4 ++ be gi 4 ++ be ch 6 ++ List.replicate 202 0)) := Lib.hid ⟨by rw [List.length_append, bs_append, List.length_replicate]; exact ho10, HB9.out.bel.trans hb10⟩; clear ho10 hb10)
                | (at_builtin; refine wpList_append_text rfl (.tmp 89) _ rfl wc0.heap.size w10 v10 _ _ rfl HB10.out.own _ rfl (by simp [be_length]; decide) HB10.out.bel.size ?_; intro v11 w11 ho11 hb11 _; have HB11 : Hid (Bf wc0.heap.size wc0 w11 v11 (headBytes ⟨on, xid, sn, fn, ci, yi, si, gi, ch, l⟩)) := Lib.hid ⟨by unfold headBytes; rw [List.length_append, bs_append]; exact ho11, HB10.out.bel.trans hb11⟩; clear ho11 hb11; have BX := (Bf.box HB11 HB0 HLT).cell; simp only [Msg.val] at BX))
              clear HB9 HB10 BX
              go_loopw [4, 94] (fun v4 iv wr => ∃ i : Nat, i ≤ l.length ∧ iv = .int .i64 i ∧ Hid (Bf wc0.heap.size wc0 wr v4 (headBytes ⟨on, xid, sn, fn, ci, yi, si, gi, ch, l⟩ ++ (l.take i).flatMap optBytes)) ∧ Hid ((l.take i).all optOk = true)) (fun v4 iv _ => l.length - (intOf iv).toNat)
              case atStart => exact ⟨0, by omega, rfl, by simpa using HB11, Lib.hid (by simp)⟩
              case round =>
                obtain ⟨i, hi, rfl, HB12, HA⟩ := hrel
                have hlen : (headBytes ⟨on, xid, sn, fn, ci, yi, si, gi, ch, l⟩ ++ (l.take i).flatMap optBytes).length ≤ 20000 := by
                  have h1 := opts_length _ HA.out
                  have h2 := Q1.out
                  rw [List.length_append, headBytes_length]
                  simp only [List.length_take] at h1
                  omega
                have HLEN := Lib.hid hlen
                clear hlen
                by_cases hil : i < l.length
                · obtain ⟨ad, rfl, hab, hab3, hl, e0, e1, e2⟩ := opt_cells HRD.out hil
                  have hbw : Below w.heap.size w wr := HL.out.trans (HB12.out.bel.mono (by have := SZ.out; omega))
                  rw [← hbw.cell (by first | exact hab | exact hab3)] at e0 e1 e2
                  have HIL := Lib.hid hil
                  have TF := Lib.hid (take_flat l i hl)
                  have TA := Lib.hid (take_all l i hl HA.out)
                  have IN := Lib.hid (List.getElem_mem hl)
                  have HBW := Lib.hid hbw
                  clear hbw hab hab3
                  generalize l[i] = o at *
                  obtain ⟨cls, cd, data⟩ := o
                  go_upto_region 14 with fail
                  have hN := Blk.new wr 28 #[.int .i64 cls, .int .i64 cd, .string data]
                  have hB9 : Hid (Bf wc0.heap.size wc0 (wr.alloc (.cells #[.int .i64 cls, .int .i64 cd, .string data] 28)) u4 (headBytes ⟨on, xid, sn, fn, ci, yi, si, gi, ch, l⟩ ++ (l.take i).flatMap optBytes)) := Lib.hid ⟨HB12.out.own.alloc _, HB12.out.bel.alloc HB12.out.bel.size _⟩
                  clear e0 e1 e2 HB12 HBW
                  generalize wr.heap.size = ko at *
                  generalize wr.alloc (.cells #[.int .i64 cls, .int .i64 cd, .string data] 28) = W9 at *
                  have n0 := hN.cell
                  have HN := Lib.hid hN
                  clear hN
                  go_cut [116] (fun v wx => v = .bool (!optOk ⟨cls, cd, data⟩) ∧ wx = W9)
                  case first =>
                    clear HB11 hB9 HA TF TA IN HLEN
                    by_cases q0 : cls = 0
                    · subst q0
                      by_cases q1 : cd < 1
                      · have d1 : decide (cd < 1) = true := by simp [q1]
                        have V : Hid (true = !optOk ⟨0, cd, data⟩) := Lib.hid (by simp [optOk]; omega)
                        go_wp2_with fail
                        go_meet
                        exact ⟨congrArg Value.bool V.out, rfl⟩
                      · have d1 : decide (cd < 1) = false := by simp [q1]
                        by_cases q2 : 255 ≤ cd
                        · have d2 : decide ((255 : Int) ≤ cd) = true := by simp [q2]
                          have V : Hid (true = !optOk ⟨0, cd, data⟩) := Lib.hid (by simp [optOk]; omega)
                          go_wp2_with fail
                          go_meet
                          exact ⟨congrArg Value.bool V.out, rfl⟩
                        · have d2 : decide ((255 : Int) ≤ cd) = false := by simp [q2]
                          have V : Hid (decide ((255 : Int) < (data.size : Int)) = !optOk ⟨0, cd, data⟩) := Lib.hid (by rw [Bool.eq_iff_iff]; simp [optOk]; omega)
                          go_wp2_with fail
                          go_meet
                          exact ⟨congrArg Value.bool V.out, rfl⟩
                    · have d0 : (cls != 0) = true := by simp [q0]
                      have V : Hid (true = !optOk ⟨cls, cd, data⟩) := Lib.hid (by simp [optOk, q0])
                      go_wp2_with fail
                      go_meet
                      exact ⟨congrArg Value.bool V.out, rfl⟩
                  case rest =>
                    obtain ⟨rfl, rfl⟩ := hcut
                    obtain ⟨W9, hW9⟩ : ∃ W, W = wc := ⟨_, rfl⟩
                    subst hW9
                    by_cases hok : optOk ⟨cls, cd, data⟩ = true
                    · obtain ⟨hc0, hc1, hc2, hc3⟩ := (optOk_iff _).1 hok
                      simp only [] at hc0 hc1 hc2 hc3
                      subst hc0
                      obtain ⟨cn, rfl⟩ : ∃ cn : Nat, cd = cn := ⟨cd.toNat, by omega⟩
                      have TA2 := Lib.hid (TA.out hok)
                      rw [hok]
                      have HC : Hid ((cn : Int) ≤ 254) := Lib.hid hc2
                      have HD : Hid (data.size ≤ 255) := Lib.hid hc3
                      clear hok hc1 hc2 hc3 HA TA HB11
                      go_upto_region 16 with fail
                      have x1 := wrap_u8 cn (by have := HC.out; omega)
                      have x2 := wrap_u8 data.size (by have := HD.out; omega)
                      have x3 : (cn : Int) % 256 = cn := by have := HC.out; omega
                      have x4 : (data.size : Int) % 256 = data.size := by have := HD.out; omega
                      go_region_held3 (fun w' => w'.cell? ⟨ko, 1, none⟩ = some (.int .i64 cn) ∧ w'.cell? ⟨ko, 2, none⟩ = some (.string data))
                        (first | exact kOpt (Lib.hid HN.out.drew) | exact kOpt (Lib.hid (HN.out.alloc _).drew) | exact kOpt HNa | exact kOpt HNb)
                        (first
                          | (refine step_append_litD rfl (.tmp 117) (.tmp 125) rfl wc0.heap.size W9 _ 2 rfl u4 _ _ rfl hB9.out.own rfl (by intro u hu; simp at hu; rcases hu with rfl | rfl <;> rfl) (by have := HLEN.out; omega) hB9.out.bel.size ?_; intro va wa hoa hba hga; have HNa : Hid (Blk wa ko 28 #[.int .i64 0, .int .i64 cn, .string data]) := Lib.hid (hga.block HN.out (own_blk_ne hB9.out.own HN.out (by decide))); have HBa : Hid (Bf wc0.heap.size wc0 wa va (headBytes ⟨on, xid, sn, fn, ci, yi, si, gi, ch, l⟩ ++ (l.take i).flatMap optBytes ++ [cn, data.size])) := Lib.hid ⟨by rw [bs_append, List.length_append]; exact hoa, hB9.out.bel.trans hba⟩; clear hoa hba hga)
                          | (refine step_append_text rfl (.tmp 126) (.tmp 128) rfl wc0.heap.size wa va _ _ rfl HBa.out.own data rfl (by have := HLEN.out; have := HD.out; rw [List.length_append]; simp only [List.length_cons, List.length_nil]; omega) HBa.out.bel.size ?_; intro vb wb hob hbb hgb; have HNb : Hid (Blk wb ko 28 #[.int .i64 0, .int .i64 cn, .string data]) := Lib.hid (HNa.out.grown hgb (Ne.symm (own_blk_ne HBa.out.own HNa.out (by decide)))); have HBb : Hid (Bf wc0.heap.size wc0 wb vb (headBytes ⟨on, xid, sn, fn, ci, yi, si, gi, ch, l⟩ ++ (l.take i).flatMap optBytes ++ [cn, data.size] ++ strNats data)) := Lib.hid ⟨by rw [bs_append, List.length_append, strNats_length]; exact hob, HBa.out.bel.trans hbb⟩; clear hob hbb hgb))
                      all_goals
                        have HBe : Hid (Bf wc0.heap.size wc0 wb vb (headBytes ⟨on, xid, sn, fn, ci, yi, si, gi, ch, l⟩ ++ (l.take (i + 1)).flatMap optBytes)) := by
                          have e := HBb
                          rw [TF.out]
                          simpa [optBytes, List.append_assoc] using e
                        clear HBb HBa HNa HNb hB9 HN
                        have hq64 : l.length ≤ 64 := Q1.out
                        have hil2 := HIL.out
                        go_wp2_with fail
                        go_roundw
                        case rel => exact ⟨i + 1, by have := HIL.out; omega, by go_num, HBe, TA2⟩
                        case measure => have := HIL.out; simp [intOf]; omega
                    · have NO := Lib.hid (enc_opt (m := ⟨on, xid, sn, fn, ci, yi, si, gi, ch, l⟩) IN.out (by simpa using hok))
                      rw [show optOk ⟨cls, cd, data⟩ = false by simpa using hok]
                      have HBB := Lib.hid (HL.out.trans (hB9.out.bel.mono (by have := SZ.out; omega)))
                      go_wp2_with fail
                      go_ret2
                      exact EncPost.no NO.out HBB.out rfl
                · obtain rfl : i = l.length := by omega
                  rw [List.take_length] at HB12 HA
                  have YES := Lib.hid (enc_yes HK.out HA.out)
                  go_wp2_with (at_builtin; refine wpList_append_lit rfl (.tmp 131) (.tmp 132) rfl wc0.heap.size wr _ 1 rfl u4 _ _ rfl HB12.out.own rfl (by intro u hu; simp at hu; subst hu; rfl) (by have := HLEN.out; rw [List.take_length] at this; omega) HB12.out.bel.size ?_; intro v13 w13 ho13 hb13 _; obtain ⟨A13, c13, rfl, _⟩ := own_slice ho13; have HCAP := Lib.hid (own_cap ho13); have HO13 := Lib.hid ho13; have HBB := Lib.hid (HL.out.trans ((HB12.out.bel.trans hb13).mono (by have := SZ.out; omega))); clear ho13 hb13)
                  go_ret2
                  have h1 := Reads.of_own HO13.out
                  have hx : bs (headBytes ⟨on, xid, sn, fn, ci, yi, si, gi, ch, l⟩ ++ l.flatMap optBytes) ++ [Value.int .u8 255] = bs (headBytes ⟨on, xid, sn, fn, ci, yi, si, gi, ch, l⟩ ++ l.flatMap optBytes ++ [255]) := (bs_append _ [255]).symm
                  clear HO13 HB12
                  refine EncPost.yes (A := A13) (c := c13) YES.out HBB.out ?_ h1 HCAP.out hx
                  simp
    · have NO := Lib.hid (enc_bad (m := ⟨op, xid, secs, flags, ci, yi, si, gi, ch, l⟩) (by simpa using hh))
      rw [show headOk ⟨op, xid, secs, flags, ci, yi, si, gi, ch, l⟩ = false by simpa using hh]
      go_wp2_with fail
      go_ret2
      exact EncPost.no NO.out HL.out rfl
end Go.Proofs.Ytbekgccecdjdeaa
