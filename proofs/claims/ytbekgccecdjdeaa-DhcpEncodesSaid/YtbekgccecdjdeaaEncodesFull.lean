/- The walk of DhcpEncodes, whatever the sizes. -/
import Derived.Test.YtbekgccecdjdeaaAsCalls
import Derived.Deep.DeepAppendWide
namespace Go.Proofs.Ytbekgccecdjdeaa
open Go.RowKit

theorem wpList_append_wide {ops : Array Oper} {rest : List Oper} {o : Oper} {a : Act} {Q : Exit → Act → World → Prop} (w : World) (hgd : o.guard = none) (s x : Operand)
    (ho : o.op = .call { callee := .builtin .append, args := #[s, x], argTypes := #[37, 37] }) (base : Nat) (v : Value) (n : Nat) (xs : List Value) (hs : a.eval s = v) (hown : w.ownsRow base 5 1 v n xs)
    (B : Nat) (A : Option Addr) (m c : Nat) (news : List Value) (hx : a.eval x = .slice A m c) (hr : Reads w B 1 A m news) (h1 : ∀ u ∈ news, u.oneCell' = true) (hn : n + m ≤ 140737488451232) (hbase : base ≤ w.heap.size)
    (h : ∀ v' w', w'.ownsRow base 5 1 v' (n + m) (xs ++ news) → w.grownBy w' v.ownBlock → wpList Try.prog ops Q rest (a.put o.dst v') w') : wpList Try.prog ops Q (o :: rest) a w := by
  obtain ⟨i0, hi, hz0, hz1, hz2⟩ := info_parts Try.info5
  have key : ∃ v' w', (Builtin.append_ #[37, 37] o.type #[v, .slice A m c]).run Try.prog w = .ok v' w' ∧ w'.ownsRow base 5 1 v' (n + m) (xs ++ news) ∧ w.grownBy w' v.ownBlock := by
    rcases A with _ | ad
    · have hm : m = 0 := by
        rcases Nat.eq_zero_or_pos m with h0 | h0
        · exact h0
        · obtain ⟨ad, h, _⟩ := hr.2 h0
          cases h
      subst hm
      have hnn : news = [] := List.eq_nil_of_length_eq_zero (by simpa using hr.1)
      subst hnn
      exact ⟨v, w, run_append_of_nil w base 37 o.type 5 i0 1 Try.underlying37 hi v n xs hown c, by simpa using hown, World.grownBy.refl w _⟩
    · have hcells : ∀ j u, news[j]? = some u → w.cell? (ad.add j) = some u := by
        intro j u hu
        rcases Nat.eq_zero_or_pos m with h0 | h0
        · subst h0
          have hnn : news = [] := List.eq_nil_of_length_eq_zero (by simpa using hr.1)
          subst hnn
          simp at hu
        · obtain ⟨ad', h, _, hc⟩ := hr.2 h0
          injection h with h
          subst h
          exact hc j u hu
      obtain ⟨v', w', hrun, h2, h3, _⟩ := run_append_own_wide (P := Try.prog) w base 37 o.type 5 i0 _ 1 1 Try.underlying37 hi hz0 hz1 hz2 rfl (by decide) v n xs hown ad m c news hr.1 hcells h1 (by unfold maxLen; omega) (by omega) hbase
      exact ⟨v', w', hrun, h2, h3⟩
  obtain ⟨v', w', hrun, h2, h3⟩ := key
  refine wpList_plain hgd fun K hK => ?_
  unfold Oper.wp execOp
  simp only [ho, resolve, invoke, builtin, Sem.run_bind, Sem.run_pure, Result.andThen_ok, List.map_toArray, List.map_cons, List.map_nil, hs, hx, hrun]
  exact hK _ _ (h v' w' h2 h3)
theorem decode_wide {l : List Nat} {op xid secs flags ci yi si gi ch : Int} {opts : List Opt} {ec : Int} (h : dec l = (⟨op, xid, secs, flags, ci, yi, si, gi, ch, opts⟩, ec)) (A : Option Addr) (c : Nat) (w : World)
    (hr : Reads w w.heap.size 1 A l.length (bs l)) (h8 : ∀ k, l.getD k 0 ≤ 255) (hc : l.length ≤ c) (hl : l.length ≤ 281474976710656) (hroom : cnt (l.drop 240) ≤ 1048576) :
    Calls Try.prog 10 #[.slice A l.length c] w fun e w' => Below w.heap.size w w' ∧ ∃ A c, e = .returned (.tuple #[.agg #[.int .i64 op, .int .u32 xid, .int .i64 secs, .int .i64 flags, .int .u32 ci, .int .u32 yi, .int .u32 si, .int .u32 gi, .int .u64 ch, .slice A opts.length c], .int .i64 ec]) ∧ Reads w' w'.heap.size 3 A opts.length (os opts) := by
  refine (decode_any A c l w hr h8 hc hl hroom).mono ?_
  rintro e w' ⟨hb, A', n, c', he, hr'⟩
  rw [h] at he hr'
  simp only at he hr'
  obtain rfl : n = opts.length := by have := hr'.1; rw [os_length] at this; omega
  exact ⟨hb, A', c', he, hr'⟩
theorem le_mem {l : List Nat} (h : ∀ k, l.getD k 0 ≤ 255) : ∀ c ∈ l, c ≤ 255 := by
  intro c hc
  obtain ⟨k, hk, rfl⟩ := List.mem_iff_getElem.1 hc
  have := h k
  rw [List.getD_eq_getElem?_getD, List.getElem?_eq_getElem hk] at this
  simpa using this
set_option maxRecDepth 100000 in
set_option maxHeartbeats 4000000 in
theorem dhcpEncodes_full (w : World) (op : Int) (xid : Nat) (secs flags : Int) (ci yi si gi ch : Nat) (A : Option Addr) (n c : Nat) (l : List Opt) (hr : Reads w w.heap.size 3 A n (os l))
    (hxid : xid < 4294967296) (hci : ci < 4294967296) (hyi : yi < 4294967296) (hsi : si < 4294967296) (hgi : gi < 4294967296) (hch : ch < 18446744073709551616)
    (a : Option Addr) (len cap : Nat) (zs : List Int) (g : Row w .u8 1 a len cap zs) :
    Calls Try.prog 5 #[.agg #[.int .i64 op, .int .u32 xid, .int .i64 secs, .int .i64 flags, .int .u32 ci, .int .u32 yi, .int .u32 si, .int .u32 gi, .int .u64 ch, .slice A n c], .slice a len cap] w fun e w' => e = .returned (.bool true) ∧ Below w.heap.size w w' := by
  obtain ⟨lb, rfl, hrb, h8, hle, hcp⟩ := bytes_of_row g
  clear g zs
  obtain rfl : n = l.length := by have := hr.1; rw [os_length] at this; omega
  have NIL : ∀ W : World, (convert 37 9 (.slice none 0 0)).run Try.prog W = .ok (.string (strOf [])) W := fun W => run_bytes_str Try.underlying37 Try.underlying5 Try.underlying9 0 (Reads.none_ (w := W) (B := 0) (size := 1))
  have HNIL := Lib.hid NIL
  clear NIL
  obtain ⟨W1, hW1, hz1, hb1⟩ := name_alloc w (.cells #[.int .i64 op, .int .u32 xid, .int .i64 secs, .int .i64 flags, .int .u32 ci, .int .u32 yi, .int .u32 si, .int .u32 gi, .int .u64 ch, .slice A l.length c] 31)
  have hB1 : Blk W1 w.heap.size 31 #[.int .i64 op, .int .u32 xid, .int .i64 secs, .int .i64 flags, .int .u32 ci, .int .u32 yi, .int .u32 si, .int .u32 gi, .int .u64 ch, .slice A l.length c] := by rw [← hW1]; exact Blk.new _ _ _
  have HW1 := Lib.hid hW1
  have HX1 := Lib.hid hB1
  have HB1 := Lib.hid hb1
  have HR1 : Hid (Reads W1 W1.heap.size 3 A l.length (os l)) := Lib.hid ((hr.below hb1).more hb1.size)
  have HRB := Lib.hid hrb
  have H8 := Lib.hid h8
  have HLE := Lib.hid hle
  have HLN : Hid (lb.length ≤ 140737488351232) := Lib.hid (by omega)
  have HIN : Hid (xid < 4294967296 ∧ ci < 4294967296 ∧ yi < 4294967296 ∧ si < 4294967296 ∧ gi < 4294967296 ∧ ch < 18446744073709551616) := Lib.hid ⟨hxid, hci, hyi, hsi, hgi, hch⟩
  have LT1 : Hid (w.heap.size < W1.heap.size) := Lib.hid (by omega)
  clear hW1 hB1 hz1 hb1 hr hrb h8 hle hcp hxid hci hyi hsi hgi hch
  obtain ⟨i0, hi0, hz0, hzz, hzy⟩ := info_parts Try.info5
  have I0 := Lib.hid (And.intro hi0 (And.intro hz0 (And.intro hzz hzy)))
  clear hi0 hz0 hzz hzy
  cases hE : enc ⟨op, xid, secs, flags, ci, yi, si, gi, ch, l⟩ with
  | none =>
    have HE := Lib.hid hE
    clear hE
    go_enter Try.func5, Try.ntmps5
    go_upto_region 1 with fail
    rw [HW1.out]
    have x1 := HX1.out.cell
    go_wp2_with fail
    obtain ⟨q1, q2, q3, q4, q5, q6⟩ := HIN.out
    refine (encode_no HE.out A c W1 HR1.out q1 q2 q3 q4 q5 q6).mono ?_
    rintro e w2 ⟨rfl, hb2⟩
    have HX2 := Lib.hid (HX1.out.below hb2 LT1.out)
    have HB2 := Lib.hid (HB1.out.trans (hb2.mono HB1.out.size))
    have HR2 : Hid (Reads w2 w2.heap.size 3 A l.length (os l)) := Lib.hid ((HR1.out.below hb2).more hb2.size)
    clear q1 q2 q3 q4 q5 q6 hb2 x1
    have x2 := HX2.out.cell
    go_wp2_with fail
    obtain ⟨q1, q2, q3, q4, q5, q6⟩ := HIN.out
    refine (refEncode_no HE.out A c w2 HR2.out q1 q2 q3 q4 q5 q6).mono ?_
    rintro e w3 ⟨rfl, hb3⟩
    have HB3 := Lib.hid (HB2.out.trans (hb3.mono HB2.out.size))
    clear q1 q2 q3 q4 q5 q6 hb3 x2
    go_wp2_with fail
    refine (lives_any _).mono ?_
    rintro e w4 ⟨rfl, hb4⟩
    have HB4 := Lib.hid (HB3.out.trans (hb4.mono HB3.out.size))
    clear hb4
    have k1 := HNIL.out w4
    go_wp2_with fail
    go_ret
    exact ⟨rfl, HB4.out⟩
  | some lo =>
    have HE := Lib.hid hE
    have HF : Hid (Fits ⟨op, xid, secs, flags, ci, yi, si, gi, ch, l⟩) := Lib.hid (by
      obtain ⟨q1, q2, q3, q4, q5, q6⟩ := HIN.out
      exact ⟨⟨by simp only; omega, by simp only; omega⟩, ⟨by simp only; omega, by simp only; omega⟩, ⟨by simp only; omega, by simp only; omega⟩, ⟨by simp only; omega, by simp only; omega⟩, ⟨by simp only; omega, by simp only; omega⟩, by simp only; omega⟩)
    have HD := Lib.hid (dec_enc lb HF.out HE.out)
    have HLO := Lib.hid (enc_length HE.out)
    have HCN := Lib.hid (cnt_enc lb HE.out)
    have H8O := Lib.hid (enc_le HE.out)
    have H64 : Hid (l.length ≤ 64) := Lib.hid ((headOk_iff _).1 (enc_some HE.out).1).2.2.2.2.2.2
    clear hE
    go_enter Try.func5, Try.ntmps5
    go_upto_region 1 with fail
    rw [HW1.out]
    have x1 := HX1.out.cell
    go_wp2_with fail
    obtain ⟨q1, q2, q3, q4, q5, q6⟩ := HIN.out
    refine (encode_as HE.out A c W1 HR1.out q1 q2 q3 q4 q5 q6).mono ?_
    rintro e w2 ⟨hb2, A2, c2, rfl, hr2, hc2⟩
    have HX2 := Lib.hid (HX1.out.below hb2 LT1.out)
    have HB2 := Lib.hid (HB1.out.trans (hb2.mono HB1.out.size))
    have HR2 : Hid (Reads w2 w2.heap.size 3 A l.length (os l)) := Lib.hid ((HR1.out.below hb2).more hb2.size)
    have HO2 := Lib.hid hr2
    have LT2 : Hid (w.heap.size < w2.heap.size) := Lib.hid (Nat.lt_of_lt_of_le LT1.out hb2.size)
    clear q1 q2 q3 q4 q5 q6 hb2 x1 hr2
    have x2 := HX2.out.cell
    go_wp2_with fail
    obtain ⟨q1, q2, q3, q4, q5, q6⟩ := HIN.out
    refine (refEncode_as HE.out A c w2 HR2.out q1 q2 q3 q4 q5 q6).mono ?_
    rintro e w3 ⟨hb3, A3, c3, rfl, hr3, hc3⟩
    have HX3 := Lib.hid (HX2.out.below hb3 LT2.out)
    have HB3 := Lib.hid (HB2.out.trans (hb3.mono HB2.out.size))
    have HR3 : Hid (Reads w3 w3.heap.size 3 A l.length (os l)) := Lib.hid ((HR2.out.below hb3).more hb3.size)
    have HO3 := Lib.hid ((HO2.out.below hb3).more hb3.size)
    have HP3 := Lib.hid hr3
    have LT3 : Hid (w.heap.size < w3.heap.size) := Lib.hid (Nat.lt_of_lt_of_le LT2.out hb3.size)
    clear q1 q2 q3 q4 q5 q6 hb3 x2 hr3 hc3
    go_wp2_with fail
    refine (lives_any _).mono ?_
    rintro e w4 ⟨rfl, hb4⟩
    have HX4 := Lib.hid (HX3.out.below hb4 LT3.out)
    have HB4 := Lib.hid (HB3.out.trans (hb4.mono HB3.out.size))
    have HR4 : Hid (Reads w4 w4.heap.size 3 A l.length (os l)) := Lib.hid ((HR3.out.below hb4).more hb4.size)
    have HO4 := Lib.hid ((HO3.out.below hb4).more hb4.size)
    have LT4 : Hid (w.heap.size < w4.heap.size) := Lib.hid (Nat.lt_of_lt_of_le LT3.out hb4.size)
    have k1 := run_bytes_str (P := Try.prog) Try.underlying37 Try.underlying5 Try.underlying9 c2 HO4.out
    have k2 := run_bytes_str (P := Try.prog) Try.underlying37 Try.underlying5 Try.underlying9 c3 (HP3.out.below hb4)
    clear hb4
    go_wp2_with (first
      | (at_builtin; refine wpList_append_copy rfl (.tmp 37) (.tmp 38) 37 rfl w4 5 i0 _ 1 1 Try.underlying37 I0.out.1 I0.out.2.1 I0.out.2.2.1 I0.out.2.2.2 rfl (by decide) rfl A2 lo.length c2 (bs lo) rfl HO4.out (bs_one lo) (by have := HLO.out; unfold maxLen; omega) (by have := HLO.out; omega) ?_; intro A5 c5 w5 ho5 hr5 hb5)
      | (at_builtin; refine wpList_append_wide w5 rfl (.tmp 39) (.tmp 40) rfl w4.heap.size (.slice A5 lo.length c5) lo.length (bs lo) rfl ho5 w.heap.size a lb.length cap (bs lb) rfl (HRB.out.below (HB4.out.trans (hb5.mono HB4.out.size))) (bs_one lb) (by have := HLO.out; have := HLN.out; omega) hb5.size ?_; intro v6 w6 ho6 hg6))
    obtain ⟨A6, c6, rfl, hr6⟩ := own_slice ho6
    have hd := decode_wide (l := lo ++ lb) HD.out A6 c6 w6 (by rw [bs_append, List.length_append]; exact hr6) (getD_le (fun c hc => by
      rcases List.mem_append.1 hc with hc | hc
      · exact H8O.out c hc
      · exact le_mem H8.out c hc)) (by rw [List.length_append]; exact own_cap ho6) (by have := HLO.out; have := HLN.out; rw [List.length_append]; omega) (by have := HCN.out; omega)
    rw [List.length_append] at hd
    refine hd.mono ?_
    rintro e w7 ⟨hb7, A7, c7, rfl, hr7⟩
    have hb6 : Below w4.heap.size w5 w6 := (Below.refl _ _).grown hg6 hb5.size (fun k hk => (ho5.lt k hk).1)
    have B7 : Below w4.heap.size w4 w7 := (hb5.trans hb6).trans (hb7.mono (hb5.trans hb6).size)
    have HB7 := Lib.hid B7
    have HR7 := Lib.hid hr7
    clear hd ho5 hr5 hb5 ho6 hg6 hr6 hb7 hr7 hb6 B7 k1 k2
    go_upto_region 8 with fail
    obtain ⟨W8, hW8, hz8, hb8⟩ := name_alloc w7 (.cells #[.int .i64 op, .int .u32 xid, .int .i64 secs, .int .i64 flags, .int .u32 ci, .int .u32 yi, .int .u32 si, .int .u32 gi, .int .u64 ch, .slice A7 l.length c7] 31)
    have hB8 : Blk W8 w7.heap.size 31 #[.int .i64 op, .int .u32 xid, .int .i64 secs, .int .i64 flags, .int .u32 ci, .int .u32 yi, .int .u32 si, .int .u32 gi, .int .u64 ch, .slice A7 l.length c7] := by rw [← hW8]; exact Blk.new _ _ _
    rw [hW8]
    have B8 : Below w4.heap.size w4 W8 := HB7.out.trans (hb8.mono HB7.out.size)
    have HB8 := Lib.hid B8
    have x8 := hB8.cell
    have x9 := (HX4.out.below B8 LT4.out).cell
    have HS8 := Lib.hid (same_as (op := op) (xid := xid) (secs := secs) (flags := flags) (ci := ci) (yi := yi) (si := si) (gi := gi) (ch := ch) (opts := l) A7 A c7 c W8 ((HR7.out.below hb8).more hb8.size) ((HR4.out.below B8).more B8.size) (by have := H64.out; omega))
    clear hW8 hz8 hb8 hB8 B8
    go_wp2_with fail
    refine HS8.out.mono ?_
    rintro e w9 ⟨rfl, hb9⟩
    have HB9 := Lib.hid (HB4.out.trans ((HB8.out.mono HB4.out.size).trans (hb9.mono (Nat.le_trans HB4.out.size HB8.out.size))))
    clear hb9 x8 x9
    go_wp2_with fail
    go_ret
    exact ⟨rfl, HB9.out⟩
end Go.Proofs.Ytbekgccecdjdeaa
