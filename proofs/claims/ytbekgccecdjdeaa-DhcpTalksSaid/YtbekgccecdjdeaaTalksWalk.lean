/- The law DhcpTalks, walked. -/
import Derived.Test.YtbekgccecdjdeaaSays
import Derived.Test.YtbekgccecdjdeaaLives
namespace Go.Proofs.Ytbekgccecdjdeaa
open Go.RowKit

theorem str5 : strOf [5] = ⟨#[5]⟩ := rfl
theorem conv4 (x : Nat) (w : World) (hx : x < 4294967296) :
    (convert 37 9 (.slice (some ⟨w.heap.size, 0, none⟩) 4 4)).run Try.prog (w.alloc (.cells #[.int .u8 ((x : Int) / 16777216), .int .u8 ((x : Int) / 65536 % 256), .int .u8 ((x : Int) / 256 % 256), .int .u8 ((x : Int) % 256)] 5)) =
      .ok (.string (four x)) (w.alloc (.cells #[.int .u8 ((x : Int) / 16777216), .int .u8 ((x : Int) / 65536 % 256), .int .u8 ((x : Int) / 256 % 256), .int .u8 ((x : Int) % 256)] 5)) := by
  refine run_bytes_str (P := Try.prog) Try.underlying37 Try.underlying5 Try.underlying9 (B := w.heap.size + 1) (n := 4) (l := be x 4) 4 (reads_lit w 5 _ _ 4 _ (by omega) ?_ rfl)
  simp only [be, bs, List.map_cons, List.map_nil]
  refine congr (congrArg List.cons (congrArg (Value.int .u8) ?_)) (congr (congrArg List.cons (congrArg (Value.int .u8) ?_)) (congr (congrArg List.cons (congrArg (Value.int .u8) ?_)) (congr (congrArg List.cons (congrArg (Value.int .u8) ?_)) rfl)))
  all_goals omega
set_option maxRecDepth 100000 in
theorem four_any (x : Nat) (w : World) (hx : x < 4294967296) :
    Calls Try.prog 9 #[.int .u32 x] w fun e w' => e = .returned (.string (four x)) ∧ Below w.heap.size w w' := by
  have k := conv4 x w hx
  go_enter Try.func9, Try.ntmps9
  go_wp2_with fail
  go_ret
  exact ⟨rfl, (Below.refl _ _).alloc (Nat.le_refl _) _⟩

/-- What Answer says to the asks. -/
theorem talk1 (xid fn mac ip server mask router time : Nat) (A : Option Addr) (c : Nat) (W : World) (hr : Reads W W.heap.size 3 A 1 (os (ask1 xid fn mac).opts))
    (hip : ip < 4294967296) (hse : server < 4294967296) (hma : mask < 4294967296) (hro : router < 4294967296) (hti : time < 4294967296) :
    Calls Try.prog 7 #[.agg #[.int .i64 1, .int .u32 xid, .int .i64 0, .int .i64 fn, .int .u32 0, .int .u32 0, .int .u32 0, .int .u32 0, .int .u64 mac, .slice A 1 c], .agg #[.int .u64 mac, .int .u32 ip, .int .u32 server, .int .u32 mask, .int .u32 router, .int .u32 time]] W
      fun e w' => (∃ A' n' c' ol, e = .returned (.tuple #[.agg #[.int .i64 2, .int .u32 xid, .int .i64 0, .int .i64 fn, .int .u32 0, .int .u32 ip, .int .u32 server, .int .u32 0, .int .u64 mac, .slice A' n' c'], .bool true]) ∧ Reads w' w'.heap.size 3 A' n' (os ol) ∧ n' ≤ 5 ∧ findL ol 54 = some (four server)) ∧ Below W.heap.size W w' := by
  refine (answer_any 1 xid 0 fn 0 0 0 0 mac A 1 c (ask1 xid fn mac).opts mac ip server mask router time W hr (by decide) hip hse hma hro hti).mono ?_
  intro e w' ⟨hb, he⟩
  have h := ans_ask1 xid fn ⟨mac, ip, server, mask, router, time⟩
  have h3 : ansL ⟨1, xid, 0, fn, 0, 0, 0, 0, mac, (ask1 xid fn mac).opts⟩ ⟨mac, ip, server, mask, router, time⟩ = some 2 := h
  rw [h3] at he
  obtain ⟨A', n', c', rfl, hr'⟩ := he
  refine ⟨⟨A', n', c', _, rfl, hr', ?_, find_server 2 _ ⟨mac, ip, server, mask, router, time⟩⟩, hb⟩
  have hl := hr'.1
  rw [os_length] at hl
  have : (ansMsg 2 ⟨1, xid, 0, fn, 0, 0, 0, 0, mac, (ask1 xid fn mac).opts⟩ ⟨mac, ip, server, mask, router, time⟩).opts.length ≤ 5 := by
    simp only [ansMsg, List.length_append, List.length_cons, List.length_nil]
    split <;> simp
  omega
theorem talk3 (xid fn mac ip server mask router time x : Nat) (A : Option Addr) (c : Nat) (W : World) (hr : Reads W W.heap.size 3 A 3 (os (ask3 xid fn mac x server).opts)) (hx : x < 4294967296)
    (hip : ip < 4294967296) (hse : server < 4294967296) (hma : mask < 4294967296) (hro : router < 4294967296) (hti : time < 4294967296) :
    Calls Try.prog 7 #[.agg #[.int .i64 1, .int .u32 xid, .int .i64 0, .int .i64 fn, .int .u32 0, .int .u32 0, .int .u32 0, .int .u32 0, .int .u64 mac, .slice A 3 c], .agg #[.int .u64 mac, .int .u32 ip, .int .u32 server, .int .u32 mask, .int .u32 router, .int .u32 time]] W
      fun e w' => (∃ A' n' c' ol op' xid' fn' ip' se' mac', e = .returned (.tuple #[.agg #[.int .i64 op', .int .u32 xid', .int .i64 0, .int .i64 fn', .int .u32 0, .int .u32 ip', .int .u32 se', .int .u32 0, .int .u64 mac', .slice A' n' c'], .bool (decide (x = ip))]) ∧
        (x = ip → Reads w' w'.heap.size 3 A' n' (os ol) ∧ n' ≤ 5 ∧ findL ol 53 = some (strOf [5]) ∧ ip' = ip)) ∧ Below W.heap.size W w' := by
  refine (answer_any 1 xid 0 fn 0 0 0 0 mac A 3 c (ask3 xid fn mac x server).opts mac ip server mask router time W hr (by decide) hip hse hma hro hti).mono ?_
  intro e w' ⟨hb, he⟩
  have h := ans_ask3 xid fn x ⟨mac, ip, server, mask, router, time⟩ hx hip hse
  have h3 : ansL ⟨1, xid, 0, fn, 0, 0, 0, 0, mac, (ask3 xid fn mac x server).opts⟩ ⟨mac, ip, server, mask, router, time⟩ = if x = ip then some 5 else none := h
  rw [h3] at he
  by_cases e1 : x = ip
  · rw [if_pos e1] at he
    obtain ⟨A', n', c', rfl, hr'⟩ := he
    refine ⟨⟨A', n', c', _, 2, xid, fn, ip, server, mac, by rw [decide_eq_true e1]; rfl, fun _ => ⟨hr', ?_, find_kind 5 _ ⟨mac, ip, server, mask, router, time⟩, rfl⟩⟩, hb⟩
    have hl := hr'.1
    rw [os_length] at hl
    have : (ansMsg 5 ⟨1, xid, 0, fn, 0, 0, 0, 0, mac, (ask3 xid fn mac x server).opts⟩ ⟨mac, ip, server, mask, router, time⟩).opts.length ≤ 5 := by
      simp only [ansMsg, List.length_append, List.length_cons, List.length_nil]
      split <;> simp
    omega
  · rw [if_neg e1] at he
    exact ⟨⟨none, 0, 0, [], 0, 0, 0, 0, 0, 0, by rw [he, decide_eq_false e1]; rfl, fun q => absurd q e1⟩, hb⟩

set_option maxRecDepth 100000 in
set_option maxHeartbeats 4000000 in
theorem talks_nat (w : World) (xid : Nat) (flags : Int) (mac ip server mask router time other : Nat) (hxid : xid < 4294967296) (hmac : mac < 18446744073709551616)
    (hip : ip < 4294967296) (hse : server < 4294967296) (hma : mask < 4294967296) (hro : router < 4294967296) (hti : time < 4294967296) (hot : other < 4294967296) :
    Calls Try.prog 3 #[.int .u32 xid, .int .i64 flags, .agg #[.int .u64 mac, .int .u32 ip, .int .u32 server, .int .u32 mask, .int .u32 router, .int .u32 time], .int .u32 other] w fun e w' => e = .returned (.bool true) ∧ Below w.heap.size w w' := by
  go_enter Try.func3, Try.ntmps3
  go_wp2_with fail
  obtain ⟨W1, hW1, hz1, hb1⟩ := name_alloc w (.cells #[.int .u64 mac, .int .u32 ip, .int .u32 server, .int .u32 mask, .int .u32 router, .int .u32 time] 25)
  have hB1 : Blk W1 w.heap.size 25 #[.int .u64 mac, .int .u32 ip, .int .u32 server, .int .u32 mask, .int .u32 router, .int .u32 time] := by rw [← hW1]; exact Blk.new _ _ _
  rw [hW1]
  refine (lives_any W1).mono ?_
  rintro e w2 ⟨rfl, hb2⟩
  have hB2 := hB1.below hb2 hB1.lt
  have c2 := hB2.cell
  have HB2 := Lib.hid hB2
  have HL := Lib.hid (hb1.trans (hb2.mono (by omega)))
  have HZ : Hid (w.heap.size < w2.heap.size) := Lib.hid hB2.lt
  clear hB1 hB2 hb1 hb2 hW1 hz1
  by_cases g1 : (281474976710656 : Int) ≤ mac
  · go_wp2_with fail
    go_ret
    exact ⟨rfl, HL.out⟩
  · by_cases g2 : flags < 0
    · go_wp2_with fail
      go_ret
      exact ⟨rfl, HL.out⟩
    · by_cases g3 : 65535 < flags
      · go_wp2_with fail
        go_ret
        exact ⟨rfl, HL.out⟩
      · obtain ⟨fn, rfl⟩ : ∃ fn : Nat, flags = fn := ⟨flags.toNat, by omega⟩
        have d1 : decide ((281474976710656 : Int) ≤ mac) = false := decide_eq_false g1
        have d2 : decide ((fn : Int) < 0) = false := decide_eq_false g2
        have d3 : decide ((65535 : Int) < fn) = false := decide_eq_false g3
        have hfn : Hid (fn ≤ 65535) := Lib.hid (by omega)
        clear g1 g2 g3
        go_upto_region 6 with fail
        clear d1 d2 d3 c2
        obtain ⟨W3, hW3, hz3, hb3⟩ := name_alloc w2 (.cells #[.int .i64 0, .int .i64 53, .string ⟨#[1]⟩] 28)
        have hB3 : Blk W3 w2.heap.size 28 #[.int .i64 0, .int .i64 53, .string ⟨#[1]⟩] := by rw [← hW3]; exact Blk.new _ _ _
        obtain ⟨W4, hW4, hz4, hb4⟩ := name_alloc W3 (.cells #[.int .i64 1, .int .u32 xid, .int .i64 0, .int .i64 fn, .int .u32 0, .int .u32 0, .int .u32 0, .int .u32 0, .int .u64 mac, .slice (some ⟨w2.heap.size, 0, none⟩) 1 1] 31)
        have hB4 : Blk W4 (w2.heap.size + 1) 31 #[.int .i64 1, .int .u32 xid, .int .i64 0, .int .i64 fn, .int .u32 0, .int .u32 0, .int .u32 0, .int .u32 0, .int .u64 mac, .slice (some ⟨w2.heap.size, 0, none⟩) 1 1] := by rw [← hW4, ← hz3]; exact Blk.new _ _ _
        rw [hW3, hW4]
        have hb34 : Below w2.heap.size w2 W4 := hb3.trans (hb4.mono (by omega))
        have hL4 := HB2.out.below hb34 HB2.out.lt
        have hB34 := hB3.below hb4 hB3.lt
        have hr4 : Reads W4 W4.heap.size 3 (some ⟨w2.heap.size, 0, none⟩) 1 (os (ask1 xid fn mac).opts) := reads_blk hB34 hB34.lt rfl
        have HL4 := Lib.hid (HL.out.trans (hb34.mono HL.out.size))
        have HB4 := Lib.hid hB4
        have HLe4 := Lib.hid hL4
        have c4 := hB4.cell
        have l4 := hL4.cell
        clear hW3 hW4 hb3 hb4 hz3 hz4 hB3 hB4 hB34 hL4 hb34 HB2 HL
        go_wp2_with fail
        refine (talk1 xid fn mac ip server mask router time _ 1 W4 hr4 hip hse hma hro hti).mono ?_
        rintro e w5 ⟨⟨A5, n5, c5, ol5, rfl, hr5, hn5, hf5⟩, hb5⟩
        have HL5 := Lib.hid (HL4.out.trans (hb5.mono HL4.out.size))
        have HB5 := Lib.hid (HB4.out.below hb5 HB4.out.lt)
        have HLe5 := Lib.hid (HLe4.out.below hb5 HLe4.out.lt)
        clear hb5 HL4 HB4 HLe4 c4 l4 hr4
        go_wp2_with fail
        obtain ⟨W6, hW6, hz6, hb6⟩ := name_alloc w5 (.cells #[.int .i64 2, .int .u32 xid, .int .i64 0, .int .i64 fn, .int .u32 0, .int .u32 ip, .int .u32 server, .int .u32 0, .int .u64 mac, .slice A5 n5 c5] 31)
        have hB6 : Blk W6 w5.heap.size 31 #[.int .i64 2, .int .u32 xid, .int .i64 0, .int .i64 fn, .int .u32 0, .int .u32 ip, .int .u32 server, .int .u32 0, .int .u64 mac, .slice A5 n5 c5] := by rw [← hW6]; exact Blk.new _ _ _
        rw [hW6]
        refine (find_any 2 xid 0 fn 0 ip server 0 mac A5 n5 c5 ol5 54 W6 ((hr5.below hb6).more hb6.size) (by omega)).mono ?_
        rintro e w7 ⟨rfl, hb7⟩
        rw [hf5]
        have hb67 := hb6.trans (hb7.mono hb6.size)
        have o7 := (hB6.below hb7 hB6.lt).cell
        have HL7 := Lib.hid (HL5.out.trans (hb67.mono HL5.out.size))
        have HB7 := Lib.hid (HB5.out.below hb67 HB5.out.lt)
        have HLe7 := Lib.hid (HLe5.out.below hb67 HLe5.out.lt)
        have l7 := HLe7.out.cell
        clear hb6 hb7 hb67 hW6 hz6 hB6 HL5 HB5 HLe5 hr5 hf5 hn5
        go_wp2_with fail
        refine (four_any ip w7 hip).mono ?_
        rintro e w8 ⟨rfl, hb8⟩
        have HL8 := Lib.hid (HL7.out.trans (hb8.mono HL7.out.size))
        have HB8 := Lib.hid (HB7.out.below hb8 HB7.out.lt)
        have HLe8 := Lib.hid (HLe7.out.below hb8 HLe7.out.lt)
        have b8 := (HB8.out.alloc (.cells #[.int .i64 0, .int .i64 53, .string ⟨#[3]⟩, .int .i64 0, .int .i64 50, .string (four ip), .int .i64 0, .int .i64 54, .string (four server)] 28)).cell 9
        have f8 := (HB8.out.alloc (.cells #[.int .i64 0, .int .i64 53, .string ⟨#[3]⟩, .int .i64 0, .int .i64 50, .string (four ip), .int .i64 0, .int .i64 54, .string (four server)] 28)).frozen 9
        clear hb8 HL7 HB7 HLe7 o7 l7
        go_upto_region 12 with fail
        obtain ⟨W9, hW9⟩ : ∃ W, W = (w8.alloc (.cells #[.int .i64 0, .int .i64 53, .string ⟨#[3]⟩, .int .i64 0, .int .i64 50, .string (four ip), .int .i64 0, .int .i64 54, .string (four server)] 28)).setCell ⟨w2.heap.size + 1, 9, none⟩ (.slice (some ⟨w8.heap.size, 0, none⟩) 3 3) := ⟨_, rfl⟩
        have hne : w8.heap.size ≠ w2.heap.size + 1 := by have := HB8.out.lt; omega
        have hlt2 : w.heap.size ≠ w2.heap.size + 1 := by have := HZ.out; omega
        have hB9 : Blk W9 (w2.heap.size + 1) 31 #[.int .i64 1, .int .u32 xid, .int .i64 0, .int .i64 fn, .int .u32 0, .int .u32 0, .int .u32 0, .int .u32 0, .int .u64 mac, .slice (some ⟨w8.heap.size, 0, none⟩) 3 3] := by rw [hW9]; simpa using (HB8.out.alloc (.cells #[.int .i64 0, .int .i64 53, .string ⟨#[3]⟩, .int .i64 0, .int .i64 50, .string (four ip), .int .i64 0, .int .i64 54, .string (four server)] 28)).set_ 9 (.slice (some ⟨w8.heap.size, 0, none⟩) 3 3)
        have hO9 : Blk W9 w8.heap.size 28 #[.int .i64 0, .int .i64 53, .string ⟨#[3]⟩, .int .i64 0, .int .i64 50, .string (four ip), .int .i64 0, .int .i64 54, .string (four server)] := by rw [hW9]; exact (Blk.new w8 28 _).far hne _
        have hLe9 : Blk W9 w.heap.size 25 #[.int .u64 mac, .int .u32 ip, .int .u32 server, .int .u32 mask, .int .u32 router, .int .u32 time] := by rw [hW9]; exact (HLe8.out.alloc _).far hlt2 _
        have hL9 : Below w.heap.size w W9 := by rw [hW9]; exact (HL8.out.alloc HL8.out.size _).setCell (by show w.heap.size ≤ w2.heap.size + 1; have := HZ.out; omega) _
        rw [← hW9]
        have HB9 := Lib.hid hB9
        have HO9 := Lib.hid hO9
        have HLe9 := Lib.hid hLe9
        have HL9 := Lib.hid hL9
        have b9 := hB9.cell
        have l9 := hLe9.cell
        have HNE : Hid (w2.heap.size + 1 ≠ w8.heap.size ∧ w.heap.size ≠ w8.heap.size ∧ w.heap.size ≤ w8.heap.size) := Lib.hid ⟨Ne.symm hne, by have := HLe8.out.lt; omega, by have := HLe8.out.lt; omega⟩
        clear hW9 hne hlt2 hB9 hO9 hLe9 hL9 b8 f8 HB8 HL8 HLe8
        go_wp2_with fail
        refine (talk3 xid fn mac ip server mask router time ip _ 3 W9 (reads_blk HO9.out HO9.out.lt rfl) hip hip hse hma hro hti).mono ?_
        rintro e w10 ⟨⟨A10, n10, c10, ol10, op', xid', fn', ip', se', mac', rfl, h10⟩, hb10⟩
        obtain ⟨hr10, hn10, hf10, rfl⟩ := h10 rfl
        rw [decide_eq_true (rfl : ip = ip)]
        have HL10 := Lib.hid (HL9.out.trans (hb10.mono HL9.out.size))
        have HB10 := Lib.hid (HB9.out.below hb10 HB9.out.lt)
        have HO10 := Lib.hid (HO9.out.below hb10 HO9.out.lt)
        have HLe10 := Lib.hid (HLe9.out.below hb10 HLe9.out.lt)
        clear hb10 HL9 HB9 HO9 HLe9 b9 l9 h10
        go_wp2_with fail
        obtain ⟨W11, hW11, hz11, hb11⟩ := name_alloc w10 (.cells #[.int .i64 op', .int .u32 xid', .int .i64 0, .int .i64 fn', .int .u32 0, .int .u32 ip, .int .u32 se', .int .u32 0, .int .u64 mac', .slice A10 n10 c10] 31)
        have hB11 : Blk W11 w10.heap.size 31 #[.int .i64 op', .int .u32 xid', .int .i64 0, .int .i64 fn', .int .u32 0, .int .u32 ip, .int .u32 se', .int .u32 0, .int .u64 mac', .slice A10 n10 c10] := by rw [← hW11]; exact Blk.new _ _ _
        rw [hW11]
        refine (find_any op' xid' 0 fn' 0 ip se' 0 mac' A10 n10 c10 ol10 53 W11 ((hr10.below hb11).more hb11.size) (by omega)).mono ?_
        rintro e w12 ⟨rfl, hb12⟩
        rw [hf10, str5]
        have hb1112 := hb11.trans (hb12.mono hb11.size)
        have a12 := (hB11.below hb12 hB11.lt).cell
        have HL12 := Lib.hid (HL10.out.trans (hb1112.mono HL10.out.size))
        have HB12 := Lib.hid (HB10.out.below hb1112 HB10.out.lt)
        have HO12 := Lib.hid (HO10.out.below hb1112 HO10.out.lt)
        have HLe12 := Lib.hid (HLe10.out.below hb1112 HLe10.out.lt)
        have l12 := HLe12.out.cell
        have b12 := HB12.out.cell 9
        clear hb11 hb12 hb1112 hW11 hz11 hB11 HL10 HB10 HO10 HLe10 hr10 hf10 hn10
        go_upto_region 16 with fail
        clear a12 l12
        go_region_with (go_at_call 9; refine (four_any other _ hot).mono ?_; rintro e w13 ⟨rfl, hb13⟩; have HL13 := Lib.hid (HL12.out.trans ((undrew hb13).mono HL12.out.size)); have HB13 := Lib.hid (HB12.out.drew.below hb13 HB12.out.lt); have HO13 := Lib.hid (HO12.out.drew.below hb13 HO12.out.lt); have HLe13 := Lib.hid (HLe12.out.drew.below hb13 HLe12.out.lt); have b13 := HB13.out.cell 9; have o13 := HO13.out.cell 5; have g13 := HO13.out.frozen 5; clear hb13)
        all_goals
          obtain ⟨W14, hW14⟩ : ∃ W, W = w13.setCell ⟨w8.heap.size, 5, none⟩ (.string (four other)) := ⟨_, rfl⟩
          have hB14 : Blk W14 (w2.heap.size + 1) 31 #[.int .i64 1, .int .u32 xid, .int .i64 0, .int .i64 fn, .int .u32 0, .int .u32 0, .int .u32 0, .int .u32 0, .int .u64 mac, .slice (some ⟨w8.heap.size, 0, none⟩) 3 3] := by rw [hW14]; exact HB13.out.far HNE.out.1 _
          have hO14 : Blk W14 w8.heap.size 28 #[.int .i64 0, .int .i64 53, .string ⟨#[3]⟩, .int .i64 0, .int .i64 50, .string (four other), .int .i64 0, .int .i64 54, .string (four server)] := by rw [hW14]; simpa using HO13.out.set_ 5 (.string (four other))
          have hLe14 : Blk W14 w.heap.size 25 #[.int .u64 mac, .int .u32 ip, .int .u32 server, .int .u32 mask, .int .u32 router, .int .u32 time] := by rw [hW14]; exact HLe13.out.far HNE.out.2.1 _
          have hL14 : Below w.heap.size w W14 := by rw [hW14]; exact HL13.out.setCell HNE.out.2.2 _
          rw [← hW14]
          have HO14 := Lib.hid hO14
          have HL14 := Lib.hid hL14
          have HLe14 := Lib.hid hLe14
          have b14 := hB14.cell
          have l14 := hLe14.cell
          clear hW14 hB14 hO14 hL14 hLe14 HB13 HO13 HLe13 HL13 b13 o13 g13 b12
          go_wp2_with fail
          refine (talk3 xid fn mac ip server mask router time other _ 3 W14 (reads_blk HO14.out HO14.out.lt rfl) hot hip hse hma hro hti).mono ?_
          rintro e w15 ⟨⟨A15, n15, c15, ol15, op2, xid2, fn2, ip2, se2, mac2, rfl, _⟩, hb15⟩
          have l15 := (HLe14.out.below hb15 HLe14.out.lt).cell
          have HL15 := Lib.hid (HL14.out.trans (hb15.mono HL14.out.size))
          clear hb15 b14 l14
          go_wp2_with fail
          go_ret
          refine ⟨ret_bool ?_, HL15.out⟩
          rw [beq_iff_eq, Bool.eq_iff_iff]
          simp only [decide_eq_true_eq, beq_iff_eq]
          omega
theorem nat_of {k : IntKind} {a : Int} (h : (Lit.int k a).wf = true) (hs : k.signed = false) : ∃ n : Nat, a = n ∧ (n : Int) ≤ k.max := by
  simp [Lit.wf, IntKind.min, hs] at h
  exact ⟨a.toNat, by omega, by omega⟩
theorem dhcpTalks_walk (w : World) (xid : Int) (g0 : (Lit.int .u32 xid).wf = true) (flags : Int) (_ : (Lit.int .i64 flags).wf = true) (b0 b1 b2 b3 b4 b5 : Int) (h0 : (Lit.int .u64 b0).wf = true) (h1 : (Lit.int .u32 b1).wf = true) (h2 : (Lit.int .u32 b2).wf = true) (h3 : (Lit.int .u32 b3).wf = true)
    (h4 : (Lit.int .u32 b4).wf = true) (h5 : (Lit.int .u32 b5).wf = true) (other : Int) (g3 : (Lit.int .u32 other).wf = true) :
    Calls Try.prog 3 #[.int .u32 xid, .int .i64 flags, .agg #[.int .u64 b0, .int .u32 b1, .int .u32 b2, .int .u32 b3, .int .u32 b4, .int .u32 b5], .int .u32 other] w fun e w' => e = .returned (.bool true) ∧ Below w.heap.size w w' := by
  obtain ⟨x, rfl, hx⟩ := nat_of g0 rfl
  obtain ⟨c0, rfl, k0⟩ := nat_of h0 rfl
  obtain ⟨c1, rfl, k1⟩ := nat_of h1 rfl
  obtain ⟨c2, rfl, k2⟩ := nat_of h2 rfl
  obtain ⟨c3, rfl, k3⟩ := nat_of h3 rfl
  obtain ⟨c4, rfl, k4⟩ := nat_of h4 rfl
  obtain ⟨c5, rfl, k5⟩ := nat_of h5 rfl
  obtain ⟨o, rfl, ho⟩ := nat_of g3 rfl
  simp only [IntKind.max, IntKind.signed, IntKind.bits] at hx k0 k1 k2 k3 k4 k5 ho
  exact talks_nat w x flags c0 c1 c2 c3 c4 c5 o (by simp at hx; omega) (by simp at k0; omega) (by simp at k1; omega) (by simp at k2; omega) (by simp at k3; omega) (by simp at k4; omega) (by simp at k5; omega) (by simp at ho; omega)
end Go.Proofs.Ytbekgccecdjdeaa
