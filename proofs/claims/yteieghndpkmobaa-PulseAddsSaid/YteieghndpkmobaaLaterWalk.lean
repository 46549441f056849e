/- The law PulseLater, walked. -/
import Derived.Test.YteieghndpkmobaaBackWalk
namespace Go.Proofs.Yteieghndpkmobaa
open Go.RowKit

theorem fs_later (l : List Int) (m : Nat) : ∀ k, k < 4 → fs (0 :: l) k (m + 1) = fs l ((k + 3) % 4) m := by
  induction m with
  | zero =>
    intro k hk
    rw [fs_succ]
    simp [fs]
  | succ m ih =>
    intro k hk
    rw [fs_succ, ih k hk, fs_succ]
    have e : (0 :: l).getD (m + 1) 0 = l.getD m 0 := by simp [List.getD]
    rw [e]
    by_cases h : (m + 1) % 4 = k
    · rw [if_pos h, if_pos (by omega)]
    · rw [if_neg h, if_neg (by omega)]
theorem prt_later (l : List Int) (m : Nat) : prt (0 :: l) 0 (m + 1) = prt l 0 m ∧ prt (0 :: l) 2 (m + 1) = (-(prt l 2 m).1, 0) ∧ prt (0 :: l) 1 (m + 1) = (-(prt l 1 m).2, (prt l 1 m).1) := by
  have h0 := fs_later l m 0 (by omega)
  have h1 := fs_later l m 1 (by omega)
  have h2 := fs_later l m 2 (by omega)
  have h3 := fs_later l m 3 (by omega)
  unfold prt
  simp only [h0, h1, h2, h3]
  refine ⟨?_, ?_, ?_⟩ <;> simp <;> omega

theorem ok_later {zs : List Int} (h : okCounts zs) (hl : zs.length ≤ 1000) : okCounts (0 :: zs) := by
  obtain ⟨h1, h2, h3⟩ := h
  exact ⟨by simp, by simp; omega, by rw [List.any_cons, h3]; rfl⟩

/-- Whatever counts: some pulse or none, and some answer. -/
def SomeTwo (w : World) (e : Ending) (w' : World) : Prop := ∃ v x, e = .returned (.tuple #[v, .int .i64 x]) ∧ Below w.heap.size w w'
theorem of_any (A : Option Addr) (n c : Nat) (zs : List Int) (w : World) (hr : Reads w w.heap.size 1 A n (is zs)) (hm : n ≤ 9223372036854775807) :
    Calls Try.prog 10 #[.slice A n c] w (SomeTwo w) := by
  by_cases h : okCounts zs
  · exact (of_yes A n c zs w hr h).mono fun e w' ⟨b, he, _, hb⟩ => ⟨_, _, he, hb⟩
  · exact (of_no A n c zs _ w hr hm h).mono fun e w' ⟨he, hw⟩ => ⟨_, _, he, hw ▸ Below.refl _ _⟩

theorem reads_cut {w : World} {B n m : Nat} {A : Option Addr} {l : List Int} (h : Reads w B 1 A n (is l)) (hm : m ≤ n) : Reads w B 1 A m (is (l.take m)) := by
  have hl : l.length = n := by have := h.1; simpa [is] using this
  refine ⟨by simp [is]; omega, fun h0 => ?_⟩
  obtain ⟨ad, e, hb, hc⟩ := h.2 (by omega)
  refine ⟨ad, e, hb, fun j u hu => hc j u ?_⟩
  unfold is at hu ⊢
  rw [List.map_take] at hu
  have hj := (List.getElem?_eq_some_iff.1 hu).1
  rw [List.length_take] at hj
  rwa [List.getElem?_take_of_lt (by omega)] at hu

theorem own_lit (w : World) (e : TypeId) (cs : Array Value) (n : Nat) (hn : cs.size = n) (hm : n ≤ maxLen) : (w.alloc (.cells cs e)).ownsRow w.heap.size e 1 (.slice (some ⟨w.heap.size, 0, none⟩) n n) n cs.toList := by
  subst hn
  exact ⟨by simp, .inr ⟨w.heap.size, cs.size, cs, rfl, Nat.le_refl _, heap_alloc_new w _, Nat.le_refl _, hm, by simp, by rw [Nat.mul_one]; exact List.take_of_length_le (by simp)⟩⟩

set_option maxRecDepth 100000 in
set_option maxHeartbeats 800000 in
theorem later_short (w : World) (a : Option Addr) (len : Nat) (cap : Nat) (zs : List Int) (hr : Reads w w.heap.size 1 a len (is zs)) (hl : len ≤ 1000) :
    Calls Try.prog 4 #[.slice a len cap] w fun e w' => e = .returned (.bool true) ∧ Below w.heap.size w w' := by
  obtain ⟨i0, hi, hz0, hz1, hz2⟩ := info_parts Try.info3
  have hlen : zs.length = len := by have := hr.1; simpa [is] using this
  have hl1000 : len ≤ 1000 := by omega
  have HL := Lib.hid hlen
  clear hlen
  by_cases h : okCounts zs
  · have OK := Lib.hid h
    have OK2 := Lib.hid (ok_later h (by rw [HL.out]; omega))
    clear h
    go_enter Try.func4, Try.ntmps4
    go_wp2_with fail
    refine (of_yes a len cap zs w hr OK.out).mono ?_
    rintro e w1 ⟨b, rfl, hp, hb1⟩
    go_wp2_with (at_builtin; refine wpList_append_any _ rfl (.tmp 30) (.tmp 31) 22 rfl w1.heap.size 3 i0 _ 1 8 Try.underlying22 hi hz0 hz1 hz2 rfl (by decide) (.slice (some ⟨w1.heap.size, 0, none⟩) 1 1) 1 (is [0]) rfl (own_lit w1 3 #[.int .i64 0] 1 rfl (by decide)) w.heap.size a len cap (is zs) rfl ((hr.below hb1).alloc hb1.size _) (is_one zs) (by unfold maxLen; omega) (by omega) (by simp) ?go)
    case go =>
      intro v2 w2 hown2 hg2 _
      have hb2 : Below w1.heap.size w1 w2 := ((Below.refl _ _).alloc (Nat.le_refl _) _).grown hg2 (by simp) (fun k hk => by simp [Value.ownBlock] at hk; omega)
      obtain ⟨A2, c2, rfl, hr2⟩ := own_slice hown2
      have hz : is [0] ++ is zs = is (0 :: zs) := by simp [is]
      rw [hz] at hr2
      have hp2 := hp.below hb2
      have hbw := hb1.trans (hb2.mono hb1.size)
      clear hz hown2 hg2 hp hb1 hb2 hr
      go_wp2_with fail
      refine (of_yes A2 (1 + len) c2 (0 :: zs) w2 hr2 OK2.out).mono ?_
      rintro e w3 ⟨q, rfl, hq, hb3⟩
      have hp3 := hp2.below hb3
      have hbw3 := hbw.trans (hb3.mono hbw.size)
      clear hr2 hp2 hb3 hbw
      go_wp2_with fail
      refine (lives_any w3).mono ?_
      rintro e w4 ⟨rfl, hb4⟩
      have hp4 := hp3.below hb4
      have hq4 := hq.below hb4
      have hbw4 := hbw3.trans (hb4.mono hbw3.size)
      clear hp3 hq hb4 hbw3
      obtain ⟨L0, L2, L1⟩ := prt_later zs zs.length
      have pb1 := beat_1 58 b _ w4 hp4 OK.out.1 OK.out.2.1 (counts_of OK.out)
      have pb2 := beat_2 58 b _ w4 hp4 OK.out.1 OK.out.2.1 (counts_of OK.out)
      have pb4 := beat_4 58 b _ w4 hp4 OK.out.1 OK.out.2.1 (counts_of OK.out)
      have qb1 := beat_1 58 q _ w4 hq4 OK2.out.1 OK2.out.2.1 (counts_of OK2.out)
      have qb2 := beat_2 58 q _ w4 hq4 OK2.out.1 OK2.out.2.1 (counts_of OK2.out)
      have qb4 := beat_4 58 q _ w4 hq4 OK2.out.1 OK2.out.2.1 (counts_of OK2.out)
      rw [show (0 :: zs).length = zs.length + 1 from rfl] at qb1 qb2 qb4
      rw [L0] at qb1
      rw [L2] at qb2
      rw [L1] at qb4
      have d0 := prt_bd (counts_of OK.out) 0 zs.length OK.out.2.1
      have d2 := prt_bd (counts_of OK.out) 2 zs.length OK.out.2.1
      have d1 := prt_bd (counts_of OK.out) 1 zs.length OK.out.2.1
      have z0 := (prt_im0 zs zs.length).1
      have z2 := (prt_im0 zs zs.length).2
      rw [z0] at pb1 qb1
      rw [z2] at pb2
      simp only at qb2 qb4
      generalize (prt zs 0 zs.length).1 = A at *
      generalize (prt zs 2 zs.length).1 = B at *
      generalize (prt zs 1 zs.length).1 = C at *
      generalize (prt zs 1 zs.length).2 = D at *
      have t2 := turn_any B 0 2 (by omega) (by omega) w4
      have t1 := turn_any C D 1 (by omega) (by omega) w4
      have R2 : rot (B, 0) ((2 : Int) % 4).toNat = (-B, 0) := by simp [rot]
      have R1 : rot (C, D) ((1 : Int) % 4).toNat = (-D, C) := by simp [rot]
      rw [R2] at t2
      rw [R1] at t1
      have e0 := eq_self (a := 0) (by omega)
      have eA := eq_self (a := A) (by omega)
      have eB := eq_self (a := -B) (by omega)
      have eC := eq_self (a := C) (by omega)
      have eD := eq_self (a := -D) (by omega)
      have PB1 := Lib.hid pb1
      have PB2 := Lib.hid pb2
      have PB4 := Lib.hid pb4
      have QB1 := Lib.hid qb1
      have QB2 := Lib.hid qb2
      have QB4 := Lib.hid qb4
      have T1 := Lib.hid t1
      have T2 := Lib.hid t2
      clear pb1 pb2 pb4 qb1 qb2 qb4 t1 t2 R1 R2 z0 z2 d0 d1 d2 L0 L1 L2 hp4 hq4
      go_wp2_with fail
      refine PB1.out.mono ?_
      rintro e w' ⟨rfl, rfl⟩
      go_wp2_with fail
      refine QB1.out.mono ?_
      rintro e w' ⟨rfl, rfl⟩
      go_wp2_with fail
      refine PB2.out.mono ?_
      rintro e w' ⟨rfl, rfl⟩
      go_wp2_with fail
      refine QB2.out.mono ?_
      rintro e w' ⟨rfl, rfl⟩
      go_wp2_with fail
      refine PB4.out.mono ?_
      rintro e w' ⟨rfl, rfl⟩
      go_wp2_with fail
      refine QB4.out.mono ?_
      rintro e w' ⟨rfl, rfl⟩
      go_wp2_with fail
      refine T2.out.mono ?_
      rintro e w' ⟨rfl, rfl⟩
      go_wp2_with fail
      refine T1.out.mono ?_
      rintro e w' ⟨rfl, rfl⟩
      go_wp2
      go_ret
      exact ⟨rfl, hbw4⟩
  · have OK := Lib.hid h
    clear h
    go_enter Try.func4, Try.ntmps4
    go_wp2_with fail
    refine (of_no a len cap zs _ w hr (by omega) OK.out).mono ?_
    rintro e w' ⟨rfl, rfl⟩
    go_wp2_with (at_builtin; refine wpList_append_any _ rfl (.tmp 30) (.tmp 31) 22 rfl w.heap.size 3 i0 _ 1 8 Try.underlying22 hi hz0 hz1 hz2 rfl (by decide) (.slice (some ⟨w.heap.size, 0, none⟩) 1 1) 1 (is [0]) rfl (own_lit w 3 #[.int .i64 0] 1 rfl (by decide)) w.heap.size a len cap (is zs) rfl (hr.alloc (Nat.le_refl _) _) (is_one zs) (by unfold maxLen; omega) (by omega) (by simp) ?go2)
    case go2 =>
      intro v2 w2 hown2 hg2 _
      have hb2 : Below w.heap.size w w2 := ((Below.refl _ _).alloc (Nat.le_refl _) _).grown hg2 (by simp) (fun k hk => by simp [Value.ownBlock] at hk; omega)
      obtain ⟨A2, c2, rfl, hr2⟩ := own_slice hown2
      have hz : is [0] ++ is zs = is (0 :: zs) := by simp [is]
      rw [hz] at hr2
      clear hz hown2 hg2 hr
      go_wp2_with fail
      refine (of_any A2 (1 + len) c2 (0 :: zs) w2 hr2 (by omega)).mono ?_
      rintro e w3 ⟨v, x, rfl, hb3⟩
      have hbw3 := hb2.trans (hb3.mono hb2.size)
      clear hr2 hb3 hb2
      go_wp2_with fail
      refine (lives_any w3).mono ?_
      rintro e w4 ⟨rfl, hb4⟩
      have hbw4 := hbw3.trans (hb4.mono hbw3.size)
      clear hb4 hbw3
      go_wp2_with fail
      refine (lives_any w4).mono ?_
      rintro e w5 ⟨rfl, hb5⟩
      have hbw5 := hbw4.trans (hb5.mono hbw4.size)
      clear hb5 hbw4
      go_wp2
      go_ret
      exact ⟨rfl, hbw5⟩

set_option maxRecDepth 100000 in
set_option maxHeartbeats 800000 in
theorem later_long (w : World) (a : Option Addr) (N : Nat) (cap : Nat) (zs : List Int) (hr : Reads w w.heap.size 1 a 1000 (is zs)) (hl : 1000 < N) (hc : 1000 ≤ cap) :
    Calls Try.prog 4 #[.slice a N cap] w fun e w' => e = .returned (.bool true) ∧ Below w.heap.size w w' := by
  obtain ⟨i0, hi, hz0, hz1, hz2⟩ := info_parts Try.info3
  have hlen : zs.length = 1000 := by have := hr.1; simpa [is] using this
  have hl1000 : 1000 ≤ 1000 := by omega
  have HL := Lib.hid hlen
  clear hlen
  by_cases h : okCounts zs
  · have OK := Lib.hid h
    have OK2 := Lib.hid (ok_later h (by rw [HL.out]; omega))
    clear h
    go_enter Try.func4, Try.ntmps4
    go_wp2_with fail
    refine (of_yes a 1000 cap zs w hr OK.out).mono ?_
    rintro e w1 ⟨b, rfl, hp, hb1⟩
    go_wp2_with (at_builtin; refine wpList_append_any _ rfl (.tmp 30) (.tmp 31) 22 rfl w1.heap.size 3 i0 _ 1 8 Try.underlying22 hi hz0 hz1 hz2 rfl (by decide) (.slice (some ⟨w1.heap.size, 0, none⟩) 1 1) 1 (is [0]) rfl (own_lit w1 3 #[.int .i64 0] 1 rfl (by decide)) w.heap.size a 1000 cap (is zs) rfl ((hr.below hb1).alloc hb1.size _) (is_one zs) (by unfold maxLen; omega) (by omega) (by simp) ?go)
    case go =>
      intro v2 w2 hown2 hg2 _
      have hb2 : Below w1.heap.size w1 w2 := ((Below.refl _ _).alloc (Nat.le_refl _) _).grown hg2 (by simp) (fun k hk => by simp [Value.ownBlock] at hk; omega)
      obtain ⟨A2, c2, rfl, hr2⟩ := own_slice hown2
      have hz : is [0] ++ is zs = is (0 :: zs) := by simp [is]
      rw [hz] at hr2
      have hp2 := hp.below hb2
      have hbw := hb1.trans (hb2.mono hb1.size)
      clear hz hown2 hg2 hp hb1 hb2 hr
      go_wp2_with fail
      refine (of_yes A2 (1 + 1000) c2 (0 :: zs) w2 hr2 OK2.out).mono ?_
      rintro e w3 ⟨q, rfl, hq, hb3⟩
      have hp3 := hp2.below hb3
      have hbw3 := hbw.trans (hb3.mono hbw.size)
      clear hr2 hp2 hb3 hbw
      go_wp2_with fail
      refine (lives_any w3).mono ?_
      rintro e w4 ⟨rfl, hb4⟩
      have hp4 := hp3.below hb4
      have hq4 := hq.below hb4
      have hbw4 := hbw3.trans (hb4.mono hbw3.size)
      clear hp3 hq hb4 hbw3
      obtain ⟨L0, L2, L1⟩ := prt_later zs zs.length
      have pb1 := beat_1 58 b _ w4 hp4 OK.out.1 OK.out.2.1 (counts_of OK.out)
      have pb2 := beat_2 58 b _ w4 hp4 OK.out.1 OK.out.2.1 (counts_of OK.out)
      have pb4 := beat_4 58 b _ w4 hp4 OK.out.1 OK.out.2.1 (counts_of OK.out)
      have qb1 := beat_1 58 q _ w4 hq4 OK2.out.1 OK2.out.2.1 (counts_of OK2.out)
      have qb2 := beat_2 58 q _ w4 hq4 OK2.out.1 OK2.out.2.1 (counts_of OK2.out)
      have qb4 := beat_4 58 q _ w4 hq4 OK2.out.1 OK2.out.2.1 (counts_of OK2.out)
      rw [show (0 :: zs).length = zs.length + 1 from rfl] at qb1 qb2 qb4
      rw [L0] at qb1
      rw [L2] at qb2
      rw [L1] at qb4
      have d0 := prt_bd (counts_of OK.out) 0 zs.length OK.out.2.1
      have d2 := prt_bd (counts_of OK.out) 2 zs.length OK.out.2.1
      have d1 := prt_bd (counts_of OK.out) 1 zs.length OK.out.2.1
      have z0 := (prt_im0 zs zs.length).1
      have z2 := (prt_im0 zs zs.length).2
      rw [z0] at pb1 qb1
      rw [z2] at pb2
      simp only at qb2 qb4
      generalize (prt zs 0 zs.length).1 = A at *
      generalize (prt zs 2 zs.length).1 = B at *
      generalize (prt zs 1 zs.length).1 = C at *
      generalize (prt zs 1 zs.length).2 = D at *
      have t2 := turn_any B 0 2 (by omega) (by omega) w4
      have t1 := turn_any C D 1 (by omega) (by omega) w4
      have R2 : rot (B, 0) ((2 : Int) % 4).toNat = (-B, 0) := by simp [rot]
      have R1 : rot (C, D) ((1 : Int) % 4).toNat = (-D, C) := by simp [rot]
      rw [R2] at t2
      rw [R1] at t1
      have e0 := eq_self (a := 0) (by omega)
      have eA := eq_self (a := A) (by omega)
      have eB := eq_self (a := -B) (by omega)
      have eC := eq_self (a := C) (by omega)
      have eD := eq_self (a := -D) (by omega)
      have PB1 := Lib.hid pb1
      have PB2 := Lib.hid pb2
      have PB4 := Lib.hid pb4
      have QB1 := Lib.hid qb1
      have QB2 := Lib.hid qb2
      have QB4 := Lib.hid qb4
      have T1 := Lib.hid t1
      have T2 := Lib.hid t2
      clear pb1 pb2 pb4 qb1 qb2 qb4 t1 t2 R1 R2 z0 z2 d0 d1 d2 L0 L1 L2 hp4 hq4
      go_wp2_with fail
      refine PB1.out.mono ?_
      rintro e w' ⟨rfl, rfl⟩
      go_wp2_with fail
      refine QB1.out.mono ?_
      rintro e w' ⟨rfl, rfl⟩
      go_wp2_with fail
      refine PB2.out.mono ?_
      rintro e w' ⟨rfl, rfl⟩
      go_wp2_with fail
      refine QB2.out.mono ?_
      rintro e w' ⟨rfl, rfl⟩
      go_wp2_with fail
      refine PB4.out.mono ?_
      rintro e w' ⟨rfl, rfl⟩
      go_wp2_with fail
      refine QB4.out.mono ?_
      rintro e w' ⟨rfl, rfl⟩
      go_wp2_with fail
      refine T2.out.mono ?_
      rintro e w' ⟨rfl, rfl⟩
      go_wp2_with fail
      refine T1.out.mono ?_
      rintro e w' ⟨rfl, rfl⟩
      go_wp2
      go_ret
      exact ⟨rfl, hbw4⟩
  · have OK := Lib.hid h
    clear h
    go_enter Try.func4, Try.ntmps4
    go_wp2_with fail
    refine (of_no a 1000 cap zs _ w hr (by omega) OK.out).mono ?_
    rintro e w' ⟨rfl, rfl⟩
    go_wp2_with (at_builtin; refine wpList_append_any _ rfl (.tmp 30) (.tmp 31) 22 rfl w.heap.size 3 i0 _ 1 8 Try.underlying22 hi hz0 hz1 hz2 rfl (by decide) (.slice (some ⟨w.heap.size, 0, none⟩) 1 1) 1 (is [0]) rfl (own_lit w 3 #[.int .i64 0] 1 rfl (by decide)) w.heap.size a 1000 cap (is zs) rfl (hr.alloc (Nat.le_refl _) _) (is_one zs) (by unfold maxLen; omega) (by omega) (by simp) ?go2)
    case go2 =>
      intro v2 w2 hown2 hg2 _
      have hb2 : Below w.heap.size w w2 := ((Below.refl _ _).alloc (Nat.le_refl _) _).grown hg2 (by simp) (fun k hk => by simp [Value.ownBlock] at hk; omega)
      obtain ⟨A2, c2, rfl, hr2⟩ := own_slice hown2
      have hz : is [0] ++ is zs = is (0 :: zs) := by simp [is]
      rw [hz] at hr2
      clear hz hown2 hg2 hr
      go_wp2_with fail
      refine (of_any A2 (1 + 1000) c2 (0 :: zs) w2 hr2 (by omega)).mono ?_
      rintro e w3 ⟨v, x, rfl, hb3⟩
      have hbw3 := hb2.trans (hb3.mono hb2.size)
      clear hr2 hb3 hb2
      go_wp2_with fail
      refine (lives_any w3).mono ?_
      rintro e w4 ⟨rfl, hb4⟩
      have hbw4 := hbw3.trans (hb4.mono hbw3.size)
      clear hb4 hbw3
      go_wp2_with fail
      refine (lives_any w4).mono ?_
      rintro e w5 ⟨rfl, hb5⟩
      have hbw5 := hbw4.trans (hb5.mono hbw4.size)
      clear hb5 hbw4
      go_wp2
      go_ret
      exact ⟨rfl, hbw5⟩

theorem pulseLater_walk (w : World) (a : Option Addr) (len cap : Nat) (zs : List Int) (g : Row w .i64 8 a len cap zs) :
    Calls Try.prog 4 #[.slice a len cap] w fun e w' => e = .returned (.bool true) ∧ Below w.heap.size w w' := by
  obtain ⟨_, hr, hle, hcap⟩ := ints_of_row g
  by_cases h : len ≤ 1000
  · exact later_short w a len cap zs hr h
  · exact later_long w a len cap (zs.take 1000) (reads_cut hr (by omega)) (by omega) (by omega)
end Go.Proofs.Yteieghndpkmobaa
