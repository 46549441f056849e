import Derived.Test.YteieghndpkmobaaBackWalk
namespace Go.Proofs.Yteieghndpkmobaa
open Go.RowKit

theorem RAt_any (T b : Nat) (l : List Int) (t : Int) (w : World) (h : IsP w T b l) :
    Calls Try.prog 19 #[.pointer (some ⟨b, 0, none⟩), .int .i64 t] w fun e w' => e = .returned (.int .i64 (at_ l t)) ∧ w = w' := by
  obtain ⟨A, c, B, hB, hr, _⟩ := h
  have hc : w.cell? ⟨b, 0, none⟩ = some (.slice A l.length c) := hB.cell 0
  clear hB
  by_cases h0 : t < 0
  · have E : at_ l t = 0 := by unfold at_; rw [if_neg (by omega)]
    rw [E]
    clear E hr
    go_enter Try.func19, Try.ntmps19
    go_wp2
    go_ret
    exact ⟨rfl, rfl⟩
  · by_cases h1 : t < l.length
    · obtain ⟨k, rfl⟩ : ∃ k : Nat, t = k := ⟨t.toNat, by omega⟩
      have E : at_ l k = l.getD k 0 := by unfold at_; rw [if_pos ⟨by omega, by omega⟩]; rfl
      rw [E]
      obtain ⟨ad, u, rfl, _, hu, hcc⟩ := hr.at_ (k := k) (by omega)
      obtain ⟨_, rfl⟩ := is_at hu
      generalize l.getD k 0 = x at *
      clear E hr hu
      go_enter Try.func19, Try.ntmps19
      go_wp2
      go_ret
      exact ⟨rfl, rfl⟩
    · have E : at_ l t = 0 := by unfold at_; rw [if_neg (by omega)]
      rw [E]
      clear E hr
      go_enter Try.func19, Try.ntmps19
      go_wp2
      go_ret
      exact ⟨rfl, rfl⟩

theorem IsP.drewN {w : World} {T b : Nat} {l : List Int} (h : IsP w T b l) (n : Nat) : IsP (w.drewN n) T b l := by
  obtain ⟨A, c, B, hB, hr, hs⟩ := h
  exact ⟨A, c, B, hB.drewN n, hr.drewN n, hs⟩
theorem quiet_left {P : Program} {f : FuncId} {args : Array Value} {w : World} {n : Nat} {v : Value}
    (h : Calls P f args (w.drewN n) fun e w' => e = .returned v ∧ w.drewN n = w') : Calls P f args (w.drewN n) fun e w'' => e = .returned v ∧ ∃ m, w'' = w.drewN m :=
  h.mono fun _ _ ⟨he, hm⟩ => ⟨he, n, hm.symm⟩

set_option maxRecDepth 100000 in
set_option maxHeartbeats 800000 in
theorem of_core (w : World) (a : Option Addr) (len cap : Nat) (zs : List Int) (t : Int) (hr : Reads w w.heap.size 1 a len (is zs)) (hm : len ≤ 17592186043904) :
    Calls Try.prog 7 #[.slice a len cap, .int .i64 t] w fun e w' => e = .returned (.bool true) ∧ Below w.heap.size w w' := by
  obtain ⟨i0, hi, hz0, hz1, hz2⟩ := info_parts Try.info3
  by_cases h : okCounts zs
  · have OK := Lib.hid h
    have CO := Lib.hid (counts_of h)
    have l1 := h.1
    have l2 := h.2.1
    clear h
    go_enter Try.func7, Try.ntmps7
    go_wp2_with (at_builtin; refine wpList_append_copy rfl (.tmp 10) (.tmp 11) 22 rfl w 3 i0 _ 1 8 Try.underlying22 hi hz0 hz1 hz2 rfl (by decide) rfl a len cap (is zs) rfl hr (is_one zs) (by unfold maxLen; omega) (by omega) ?_; intro A1 c1 w1 hown hr1 hb1)
    have hr1' := (hr.below hb1).more hb1.size
    clear hown hr
    refine (of_yes A1 len c1 zs w1 hr1 OK.out).mono ?_
    rintro e w2 ⟨p, rfl, hp, hb2⟩
    have hr2 := (hr1'.below hb2).more hb2.size
    have hb12 := hb1.trans (hb2.mono hb1.size)
    clear hr1 hr1' hb1 hb2
    go_wp2_with fail
    refine (rof_yes a len cap zs w2 hr2 OK.out).mono ?_
    rintro e w3 ⟨x, rfl, hx, hb3⟩
    have hp3 := hp.below hb3
    have hb13 := hb12.trans (hb3.mono hb12.size)
    clear hr2 hp hb12 hb3
    go_wp2_with fail
    refine (lives_any w3).mono ?_
    rintro e w4 ⟨rfl, hb4⟩
    have hp4 := hp3.below hb4
    have hx4 := hx.below hb4
    have hb14 := hb13.trans (hb4.mono hb13.size)
    clear hp3 hx hb13 hb4
    obtain ⟨A, c, B, hB, hrr, hs⟩ := hx4
    have hc : w4.cell? ⟨x, 0, none⟩ = some (.slice A zs.length c) := hB.cell 0
    have HX : Hid (IsP w4 43 x zs) := Lib.hid ⟨A, c, B, hB, hrr, hs⟩
    have HP := Lib.hid hp4
    clear hB hrr hs hp4
    go_wp2_with fail
    go_quiet ((first
      | (go_at_call 17; exact quiet_left (ticks_yes 58 p zs _ (HP.out.drewN _) l1))
      | (go_at_call 18; exact quiet_left (At_yes 58 p zs t _ (HP.out.drewN _) l1))
      | (go_at_call 19; exact quiet_left (RAt_any 43 x zs t _ (HX.out.drewN _)))
      | (go_at_call 20; exact quiet_left (asks_any p x zs _ _ (HP.out.drewN _) (HX.out.drewN _) l1 l2 CO.out))))
    go_wp2
    go_ret
    exact ⟨rfl, below_drewN hb14 _⟩
  · have NO := Lib.hid h
    clear h
    go_enter Try.func7, Try.ntmps7
    go_wp2_with (at_builtin; refine wpList_append_copy rfl (.tmp 10) (.tmp 11) 22 rfl w 3 i0 _ 1 8 Try.underlying22 hi hz0 hz1 hz2 rfl (by decide) rfl a len cap (is zs) rfl hr (is_one zs) (by unfold maxLen; omega) (by omega) ?_; intro A1 c1 w1 hown hr1 hb1)
    have hr1' := (hr.below hb1).more hb1.size
    clear hown hr
    refine (of_no A1 len c1 zs _ w1 hr1 (by omega) NO.out).mono ?_
    rintro e w2 ⟨rfl, rfl⟩
    go_wp2_with fail
    refine (rof_no a len cap zs _ w1 hr1' NO.out).mono ?_
    rintro e w3 ⟨rfl, rfl⟩
    go_wp2_with fail
    refine (lives_any w1).mono ?_
    rintro e w4 ⟨rfl, hb4⟩
    have hb14 := hb1.trans (hb4.mono hb1.size)
    clear hr1 hr1' hb1 hb4
    go_wp2_with fail
    go_quiet (fail)
    go_wp2
    go_ret
    exact ⟨rfl, below_drewN hb14 _⟩

theorem pulseOf_walk (w : World) (a : Option Addr) (len cap : Nat) (zs : List Int) (g : Row w .i64 8 a len cap zs) (t : Int) (_ : (Lit.int .i64 t).wf = true) :
    Calls Try.prog 7 #[.slice a len cap, .int .i64 t] w fun e w' => e = .returned (.bool true) ∧ Below w.heap.size w w' := by
  obtain ⟨_, hr, hle, hcap⟩ := ints_of_row g
  exact of_core w a len cap zs t hr (by omega)
end Go.Proofs.Yteieghndpkmobaa
