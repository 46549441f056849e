/- walk: a prefix's place. -/
import Derived.Test.YtlpnkfnmgcigbaaBits
namespace Go.Proofs.Ytlpnkfnmgcigbaa
open Go.RowKit Lp

/-- A table's block t: its root, its number of prefixes; and the trie. -/
structure Tab (w : World) (t : Nat) (nd : Nd) (L : List Rt) : Prop where
  tab : Blk w t 59 #[ptr (nd 0 0), .int .i64 L.length]
  trie : Trie 57 w nd L
  ne : ¬ Has nd t

theorem Trie.down {T : TypeId} {w : World} {nd : Nd} {L : List Rt} (h : Trie T w nd L) {p i b : Nat} (e : nd (top p i) i = some b) (hi : i < 32) :
    (bit p i = 0 ∧ w.cell? ⟨b, 2, none⟩ = some (ptr (nd (top p (i + 1)) (i + 1)))) ∨ (bit p i = 1 ∧ w.cell? ⟨b, 3, none⟩ = some (ptr (nd (top p (i + 1)) (i + 1)))) := by
  have hs : son (top p i) i (bit p i) = top p (i + 1) := (top_succ p i hi).symm
  rcases bit_lt p i with hb | hb
  · have := h.kid e (c := 0) (by omega)
    rw [← hb, hs, hb] at this
    exact .inl ⟨hb, this⟩
  · have := h.kid e (c := 1) (by omega)
    rw [← hb, hs, hb] at this
    exact .inr ⟨hb, this⟩
theorem bit_is (x i c : Nat) (h : bit x i = c) (hx : x < 4294967296) (hi : i < 32) (j : Int) (hj : j = i) (cc : Int) (hc : cc = c) (w : World) : Calls Try.prog 28 #[.int .u32 x, .int .i64 j] w fun e w' => e = .returned (.int .u32 cc) ∧ w = w' := by
  subst h hj hc; exact bit_any x i hx hi w
theorem ptr_none {o : Option Nat} (h : o = none) : ptr o = .pointer none := by rw [h]; rfl
theorem ptr_some {o : Option Nat} {b : Nat} (h : o = some b) : ptr o = .pointer (some ⟨b, 0, none⟩) := by rw [h]; rfl

theorem quiet_left {P : Program} {f : FuncId} {args : Array Value} {w : World} {n : Nat} {v : Value}
    (h : Calls P f args (w.drewN n) fun e w' => e = .returned v ∧ w.drewN n = w') : Calls P f args (w.drewN n) fun e w' => e = .returned v ∧ ∃ m, w' = w.drewN m :=
  h.mono fun _ _ ⟨he, hw⟩ => ⟨he, n, hw.symm⟩

theorem Trie.drewN {T : TypeId} {w : World} {nd : Nd} {L : List Rt} (h : Trie T w nd L) (n : Nat) : Trie T (w.drewN n) nd L := h.keep fun _ _ => rfl
/-- Only the tape moved. -/
def Drew (w w' : World) : Prop := ∃ n, w' = w.drewN n
theorem drew_drew (w : World) (n m : Nat) : ∃ k, (w.drewN n).drewN m = w.drewN k := ⟨_, World.drewN_drewN w n m⟩
theorem Drew.refl (w : World) : Drew w w := ⟨0, rfl⟩
theorem Drew.more {w w' : World} (h : Drew w w') (n : Nat) : Drew w (w'.drewN n) := by
  obtain ⟨m, rfl⟩ := h; exact drew_drew w m n
theorem Drew.trie {T : TypeId} {w w' : World} {nd : Nd} {L : List Rt} (h : Drew w w') (hT : Trie T w nd L) : Trie T w' nd L := by
  obtain ⟨m, rfl⟩ := h; exact hT.drewN m
theorem Drew.trans {w w1 w2 : World} (h : Drew w w1) (h' : Drew w1 w2) : Drew w w2 := by
  obtain ⟨m, rfl⟩ := h'; exact h.more m
theorem Drew.same {w w' : World} (h : Drew w w') : w'.heap = w.heap := by obtain ⟨m, rfl⟩ := h; rfl
theorem Drew.cell {w w' : World} (h : Drew w w') (a : Addr) : w'.cell? a = w.cell? a := by obtain ⟨m, rfl⟩ := h; rfl
theorem Drew.below {w w' : World} (h : Drew w w') (B : Nat) : Below B w w' := by obtain ⟨m, rfl⟩ := h; exact below_drewN (Below.refl B w) m
set_option maxRecDepth 1000000 in
set_option maxHeartbeats 4000000 in
theorem walk_get (t p k : Nat) (nd : Nd) (L : List Rt) (w : World) (h : Tab w t nd L) (hk : Ok p k) :
    Calls Try.prog 27 #[.pointer (some ⟨t, 0, none⟩), .int .u32 p, .int .i64 k, .bool false] w fun e w' => e = .returned (ptr (nd p k)) ∧ Drew w w' := by
  have hT := h.trie
  have ht := h.tab.cell 0
  simp only [List.getElem?_toArray, List.getElem?_cons_zero] at ht
  obtain ⟨rb, hrb⟩ := hT.root
  have hp : p < 4294967296 := hk.2.1
  have hk32 := hk.1
  have h0 : top p 0 = 0 := top_zero hp
  have hkt : top p k = p := top_of_dvd hk.2.2
  have HT := Lib.hid hT
  have HKT := Lib.hid hkt
  have H0 := Lib.hid h0
  have HRB := Lib.hid hrb
  rw [ptr_some hrb] at ht
  clear hT h hk hkt h0 hrb
  go_enter Try.func27, Try.ntmps27
  go_wp2
  refine wp_scope_jumps 0 (fun a' w' => Drew w w' ∧ ∃ (i : Nat) (av : Value) (u8 u11 u12 u13 u14 u15 u16 u17 u18 u19 u20 u21 u22 u23 u24 u25 u26 u27 u28 u29 u30 u31 u32 u33 u34 u35 u36 u37 u38 u39 u40 u41 u42 u43 u44 u45 u46 : Value), a' = { tmps := #[.pointer (some ⟨t, 0, none⟩), .int .u32 p, .int .i64 k, .bool false, undef, undef, undef, undef, u8, av, .int .i64 i, u11, u12, u13, u14, u15, u16, u17, u18, u19, u20, u21, u22, u23, u24, u25, u26, u27, u28, u29, u30, u31, u32, u33, u34, u35, u36, u37, u38, u39, u40, u41, u42, u43, u44, u45, u46], defers := [] } ∧ av = ptr (nd (top p i) i) ∧ i ≤ k) (fun a' _ => (k - (intOf (a'.tmps.getD 10 undef)).toNat)) rfl ?_ ?_
  · by_cases hk0 : k = 0
    · subst hk0
      go_wp2
      go_step3
      go_wp2
      simp only [Exit.jump]
      go_ret
      have e := HKT.out
      rw [H0.out] at e
      exact ⟨congrArg Ending.returned (by rw [← e]; exact (ptr_some HRB.out).symm), Drew.refl _⟩
    · have ha : nd (top p 0) 0 = some rb := by rw [H0.out]; exact HRB.out
      have hkp : 0 < k := by omega
      have hlt : 0 < 32 := by omega
      rcases HT.out.down ha hlt with ⟨hb0, kid⟩ | ⟨hb0, kid⟩
      · have BA := Lib.hid (bit_is p 0 0 hb0 hp hlt 0 rfl 0 rfl)
        clear hb0
        cases hn : nd (top p (0 + 1)) (0 + 1) with
        | none =>
          rw [ptr_none hn] at kid
          have HN := Lib.hid hn
          clear hn
          clear ha
          go_wp2
          go_step3
          go_wp2
          go_quiet ((go_at_call 28; exact quiet_left (BA.out _)))
          go_wp2
          go_step3
          exact ⟨rfl, ⟨_, rfl⟩, 0 + 1, _, _, _, _, _, _, _, _, _, _, _, _, _, _, _, _, _, _, _, _, _, _, _, _, _, _, _, _, _, _, _, _, _, _, _, _, _, _, rfl, (ptr_none HN.out).symm, by omega⟩
        | some b2 =>
          rw [ptr_some hn] at kid
          have HN := Lib.hid hn
          clear hn
          clear ha
          go_wp2
          go_step3
          go_wp2
          go_quiet ((go_at_call 28; exact quiet_left (BA.out _)))
          go_wp2
          go_step3
          exact ⟨rfl, ⟨_, rfl⟩, 0 + 1, _, _, _, _, _, _, _, _, _, _, _, _, _, _, _, _, _, _, _, _, _, _, _, _, _, _, _, _, _, _, _, _, _, _, _, _, _, _, rfl, (ptr_some HN.out).symm, by omega⟩
      · have BA := Lib.hid (bit_is p 0 1 hb0 hp hlt 0 rfl 1 rfl)
        clear hb0
        cases hn : nd (top p (0 + 1)) (0 + 1) with
        | none =>
          rw [ptr_none hn] at kid
          have HN := Lib.hid hn
          clear hn
          clear ha
          go_wp2
          go_step3
          go_wp2
          go_quiet ((go_at_call 28; exact quiet_left (BA.out _)))
          go_wp2
          go_step3
          exact ⟨rfl, ⟨_, rfl⟩, 0 + 1, _, _, _, _, _, _, _, _, _, _, _, _, _, _, _, _, _, _, _, _, _, _, _, _, _, _, _, _, _, _, _, _, _, _, _, _, _, _, rfl, (ptr_none HN.out).symm, by omega⟩
        | some b2 =>
          rw [ptr_some hn] at kid
          have HN := Lib.hid hn
          clear hn
          clear ha
          go_wp2
          go_step3
          go_wp2
          go_quiet ((go_at_call 28; exact quiet_left (BA.out _)))
          go_wp2
          go_step3
          exact ⟨rfl, ⟨_, rfl⟩, 0 + 1, _, _, _, _, _, _, _, _, _, _, _, _, _, _, _, _, _, _, _, _, _, _, _, _, _, _, _, _, _, _, _, _, _, _, _, _, _, _, rfl, (ptr_some HN.out).symm, by omega⟩

  · rintro a' W ⟨hW, i, av, u8, u11, u12, u13, u14, u15, u16, u17, u18, u19, u20, u21, u22, u23, u24, u25, u26, u27, u28, u29, u30, u31, u32, u33, u34, u35, u36, u37, u38, u39, u40, u41, u42, u43, u44, u45, u46, rfl, hav, hi⟩
    have HW := Lib.hid hW
    have HTW := Lib.hid (hW.trie HT.out)
    clear hW HT
    have HT := HTW
    clear HTW
    cases hn0 : nd (top p i) i with
    | none =>
      rw [ptr_none hn0] at hav
      subst hav
      have HE : Hid (nd p k = none) := Lib.hid (by
        have e := HT.out.none_more hn0 k hi hk32
        rw [HKT.out] at e
        exact e)
      clear hn0
      go_wp2
      simp only [Exit.jump]
      go_ret
      exact ⟨congrArg Ending.returned (ptr_none HE.out).symm, HW.out⟩
    | some b =>
      rw [ptr_some hn0] at hav
      subst hav
      by_cases hik : i = k
      · subst hik
        have HE : Hid (nd p i = some b) := Lib.hid (by have e := hn0; rw [HKT.out] at e; exact e)
        clear hn0
        go_wp2
        simp only [Exit.jump]
        go_ret
        exact ⟨congrArg Ending.returned (ptr_some HE.out).symm, HW.out⟩
      · have hik' : i < k := by omega
        have hlt : i < 32 := by omega
        rcases HT.out.down hn0 hlt with ⟨hb0, kid⟩ | ⟨hb0, kid⟩
        · have BA := Lib.hid (bit_is p i 0 hb0 hp hlt i rfl 0 rfl)
          clear hb0
          cases hn : nd (top p (i + 1)) (i + 1) with
          | none =>
            rw [ptr_none hn] at kid
            have HN := Lib.hid hn
            clear hn
            clear hn0
            go_wp2
            go_quiet ((go_at_call 28; exact quiet_left (BA.out _)))
            go_wp2
            go_step3
            refine ⟨rfl, ⟨HW.out.more _, i + 1, _, _, _, _, _, _, _, _, _, _, _, _, _, _, _, _, _, _, _, _, _, _, _, _, _, _, _, _, _, _, _, _, _, _, _, _, _, _, rfl, (ptr_none HN.out).symm, by omega⟩, ?_⟩
            simp [intOf]; omega
          | some b2 =>
            rw [ptr_some hn] at kid
            have HN := Lib.hid hn
            clear hn
            clear hn0
            go_wp2
            go_quiet ((go_at_call 28; exact quiet_left (BA.out _)))
            go_wp2
            go_step3
            refine ⟨rfl, ⟨HW.out.more _, i + 1, _, _, _, _, _, _, _, _, _, _, _, _, _, _, _, _, _, _, _, _, _, _, _, _, _, _, _, _, _, _, _, _, _, _, _, _, _, _, rfl, (ptr_some HN.out).symm, by omega⟩, ?_⟩
            simp [intOf]; omega
        · have BA := Lib.hid (bit_is p i 1 hb0 hp hlt i rfl 1 rfl)
          clear hb0
          cases hn : nd (top p (i + 1)) (i + 1) with
          | none =>
            rw [ptr_none hn] at kid
            have HN := Lib.hid hn
            clear hn
            clear hn0
            go_wp2
            go_quiet ((go_at_call 28; exact quiet_left (BA.out _)))
            go_wp2
            go_step3
            refine ⟨rfl, ⟨HW.out.more _, i + 1, _, _, _, _, _, _, _, _, _, _, _, _, _, _, _, _, _, _, _, _, _, _, _, _, _, _, _, _, _, _, _, _, _, _, _, _, _, _, rfl, (ptr_none HN.out).symm, by omega⟩, ?_⟩
            simp [intOf]; omega
          | some b2 =>
            rw [ptr_some hn] at kid
            have HN := Lib.hid hn
            clear hn
            clear hn0
            go_wp2
            go_quiet ((go_at_call 28; exact quiet_left (BA.out _)))
            go_wp2
            go_step3
            refine ⟨rfl, ⟨HW.out.more _, i + 1, _, _, _, _, _, _, _, _, _, _, _, _, _, _, _, _, _, _, _, _, _, _, _, _, _, _, _, _, _, _, _, _, _, _, _, _, _, _, rfl, (ptr_some HN.out).symm, by omega⟩, ?_⟩
            simp [intOf]; omega

end Go.Proofs.Ytlpnkfnmgcigbaa
