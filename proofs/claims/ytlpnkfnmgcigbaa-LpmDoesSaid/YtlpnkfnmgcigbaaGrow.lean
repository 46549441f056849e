/- walk, growing: a prefix's place, made where it was not. -/
import Derived.Test.YtlpnkfnmgcigbaaWalk
namespace Go.Proofs.Ytlpnkfnmgcigbaa
open Go.RowKit Lp

/-- What walk leaves when it may grow: the trie over more places. -/
structure Grown (w w' : World) (nd nd' : Nd) (L : List Rt) : Prop where
  trie : Trie 57 w' nd' L
  only : Only (Has nd) w w'
  old : ∀ q i b, nd q i = some b → nd' q i = some b
  new : ∀ k, Has nd' k → Has nd k ∨ w.heap.size ≤ k
theorem Grown.refl {w : World} {nd : Nd} {L : List Rt} (h : Trie 57 w nd L) : Grown w w nd nd L := ⟨h, Only.refl _ _, fun _ _ _ e => e, fun _ h => .inl h⟩
theorem Grown.drewN {w w' : World} {nd nd' : Nd} {L : List Rt} (h : Grown w w' nd nd' L) (n : Nat) : Grown w (w'.drewN n) nd nd' L :=
  ⟨h.trie.drewN n, ⟨h.only.os, h.only.tape, h.only.output, h.only.size, h.only.block⟩, h.old, h.new⟩
theorem Grown.more {w W : World} {nd nd' : Nd} {L : List Rt} (h : Grown w W nd nd' L) {p i a c : Nat} (hb : bit p i = c) (e : nd' (top p i) i = some a) (hi : i < 32) (hn : nd' (top p (i + 1)) (i + 1) = none) :
    Grown w ((W.alloc (.cells #[.bool false, .int .i64 0, .pointer none, .pointer none] 57)).setCell ⟨a, 2 + c, none⟩ (ptr (some W.heap.size))) nd (upd nd' (top p (i + 1)) (i + 1) W.heap.size) L := by
  have hs : son (top p i) i c = top p (i + 1) := by rw [← hb]; exact (top_succ p i hi).symm
  have hc : c < 2 := by have := bit_lt p i; omega
  rw [← hs] at hn ⊢
  refine ⟨h.trie.grow e hi hc hn, ?_, ?_, ?_⟩
  · refine (h.only.alloc _).setCell (fun hlt => ?_) _
    rcases h.new a ⟨_, _, e⟩ with h1 | h1
    · exact h1
    · simp at hlt; omega
  · intro q j b hq
    have := h.old q j b hq
    unfold upd
    rw [if_neg]
    · exact this
    · rintro ⟨rfl, rfl⟩
      rw [hn] at this; cases this
  · rintro k ⟨q, j, hk⟩
    unfold upd at hk
    split at hk
    · cases hk; exact .inr h.only.size
    · exact h.new k ⟨q, j, hk⟩
theorem upd_at (nd : Nd) (q i g : Nat) : upd nd q i g q i = some g := by unfold upd; rw [if_pos ⟨rfl, rfl⟩]

set_option maxRecDepth 1000000 in
set_option maxHeartbeats 4000000 in
theorem walk_grow (t p k : Nat) (nd : Nd) (L : List Rt) (w : World) (h : Tab w t nd L) (hk : Ok p k) :
    Calls Try.prog 27 #[.pointer (some ⟨t, 0, none⟩), .int .u32 p, .int .i64 k, .bool true] w fun e w' => ∃ nd' b, e = .returned (.pointer (some ⟨b, 0, none⟩)) ∧ nd' p k = some b ∧ Grown w w' nd nd' L := by
  have hT := h.trie
  have ht := h.tab.cell 0
  simp only [List.getElem?_toArray, List.getElem?_cons_zero] at ht
  obtain ⟨rb, hrb⟩ := hT.root
  have hp : p < 4294967296 := hk.2.1
  have hk32 := hk.1
  have h0 : top p 0 = 0 := top_zero hp
  have hkt : top p k = p := top_of_dvd hk.2.2
  have HT := Lib.hid hT
  have HKT := Lib.hid hkt
  have H0 := Lib.hid h0
  have HRB := Lib.hid hrb
  rw [ptr_some hrb] at ht
  clear hT h hk hkt h0 hrb
  go_enter Try.func27, Try.ntmps27
  go_wp2
  refine wp_scope_jumps 0 (fun a' w' => ∃ (i b : Nat) (nd' : Nd) (u8 u11 u12 u13 u14 u15 u16 u17 u18 u19 u20 u21 u22 u23 u24 u25 u26 u27 u28 u29 u30 u31 u32 u33 u34 u35 u36 u37 u38 u39 u40 u41 u42 u43 u44 u45 u46 : Value), Hid (nd' (top p i) i = some b ∧ Grown w w' nd nd' L) ∧ a' = { tmps := #[.pointer (some ⟨t, 0, none⟩), .int .u32 p, .int .i64 k, .bool true, undef, undef, undef, undef, u8, .pointer (some ⟨b, 0, none⟩), .int .i64 i, u11, u12, u13, u14, u15, u16, u17, u18, u19, u20, u21, u22, u23, u24, u25, u26, u27, u28, u29, u30, u31, u32, u33, u34, u35, u36, u37, u38, u39, u40, u41, u42, u43, u44, u45, u46], defers := [] } ∧ i ≤ k) (fun a' _ => (k - (intOf (a'.tmps.getD 10 undef)).toNat)) rfl ?_ ?_
  · by_cases hk0 : k = 0
    · subst hk0
      go_wp2
      go_step3
      go_wp2
      simp only [Exit.jump]
      go_ret
      have e := HKT.out
      rw [H0.out] at e
      exact ⟨nd, rb, rfl, by rw [← e]; exact HRB.out, Grown.refl HT.out⟩
    · have ha : nd (top p 0) 0 = some rb := by rw [H0.out]; exact HRB.out
      have hkp : 0 < k := by omega
      have hlt : 0 < 32 := by omega
      rcases HT.out.down ha hlt with ⟨hb0, kid⟩ | ⟨hb0, kid⟩
      · have BA := Lib.hid (bit_is p 0 0 hb0 hp hlt 0 rfl 0 rfl)
        have HB := Lib.hid hb0
        have AE := Lib.hid ha
        have fz : ∀ n : Nat, ((w.drewN n).alloc (.cells #[.bool false, .int .i64 0, .pointer none, .pointer none] 57)).frozen? ⟨rb, 2, none⟩ = false := fun n => (((HT.out.blk _ _ _ ha).drewN n).alloc _).frozen 2
        have bl : rb < w.heap.size := (HT.out.blk _ _ _ ha).lt
        clear hb0
        cases hn : nd (top p (0 + 1)) (0 + 1) with
        | none =>
          rw [ptr_none hn] at kid
          have HN := Lib.hid hn
          have kidA : ∀ n : Nat, ((w.drewN n).alloc (.cells #[.bool false, .int .i64 0, .pointer none, .pointer none] 57)).cell? ⟨rb, 2, none⟩ = some (.pointer none) := fun n => (World.cell?_alloc_lt (w.drewN n) _ _ bl).trans kid
          clear hn
          clear ha
          go_wp2
          go_step3
          go_wp2
          go_quiet ((go_at_call 28; exact quiet_left (BA.out _)))
          go_wp2
          go_step3
          exact ⟨rfl, 0 + 1, _, _, _, _, _, _, _, _, _, _, _, _, _, _, _, _, _, _, _, _, _, _, _, _, _, _, _, _, _, _, _, _, _, _, _, _, _, _, _, Lib.hid ⟨upd_at _ _ _ _, (Grown.drewN (Grown.refl HT.out) _).more HB.out AE.out hlt HN.out⟩, rfl, by omega⟩

        | some b2 =>
          rw [ptr_some hn] at kid
          have HN := Lib.hid hn
          clear hn
          clear ha
          go_wp2
          go_step3
          go_wp2
          go_quiet ((go_at_call 28; exact quiet_left (BA.out _)))
          go_wp2
          go_step3
          exact ⟨rfl, 0 + 1, _, nd, _, _, _, _, _, _, _, _, _, _, _, _, _, _, _, _, _, _, _, _, _, _, _, _, _, _, _, _, _, _, _, _, _, _, _, _, _, Lib.hid ⟨HN.out, Grown.drewN (Grown.refl HT.out) _⟩, rfl, by omega⟩

      · have BA := Lib.hid (bit_is p 0 1 hb0 hp hlt 0 rfl 1 rfl)
        have HB := Lib.hid hb0
        have AE := Lib.hid ha
        have fz : ∀ n : Nat, ((w.drewN n).alloc (.cells #[.bool false, .int .i64 0, .pointer none, .pointer none] 57)).frozen? ⟨rb, 3, none⟩ = false := fun n => (((HT.out.blk _ _ _ ha).drewN n).alloc _).frozen 3
        have bl : rb < w.heap.size := (HT.out.blk _ _ _ ha).lt
        clear hb0
        cases hn : nd (top p (0 + 1)) (0 + 1) with
        | none =>
          rw [ptr_none hn] at kid
          have HN := Lib.hid hn
          have kidA : ∀ n : Nat, ((w.drewN n).alloc (.cells #[.bool false, .int .i64 0, .pointer none, .pointer none] 57)).cell? ⟨rb, 3, none⟩ = some (.pointer none) := fun n => (World.cell?_alloc_lt (w.drewN n) _ _ bl).trans kid
          clear hn
          clear ha
          go_wp2
          go_step3
          go_wp2
          go_quiet ((go_at_call 28; exact quiet_left (BA.out _)))
          go_wp2
          go_step3
          exact ⟨rfl, 0 + 1, _, _, _, _, _, _, _, _, _, _, _, _, _, _, _, _, _, _, _, _, _, _, _, _, _, _, _, _, _, _, _, _, _, _, _, _, _, _, _, Lib.hid ⟨upd_at _ _ _ _, (Grown.drewN (Grown.refl HT.out) _).more HB.out AE.out hlt HN.out⟩, rfl, by omega⟩

        | some b2 =>
          rw [ptr_some hn] at kid
          have HN := Lib.hid hn
          clear hn
          clear ha
          go_wp2
          go_step3
          go_wp2
          go_quiet ((go_at_call 28; exact quiet_left (BA.out _)))
          go_wp2
          go_step3
          exact ⟨rfl, 0 + 1, _, nd, _, _, _, _, _, _, _, _, _, _, _, _, _, _, _, _, _, _, _, _, _, _, _, _, _, _, _, _, _, _, _, _, _, _, _, _, _, Lib.hid ⟨HN.out, Grown.drewN (Grown.refl HT.out) _⟩, rfl, by omega⟩


  · rintro a' W ⟨i, b, nd', u8, u11, u12, u13, u14, u15, u16, u17, u18, u19, u20, u21, u22, u23, u24, u25, u26, u27, u28, u29, u30, u31, u32, u33, u34, u35, u36, u37, u38, u39, u40, u41, u42, u43, u44, u45, u46, hst, rfl, hi⟩
    have HG := Lib.hid hst.out.2
    have HTW := Lib.hid hst.out.2.trie
    have hn0 := hst.out.1
    clear hst HT
    have HT := HTW
    clear HTW
    by_cases hik : i = k
    · subst hik
      have HE : Hid (nd' p i = some b) := Lib.hid (by have e := hn0; rw [HKT.out] at e; exact e)
      clear hn0
      go_wp2
      simp only [Exit.jump]
      go_ret
      exact ⟨nd', b, rfl, HE.out, HG.out⟩
    · have hik' : i < k := by omega
      have hlt : i < 32 := by omega
      rcases HT.out.down hn0 hlt with ⟨hb0, kid⟩ | ⟨hb0, kid⟩
      · have BA := Lib.hid (bit_is p i 0 hb0 hp hlt i rfl 0 rfl)
        have HB := Lib.hid hb0
        have AE := Lib.hid hn0
        have fz : ∀ n : Nat, ((W.drewN n).alloc (.cells #[.bool false, .int .i64 0, .pointer none, .pointer none] 57)).frozen? ⟨b, 2, none⟩ = false := fun n => (((HT.out.blk _ _ _ hn0).drewN n).alloc _).frozen 2
        have bl : b < W.heap.size := (HT.out.blk _ _ _ hn0).lt
        clear hb0
        cases hn : nd' (top p (i + 1)) (i + 1) with
        | none =>
          rw [ptr_none hn] at kid
          have HN := Lib.hid hn
          have kidA : ∀ n : Nat, ((W.drewN n).alloc (.cells #[.bool false, .int .i64 0, .pointer none, .pointer none] 57)).cell? ⟨b, 2, none⟩ = some (.pointer none) := fun n => (World.cell?_alloc_lt (W.drewN n) _ _ bl).trans kid
          clear hn
          clear hn0
          go_wp2
          go_quiet ((go_at_call 28; exact quiet_left (BA.out _)))
          go_wp2
          go_step3
          refine ⟨rfl, ⟨i + 1, _, _, _, _, _, _, _, _, _, _, _, _, _, _, _, _, _, _, _, _, _, _, _, _, _, _, _, _, _, _, _, _, _, _, _, _, _, _, _, Lib.hid ⟨upd_at _ _ _ _, (Grown.drewN HG.out _).more HB.out AE.out hlt HN.out⟩, rfl, by omega⟩, ?_⟩
          simp [intOf]; omega

        | some b2 =>
          rw [ptr_some hn] at kid
          have HN := Lib.hid hn
          clear hn
          clear hn0
          go_wp2
          go_quiet ((go_at_call 28; exact quiet_left (BA.out _)))
          go_wp2
          go_step3
          refine ⟨rfl, ⟨i + 1, _, nd', _, _, _, _, _, _, _, _, _, _, _, _, _, _, _, _, _, _, _, _, _, _, _, _, _, _, _, _, _, _, _, _, _, _, _, _, _, Lib.hid ⟨HN.out, Grown.drewN HG.out _⟩, rfl, by omega⟩, ?_⟩
          simp [intOf]; omega

      · have BA := Lib.hid (bit_is p i 1 hb0 hp hlt i rfl 1 rfl)
        have HB := Lib.hid hb0
        have AE := Lib.hid hn0
        have fz : ∀ n : Nat, ((W.drewN n).alloc (.cells #[.bool false, .int .i64 0, .pointer none, .pointer none] 57)).frozen? ⟨b, 3, none⟩ = false := fun n => (((HT.out.blk _ _ _ hn0).drewN n).alloc _).frozen 3
        have bl : b < W.heap.size := (HT.out.blk _ _ _ hn0).lt
        clear hb0
        cases hn : nd' (top p (i + 1)) (i + 1) with
        | none =>
          rw [ptr_none hn] at kid
          have HN := Lib.hid hn
          have kidA : ∀ n : Nat, ((W.drewN n).alloc (.cells #[.bool false, .int .i64 0, .pointer none, .pointer none] 57)).cell? ⟨b, 3, none⟩ = some (.pointer none) := fun n => (World.cell?_alloc_lt (W.drewN n) _ _ bl).trans kid
          clear hn
          clear hn0
          go_wp2
          go_quiet ((go_at_call 28; exact quiet_left (BA.out _)))
          go_wp2
          go_step3
          refine ⟨rfl, ⟨i + 1, _, _, _, _, _, _, _, _, _, _, _, _, _, _, _, _, _, _, _, _, _, _, _, _, _, _, _, _, _, _, _, _, _, _, _, _, _, _, _, Lib.hid ⟨upd_at _ _ _ _, (Grown.drewN HG.out _).more HB.out AE.out hlt HN.out⟩, rfl, by omega⟩, ?_⟩
          simp [intOf]; omega

        | some b2 =>
          rw [ptr_some hn] at kid
          have HN := Lib.hid hn
          clear hn
          clear hn0
          go_wp2
          go_quiet ((go_at_call 28; exact quiet_left (BA.out _)))
          go_wp2
          go_step3
          refine ⟨rfl, ⟨i + 1, _, nd', _, _, _, _, _, _, _, _, _, _, _, _, _, _, _, _, _, _, _, _, _, _, _, _, _, _, _, _, _, _, _, _, _, _, _, _, _, Lib.hid ⟨HN.out, Grown.drewN HG.out _⟩, rfl, by omega⟩, ?_⟩
          simp [intOf]; omega


end Go.Proofs.Ytlpnkfnmgcigbaa
