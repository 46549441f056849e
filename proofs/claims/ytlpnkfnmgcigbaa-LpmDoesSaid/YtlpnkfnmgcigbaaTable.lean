/- The table: New, made, Add, Remove, Get, Len. -/
import Derived.Test.YtlpnkfnmgcigbaaGrow
namespace Go.Proofs.Ytlpnkfnmgcigbaa
open Go.RowKit Lp

/-- The blocks of a table. -/
def Mine (nd : Nd) (t : Nat) (k : Nat) : Prop := k = t ∨ Has nd k

theorem Tab.lt {w : World} {t : Nat} {nd : Nd} {L : List Rt} (h : Tab w t nd L) {k : Nat} (hk : Mine nd t k) : k < w.heap.size := by
  rcases hk with rfl | hk
  · exact h.tab.lt
  · exact h.trie.lt hk
theorem Tab.keep {w w' : World} {t : Nat} {nd : Nd} {L : List Rt} (h : Tab w t nd L) (hk : ∀ k, Mine nd t k → w'.heap[k]? = w.heap[k]?) : Tab w' t nd L :=
  ⟨(hk t (.inl rfl)).trans h.tab, h.trie.keep fun k e => hk k (.inr e), h.ne⟩
theorem Tab.drewN {w : World} {t : Nat} {nd : Nd} {L : List Rt} (h : Tab w t nd L) (n : Nat) : Tab (w.drewN n) t nd L := h.keep fun _ _ => rfl
theorem Tab.drewn {w w' : World} {t : Nat} {nd : Nd} {L : List Rt} (h : Tab w t nd L) (hd : Drew w w') : Tab w' t nd L := by obtain ⟨n, rfl⟩ := hd; exact h.drewN n
theorem Tab.below {w w' : World} {t : Nat} {nd : Nd} {L : List Rt} (h : Tab w t nd L) (hb : Below w.heap.size w w') : Tab w' t nd L := h.keep fun k hk => hb.block k (h.lt hk)

/-- What a call of a table leaves. -/
structure Next (w w' : World) (t : Nat) (nd nd' : Nd) (L' : List Rt) : Prop where
  tab : Tab w' t nd' L'
  only : Only (Mine nd t) w w'
  new : ∀ k, Mine nd' t k → Mine nd t k ∨ w.heap.size ≤ k

theorem Next.refl {w : World} {t : Nat} {nd : Nd} {L : List Rt} (h : Tab w t nd L) : Next w w t nd nd L := ⟨h, Only.refl _ _, fun _ hk => .inl hk⟩

theorem made_yes (t : Nat) (nd : Nd) (L : List Rt) (w : World) (h : Tab w t nd L) : Calls Try.prog 25 #[.pointer (some ⟨t, 0, none⟩)] w fun e w' => e = .returned (.bool true) ∧ w = w' := by
  have ht := h.tab.cell 0
  simp only [List.getElem?_toArray, List.getElem?_cons_zero] at ht
  obtain ⟨rb, hrb⟩ := h.trie.root
  rw [ptr_some hrb] at ht
  clear h hrb
  go_enter Try.func25, Try.ntmps25
  go_wp2
  go_ret
  exact ⟨rfl, rfl⟩
theorem made_no (w : World) : Calls Try.prog 25 #[.pointer none] w fun e w' => e = .returned (.bool false) ∧ w = w' := by
  go_enter Try.func25, Try.ntmps25
  go_wp2
  go_ret
  exact ⟨rfl, rfl⟩

def nd0 (g : Nat) : Nd := fun q i => if q = 0 ∧ i = 0 then some g else none
theorem trie_new (w : World) : Trie 57 (w.alloc (.cells #[.bool false, .int .i64 0, .pointer none, .pointer none] 57)) (nd0 w.heap.size) [] := by
  have key : ∀ q i b, nd0 w.heap.size q i = some b → q = 0 ∧ i = 0 ∧ b = w.heap.size := by
    intro q i b h
    unfold nd0 at h
    split at h
    · rename_i c; exact ⟨c.1, c.2, (Option.some.inj h).symm⟩
    · cases h
  refine ⟨List.Pairwise.nil, fun r hr => (by cases hr), ⟨w.heap.size, rfl⟩, ?_, ?_, ?_, ?_, fun r hr => (by cases hr)⟩
  · intro q i b h
    obtain ⟨rfl, rfl, rfl⟩ := key q i b h
    exact Blk.new _ _ _
  · intro q i q' i' b h h'
    obtain ⟨rfl, rfl, _⟩ := key q i b h
    obtain ⟨rfl, rfl, _⟩ := key q' i' b h'
    exact ⟨rfl, rfl⟩
  · intro q i b h
    obtain ⟨rfl, rfl, _⟩ := key q i b h
    exact ⟨by omega, by omega, by omega⟩
  · intro q i b h
    have := (key q _ b h).2.1
    omega
theorem tab_new (w : World) : Tab ((w.alloc (.cells #[.bool false, .int .i64 0, .pointer none, .pointer none] 57)).alloc (.cells #[.pointer (some ⟨w.heap.size, 0, none⟩), .int .i64 0] 59)) (w.heap.size + 1) (nd0 w.heap.size) [] := by
  refine ⟨?_, (trie_new w).keep fun k hk => Below.heap_alloc _ _ _ ((trie_new w).lt hk), ?_⟩
  · have := Blk.new (w.alloc (.cells #[.bool false, .int .i64 0, .pointer none, .pointer none] 57)) 59 #[.pointer (some ⟨w.heap.size, 0, none⟩), .int .i64 0]
    have e : ptr (nd0 w.heap.size 0 0) = .pointer (some ⟨w.heap.size, 0, none⟩) := rfl
    rw [e]
    simpa using this
  · rintro ⟨q, i, h⟩
    unfold nd0 at h
    split at h
    · have := Option.some.inj h; omega
    · cases h
theorem mine_new {w : World} {k : Nat} (h : Mine (nd0 w.heap.size) (w.heap.size + 1) k) : w.heap.size ≤ k := by
  rcases h with rfl | ⟨q, i, h⟩
  · omega
  · unfold nd0 at h
    split at h
    · have := Option.some.inj h; omega
    · cases h

theorem new_any (w : World) : Calls Try.prog 8 #[] w fun e w' => ∃ t nd, e = .returned (.pointer (some ⟨t, 0, none⟩)) ∧ Tab w' t nd [] ∧ Below w.heap.size w w' ∧ ∀ k, Mine nd t k → w.heap.size ≤ k := by
  have HT := Lib.hid (tab_new w)
  go_enter Try.func8, Try.ntmps8
  go_wp2
  go_ret
  exact ⟨_, _, rfl, HT.out, ((Below.refl _ _).alloc (Nat.le_refl _) _).alloc (by simp) _, fun _ hk => mine_new hk⟩

theorem len_yes (t : Nat) (nd : Nd) (L : List Rt) (w : World) (h : Tab w t nd L) : Calls Try.prog 17 #[.pointer (some ⟨t, 0, none⟩)] w fun e w' => e = .returned (.int .i64 L.length) ∧ w = w' := by
  have ht := h.tab.cell 1
  have MD := Lib.hid (made_yes t nd L w h)
  clear h
  go_enter Try.func17, Try.ntmps17
  go_wp2_with (go_at_call 25; refine MD.out.mono ?_; rintro e w' ⟨rfl, rfl⟩)
  go_ret
  exact ⟨rfl, rfl⟩
theorem len_no (w : World) : Calls Try.prog 17 #[.pointer none] w fun e w' => e = .returned (.int .i64 0) ∧ w = w' := by
  go_enter Try.func17, Try.ntmps17
  go_wp2_with (go_at_call 25; refine (made_no _).mono ?_; rintro e w' ⟨rfl, rfl⟩)
  go_ret
  exact ⟨rfl, rfl⟩

/-- Add's answer, and what it leaves. -/
def addC (L : List Rt) (p : Nat) (n : Int) : Int := if rightN p n = true then (if (lkp L p n.toNat).isSome then 5 else 0) else 1
def addL (L : List Rt) (p : Nat) (n v : Int) : List Rt := if addC L p n = 0 then ins L ⟨p, n.toNat, v⟩ else L
theorem addL_length (L : List Rt) (p : Nat) (n v : Int) : (addL L p n v).length ≤ L.length + 1 := by
  unfold addL; split
  · rw [length_ins]; omega
  · omega

theorem Tab.put {w W : World} {t : Nat} {nd nd' : Nd} {L : List Rt} (h : Tab w t nd L) (hg : Grown w W nd nd' L) {p k b : Nat} (e : nd' p k = some b) (hn : lkp L p k = none) (v : Int) :
    Next w (((W.setCell ⟨b, 0, none⟩ (.bool true)).setCell ⟨b, 1, none⟩ (.int .i64 v)).setCell ⟨t, 1, none⟩ (.int .i64 ((L.length : Int) + 1))) t nd nd' (ins L ⟨p, k, v⟩) := by
  have hB : Blk W t 59 #[ptr (nd 0 0), .int .i64 L.length] := (hg.only.block t h.tab.lt h.ne).trans h.tab
  have hne' : ¬ Has nd' t := fun hh => by
    rcases hg.new t hh with h1 | h1
    · exact h.ne h1
    · have := h.tab.lt; omega
  have hbt : b ≠ t := fun hh => hne' ⟨p, k, by rw [← hh]; exact e⟩
  have hr : nd' 0 0 = nd 0 0 := by
    obtain ⟨rb, hrb⟩ := h.trie.root
    rw [hrb]; exact hg.old _ _ _ hrb
  have hbW : b < w.heap.size → Has nd b := fun hlt => by
    rcases hg.new b ⟨p, k, e⟩ with h1 | h1
    · exact h1
    · omega
  refine ⟨⟨?_, ?_, hne'⟩, ?_, ?_⟩
  · have := ((hB.far (p := ⟨b, 0, none⟩) (Ne.symm hbt) (.bool true)).far (p := ⟨b, 1, none⟩) (Ne.symm hbt) (.int .i64 v)).set_ 1 (.int .i64 ((L.length : Int) + 1))
    rw [hr, length_ins]
    simpa using this
  · have := hg.trie.put e hn v
    exact this.keep fun k' hk' => Below.heap_setCell _ _ _ _ (fun hh => hne' (by have e : k' = t := hh; rw [← e]; exact hk'))
  · have o1 : Only (Mine nd t) w W := hg.only.mono fun _ hk _ => .inr hk
    exact ((o1.setCell (p := ⟨b, 0, none⟩) (fun hlt => .inr (hbW hlt)) _).setCell (p := ⟨b, 1, none⟩) (fun hlt => .inr (hbW hlt)) _).setCell (p := ⟨t, 1, none⟩) (fun _ => .inl rfl) _
  · rintro k' (rfl | hk')
    · exact .inl (.inl rfl)
    · exact (hg.new k' hk').imp .inr id
theorem Tab.grown {w W : World} {t : Nat} {nd nd' : Nd} {L : List Rt} (h : Tab w t nd L) (hg : Grown w W nd nd' L) : Next w W t nd nd' L := by
  have hB : Blk W t 59 #[ptr (nd 0 0), .int .i64 L.length] := (hg.only.block t h.tab.lt h.ne).trans h.tab
  have hr : nd' 0 0 = nd 0 0 := by
    obtain ⟨rb, hrb⟩ := h.trie.root
    rw [hrb]; exact hg.old _ _ _ hrb
  refine ⟨⟨by rw [hr]; exact hB, hg.trie, fun hh => ?_⟩, hg.only.mono fun _ hk _ => .inr hk, ?_⟩
  · rcases hg.new t hh with h1 | h1
    · exact h.ne h1
    · have := h.tab.lt; omega
  · rintro k' (rfl | hk')
    · exact .inl (.inl rfl)
    · exact (hg.new k' hk').imp .inr id

set_option maxRecDepth 100000 in
theorem add_any (t p : Nat) (n v : Int) (nd : Nd) (L : List Rt) (w : World) (h : Tab w t nd L) (hp : p < 4294967296) (hL : L.length < 4611686018427387904) :
    Calls Try.prog 11 #[.pointer (some ⟨t, 0, none⟩), .int .u32 p, .int .i64 n, .int .i64 v] w fun e w' => e = .returned (.int .i64 (addC L p n)) ∧ ∃ nd', Next w w' t nd nd' (addL L p n v) := by
  have MD := Lib.hid (made_yes t nd L w h)
  have RT := Lib.hid (right_any p n hp w)
  have HT := Lib.hid h
  by_cases hr : rightN p n = true
  · obtain ⟨k, rfl, hk⟩ := (rightN_ok hp).1 hr
    rw [hr] at RT
    have WG := Lib.hid (walk_grow t p k nd L w h hk)
    cases hl : lkp L p k with
    | some v0 =>
      have E : addC L p k = 5 := by unfold addC; rw [if_pos hr, Int.toNat_natCast, hl]; rfl
      have E2 : addL L p k v = L := by unfold addL; rw [E]; rfl
      rw [E, E2]
      have HL := Lib.hid hl
      clear E E2 hl hr h
      go_enter Try.func11, Try.ntmps11
      go_wp2_with (first
        | (go_at_call 25; refine MD.out.mono ?_; rintro e w' ⟨rfl, rfl⟩)
        | (go_at_call 26; refine RT.out.mono ?_; rintro e w' ⟨rfl, rfl⟩)
        | fail)
      refine WG.out.mono ?_
      rintro e W ⟨nd', b, rfl, e, hg⟩
      have c0 := hg.trie.has e
      rw [HL.out] at c0
      have N := Lib.hid (HT.out.grown hg)
      clear e hg
      go_wp2
      go_ret
      exact ⟨rfl, nd', N.out⟩
    | none =>
      have E : addC L p k = 0 := by unfold addC; rw [if_pos hr, Int.toNat_natCast, hl]; rfl
      have E2 : addL L p k v = ins L ⟨p, k, v⟩ := by unfold addL; rw [E]; rfl
      rw [E, E2]
      have HL := Lib.hid hl
      clear E E2 hl hr h
      go_enter Try.func11, Try.ntmps11
      go_wp2_with (first
        | (go_at_call 25; refine MD.out.mono ?_; rintro e w' ⟨rfl, rfl⟩)
        | (go_at_call 26; refine RT.out.mono ?_; rintro e w' ⟨rfl, rfl⟩)
        | fail)
      refine WG.out.mono ?_
      rintro e W ⟨nd', b, rfl, e, hg⟩
      have c0 := hg.trie.has e
      have c1 := hg.trie.value e
      have f0 := (hg.trie.blk _ _ _ e).frozen 0
      have f1 := (hg.trie.blk _ _ _ e).frozen 1
      rw [HL.out] at c0 c1
      have N := Lib.hid (HT.out.put hg e HL.out v)
      have NG := Lib.hid (HT.out.grown hg)
      have t1 := NG.out.tab.tab.cell 1
      have ft := NG.out.tab.tab.frozen 1
      have hbt : t ≠ b := fun hh => NG.out.tab.ne ⟨_, _, by rw [hh]; exact e⟩
      clear e hg
      go_wp2
      go_ret
      exact ⟨rfl, nd', N.out⟩
  · have hr : rightN p n = false := by simpa using hr
    have E : addC L p n = 1 := by unfold addC; rw [hr]; rfl
    have E2 : addL L p n v = L := by unfold addL; rw [E]; rfl
    rw [E, E2]
    rw [hr] at RT
    clear hr E E2 h
    go_enter Try.func11, Try.ntmps11
    go_wp2_with (first
      | (go_at_call 25; refine MD.out.mono ?_; rintro e w' ⟨rfl, rfl⟩)
      | (go_at_call 26; refine RT.out.mono ?_; rintro e w' ⟨rfl, rfl⟩))
    go_ret
    exact ⟨rfl, nd, Next.refl HT.out⟩

/-- Remove's answer, and what it leaves. -/
def remC (L : List Rt) (p : Nat) (n : Int) : Int := if rightN p n = true then (if (lkp L p n.toNat).isSome then 0 else 4) else 1
def remL (L : List Rt) (p : Nat) (n : Int) : List Rt := if remC L p n = 0 then del L p n.toNat else L
theorem mem_at {L : List Rt} (hs : Sorted L) {p k : Nat} {v : Int} (h : lkp L p k = some v) : ∃ i : Nat, L[i]? = some (⟨p, k, v⟩ : Rt) := List.mem_iff_getElem?.1 ((look_mem hs).1 h)
theorem remL_length {L : List Rt} (p : Nat) (n : Int) : (remL L p n).length ≤ L.length := by
  unfold remL; split
  · exact List.length_filter_le _ _
  · exact Nat.le_refl _
theorem Tab.away {w W : World} {t : Nat} {nd : Nd} {L : List Rt} (h : Tab w t nd L) (hd : Drew w W) {p k b : Nat} (e : nd p k = some b) {v : Int} (hv : lkp L p k = some v) :
    Next w (((W.setCell ⟨b, 0, none⟩ (.bool false)).setCell ⟨b, 1, none⟩ (.int .i64 0)).setCell ⟨t, 1, none⟩ (.int .i64 ((L.length : Int) - 1))) t nd nd (del L p k) := by
  have hW := h.drewn hd
  have hbt : b ≠ t := fun hh => hW.ne ⟨p, k, by rw [← hh]; exact e⟩
  have hl : (del L p k).length + 1 = L.length := by
    obtain ⟨i, hi⟩ := mem_at h.trie.sorted hv
    exact length_del h.trie.sorted hi
  refine ⟨⟨?_, ?_, hW.ne⟩, ?_, fun _ hk => .inl hk⟩
  · have := ((hW.tab.far (p := ⟨b, 0, none⟩) (Ne.symm hbt) (.bool false)).far (p := ⟨b, 1, none⟩) (Ne.symm hbt) (.int .i64 0)).set_ 1 (.int .i64 ((L.length : Int) - 1))
    rw [show ((del L p k).length : Int) = (L.length : Int) - 1 by omega]
    simpa using this
  · have := hW.trie.away e
    exact this.keep fun k' hk' => Below.heap_setCell _ _ _ _ (fun hh => hW.ne (by have e : k' = t := hh; rw [← e]; exact hk'))
  · have o1 : Only (Mine nd t) w W := Only.below (hd.below _) _
    exact ((o1.setCell (p := ⟨b, 0, none⟩) (fun _ => .inr ⟨p, k, e⟩) _).setCell (p := ⟨b, 1, none⟩) (fun _ => .inr ⟨p, k, e⟩) _).setCell (p := ⟨t, 1, none⟩) (fun _ => .inl rfl) _

set_option maxRecDepth 100000 in
theorem remove_any (t p : Nat) (n : Int) (nd : Nd) (L : List Rt) (w : World) (h : Tab w t nd L) (hp : p < 4294967296) (hL : L.length < 4611686018427387904) :
    Calls Try.prog 16 #[.pointer (some ⟨t, 0, none⟩), .int .u32 p, .int .i64 n] w fun e w' => e = .returned (.int .i64 (remC L p n)) ∧ ∃ nd', Next w w' t nd nd' (remL L p n) := by
  have MD := Lib.hid (made_yes t nd L w h)
  have RT := Lib.hid (right_any p n hp w)
  have HT := Lib.hid h
  by_cases hr : rightN p n = true
  · obtain ⟨k, rfl, hk⟩ := (rightN_ok hp).1 hr
    rw [hr] at RT
    have WG := Lib.hid (walk_get t p k nd L w h hk)
    cases hl : lkp L p k with
    | none =>
      have E : remC L p k = 4 := by unfold remC; rw [if_pos hr, Int.toNat_natCast, hl]; rfl
      have E2 : remL L p k = L := by unfold remL; rw [E]; rfl
      rw [E, E2]
      have HL := Lib.hid hl
      clear E E2 hl hr h
      cases hn : nd p k with
      | none =>
        rw [ptr_none hn] at WG
        clear hn
        go_enter Try.func16, Try.ntmps16
        go_wp2_with (first
          | (go_at_call 25; refine MD.out.mono ?_; rintro e w' ⟨rfl, rfl⟩)
          | (go_at_call 26; refine RT.out.mono ?_; rintro e w' ⟨rfl, rfl⟩)
          | fail)
        refine WG.out.mono ?_
        rintro e W ⟨rfl, hd⟩
        have N := Lib.hid (Next.mk (HT.out.drewn hd) (Only.below (hd.below _) _) (fun _ hk => .inl hk))
        clear hd
        go_wp2
        go_ret
        exact ⟨rfl, nd, N.out⟩
      | some b =>
        rw [ptr_some hn] at WG
        have HN := Lib.hid hn
        clear hn
        go_enter Try.func16, Try.ntmps16
        go_wp2_with (first
          | (go_at_call 25; refine MD.out.mono ?_; rintro e w' ⟨rfl, rfl⟩)
          | (go_at_call 26; refine RT.out.mono ?_; rintro e w' ⟨rfl, rfl⟩)
          | fail)
        refine WG.out.mono ?_
        rintro e W ⟨rfl, hd⟩
        have c0 := (HT.out.drewn hd).trie.has HN.out
        rw [HL.out] at c0
        have N := Lib.hid (Next.mk (HT.out.drewn hd) (Only.below (hd.below _) _) (fun _ hk => .inl hk))
        clear hd
        go_wp2
        go_ret
        exact ⟨rfl, nd, N.out⟩
    | some v =>
      have E : remC L p k = 0 := by unfold remC; rw [if_pos hr, Int.toNat_natCast, hl]; rfl
      have E2 : remL L p k = del L p k := by unfold remL; rw [E]; rfl
      rw [E, E2]
      have HL := Lib.hid hl
      obtain ⟨b, hb⟩ := h.trie.mem _ ((look_mem h.trie.sorted).1 hl)
      simp only at hb
      have hlen : 0 < L.length := List.length_pos_of_mem ((look_mem h.trie.sorted).1 hl)
      have HN := Lib.hid hb
      rw [ptr_some hb] at WG
      clear E E2 hl hr h hb
      go_enter Try.func16, Try.ntmps16
      go_wp2_with (first
        | (go_at_call 25; refine MD.out.mono ?_; rintro e w' ⟨rfl, rfl⟩)
        | (go_at_call 26; refine RT.out.mono ?_; rintro e w' ⟨rfl, rfl⟩)
        | fail)
      refine WG.out.mono ?_
      rintro e W ⟨rfl, hd⟩
      have hW := HT.out.drewn hd
      have c0 := hW.trie.has HN.out
      have c1 := hW.trie.value HN.out
      have f0 := (hW.trie.blk _ _ _ HN.out).frozen 0
      have f1 := (hW.trie.blk _ _ _ HN.out).frozen 1
      rw [HL.out] at c0 c1
      have N := Lib.hid (HT.out.away hd HN.out HL.out)
      have t1 := hW.tab.cell 1
      have ft := hW.tab.frozen 1
      have hbt : t ≠ b := fun hh => hW.ne ⟨_, _, by rw [hh]; exact HN.out⟩
      clear hd hW
      go_wp2
      go_ret
      exact ⟨rfl, nd, N.out⟩
  · have hr : rightN p n = false := by simpa using hr
    have E : remC L p n = 1 := by unfold remC; rw [hr]; rfl
    have E2 : remL L p n = L := by unfold remL; rw [E]; rfl
    rw [E, E2]
    rw [hr] at RT
    clear hr E E2 h
    go_enter Try.func16, Try.ntmps16
    go_wp2_with (first
      | (go_at_call 25; refine MD.out.mono ?_; rintro e w' ⟨rfl, rfl⟩)
      | (go_at_call 26; refine RT.out.mono ?_; rintro e w' ⟨rfl, rfl⟩))
    go_ret
    exact ⟨rfl, nd, Next.refl HT.out⟩

/-- Get's answer. -/
def getV (L : List Rt) (p : Nat) (n : Int) : Int := if rightN p n = true then (lkp L p n.toNat).getD 0 else 0
def getB (L : List Rt) (p : Nat) (n : Int) : Bool := rightN p n && (lkp L p n.toNat).isSome
set_option maxRecDepth 100000 in
theorem get_yes (t p : Nat) (n : Int) (nd : Nd) (L : List Rt) (w : World) (h : Tab w t nd L) (hp : p < 4294967296) :
    Calls Try.prog 20 #[.pointer (some ⟨t, 0, none⟩), .int .u32 p, .int .i64 n] w fun e w' => e = .returned (.tuple #[.int .i64 (getV L p n), .bool (getB L p n)]) ∧ Drew w w' := by
  have MD := Lib.hid (made_yes t nd L w h)
  have RT := Lib.hid (right_any p n hp w)
  have HT := Lib.hid h
  by_cases hr : rightN p n = true
  · obtain ⟨k, rfl, hk⟩ := (rightN_ok hp).1 hr
    have E : getV L p k = (lkp L p k).getD 0 := by unfold getV; rw [if_pos hr, Int.toNat_natCast]
    have E2 : getB L p k = (lkp L p k).isSome := by unfold getB; rw [hr, Int.toNat_natCast]; rfl
    rw [E, E2]
    clear E E2
    rw [hr] at RT
    have WG := Lib.hid (walk_get t p k nd L w h hk)
    clear h hr
    cases hn : nd p k with
    | none =>
      rw [ptr_none hn] at WG
      rw [HT.out.trie.none_look hn]
      clear hn
      go_enter Try.func20, Try.ntmps20
      go_wp2_with (first
        | (go_at_call 25; refine MD.out.mono ?_; rintro e w' ⟨rfl, rfl⟩)
        | (go_at_call 26; refine RT.out.mono ?_; rintro e w' ⟨rfl, rfl⟩)
        | fail)
      refine WG.out.mono ?_
      rintro e W ⟨rfl, hd⟩
      have N := Lib.hid hd
      clear hd
      go_wp2
      go_ret2
      exact ⟨rfl, N.out⟩
    | some b =>
      rw [ptr_some hn] at WG
      have HN := Lib.hid hn
      clear hn
      cases hl : lkp L p k with
      | none =>
        have HL := Lib.hid hl
        clear hl
        go_enter Try.func20, Try.ntmps20
        go_wp2_with (first
          | (go_at_call 25; refine MD.out.mono ?_; rintro e w' ⟨rfl, rfl⟩)
          | (go_at_call 26; refine RT.out.mono ?_; rintro e w' ⟨rfl, rfl⟩)
          | fail)
        refine WG.out.mono ?_
        rintro e W ⟨rfl, hd⟩
        have hW := HT.out.drewn hd
        have c0 := hW.trie.has HN.out
        have c1 := hW.trie.value HN.out
        have N := Lib.hid hd
        rw [HL.out] at c0 c1
        clear hd hW
        go_wp2
        go_ret2
        exact ⟨rfl, N.out⟩
      | some v =>
        have HL := Lib.hid hl
        clear hl
        go_enter Try.func20, Try.ntmps20
        go_wp2_with (first
          | (go_at_call 25; refine MD.out.mono ?_; rintro e w' ⟨rfl, rfl⟩)
          | (go_at_call 26; refine RT.out.mono ?_; rintro e w' ⟨rfl, rfl⟩)
          | fail)
        refine WG.out.mono ?_
        rintro e W ⟨rfl, hd⟩
        have hW := HT.out.drewn hd
        have c0 := hW.trie.has HN.out
        have c1 := hW.trie.value HN.out
        have N := Lib.hid hd
        rw [HL.out] at c0 c1
        clear hd hW
        go_wp2
        go_ret2
        exact ⟨rfl, N.out⟩
  · have hr : rightN p n = false := by simpa using hr
    have E : getV L p n = 0 := by unfold getV; rw [hr]; rfl
    have E2 : getB L p n = false := by unfold getB; rw [hr]; rfl
    rw [E, E2]
    rw [hr] at RT
    clear hr E E2 h
    go_enter Try.func20, Try.ntmps20
    go_wp2_with (first
      | (go_at_call 25; refine MD.out.mono ?_; rintro e w' ⟨rfl, rfl⟩)
      | (go_at_call 26; refine RT.out.mono ?_; rintro e w' ⟨rfl, rfl⟩))
    go_ret2
    exact ⟨rfl, Drew.refl _⟩
theorem get_no (p : Nat) (n : Int) (w : World) : Calls Try.prog 20 #[.pointer none, .int .u32 p, .int .i64 n] w fun e w' => e = .returned (.tuple #[.int .i64 0, .bool false]) ∧ w = w' := by
  go_enter Try.func20, Try.ntmps20
  go_wp2_with (go_at_call 25; refine (made_no _).mono ?_; rintro e w' ⟨rfl, rfl⟩)
  go_ret2
  exact ⟨rfl, rfl⟩
theorem add_no (p : Nat) (n v : Int) (w : World) : Calls Try.prog 11 #[.pointer none, .int .u32 p, .int .i64 n, .int .i64 v] w fun e w' => e = .returned (.int .i64 6) ∧ w = w' := by
  go_enter Try.func11, Try.ntmps11
  go_wp2_with (go_at_call 25; refine (made_no _).mono ?_; rintro e w' ⟨rfl, rfl⟩)
  go_ret
  exact ⟨rfl, rfl⟩
theorem remove_no (p : Nat) (n : Int) (w : World) : Calls Try.prog 16 #[.pointer none, .int .u32 p, .int .i64 n] w fun e w' => e = .returned (.int .i64 6) ∧ w = w' := by
  go_enter Try.func16, Try.ntmps16
  go_wp2_with (go_at_call 25; refine (made_no _).mono ?_; rintro e w' ⟨rfl, rfl⟩)
  go_ret
  exact ⟨rfl, rfl⟩
end Go.Proofs.Ytlpnkfnmgcigbaa
