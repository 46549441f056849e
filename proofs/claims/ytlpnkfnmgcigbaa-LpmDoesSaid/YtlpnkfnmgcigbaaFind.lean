/- Find: the longest prefix. -/
import Derived.Test.YtlpnkfnmgcigbaaTable
import Derived.BigRegion
import Derived.StillTailTactics
namespace Go.Proofs.Ytlpnkfnmgcigbaa
open Go.RowKit Lp

theorem wp_scope_key {P : Program} {a : Act} {w : World} {Q : Exit → Act → World → Prop} {c rest : Code} (l : Nat) (J : Act → World → Prop) (μ : Act → World → Nat) (hf : findLabel c l = some (.seq .skip rest))
    (pass : ∀ a w, J a w → rest.wp P (Exit.jump l (fun a' w' => J a' w' ∧ μ a' w' < μ a w) Q) a w)
    (first : Hid (∀ a w, J a w → rest.wp P (Exit.jump l J Q) a w) → c.wp P (Exit.jump l J Q) a w) : (Code.scope c).wp P Q a w := by
  refine wp_scope_jumps l J μ hf (first (Lib.hid fun a w hJ => Code.wp_mono (fun e a' w' q => ?_) (pass a w hJ))) (fun a w hJ => wp_seq (wp_skip (pass a w hJ)))
  cases e <;> first | exact q | exact ⟨q.1, q.2.1⟩

def rp (o : Option Rt) : Nat := match o with | some r => r.p | none => 0
def rn (o : Option Rt) : Nat := match o with | some r => r.n | none => 0
def rv (o : Option Rt) : Int := match o with | some r => r.v | none => 0
/-- A route's cells; a route as a value. -/
def rtC (o : Option Rt) : Array Value := #[.int .u32 (rp o), .int .i64 (rn o), .int .i64 (rv o)]

theorem Tab.alloc {w : World} {t : Nat} {nd : Nd} {L : List Rt} (h : Tab w t nd L) (o : Obj) : Tab (w.alloc o) t nd L := h.keep fun k hk => Below.heap_alloc _ _ _ (h.lt hk)
theorem Tab.far {w : World} {t : Nat} {nd : Nd} {L : List Rt} (h : Tab w t nd L) {p : Addr} (hp : ¬ Mine nd t p.block) (u : Value) : Tab (w.setCell p u) t nd L :=
  h.keep fun k hk => Below.heap_setCell _ _ _ _ (fun e => hp (e ▸ hk))
theorem Blk.set3 {w : World} {g : Nat} {t : TypeId} {a b c : Value} (h : Blk w g t #[a, b, c]) (x y z : Value) : Blk (((w.setCell ⟨g, 0, none⟩ x).setCell ⟨g, 1, none⟩ y).setCell ⟨g, 2, none⟩ z) g t #[x, y, z] := by
  have := ((h.set_ 0 x).set_ 1 y).set_ 2 z
  simpa using this
theorem below_set3 {B g : Nat} {w W : World} (h : Below B w W) (hg : B ≤ g) (x y z : Value) : Below B w (((W.setCell ⟨g, 0, none⟩ x).setCell ⟨g, 1, none⟩ y).setCell ⟨g, 2, none⟩ z) :=
  ((h.setCell (p := ⟨g, 0, none⟩) hg x).setCell (p := ⟨g, 1, none⟩) hg y).setCell (p := ⟨g, 2, none⟩) hg z
theorem Blk.far3 {w : World} {g k : Nat} {t : TypeId} {cs : Array Value} (h : Blk w g t cs) (hg : g ≠ k) (x y z : Value) : Blk (((w.setCell ⟨k, 0, none⟩ x).setCell ⟨k, 1, none⟩ y).setCell ⟨k, 2, none⟩ z) g t cs :=
  ((h.far (p := ⟨k, 0, none⟩) hg x).far (p := ⟨k, 1, none⟩) hg y).far (p := ⟨k, 2, none⟩) hg z

/-- Find, on its way. -/
structure Fd (w W : World) (t ip i b : Nat) (nd : Nd) (L : List Rt) (o : Option Rt) : Prop where
  at_ : nd (top ip i) i = some b
  best : lon L ip i = o
  tab : Tab w t nd L
  res : Blk W w.heap.size 37 #[.int .u32 0, .int .i64 0, .int .i64 0]
  cur : Blk W (w.heap.size + 1) 37 (rtC o)
  below : Below w.heap.size w W
theorem Fd.drewN {w W : World} {t ip i b : Nat} {nd : Nd} {L : List Rt} {o : Option Rt} (h : Fd w W t ip i b nd L o) (n : Nat) : Fd w (W.drewN n) t ip i b nd L o :=
  ⟨h.at_, h.best, h.tab, h.res.drewN n, h.cur.drewN n, below_drewN h.below n⟩
/-- Find, behind a place's value. -/
structure Fe (w W : World) (t ip i : Nat) (nd : Nd) (L : List Rt) (o : Option Rt) : Prop where
  best : lon L ip (i + 1) = o
  tab : Tab W t nd L
  res : Blk W w.heap.size 37 #[.int .u32 0, .int .i64 0, .int .i64 0]
  cur : Blk W (w.heap.size + 1) 37 (rtC o)
  below : Below w.heap.size w W
theorem Fe.drewN {w W : World} {t ip i : Nat} {nd : Nd} {L : List Rt} {o : Option Rt} (h : Fe w W t ip i nd L o) (n : Nat) : Fe w (W.drewN n) t ip i nd L o :=
  ⟨h.best, h.tab.drewN n, h.res.drewN n, h.cur.drewN n, below_drewN h.below n⟩
theorem Fe.next {w W : World} {t ip i b : Nat} {nd : Nd} {L : List Rt} {o : Option Rt} (h : Fe w W t ip i nd L o) (hT : Tab w t nd L) (e : nd (top ip (i + 1)) (i + 1) = some b) : Fd w W t ip (i + 1) b nd L o :=
  ⟨e, h.best, hT, h.res, h.cur, h.below⟩
theorem Fd.skip {w W : World} {t ip i b : Nat} {nd : Nd} {L : List Rt} {o : Option Rt} (h : Fd w W t ip i b nd L o) (hn : lkp L (top ip i) i = none) : Fe w W t ip i nd L o :=
  ⟨by unfold lon; rw [hn]; exact h.best, h.tab.below h.below, h.res, h.cur, h.below⟩
theorem lon_end {T : TypeId} {w : World} {nd : Nd} {L : List Rt} (h : Trie T w nd L) {ip i : Nat} (hn : nd (top ip (i + 1)) (i + 1) = none) (hi : i < 32) : lon L ip 33 = lon L ip (i + 1) :=
  lon_none (fun j h1 h2 => h.none_look (h.none_more hn j h1 (by omega))) 33 (by omega) (by omega)
theorem Try.size37 : (Try.prog.info? 37).map (·.size) = some 3 := by kernel_rfl
theorem res3 {fn : Func} {p u : Tmp} (h : fn.results = #[.cell p 37, .tmp u]) (tmps : Array Value) (w : World) (g : Nat) (cs : Array Value) (hB : Blk w g 37 cs) (hs : cs.size = 3) (hp : tmps.getD p undef = .pointer (some ⟨g, 0, none⟩)) :
    (results fn tmps).run Try.prog w = .ok (.tuple #[.agg cs, tmps.getD u undef]) w := by
  rw [results_cell_tmp h, hp]
  simp [asAddr, run_loadVar_row w g 37 37 cs (0, 0) _ hB Try.underlying37 rfl (by rw [hs]; exact Try.size37), Result.andThen]
theorem Fe.done {w W : World} {t ip i : Nat} {nd : Nd} {L : List Rt} {o : Option Rt} (h : Fe w W t ip i nd L o) :
    Blk (((W.setCell ⟨w.heap.size, 0, none⟩ (.int .u32 (rp o))).setCell ⟨w.heap.size, 1, none⟩ (.int .i64 (rn o))).setCell ⟨w.heap.size, 2, none⟩ (.int .i64 (rv o))) w.heap.size 37 (rtC o) := h.res.set3 _ _ _

theorem Fd.take {w W : World} {t ip i b : Nat} {nd : Nd} {L : List Rt} {o : Option Rt} (h : Fd w W t ip i b nd L o) {v : Int} (hv : lkp L (top ip i) i = some v) :
    Fe w (((W.setCell ⟨w.heap.size + 1, 0, none⟩ (.int .u32 (top ip i : Nat))).setCell ⟨w.heap.size + 1, 1, none⟩ (.int .i64 i)).setCell ⟨w.heap.size + 1, 2, none⟩ (.int .i64 v)) t ip i nd L (some ⟨top ip i, i, v⟩) :=
  have hb := below_set3 h.below (g := w.heap.size + 1) (by omega) (.int .u32 (top ip i : Nat)) (.int .i64 i) (.int .i64 v)
  ⟨by unfold lon; rw [hv], h.tab.below hb, h.res.far3 (by omega) _ _ _, h.cur.set3 _ _ _, hb⟩

/-- What Find answers. -/
def rtV (o : Option Rt) : Value := .agg #[.int .u32 (rp o), .int .i64 (rn o), .int .i64 (rv o)]

set_option maxRecDepth 1000000 in
set_option maxHeartbeats 8000000 in
theorem find_yes (t ip : Nat) (nd : Nd) (L : List Rt) (w : World) (h : Tab w t nd L) (hp : ip < 4294967296) :
    Calls Try.prog 12 #[.pointer (some ⟨t, 0, none⟩), .int .u32 ip] w fun e w' => e = .returned (.tuple #[rtV (lon L ip 33), .bool (lon L ip 33).isSome]) ∧ Below w.heap.size w w' := by
  have HT := Lib.hid h
  have hlt := h.tab.lt
  have hbt : ¬ Mine nd t (w.heap.size + 1) := fun hh => by have := h.lt hh; omega
  have ht := h.tab.cell 0
  obtain ⟨rb, hrb⟩ := h.trie.root
  simp only [List.getElem?_toArray, List.getElem?_cons_zero] at ht
  rw [ptr_some hrb] at ht
  have H0 : Hid (nd (top ip 0) 0 = some rb) := Lib.hid (by rw [top_zero hp]; exact hrb)
  have HM := Lib.hid hbt
  clear h hbt hrb
  go_enter Try.func12, Try.ntmps12
  go_wp2_with (fail)
  refine wp_scope_key 0 (fun a' W => ∃ (i b : Nat) (o : Option Rt) (u10 u11 u12 u13 u14 u15 u16 u17 u18 u19 u20 u21 u22 u23 u24 u25 u26 u27 u28 u29 u30 u31 u32 u33 u34 u35 u36 u37 u38 u39 u40 u41 u42 u43 u44 u45 u46 u47 u48 u49 u50 u51 u52 u53 u54 u55 u56 u57 : Value), Hid (Fd w W t ip i b nd L o) ∧ a' = { tmps := #[.pointer (some ⟨t, 0, none⟩), .int .u32 ip, undef, undef, .pointer (some ⟨w.heap.size, 0, none⟩), .bool false, .pointer (some ⟨w.heap.size + 1, 0, none⟩), .bool o.isSome, .pointer (some ⟨b, 0, none⟩), .int .i64 i, u10, u11, u12, u13, u14, u15, u16, u17, u18, u19, u20, u21, u22, u23, u24, u25, u26, u27, u28, u29, u30, u31, u32, u33, u34, u35, u36, u37, u38, u39, u40, u41, u42, u43, u44, u45, u46, u47, u48, u49, u50, u51, u52, u53, u54, u55, u56, u57], defers := [] } ∧ i ≤ 32) (fun a' _ => (33 - (intOf (a'.tmps.getD 9 undef)).toNat)) rfl ?pass ?first
  case first =>
    intro KEY
    go_wp2_with (go_at_call 25; refine (made_yes t nd L _ ((HT.out.alloc _).alloc _)).mono ?_; rintro e w' ⟨rfl, rfl⟩)
    go_step3
    rename_i hK
    refine hK _ _ (KEY.out _ _ ⟨0, rb, none, _, _, _, _, _, _, _, _, _, _, _, _, _, _, _, _, _, _, _, _, _, _, _, _, _, _, _, _, _, _, _, _, _, _, _, _, _, _, _, _, _, _, _, _, _, _, _, _, Lib.hid ⟨H0.out, rfl, HT.out, ?_, ?_, ?_⟩, rfl, by omega⟩)
    · exact (Blk.new w 37 _).alloc _
    · have := Blk.new (w.alloc (.cells #[.int .u32 0, .int .i64 0, .int .i64 0] 37)) 37 #[.int .u32 0, .int .i64 0, .int .i64 0]
      have e : rtC none = #[.int .u32 0, .int .i64 0, .int .i64 0] := rfl
      rw [e]
      simpa using this
    · exact ((Below.refl _ _).alloc (Nat.le_refl _) _).alloc (by simp) _
  case pass =>
    rintro a' W ⟨i, b, o, u10, u11, u12, u13, u14, u15, u16, u17, u18, u19, u20, u21, u22, u23, u24, u25, u26, u27, u28, u29, u30, u31, u32, u33, u34, u35, u36, u37, u38, u39, u40, u41, u42, u43, u44, u45, u46, u47, u48, u49, u50, u51, u52, u53, u54, u55, u56, u57, hst, rfl, hi⟩
    have hbl : b < w.heap.size := HT.out.lt (.inr ⟨_, _, hst.out.at_⟩)
    have hTW := HT.out.below hst.out.below
    have AT := Lib.hid hst.out.at_
    have c0 := hTW.trie.has hst.out.at_
    have c1 := hTW.trie.value hst.out.at_
    have hsz := hst.out.below.size
    clear hTW
    cases hl : lkp L (top ip i) i with
    | none =>
      rw [hl] at c0 c1
      have HE := Lib.hid (hst.out.skip hl)
      clear hl hst
      by_cases h32 : i < 32
      · have D32 : decide ((i : Int) < 32) = true := by simp; omega
        rcases HE.out.tab.trie.down AT.out h32 with ⟨hb0, kid⟩ | ⟨hb0, kid⟩
        · have BA := Lib.hid (bit_is ip i 0 hb0 hp h32 i rfl 0 rfl)
          clear hb0
          cases hn : nd (top ip (i + 1)) (i + 1) with
          | none =>
            rw [ptr_none hn] at kid
            have LE := Lib.hid (lon_end HT.out.trie hn h32)
            clear hn
            have hsV := HE.out.below.size
            have kcu0 : W.cell? ⟨w.heap.size + 1, 0, none⟩ = some (.int .u32 (rp o)) := HE.out.cur.cell 0
            have kcu1 : W.cell? ⟨w.heap.size + 1, 1, none⟩ = some (.int .i64 (rn o)) := HE.out.cur.cell 1
            have kcu2 : W.cell? ⟨w.heap.size + 1, 2, none⟩ = some (.int .i64 (rv o)) := HE.out.cur.cell 2
            have krf0 := HE.out.res.frozen 0
            have krf1 := HE.out.res.frozen 1
            have krf2 := HE.out.res.frozen 2
            have kre0 : W.cell? ⟨w.heap.size, 0, none⟩ = some (.int .u32 0) := HE.out.res.cell 0
            have kre1 : W.cell? ⟨w.heap.size, 1, none⟩ = some (.int .i64 0) := HE.out.res.cell 1
            have kre2 : W.cell? ⟨w.heap.size, 2, none⟩ = some (.int .i64 0) := HE.out.res.cell 2
            go_wp2
            go_quiet ((go_at_call 28; exact quiet_left (BA.out _)))
            go_wp2
            simp only [Exit.jump]
            exact bodyPost_ret (res3 rfl _ _ w.heap.size _ (HE.out.drewN _).done rfl rfl) rfl ⟨by rw [LE.out, HE.out.best]; rfl, below_set3 (below_drewN HE.out.below _) (Nat.le_refl _) _ _ _⟩
          | some b2 =>
            rw [ptr_some hn] at kid
            have HN := Lib.hid hn
            clear hn
            go_wp2
            go_quiet ((go_at_call 28; exact quiet_left (BA.out _)))
            go_wp2
            obtain ⟨V2, hV2⟩ : ∃ V2, V2 = W.drewN nq := ⟨_, rfl⟩
            have HE2 : Hid (Fe w V2 t ip i nd L o) := Lib.hid (by rw [hV2]; exact HE.out.drewN _)
            have kid2 : V2.cell? ⟨b, 2, none⟩ = some (.pointer (some ⟨b2, 0, none⟩)) := by rw [hV2]; exact kid
            rw [← hV2]
            clear hV2 kid
            go_quiet ((go_at_call 28; exact quiet_left (BA.out _)))
            go_wp2
            go_step3
            refine ⟨rfl, ⟨i + 1, b2, o, _, _, _, _, _, _, _, _, _, _, _, _, _, _, _, _, _, _, _, _, _, _, _, _, _, _, _, _, _, _, _, _, _, _, _, _, _, _, _, _, _, _, _, _, _, _, _, _, Lib.hid ((HE2.out.drewN _).next HT.out HN.out), rfl, by omega⟩, ?_⟩
            simp [intOf]; omega
        · have BA := Lib.hid (bit_is ip i 1 hb0 hp h32 i rfl 1 rfl)
          clear hb0
          cases hn : nd (top ip (i + 1)) (i + 1) with
          | none =>
            rw [ptr_none hn] at kid
            have LE := Lib.hid (lon_end HT.out.trie hn h32)
            clear hn
            have hsV := HE.out.below.size
            have kcu0 : W.cell? ⟨w.heap.size + 1, 0, none⟩ = some (.int .u32 (rp o)) := HE.out.cur.cell 0
            have kcu1 : W.cell? ⟨w.heap.size + 1, 1, none⟩ = some (.int .i64 (rn o)) := HE.out.cur.cell 1
            have kcu2 : W.cell? ⟨w.heap.size + 1, 2, none⟩ = some (.int .i64 (rv o)) := HE.out.cur.cell 2
            have krf0 := HE.out.res.frozen 0
            have krf1 := HE.out.res.frozen 1
            have krf2 := HE.out.res.frozen 2
            have kre0 : W.cell? ⟨w.heap.size, 0, none⟩ = some (.int .u32 0) := HE.out.res.cell 0
            have kre1 : W.cell? ⟨w.heap.size, 1, none⟩ = some (.int .i64 0) := HE.out.res.cell 1
            have kre2 : W.cell? ⟨w.heap.size, 2, none⟩ = some (.int .i64 0) := HE.out.res.cell 2
            go_wp2
            go_quiet ((go_at_call 28; exact quiet_left (BA.out _)))
            go_wp2
            simp only [Exit.jump]
            exact bodyPost_ret (res3 rfl _ _ w.heap.size _ (HE.out.drewN _).done rfl rfl) rfl ⟨by rw [LE.out, HE.out.best]; rfl, below_set3 (below_drewN HE.out.below _) (Nat.le_refl _) _ _ _⟩
          | some b2 =>
            rw [ptr_some hn] at kid
            have HN := Lib.hid hn
            clear hn
            go_wp2
            go_quiet ((go_at_call 28; exact quiet_left (BA.out _)))
            go_wp2
            obtain ⟨V2, hV2⟩ : ∃ V2, V2 = W.drewN nq := ⟨_, rfl⟩
            have HE2 : Hid (Fe w V2 t ip i nd L o) := Lib.hid (by rw [hV2]; exact HE.out.drewN _)
            have kid2 : V2.cell? ⟨b, 3, none⟩ = some (.pointer (some ⟨b2, 0, none⟩)) := by rw [hV2]; exact kid
            rw [← hV2]
            clear hV2 kid
            go_quiet ((go_at_call 28; exact quiet_left (BA.out _)))
            go_wp2
            go_step3
            refine ⟨rfl, ⟨i + 1, b2, o, _, _, _, _, _, _, _, _, _, _, _, _, _, _, _, _, _, _, _, _, _, _, _, _, _, _, _, _, _, _, _, _, _, _, _, _, _, _, _, _, _, _, _, _, _, _, _, _, Lib.hid ((HE2.out.drewN _).next HT.out HN.out), rfl, by omega⟩, ?_⟩
            simp [intOf]; omega
      · obtain rfl : i = 32 := by omega
        have hsV := HE.out.below.size
        have kcu0 : W.cell? ⟨w.heap.size + 1, 0, none⟩ = some (.int .u32 (rp o)) := HE.out.cur.cell 0
        have kcu1 : W.cell? ⟨w.heap.size + 1, 1, none⟩ = some (.int .i64 (rn o)) := HE.out.cur.cell 1
        have kcu2 : W.cell? ⟨w.heap.size + 1, 2, none⟩ = some (.int .i64 (rv o)) := HE.out.cur.cell 2
        have krf0 := HE.out.res.frozen 0
        have krf1 := HE.out.res.frozen 1
        have krf2 := HE.out.res.frozen 2
        have kre0 : W.cell? ⟨w.heap.size, 0, none⟩ = some (.int .u32 0) := HE.out.res.cell 0
        have kre1 : W.cell? ⟨w.heap.size, 1, none⟩ = some (.int .i64 0) := HE.out.res.cell 1
        have kre2 : W.cell? ⟨w.heap.size, 2, none⟩ = some (.int .i64 0) := HE.out.res.cell 2
        go_wp2
        go_quiet (fail)
        go_wp2
        simp only [Exit.jump]
        exact bodyPost_ret (res3 rfl _ _ w.heap.size _ (HE.out.drewN _).done rfl rfl) rfl ⟨by rw [show lon L ip 33 = o from HE.out.best]; rfl, below_set3 (below_drewN HE.out.below _) (Nat.le_refl _) _ _ _⟩

    | some v =>
      rw [hl] at c0 c1
      have MK : Hid (∀ w, Calls Try.prog 13 #[.int .i64 i] w fun e w' => e = .returned (.int .u32 (msk i)) ∧ w = w') := Lib.hid (by have := mask_any i; rw [clamp_nat hi] at this; exact this)
      have EM : bits BinOp.and IntKind.u32 (ip : Int) (msk i : Nat) = (top ip i : Nat) := by rw [u32_and_nat ip _ hp (msk_lt i), and_msk hp hi]
      have HE : Hid (Fe w (((W.setCell ⟨w.heap.size + 1, 0, none⟩ (.int .u32 (top ip i : Nat))).setCell ⟨w.heap.size + 1, 1, none⟩ (.int .i64 i)).setCell ⟨w.heap.size + 1, 2, none⟩ (.int .i64 v)).drew t ip i nd L (some ⟨top ip i, i, v⟩)) := Lib.hid ((hst.out.take hl).drewN 1)
      have cu0 : W.cell? ⟨w.heap.size + 1, 0, none⟩ = some (.int .u32 (rp o)) := hst.out.cur.cell 0
      have cu1 : W.cell? ⟨w.heap.size + 1, 1, none⟩ = some (.int .i64 (rn o)) := hst.out.cur.cell 1
      have cu2 : W.cell? ⟨w.heap.size + 1, 2, none⟩ = some (.int .i64 (rv o)) := hst.out.cur.cell 2
      have cf0 := hst.out.cur.frozen 0
      have cf1 := hst.out.cur.frozen 1
      have cf2 := hst.out.cur.frozen 2
      clear hl hst
      go_wp2
      refine wp_region_still_tail 10 (by kernel_rfl) (by kernel_rfl) ?_
      simp only [List.take_succ_cons, List.take_zero, List.drop_succ_cons, List.drop_zero]
      still_step
      still_step
      refine wpStill_step (fun K hK => ?_)
      go_simp
      refine ⟨_, (MK.out _).mono (fun e w' hh => ⟨hh.1, hh.2.symm⟩), hK _ ?_⟩
      clear hK K
      repeat still_step
      refine wpStill_nil ?_
      change wpList _ _ _ _ _ W.drew
      go_wp2
      obtain ⟨V, hV⟩ : ∃ V, V = (((W.setCell ⟨w.heap.size + 1, 0, none⟩ (.int .u32 (top ip i : Nat))).setCell ⟨w.heap.size + 1, 1, none⟩ (.int .i64 i)).setCell ⟨w.heap.size + 1, 2, none⟩ (.int .i64 v)).drew := ⟨_, rfl⟩
      rw [← hV] at HE ⊢
      obtain ⟨oo, hoo⟩ : ∃ oo : Option Rt, oo = some ⟨top ip i, i, v⟩ := ⟨_, rfl⟩
      rw [← hoo] at HE
      have HO : Hid (oo.isSome = true) := Lib.hid (by rw [hoo]; rfl)
      clear cu0 cu1 cu2 cf0 cf1 cf2 c0 c1 MK EM hV hoo
      by_cases h32 : i < 32
      · have D32 : decide ((i : Int) < 32) = true := by simp; omega
        rcases HE.out.tab.trie.down AT.out h32 with ⟨hb0, kid⟩ | ⟨hb0, kid⟩
        · have BA := Lib.hid (bit_is ip i 0 hb0 hp h32 i rfl 0 rfl)
          clear hb0
          cases hn : nd (top ip (i + 1)) (i + 1) with
          | none =>
            rw [ptr_none hn] at kid
            have LE := Lib.hid (lon_end HT.out.trie hn h32)
            clear hn
            have hsV := HE.out.below.size
            have kcu0 : V.cell? ⟨w.heap.size + 1, 0, none⟩ = some (.int .u32 (rp oo)) := HE.out.cur.cell 0
            have kcu1 : V.cell? ⟨w.heap.size + 1, 1, none⟩ = some (.int .i64 (rn oo)) := HE.out.cur.cell 1
            have kcu2 : V.cell? ⟨w.heap.size + 1, 2, none⟩ = some (.int .i64 (rv oo)) := HE.out.cur.cell 2
            have krf0 := HE.out.res.frozen 0
            have krf1 := HE.out.res.frozen 1
            have krf2 := HE.out.res.frozen 2
            have kre0 : V.cell? ⟨w.heap.size, 0, none⟩ = some (.int .u32 0) := HE.out.res.cell 0
            have kre1 : V.cell? ⟨w.heap.size, 1, none⟩ = some (.int .i64 0) := HE.out.res.cell 1
            have kre2 : V.cell? ⟨w.heap.size, 2, none⟩ = some (.int .i64 0) := HE.out.res.cell 2
            go_wp2
            go_quiet ((go_at_call 28; exact quiet_left (BA.out _)))
            go_wp2
            simp only [Exit.jump]
            exact bodyPost_ret (res3 rfl _ _ w.heap.size _ (HE.out.drewN _).done rfl rfl) rfl ⟨by rw [LE.out, HE.out.best, HO.out]; rfl, below_set3 (below_drewN HE.out.below _) (Nat.le_refl _) _ _ _⟩
          | some b2 =>
            rw [ptr_some hn] at kid
            have HN := Lib.hid hn
            clear hn
            go_wp2
            go_quiet ((go_at_call 28; exact quiet_left (BA.out _)))
            go_wp2
            obtain ⟨V2, hV2⟩ : ∃ V2, V2 = V.drewN nq := ⟨_, rfl⟩
            have HE2 : Hid (Fe w V2 t ip i nd L oo) := Lib.hid (by rw [hV2]; exact HE.out.drewN _)
            have kid2 : V2.cell? ⟨b, 2, none⟩ = some (.pointer (some ⟨b2, 0, none⟩)) := by rw [hV2]; exact kid
            rw [← hV2]
            clear hV2 kid
            go_quiet ((go_at_call 28; exact quiet_left (BA.out _)))
            go_wp2
            go_step3
            refine ⟨rfl, ⟨i + 1, b2, oo, _, _, _, _, _, _, _, _, _, _, _, _, _, _, _, _, _, _, _, _, _, _, _, _, _, _, _, _, _, _, _, _, _, _, _, _, _, _, _, _, _, _, _, _, _, _, _, _, Lib.hid ((HE2.out.drewN _).next HT.out HN.out), (by rw [HO.out]; rfl), by omega⟩, ?_⟩
            simp [intOf]; omega
        · have BA := Lib.hid (bit_is ip i 1 hb0 hp h32 i rfl 1 rfl)
          clear hb0
          cases hn : nd (top ip (i + 1)) (i + 1) with
          | none =>
            rw [ptr_none hn] at kid
            have LE := Lib.hid (lon_end HT.out.trie hn h32)
            clear hn
            have hsV := HE.out.below.size
            have kcu0 : V.cell? ⟨w.heap.size + 1, 0, none⟩ = some (.int .u32 (rp oo)) := HE.out.cur.cell 0
            have kcu1 : V.cell? ⟨w.heap.size + 1, 1, none⟩ = some (.int .i64 (rn oo)) := HE.out.cur.cell 1
            have kcu2 : V.cell? ⟨w.heap.size + 1, 2, none⟩ = some (.int .i64 (rv oo)) := HE.out.cur.cell 2
            have krf0 := HE.out.res.frozen 0
            have krf1 := HE.out.res.frozen 1
            have krf2 := HE.out.res.frozen 2
            have kre0 : V.cell? ⟨w.heap.size, 0, none⟩ = some (.int .u32 0) := HE.out.res.cell 0
            have kre1 : V.cell? ⟨w.heap.size, 1, none⟩ = some (.int .i64 0) := HE.out.res.cell 1
            have kre2 : V.cell? ⟨w.heap.size, 2, none⟩ = some (.int .i64 0) := HE.out.res.cell 2
            go_wp2
            go_quiet ((go_at_call 28; exact quiet_left (BA.out _)))
            go_wp2
            simp only [Exit.jump]
            exact bodyPost_ret (res3 rfl _ _ w.heap.size _ (HE.out.drewN _).done rfl rfl) rfl ⟨by rw [LE.out, HE.out.best, HO.out]; rfl, below_set3 (below_drewN HE.out.below _) (Nat.le_refl _) _ _ _⟩
          | some b2 =>
            rw [ptr_some hn] at kid
            have HN := Lib.hid hn
            clear hn
            go_wp2
            go_quiet ((go_at_call 28; exact quiet_left (BA.out _)))
            go_wp2
            obtain ⟨V2, hV2⟩ : ∃ V2, V2 = V.drewN nq := ⟨_, rfl⟩
            have HE2 : Hid (Fe w V2 t ip i nd L oo) := Lib.hid (by rw [hV2]; exact HE.out.drewN _)
            have kid2 : V2.cell? ⟨b, 3, none⟩ = some (.pointer (some ⟨b2, 0, none⟩)) := by rw [hV2]; exact kid
            rw [← hV2]
            clear hV2 kid
            go_quiet ((go_at_call 28; exact quiet_left (BA.out _)))
            go_wp2
            go_step3
            refine ⟨rfl, ⟨i + 1, b2, oo, _, _, _, _, _, _, _, _, _, _, _, _, _, _, _, _, _, _, _, _, _, _, _, _, _, _, _, _, _, _, _, _, _, _, _, _, _, _, _, _, _, _, _, _, _, _, _, _, Lib.hid ((HE2.out.drewN _).next HT.out HN.out), (by rw [HO.out]; rfl), by omega⟩, ?_⟩
            simp [intOf]; omega
      · obtain rfl : i = 32 := by omega
        have hsV := HE.out.below.size
        have kcu0 : V.cell? ⟨w.heap.size + 1, 0, none⟩ = some (.int .u32 (rp oo)) := HE.out.cur.cell 0
        have kcu1 : V.cell? ⟨w.heap.size + 1, 1, none⟩ = some (.int .i64 (rn oo)) := HE.out.cur.cell 1
        have kcu2 : V.cell? ⟨w.heap.size + 1, 2, none⟩ = some (.int .i64 (rv oo)) := HE.out.cur.cell 2
        have krf0 := HE.out.res.frozen 0
        have krf1 := HE.out.res.frozen 1
        have krf2 := HE.out.res.frozen 2
        have kre0 : V.cell? ⟨w.heap.size, 0, none⟩ = some (.int .u32 0) := HE.out.res.cell 0
        have kre1 : V.cell? ⟨w.heap.size, 1, none⟩ = some (.int .i64 0) := HE.out.res.cell 1
        have kre2 : V.cell? ⟨w.heap.size, 2, none⟩ = some (.int .i64 0) := HE.out.res.cell 2
        go_wp2
        go_quiet (fail)
        go_wp2
        simp only [Exit.jump]
        exact bodyPost_ret (res3 rfl _ _ w.heap.size _ (HE.out.drewN _).done rfl rfl) rfl ⟨by rw [show lon L ip 33 = oo from HE.out.best, HO.out]; rfl, below_set3 (below_drewN HE.out.below _) (Nat.le_refl _) _ _ _⟩

end Go.Proofs.Ytlpnkfnmgcigbaa
