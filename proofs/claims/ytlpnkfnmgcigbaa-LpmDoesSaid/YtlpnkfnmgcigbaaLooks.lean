/- looks: a table's routes are the reference's. -/
import Derived.Test.YtlpnkfnmgcigbaaAll
import Derived.Test.YtlpnkfnmgcigbaaRef
import Derived.Test.YtlpnkfnmgcigbaaQuiet
namespace Go.Proofs.Ytlpnkfnmgcigbaa
open Go.RowKit Go.Shelf Lp
attribute [local go_sem] Oper.semAt_some

/-- A table and the reference's, of one list, side by side. -/
structure Both (n₀ : Nat) (W : World) (t : Nat) (nd : Nd) (x g : Nat) (L : List Rt) : Prop where
  tab : Tab W t nd L
  rf : Rf W x g L
  lo : ∀ k, Mine nd t k → k < n₀
  xlo : x < n₀
  glo : 0 < L.length → g < n₀
theorem Both.below {n₀ : Nat} {W W' : World} {t : Nat} {nd : Nd} {x g : Nat} {L : List Rt} (h : Both n₀ W t nd x g L) (hb : Below n₀ W W') : Both n₀ W' t nd x g L := by
  refine ⟨h.tab.keep fun k hk => hb.block k (h.lo k hk), ?_, h.lo, h.xlo, h.glo⟩
  obtain ⟨A, c, hB, hr, hg, hc⟩ := h.rf.row
  refine ⟨⟨A, c, (hb.block x h.xlo).trans hB, ?_, hg, hc⟩, h.rf.ne⟩
  refine ⟨hr.1, fun h0 => ?_⟩
  obtain ⟨ad, e, hlt, hcell⟩ := hr.2 h0
  have e2 := hg ad e
  have hgl := h.glo h0
  exact ⟨ad, e, Nat.lt_of_lt_of_le hlt hb.size, fun j u hu => (hb.cell (by rw [block_of_add]; omega)).trans (hcell j u hu)⟩

/-- looks, on its way: its boxes, and the lists of deferred calls that it holds. -/
structure Lk (w W : World) (x Br : Nat) (r : Int) (Ds : List Nat) (B : Nat) : Prop where
  b3 : Blk W w.heap.size 27 #[.pointer (some ⟨x, 0, none⟩)]
  b4 : Blk W (w.heap.size + 1) 4 #[.bool false]
  br : Blk W Br 3 #[.int .i64 r]
  lo : w.heap.size + 2 ≤ Br
  bel : Below w.heap.size w W
  ds : ∀ D ∈ Ds, W.heap[D]? = some (.deferred (some [])) ∧ D < B ∧ w.heap.size ≤ D
  nodup : Ds.Nodup

theorem blk_other {W W' : World} {row : Option Nat} {g : Nat} {t : TypeId} {cs : Array Value} (h : Blk W g t cs) (hg : W.grownBy W' row) (hr : ∀ r, row = some r → ∃ o : Obj, W.heap[r]? = some o ∧ o.isCells = false) : Blk W' g t cs := by
  refine h.grown hg fun e => ?_
  obtain ⟨o, ho, hc⟩ := hr g e.symm
  unfold Blk at h
  rw [h] at ho
  cases ho
  cases hc
section
variable {w W W' : World} {x Br B : Nat} {r : Int} {Ds : List Nat}
theorem Lk.grown {row : Option Nat} (h : Lk w W x Br r Ds B) (hB : w.heap.size ≤ B) (hg : W.grownBy W' row) (hr : ∀ k, row = some k → B ≤ k ∧ ∃ o : Obj, W.heap[k]? = some o ∧ o.isCells = false) : Lk w W' x Br r Ds B :=
  ⟨blk_other h.b3 hg fun k e => (hr k e).2, blk_other h.b4 hg fun k e => (hr k e).2, blk_other h.br hg fun k e => (hr k e).2, h.lo, h.bel.grown hg h.bel.size (fun k e => by have := (hr k e).1; omega),
   fun D hD => ⟨(hg.block D (Array.getElem?_eq_some_iff.1 (h.ds D hD).1).1 (fun e => by have := (hr D e.symm).1; have := (h.ds D hD).2.1; omega)).trans (h.ds D hD).1, (h.ds D hD).2⟩, h.nodup⟩
theorem Lk.next (h : Lk w W x Br r Ds B) (hb : Below W.heap.size W W') : Lk w W' x Br r Ds B :=
  ⟨h.b3.below hb h.b3.lt, h.b4.below hb h.b4.lt, h.br.below hb h.br.lt, h.lo, h.bel.trans (hb.mono h.bel.size),
   fun D hD => ⟨(hb.block D (Array.getElem?_eq_some_iff.1 (h.ds D hD).1).1).trans (h.ds D hD).1, (h.ds D hD).2⟩, h.nodup⟩
theorem Lk.alloc (h : Lk w W x Br r Ds B) (o : Obj) : Lk w (W.alloc o) x Br r Ds B := h.next ((Below.refl _ _).alloc (Nat.le_refl _) o)
theorem Lk.more {B' : Nat} (h : Lk w W x Br r Ds B) (hB : B ≤ B') : Lk w W x Br r Ds B' := ⟨h.b3, h.b4, h.br, h.lo, h.bel, fun D hD => ⟨(h.ds D hD).1, by have := (h.ds D hD).2.1; omega, (h.ds D hD).2.2⟩, h.nodup⟩
theorem Lk.drewN (h : Lk w W x Br r Ds B) (n : Nat) : Lk w (W.drewN n) x Br r Ds B := h.next (below_drewN (Below.refl _ _) n)
theorem Lk.store (h : Lk w W x Br r Ds B) {p : Addr} {t : TypeId} {cs : Array Value} (hp : Blk W p.block t cs) (h1 : w.heap.size + 2 ≤ p.block) (h2 : p.block ≠ Br) (u : Value) : Lk w (W.setCell p u) x Br r Ds B := by
  refine ⟨h.b3.far (by omega) u, h.b4.far (by omega) u, h.br.far (Ne.symm h2) u, h.lo, h.bel.setCell (by omega) u, fun D hD => ⟨?_, (h.ds D hD).2⟩, h.nodup⟩
  rw [Below.heap_setCell W p u D (fun e => by
    have h3 := (h.ds D hD).1
    unfold Blk at hp
    rw [e, hp] at h3; cases h3)]
  exact (h.ds D hD).1
end
theorem not_prefix {pr L : List Rt} {y o : Rt} (h : L[pr.length]? = some o) (hne : ¬ y = o) : ¬ (pr ++ [y]) <+: L := by
  rintro ⟨t, rfl⟩
  simp at h
  exact hne h
/-- As Q, where it ends; no other way out. -/
def calm (Q : Exit → Act → World → Prop) : Exit → Act → World → Prop
  | .normal, a, w => Q .normal a w
  | _, _, _ => False
theorem wpIn_calm {F : Fence} {n : Nat} {P : Program} {c : Code} {Q : Exit → Act → World → Prop} {a : Act} {w : World} (h : c.wpIn F n P (calm Q) a w) : c.wpIn F n P Q a w :=
  wpIn_mono h fun e a w q => by cases e <;> first | exact q | exact q.elim
theorem leave_all {F : Fence} {n : Nat} {P : Program} {fn : Func} {tmps : Array Value} {R : Ending → World → Prop} {n₀ : Nat} : ∀ (Ds : List Nat) (W : World), (∀ D ∈ Ds, W.heap[D]? = some (.deferred (some [])) ∧ n₀ ≤ D) → Ds.Nodup → n₀ ≤ W.heap.size →
    (∀ W', Below n₀ W W' → (∀ g t cs, Blk W g t cs → Blk W' g t cs) → LeavesIn F n P fn tmps R [] .returning W') → LeavesInM F n P fn tmps R (Ds.map fun D => { target := .collected D, args := #[] }) .returning W
  | [], W, _, _, _, h => h W (Below.refl _ _) fun _ _ _ q => q
  | D :: Ds, W, hd, hn, hs, h => by
    obtain ⟨hnd, hn'⟩ := List.nodup_cons.1 hn
    have hD := hd D (List.mem_cons_self ..)
    have hg : W.grownBy (W.putObj D (.deferred none)) (some D) := grownBy_putObj' W D (.deferred none)
    have hb : Below n₀ W (W.putObj D (.deferred none)) := (Below.refl n₀ W).grown hg hs (fun k e => by cases e; exact hD.2)
    have hsame : ∀ k, k ≠ D → k < W.heap.size → (W.putObj D (.deferred none)).heap[k]? = W.heap[k]? := fun k hk hlt => hg.block k hlt (fun e => hk (Option.some.inj e))
    refine ⟨by simp, .inl ⟨D, _, rfl, run_takeDeferred hD.1, leave_all Ds _ (fun D' hD' => ⟨?_, (hd D' (List.mem_cons_of_mem _ hD')).2⟩) hn' (Nat.le_trans hs hb.size) fun W' hW hBk => h W' (hb.trans hW) fun g t cs hB => hBk g t cs ?_⟩⟩
    · have h1 := (hd D' (List.mem_cons_of_mem _ hD')).1
      rw [hsame D' (fun e => hnd (e ▸ hD')) (Array.getElem?_eq_some_iff.1 h1).1]
      exact h1
    · refine (hsame g (fun e => ?_) hB.lt).trans hB
      have h1 := hD.1
      unfold Blk at hB
      rw [← e, hB] at h1; cases h1
def mu5 (a : Act) (W : World) : Nat := match a.tmps.getD 5 undef with | .pointer (some p) => 2 - (intOf ((W.cell? p).getD undef)).toNat | _ => 0


set_option maxRecDepth 100000 in
set_option maxHeartbeats 8000000 in
theorem looks_any (t : Nat) (nd : Nd) (x g : Nat) (L : List Rt) (w : World) (h : Both w.heap.size w t nd x g L) (hL : L.length ≤ 4398046511104) :
    Calls Try.prog 14 #[.pointer (some ⟨t, 0, none⟩), .pointer (some ⟨x, 0, none⟩)] w fun e w' => e = .returned (.bool true) ∧ Below w.heap.size w w' := by
  have HB := Lib.hid h
  clear h
  refine (callsIn_wide (n := 9)).1 ?_
  refine callsIn_of_wp_marks Try.func14 rfl trivial ?_ rfl
  simp only [Try.ntmps14, List.size_toArray, List.length_cons, List.length_nil, Nat.reduceAdd, Nat.reduceSub, Array.replicate_succ, Array.replicate_zero, List.push_toArray, List.append_toArray, List.nil_append, List.cons_append]
  gi_wp2_with fail
  refine wpIn_loop (fun a' W => ∃ (r Br : Nat) (Ds : List Nat) (u6 u7 u8 u9 u10 u11 u12 u13 u14 u15 u16 u17 u18 u19 u20 u21 u22 u23 u24 u25 u26 u27 u28 u29 u30 u31 u32 u33 u34 u35 u36 u37 u38 u39 u40 u41 u42 u43 u44 u45 u46 u47 u48 u49 u50 u51 u52 u53 u54 u55 u56 u57 u58 u59 u60 u61 u62 u63 u64 u65 u66 u67 : Value), r ≤ 2 ∧ Hid (Lk w W x Br r Ds W.heap.size) ∧ a' = { tmps := #[.pointer (some ⟨t, 0, none⟩), .pointer (some ⟨x, 0, none⟩), undef, .pointer (some ⟨w.heap.size, 0, none⟩), .pointer (some ⟨w.heap.size + 1, 0, none⟩), .pointer (some ⟨Br, 0, none⟩), u6, u7, u8, u9, u10, u11, u12, u13, u14, u15, u16, u17, u18, u19, u20, u21, u22, u23, u24, u25, u26, u27, u28, u29, u30, u31, u32, u33, u34, u35, u36, u37, u38, u39, u40, u41, u42, u43, u44, u45, u46, u47, u48, u49, u50, u51, u52, u53, u54, u55, u56, u57, u58, u59, u60, u61, u62, u63, u64, u65, u66, u67], defers := Ds.map fun D => { target := .collected D, args := #[] } }) mu5 ?start ?round
  case start =>
    refine ⟨0, w.heap.size + 1 + 1, [], _, _, _, _, _, _, _, _, _, _, _, _, _, _, _, _, _, _, _, _, _, _, _, _, _, _, _, _, _, _, _, _, _, _, _, _, _, _, _, _, _, _, _, _, _, _, _, _, _, _, _, _, _, _, _, _, _, _, _, _, _, _, by omega, Lib.hid ⟨?_, ?_, ?_, by omega, ?_, fun D hD => (by cases hD), List.nodup_nil⟩, rfl⟩
    · exact ((Blk.new w 27 _).alloc _).alloc _
    · have := (Blk.new (w.alloc (.cells #[.pointer (some ⟨x, 0, none⟩)] 27)) 4 #[.bool false]).alloc (.cells #[.int .i64 0] 3)
      simpa using this
    · have := Blk.new ((w.alloc (.cells #[.pointer (some ⟨x, 0, none⟩)] 27)).alloc (.cells #[.bool false] 4)) 3 #[.int .i64 0]
      simpa using this
    · exact (((Below.refl _ w).alloc (Nat.le_refl _) _).alloc (by simp) _).alloc (by simp; omega) _
  case round =>
    rintro a' W ⟨r, Br, Ds, u6, u7, u8, u9, u10, u11, u12, u13, u14, u15, u16, u17, u18, u19, u20, u21, u22, u23, u24, u25, u26, u27, u28, u29, u30, u31, u32, u33, u34, u35, u36, u37, u38, u39, u40, u41, u42, u43, u44, u45, u46, u47, u48, u49, u50, u51, u52, u53, u54, u55, u56, u57, u58, u59, u60, u61, u62, u63, u64, u65, u66, u67, hr, HS, rfl⟩
    have cr := HS.out.br.cell 0
    by_cases hr2 : r < 2
    · gi_wp2_with fail
      have L1 := Lib.hid ((HS.out.alloc (.cells #[.int .i64 0] 3)).more (B' := W.heap.size + 1) (by omega))
      obtain ⟨W1, hW1, hz1, hb1⟩ := name_alloc W (.cells #[.int .i64 0] 3)
      have I1 : Hid (Blk W1 W.heap.size 3 #[.int .i64 0]) := Lib.hid (by rw [← hW1]; exact Blk.new _ _ _)
      have hlo := HS.out.bel.size
      have hbr := HS.out.br.lt
      have hlo2 := HS.out.b4.lt
      rw [hW1] at L1 ⊢
      have HZ1 := Lib.hid hz1
      clear hb1 hW1 cr hz1
      refine ⟨trivial, callsIn_wide.2 ((all_any _ W1).mono ?_)⟩
      rintro e W2 ⟨rfl, hw2⟩
      have hz2 : W2.heap.size = W1.heap.size + 1 := by rw [hw2]; simp
      have L2 := Lib.hid (L1.out.alloc (.cells #[.pointer (some ⟨t, 0, none⟩)] 24))
      have I2 := Lib.hid (I1.out.alloc (.cells #[.pointer (some ⟨t, 0, none⟩)] 24))
      rw [← hw2] at L2 I2
      have F1 := eql_func W2 ⟨W1.heap.size, 0, none⟩
      have HZ2 := Lib.hid hz2
      clear hw2 L1 I1 hz2
      gi_wp2_with fail
      clear F1
      refine ⟨trivial, callsIn_wide.2 ((all_any _ W2).mono ?_)⟩
      rintro e W3 ⟨rfl, hw3⟩
      have hz3 : W3.heap.size = W2.heap.size + 1 := by rw [hw3]; simp
      have hbx : W3.cell? ⟨W2.heap.size, 0, none⟩ = some (.pointer (some ⟨t, 0, none⟩)) := by rw [hw3]; exact (Blk.new W2 24 #[.pointer (some ⟨t, 0, none⟩)]).cell 0
      have L3 := Lib.hid ((L2.out.alloc (.cells #[.pointer (some ⟨t, 0, none⟩)] 24)).more (B' := W2.heap.size + 1) (by have := HZ1.out; have := HZ2.out; omega))
      have I3 := Lib.hid (I2.out.alloc (.cells #[.pointer (some ⟨t, 0, none⟩)] 24))
      rw [← hw3] at L3 I3
      rw [← hz3] at L3
      have HZ3 := Lib.hid hz3
      clear hw3 L2 I2 hz3
      gi_wp2_with fail
      obtain ⟨Bi, hBi⟩ : ∃ Bi, Bi = W.heap.size := ⟨_, rfl⟩
      rw [← hBi] at I3 hlo hbr hlo2 ⊢
      have HBI : Hid (Bi + 3 = W3.heap.size) := Lib.hid (by have := HZ1.out; have := HZ2.out; have := HZ3.out; omega)
      clear hBi
      obtain ⟨A, c, hXB, hXR, _, hXC⟩ := HB.out.rf.row
      have XB := Lib.hid hXB
      have XR := Lib.hid hXR
      have hX := HB.out.xlo
      clear hXB hXR
      have hn3 := L3.out.bel.size
      have HN3 := Lib.hid hn3
      refine wpIn_rangeFunc_ownH rfl (by omega) (encs := fun y : Rt => #[.agg #[.int .u32 y.p, .int .i64 y.n, .int .i64 y.v]]) (gf := 29) (lb := #[.pointer (some ⟨W2.heap.size, 0, none⟩)]) rfl trivial (enters_of Try.func29 (by kernel_rfl) rfl)
        (all_stops 8 t W2.heap.size w.heap.size nd L W3 (HB.out.tab.below L3.out.bel) HB.out.lo hn3 (by have := HZ3.out; omega) hbx) belowK_t (belowK_b hn3) (Below.refl _ _) (fun _ => rfl)
        (fun pr V => Lk w V x Br r Ds W3.heap.size ∧ Blk V Bi 3 #[.int .i64 pr.length] ∧ (r = 0 → pr.length < 2))
        (fun cd pr V => (cd = .exit 2 ∧ r = 0 ∧ pr.length = 2 ∧ Lk w V x Br r Ds W3.heap.size ∧ Blk V Bi 3 #[.int .i64 2]) ∨ (cd = .ret ∧ ¬ pr <+: L))
        (fun pr V V' row hs hg hrow => ⟨hs.1.grown hn3 hg hrow, blk_other hs.2.1 hg fun k e => (hrow k e).2, hs.2.2⟩)
        (fun cd pr V V' row hs hg hrow => by
          rcases hs with ⟨e1, e2, e3, e4, e5⟩ | hs
          · exact .inl ⟨e1, e2, e3, e4.grown hn3 hg hrow, blk_other e5 hg fun k e => (hrow k e).2⟩
          · exact .inr hs)
        ⟨L3.out, I3.out, fun _ => by simp⟩
        (fun y a'' V => ∃ Bx, Blk V Bx 37 #[.int .u32 y.p, .int .i64 y.n, .int .i64 y.v] ∧ Bi < Bx ∧ a'' = { tmps := #[.pointer (some ⟨t, 0, none⟩), .pointer (some ⟨x, 0, none⟩), undef, .pointer (some ⟨w.heap.size, 0, none⟩), .pointer (some ⟨w.heap.size + 1, 0, none⟩), .pointer (some ⟨Br, 0, none⟩), .pointer (some ⟨Bi, 0, none⟩), .pointer (some ⟨Bx, 0, none⟩), .int .i64 r, .bool true, u10, u11, .pointer (some ⟨t, 0, none⟩), .func (.func 29) #[] #[.pointer (some ⟨W1.heap.size, 0, none⟩)], .bool false, .pointer (some ⟨t, 0, none⟩), .func (.func 29) #[] #[.pointer (some ⟨W2.heap.size, 0, none⟩)], .agg #[.int .u32 y.p, .int .i64 y.n, .int .i64 y.v], u18, u19, u20, u21, u22, u23, u24, u25, u26, u27, u28, u29, u30, u31, u32, u33, u34, u35, u36, u37, u38, u39, u40, u41, u42, u43, u44, u45, u46, u47, u48, u49, u50, u51, u52, u53, u54, u55, u56, u57, u58, u59, u60, u61, u62, u63, u64, u65, u66, u67], defers := [] })
        (fun y a'' u V V' row hs hg hrow => by obtain ⟨Bx, h1, h2⟩ := hs; exact ⟨Bx, blk_other h1 hg fun k e => (hrow k e).2, h2⟩) ?assign ?body ?done ?stop
      case assign =>
        intro l pr y V K hI hK
        gi_wp2_with fail
        refine hK _ _ ((KeepsOthers.alloc _ _).from _) ((Below.refl _ V).alloc hI.1.bel.size _) ⟨hI.1.alloc _, hI.2.1.alloc _, hI.2.2⟩ ⟨V.heap.size, Blk.new _ _ _, hI.2.1.lt, rfl⟩
      case body =>
        rintro l pr y a'' V hl ⟨rr, hrr⟩ ⟨hLk, hBi', hlt⟩ ⟨Bx, hBx, hlt2, rfl⟩ hN
        have hmx : Try.prog.follows .mixedOrders = true := by kernel_rfl
        have ci : V.cell? ⟨Bi, 0, none⟩ = some (.int .i64 pr.length) := hBi'.cell 0
        have fi' := hBi'.frozen 0
        have ci3 : V.cell? ⟨w.heap.size, 0, none⟩ = some (.pointer (some ⟨x, 0, none⟩)) := hLk.b3.cell 0
        have ci4 : V.cell? ⟨w.heap.size + 1, 0, none⟩ = some (.bool false) := hLk.b4.cell 0
        have fi4 := hLk.b4.frozen 0
        have ci5 : V.cell? ⟨Br, 0, none⟩ = some (.int .i64 r) := hLk.br.cell 0
        have cx : V.cell? ⟨x, 0, none⟩ = some (.slice A L.length c) := (XB.out.below hLk.bel hX).cell 0
        have b0 : V.cell? ⟨Bx, 0, none⟩ = some (.int .u32 y.p) := hBx.cell 0
        have b1 : V.cell? ⟨Bx, 1, none⟩ = some (.int .i64 y.n) := hBx.cell 1
        have b2 : V.cell? ⟨Bx, 2, none⟩ = some (.int .i64 y.v) := hBx.cell 2
        obtain ⟨ad, hA, hab, hab3, e0, e1, e2⟩ := rt_cells XR.out hN
        rw [← hLk.bel.cell (by first | exact hab | exact hab3)] at e0 e1 e2
        have HLK := Lib.hid hLk
        have HBI2 := Lib.hid hBi'
        have HLO := Lib.hid hLk.lo
        have HOI : Hid (L[pr.length]? = some L[pr.length]) := Lib.hid (List.getElem?_eq_getElem hN)
        clear hLk hBi' hBx hrr hab hab3
        generalize L[pr.length] = o at *
        obtain ⟨op, on, ov⟩ := o
        obtain ⟨yp, yn, yv⟩ := y
        simp only at e0 e1 e2 b0 b1 b2
        have DT : decide (L.length ≤ pr.length) = false := by simp; omega
        by_cases hp : yp = op
        · subst hp
          by_cases hn' : yn = on
          · subst hn'
            by_cases hv : yv = ov
            · subst hv
              by_cases r0 : r = 0
              · subst r0
                have hlt' := hlt rfl
                by_cases l1 : pr.length = 1
                · have l2 : ((pr.length : Int) + 1 == 2) = true := by simp; omega
                  have HL1 := Lib.hid l1
                  clear l1
                  gi_wp2_with fail
                  refine wpIn_region_quiet_round rfl (by kernel_rfl) hmx (by kernel_rfl) ?_
                  repeat (gi_big_quiet_step (fail))
                  refine wpQuietIn_nil ?_
                  rintro _ ⟨nq, rfl⟩
                  gi_wp2_with fail
                  have kd : KeepsOthers V (V.drewN nq) := ⟨Nat.le_refl _, fun _ _ h _ => h⟩
                  have hkf : KeepsFrom W3.heap.size V ((V.drewN nq).setCell ⟨Bi, 0, none⟩ (.int .i64 ((pr.length : Int) + 1))) := (kd.trans (KeepsOthers.setCell _ _ _)).from _
                  have hbl : Below w.heap.size V ((V.drewN nq).setCell ⟨Bi, 0, none⟩ (.int .i64 ((pr.length : Int) + 1))) := (below_drewN (Below.refl _ _) nq).setCell (p := ⟨Bi, 0, none⟩) hlo _
                  have hlk := (HLK.out.drewN nq).store (p := ⟨Bi, 0, none⟩) (HBI2.out.drewN nq) (by simp; omega) (by simp; omega) (.int .i64 ((pr.length : Int) + 1))
                  have hbi : Blk ((V.drewN nq).setCell ⟨Bi, 0, none⟩ (.int .i64 ((pr.length : Int) + 1))) Bi 3 #[.int .i64 ((pr.length : Int) + 1)] := by have := (HBI2.out.drewN nq).set_ 0 (.int .i64 ((pr.length : Int) + 1)); simpa using this
                  exact ⟨hkf, .inl ⟨rfl, by have := HL1.out; simp; omega, hlk, by rw [show (2 : Int) = (pr.length : Int) + 1 by have := HL1.out; omega]; exact hbi⟩⟩
                · have l2 : ((pr.length : Int) + 1 == 2) = false := by simp; omega
                  have HL1 : Hid (pr.length + 1 < 2) := Lib.hid (by omega)
                  clear l1
                  gi_wp2_with fail
                  refine wpIn_region_quiet_round rfl (by kernel_rfl) hmx (by kernel_rfl) ?_
                  repeat (gi_big_quiet_step (fail))
                  refine wpQuietIn_nil ?_
                  rintro _ ⟨nq, rfl⟩
                  gi_wp2_with fail
                  have kd : KeepsOthers V (V.drewN nq) := ⟨Nat.le_refl _, fun _ _ h _ => h⟩
                  have hkf : KeepsFrom W3.heap.size V ((V.drewN nq).setCell ⟨Bi, 0, none⟩ (.int .i64 ((pr.length : Int) + 1))) := (kd.trans (KeepsOthers.setCell _ _ _)).from _
                  have hbl : Below w.heap.size V ((V.drewN nq).setCell ⟨Bi, 0, none⟩ (.int .i64 ((pr.length : Int) + 1))) := (below_drewN (Below.refl _ _) nq).setCell (p := ⟨Bi, 0, none⟩) hlo _
                  have hlk := (HLK.out.drewN nq).store (p := ⟨Bi, 0, none⟩) (HBI2.out.drewN nq) (by simp; omega) (by simp; omega) (.int .i64 ((pr.length : Int) + 1))
                  have hbi : Blk ((V.drewN nq).setCell ⟨Bi, 0, none⟩ (.int .i64 ((pr.length : Int) + 1))) Bi 3 #[.int .i64 ((pr.length : Int) + 1)] := by have := (HBI2.out.drewN nq).set_ 0 (.int .i64 ((pr.length : Int) + 1)); simpa using this
                  exact ⟨hkf, hbl, hlk, by simpa using hbi, by have := HL1.out; simp; omega⟩
              · have r0b : ((r : Int) == 0) = false := by simp; omega
                gi_wp2_with fail
                refine wpIn_region_quiet_round rfl (by kernel_rfl) hmx (by kernel_rfl) ?_
                repeat (gi_big_quiet_step (fail))
                refine wpQuietIn_nil ?_
                rintro _ ⟨nq, rfl⟩
                gi_wp2_with fail
                have kd : KeepsOthers V (V.drewN nq) := ⟨Nat.le_refl _, fun _ _ h _ => h⟩
                have hkf : KeepsFrom W3.heap.size V ((V.drewN nq).setCell ⟨Bi, 0, none⟩ (.int .i64 ((pr.length : Int) + 1))) := (kd.trans (KeepsOthers.setCell _ _ _)).from _
                have hbl : Below w.heap.size V ((V.drewN nq).setCell ⟨Bi, 0, none⟩ (.int .i64 ((pr.length : Int) + 1))) := (below_drewN (Below.refl _ _) nq).setCell (p := ⟨Bi, 0, none⟩) hlo _
                have hlk := (HLK.out.drewN nq).store (p := ⟨Bi, 0, none⟩) (HBI2.out.drewN nq) (by simp; omega) (by simp; omega) (.int .i64 ((pr.length : Int) + 1))
                have hbi : Blk ((V.drewN nq).setCell ⟨Bi, 0, none⟩ (.int .i64 ((pr.length : Int) + 1))) Bi 3 #[.int .i64 ((pr.length : Int) + 1)] := by have := (HBI2.out.drewN nq).set_ 0 (.int .i64 ((pr.length : Int) + 1)); simpa using this
                exact ⟨hkf, hbl, hlk, by simpa using hbi, fun h => absurd h r0⟩
            · have hvb : (yv == ov) = false := by simpa using hv
              gi_wp2_with fail
              refine wpIn_region_quiet_round rfl (by kernel_rfl) hmx (by kernel_rfl) ?_
              repeat (gi_big_quiet_step (fail))
              refine wpQuietIn_nil ?_
              rintro _ ⟨nq, rfl⟩
              gi_wp2_with fail
              exact ⟨((KeepsOthers.mk (Nat.le_refl _) fun _ _ h _ => h : KeepsOthers V (V.drewN nq)).trans (KeepsOthers.setCell _ _ _)).from _, .inr ⟨rfl, not_prefix HOI.out (by simp; omega)⟩⟩
          · have hnb : ((yn : Int) == (on : Int)) = false := by simp; omega
            gi_wp2_with fail
            refine wpIn_region_quiet_round rfl (by kernel_rfl) hmx (by kernel_rfl) ?_
            repeat (gi_big_quiet_step (fail))
            refine wpQuietIn_nil ?_
            rintro _ ⟨nq, rfl⟩
            gi_wp2_with fail
            exact ⟨((KeepsOthers.mk (Nat.le_refl _) fun _ _ h _ => h : KeepsOthers V (V.drewN nq)).trans (KeepsOthers.setCell _ _ _)).from _, .inr ⟨rfl, not_prefix HOI.out (by simp; omega)⟩⟩
        · have hpb : ((yp : Int) == (op : Int)) = false := by simp; omega
          gi_wp2_with fail
          refine wpIn_region_quiet_round rfl (by kernel_rfl) hmx (by kernel_rfl) ?_
          repeat (gi_big_quiet_step (fail))
          refine wpQuietIn_nil ?_
          rintro _ ⟨nq, rfl⟩
          gi_wp2_with fail
          exact ⟨((KeepsOthers.mk (Nat.le_refl _) fun _ _ h _ => h : KeepsOthers V (V.drewN nq)).trans (KeepsOthers.setCell _ _ _)).from _, .inr ⟨rfl, not_prefix HOI.out (by simp; omega)⟩⟩
      case done =>
        rintro D ys V hD rfl ⟨hLk, hBi', _⟩ hK
        have ci : V.cell? ⟨Bi, 0, none⟩ = some (.int .i64 ys.length) := hBi'.cell 0
        have hltD : D < V.heap.size := (Array.getElem?_eq_some_iff.1 hK).1
        have ci3 : V.cell? ⟨w.heap.size, 0, none⟩ = some (.pointer (some ⟨x, 0, none⟩)) := hLk.b3.cell 0
        have ci5 : V.cell? ⟨Br, 0, none⟩ = some (.int .i64 r) := hLk.br.cell 0
        have cx : V.cell? ⟨x, 0, none⟩ = some (.slice A ys.length c) := (XB.out.below hLk.bel hX).cell 0
        have HK := Lib.hid hK
        have HLK := Lib.hid hLk
        clear hLk hBi' hK
        gi_wp2_with fail
        gi_quiet (fail)
        obtain ⟨V2, hV2⟩ : ∃ V2, V2 = V.drewN nq := ⟨_, rfl⟩
        have HLK2 : Hid (Lk w V2 x Br r Ds W3.heap.size) := Lib.hid (by rw [hV2]; exact HLK.out.drewN _)
        have ci52 : V2.cell? ⟨Br, 0, none⟩ = some (.int .i64 r) := by rw [hV2]; exact ci5
        have HK2 : Hid (V2.heap[D]? = some (.deferred (some [])) ∧ D < V2.heap.size) := Lib.hid (by rw [hV2]; exact ⟨HK.out, hltD⟩)
        rw [← hV2]
        clear hV2 ci ci3 ci5 cx HLK HK hltD
        gi_wp2_with fail
        refine ⟨⟨r + 1, V2.heap.size, D :: Ds, _, _, _, _, _, _, _, _, _, _, _, _, _, _, _, _, _, _, _, _, _, _, _, _, _, _, _, _, _, _, _, _, _, _, _, _, _, _, _, _, _, _, _, _, _, _, _, _, _, _, _, _, _, _, _, _, _, _, _, _, _, _, by omega, Lib.hid ?LK, rfl⟩, ?MU⟩
        case LK =>
          have b1 := HLK2.out.alloc (.cells #[.int .i64 ((r : Int) + 1)] 3)
          have hs : Blk (V2.alloc (.cells #[.int .i64 ((r : Int) + 1)] 3)) V2.heap.size 3 #[.int .i64 ((r : Int) + 1)] := Blk.new _ _ _
          have hq4 := HLK2.out.b4.lt
          have hltD := HK2.out.2
          refine ⟨b1.b3, b1.b4, by simpa using hs, by omega, b1.bel, ?_, ?_⟩
          · intro D' hD'
            rcases List.mem_cons.1 hD' with rfl | hD'
            · refine ⟨?_, by simp; omega, by have := HN3.out; omega⟩
              rw [Below.heap_alloc _ _ _ hltD]
              exact HK2.out.1
            · have h1 := b1.ds D' hD'
              have h2 := (Array.getElem?_eq_some_iff.1 h1.1).1
              exact ⟨h1.1, h2, h1.2.2⟩
          · refine List.nodup_cons.2 ⟨fun hm => ?_, HLK2.out.nodup⟩
            have := (HLK2.out.ds D hm).2.1
            omega
        case MU =>
          have c1 : (V2.alloc (.cells #[.int .i64 ((r : Int) + 1)] 3)).cell? ⟨V2.heap.size, 0, none⟩ = some (.int .i64 ((r : Int) + 1)) := (Blk.new V2 3 _).cell 0
          have c2 : W.cell? ⟨Br, 0, none⟩ = some (.int .i64 r) := HS.out.br.cell 0
          simp [mu5, c1, c2, intOf]
          omega
      case stop =>
        rintro D cd pr V hD hpre hIx hK
        rcases hIx with ⟨rfl, r0, hl2, hLk, hBi'⟩ | ⟨_, hno⟩
        · have r0b : ((r : Int) == 0) = true := by simp; omega
          clear r0
          by_cases hl2' : L.length = 2
          · have l3 : ((2 : Int) == (L.length : Int)) = true := by simp; omega
            have l4 : ((2 : Int) != (L.length : Int)) = false := by simp; omega
            have r1b : ((r : Int) != 0) = false := by simpa using r0b
            have HL2 := Lib.hid hl2'
            clear hl2'
            have ci : V.cell? ⟨Bi, 0, none⟩ = some (.int .i64 2) := hBi'.cell 0
            have hltD : D < V.heap.size := (Array.getElem?_eq_some_iff.1 hK).1
            have ci3 : V.cell? ⟨w.heap.size, 0, none⟩ = some (.pointer (some ⟨x, 0, none⟩)) := hLk.b3.cell 0
            have ci5 : V.cell? ⟨Br, 0, none⟩ = some (.int .i64 r) := hLk.br.cell 0
            have cx : V.cell? ⟨x, 0, none⟩ = some (.slice A L.length c) := (XB.out.below hLk.bel hX).cell 0
            have HK := Lib.hid hK
            have HLK := Lib.hid hLk
            clear hLk hBi' hK
            gi_wp2_with fail
            gi_quiet (fail)
            obtain ⟨V2, hV2⟩ : ∃ V2, V2 = V.drewN nq := ⟨_, rfl⟩
            have HLK2 : Hid (Lk w V2 x Br r Ds W3.heap.size) := Lib.hid (by rw [hV2]; exact HLK.out.drewN _)
            have ci52 : V2.cell? ⟨Br, 0, none⟩ = some (.int .i64 r) := by rw [hV2]; exact ci5
            have HK2 : Hid (V2.heap[D]? = some (.deferred (some [])) ∧ D < V2.heap.size) := Lib.hid (by rw [hV2]; exact ⟨HK.out, hltD⟩)
            rw [← hV2]
            clear hV2 ci ci3 ci5 cx HLK HK hltD
            gi_wp2_with fail
            refine ⟨⟨r + 1, V2.heap.size, D :: Ds, _, _, _, _, _, _, _, _, _, _, _, _, _, _, _, _, _, _, _, _, _, _, _, _, _, _, _, _, _, _, _, _, _, _, _, _, _, _, _, _, _, _, _, _, _, _, _, _, _, _, _, _, _, _, _, _, _, _, _, _, _, _, by omega, Lib.hid ?LK, rfl⟩, ?MU⟩
            case LK =>
              have b1 := HLK2.out.alloc (.cells #[.int .i64 ((r : Int) + 1)] 3)
              have hs : Blk (V2.alloc (.cells #[.int .i64 ((r : Int) + 1)] 3)) V2.heap.size 3 #[.int .i64 ((r : Int) + 1)] := Blk.new _ _ _
              have hq4 := HLK2.out.b4.lt
              have hltD := HK2.out.2
              refine ⟨b1.b3, b1.b4, by simpa using hs, by omega, b1.bel, ?_, ?_⟩
              · intro D' hD'
                rcases List.mem_cons.1 hD' with rfl | hD'
                · refine ⟨?_, by simp; omega, by have := HN3.out; omega⟩
                  rw [Below.heap_alloc _ _ _ hltD]
                  exact HK2.out.1
                · have h1 := b1.ds D' hD'
                  have h2 := (Array.getElem?_eq_some_iff.1 h1.1).1
                  exact ⟨h1.1, h2, h1.2.2⟩
              · refine List.nodup_cons.2 ⟨fun hm => ?_, HLK2.out.nodup⟩
                have := (HLK2.out.ds D hm).2.1
                omega
            case MU =>
              have c1 : (V2.alloc (.cells #[.int .i64 ((r : Int) + 1)] 3)).cell? ⟨V2.heap.size, 0, none⟩ = some (.int .i64 ((r : Int) + 1)) := (Blk.new V2 3 _).cell 0
              have c2 : W.cell? ⟨Br, 0, none⟩ = some (.int .i64 r) := HS.out.br.cell 0
              simp [mu5, c1, c2, intOf]
              omega
          · have l3 : ((2 : Int) == (L.length : Int)) = false := by simp; omega
            have l4 : ((2 : Int) != (L.length : Int)) = true := by simp; omega
            have r1b : ((r : Int) != 0) = false := by simpa using r0b
            clear hl2'
            have ci : V.cell? ⟨Bi, 0, none⟩ = some (.int .i64 2) := hBi'.cell 0
            have hltD : D < V.heap.size := (Array.getElem?_eq_some_iff.1 hK).1
            have ci3 : V.cell? ⟨w.heap.size, 0, none⟩ = some (.pointer (some ⟨x, 0, none⟩)) := hLk.b3.cell 0
            have ci5 : V.cell? ⟨Br, 0, none⟩ = some (.int .i64 r) := hLk.br.cell 0
            have cx : V.cell? ⟨x, 0, none⟩ = some (.slice A L.length c) := (XB.out.below hLk.bel hX).cell 0
            have HK := Lib.hid hK
            have HLK := Lib.hid hLk
            clear hLk hBi' hK
            gi_wp2_with fail
            gi_quiet (fail)
            obtain ⟨V2, hV2⟩ : ∃ V2, V2 = V.drewN nq := ⟨_, rfl⟩
            have HLK2 : Hid (Lk w V2 x Br r Ds W3.heap.size) := Lib.hid (by rw [hV2]; exact HLK.out.drewN _)
            have ci52 : V2.cell? ⟨Br, 0, none⟩ = some (.int .i64 r) := by rw [hV2]; exact ci5
            have HK2 : Hid (V2.heap[D]? = some (.deferred (some [])) ∧ D < V2.heap.size) := Lib.hid (by rw [hV2]; exact ⟨HK.out, hltD⟩)
            rw [← hV2]
            clear hV2 ci ci3 ci5 cx HLK HK hltD
            gi_wp2_with fail
            refine ⟨⟨r + 1, V2.heap.size, D :: Ds, _, _, _, _, _, _, _, _, _, _, _, _, _, _, _, _, _, _, _, _, _, _, _, _, _, _, _, _, _, _, _, _, _, _, _, _, _, _, _, _, _, _, _, _, _, _, _, _, _, _, _, _, _, _, _, _, _, _, _, _, _, _, by omega, Lib.hid ?LK, rfl⟩, ?MU⟩
            case LK =>
              have b1 := HLK2.out.alloc (.cells #[.int .i64 ((r : Int) + 1)] 3)
              have hs : Blk (V2.alloc (.cells #[.int .i64 ((r : Int) + 1)] 3)) V2.heap.size 3 #[.int .i64 ((r : Int) + 1)] := Blk.new _ _ _
              have hq4 := HLK2.out.b4.lt
              have hltD := HK2.out.2
              refine ⟨b1.b3, b1.b4, by simpa using hs, by omega, b1.bel, ?_, ?_⟩
              · intro D' hD'
                rcases List.mem_cons.1 hD' with rfl | hD'
                · refine ⟨?_, by simp; omega, by have := HN3.out; omega⟩
                  rw [Below.heap_alloc _ _ _ hltD]
                  exact HK2.out.1
                · have h1 := b1.ds D' hD'
                  have h2 := (Array.getElem?_eq_some_iff.1 h1.1).1
                  exact ⟨h1.1, h2, h1.2.2⟩
              · refine List.nodup_cons.2 ⟨fun hm => ?_, HLK2.out.nodup⟩
                have := (HLK2.out.ds D hm).2.1
                omega
            case MU =>
              have c1 : (V2.alloc (.cells #[.int .i64 ((r : Int) + 1)] 3)).cell? ⟨V2.heap.size, 0, none⟩ = some (.int .i64 ((r : Int) + 1)) := (Blk.new V2 3 _).cell 0
              have c2 : W.cell? ⟨Br, 0, none⟩ = some (.int .i64 r) := HS.out.br.cell 0
              simp [mu5, c1, c2, intOf]
              omega
        · exact absurd hpre hno
    · obtain rfl : r = 2 := by omega
      have hq := HS.out.b3.lt
      have ci3 : W.cell? ⟨w.heap.size, 0, none⟩ = some (.pointer (some ⟨x, 0, none⟩)) := HS.out.b3.cell 0
      have ci4 : W.cell? ⟨w.heap.size + 1, 0, none⟩ = some (.bool false) := HS.out.b4.cell 0
      have fi4 := HS.out.b4.frozen 0
      obtain ⟨A, c, hXB, _, _, _⟩ := HB.out.rf.row
      have cx : W.cell? ⟨x, 0, none⟩ = some (.slice A L.length c) := (hXB.below HS.out.bel HB.out.xlo).cell 0
      clear hXB
      gi_wp2_with fail
      refine wpIn_calm ?_
      gi_region_with (refine ⟨trivial, ?_⟩; gi_at_call 17; refine (callsIn_wide.2 (len_yes t nd L _ ((HB.out.below HS.out.bel).tab.drewN 1))).mono ?_; rintro e w' ⟨rfl, rfl⟩)
      all_goals simp only [calm]
      all_goals gi_wp2_with fail
      all_goals
        have hs4 := ((HS.out.drewN 1).b4.set_ 0 (.bool true))
        have hbl : Below w.heap.size w ((W.drewN 1).setCell ⟨w.heap.size + 1, 0, none⟩ (.bool true)) := (HS.out.drewN 1).bel.setCell (p := ⟨w.heap.size + 1, 0, none⟩) (by simp) _
        refine leave_all (n₀ := w.heap.size) Ds _ (fun D hD => ⟨?_, (HS.out.ds D hD).2.2⟩) HS.out.nodup hbl.size (fun W' hW hBk => ?_)
        · have h1 := (HS.out.ds D hD).1
          rw [Below.heap_setCell _ _ _ _ (fun e => by
            have h2 := HS.out.b4
            unfold Blk at h2
            have e' : D = w.heap.size + 1 := e
            rw [e', h2] at h1; cases h1)]
          exact h1
        · have hc5 := (hBk _ _ _ hs4).cell 0
          refine ⟨.bool true, ?_, rfl, hbl.trans hW⟩
          simp [results, Try.f14, go_sem, hc5]
end Go.Proofs.Ytlpnkfnmgcigbaa
