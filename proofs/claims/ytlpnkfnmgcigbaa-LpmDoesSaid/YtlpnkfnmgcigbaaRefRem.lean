/- The reference's Get and Remove. -/
import Derived.Test.YtlpnkfnmgcigbaaRefAdd
namespace Go.Proofs.Ytlpnkfnmgcigbaa
open Go.RowKit Lp

/-- What Remove of the reference leaves. -/
structure RemR (w w1 : World) (x g g1 : Nat) (L1 : List Rt) : Prop where
  rf : Rf w1 x g1 L1
  new : (g1 = g ∧ w1 = w) ∨ (w.heap.size ≤ g1 ∧ (Blk w1 x 30 #[.slice none 0 0] ∨ g1 < w1.heap.size))
  only : Only (fun k => k = x) w w1

theorem Rf.made2 {W : World} {base x : Nat} {M : List Rt} {v u : Value} (hB : Blk W x 30 #[u]) (hx : x < base) (hown : W.ownsRow base 37 3 v M.length (rts M)) :
    ∃ g', Rf (W.setCell ⟨x, 0, none⟩ v) x g' M ∧ base ≤ g' ∧ (Blk (W.setCell ⟨x, 0, none⟩ v) x 30 #[.slice none 0 0] ∨ g' < W.heap.size) := by
  obtain ⟨g', h1, h2⟩ := Rf.made hB hx hown
  have hS : Blk (W.setCell ⟨x, 0, none⟩ v) x 30 #[v] := by have := hB.set_ 0 v; simpa using this
  rcases hown.2 with ⟨rfl, _⟩ | ⟨g, cap, cur, rfl, _, hg, _⟩
  · exact ⟨g', h1, h2, .inl hS⟩
  · obtain ⟨A, c, hB2, _, hga, _⟩ := h1.row
    have e : (#[Value.slice A M.length c] : Array Value) = #[.slice (some ⟨g, 0, none⟩) M.length cap] := by
      unfold Blk at hB2 hS
      rw [hB2] at hS
      injection hS with hS
      injection hS
    have e2 : Value.slice A M.length c = .slice (some ⟨g, 0, none⟩) M.length cap := by
      have := congrArg (fun a : Array Value => a[0]?) e
      simpa using this
    injection e2 with e3 _ _
    have := hga _ e3
    simp only at this
    exact ⟨g', h1, h2, .inr (by rw [← this]; exact (Array.getElem?_eq_some_iff.1 hg).1)⟩

theorem fi_wrong {L : List Rt} (hr : Right L) {p : Nat} {n : Int} (hp : p < 4294967296) (h : rightN p n = false) (i : Nat) : fi L p n i = -1 := by
  induction L generalizing i with
  | nil => rfl
  | cons r t ih =>
    unfold fi
    rw [if_neg]
    · exact ih (fun q hq => hr q (List.mem_cons_of_mem _ hq)) _
    · rintro ⟨rfl, rfl⟩
      have := hr r (List.mem_cons_self ..)
      have h2 : rightN r.p r.n = true := (rightN_ok hp).2 ⟨r.n, rfl, this.2.1, this.1, this.2.2⟩
      rw [h] at h2; cases h2

set_option maxRecDepth 100000 in
theorem rget_any (x g p : Nat) (n : Int) (L : List Rt) (w : World) (h : Rf w x g L) (hR : Right L) (hp : p < 4294967296) (hL : L.length ≤ 4398046511104) :
    Calls Try.prog 21 #[.pointer (some ⟨x, 0, none⟩), .int .u32 p, .int .i64 n] w fun e w' => e = .returned (.tuple #[.int .i64 (getV L p n), .bool (getB L p n)]) ∧ w = w' := by
  have FD := Lib.hid (rfind_any x g p n L w h (by omega))
  have key : (fi L p n 0 = -1 ∧ getV L p n = 0 ∧ getB L p n = false) ∨ ∃ (j : Nat) (v : Int), fi L p n 0 = j ∧ L[j]? = some ⟨p, n.toNat, v⟩ ∧ getV L p n = v ∧ getB L p n = true := by
    by_cases hr : rightN p n = true
    · obtain ⟨k, rfl, _⟩ := (rightN_ok hp).1 hr
      cases hl : lkp L p k with
      | none => exact .inl ⟨fi_none hl 0, by unfold getV; rw [if_pos hr, Int.toNat_natCast, hl]; rfl, by unfold getB; rw [hr, Int.toNat_natCast, hl]; rfl⟩
      | some v =>
        obtain ⟨j, hj, hm⟩ := fi_some hl 0
        exact .inr ⟨j, v, by simpa using hj, by simpa using hm, by unfold getV; rw [if_pos hr, Int.toNat_natCast, hl]; rfl, by unfold getB; rw [hr, Int.toNat_natCast, hl]; rfl⟩
    · have hr : rightN p n = false := by simpa using hr
      exact .inl ⟨fi_wrong hR hp hr 0, by unfold getV; rw [hr]; rfl, by unfold getB; rw [hr]; rfl⟩
  rcases key with ⟨e1, e2, e3⟩ | ⟨j, v, e1, e2, e3, e4⟩
  · rw [e1] at FD
    rw [e2, e3]
    clear e1 e2 e3 h
    go_enter Try.func21, Try.ntmps21
    go_wp2_with (go_at_call 24; refine FD.out.mono ?_; rintro e w' ⟨rfl, rfl⟩)
    go_ret2
    exact ⟨rfl, rfl⟩
  · rw [e1] at FD
    rw [e3, e4]
    obtain ⟨A, c, hB, hrd, _, hc⟩ := h.row
    have hjl : j < L.length := (List.getElem?_eq_some_iff.1 e2).1
    have ho : L[j] = ⟨p, n.toNat, v⟩ := (List.getElem?_eq_some_iff.1 e2).2
    obtain ⟨ad, rfl, hab, hab3, c0, c1, c2⟩ := rt_cells hrd hjl
    rw [ho] at c2
    have hx : w.cell? ⟨x, 0, none⟩ = some (.slice (some ad) L.length c) := hB.cell 0
    clear e1 e2 e3 e4 h hB ho c0 c1
    go_enter Try.func21, Try.ntmps21
    go_wp2_with (go_at_call 24; refine FD.out.mono ?_; rintro e w' ⟨rfl, rfl⟩)
    go_ret2
    exact ⟨rfl, rfl⟩

set_option maxRecDepth 100000 in
set_option maxHeartbeats 8000000 in
theorem rrem_any (x g p : Nat) (n : Int) (L : List Rt) (wr : World) (h : Rf wr x g L) (hS : Sorted L) (hp : p < 4294967296) (hL : L.length ≤ 4398046511104) :
    Calls Try.prog 18 #[.pointer (some ⟨x, 0, none⟩), .int .u32 p, .int .i64 n] wr fun e w' => e = .returned (.int .i64 (remC L p n)) ∧ ∃ g', RemR wr w' x g g' (remL L p n) := by
  have RT := Lib.hid (rright_any p n hp wr)
  have HF := Lib.hid h
  have FD := Lib.hid (rfind_any x g p n L wr h (by omega))
  by_cases hr : rightN p n = true
  · obtain ⟨n, rfl, hk⟩ := (rightN_ok hp).1 hr
    rw [hr] at RT
    cases hl : lkp L p n with
    | none =>
      have E : remC L p n = 4 := by unfold remC; rw [if_pos hr, Int.toNat_natCast, hl]; rfl
      have E2 : remL L p n = L := by unfold remL; rw [E]; rfl
      rw [E, E2]
      rw [fi_none hl 0] at FD
      clear E E2 hl hr h
      go_enter Try.func18, Try.ntmps18
      go_wp2_with (first
        | (go_at_call 23; refine RT.out.mono ?_; rintro e w' ⟨rfl, rfl⟩)
        | (go_at_call 24; refine FD.out.mono ?_; rintro e w' ⟨rfl, rfl⟩))
      go_ret
      exact ⟨rfl, g, HF.out, .inl ⟨rfl, rfl⟩, Only.refl _ _⟩
    | some v0 =>
      have E : remC L p n = 0 := by unfold remC; rw [if_pos hr, Int.toNat_natCast, hl]; rfl
      have E2 : remL L p n = del L p n := by unfold remL; rw [E, Int.toNat_natCast]; rfl
      rw [E, E2]
      obtain ⟨j, hj, hm⟩ := fi_some hl 0
      rw [Nat.zero_add] at hj
      rw [hj] at FD
      have EX : Hid (L.take j ++ L.drop (j + 1) = del L p n) := Lib.hid (del_at hS hm).symm
      have hjl : j < L.length := (List.getElem?_eq_some_iff.1 hm).1
      obtain ⟨A, c, hB, hrd, _, hc⟩ := h.row
      have hx : wr.cell? ⟨x, 0, none⟩ = some (.slice A L.length c) := hB.cell 0
      have HB := Lib.hid hB
      have HRD := Lib.hid hrd
      have HC := Lib.hid hc
      have HLEN := Lib.hid hL
      have HK : Hid (j + 1 ≤ L.length) := Lib.hid hjl
      clear E E2 hl hr h hB hj hm hrd
      go_enter Try.func18, Try.ntmps18
      go_wp2_with (first
        | (go_at_call 23; refine RT.out.mono ?_; rintro e w' ⟨rfl, rfl⟩)
        | (go_at_call 24; refine FD.out.mono ?_; rintro e w' ⟨rfl, rfl⟩))
      have hkc : j ≤ c := by have := HK.out; have := HC.out; omega
      have hkl2 : j + 1 ≤ L.length := HK.out
      have hkc1 : j + 1 ≤ c := by have := HC.out; omega
      have hj0 : j ≤ L.length := by omega
      have hkz : (j : Int) + 1 ≤ (L.length : Int) := by omega
      have hw1 : IntKind.i64.wrap ((j : Int) + 1) = (j : Int) + 1 := by have := HLEN.out; simp [IntKind.wrap, IntKind.signed, IntKind.bits]; omega
      have hp1 : (0 : Int) ≤ (j : Int) + 1 := by omega
      have hn1 : ((j : Int) + 1).toNat = j + 1 := by omega
      refine wp_region_last (S := fun w' => w'.cell? ⟨x, 0, none⟩ = some (.slice A L.length c)) 19 (by kernel_rfl) ?_
      obtain ⟨w0, hw0⟩ : ∃ w0, w0 = wr.drew := ⟨_, rfl⟩
      have hHeld : w0.cell? ⟨x, 0, none⟩ = some (.slice A L.length c) := by rw [hw0]; exact hx
      rw [← hw0]
      have HX : Hid (Blk w0 x 30 #[.slice A L.length c]) := Lib.hid (by rw [hw0]; exact HB.out.drew)
      have HR : Hid (Reads w0 w0.heap.size 3 A L.length (rts L)) := Lib.hid (by rw [hw0]; exact HRD.out.drew)
      have HO : Hid (Drew wr w0) := Lib.hid (by rw [hw0]; exact ⟨1, rfl⟩)
      clear hw0 hx
      refine upToLast.take (i := 0) (oi := ⟨some 18, _, _, _, _, _⟩) (v := ?_) rfl (by kernel_rfl) (by kernel_rfl) (by kernel_rfl) (by kernel_rfl) (fun _ _ _ h => h) (by decide) (Or.inl ⟨by rfl, ?_⟩) hHeld ?_
      rotate_left 1
      · (intro w hSw; (try dsimp only at hSw); go_simp; try with_reducible rfl)
      try simp only [Act.put, List.setIfInBounds_toArray, List.set_cons_zero, List.set_cons_succ]
      refine upToLast.take (i := 2) (oi := ⟨some 20, _, _, _, _, _⟩) (v := ?_) rfl (by kernel_rfl) (by kernel_rfl) (by kernel_rfl) (by kernel_rfl) (fun _ _ _ h => h) (by decide) (Or.inl ⟨by rfl, ?_⟩) hHeld ?_
      rotate_left 1
      · (intro w hSw; (try dsimp only at hSw); go_simp; try with_reducible rfl)
      try simp only [Act.put, List.setIfInBounds_toArray, List.set_cons_zero, List.set_cons_succ]
      refine upToLast.take (i := 3) (oi := ⟨some 21, _, _, _, _, _⟩) (v := ?_) rfl (by kernel_rfl) (by kernel_rfl) (by kernel_rfl) (by kernel_rfl) (fun _ _ _ h => h) (by decide) (Or.inl ⟨by rfl, ?_⟩) hHeld ?_
      rotate_left 1
      · (intro w hSw; (try dsimp only at hSw); go_simp; try with_reducible rfl)
      try simp only [Act.put, List.setIfInBounds_toArray, List.set_cons_zero, List.set_cons_succ]
      refine upToLast.take (i := 4) (oi := ⟨some 22, _, _, _, _, _⟩) (v := ?_) rfl (by kernel_rfl) (by kernel_rfl) (by kernel_rfl) (by kernel_rfl) (fun _ _ _ h => h) (by decide) (Or.inl ⟨by rfl, ?_⟩) hHeld ?_
      rotate_left 1
      · (intro w hSw; (try dsimp only at hSw); go_simp; try with_reducible rfl)
      try simp only [Act.put, List.setIfInBounds_toArray, List.set_cons_zero, List.set_cons_succ]
      refine upToLast.take (i := 5) (oi := ⟨some 23, _, _, _, _, _⟩) (v := ?_) rfl (by kernel_rfl) (by kernel_rfl) (by kernel_rfl) (by kernel_rfl) (fun _ _ _ h => h) (by decide) (Or.inl ⟨by rfl, ?_⟩) hHeld ?_
      rotate_left 1
      · (intro w hSw; (try dsimp only at hSw); go_simp; try with_reducible rfl)
      try simp only [Act.put, List.setIfInBounds_toArray, List.set_cons_zero, List.set_cons_succ]
      refine upToLast.take (i := 6) (oi := ⟨some 24, _, _, _, _, _⟩) (v := ?_) rfl (by kernel_rfl) (by kernel_rfl) (by kernel_rfl) (by kernel_rfl) (fun _ _ _ h => h) (by decide) (Or.inl ⟨by rfl, ?_⟩) hHeld ?_
      rotate_left 1
      · (intro w hSw; (try dsimp only at hSw); go_simp; try with_reducible rfl)
      try simp only [Act.put, List.setIfInBounds_toArray, List.set_cons_zero, List.set_cons_succ]
      refine upToLast.take (i := 7) (oi := ⟨some 25, _, _, _, _, _⟩) (v := ?_) rfl (by kernel_rfl) (by kernel_rfl) (by kernel_rfl) (by kernel_rfl) (fun _ _ _ h => h) (by decide) (Or.inl ⟨by rfl, ?_⟩) hHeld ?_
      rotate_left 1
      · (intro w hSw; (try dsimp only at hSw); go_simp; try with_reducible rfl)
      try simp only [Act.put, List.setIfInBounds_toArray, List.set_cons_zero, List.set_cons_succ]
      refine upToLast.take (i := 9) (oi := ⟨some 27, _, _, _, _, _⟩) (v := ?_) rfl (by kernel_rfl) (by kernel_rfl) (by kernel_rfl) (by kernel_rfl) (fun _ _ _ h => h) (by decide) (Or.inl ⟨by rfl, ?_⟩) hHeld ?_
      rotate_left 1
      · (intro w hSw; (try dsimp only at hSw); go_simp; try with_reducible rfl)
      try simp only [Act.put, List.setIfInBounds_toArray, List.set_cons_zero, List.set_cons_succ]
      refine upToLast.take (i := 10) (oi := ⟨some 28, _, _, _, _, _⟩) (v := ?_) rfl (by kernel_rfl) (by kernel_rfl) (by kernel_rfl) (by kernel_rfl) (fun _ _ _ h => h) (by decide) (Or.inl ⟨by rfl, ?_⟩) hHeld ?_
      rotate_left 1
      · (intro w hSw; (try dsimp only at hSw); go_simp; try with_reducible rfl)
      try simp only [Act.put, List.setIfInBounds_toArray, List.set_cons_zero, List.set_cons_succ]
      refine upToLast.take (i := 11) (oi := ⟨some 29, _, _, _, _, _⟩) (v := ?_) rfl (by kernel_rfl) (by kernel_rfl) (by kernel_rfl) (by kernel_rfl) (fun _ _ _ h => h) (by decide) (Or.inl ⟨by rfl, ?_⟩) hHeld ?_
      rotate_left 1
      · (intro w hSw; (try dsimp only at hSw); go_simp; try with_reducible rfl)
      try simp only [Act.put, List.setIfInBounds_toArray, List.set_cons_zero, List.set_cons_succ]
      refine upToLast.take (i := 12) (oi := ⟨some 30, _, _, _, _, _⟩) (v := ?_) rfl (by kernel_rfl) (by kernel_rfl) (by kernel_rfl) (by kernel_rfl) (fun _ _ _ h => h) (by decide) (Or.inl ⟨by rfl, ?_⟩) hHeld ?_
      rotate_left 1
      · (intro w hSw; (try dsimp only at hSw); go_simp; try with_reducible rfl)
      try simp only [Act.put, List.setIfInBounds_toArray, List.set_cons_zero, List.set_cons_succ]
      refine upToLast.take (i := 13) (oi := ⟨some 31, _, _, _, _, _⟩) (v := ?_) rfl (by kernel_rfl) (by kernel_rfl) (by kernel_rfl) (by kernel_rfl) (fun _ _ _ h => h) (by decide) (Or.inl ⟨by rfl, ?_⟩) hHeld ?_
      rotate_left 1
      · (intro w hSw; (try dsimp only at hSw); go_simp; try with_reducible rfl)
      try simp only [Act.put, List.setIfInBounds_toArray, List.set_cons_zero, List.set_cons_succ]
      refine upToLast.take (i := 14) (oi := ⟨some 32, _, _, _, _, _⟩) (v := ?_) rfl (by kernel_rfl) (by kernel_rfl) (by kernel_rfl) (by kernel_rfl) (fun _ _ _ h => h) (by decide) (Or.inl ⟨by rfl, ?_⟩) hHeld ?_
      rotate_left 1
      · (intro w hSw; (try dsimp only at hSw); go_simp; try with_reducible rfl)
      try simp only [Act.put, List.setIfInBounds_toArray, List.set_cons_zero, List.set_cons_succ]
      refine upToLast.take (i := 15) (oi := ⟨some 33, _, _, _, _, _⟩) (v := ?_) rfl (by kernel_rfl) (by kernel_rfl) (by kernel_rfl) (by kernel_rfl) (fun _ _ _ h => h) (by decide) (Or.inl ⟨by rfl, ?_⟩) hHeld ?_
      rotate_left 1
      · (intro w hSw; (try dsimp only at hSw); go_simp; try with_reducible rfl)
      try simp only [Act.put, List.setIfInBounds_toArray, List.set_cons_zero, List.set_cons_succ]
      refine upToLast.next (rs := [1]) (by kernel_rfl) (by simp) ?_
      refine (each1.cons rfl (fun K hK => ?_) each1.nil)
      go_simp
      refine hK.out _ _ (fun _ => (World.cell?_alloc_lt w0 _ _ HX.out.lt).trans (HX.out.cell 0)) ?_
      clear hK K
      try simp only [Act.put, List.setIfInBounds_toArray, List.set_cons_zero, List.set_cons_succ]
      refine upToLast.next (rs := [8]) (by kernel_rfl) (by simp) ?_
      refine (each1.cons rfl (fun K hK => ?_) each1.nil)
      refine step_app rfl (.tmp 19) (.tmp 25) rfl w0.heap.size (w0.alloc (.cells #[] 37)) (.slice (some ⟨w0.heap.size, 0, none⟩) 0 0) [] rfl (own_empty w0 (Nat.le_refl _)) w0.heap.size A j c (L.take j) rfl ((reads_take HR.out hj0).alloc (Nat.le_refl _) _) (by have := HLEN.out; have := HK.out; simp; omega) (by simp) ?_
      intro v1 w1 ho1 hg1 hb1
      rw [List.nil_append] at ho1
      have B1 : Below w0.heap.size w0 w1 := ((Below.refl _ _).alloc (Nat.le_refl _) _).trans hb1
      refine hK.out _ _ (fun _ => (B1.cell (p := ⟨x, 0, none⟩) HX.out.lt).trans (HX.out.cell 0)) ?_
      clear hK K
      try simp only [Act.put, List.setIfInBounds_toArray, List.set_cons_zero, List.set_cons_succ]
      refine upToLast.next (rs := [16]) (by kernel_rfl) (by simp) ?_
      refine (each1.cons rfl (fun K hK => ?_) each1.nil)
      refine step_app rfl (.tmp 26) (.tmp 33) rfl w0.heap.size w1 v1 (L.take j) rfl ho1 w0.heap.size _ (L.length - (j + 1)) _ (L.drop (j + 1)) rfl ((reads_drop HR.out hkl2 HC.out).below B1) (by have := HLEN.out; have := HK.out; simp; omega) B1.size ?_
      intro v3 w3 ho3 hg3 hb3
      rw [EX.out] at ho3
      have B3 := B1.trans hb3
      have hx3 := (B3.cell (p := ⟨x, 0, none⟩) HX.out.lt).trans (HX.out.cell 0)
      have X3 := HX.out.below B3 HX.out.lt
      have fx3 := X3.frozen 0
      refine hK.out _ _ (fun _ => hx3) ?_
      clear hK K
      try simp only [Act.put, List.setIfInBounds_toArray, List.set_cons_zero, List.set_cons_succ]
      refine upToLast.next (rs := [17]) (by kernel_rfl) (by simp) ?_
      refine (each1.cons rfl (fun K hK => ?_) each1.nil)
      go_simp
      refine hK.out _ _ (fun _ => hx3) ?_
      clear hK K
      try simp only [Act.put, List.setIfInBounds_toArray, List.set_cons_zero, List.set_cons_succ]
      refine upToLast.next (rs := [18]) (by kernel_rfl) (by simp) ?_
      refine (each1.cons rfl (fun K hK => ?_) each1.nil)
      go_simp
      refine hK.out _ _ (fun _ => hx3) ?_
      clear hK K
      try simp only [Act.put, List.setIfInBounds_toArray, List.set_cons_zero, List.set_cons_succ]
      refine upToLast.next (rs := [19]) (by kernel_rfl) (by simp) ?_
      refine (each1.cons rfl (fun K hK => ?_) each1.nil)
      obtain ⟨A3, c3, rfl, hr3⟩ := own_slice ho3
      go_simp
      obtain ⟨g', hRf, hgn, hgl⟩ := Rf.made2 X3 (base := w0.heap.size) HX.out.lt ho3
      have o1 : Only (fun k => k = x) wr w3 := Only.below ((HO.out.below wr.heap.size).trans (B3.mono (Nat.le_of_eq (by rw [HO.out.same])))) _
      have o2 : Only (fun k => k = x) wr (w3.setCell ⟨x, 0, none⟩ (.slice A3 (del L p n).length c3)) := o1.setCell (p := ⟨x, 0, none⟩) (fun _ => rfl) _
      have hnw : wr.heap.size ≤ g' := by rw [HO.out.same] at hgn; exact hgn
      have NX := Lib.hid (And.intro hRf (And.intro (And.intro hnw (hgl.imp id fun q => (by rw [World.size_setCell]; exact q : g' < (w3.setCell ⟨x, 0, none⟩ (.slice A3 (del L p n).length c3)).heap.size))) o2))
      clear hRf hgl
      refine hK.out _ _ (fun h => absurd rfl h) ?_
      clear hK K
      try simp only [Act.put, List.setIfInBounds_toArray, List.set_cons_zero, List.set_cons_succ]
      refine upToLast.done (by kernel_rfl) ?_ _
      go_wp2_with fail
      all_goals go_ret
      all_goals exact ⟨rfl, g', NX.out.1, .inr NX.out.2.1, NX.out.2.2⟩
  · have hr : rightN p n = false := by simpa using hr
    have E : remC L p n = 1 := by unfold remC; rw [hr]; rfl
    have E2 : remL L p n = L := by unfold remL; rw [E]; rfl
    rw [E, E2]
    rw [hr] at RT
    clear hr E E2 h
    go_enter Try.func18, Try.ntmps18
    go_wp2_with (first
      | (go_at_call 23; refine RT.out.mono ?_; rintro e w' ⟨rfl, rfl⟩))
    go_ret
    exact ⟨rfl, g, HF.out, .inl ⟨rfl, rfl⟩, Only.refl _ _⟩
end Go.Proofs.Ytlpnkfnmgcigbaa
