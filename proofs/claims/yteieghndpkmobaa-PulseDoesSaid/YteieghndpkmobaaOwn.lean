/- A pulse of the call's own: New, Count, Tick, and the reference's Count, Tick write it. -/
import Derived.Test.YteieghndpkmobaaLives
import Derived.Test.YteieghndpkmobaaZeros
namespace Go.Proofs.Yteieghndpkmobaa
open Go.RowKit

/-- Block b (of type T) holds a slice over block g, both of the call's own; its counts: l. -/
structure Own (w : World) (T b g : Nat) (l : List Int) : Prop where
  row : ∃ c f, Blk w b T #[.slice (some ⟨g, 0, none⟩) l.length c] ∧ w.rowIs g 3 c f ∧ l.length ≤ c ∧ ∀ j, j < l.length → f j = .int .i64 (l.getD j 0)
  ne : b ≠ g

/-- All blocks but b and g are as they were. -/
structure But2 (w w' : World) (b g : Nat) : Prop where
  os : w'.os = w.os
  tape : w'.tape = w.tape
  output : w'.output = w.output
  size : w.heap.size ≤ w'.heap.size
  block : ∀ k, k < w.heap.size → k ≠ b → k ≠ g → w'.heap[k]? = w.heap[k]?

theorem But2.same (w : World) (b g : Nat) : But2 w w b g := ⟨rfl, rfl, rfl, Nat.le_refl _, fun _ _ _ _ => rfl⟩

/-- What a writing call leaves. -/
def Left (w w' : World) (T b g : Nat) (l : List Int) : Prop := ∃ g', (g' = g ∨ w.heap.size ≤ g') ∧ Own w' T b g' l ∧ But2 w w' b g

def tickCode (l : List Int) (n : Int) : Int := if n < 0 then 1 else if n > 1048576 - l.length then 2 else 0
def tickL (l : List Int) (n : Int) : List Int := if tickCode l n = 0 then l ++ List.replicate n.toNat 0 else l
def countCode (l : List Int) (n : Int) : Int := if n < 0 then 1 else if n > 1048576 - l.getD (l.length - 1) 0 then 2 else 0
def countL (l : List Int) (n : Int) : List Int := if countCode l n = 0 then l.set (l.length - 1) (l.getD (l.length - 1) 0 + n) else l

theorem Own.isP {w : World} {T b g : Nat} {l : List Int} (h : Own w T b g l) : IsP w T b l := by
  obtain ⟨c, f, hB, hr, hc, hf⟩ := h.row
  refine ⟨_, c, w.heap.size, hB, ⟨by simp [is], fun h0 => ⟨_, rfl, hr.lt, fun j u hu => ?_⟩⟩, Nat.le_refl _⟩
  obtain ⟨hj, rfl⟩ := is_at hu
  have e0 : (⟨g, 0, none⟩ : Addr).add j = ⟨g, j, none⟩ := by unfold Addr.add; split <;> simp_all
  rw [e0, hr.cell (by omega), hf j hj]

theorem Own.tick {w w1 : World} {T b g g' c' : Nat} {l : List Int} {m c : Nat} {f f' : Nat → Value} (hB : Blk w b T #[.slice (some ⟨g, 0, none⟩) l.length c]) (hne : b ≠ g)
    (hfl : ∀ j, j < l.length → f j = .int .i64 (l.getD j 0)) (hg : g' = g ∨ g' = w.heap.size) (hr : w1.rowIs g' 3 c' f') (hc : l.length + m ≤ c')
    (h1 : ∀ j, j < l.length → f' j = f j) (h2 : ∀ j, l.length ≤ j → j < l.length + m → f' j = .int .i64 0) (hgr : w.grownBy w1 (some g)) :
    Own (w1.setCell ⟨b, 0, none⟩ (.slice (some ⟨g', 0, none⟩) (l.length + m) c')) T b g' (l ++ List.replicate m 0) ∧ But2 w (w1.setCell ⟨b, 0, none⟩ (.slice (some ⟨g', 0, none⟩) (l.length + m) c')) b g := by
  have hbl : b < w.heap.size := hB.lt
  have hB1 : Blk w1 b T #[.slice (some ⟨g, 0, none⟩) l.length c] := (hgr.block b hbl (fun e => hne (Option.some.inj e))).trans hB
  have hne' : b ≠ g' := by rcases hg with rfl | rfl <;> omega
  refine ⟨⟨⟨c', f', ?_, hr.setOther (fun e => hne' e.symm) _, by simpa using hc, fun j hj => ?_⟩, hne'⟩, ⟨hgr.os, hgr.tape, hgr.output, by rw [Deep.nblk_setCell]; exact hgr.size, fun k hk hkb hkg => ?_⟩⟩
  · have := hB1.set_ 0 (.slice (some ⟨g', 0, none⟩) (l.length + m) c')
    simpa using this
  · rw [List.length_append, List.length_replicate] at hj
    by_cases hjl : j < l.length
    · rw [h1 j hjl, hfl j hjl, List.getD_eq_getElem?_getD, List.getD_eq_getElem?_getD, List.getElem?_append_left hjl]
    · rw [h2 j (by omega) hj, List.getD_eq_getElem?_getD, List.getElem?_append_right (by omega), List.getElem?_replicate, if_pos (by omega)]
      rfl
  · rw [Deep.blk_setCell_other _ _ _ _ hkb]
    exact hgr.block k hk (fun e => hkg (Option.some.inj e))

set_option maxHeartbeats 800000 in
theorem rtick_any (b g : Nat) (l : List Int) (n : Int) (w : World) (h : Own w 43 b g l) (hl : l.length ≤ 1048576) :
    Calls Try.prog 26 #[.pointer (some ⟨b, 0, none⟩), .int .i64 n] w fun e w' => e = .returned (.int .i64 (tickCode l n)) ∧ Left w w' 43 b g (tickL l n) := by
  obtain ⟨i0, hi, hz0, hz1, hz2⟩ := info_parts Try.info3
  obtain ⟨⟨c, f, hB, hr, hlc, hfl⟩, hne⟩ := h
  have hc : w.cell? ⟨b, 0, none⟩ = some (.slice (some ⟨g, 0, none⟩) l.length c) := hB.cell 0
  by_cases h0 : n < 0
  · have E : tickCode l n = 1 := by simp [tickCode, h0]
    have E2 : tickL l n = l := by unfold tickL; rw [E]; rfl
    rw [E, E2]
    have H : Hid (Own w 43 b g l) := Lib.hid ⟨⟨c, f, hB, hr, hlc, hfl⟩, hne⟩
    clear hB hr hfl hlc E E2
    go_enter Try.func26, Try.ntmps26
    go_wp2
    go_ret
    exact ⟨rfl, g, .inl rfl, H.out, But2.same w b g⟩
  · by_cases h1 : n > 1048576 - l.length
    · have E : tickCode l n = 2 := by simp [tickCode, h0]; omega
      have E2 : tickL l n = l := by unfold tickL; rw [E]; rfl
      rw [E, E2]
      have H : Hid (Own w 43 b g l) := Lib.hid ⟨⟨c, f, hB, hr, hlc, hfl⟩, hne⟩
      clear hB hr hfl hlc E E2
      go_enter Try.func26, Try.ntmps26
      go_wp2
      go_ret
      exact ⟨rfl, g, .inl rfl, H.out, But2.same w b g⟩
    · have E : tickCode l n = 0 := by simp [tickCode, h0]; omega
      have E2 : tickL l n = l ++ List.replicate n.toNat 0 := by unfold tickL; rw [E]; rfl
      rw [E, E2]
      obtain ⟨m, rfl⟩ : ∃ m : Nat, n = m := ⟨n.toNat, by omega⟩
      rw [Int.toNat_natCast]
      obtain ⟨g', c', f', w1, hrun, hg', hr', hc', h1', h2', hgr⟩ := run_zeros_row (P := Try.prog) w 22 3 22 3 i0 (.int .i64 0) .i64 .i64 8 Try.underlying22 Try.underlying3 hi hz0 hz1 rfl rfl hz2 g l.length c f hr hlc m (by unfold maxLen; omega) (by omega)
      obtain ⟨R1, R2⟩ := Own.tick hB hne hfl hg' hr' hc' h1' h2' hgr
      have hB1 : Blk w1 b 43 #[.slice (some ⟨g, 0, none⟩) l.length c] := (hgr.block b hB.lt (fun e => hne (Option.some.inj e))).trans hB
      have hc1 : w1.cell? ⟨b, 0, none⟩ = some (.slice (some ⟨g, 0, none⟩) l.length c) := hB1.cell 0
      have hf1 : w1.frozen? ⟨b, 0, none⟩ = false := hB1.frozen 0
      have HR1 := Lib.hid R1
      have HR2 := Lib.hid R2
      have HG := Lib.hid hg'
      clear E E2 hB hr hfl hB1 R1 R2 hr' h1' h2' hgr hg'
      go_enter Try.func26, Try.ntmps26
      go_wp2_with (at_builtin; refine Lib.wpList_append_run _ rfl (.tmp 19) (.tmp 20) 22 3 rfl _ _ rfl rfl _ _ hrun ?_)
      go_ret
      exact ⟨rfl, g', by rcases HG.out with h | h <;> omega, HR1.out, HR2.out⟩
set_option maxHeartbeats 800000 in
theorem tick_any (b g : Nat) (l : List Int) (n : Int) (w : World) (h : Own w 58 b g l) (h1l : 1 ≤ l.length) (hl : l.length ≤ 1048576) :
    Calls Try.prog 23 #[.pointer (some ⟨b, 0, none⟩), .int .i64 n] w fun e w' => e = .returned (.int .i64 (tickCode l n)) ∧ Left w w' 58 b g (tickL l n) := by
  have MD := Lib.hid (made_yes 58 b l w h.isP h1l)
  obtain ⟨i0, hi, hz0, hz1, hz2⟩ := info_parts Try.info3
  obtain ⟨⟨c, f, hB, hr, hlc, hfl⟩, hne⟩ := h
  have hc : w.cell? ⟨b, 0, none⟩ = some (.slice (some ⟨g, 0, none⟩) l.length c) := hB.cell 0
  by_cases h0 : n < 0
  · have E : tickCode l n = 1 := by simp [tickCode, h0]
    have E2 : tickL l n = l := by unfold tickL; rw [E]; rfl
    rw [E, E2]
    have H : Hid (Own w 58 b g l) := Lib.hid ⟨⟨c, f, hB, hr, hlc, hfl⟩, hne⟩
    clear hB hr hfl hlc E E2
    go_enter Try.func23, Try.ntmps23
    go_wp2_with fail
    refine MD.out.mono ?_
    rintro e w' ⟨rfl, rfl⟩
    go_wp2
    go_ret
    exact ⟨rfl, g, .inl rfl, H.out, But2.same w b g⟩
  · by_cases h1 : n > 1048576 - l.length
    · have E : tickCode l n = 2 := by simp [tickCode, h0]; omega
      have E2 : tickL l n = l := by unfold tickL; rw [E]; rfl
      rw [E, E2]
      have H : Hid (Own w 58 b g l) := Lib.hid ⟨⟨c, f, hB, hr, hlc, hfl⟩, hne⟩
      clear hB hr hfl hlc E E2
      go_enter Try.func23, Try.ntmps23
      go_wp2_with fail
      refine MD.out.mono ?_
      rintro e w' ⟨rfl, rfl⟩
      go_wp2
      go_ret
      exact ⟨rfl, g, .inl rfl, H.out, But2.same w b g⟩
    · have E : tickCode l n = 0 := by simp [tickCode, h0]; omega
      have E2 : tickL l n = l ++ List.replicate n.toNat 0 := by unfold tickL; rw [E]; rfl
      rw [E, E2]
      obtain ⟨m, rfl⟩ : ∃ m : Nat, n = m := ⟨n.toNat, by omega⟩
      rw [Int.toNat_natCast]
      obtain ⟨g', c', f', w1, hrun, hg', hr', hc', h1', h2', hgr⟩ := run_zeros_row (P := Try.prog) w 22 3 22 3 i0 (.int .i64 0) .i64 .i64 8 Try.underlying22 Try.underlying3 hi hz0 hz1 rfl rfl hz2 g l.length c f hr hlc m (by unfold maxLen; omega) (by omega)
      obtain ⟨R1, R2⟩ := Own.tick hB hne hfl hg' hr' hc' h1' h2' hgr
      have hB1 : Blk w1 b 58 #[.slice (some ⟨g, 0, none⟩) l.length c] := (hgr.block b hB.lt (fun e => hne (Option.some.inj e))).trans hB
      have hc1 : w1.cell? ⟨b, 0, none⟩ = some (.slice (some ⟨g, 0, none⟩) l.length c) := hB1.cell 0
      have hf1 : w1.frozen? ⟨b, 0, none⟩ = false := hB1.frozen 0
      have HR1 := Lib.hid R1
      have HR2 := Lib.hid R2
      have HG := Lib.hid hg'
      clear E E2 hB hr hfl hB1 R1 R2 hr' h1' h2' hgr hg'
      go_enter Try.func23, Try.ntmps23
      go_wp2_with fail
      refine MD.out.mono ?_
      rintro e w' ⟨rfl, rfl⟩
      go_wp2_with (at_builtin; refine Lib.wpList_append_run _ rfl (.tmp 25) (.tmp 26) 22 3 rfl _ _ rfl rfl _ _ hrun ?_)
      go_ret
      exact ⟨rfl, g', by rcases HG.out with h | h <;> omega, HR1.out, HR2.out⟩
end Go.Proofs.Yteieghndpkmobaa
