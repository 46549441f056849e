/- Count, on a pulse of the call's own. -/
import Derived.Test.YteieghndpkmobaaOwn
namespace Go.Proofs.Yteieghndpkmobaa
open Go.RowKit

theorem Own.count {w : World} {T b g k c : Nat} {l : List Int} {f : Nat → Value} {y : Int} (hB : Blk w b T #[.slice (some ⟨g, 0, none⟩) l.length c]) (hne : b ≠ g) (hr : w.rowIs g 3 c f) (hlc : l.length ≤ c)
    (hfl : ∀ j, j < l.length → f j = .int .i64 (l.getD j 0)) (hk : k < l.length) :
    Own (w.setCell ⟨g, k, none⟩ (.int .i64 y)) T b g (l.set k y) ∧ But2 w (w.setCell ⟨g, k, none⟩ (.int .i64 y)) b g := by
  refine ⟨⟨⟨c, _, by rw [List.length_set]; exact hB.far (by exact hne) _, hr.set k _, by rw [List.length_set]; exact hlc, fun j hj => ?_⟩, hne⟩, ⟨rfl, rfl, rfl, by rw [Deep.nblk_setCell]; exact Nat.le_refl _, fun i hi hib hig => Deep.blk_setCell_other _ _ _ _ hig⟩⟩
  rw [List.length_set] at hj
  by_cases e : j = k
  · subst e
    simp only [if_pos, List.getD_eq_getElem?_getD, List.getElem?_set_self hj, Option.getD_some]
  · rw [if_neg e, hfl j hj, List.getD_eq_getElem?_getD, List.getD_eq_getElem?_getD, List.getElem?_set_ne (by omega)]
theorem But2.drewN {w w' : World} {b g : Nat} (h : But2 w w' b g) (n : Nat) : But2 w (w'.drewN n) b g := ⟨h.os, h.tape, h.output, h.size, h.block⟩
theorem But2.ofDrewN {w w' : World} {b g n : Nat} (h : But2 (w.drewN n) w' b g) : But2 w w' b g := ⟨h.os, h.tape, h.output, h.size, h.block⟩
theorem Own.drewN {w : World} {T b g : Nat} {l : List Int} (h : Own w T b g l) (n : Nat) : Own (w.drewN n) T b g l := by
  obtain ⟨⟨c, f, hB, hr, r⟩, hne⟩ := h
  exact ⟨⟨c, f, hB.drewN n, hr, r⟩, hne⟩

set_option maxHeartbeats 800000 in
theorem count_any (b g : Nat) (l : List Int) (n : Int) (w : World) (h : Own w 58 b g l) (h1l : 1 ≤ l.length) (hl : l.length ≤ 1048576) (hco : Counts l) :
    Calls Try.prog 22 #[.pointer (some ⟨b, 0, none⟩), .int .i64 n] w fun e w' => e = .returned (.int .i64 (countCode l n)) ∧ Left w w' 58 b g (countL l n) := by
  have MD := Lib.hid (made_yes 58 b l w h.isP h1l)
  obtain ⟨⟨c, f, hB, hr, hlc, hfl⟩, hne⟩ := h
  obtain ⟨k, hk⟩ : ∃ k, l.length = k + 1 := ⟨l.length - 1, by omega⟩
  have hk1 : k < 1048576 := by omega
  have hc : w.cell? ⟨b, 0, none⟩ = some (.slice (some ⟨g, 0, none⟩) (k + 1) c) := by rw [← hk]; exact hB.cell 0
  have hx : w.cell? ⟨g, k, none⟩ = some (.int .i64 (l.getD k 0)) := by rw [hr.cell (by omega), hfl k (by omega)]
  have hz : w.frozen? ⟨g, k, none⟩ = false := hr.frozen _
  have hC : countCode l n = if n < 0 then 1 else if n > 1048576 - l.getD k 0 then 2 else 0 := by unfold countCode; rw [hk]; rfl
  have hL : countL l n = if countCode l n = 0 then l.set k (l.getD k 0 + n) else l := by unfold countL; rw [hk]; rfl
  have H : Hid (Own w 58 b g l) := Lib.hid ⟨⟨c, f, hB, hr, hlc, hfl⟩, hne⟩
  have x0 := (hco k).1
  have x1 := (hco k).2
  have R : ∀ i, Hid (Own ((w.drewN i).setCell ⟨g, k, none⟩ (.int .i64 (l.getD k 0 + n))) 58 b g (l.set k (l.getD k 0 + n)) ∧ But2 w ((w.drewN i).setCell ⟨g, k, none⟩ (.int .i64 (l.getD k 0 + n))) b g) := fun i => Lib.hid (by
    have := Own.count (w := w.drewN i) (y := l.getD k 0 + n) (k := k) hB hne hr hlc hfl (by omega)
    exact ⟨this.1, this.2.ofDrewN⟩)
  generalize l.getD k 0 = x at *
  clear hB hr hfl hl h1l hlc hk
  by_cases h0 : n < 0
  · have E : countCode l n = 1 := by rw [hC]; simp [h0]
    have E2 : countL l n = l := by rw [hL, E]; rfl
    rw [E, E2]
    clear E E2 hC hL
    go_enter Try.func22, Try.ntmps22
    go_wp2_with fail
    refine MD.out.mono ?_
    rintro e w' ⟨rfl, rfl⟩
    go_wp2
    go_region
    go_wp2
    go_ret
    exact ⟨rfl, g, .inl rfl, H.out.drewN 1, (But2.same w b g).drewN 1⟩
  · by_cases h1 : n > 1048576 - x
    · have E : countCode l n = 2 := by rw [hC]; simp [h0]; omega
      have E2 : countL l n = l := by rw [hL, E]; rfl
      rw [E, E2]
      clear E E2 hC hL
      go_enter Try.func22, Try.ntmps22
      go_wp2_with fail
      refine MD.out.mono ?_
      rintro e w' ⟨rfl, rfl⟩
      go_wp2
      go_region
      go_wp2
      go_ret
      exact ⟨rfl, g, .inl rfl, H.out.drewN 1, (But2.same w b g).drewN 1⟩
    · have E : countCode l n = 0 := by rw [hC]; simp [h0]; omega
      have E2 : countL l n = l.set k (x + n) := by rw [hL, E]; rfl
      rw [E, E2]
      clear E E2 hC hL
      go_enter Try.func22, Try.ntmps22
      go_wp2_with fail
      refine MD.out.mono ?_
      rintro e w' ⟨rfl, rfl⟩
      go_wp2
      go_region
      go_wp2
      go_ret
      exact ⟨rfl, g, .inl rfl, (R 1).out.1, (R 1).out.2⟩
set_option maxHeartbeats 800000 in
theorem rcount_any (b g : Nat) (l : List Int) (n : Int) (w : World) (h : Own w 43 b g l) (h1l : 1 ≤ l.length) (hl : l.length ≤ 1048576) (hco : Counts l) :
    Calls Try.prog 25 #[.pointer (some ⟨b, 0, none⟩), .int .i64 n] w fun e w' => e = .returned (.int .i64 (countCode l n)) ∧ Left w w' 43 b g (countL l n) := by
  obtain ⟨⟨c, f, hB, hr, hlc, hfl⟩, hne⟩ := h
  obtain ⟨k, hk⟩ : ∃ k, l.length = k + 1 := ⟨l.length - 1, by omega⟩
  have hk1 : k < 1048576 := by omega
  have hc : w.cell? ⟨b, 0, none⟩ = some (.slice (some ⟨g, 0, none⟩) (k + 1) c) := by rw [← hk]; exact hB.cell 0
  have hx : w.cell? ⟨g, k, none⟩ = some (.int .i64 (l.getD k 0)) := by rw [hr.cell (by omega), hfl k (by omega)]
  have hz : w.frozen? ⟨g, k, none⟩ = false := hr.frozen _
  have hC : countCode l n = if n < 0 then 1 else if n > 1048576 - l.getD k 0 then 2 else 0 := by unfold countCode; rw [hk]; rfl
  have hL : countL l n = if countCode l n = 0 then l.set k (l.getD k 0 + n) else l := by unfold countL; rw [hk]; rfl
  have H : Hid (Own w 43 b g l) := Lib.hid ⟨⟨c, f, hB, hr, hlc, hfl⟩, hne⟩
  have x0 := (hco k).1
  have x1 := (hco k).2
  have R2 : Hid (Own (w.setCell ⟨g, k, none⟩ (.int .i64 (l.getD k 0 + n))).drew 43 b g (l.set k (l.getD k 0 + n)) ∧ But2 w (w.setCell ⟨g, k, none⟩ (.int .i64 (l.getD k 0 + n))).drew b g) := Lib.hid (by
    have := Own.count (w := w) (y := l.getD k 0 + n) (k := k) hB hne hr hlc hfl (by omega)
    exact ⟨this.1.drewN 1, this.2.drewN 1⟩)
  generalize l.getD k 0 = x at *
  clear hB hr hfl hl h1l hlc hk
  by_cases h0 : n < 0
  · have E : countCode l n = 1 := by rw [hC]; simp [h0]
    have E2 : countL l n = l := by rw [hL, E]; rfl
    rw [E, E2]
    clear E E2 hC hL
    go_enter Try.func25, Try.ntmps25
    go_wp2
    go_ret
    exact ⟨rfl, g, .inl rfl, H.out, But2.same w b g⟩
  · by_cases h1 : n > 1048576 - x
    · have E : countCode l n = 2 := by rw [hC]; simp [h0]; omega
      have E2 : countL l n = l := by rw [hL, E]; rfl
      rw [E, E2]
      clear E E2 hC hL
      go_enter Try.func25, Try.ntmps25
      go_wp2
      go_ret
      exact ⟨rfl, g, .inl rfl, H.out, But2.same w b g⟩
    · have E : countCode l n = 0 := by rw [hC]; simp [h0]; omega
      have E2 : countL l n = l.set k (x + n) := by rw [hL, E]; rfl
      rw [E, E2]
      clear E E2 hC hL
      go_enter Try.func25, Try.ntmps25
      go_wp2
      go_region
      go_wp2
      go_ret
      exact ⟨rfl, g, .inl rfl, R2.out.1, R2.out.2⟩
end Go.Proofs.Yteieghndpkmobaa
