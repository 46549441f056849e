/- New, and what a writing call keeps of the counts. -/
import Derived.Test.YteieghndpkmobaaOwnCount
namespace Go.Proofs.Yteieghndpkmobaa
open Go.RowKit

def Inv (l : List Int) : Prop := 1 ≤ l.length ∧ l.length ≤ 1048576 ∧ Counts l
theorem inv_zero : Inv [0] := ⟨by decide, by decide, fun k => by rcases k with _ | k <;> simp [List.getD_eq_getElem?_getD]⟩
theorem inv_tick {l : List Int} (h : Inv l) (n : Int) : Inv (tickL l n) := by
  obtain ⟨h1, h2, h3⟩ := h
  unfold tickL
  by_cases e : tickCode l n = 0
  · rw [if_pos e]
    unfold tickCode at e
    by_cases h0 : n < 0
    · rw [if_pos h0] at e; omega
    · rw [if_neg h0] at e
      by_cases h4 : n > 1048576 - l.length
      · rw [if_pos h4] at e; omega
      · refine ⟨by simp; omega, by simp; omega, fun k => ?_⟩
        by_cases hk : k < l.length
        · have := h3 k
          rw [List.getD_eq_getElem?_getD, List.getElem?_append_left hk]
          rwa [List.getD_eq_getElem?_getD] at this
        · rw [List.getD_eq_getElem?_getD, List.getElem?_append_right (by omega), List.getElem?_replicate]
          split <;> simp
  · rw [if_neg e]; exact ⟨h1, h2, h3⟩
theorem inv_count {l : List Int} (h : Inv l) (n : Int) : Inv (countL l n) := by
  obtain ⟨h1, h2, h3⟩ := h
  unfold countL
  by_cases e : countCode l n = 0
  · rw [if_pos e]
    unfold countCode at e
    by_cases h0 : n < 0
    · rw [if_pos h0] at e; omega
    · rw [if_neg h0] at e
      by_cases h4 : n > 1048576 - l.getD (l.length - 1) 0
      · rw [if_pos h4] at e; omega
      · have := h3 (l.length - 1)
        refine ⟨by simpa using h1, by simpa using h2, fun k => ?_⟩
        by_cases hk : k = l.length - 1
        · subst hk
          rw [List.getD_eq_getElem?_getD (l := l.set _ _), List.getElem?_set_self (by omega)]
          simp only [Option.getD_some]
          omega
        · have := h3 k
          rw [List.getD_eq_getElem?_getD, List.getElem?_set_ne (by omega)]
          rwa [List.getD_eq_getElem?_getD] at this
  · rw [if_neg e]; exact ⟨h1, h2, h3⟩

theorem Own.new (w : World) (T : TypeId) : Own ((w.alloc (.cells #[.int .i64 0] 3)).alloc (.cells #[.slice (some ⟨w.heap.size, 0, none⟩) 1 1] T)) T (w.heap.size + 1) w.heap.size [0] := by
  refine ⟨⟨1, fun _ => .int .i64 0, ?_, ?_, Nat.le_refl _, fun j hj => ?_⟩, by omega⟩
  · have := Blk.new (w.alloc (.cells #[.int .i64 0] 3)) T #[.slice (some ⟨w.heap.size, 0, none⟩) 1 1]
    rw [Deep.nblk_alloc] at this
    exact this
  · exact (World.rowIs_alloc w #[.int .i64 0] 3 (fun _ => .int .i64 0) (fun i hi => by have e : i = 0 := (by simpa using hi); subst e; rfl)).alloc _
  · obtain rfl : j = 0 := by simpa using hj
    rfl

theorem new_any (w : World) : Calls Try.prog 24 #[] w fun e w' => e = .returned (.pointer (some ⟨w.heap.size + 1, 0, none⟩)) ∧ Own w' 58 (w.heap.size + 1) w.heap.size [0] ∧ Below w.heap.size w w' ∧ w'.heap.size = w.heap.size + 2 := by
  have H := Lib.hid (Own.new w 58)
  have HB : Hid (Below w.heap.size w ((w.alloc (.cells #[.int .i64 0] 3)).alloc (.cells #[.slice (some ⟨w.heap.size, 0, none⟩) 1 1] 58))) := Lib.hid (((Below.refl _ _).alloc (Nat.le_refl _) _).alloc (by rw [Deep.nblk_alloc]; omega) _)
  go_enter Try.func24, Try.ntmps24
  go_wp2
  go_ret
  exact ⟨by rfl, H.out, HB.out, by rw [Deep.nblk_alloc, Deep.nblk_alloc]⟩
end Go.Proofs.Yteieghndpkmobaa
