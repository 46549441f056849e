/- The slots of a function under names. No program here. (Printed by gendec.py.) -/
import Derived.Test.YtbekgccecdjdeaaKit
namespace Go.Proofs.Ytbekgccecdjdeaa
open Go Go.RowKit
theorem toList_range (t : Array Value) : t.toList = (List.range t.size).map fun i => t.getD i undef := by
  apply List.ext_getElem?
  intro i
  rw [List.getElem?_map]
  by_cases h : i < t.size
  · simp [h]
  · simp [h]
theorem slots_all (t : Array Value) (h : t.size = 123) : ∃ u : Nat → Value, (∀ i, u i = t.getD i undef) ∧ t = #[u 0, u 1, u 2, u 3, u 4, u 5, u 6, u 7, u 8, u 9, u 10, u 11, u 12, u 13, u 14, u 15, u 16, u 17, u 18, u 19, u 20, u 21, u 22, u 23, u 24, u 25, u 26, u 27, u 28, u 29, u 30, u 31, u 32, u 33, u 34, u 35, u 36, u 37, u 38, u 39, u 40, u 41, u 42, u 43, u 44, u 45, u 46, u 47, u 48, u 49, u 50, u 51, u 52, u 53, u 54, u 55, u 56, u 57, u 58, u 59, u 60, u 61, u 62, u 63, u 64, u 65, u 66, u 67, u 68, u 69, u 70, u 71, u 72, u 73, u 74, u 75, u 76, u 77, u 78, u 79, u 80, u 81, u 82, u 83, u 84, u 85, u 86, u 87, u 88, u 89, u 90, u 91, u 92, u 93, u 94, u 95, u 96, u 97, u 98, u 99, u 100, u 101, u 102, u 103, u 104, u 105, u 106, u 107, u 108, u 109, u 110, u 111, u 112, u 113, u 114, u 115, u 116, u 117, u 118, u 119, u 120, u 121, u 122] := by
  obtain ⟨u, hu⟩ : ∃ u : Nat → Value, u = fun i => t.getD i undef := ⟨_, rfl⟩
  refine ⟨u, fun i => by rw [hu], ?_⟩
  have e := toList_range t
  rw [h, ← hu] at e
  apply Array.toList_inj.1
  rw [e]
  rfl
theorem act_slots (a : Act) (x0 x1 x2 x3 x4 : Value) (hd : a.defers = []) (hs : a.tmps.size = 123) (h0 : a.tmps.getD 0 undef = x0) (h1 : a.tmps.getD 1 undef = x1) (h2 : a.tmps.getD 2 undef = x2) (h3 : a.tmps.getD 3 undef = x3) (h4 : a.tmps.getD 4 undef = x4) :
    ∃ u : Nat → Value, a = { tmps := #[x0, x1, x2, x3, x4, u 5, u 6, u 7, u 8, u 9, u 10, u 11, u 12, u 13, u 14, u 15, u 16, u 17, u 18, u 19, u 20, u 21, u 22, u 23, u 24, u 25, u 26, u 27, u 28, u 29, u 30, u 31, u 32, u 33, u 34, u 35, u 36, u 37, u 38, u 39, u 40, u 41, u 42, u 43, u 44, u 45, u 46, u 47, u 48, u 49, u 50, u 51, u 52, u 53, u 54, u 55, u 56, u 57, u 58, u 59, u 60, u 61, u 62, u 63, u 64, u 65, u 66, u 67, u 68, u 69, u 70, u 71, u 72, u 73, u 74, u 75, u 76, u 77, u 78, u 79, u 80, u 81, u 82, u 83, u 84, u 85, u 86, u 87, u 88, u 89, u 90, u 91, u 92, u 93, u 94, u 95, u 96, u 97, u 98, u 99, u 100, u 101, u 102, u 103, u 104, u 105, u 106, u 107, u 108, u 109, u 110, u 111, u 112, u 113, u 114, u 115, u 116, u 117, u 118, u 119, u 120, u 121, u 122], defers := [] } := by
  obtain ⟨t, d⟩ := a
  simp only at hd hs h0 h1 h2 h3 h4
  obtain ⟨u, hu, ht⟩ := slots_all t hs
  refine ⟨u, ?_⟩
  rw [hd, ← h0, ← h1, ← h2, ← h3, ← h4, ← hu, ← hu, ← hu, ← hu, ← hu, ← ht]
/-- The slots at the labels: what is still to read; the result's cell; the message's cell. -/
structure Slots (a : Act) (x0 x2 x4 : Value) : Prop where
  d : a.defers = []
  s : a.tmps.size = 123
  h0 : a.tmps.getD 0 undef = x0
  h1 : a.tmps.getD 1 undef = undef
  h2 : a.tmps.getD 2 undef = x2
  h3 : a.tmps.getD 3 undef = .int .i64 0
  h4 : a.tmps.getD 4 undef = x4
theorem Slots.act {a : Act} {x0 x2 x4 : Value} (h : Slots a x0 x2 x4) : ∃ u : Nat → Value, a = { tmps := #[x0, undef, x2, .int .i64 0, x4, u 5, u 6, u 7, u 8, u 9, u 10, u 11, u 12, u 13, u 14, u 15, u 16, u 17, u 18, u 19, u 20, u 21, u 22, u 23, u 24, u 25, u 26, u 27, u 28, u 29, u 30, u 31, u 32, u 33, u 34, u 35, u 36, u 37, u 38, u 39, u 40, u 41, u 42, u 43, u 44, u 45, u 46, u 47, u 48, u 49, u 50, u 51, u 52, u 53, u 54, u 55, u 56, u 57, u 58, u 59, u 60, u 61, u 62, u 63, u 64, u 65, u 66, u 67, u 68, u 69, u 70, u 71, u 72, u 73, u 74, u 75, u 76, u 77, u 78, u 79, u 80, u 81, u 82, u 83, u 84, u 85, u 86, u 87, u 88, u 89, u 90, u 91, u 92, u 93, u 94, u 95, u 96, u 97, u 98, u 99, u 100, u 101, u 102, u 103, u 104, u 105, u 106, u 107, u 108, u 109, u 110, u 111, u 112, u 113, u 114, u 115, u 116, u 117, u 118, u 119, u 120, u 121, u 122], defers := [] } := act_slots a x0 undef x2 (.int .i64 0) x4 h.d h.s h.h0 h.h1 h.h2 h.h3 h.h4
end Go.Proofs.Ytbekgccecdjdeaa
