/- What lives answers. -/
import Derived.Test.YtbekgccecdjdeaaAnswer
import Derived.Test.YtbekgccecdjdeaaEncode
namespace Go.Proofs.Ytbekgccecdjdeaa
open Go.RowKit

def m0 : Msg := ⟨1, 7, 0, 0, 0, 0, 0, 0, 9, [⟨0, 53, ⟨#[1]⟩⟩]⟩
def L0 : Lease := ⟨9, 5, 6, 4294967040, 0, 60⟩
theorem enc0 : ∃ l, enc m0 = some l ∧ l.length = 244 := by
  refine ⟨_, if_pos ⟨by decide, by decide⟩, ?_⟩
  rw [List.length_append, List.length_append, headBytes_length]
  rfl
theorem ans0 : ansL m0 L0 = some 2 := by decide
theorem str2 : strOf [2] = ⟨#[2]⟩ := by decide

def A0 : Msg := ⟨2, 7, 0, 0, 0, 5, 6, 0, 9, [⟨0, 53, ⟨#[2]⟩⟩, ⟨0, 54, four 6⟩, ⟨0, 51, four 60⟩, ⟨0, 1, four 4294967040⟩]⟩
theorem ansMsg0 : ansMsg 2 m0 L0 = A0 := by unfold ansMsg; rw [str2]; rfl
theorem find0 : findL A0.opts 53 = some ⟨#[2]⟩ := rfl
theorem encode0 (w : World) (A : Option Addr) (c : Nat) (hr : Reads w w.heap.size 3 A 1 (os m0.opts)) :
    Calls Try.prog 13 #[.agg #[.int .i64 1, .int .u32 7, .int .i64 0, .int .i64 0, .int .u32 0, .int .u32 0, .int .u32 0, .int .u32 0, .int .u64 9, .slice A 1 c]] w fun e w' => ∃ A' c', e = .returned (.tuple #[.slice A' 244 c', .int .i64 0]) ∧ Below w.heap.size w w' := by
  refine (encode_any 1 7 0 0 0 0 0 0 9 A 1 c m0.opts w hr (by decide) (by decide) (by decide) (by decide) (by decide) (by decide)).mono ?_
  intro e w' ⟨hb, he⟩
  obtain ⟨l, h1, h2⟩ := enc0
  have h3 : enc ⟨1, ((7 : Nat) : Int), 0, 0, ((0 : Nat) : Int), ((0 : Nat) : Int), ((0 : Nat) : Int), ((0 : Nat) : Int), ((9 : Nat) : Int), m0.opts⟩ = some l := h1
  rw [h3] at he
  obtain ⟨A', c', rfl, _⟩ := he
  exact ⟨A', c', by rw [h2], hb⟩
theorem answer0 (w : World) (A : Option Addr) (c : Nat) (hr : Reads w w.heap.size 3 A 1 (os m0.opts)) :
    Calls Try.prog 7 #[.agg #[.int .i64 1, .int .u32 7, .int .i64 0, .int .i64 0, .int .u32 0, .int .u32 0, .int .u32 0, .int .u32 0, .int .u64 9, .slice A 1 c], .agg #[.int .u64 9, .int .u32 5, .int .u32 6, .int .u32 4294967040, .int .u32 0, .int .u32 60]] w
      fun e w' => ∃ A' c', e = .returned (.tuple #[.agg #[.int .i64 2, .int .u32 7, .int .i64 0, .int .i64 0, .int .u32 0, .int .u32 5, .int .u32 6, .int .u32 0, .int .u64 9, .slice A' 4 c'], .bool true]) ∧ Reads w' w'.heap.size 3 A' 4 (os A0.opts) ∧ Below w.heap.size w w' := by
  refine (answer_any 1 7 0 0 0 0 0 0 9 A 1 c m0.opts 9 5 6 4294967040 0 60 w hr (by decide) (by decide) (by decide) (by decide) (by decide) (by decide)).mono ?_
  intro e w' ⟨hb, he⟩
  have h3 : ansL ⟨1, 7, 0, 0, 0, 0, 0, 0, 9, m0.opts⟩ ⟨9, 5, 6, 4294967040, 0, 60⟩ = some 2 := ans0
  have h4 : ansMsg 2 ⟨1, 7, 0, 0, 0, 0, 0, 0, 9, m0.opts⟩ ⟨9, 5, 6, 4294967040, 0, 60⟩ = A0 := ansMsg0
  rw [h3] at he
  simp only [h4] at he
  obtain ⟨A', n', c', rfl, hr'⟩ := he
  obtain rfl : n' = 4 := by have := hr'.1; rw [os_length] at this; simp [A0] at this; omega
  exact ⟨A', c', rfl, hr', hb⟩

set_option maxRecDepth 100000 in
set_option maxHeartbeats 4000000 in
theorem lives_any (w : World) : Calls Try.prog 6 #[] w fun e w' => e = .returned (.bool true) ∧ Below w.heap.size w w' := by
  go_enter Try.func6, Try.ntmps6
  go_wp2_with fail
  obtain ⟨W1, hW1, hz1, hb1⟩ := name_alloc w (.cells #[.int .i64 0, .int .i64 53, .string ⟨#[1]⟩] 28)
  have hB1 : Blk W1 w.heap.size 28 #[.int .i64 0, .int .i64 53, .string ⟨#[1]⟩] := by rw [← hW1]; exact Blk.new _ _ _
  obtain ⟨W2, hW2, hz2, hb2⟩ := name_alloc W1 (.cells #[.int .i64 1, .int .u32 7, .int .i64 0, .int .i64 0, .int .u32 0, .int .u32 0, .int .u32 0, .int .u32 0, .int .u64 9, .slice (some ⟨w.heap.size, 0, none⟩) 1 1] 31)
  have hB2 : Blk W2 (w.heap.size + 1) 31 #[.int .i64 1, .int .u32 7, .int .i64 0, .int .i64 0, .int .u32 0, .int .u32 0, .int .u32 0, .int .u32 0, .int .u64 9, .slice (some ⟨w.heap.size, 0, none⟩) 1 1] := by rw [← hW2, ← hz1]; exact Blk.new _ _ _
  rw [hW1, hW2]
  have hB3 := hB1.below hb2 hB1.lt
  have hr : Reads W2 W2.heap.size 3 (some ⟨w.heap.size, 0, none⟩) 1 (os m0.opts) := reads_blk hB3 hB3.lt rfl
  refine (encode0 W2 _ 1 hr).mono ?_
  rintro e w3 ⟨A3, c3, rfl, hb3⟩
  have hB4 := hB2.below hb3 hB2.lt
  have hr4 := (hr.below hb3).more hb3.size
  have hbel : Below w.heap.size w w3 := (hb1.trans (hb2.mono (by omega))).trans (hb3.mono (by omega))
  have c4 := hB4.cell
  have HB := Lib.hid hbel
  clear hB1 hB2 hB3 hB4 hr hb1 hb2 hb3 hW1 hW2 hz1 hz2 hbel
  go_wp2_with fail
  refine (answer0 w3 _ 1 hr4).mono ?_
  rintro e w4 ⟨A4, n4, rfl, hr5, hb4⟩
  have HB4 := Lib.hid (HB.out.trans (hb4.mono HB.out.size))
  clear c4 hr4 hb4 HB
  go_wp2_with fail
  obtain ⟨W5, hW5, hz5, hb5⟩ := name_alloc w4 (.cells #[.int .i64 2, .int .u32 7, .int .i64 0, .int .i64 0, .int .u32 0, .int .u32 5, .int .u32 6, .int .u32 0, .int .u64 9, .slice A4 4 n4] 31)
  have hB5 : Blk W5 w4.heap.size 31 #[.int .i64 2, .int .u32 7, .int .i64 0, .int .i64 0, .int .u32 0, .int .u32 5, .int .u32 6, .int .u32 0, .int .u64 9, .slice A4 4 n4] := by rw [← hW5]; exact Blk.new _ _ _
  rw [hW5]
  refine (find_any 2 7 0 0 0 5 6 0 9 A4 4 n4 A0.opts 53 W5 ((hr5.below hb5).more hb5.size) (by decide)).mono ?_
  rintro e w6 ⟨rfl, hb6⟩
  have hB6 := (hB5.below hb6 hB5.lt).cell
  have HB6 := Lib.hid ((HB4.out.trans (hb5.mono HB4.out.size)).trans (hb6.mono (by have := HB4.out.size; omega)))
  rw [find0]
  clear hB5 hb5 hb6 hW5 hz5 hr5
  go_wp2
  go_ret
  exact ⟨rfl, HB6.out⟩
end Go.Proofs.Ytbekgccecdjdeaa
