/- other: does an option of four bytes say another address? -/
import Derived.Test.YtbekgccecdjdeaaFind
namespace Go.Proofs.Ytbekgccecdjdeaa
open Go.RowKit

def four (x : Nat) : ByteArray := strOf (be x 4)
def otherB (l : List Opt) (code : Int) (x : Nat) : Bool := match findL l code with
  | some d => decide (d.size = 4) && !(d.toList == (four x).toList)
  | none => false

set_option maxRecDepth 100000 in
theorem other_any (op xid secs flags ci yi si gi ch : Int) (A : Option Addr) (n c : Nat) (l : List Opt) (code : Int) (x : Nat) (hx : x < 4294967296) (w : World) (hr : Reads w w.heap.size 3 A n (os l)) (hn : n ≤ 1073741824) :
    Calls Try.prog 15 #[.agg (Msg.val ⟨op, xid, secs, flags, ci, yi, si, gi, ch, l⟩ (.slice A n c)), .int .i64 code, .int .u32 x] w fun e w' => e = .returned (.bool (otherB l code x)) ∧ Below w.heap.size w w' := by
  unfold Msg.val
  go_enter Try.func15, Try.ntmps15
  go_wp2_with fail
  have hb1 : Below w.heap.size w (w.alloc (.cells #[.int .i64 op, .int .u32 xid, .int .i64 secs, .int .i64 flags, .int .u32 ci, .int .u32 yi, .int .u32 si, .int .u32 gi, .int .u64 ch, .slice A n c] 31)) := (Below.refl _ _).alloc (Nat.le_refl _) _
  generalize w.alloc (.cells #[.int .i64 op, .int .u32 xid, .int .i64 secs, .int .i64 flags, .int .u32 ci, .int .u32 yi, .int .u32 si, .int .u32 gi, .int .u64 ch, .slice A n c] 31) = w1 at *
  refine (find_any op xid secs flags ci yi si gi ch A n c l code w1 ((hr.below hb1).more hb1.size) hn).mono ?_
  rintro e w2 ⟨rfl, hb2⟩
  have hb := hb1.trans (hb2.mono hb1.size)
  clear hr hb1 hb2
  have hN : findL l code = none → otherB l code x = false := fun h => by unfold otherB; rw [h]
  have hS : ∀ d, findL l code = some d → otherB l code x = (decide (d.size = 4) && !(d.toList == (four x).toList)) := fun d h => by unfold otherB; rw [h]
  rcases hf : findL l code with _ | d
  · have e := Lib.hid (hN hf)
    clear hN hS
    go_wp2
    go_ret
    exact ⟨ret_bool e.out.symm, hb⟩
  · have h4 := Lib.hid (fun w => addr_any x hx w)
    have e := Lib.hid (hS d hf)
    clear hN hS
    by_cases hd : d.size = 4
    · go_wp2_with fail
      refine (h4.out w2).mono ?_
      rintro e w3 ⟨rfl, hb3⟩
      go_wp2_with fail
      go_ret
      exact ⟨ret_bool (by rw [e.out, hd]; rfl), hb.trans (hb3.mono hb.size)⟩
    · go_wp2_with fail
      go_ret
      exact ⟨ret_bool (by rw [e.out]; simp [hd]), hb⟩
end Go.Proofs.Ytbekgccecdjdeaa
