/- put: a number's bytes behind bytes. -/
import Derived.Test.YtbekgccecdjdeaaBytes
import Derived.Test.YtbekgccecdjdeaaPlain
namespace Go.Proofs.Ytbekgccecdjdeaa
open Go.RowKit

set_option maxRecDepth 100000 in
theorem put_any (base : Nat) (v : Value) (n : Nat) (xs : List Value) (x k : Nat) (w : World) (hown : w.ownsRow base 5 1 v n xs) (hb : base ≤ w.heap.size) (hx : x < 18446744073709551616) (hk : k ≤ 8) (hn : n ≤ 1073741824) :
    Calls Try.prog 20 #[v, .int .u64 x, .int .i64 k] w fun e w' => ∃ v', e = .returned v' ∧ w'.ownsRow base 5 1 v' (n + k) (xs ++ bs (be x k)) ∧ Below base w w' ∧ Grew w w' v v' := by
  obtain ⟨i0, hi, hz0, hz1, hz2⟩ := info_parts Try.info5
  have HO := Lib.hid hown
  clear hown
  go_enter Try.func20, Try.ntmps20
  go_wp2_with fail
  go_loopw [0, 7] (fun vi iv wr => ∃ j : Nat, j ≤ k ∧ iv = .int .i64 ((k - j : Nat) - 1 : Int) ∧ Hid (∃ pre, pre ++ be x (k - j) = be x k ∧ wr.ownsRow base 5 1 vi (n + j) (xs ++ bs pre) ∧ Below base w wr ∧ Grew w wr v vi)) (fun _ iv _ => (intOf iv + 1).toNat)
  case atStart => exact ⟨0, by omega, by simp, Lib.hid ⟨[], by simp, by simpa [bs] using HO.out, Below.refl _ _, Grew.refl _ _⟩⟩
  case round =>
    obtain ⟨j, hj, rfl, hst⟩ := hrel
    obtain ⟨pre, hpre, hown, hbel, hgr⟩ := hst.out
    have HG := Lib.hid hgr
    have HB := Lib.hid hbel
    have HP := Lib.hid hpre
    clear hbel hpre hst HO hgr
    by_cases h : j < k
    · obtain ⟨i, hi'⟩ : ∃ i, k - j = i + 1 := ⟨k - j - 1, by omega⟩
      rw [hi', show (((i + 1 : Nat) : Int) - 1) = (i : Int) by omega]
      have hi8 : i < 8 := by omega
      go_wp2_with (at_builtin; refine wpList_append_lit rfl (.tmp 14) (.tmp 20) rfl base wr _ 1 rfl u0 (n + j) (xs ++ bs pre) rfl hown rfl (by intro u hu; simp at hu; subst hu; rfl) (by omega) (by have := HB.out.size; omega) ?go)
      case go =>
        intro v' w' hown' hb' hg'
        have HG' := Lib.hid (HG.out.trans hg')
        clear hg'
        rw [be_byte] at hown'
        have hbw := Lib.hid (HB.out.trans hb')
        have HO' := Lib.hid hown'
        clear hown' hb' hown
        go_wp2_with fail
        go_roundw
        case rel =>
          have e : be x (k - j) = x / 256 ^ i % 256 :: be x i := by rw [hi']; rfl
          refine ⟨j + 1, by omega, ?_, Lib.hid ⟨pre ++ [x / 256 ^ i % 256], ?_, ?_, hbw.out, HG'.out⟩⟩
          · go_num
          · rw [List.append_assoc, show k - (j + 1) = i by omega, List.singleton_append, ← e]; exact HP.out
          · rw [bs_append]; exact HO'.out
        case measure => simp [intOf]
    · obtain rfl : j = k := by omega
      rw [Nat.sub_self] at HP ⊢
      go_wp2_with fail
      go_ret
      have e := HP.out
      simp [be] at e
      subst e
      exact ⟨_, rfl, hown, HB.out, HG.out⟩
/-- An address as a string. -/
theorem addr_any (x : Nat) (hx : x < 4294967296) (w : World) :
    Calls Try.prog 16 #[.int .u32 x] w fun e w' => e = .returned (.string (strOf (be x 4))) ∧ Below w.heap.size w w' := by
  go_enter Try.func16, Try.ntmps16
  go_wp2_with fail
  refine (put_any w.heap.size _ 0 [] x 4 w (World.ownsRow_nil w _ 5 1) (Nat.le_refl _) (by omega) (by omega) (by omega)).mono ?_
  rintro e w' ⟨v', rfl, hown, hb, _⟩
  obtain ⟨A, c, rfl, hr⟩ := own_slice hown
  have k1 := run_bytes_str (P := Try.prog) Try.underlying37 Try.underlying5 Try.underlying9 c hr
  go_wp2
  go_ret
  exact ⟨rfl, hb⟩
end Go.Proofs.Ytbekgccecdjdeaa
