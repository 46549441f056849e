/- Find: the first option of a code. -/
import Derived.Test.YtbekgccecdjdeaaPut
namespace Go.Proofs.Ytbekgccecdjdeaa
open Go.RowKit

structure Opt where
  cls : Int
  code : Int
  data : ByteArray
def Opt.cells (o : Opt) : List Value := [.int .i64 o.cls, .int .i64 o.code, .string o.data]
def os (l : List Opt) : List Value := l.flatMap Opt.cells
theorem os_length (l : List Opt) : (os l).length = l.length * 3 := by
  induction l with
  | nil => rfl
  | cons o l ih => simp only [os, List.flatMap_cons, List.length_append, List.length_cons] at ih ⊢; rw [ih]; simp [Opt.cells]; omega
theorem os_at (l : List Opt) (i j : Nat) (v : Value) (hi : i < l.length) (h : (l[i]).cells[j]? = some v) : (os l)[i * 3 + j]? = some v := by
  induction l generalizing i with
  | nil => simp at hi
  | cons o l ih =>
    have hj : j < 3 := by
      have := (List.getElem?_eq_some_iff.1 h).1
      simpa [Opt.cells] using this
    cases i with
    | zero =>
      simp only [os, List.flatMap_cons, Nat.zero_mul, Nat.zero_add]
      rw [List.getElem?_append_left (by simpa [Opt.cells] using hj)]
      exact h
    | succ i =>
      have := ih i (by simpa using hi) (by simpa using h)
      simp only [os, List.flatMap_cons]
      rw [List.getElem?_append_right (by simp [Opt.cells]; omega), show (i + 1) * 3 + j - o.cells.length = i * 3 + j by simp [Opt.cells]; omega]
      exact this
/-- An option's three cells, as the walk asks for them. -/
theorem opt_cells {w : World} {B : Nat} {A : Option Addr} {n : Nat} {l : List Opt} (h : Reads w B 3 A n (os l)) {i : Nat} (hi : i < n) : ∃ ad, A = some ad ∧ ad.block < B ∧ (ad.add (i * 3)).block < B ∧ ∃ hl : i < l.length,
    w.cell? (ad.add (i * 3)) = some (.int .i64 l[i].cls) ∧ w.cell? ⟨(ad.add (i * 3)).block, (ad.add (i * 3)).off + 1, none⟩ = some (.int .i64 l[i].code) ∧ w.cell? ⟨(ad.add (i * 3)).block, (ad.add (i * 3)).off + 2, none⟩ = some (.string l[i].data) := by
  obtain ⟨ad, rfl, hab, hcs⟩ := h.2 (by omega)
  have hl : i < l.length := by have := h.1; rw [os_length] at this; omega
  refine ⟨ad, rfl, hab, by rw [block_of_add]; exact hab, hl, hcs (i * 3) _ (os_at l i 0 _ hl rfl), ?_, ?_⟩
  · have := hcs (i * 3 + 1) _ (os_at l i 1 _ hl rfl)
    rw [← add_of_add] at this
    exact this
  · have := hcs (i * 3 + 2) _ (os_at l i 2 _ hl rfl)
    rw [← add_of_add] at this
    exact this
structure Msg where
  op : Int
  xid : Int
  secs : Int
  flags : Int
  ci : Int
  yi : Int
  si : Int
  gi : Int
  ch : Int
  opts : List Opt
def Msg.val (m : Msg) (s : Value) : Array Value := #[.int .i64 m.op, .int .u32 m.xid, .int .i64 m.secs, .int .i64 m.flags, .int .u32 m.ci, .int .u32 m.yi, .int .u32 m.si, .int .u32 m.gi, .int .u64 m.ch, s]
def findL (l : List Opt) (c : Int) : Option ByteArray := (l.find? fun o => o.code == c).map Opt.data

theorem findL_yes (cls cd : Int) (d : ByteArray) (r : List Opt) : findL (⟨cls, cd, d⟩ :: r) cd = some d := by simp [findL]
theorem findL_no {cls cd code : Int} (d : ByteArray) {r : List Opt} (h : ¬ cd = code) : findL (⟨cls, cd, d⟩ :: r) code = findL r code := by simp [findL, h]

set_option maxRecDepth 100000 in
theorem find_any (op xid secs flags ci yi si gi ch : Int) (A : Option Addr) (n c : Nat) (l : List Opt) (code : Int) (w : World) (hr : Reads w w.heap.size 3 A n (os l)) (hn : n ≤ 1073741824) :
    Calls Try.prog 8 #[.agg (Msg.val ⟨op, xid, secs, flags, ci, yi, si, gi, ch, l⟩ (.slice A n c)), .int .i64 code] w fun e w' => e = .returned (.tuple #[.string ((findL l code).getD ByteArray.empty), .bool (findL l code).isSome]) ∧ Below w.heap.size w w' := by
  unfold Msg.val
  go_enter Try.func8, Try.ntmps8
  go_wp2_with fail
  go_loopw [11] (fun iv wr => ∃ i : Nat, i ≤ n ∧ iv = .int .i64 i ∧ Hid (Below w.heap.size w wr) ∧ Hid (findL l code = findL (l.drop i) code)) (fun iv _ => n - (intOf iv).toNat)
  case atStart => exact ⟨0, by omega, rfl, Lib.hid ((Below.refl _ _).alloc (Nat.le_refl _) _), Lib.hid rfl⟩
  case round =>
    obtain ⟨i, hi, rfl, HB, HF⟩ := hrel
    by_cases h : i < n
    · obtain ⟨ad, rfl, hab, hab3, hl, e0, e1, e2⟩ := opt_cells hr h
      rw [← HB.out.cell (by first | exact hab | exact hab3)] at e0 e1 e2
      have hd : l.drop i = l[i] :: l.drop (i + 1) := List.drop_eq_getElem_cons hl
      have hF := HF.out
      rw [hd] at hF
      have HF := Lib.hid hF
      clear hd hF
      generalize l[i] = o at *
      obtain ⟨cls, cd, data⟩ := o
      by_cases hc : cd = code
      · subst hc
        go_wp2_with fail
        go_ret2
        rw [HF.out, findL_yes]
        exact ⟨rfl, HB.out.alloc HB.out.size _⟩
      · go_wp2_with fail
        go_roundw
        case rel =>
          refine ⟨i + 1, by omega, by go_num, Lib.hid (HB.out.alloc HB.out.size _), Lib.hid ?_⟩
          rw [HF.out, findL_no _ hc]
        case measure => simp [intOf]; omega
    · obtain rfl : i = n := by omega
      go_wp2_with fail
      go_ret2
      have e := HF.out
      have h1 := hr.1
      rw [os_length] at h1
      rw [List.drop_eq_nil_of_le (by omega)] at e
      rw [e]
      exact ⟨rfl, HB.out⟩
end Go.Proofs.Ytbekgccecdjdeaa
