/- get, Num, at4: numbers of bytes. -/
import Derived.Test.YtbekgccecdjdeaaPut
import Derived.Laws.Bits64b
namespace Go.Proofs.Ytbekgccecdjdeaa
open Go.RowKit

theorem num_snoc (l : List Nat) (c : Nat) : num (l ++ [c]) = num l * 256 + c := by simp [num]
theorem num_lt {l : List Nat} (h : ∀ c ∈ l, c ≤ 255) : num l < 256 ^ l.length := by
  obtain ⟨k, hk⟩ : ∃ k, l.length = k := ⟨_, rfl⟩
  induction k generalizing l with
  | zero => obtain rfl : l = [] := List.eq_nil_of_length_eq_zero hk
            simp [num]
  | succ k ih =>
    obtain ⟨m, c, rfl⟩ : ∃ m c, l = m ++ [c] := by
      refine ⟨l.dropLast, l.getLast (by intro e; rw [e] at hk; simp at hk), ?_⟩
      exact (List.dropLast_concat_getLast _).symm
    have hm : m.length = k := by simpa using hk
    have h1 := ih (l := m) (fun x hx => h x (List.mem_append_left _ hx)) hm
    have h2 := h c (List.mem_append_right _ (by simp))
    rw [num_snoc, List.length_append, hm]
    rw [hm] at h1
    simp only [List.length_cons, List.length_nil, Nat.zero_add, Nat.pow_succ]
    omega
theorem take_snoc {l : List Nat} {i : Nat} (h : i < l.length) : l.take (i + 1) = l.take i ++ [l.getD i 0] := by
  rw [List.take_add_one, List.getElem?_eq_getElem h, List.getD_eq_getElem?_getD, List.getElem?_eq_getElem h]
  rfl
theorem num_take_lt {l : List Nat} (h : ∀ k, l.getD k 0 ≤ 255) (hl : l.length ≤ 8) (i : Nat) (hi : i < l.length) : num (l.take i) * 256 + l.getD i 0 < 18446744073709551616 ∧ num (l.take i) < 72057594037927936 := by
  have hm : ∀ c ∈ l, c ≤ 255 := by
    intro c hc
    obtain ⟨k, hk, rfl⟩ := List.mem_iff_getElem.1 hc
    have := h k
    rw [List.getD_eq_getElem?_getD, List.getElem?_eq_getElem hk] at this
    simpa using this
  have h1 := num_lt (l := l.take i) (fun c hc => hm c (List.mem_of_mem_take hc))
  have h3 : 256 ^ (l.take i).length ≤ 256 ^ 7 := Nat.pow_le_pow_right (by decide) (by rw [List.length_take]; omega)
  have h4 := h i
  have e : (256 : Nat) ^ 7 = 72057594037927936 := by decide
  omega

set_option maxRecDepth 100000 in
theorem num_any (A : Option Addr) (c : Nat) (l : List Nat) (w : World) (hr : Reads w w.heap.size 1 A l.length (bs l)) (h8 : ∀ k, l.getD k 0 ≤ 255) (hl : l.length ≤ 8) :
    Calls Try.prog 18 #[.slice A l.length c] w fun e w' => e = .returned (.int .u64 (num l)) ∧ w = w' := by
  go_enter Try.func18, Try.ntmps18
  go_wp2_with fail
  go_loopw [3, 4] (fun xv iv wr => ∃ i : Nat, i ≤ l.length ∧ iv = .int .i64 i ∧ xv = .int .u64 (num (l.take i)) ∧ wr = w) (fun _ iv _ => l.length - (intOf iv).toNat)
  case atStart => exact ⟨0, by omega, rfl, rfl, rfl⟩
  case round =>
    obtain ⟨i, hi, rfl, rfl, rfl⟩ := hrel
    by_cases h : i < l.length
    · obtain ⟨ad, u, rfl, hab, hu, hc⟩ := hr.at_ h
      obtain ⟨_, rfl⟩ := bs_at hu
      obtain ⟨hb, hb2⟩ := num_take_lt h8 hl i h
      have h9 := h8 i
      have HS := Lib.hid (take_snoc h)
      have HN : Hid (num (l.take (i + 1)) = num (l.take i) * 256 + l.getD i 0) := Lib.hid (by rw [HS.out, num_snoc])
      generalize l.getD i 0 = b at *
      generalize num (l.take i) = x at *
      go_wp2_with fail
      exact ⟨⟨i + 1, by omega, by simp, by rw [HN.out, Int.natCast_add, Int.natCast_mul]; rfl, trivial⟩, by simp [intOf]; omega⟩
    · obtain rfl : i = l.length := by omega
      go_wp2_with fail
      go_ret
      rw [List.take_length]
      exact ⟨rfl, rfl⟩

theorem or_byte (x b : Nat) (hx : x * 256 < 18446744073709551616) (hb : b ≤ 255) : bits BinOp.or IntKind.u64 ((x : Int) * 256) (b : Int) = ((x * 256 + b : Nat) : Int) := by
  have h := bits_or_u64_nat (x * 256) b hx (by omega)
  have e : x * 256 ||| b = x * 256 + b := by
    rw [Nat.mul_comm, show (256 : Nat) = 2 ^ 8 from rfl]
    exact (Nat.two_pow_add_eq_or_of_lt (by omega) x).symm
  rw [e] at h
  rw [← h, Int.natCast_mul]
  rfl

set_option maxRecDepth 100000 in
theorem get_any (A : Option Addr) (c : Nat) (l : List Nat) (w : World) (hr : Reads w w.heap.size 1 A l.length (bs l)) (h8 : ∀ k, l.getD k 0 ≤ 255) (hl : l.length ≤ 8) :
    Calls Try.prog 17 #[.slice A l.length c] w fun e w' => e = .returned (.int .u64 (num l)) ∧ w = w' := by
  go_enter Try.func17, Try.ntmps17
  go_wp2_with fail
  go_loopw [3, 8] (fun xv iv wr => ∃ i : Nat, i ≤ l.length ∧ iv = .int .i64 i ∧ xv = .int .u64 (num (l.take i)) ∧ wr = w) (fun _ iv _ => l.length - (intOf iv).toNat)
  case atStart => exact ⟨0, by omega, rfl, rfl, rfl⟩
  case round =>
    obtain ⟨i, hi, rfl, rfl, rfl⟩ := hrel
    by_cases h : i < l.length
    · obtain ⟨ad, u, rfl, hab, hu, hc⟩ := hr.at_ h
      obtain ⟨_, rfl⟩ := bs_at hu
      obtain ⟨hb, hb2⟩ := num_take_lt h8 hl i h
      have h9 := h8 i
      have HS := Lib.hid (take_snoc h)
      have HN : Hid (num (l.take (i + 1)) = num (l.take i) * 256 + l.getD i 0) := Lib.hid (by rw [HS.out, num_snoc])
      generalize l.getD i 0 = b at *
      generalize num (l.take i) = x at *
      have OB := or_byte x b (by omega) h9
      go_wp2_with fail
      exact ⟨⟨i + 1, by omega, by simp, by rw [HN.out, Int.natCast_add, Int.natCast_mul]; rfl, trivial⟩, by simp [intOf]; omega⟩
    · obtain rfl : i = l.length := by omega
      go_wp2_with fail
      go_ret
      rw [List.take_length]
      exact ⟨rfl, rfl⟩

theorem reads_part {w : World} {B : Nat} {A : Option Addr} {l : List Nat} {i n : Nat} (h : Reads w B 1 A l.length (bs l)) (hi : i + n ≤ l.length) (c : Nat) (hc : l.length ≤ c) (hn : 0 < n) :
    Reads w B 1 (if c = i then A else A.map (·.add (i * 1))) ((l.drop i).take n).length (bs ((l.drop i).take n)) := by
  have h1 := h.cut (k := i) (cap := c) (by omega) hc
  have e : (bs l).drop (i * 1) = bs (l.drop i) := by unfold bs; rw [Nat.mul_one, List.map_drop]
  rw [e] at h1
  refine ⟨by rw [bs_length]; simp, fun h0 => ?_⟩
  obtain ⟨ad, ea, hb, hcell⟩ := h1.2 (by omega)
  refine ⟨ad, ea, hb, fun j u hu => hcell j u ?_⟩
  rw [← hu]
  unfold bs at hu ⊢
  rw [List.map_take] at hu ⊢
  have hj := (List.getElem?_eq_some_iff.1 hu).1
  rw [List.length_take] at hj
  exact (List.getElem?_take_of_lt (by omega)).symm

/-- The number of n bytes at a place. -/
def numAt (l : List Nat) (i n : Nat) : Nat := num ((l.drop i).take n)
theorem part_length {l : List Nat} {i n : Nat} (h : i + n ≤ l.length) : ((l.drop i).take n).length = n := by rw [List.length_take, List.length_drop]; omega
theorem part_le {l : List Nat} (h : ∀ k, l.getD k 0 ≤ 255) (i n k : Nat) : ((l.drop i).take n).getD k 0 ≤ 255 := by
  rw [List.getD_eq_getElem?_getD]
  by_cases hk : k < n
  · rw [List.getElem?_take_of_lt hk, List.getElem?_drop, ← List.getD_eq_getElem?_getD]; exact h _
  · rw [List.getElem?_eq_none (by rw [List.length_take]; omega)]; simp
theorem numAt_lt {l : List Nat} (h : ∀ k, l.getD k 0 ≤ 255) {i n : Nat} (hi : i + n ≤ l.length) : numAt l i n < 256 ^ n := by
  have := num_lt (l := (l.drop i).take n) (fun c hc => by
    obtain ⟨k, hk, rfl⟩ := List.mem_iff_getElem.1 hc
    have := part_le h i n k
    rw [List.getD_eq_getElem?_getD, List.getElem?_eq_getElem hk] at this
    simpa using this)
  rw [part_length hi] at this
  exact this

set_option maxRecDepth 100000 in
theorem at4_any (A : Option Addr) (c : Nat) (l : List Nat) (i : Nat) (w : World) (hr : Reads w w.heap.size 1 A l.length (bs l)) (h8 : ∀ k, l.getD k 0 ≤ 255) (hi : i + 4 ≤ l.length) (hc : l.length ≤ c) (hl : l.length ≤ 4398046511104) :
    Calls Try.prog 19 #[.slice A l.length c, .int .i64 i] w fun e w' => e = .returned (.int .u32 (numAt l i 4)) ∧ w = w' := by
  have hp := reads_part hr hi c hc (by omega)
  have hN := num_any (if c = i then A else A.map (·.add (i * 1))) (c - i) ((l.drop i).take 4) w hp (part_le h8 i 4) (by rw [part_length hi]; omega)
  rw [part_length hi, if_neg (by omega), Nat.mul_one] at hN
  have HN := Lib.hid hN
  have hlt := numAt_lt h8 hi
  have hmod : ((num ((l.drop i).take 4) : Nat) : Int) % 4294967296 = (num ((l.drop i).take 4) : Nat) := by unfold numAt at hlt; omega
  have e4 : i + 4 - i = 4 := by omega
  have hic : i + 4 ≤ c := by omega
  unfold numAt
  clear hp hN hr hlt
  go_enter Try.func19, Try.ntmps19
  go_wp2_with fail
  rw [e4]
  refine HN.out.mono ?_
  rintro e w' ⟨rfl, rfl⟩
  go_wp2_with fail
  go_ret
  exact ⟨rfl, rfl⟩
end Go.Proofs.Ytbekgccecdjdeaa
