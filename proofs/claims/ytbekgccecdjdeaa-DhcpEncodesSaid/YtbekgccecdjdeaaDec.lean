/- The message of bytes: plain facts. -/
import Derived.Test.YtbekgccecdjdeaaEncode
import Derived.Test.YtbekgccecdjdeaaNums
namespace Go.Proofs.Ytbekgccecdjdeaa
open Go.RowKit

def parse : List Opt → List Nat → Option (List Opt)
  | _, [] => none
  | acc, c :: r =>
    if c = 255 then some acc
    else if c = 0 then parse acc r
    else match r with
      | [] => none
      | k :: q => if q.length < k then none else parse (acc ++ [⟨0, c, strOf (q.take k)⟩]) (q.drop k)
termination_by _ l => l.length
decreasing_by all_goals (simp_wf <;> omega)
/-- How many options are met. -/
def cnt : List Nat → Nat
  | [] => 0
  | c :: r =>
    if c = 255 then 0
    else if c = 0 then cnt r
    else match r with
      | [] => 0
      | k :: q => if q.length < k then 0 else cnt (q.drop k) + 1
termination_by l => l.length
decreasing_by all_goals (simp_wf <;> omega)

theorem cons_of {r : List Nat} (h : 0 < r.length) : r = r.getD 0 0 :: r.drop 1 := by
  cases r with
  | nil => simp at h
  | cons c r => simp
theorem cons_of2 {r : List Nat} (h : 2 ≤ r.length) : r = r.getD 0 0 :: r.getD 1 0 :: r.drop 2 := by
  rcases r with _ | ⟨c, _ | ⟨k, r⟩⟩
  · simp at h
  · simp at h
  · simp
theorem parse_nil (acc : List Opt) : parse acc [] = none := by unfold parse; rfl
theorem parse_cons (acc : List Opt) (c : Nat) (r : List Nat) : parse acc (c :: r) = if c = 255 then some acc else if c = 0 then parse acc r else match r with
      | [] => none
      | k :: q => if q.length < k then none else parse (acc ++ [⟨0, c, strOf (q.take k)⟩]) (q.drop k) := by rw [parse.eq_def]
theorem cnt_cons (c : Nat) (r : List Nat) : cnt (c :: r) = if c = 255 then 0 else if c = 0 then cnt r else match r with
      | [] => 0
      | k :: q => if q.length < k then 0 else cnt (q.drop k) + 1 := by rw [cnt.eq_def]
theorem parse_end (acc : List Opt) {r : List Nat} (h : 0 < r.length) (h0 : r.getD 0 0 = 255) : parse acc r = some acc := by
  rw [cons_of h, h0, parse_cons, if_pos rfl]
theorem parse_zero (acc : List Opt) {r : List Nat} (h : 0 < r.length) (h0 : r.getD 0 0 = 0) : parse acc r = parse acc (r.drop 1) := by
  conv => lhs; rw [cons_of h, h0]
  rw [parse_cons, if_neg (by decide), if_pos rfl]
theorem parse_short (acc : List Opt) {r : List Nat} (h : 0 < r.length) (h1 : r.getD 0 0 ≠ 255) (h2 : r.getD 0 0 ≠ 0) (h3 : r.length < 2 ∨ r.length - 2 < r.getD 1 0) : parse acc r = none := by
  rcases Nat.lt_or_ge r.length 2 with hl | hl
  · obtain ⟨c, rfl⟩ := List.length_eq_one_iff.1 (show r.length = 1 by omega)
    simp only [List.getD_cons_zero] at h1 h2
    rw [parse_cons, if_neg h1, if_neg h2]
  · have h4 : (r.drop 2).length < r.getD 1 0 := by rw [List.length_drop]; omega
    rw [cons_of2 hl, parse_cons, if_neg h1, if_neg h2]
    simp only
    rw [if_pos h4]
theorem parse_more (acc : List Opt) {r : List Nat} (h : 2 ≤ r.length) (h1 : r.getD 0 0 ≠ 255) (h2 : r.getD 0 0 ≠ 0) (h3 : ¬ r.length - 2 < r.getD 1 0) :
    parse acc r = parse (acc ++ [⟨0, r.getD 0 0, strOf ((r.drop 2).take (r.getD 1 0))⟩]) (r.drop (2 + r.getD 1 0)) := by
  have h4 : ¬ (r.drop 2).length < r.getD 1 0 := by rw [List.length_drop]; omega
  conv => lhs; rw [cons_of2 h, parse_cons, if_neg h1, if_neg h2]
  simp only
  rw [if_neg h4, List.drop_drop]
theorem cnt_zero {r : List Nat} (h : 0 < r.length) (h0 : r.getD 0 0 = 0) : cnt r = cnt (r.drop 1) := by
  conv => lhs; rw [cons_of h, h0]
  rw [cnt_cons, if_neg (by decide), if_pos rfl]
theorem cnt_more {r : List Nat} (h : 2 ≤ r.length) (h1 : r.getD 0 0 ≠ 255) (h2 : r.getD 0 0 ≠ 0) (h3 : ¬ r.length - 2 < r.getD 1 0) : cnt r = cnt (r.drop (2 + r.getD 1 0)) + 1 := by
  have h4 : ¬ (r.drop 2).length < r.getD 1 0 := by rw [List.length_drop]; omega
  conv => lhs; rw [cons_of2 h, cnt_cons, if_neg h1, if_neg h2]
  simp only
  rw [if_neg h4, List.drop_drop]
theorem cnt_le (n : Nat) : ∀ r : List Nat, r.length ≤ n → cnt r ≤ r.length := by
  induction n with
  | zero => intro r h; obtain rfl := List.eq_nil_of_length_eq_zero (Nat.le_zero.1 h); unfold cnt; exact Nat.zero_le _
  | succ n ih =>
    intro r h
    rcases Nat.eq_zero_or_pos r.length with h0 | h0
    · obtain rfl := List.eq_nil_of_length_eq_zero h0; unfold cnt; exact Nat.zero_le _
    by_cases h1 : r.getD 0 0 = 255
    · rw [cons_of h0, h1, cnt_cons, if_pos rfl]; exact Nat.zero_le _
    by_cases h2 : r.getD 0 0 = 0
    · rw [cnt_zero h0 h2]
      have := ih (r.drop 1) (by rw [List.length_drop]; omega)
      rw [List.length_drop] at this; omega
    rcases Nat.lt_or_ge r.length 2 with hl | hl
    · obtain ⟨c, rfl⟩ := List.length_eq_one_iff.1 (show r.length = 1 by omega)
      simp only [List.getD_cons_zero] at h1 h2
      rw [cnt_cons, if_neg h1, if_neg h2]; exact Nat.zero_le _
    · by_cases h3 : r.length - 2 < r.getD 1 0
      · have h4 : (r.drop 2).length < r.getD 1 0 := by rw [List.length_drop]; omega
        rw [cons_of2 hl, cnt_cons, if_neg h1, if_neg h2]
        simp only
        rw [if_pos h4]; exact Nat.zero_le _
      · rw [cnt_more hl h1 h2 h3]
        have := ih (r.drop (2 + r.getD 1 0)) (by rw [List.length_drop]; omega)
        rw [List.length_drop] at this; omega

def headB (l : List Nat) : Bool := decide (240 ≤ l.length) && (decide (l.getD 0 0 = 1) || decide (l.getD 0 0 = 2)) && decide ((l.drop 1).take 3 = [1, 6, 0]) && decide ((l.drop 236).take 4 = [99, 130, 83, 99])
def noMsg : Msg := ⟨0, 0, 0, 0, 0, 0, 0, 0, 0, []⟩
def msgOf (l : List Nat) (o : List Opt) : Msg := ⟨(l.getD 0 0 : Nat), (numAt l 4 4 : Nat), (numAt l 8 2 : Nat), (numAt l 10 2 : Nat), (numAt l 12 4 : Nat), (numAt l 16 4 : Nat), (numAt l 20 4 : Nat), (numAt l 24 4 : Nat), (numAt l 28 6 : Nat), o⟩
/-- The message of bytes, and the number of the error. -/
def dec (l : List Nat) : Msg × Int := if headB l then (match parse [] (l.drop 240) with | some o => (msgOf l o, 0) | none => (noMsg, 60)) else (noMsg, 60)
theorem dec_no {l : List Nat} (h : headB l = false) : dec l = (noMsg, 60) := by unfold dec; rw [h]; rfl
theorem dec_bad {l : List Nat} (h : parse [] (l.drop 240) = none) : dec l = (noMsg, 60) := by unfold dec; rw [h]; split <;> rfl
theorem dec_yes {l : List Nat} {o : List Opt} (h : headB l = true) (h2 : parse [] (l.drop 240) = some o) : dec l = (msgOf l o, 0) := by unfold dec; rw [h, h2]; rfl
theorem take3 {l : List Nat} (h : 4 ≤ l.length) : (l.drop 1).take 3 = [l.getD 1 0, l.getD 2 0, l.getD 3 0] := by
  rcases l with _ | ⟨a, _ | ⟨b, _ | ⟨c, _ | ⟨d, l⟩⟩⟩⟩ <;> simp at h ⊢
theorem take4 {l : List Nat} (i : Nat) (h : i + 4 ≤ l.length) : (l.drop i).take 4 = [l.getD i 0, l.getD (i + 1) 0, l.getD (i + 2) 0, l.getD (i + 3) 0] := by
  have e : ∀ k, l.getD (i + k) 0 = (l.drop i).getD k 0 := fun k => by simp [List.getD_eq_getElem?_getD]
  rw [e 1, e 2, e 3, show l.getD i 0 = (l.drop i).getD 0 0 from e 0]
  have h2 : 4 ≤ (l.drop i).length := by rw [List.length_drop]; omega
  generalize l.drop i = m at *
  rcases m with _ | ⟨a, _ | ⟨b, _ | ⟨c, _ | ⟨d, m⟩⟩⟩⟩ <;> simp at h2 ⊢
theorem num4 (a b c d : Nat) : num [a, b, c, d] = ((a * 256 + b) * 256 + c) * 256 + d := by simp [num]
/-- The cookie's number. -/
theorem cookie_num {l : List Nat} (h8 : ∀ k, l.getD k 0 ≤ 255) (h : 240 ≤ l.length) : (numAt l 236 4 = 1669485411) ↔ (l.drop 236).take 4 = [99, 130, 83, 99] := by
  unfold numAt
  rw [take4 236 (by omega), num4]
  have a := h8 236; have b := h8 237; have c := h8 238; have d := h8 239
  simp only [List.cons.injEq, and_true, Nat.reduceAdd]
  omega
theorem headB_ref (l : List Nat) (h8 : ∀ k, l.getD k 0 ≤ 255) : headB l = true ↔ 240 ≤ l.length ∧ (l.getD 0 0 = 1 ∨ l.getD 0 0 = 2) ∧ l.getD 1 0 = 1 ∧ l.getD 2 0 = 6 ∧ l.getD 3 0 = 0 ∧ numAt l 236 4 = 1669485411 := by
  unfold headB
  simp only [Bool.and_eq_true, Bool.or_eq_true, decide_eq_true_eq]
  constructor
  · rintro ⟨⟨⟨a, b⟩, c⟩, d⟩
    rw [take3 (by omega)] at c
    simp only [List.cons.injEq, and_true] at c
    exact ⟨a, b, c.1, c.2.1, c.2.2, (cookie_num h8 a).2 d⟩
  · rintro ⟨a, b, c1, c2, c3, d⟩
    refine ⟨⟨⟨a, b⟩, ?_⟩, (cookie_num h8 a).1 d⟩
    rw [take3 (by omega), c1, c2, c3]
theorem strOf_data (l : List Nat) : (strOf l).data.toList = l.map UInt8.ofNat := by
  have key : ∀ (l : List Nat) (b : ByteArray), ((l.map fun (b : Nat) => (b : Int)).foldl (fun r n => r.push (UInt8.ofNat n.toNat)) b).data.toList = b.data.toList ++ l.map UInt8.ofNat := by
    intro l
    induction l with
    | nil => intro b; simp
    | cons c l ih => intro b; simp only [List.map_cons, List.foldl_cons]; rw [ih]; simp [ByteArray.push]
  have := key l ByteArray.empty
  simpa [strOf] using this
end Go.Proofs.Ytbekgccecdjdeaa
