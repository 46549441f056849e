/- The contracts as the laws' walks ask for them. -/
import Derived.Test.YtbekgccecdjdeaaDecode
import Derived.Test.YtbekgccecdjdeaaRefEncode
import Derived.Test.YtbekgccecdjdeaaSame
import Derived.Test.YtbekgccecdjdeaaEncLe
import Derived.Test.YtbekgccecdjdeaaLives
namespace Go.Proofs.Ytbekgccecdjdeaa
open Go.RowKit

theorem decode_as {l : List Nat} {op xid secs flags ci yi si gi ch : Int} {opts : List Opt} {ec : Int} (h : dec l = (⟨op, xid, secs, flags, ci, yi, si, gi, ch, opts⟩, ec)) (A : Option Addr) (c : Nat) (w : World)
    (hr : Reads w w.heap.size 1 A l.length (bs l)) (h8 : ∀ k, l.getD k 0 ≤ 255) (hc : l.length ≤ c) (hl : l.length ≤ 4398046511104) (hroom : cnt (l.drop 240) ≤ 1048576) :
    Calls Try.prog 10 #[.slice A l.length c] w fun e w' => Below w.heap.size w w' ∧ ∃ A c, e = .returned (.tuple #[.agg #[.int .i64 op, .int .u32 xid, .int .i64 secs, .int .i64 flags, .int .u32 ci, .int .u32 yi, .int .u32 si, .int .u32 gi, .int .u64 ch, .slice A opts.length c], .int .i64 ec]) ∧ Reads w' w'.heap.size 3 A opts.length (os opts) := by
  refine (decode_any A c l w hr h8 hc (by omega) hroom).mono ?_
  rintro e w' ⟨hb, A', n, c', he, hr'⟩
  rw [h] at he hr'
  simp only at he hr'
  obtain rfl : n = opts.length := by have := hr'.1; rw [os_length] at this; omega
  exact ⟨hb, A', c', he, hr'⟩
theorem encode_as {op : Int} {xid : Nat} {secs flags : Int} {ci yi si gi ch : Nat} {opts : List Opt} {l : List Nat} (h : enc ⟨op, xid, secs, flags, ci, yi, si, gi, ch, opts⟩ = some l) (A : Option Addr) (c : Nat) (w : World) (hr : Reads w w.heap.size 3 A opts.length (os opts))
    (hxid : xid < 4294967296) (hci : ci < 4294967296) (hyi : yi < 4294967296) (hsi : si < 4294967296) (hgi : gi < 4294967296) (hch : ch < 18446744073709551616) :
    Calls Try.prog 13 #[.agg #[.int .i64 op, .int .u32 xid, .int .i64 secs, .int .i64 flags, .int .u32 ci, .int .u32 yi, .int .u32 si, .int .u32 gi, .int .u64 ch, .slice A opts.length c]] w fun e w' => Below w.heap.size w w' ∧ ∃ A c, e = .returned (.tuple #[.slice A l.length c, .int .i64 0]) ∧ Reads w' w'.heap.size 1 A l.length (bs l) ∧ l.length ≤ c := by
  refine (encode_any op xid secs flags ci yi si gi ch A opts.length c opts w hr hxid hci hyi hsi hgi hch).mono ?_
  rintro e w' ⟨hb, he⟩
  rw [h] at he
  exact ⟨hb, he⟩
theorem same_as {op xid secs flags ci yi si gi ch : Int} {opts : List Opt} (A B : Option Addr) (c d : Nat) (w : World) (hA : Reads w w.heap.size 3 A opts.length (os opts)) (hB : Reads w w.heap.size 3 B opts.length (os opts)) (hn : opts.length ≤ 1073741824) :
    Calls Try.prog 12 #[.agg #[.int .i64 op, .int .u32 xid, .int .i64 secs, .int .i64 flags, .int .u32 ci, .int .u32 yi, .int .u32 si, .int .u32 gi, .int .u64 ch, .slice A opts.length c], .agg #[.int .i64 op, .int .u32 xid, .int .i64 secs, .int .i64 flags, .int .u32 ci, .int .u32 yi, .int .u32 si, .int .u32 gi, .int .u64 ch, .slice B opts.length d]] w fun e w' => e = .returned (.bool true) ∧ Below w.heap.size w w' :=
  same_any op xid secs flags ci yi si gi ch A B opts.length c d opts w hA hB hn
theorem parse_count (n : Nat) : ∀ (r : List Nat) (acc o : List Opt), r.length ≤ n → parse acc r = some o → o.length ≤ acc.length + r.length := by
  induction n with
  | zero =>
    intro r acc o hr h
    obtain rfl := List.eq_nil_of_length_eq_zero (Nat.le_zero.1 hr)
    rw [parse_nil] at h; cases h
  | succ n ih =>
    intro r acc o hr h
    rcases Nat.eq_zero_or_pos r.length with h0 | h0
    · obtain rfl := List.eq_nil_of_length_eq_zero h0
      rw [parse_nil] at h; cases h
    by_cases h1 : r.getD 0 0 = 255
    · rw [parse_end acc h0 h1] at h
      obtain rfl := Option.some.inj h
      omega
    by_cases h2 : r.getD 0 0 = 0
    · rw [parse_zero acc h0 h2] at h
      have := ih _ _ _ (by rw [List.length_drop]; omega) h
      rw [List.length_drop] at this; omega
    by_cases h3 : r.length < 2 ∨ r.length - 2 < r.getD 1 0
    · rw [parse_short acc h0 h1 h2 h3] at h; cases h
    · rw [parse_more acc (by omega) h1 h2 (fun q => h3 (.inr q))] at h
      have := ih _ _ _ (by rw [List.length_drop]; omega) h
      rw [List.length_drop, List.length_append, List.length_singleton] at this; omega
theorem dec_count {l : List Nat} {m : Msg} {ec : Int} (h : dec l = (m, ec)) : m.opts.length ≤ l.length := by
  rcases dec_cases l with h' | ⟨m', h'⟩
  · rw [h] at h'
    injection h' with h1 _
    rw [h1]; exact Nat.zero_le _
  · obtain ⟨_, o, ho, rfl⟩ := dec_msg h'
    rw [h] at h'
    injection h' with h1 _
    rw [h1]
    have := parse_count _ _ _ _ (Nat.le_refl _) ho
    rw [List.length_drop] at this
    simp only [msgOf, List.length_nil] at this ⊢
    omega

theorem refEncode_as {op : Int} {xid : Nat} {secs flags : Int} {ci yi si gi ch : Nat} {opts : List Opt} {l : List Nat} (h : enc ⟨op, xid, secs, flags, ci, yi, si, gi, ch, opts⟩ = some l) (A : Option Addr) (c : Nat) (w : World) (hr : Reads w w.heap.size 3 A opts.length (os opts))
    (hxid : xid < 4294967296) (hci : ci < 4294967296) (hyi : yi < 4294967296) (hsi : si < 4294967296) (hgi : gi < 4294967296) (hch : ch < 18446744073709551616) :
    Calls Try.prog 14 #[.agg #[.int .i64 op, .int .u32 xid, .int .i64 secs, .int .i64 flags, .int .u32 ci, .int .u32 yi, .int .u32 si, .int .u32 gi, .int .u64 ch, .slice A opts.length c]] w fun e w' => Below w.heap.size w w' ∧ ∃ A c, e = .returned (.tuple #[.slice A l.length c, .int .i64 0]) ∧ Reads w' w'.heap.size 1 A l.length (bs l) ∧ l.length ≤ c := by
  refine (refEncode_any op xid secs flags ci yi si gi ch A opts.length c opts w hr hxid hci hyi hsi hgi hch).mono ?_
  rintro e w' ⟨hb, he⟩
  rw [h] at he
  exact ⟨hb, he⟩
theorem encode_no {op : Int} {xid : Nat} {secs flags : Int} {ci yi si gi ch : Nat} {opts : List Opt} (h : enc ⟨op, xid, secs, flags, ci, yi, si, gi, ch, opts⟩ = none) (A : Option Addr) (c : Nat) (w : World) (hr : Reads w w.heap.size 3 A opts.length (os opts))
    (hxid : xid < 4294967296) (hci : ci < 4294967296) (hyi : yi < 4294967296) (hsi : si < 4294967296) (hgi : gi < 4294967296) (hch : ch < 18446744073709551616) :
    Calls Try.prog 13 #[.agg #[.int .i64 op, .int .u32 xid, .int .i64 secs, .int .i64 flags, .int .u32 ci, .int .u32 yi, .int .u32 si, .int .u32 gi, .int .u64 ch, .slice A opts.length c]] w fun e w' => e = .returned (.tuple #[.slice none 0 0, .int .i64 1]) ∧ Below w.heap.size w w' := by
  refine (encode_any op xid secs flags ci yi si gi ch A opts.length c opts w hr hxid hci hyi hsi hgi hch).mono ?_
  rintro e w' ⟨hb, he⟩
  rw [h] at he
  exact ⟨he, hb⟩
theorem refEncode_no {op : Int} {xid : Nat} {secs flags : Int} {ci yi si gi ch : Nat} {opts : List Opt} (h : enc ⟨op, xid, secs, flags, ci, yi, si, gi, ch, opts⟩ = none) (A : Option Addr) (c : Nat) (w : World) (hr : Reads w w.heap.size 3 A opts.length (os opts))
    (hxid : xid < 4294967296) (hci : ci < 4294967296) (hyi : yi < 4294967296) (hsi : si < 4294967296) (hgi : gi < 4294967296) (hch : ch < 18446744073709551616) :
    Calls Try.prog 14 #[.agg #[.int .i64 op, .int .u32 xid, .int .i64 secs, .int .i64 flags, .int .u32 ci, .int .u32 yi, .int .u32 si, .int .u32 gi, .int .u64 ch, .slice A opts.length c]] w fun e w' => e = .returned (.tuple #[.slice none 0 0, .int .i64 1]) ∧ Below w.heap.size w w' := by
  refine (refEncode_any op xid secs flags ci yi si gi ch A opts.length c opts w hr hxid hci hyi hsi hgi hch).mono ?_
  rintro e w' ⟨hb, he⟩
  rw [h] at he
  exact ⟨he, hb⟩
theorem cnt_opts (os0 : List Opt) (r : List Nat) (h : os0.all optOk = true) : cnt (os0.flatMap optBytes ++ (255 :: r)) = os0.length := by
  induction os0 with
  | nil => simp only [List.flatMap_nil, List.nil_append, List.length_nil]; rw [cnt_cons, if_pos rfl]
  | cons o q ih =>
    simp only [List.all_cons, Bool.and_eq_true] at h
    obtain ⟨h0, h1, h2, h3⟩ := (optOk_iff o).1 h.1
    simp only [List.flatMap_cons, optBytes, List.cons_append, List.append_assoc]
    rw [cnt_cons, if_neg (by omega), if_neg (by omega)]
    simp only
    have e2 : (strNats o.data ++ (q.flatMap optBytes ++ 255 :: r)).drop o.data.size = q.flatMap optBytes ++ 255 :: r := by rw [← strNats_length]; simp
    rw [if_neg (by rw [List.length_append, strNats_length]; omega), e2, ih h.2]
    rfl
theorem cnt_enc {m : Msg} {l : List Nat} (behind : List Nat) (h : enc m = some l) : cnt ((l ++ behind).drop 240) ≤ 64 := by
  obtain ⟨h1, h2, rfl⟩ := enc_some h
  have h64 := ((headOk_iff m).1 h1).2.2.2.2.2.2
  rw [List.append_assoc, List.append_assoc, List.drop_left' (headBytes_length _)]
  have := cnt_opts m.opts behind h2
  rw [show m.opts.flatMap optBytes ++ ([255] ++ behind) = m.opts.flatMap optBytes ++ (255 :: behind) by simp, this]
  exact h64
end Go.Proofs.Ytbekgccecdjdeaa
