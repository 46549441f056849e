/- There and back: the message of a message's bytes; and a decoded message has bytes. Plain facts. -/
import Derived.Test.YtbekgccecdjdeaaDec
namespace Go.Proofs.Ytbekgccecdjdeaa
open Go.RowKit

/-- The numbers of a message fit their kinds. -/
structure Fits (m : Msg) : Prop where
  xid : 0 ≤ m.xid ∧ m.xid < 4294967296
  ci : 0 ≤ m.ci ∧ m.ci < 4294967296
  yi : 0 ≤ m.yi ∧ m.yi < 4294967296
  si : 0 ≤ m.si ∧ m.si < 4294967296
  gi : 0 ≤ m.gi ∧ m.gi < 4294967296
  ch : 0 ≤ m.ch

theorem foldl_num (l : List Nat) (a : Nat) : l.foldl (fun x c => x * 256 + c) a = a * 256 ^ l.length + num l := by
  induction l generalizing a with
  | nil => simp [num]
  | cons c l ih =>
    have h2 : num (c :: l) = c * 256 ^ l.length + num l := by
      show l.foldl _ (0 * 256 + c) = _
      rw [ih]; simp
    rw [List.foldl_cons, ih, h2, List.length_cons, Nat.pow_succ, Nat.add_mul, Nat.mul_assoc, Nat.mul_comm 256, Nat.add_assoc]
theorem num_cons (c : Nat) (l : List Nat) : num (c :: l) = c * 256 ^ l.length + num l := by
  show l.foldl _ (0 * 256 + c) = _
  rw [foldl_num]; simp
theorem num_be (x k : Nat) : num (be x k) = x % 256 ^ k := by
  induction k with
  | zero => simp [be, num, Nat.mod_one]
  | succ k ih =>
    rw [be, num_cons, ih, be_length, Nat.pow_succ, Nat.mod_mul, Nat.mul_comm]
    omega
theorem mid (p m r : List Nat) {i : Nat} (hi : p.length = i) {k : Nat} (hk : m.length = k) : ((p ++ (m ++ r)).drop i).take k = m := by
  subst hi; subst hk
  simp
theorem num_mid (p r : List Nat) (x k : Nat) {L : List Nat} (hL : L = p ++ (be x k ++ r)) {i : Nat} (hi : p.length = i) (hx : x < 256 ^ k) : numAt L i k = x := by
  unfold numAt
  rw [hL, mid p _ r hi (be_length x k), num_be, Nat.mod_eq_of_lt hx]
theorem strOf_nats (d : ByteArray) : strOf (strNats d) = d := by
  have h : (strOf (strNats d)).data.toList = d.data.toList := by
    rw [strOf_data, strNats, List.map_map]
    conv => rhs; rw [← List.map_id d.data.toList]
    apply List.map_congr_left
    intro c _
    simp
  have h2 := Array.toList_inj.1 h
  cases hs : strOf (strNats d) with
  | mk a => cases d with | mk b => rw [hs] at h2; simp only at h2; rw [h2]

theorem parse_opts (os0 acc : List Opt) (r : List Nat) (h : os0.all optOk = true) : parse acc (os0.flatMap optBytes ++ (255 :: r)) = some (acc ++ os0) := by
  induction os0 generalizing acc with
  | nil => simp only [List.flatMap_nil, List.nil_append, List.append_nil]; rw [parse_cons, if_pos rfl]
  | cons o q ih =>
    simp only [List.all_cons, Bool.and_eq_true] at h
    obtain ⟨h0, h1, h2, h3⟩ := (optOk_iff o).1 h.1
    simp only [List.flatMap_cons, optBytes, List.cons_append, List.append_assoc]
    rw [parse_cons, if_neg (by omega), if_neg (by omega)]
    simp only
    have e : (strNats o.data ++ (q.flatMap optBytes ++ 255 :: r)).take o.data.size = strNats o.data := by rw [← strNats_length]; simp
    have e2 : (strNats o.data ++ (q.flatMap optBytes ++ 255 :: r)).drop o.data.size = q.flatMap optBytes ++ 255 :: r := by rw [← strNats_length]; simp
    rw [if_neg (by rw [List.length_append, strNats_length]; omega), e, e2, strOf_nats, ih _ h.2]
    have e3 : (⟨0, ((o.code.toNat : Nat) : Int), o.data⟩ : Opt) = o := by
      cases o
      simp only at h0 h1
      simp only [Opt.mk.injEq, and_true]
      exact ⟨h0.symm, by omega⟩
    rw [e3]
    simp
theorem dec_enc {m : Msg} {l : List Nat} (behind : List Nat) (hf : Fits m) (h : enc m = some l) : dec (l ++ behind) = (m, 0) := by
  have hE : headOk m = true ∧ m.opts.all optOk = true := by
    unfold enc at h
    split at h
    · assumption
    · cases h
  rw [enc_yes hE.1 hE.2] at h
  obtain rfl := Option.some.inj h
  obtain ⟨o1, s0, s1, f0, f1, c1, _⟩ := (headOk_iff m).1 hE.1
  obtain ⟨op, xid, secs, flags, ci, yi, si, gi, ch, opts⟩ := m
  obtain ⟨hx, hci, hyi, hsi, hgi, hch⟩ := hf
  simp only at o1 s0 s1 f0 f1 c1 hx hci hyi hsi hgi hch
  have hd : (headBytes ⟨op, xid, secs, flags, ci, yi, si, gi, ch, opts⟩ ++ opts.flatMap optBytes ++ [255] ++ behind).drop 240 = opts.flatMap optBytes ++ (255 :: behind) := by
    rw [List.append_assoc, List.append_assoc, List.drop_left' (headBytes_length _)]
    simp
  obtain ⟨R, hR⟩ : ∃ R, R = opts.flatMap optBytes ++ (255 :: behind) := ⟨_, rfl⟩
  have hLen : 240 ≤ (headBytes ⟨op, xid, secs, flags, ci, yi, si, gi, ch, opts⟩ ++ opts.flatMap optBytes ++ [255] ++ behind).length := by
    rw [List.append_assoc, List.append_assoc, List.length_append, headBytes_length]; omega
  have hL : headBytes ⟨op, xid, secs, flags, ci, yi, si, gi, ch, opts⟩ ++ opts.flatMap optBytes ++ [255] ++ behind =
      [op.toNat, 1, 6, 0] ++ (be xid.toNat 4 ++ (be secs.toNat 2 ++ (be flags.toNat 2 ++ (be ci.toNat 4 ++ (be yi.toNat 4 ++ (be si.toNat 4 ++ (be gi.toNat 4 ++ (be ch.toNat 6 ++ (List.replicate 202 0 ++ ([99, 130, 83, 99] ++ R)))))))))) := by
    rw [hR]
    simp only [headBytes, List.append_assoc, List.singleton_append]
  obtain ⟨L, hLL⟩ : ∃ L, L = headBytes ⟨op, xid, secs, flags, ci, yi, si, gi, ch, opts⟩ ++ opts.flatMap optBytes ++ [255] ++ behind := ⟨_, rfl⟩
  rw [← hLL] at hL hd hLen ⊢
  have n4 : numAt L 4 4 = xid.toNat := num_mid [op.toNat, 1, 6, 0] _ _ _ hL (by rfl) (by omega)
  have n8 : numAt L 8 2 = secs.toNat := num_mid ([op.toNat, 1, 6, 0] ++ be xid.toNat 4) _ _ _ (by rw [hL]; simp only [List.append_assoc]; rfl) (by simp [be_length]) (by omega)
  have n10 : numAt L 10 2 = flags.toNat := num_mid ([op.toNat, 1, 6, 0] ++ be xid.toNat 4 ++ be secs.toNat 2) _ _ _ (by rw [hL]; simp only [List.append_assoc]; rfl) (by simp [be_length]) (by omega)
  have n12 : numAt L 12 4 = ci.toNat := num_mid ([op.toNat, 1, 6, 0] ++ be xid.toNat 4 ++ be secs.toNat 2 ++ be flags.toNat 2) _ _ _ (by rw [hL]; simp only [List.append_assoc]; rfl) (by simp [be_length]) (by omega)
  have n16 : numAt L 16 4 = yi.toNat := num_mid ([op.toNat, 1, 6, 0] ++ be xid.toNat 4 ++ be secs.toNat 2 ++ be flags.toNat 2 ++ be ci.toNat 4) _ _ _ (by rw [hL]; simp only [List.append_assoc]; rfl) (by simp [be_length]) (by omega)
  have n20 : numAt L 20 4 = si.toNat := num_mid ([op.toNat, 1, 6, 0] ++ be xid.toNat 4 ++ be secs.toNat 2 ++ be flags.toNat 2 ++ be ci.toNat 4 ++ be yi.toNat 4) _ _ _ (by rw [hL]; simp only [List.append_assoc]; rfl) (by simp [be_length]) (by omega)
  have n24 : numAt L 24 4 = gi.toNat := num_mid ([op.toNat, 1, 6, 0] ++ be xid.toNat 4 ++ be secs.toNat 2 ++ be flags.toNat 2 ++ be ci.toNat 4 ++ be yi.toNat 4 ++ be si.toNat 4) _ _ _ (by rw [hL]; simp only [List.append_assoc]; rfl) (by simp [be_length]) (by omega)
  have n28 : numAt L 28 6 = ch.toNat := num_mid ([op.toNat, 1, 6, 0] ++ be xid.toNat 4 ++ be secs.toNat 2 ++ be flags.toNat 2 ++ be ci.toNat 4 ++ be yi.toNat 4 ++ be si.toNat 4 ++ be gi.toNat 4) _ _ _ (by rw [hL]; simp only [List.append_assoc]; rfl) (by simp [be_length]) (by omega)
  have hck : (L.drop 236).take 4 = [99, 130, 83, 99] := by
    have e : L = ([op.toNat, 1, 6, 0] ++ be xid.toNat 4 ++ be secs.toNat 2 ++ be flags.toNat 2 ++ be ci.toNat 4 ++ be yi.toNat 4 ++ be si.toNat 4 ++ be gi.toNat 4 ++ be ch.toNat 6 ++ List.replicate 202 0) ++ ([99, 130, 83, 99] ++ R) := by rw [hL]; simp only [List.append_assoc]
    rw [e]
    exact mid _ _ _ (by simp only [List.length_append, be_length, List.length_replicate, List.length_cons, List.length_nil]) rfl
  have h0 : L.getD 0 0 = op.toNat := by rw [hL]; rfl
  have hfm : (L.drop 1).take 3 = [1, 6, 0] := by rw [hL]; rfl
  have hb : headB L = true := by
    unfold headB
    rw [hck, hfm, h0]
    simp only [Bool.and_eq_true, Bool.or_eq_true, decide_eq_true_eq, and_true, decide_true]
    exact ⟨hLen, by omega⟩
  rw [dec_yes hb (o := opts) (by rw [hd, parse_opts opts [] behind hE.2, List.nil_append])]
  unfold msgOf
  rw [h0, n4, n8, n10, n12, n16, n20, n24, n28]
  simp only [Prod.mk.injEq, Msg.mk.injEq, and_true]
  exact ⟨by omega, by omega, by omega, by omega, by omega, by omega, by omega, by omega, by omega⟩

theorem strOf_size (l : List Nat) : (strOf l).size = l.length := by
  have h := congrArg List.length (strOf_data l)
  rw [List.length_map, Array.length_toList] at h
  exact h
theorem parse_ok (n : Nat) : ∀ (r : List Nat) (acc o : List Opt), r.length ≤ n → (∀ k, r.getD k 0 ≤ 255) → acc.all optOk = true → parse acc r = some o → o.all optOk = true := by
  induction n with
  | zero =>
    intro r acc o hr h8 ha h
    obtain rfl := List.eq_nil_of_length_eq_zero (Nat.le_zero.1 hr)
    rw [parse_nil] at h; cases h
  | succ n ih =>
    intro r acc o hr h8 ha h
    rcases Nat.eq_zero_or_pos r.length with h0 | h0
    · obtain rfl := List.eq_nil_of_length_eq_zero h0
      rw [parse_nil] at h; cases h
    have hdrop : ∀ i k, (r.drop i).getD k 0 ≤ 255 := fun i k => by
      have := h8 (i + k)
      simpa [List.getD_eq_getElem?_getD] using this
    by_cases h1 : r.getD 0 0 = 255
    · rw [parse_end acc h0 h1] at h
      obtain rfl := Option.some.inj h
      exact ha
    by_cases h2 : r.getD 0 0 = 0
    · rw [parse_zero acc h0 h2] at h
      exact ih _ _ _ (by rw [List.length_drop]; omega) (hdrop 1) ha h
    by_cases h3 : r.length < 2 ∨ r.length - 2 < r.getD 1 0
    · rw [parse_short acc h0 h1 h2 h3] at h; cases h
    · have hl : 2 ≤ r.length := by omega
      have h4 : ¬ r.length - 2 < r.getD 1 0 := fun q => h3 (.inr q)
      rw [parse_more acc hl h1 h2 h4] at h
      refine ih _ _ _ (by rw [List.length_drop]; omega) (hdrop _) ?_ h
      rw [List.all_append, ha]
      have a0 := h8 0
      have a1 := h8 1
      have hs : (strOf ((r.drop 2).take (r.getD 1 0))).size = r.getD 1 0 := by
        rw [strOf_size, List.length_take, List.length_drop]; omega
      simp only [List.all_cons, List.all_nil, Bool.and_true, Bool.true_and]
      exact (optOk_iff _).2 ⟨rfl, by simp only; omega, by simp only; omega, by simp only; omega⟩
theorem dec_msg {l : List Nat} {m : Msg} (h : dec l = (m, 0)) : headB l = true ∧ ∃ o, parse [] (l.drop 240) = some o ∧ m = msgOf l o := by
  unfold dec at h
  split at h
  · rename_i hb
    refine ⟨hb, ?_⟩
    split at h
    · rename_i o ho
      injection h with h1 _
      exact ⟨o, ho, h1.symm⟩
    · injection h with _ h2; cases h2
  · injection h with _ h2; cases h2
theorem dec_fits {l : List Nat} (h8 : ∀ k, l.getD k 0 ≤ 255) {m : Msg} (h : dec l = (m, 0)) : Fits m := by
  obtain ⟨hb, o, _, rfl⟩ := dec_msg h
  have hL : 240 ≤ l.length := ((headB_ref l h8).1 hb).1
  have a4 := numAt_lt h8 (i := 4) (n := 4) (by omega)
  have a12 := numAt_lt h8 (i := 12) (n := 4) (by omega)
  have a16 := numAt_lt h8 (i := 16) (n := 4) (by omega)
  have a20 := numAt_lt h8 (i := 20) (n := 4) (by omega)
  have a24 := numAt_lt h8 (i := 24) (n := 4) (by omega)
  simp only [Nat.reducePow] at a4 a12 a16 a20 a24
  exact ⟨⟨by simp [msgOf], by simp only [msgOf]; omega⟩, ⟨by simp [msgOf], by simp only [msgOf]; omega⟩, ⟨by simp [msgOf], by simp only [msgOf]; omega⟩, ⟨by simp [msgOf], by simp only [msgOf]; omega⟩, ⟨by simp [msgOf], by simp only [msgOf]; omega⟩, by simp [msgOf]⟩
theorem enc_dec {l : List Nat} (h8 : ∀ k, l.getD k 0 ≤ 255) {m : Msg} (h : dec l = (m, 0)) (h64 : m.opts.length ≤ 64) : ∃ l', enc m = some l' := by
  obtain ⟨hb, o, ho, rfl⟩ := dec_msg h
  obtain ⟨hL, hop, _⟩ := (headB_ref l h8).1 hb
  have a8 := numAt_lt h8 (i := 8) (n := 2) (by omega)
  have a10 := numAt_lt h8 (i := 10) (n := 2) (by omega)
  have a28 := numAt_lt h8 (i := 28) (n := 6) (by omega)
  simp only [Nat.reducePow] at a8 a10 a28
  refine ⟨_, enc_yes ((headOk_iff _).2 ⟨?_, ?_, ?_, ?_, ?_, ?_, h64⟩) (parse_ok _ _ _ _ (Nat.le_refl _) (fun k => ?_) rfl ho)⟩
  · simp only [msgOf]; omega
  · simp only [msgOf]; omega
  · simp only [msgOf]; omega
  · simp only [msgOf]; omega
  · simp only [msgOf]; omega
  · simp only [msgOf]; omega
  · have := h8 (240 + k)
    simpa [List.getD_eq_getElem?_getD] using this
end Go.Proofs.Ytbekgccecdjdeaa
