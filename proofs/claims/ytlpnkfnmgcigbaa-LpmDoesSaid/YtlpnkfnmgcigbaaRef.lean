/- The reference: Mask, right, find, Get. -/
import Derived.Test.YtlpnkfnmgcigbaaBits
import Derived.Test.YtlpnkfnmgcigbaaFrame
namespace Go.Proofs.Ytlpnkfnmgcigbaa
open Go.RowKit Lp

theorem msk_step {k : Nat} (h : k < 32) : msk k / 2 + 2147483648 = msk (k + 1) := by
  unfold msk
  have e : 32 - k = (32 - (k + 1)) + 1 := by omega
  rw [e, Nat.pow_succ]
  have h1 := pow_le (j := 32 - (k + 1)) (by omega)
  have h2 := Nat.two_pow_pos (32 - (k + 1))
  have h3 : 2 ^ (32 - (k + 1)) ≤ 2147483648 := Nat.pow_le_pow_right (j := 31) (by decide : (2 : Nat) > 0) (by omega)
  omega

theorem rmask_any (n : Int) (w : World) : Calls Try.prog 15 #[.int .i64 n] w fun e w' => e = .returned (.int .u32 (msk (clamp n))) ∧ w = w' := by
  have hcl : Hid (∀ k : Nat, (k : Int) ≤ n ∨ k = 0 → k ≤ 32 → ((n ≤ k) ∨ k = 32) → clamp n = k) := Lib.hid (by
    intro k h1 h2 h3
    unfold clamp; split <;> (try split) <;> omega)
  go_enter Try.func15, Try.ntmps15
  go_wp2_with fail
  go_loopw [3, 4] (fun mv iv wr => ∃ k : Nat, mv = .int .u32 (msk k : Nat) ∧ iv = .int .i64 k ∧ k ≤ 32 ∧ ((k : Int) ≤ n ∨ k = 0) ∧ wr = w) (fun _ iv _ => 32 - (intOf iv).toNat)
  case atStart => exact ⟨0, rfl, rfl, by omega, .inr rfl, rfl⟩
  case round =>
    obtain ⟨k, rfl, rfl, hk, hn, rfl⟩ := hrel
    by_cases h1 : (k : Int) < n
    · by_cases h2 : k < 32
      · have hm := msk_lt k
        have hs := msk_step h2
        go_wp2
        refine ⟨⟨k + 1, ?_, by simp, by omega, .inl (by omega), trivial⟩, ?_⟩
        · rw [← hs, Int.natCast_add, Int.natCast_ediv]; rfl
        · simp [intOf]; omega
      · obtain rfl : k = 32 := by omega
        have E := Lib.hid (hcl.out 32 hn (by omega) (.inr rfl))
        go_wp2
        go_ret
        exact ⟨by rw [E.out]; rfl, rfl⟩
    · have E := Lib.hid (hcl.out k hn hk (.inl (by omega)))
      go_wp2
      go_ret
      exact ⟨by rw [E.out]; rfl, rfl⟩

theorem rright_any (p : Nat) (n : Int) (hp : p < 4294967296) (w : World) : Calls Try.prog 23 #[.int .u32 p, .int .i64 n] w fun e w' => e = .returned (.bool (rightN p n)) ∧ w = w' := by
  by_cases h0 : 0 ≤ n
  · by_cases h1 : n ≤ 32
    · obtain ⟨k, rfl⟩ : ∃ k : Nat, n = k := ⟨n.toNat, by omega⟩
      have E : bits BinOp.andNot IntKind.u32 (p : Int) (msk k : Nat) = (p % 2 ^ (32 - k) : Nat) := by
        rw [u32_andNot_nat p _ hp (msk_lt k), andNot_msk (by omega)]
      have MK := Lib.hid (rmask_any k)
      rw [clamp_nat (by omega)] at MK
      have E2 : rightN p k = decide (p % 2 ^ (32 - k) = 0) := by unfold rightN; simp; intro _; omega
      rw [E2]
      go_enter Try.func23, Try.ntmps23
      go_wp2_with (go_at_call 15; refine (MK.out _).mono ?_; rintro e w' ⟨rfl, rfl⟩; try rw [E])
      all_goals first | (exfalso; omega) | skip
      have E3 : ((p : Int) % 2 ^ (32 - k) == 0) = decide (p % 2 ^ (32 - k) = 0) := by
        have : ((p : Int) % 2 ^ (32 - k)) = ((p % 2 ^ (32 - k) : Nat) : Int) := by rw [Int.natCast_emod, Int.natCast_pow]; rfl
        rw [this, Bool.eq_iff_iff]
        simp only [beq_iff_eq, decide_eq_true_iff]
        omega
      rw [E3]
      go_ret
      exact ⟨rfl, rfl⟩
    · have E2 : rightN p n = false := by unfold rightN; simp; omega
      rw [E2]
      go_enter Try.func23, Try.ntmps23
      go_wp2
      all_goals first | (exfalso; omega) | skip
      go_ret
      exact ⟨rfl, rfl⟩
  · have E2 : rightN p n = false := by unfold rightN; simp; omega
    rw [E2]
    go_enter Try.func23, Try.ntmps23
    go_wp2
    all_goals first | (exfalso; omega) | skip
    go_ret
    exact ⟨rfl, rfl⟩

def rtL (r : Rt) : List Value := [.int .u32 r.p, .int .i64 r.n, .int .i64 r.v]
/-- Routes as cells. -/
def rts (L : List Rt) : List Value := L.flatMap rtL
theorem rts_length (L : List Rt) : (rts L).length = L.length * 3 := by
  induction L with
  | nil => rfl
  | cons o l ih => simp only [rts, List.flatMap_cons, List.length_append, List.length_cons] at ih ⊢; rw [ih]; simp [rtL]; omega
theorem rts_append (L M : List Rt) : rts (L ++ M) = rts L ++ rts M := by simp [rts]
theorem rts_one (L : List Rt) : ∀ u ∈ rts L, u.oneCell' = true := by
  intro u hu
  unfold rts at hu
  obtain ⟨r, _, hr⟩ := List.mem_flatMap.1 hu
  simp [rtL] at hr
  rcases hr with rfl | rfl | rfl <;> rfl
theorem rts_at (l : List Rt) (i j : Nat) (v : Value) (r : Rt) (hi : l[i]? = some r) (h : (rtL r)[j]? = some v) : (rts l)[i * 3 + j]? = some v := by
  induction l generalizing i with
  | nil => simp at hi
  | cons o l ih =>
    have hj : j < 3 := by
      have := (List.getElem?_eq_some_iff.1 h).1
      simpa [rtL] using this
    cases i with
    | zero =>
      simp at hi; subst hi
      simp only [rts, List.flatMap_cons, Nat.zero_mul, Nat.zero_add]
      rw [List.getElem?_append_left (by simpa [rtL] using hj)]
      exact h
    | succ i =>
      have := ih i (by simpa using hi)
      simp only [rts, List.flatMap_cons]
      rw [List.getElem?_append_right (by simp [rtL]; omega), show (i + 1) * 3 + j - (rtL o).length = i * 3 + j by simp [rtL]; omega]
      exact this
theorem rts_take (L : List Rt) (k : Nat) : (rts L).take (k * 3) = rts (L.take k) := by
  induction L generalizing k with
  | nil => simp [rts]
  | cons o l ih =>
    cases k with
    | zero => simp [rts]
    | succ k =>
      have := ih k
      simp only [rts, List.flatMap_cons, List.take_succ_cons] at this ⊢
      rw [List.take_append, List.take_of_length_le (by simp [rtL]; omega), show (k + 1) * 3 - (rtL o).length = k * 3 by simp [rtL]; omega, this]
theorem rts_drop (L : List Rt) (k : Nat) : (rts L).drop (k * 3) = rts (L.drop k) := by
  induction L generalizing k with
  | nil => simp [rts]
  | cons o l ih =>
    cases k with
    | zero => simp [rts]
    | succ k =>
      have := ih k
      simp only [rts, List.flatMap_cons, List.drop_succ_cons] at this ⊢
      rw [List.drop_append, List.drop_eq_nil_of_le (by simp [rtL]; omega), show (k + 1) * 3 - (rtL o).length = k * 3 by simp [rtL]; omega, this, List.nil_append]

/-- A route's three cells, as the walk asks for them. -/
theorem rt_cells {w : World} {B : Nat} {A : Option Addr} {L : List Rt} (h : Reads w B 3 A L.length (rts L)) {i : Nat} (hi : i < L.length) : ∃ ad, A = some ad ∧ ad.block < B ∧ (ad.add (i * 3)).block < B ∧
    w.cell? (ad.add (i * 3)) = some (.int .u32 L[i].p) ∧ w.cell? ⟨(ad.add (i * 3)).block, (ad.add (i * 3)).off + 1, none⟩ = some (.int .i64 L[i].n) ∧ w.cell? ⟨(ad.add (i * 3)).block, (ad.add (i * 3)).off + 2, none⟩ = some (.int .i64 L[i].v) := by
  obtain ⟨ad, rfl, hab, hcs⟩ := h.2 (by omega)
  have hl : L[i]? = some L[i] := List.getElem?_eq_getElem hi
  refine ⟨ad, rfl, hab, by rw [block_of_add]; exact hab, hcs (i * 3) _ (rts_at L i 0 _ _ hl rfl), ?_, ?_⟩
  · have := hcs (i * 3 + 1) _ (rts_at L i 1 _ _ hl rfl)
    rw [← add_of_add] at this
    exact this
  · have := hcs (i * 3 + 2) _ (rts_at L i 2 _ _ hl rfl)
    rw [← add_of_add] at this
    exact this

/-- The reference's table: block x, over the row in block g. -/
structure Rf (w : World) (x g : Nat) (L : List Rt) : Prop where
  row : ∃ A c, Blk w x 30 #[.slice A L.length c] ∧ Reads w w.heap.size 3 A L.length (rts L) ∧ (∀ ad, A = some ad → ad.block = g) ∧ L.length ≤ c
  ne : g ≠ x
theorem Rf.lt {w : World} {x g : Nat} {L : List Rt} (h : Rf w x g L) : x < w.heap.size := by
  obtain ⟨A, c, hB, _⟩ := h.row; exact hB.lt
theorem Rf.keep {w w' : World} {x g : Nat} {L : List Rt} (h : Rf w x g L) (hs : w.heap.size ≤ w'.heap.size) (hx : w'.heap[x]? = w.heap[x]?) (hg : g < w.heap.size → w'.heap[g]? = w.heap[g]?) : Rf w' x g L := by
  obtain ⟨A, c, hB, hr, hg', hc⟩ := h.row
  refine ⟨⟨A, c, hx.trans hB, ?_, hg', hc⟩, h.ne⟩
  refine ⟨hr.1, fun h0 => ?_⟩
  obtain ⟨ad, e, hb, hcell⟩ := hr.2 h0
  refine ⟨ad, e, by omega, fun j u hu => ?_⟩
  have e2 := hg' ad e
  rw [← hcell j u hu]
  refine World.cell?_of_block ?_
  rw [block_of_add, e2]
  exact hg (by omega)
theorem Rf.below {w w' : World} {x g : Nat} {L : List Rt} (h : Rf w x g L) (hb : Below w.heap.size w w') : Rf w' x g L := h.keep hb.size (hb.block _ h.lt) (fun hg => hb.block _ hg)

/-- Where the reference finds a prefix. -/
def fi : List Rt → Nat → Int → Nat → Int
  | [], _, _, _ => -1
  | r :: t, p, n, i => if r.p = p ∧ (r.n : Int) = n then i else fi t p n (i + 1)
theorem fi_none {L : List Rt} {p k : Nat} (h : lkp L p k = none) (i : Nat) : fi L p k i = -1 := by
  induction L generalizing i with
  | nil => rfl
  | cons r t ih =>
    have h1 := look_none.1 h r (List.mem_cons_self ..)
    unfold fi
    rw [if_neg (by omega)]
    exact ih (look_none.2 fun x hx => look_none.1 h x (List.mem_cons_of_mem _ hx)) _
theorem fi_neg {L : List Rt} {p : Nat} {n : Int} (h : n < 0) (i : Nat) : fi L p n i = -1 := by
  induction L generalizing i with
  | nil => rfl
  | cons r t ih => unfold fi; rw [if_neg (by omega)]; exact ih _
theorem fi_some {L : List Rt} {p k : Nat} {v : Int} (h : lkp L p k = some v) (i : Nat) : ∃ j : Nat, fi L p k i = ((i + j : Nat) : Int) ∧ L[j]? = some (⟨p, k, v⟩ : Rt) := by
  induction L generalizing i with
  | nil => simp [lkp] at h
  | cons r t ih =>
    unfold fi
    by_cases c : r.p = p ∧ (r.n : Int) = k
    · rw [if_pos c]
      have hh : has p k r = true := (has_iff _ _ _).2 ⟨c.1, by omega⟩
      unfold lkp at h
      rw [List.find?_cons, hh] at h
      simp at h
      refine ⟨0, by simp, ?_⟩
      obtain ⟨rp', rn', rv'⟩ := r
      simp at c h ⊢
      exact ⟨c.1, by omega, h⟩
    · rw [if_neg c]
      have hh : has p k r = false := by
        rw [Bool.eq_false_iff]; intro hh
        have := (has_iff _ _ _).1 hh
        exact c ⟨this.1, by omega⟩
      unfold lkp at h
      rw [List.find?_cons, hh] at h
      obtain ⟨j, h1, h2⟩ := ih (by unfold lkp; exact h) (i + 1)
      exact ⟨j + 1, by rw [h1]; congr 1; omega, by simpa using h2⟩
theorem fi_yes {r : Rt} {t : List Rt} {p : Nat} {n : Int} {i : Nat} (h : r.p = p ∧ (r.n : Int) = n) : fi (r :: t) p n i = i := by unfold fi; rw [if_pos h]
theorem fi_no {r : Rt} {t : List Rt} {p : Nat} {n : Int} {i : Nat} (h : ¬ (r.p = p ∧ (r.n : Int) = n)) : fi (r :: t) p n i = fi t p n (i + 1) := by
  rw [fi, if_neg h]

set_option maxRecDepth 100000 in
theorem rfind_any (x g p : Nat) (n : Int) (L : List Rt) (w : World) (h : Rf w x g L) (hL : L.length < 4611686018427387904) :
    Calls Try.prog 24 #[.pointer (some ⟨x, 0, none⟩), .int .u32 p, .int .i64 n] w fun e w' => e = .returned (.int .i64 (fi L p n 0)) ∧ w = w' := by
  obtain ⟨A, c, hB, hr, _, hc⟩ := h.row
  have hx : w.cell? ⟨x, 0, none⟩ = some (.slice A L.length c) := hB.cell 0
  clear h hB
  go_enter Try.func24, Try.ntmps24
  go_wp2_with fail
  go_loopw [7] (fun iv wr => ∃ i : Nat, i ≤ L.length ∧ iv = .int .i64 i ∧ wr = w ∧ Hid (fi L p n 0 = fi (L.drop i) p n i)) (fun iv _ => L.length - (intOf iv).toNat)
  case atStart => exact ⟨0, by omega, rfl, rfl, Lib.hid rfl⟩
  case round =>
    obtain ⟨i, hi, rfl, rfl, HF⟩ := hrel
    by_cases h : i < L.length
    · obtain ⟨ad, rfl, hab, hab3, e0, e1, e2⟩ := rt_cells hr h
      have hd : L.drop i = L[i] :: L.drop (i + 1) := List.drop_eq_getElem_cons h
      have hF := HF.out
      rw [hd] at hF
      have HF := Lib.hid hF
      clear hd hF
      generalize L[i] = o at *
      obtain ⟨op, on, ov⟩ := o
      simp only at e0 e1 e2
      by_cases h1 : (op : Int) = p
      · by_cases h2 : (on : Int) = n
        · go_wp2_with fail
          go_ret
          rw [HF.out, fi_yes ⟨by simp; omega, h2⟩]
          exact ⟨rfl, rfl⟩
        · go_wp2_with fail
          refine ⟨⟨i + 1, by omega, by simp, trivial, Lib.hid ?_⟩, by simp [intOf]; omega⟩
          rw [HF.out, fi_no (by simp; omega)]
      · go_wp2_with fail
        refine ⟨⟨i + 1, by omega, by simp, trivial, Lib.hid ?_⟩, by simp [intOf]; omega⟩
        rw [HF.out, fi_no (by simp; omega)]
    · obtain rfl : i = L.length := by omega
      go_wp2_with fail
      go_ret
      have e := HF.out
      rw [List.drop_length] at e
      rw [e]
      exact ⟨rfl, rfl⟩
end Go.Proofs.Ytlpnkfnmgcigbaa
