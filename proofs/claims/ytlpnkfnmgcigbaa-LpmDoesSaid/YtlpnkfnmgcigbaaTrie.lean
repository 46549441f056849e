/- The trie in memory: places by key, and what a step does to them. No program here. -/
import Derived.Test.YtlpnkfnmgcigbaaKit
import Derived.Test.YtlpnkfnmgcigbaaPlain
namespace Go.Proofs.Ytlpnkfnmgcigbaa
open Go.RowKit Lp

abbrev Nd := Nat → Nat → Option Nat
def at0 (b : Nat) : Addr := ⟨b, 0, none⟩
def ptr (o : Option Nat) : Value := .pointer (o.map fun b => ⟨b, 0, none⟩)
def son (q i b : Nat) : Nat := q + b * 2 ^ (31 - i)
def upd (nd : Nd) (q i g : Nat) : Nd := fun q' i' => if q' = q ∧ i' = i then some g else nd q' i'
def cellsOf (nd : Nd) (L : List Rt) (q i : Nat) : Array Value :=
  #[.bool (lkp L q i).isSome, .int .i64 ((lkp L q i).getD 0), ptr (nd q (i + 1)), ptr (nd (q + 2 ^ (31 - i)) (i + 1))]

theorem son0 (q i : Nat) : son q i 0 = q := by simp [son]
theorem son1 (q i : Nat) : son q i 1 = q + 2 ^ (31 - i) := by simp [son]
theorem upd_ne {nd : Nd} {q i q' i' : Nat} (g : Nat) (h : ¬ (q' = q ∧ i' = i)) : upd nd q i g q' i' = nd q' i' := by unfold upd; rw [if_neg h]

/-- A place may be. -/
def Ok (q i : Nat) : Prop := i ≤ 32 ∧ q < 2 ^ 32 ∧ q % 2 ^ (32 - i) = 0

structure Trie (T : TypeId) (w : World) (nd : Nd) (L : List Rt) : Prop where
  sorted : Sorted L
  right : Right L
  root : ∃ b, nd 0 0 = some b
  blk : ∀ q i b, nd q i = some b → Blk w b T (cellsOf nd L q i)
  inj : ∀ q i q' i' b, nd q i = some b → nd q' i' = some b → q = q' ∧ i = i'
  dom : ∀ q i b, nd q i = some b → Ok q i
  up : ∀ q i b, nd q (i + 1) = some b → ∃ b', nd (top q i) i = some b'
  mem : ∀ r ∈ L, ∃ b, nd r.p r.n = some b

def Has (nd : Nd) (k : Nat) : Prop := ∃ q i, nd q i = some k

theorem son_ok {q i b : Nat} (h : Ok q i) (hi : i < 32) (hb : b < 2) : Ok (son q i b) (i + 1) ∧ top (son q i b) i = q := by
  obtain ⟨_, h2, h3⟩ := h
  obtain ⟨k, hk⟩ : ∃ k, k = 31 - i := ⟨_, rfl⟩
  have e1 : 32 - i = k + 1 := by omega
  have e2 : 32 - (i + 1) = k := by omega
  unfold Ok son top
  rw [e1] at h3 ⊢
  rw [e2, ← hk]
  have hp : 2 ^ (k + 1) = 2 * 2 ^ k := by rw [Nat.pow_succ, Nat.mul_comm]
  have hpos := Nat.two_pow_pos k
  obtain ⟨c, hc⟩ := Nat.dvd_of_mod_eq_zero h3
  have hm : i + (k + 1) = 32 := by omega
  have h32 : 2 ^ 32 = 2 ^ (k + 1) * 2 ^ i := by rw [← Nat.pow_add]; congr 1; omega
  have hlt : c < 2 ^ i := by
    rw [h32, hc] at h2
    exact Nat.lt_of_mul_lt_mul_left h2
  have hle : 2 ^ (k + 1) * (c + 1) ≤ 2 ^ 32 := by rw [h32]; exact Nat.mul_le_mul_left _ hlt
  have hbl : b * 2 ^ k < 2 ^ (k + 1) := by rw [hp]; exact Nat.mul_lt_mul_of_pos_right hb hpos
  refine ⟨⟨by omega, ?_, ?_⟩, ?_⟩
  · rw [Nat.mul_add, Nat.mul_one] at hle; omega
  · apply Nat.mod_eq_zero_of_dvd
    refine Nat.dvd_add ?_ ⟨b, Nat.mul_comm _ _⟩
    rw [hc, hp]; exact ⟨2 * c, by rw [Nat.mul_assoc, Nat.mul_left_comm]⟩
  · rw [hc, Nat.add_comm, Nat.add_mul_div_left _ _ (Nat.two_pow_pos _), Nat.div_eq_of_lt hbl, Nat.zero_add, Nat.mul_comm]

theorem son_eq {k i : Nat} (h : Ok k (i + 1)) : k = son (top k i) i (bit k i) := by
  obtain ⟨h1, h2, h3⟩ := h
  have := top_succ k i (by omega)
  rw [top_of_dvd h3] at this
  exact this

theorem top_ok {k i : Nat} (h : k < 2 ^ 32) (hi : i ≤ 32) : Ok (top k i) i := ⟨hi, Nat.lt_of_le_of_lt (top_le _ _) h, top_dvd _ _⟩

section
variable {T : TypeId} {w w' : World} {nd : Nd} {L : List Rt}

theorem Trie.lt (h : Trie T w nd L) {k : Nat} (hk : Has nd k) : k < w.heap.size := by
  obtain ⟨q, i, e⟩ := hk
  exact (h.blk q i k e).lt

theorem Trie.keep (h : Trie T w nd L) (hk : ∀ k, Has nd k → w'.heap[k]? = w.heap[k]?) : Trie T w' nd L :=
  { h with blk := fun q i b e => (hk b ⟨q, i, e⟩).trans (h.blk q i b e) }

theorem Trie.kid0 (h : Trie T w nd L) {q i b : Nat} (e : nd q i = some b) : w.cell? ⟨b, 2, none⟩ = some (ptr (nd q (i + 1))) := (h.blk q i b e).cell 2
theorem Trie.kid1 (h : Trie T w nd L) {q i b : Nat} (e : nd q i = some b) : w.cell? ⟨b, 3, none⟩ = some (ptr (nd (q + 2 ^ (31 - i)) (i + 1))) := (h.blk q i b e).cell 3
theorem Trie.kid (h : Trie T w nd L) {q i b : Nat} (e : nd q i = some b) {c : Nat} (hc : c < 2) : w.cell? ⟨b, 2 + c, none⟩ = some (ptr (nd (son q i c) (i + 1))) := by
  rcases (show c = 0 ∨ c = 1 by omega) with rfl | rfl
  · simpa [son] using h.kid0 e
  · simpa [son] using h.kid1 e
theorem Trie.has (h : Trie T w nd L) {q i b : Nat} (e : nd q i = some b) : w.cell? ⟨b, 0, none⟩ = some (.bool (lkp L q i).isSome) := (h.blk q i b e).cell 0
theorem Trie.value (h : Trie T w nd L) {q i b : Nat} (e : nd q i = some b) : w.cell? ⟨b, 1, none⟩ = some (.int .i64 ((lkp L q i).getD 0)) := (h.blk q i b e).cell 1

theorem Trie.none_look (h : Trie T w nd L) {q i : Nat} (e : nd q i = none) : lkp L q i = none := by
  rw [look_none]
  rintro r hr ⟨rfl, rfl⟩
  obtain ⟨b, hb⟩ := h.mem r hr
  rw [e] at hb; cases hb

/-- Behind a place that is not there is none. -/
theorem Trie.none_more (h : Trie T w nd L) {q i : Nat} (e : nd (top q i) i = none) : ∀ j, i ≤ j → j ≤ 32 → nd (top q j) j = none := by
  intro j hj
  induction j with
  | zero => intro _; obtain rfl : i = 0 := by omega
            exact e
  | succ j ih =>
    intro h32
    by_cases c : i = j + 1
    · subst c; exact e
    · have := ih (by omega) (by omega)
      cases hc : nd (top q (j + 1)) (j + 1) with
      | none => rfl
      | some b =>
        obtain ⟨b', hb'⟩ := h.up _ _ _ hc
        rw [top_top (Nat.le_succ j)] at hb'
        rw [hb'] at this; cases this

theorem Trie.grow (h : Trie T w nd L) {q i a c : Nat} (e : nd q i = some a) (hi : i < 32) (hc : c < 2) (hn : nd (son q i c) (i + 1) = none) :
    Trie T ((w.alloc (.cells #[.bool false, .int .i64 0, .pointer none, .pointer none] T)).setCell ⟨a, 2 + c, none⟩ (ptr (some w.heap.size))) (upd nd (son q i c) (i + 1) w.heap.size) L := by
  obtain ⟨hso, hst⟩ := son_ok (h.dom q i a e) hi hc
  have hlt : ∀ q i b, nd q i = some b → b < w.heap.size := fun q i b e => (h.blk q i b e).lt
  have hal := hlt q i a e
  have hnew : ∀ q' i', nd q' i' = some w.heap.size → False := fun q' i' e' => Nat.lt_irrefl _ (hlt _ _ _ e')
  -- what lies below the new place
  have hleaf : ∀ c', c' < 2 → nd (son (son q i c) (i + 1) c') (i + 1 + 1) = none := by
    intro c' hc'
    cases hz : nd (son (son q i c) (i + 1) c') (i + 1 + 1) with
    | none => rfl
    | some z =>
      have hd := h.dom _ _ _ hz
      have hi1 : i + 1 < 32 := by have := hd.1; omega
      obtain ⟨b', hb'⟩ := h.up _ _ _ hz
      rw [(son_ok hso hi1 hc').2, hn] at hb'
      cases hb'
  refine ⟨h.sorted, h.right, ?_, ?_, ?_, ?_, ?_, ?_⟩
  · obtain ⟨b, hb⟩ := h.root
    refine ⟨b, ?_⟩
    unfold upd
    rw [if_neg (by omega)]; exact hb
  · intro q' i' b hb
    unfold upd at hb
    by_cases hk : q' = son q i c ∧ i' = i + 1
    · rw [if_pos hk] at hb
      obtain ⟨rfl, rfl⟩ := hk
      cases hb
      have hB : Blk (w.alloc (.cells #[.bool false, .int .i64 0, .pointer none, .pointer none] T)) w.heap.size T #[.bool false, .int .i64 0, .pointer none, .pointer none] := Blk.new _ _ _
      have hB2 := hB.far (p := ⟨a, 2 + c, none⟩) (by simp; omega) (ptr (some w.heap.size))
      have e0 : cellsOf (upd nd (son q i c) (i + 1) w.heap.size) L (son q i c) (i + 1) = #[.bool false, .int .i64 0, .pointer none, .pointer none] := by
        have h0 := hleaf 0 (by omega)
        have h1 := hleaf 1 (by omega)
        simp only [son, Nat.zero_mul, Nat.one_mul, Nat.add_zero] at h0 h1
        unfold cellsOf upd
        rw [h.none_look hn, if_neg (by omega), if_neg (by omega)]
        simp only [son]
        rw [h0, h1]
        rfl
      rw [e0]; exact hB2
    · rw [if_neg hk] at hb
      have hbl := hlt _ _ _ hb
      have hB := (h.blk q' i' b hb).alloc (.cells #[.bool false, .int .i64 0, .pointer none, .pointer none] T)
      by_cases hba : b = a
      · subst hba
        obtain ⟨rfl, rfl⟩ := h.inj _ _ _ _ _ hb e
        have := hB.set_ (2 + c) (ptr (some w.heap.size))
        have e0 : cellsOf (upd nd (son q' i' c) (i' + 1) w.heap.size) L q' i' = (cellsOf nd L q' i').setIfInBounds (2 + c) (ptr (some w.heap.size)) := by
          have hpos := Nat.two_pow_pos (31 - i')
          rcases (show c = 0 ∨ c = 1 by omega) with rfl | rfl
          · unfold cellsOf upd son
            simp
          · unfold cellsOf upd son
            simp
        rw [e0]; exact this
      · have := hB.far (p := ⟨a, 2 + c, none⟩) hba (ptr (some w.heap.size))
        have e0 : cellsOf (upd nd (son q i c) (i + 1) w.heap.size) L q' i' = cellsOf nd L q' i' := by
          have hq' := h.dom _ _ _ hb
          have key : ∀ c', c' < 2 → ¬ (son q' i' c' = son q i c ∧ i' + 1 = i + 1) := by
            rintro c' hc' ⟨h1, h2⟩
            have h3 : i' = i := by omega
            subst h3
            have h4 := (son_ok hq' hi hc').2
            rw [h1, hst] at h4
            subst h4
            rw [hb] at e
            exact hba (Option.some.inj e)
          have k0 := key 0 (by omega)
          have k1 := key 1 (by omega)
          rw [son0] at k0
          rw [son1] at k1
          unfold cellsOf
          rw [upd_ne _ k0, upd_ne _ k1]
        rw [e0]; exact this
  · intro q1 i1 q2 i2 b h1 h2
    unfold upd at h1 h2
    split at h1
    · rename_i k1
      cases h1
      split at h2
      · rename_i k2; exact ⟨k1.1.trans k2.1.symm, k1.2.trans k2.2.symm⟩
      · exact (hnew _ _ h2).elim
    · split at h2
      · cases h2; exact (hnew _ _ h1).elim
      · exact h.inj _ _ _ _ _ h1 h2
  · intro q' i' b hb
    unfold upd at hb
    split at hb
    · rename_i k; rw [k.1, k.2]; exact hso
    · exact h.dom _ _ _ hb
  · intro q' i' b hb
    unfold upd at hb
    have key : ∃ b', nd (top q' i') i' = some b' := by
      split at hb
      · rename_i k
        have : i' = i := by omega
        subst this
        rw [k.1, hst]; exact ⟨a, e⟩
      · exact h.up _ _ _ hb
    obtain ⟨b', hb'⟩ := key
    unfold upd
    split
    · exact ⟨_, rfl⟩
    · exact ⟨b', hb'⟩
  · intro r hr
    obtain ⟨b, hb⟩ := h.mem r hr
    unfold upd
    split
    · exact ⟨_, rfl⟩
    · exact ⟨b, hb⟩

/-- Its value is set. -/
theorem Trie.store (h : Trie T w nd L) {q i a : Nat} (e : nd q i = some a) {L' : List Rt} (hs : Sorted L') (hr : Right L') (o : Option Int)
    (hl : ∀ p n, lkp L' p n = if q = p ∧ i = n then o else lkp L p n) (hm : ∀ r ∈ L', ∃ b, nd r.p r.n = some b) :
    Trie T ((w.setCell ⟨a, 0, none⟩ (.bool o.isSome)).setCell ⟨a, 1, none⟩ (.int .i64 (o.getD 0))) nd L' := by
  refine ⟨hs, hr, h.root, ?_, h.inj, h.dom, h.up, hm⟩
  intro q' i' b hb
  have hB := h.blk _ _ _ hb
  by_cases hba : b = a
  · subst hba
    obtain ⟨rfl, rfl⟩ := h.inj _ _ _ _ _ hb e
    have := (hB.set_ 0 (.bool o.isSome)).set_ 1 (.int .i64 (o.getD 0))
    have e0 : cellsOf nd L' q' i' = ((cellsOf nd L q' i').setIfInBounds 0 (.bool o.isSome)).setIfInBounds 1 (.int .i64 (o.getD 0)) := by
      unfold cellsOf
      rw [hl, if_pos ⟨rfl, rfl⟩]
      simp
    rw [e0]; exact this
  · have := (hB.far (p := ⟨a, 0, none⟩) hba (.bool o.isSome)).far (p := ⟨a, 1, none⟩) hba (.int .i64 (o.getD 0))
    have e0 : cellsOf nd L' q' i' = cellsOf nd L q' i' := by
      unfold cellsOf
      rw [hl, if_neg]
      rintro ⟨rfl, rfl⟩
      rw [hb] at e
      exact hba (Option.some.inj e)
    rw [e0]; exact this

theorem Trie.put (h : Trie T w nd L) {q i a : Nat} (e : nd q i = some a) (hn : lkp L q i = none) (v : Int) :
    Trie T ((w.setCell ⟨a, 0, none⟩ (.bool true)).setCell ⟨a, 1, none⟩ (.int .i64 v)) nd (ins L ⟨q, i, v⟩) := by
  have hd := h.dom _ _ _ e
  refine h.store e (sorted_ins h.sorted hn) ?_ (some v) (fun p n => look_ins L ⟨q, i, v⟩ hn p n) ?_
  · intro r hr
    rcases mem_ins.1 hr with rfl | hr
    · exact ⟨hd.2.1, hd.1, hd.2.2⟩
    · exact h.right r hr
  · intro r hr
    rcases mem_ins.1 hr with rfl | hr
    · exact ⟨a, e⟩
    · exact h.mem r hr

theorem Trie.away (h : Trie T w nd L) {q i a : Nat} (e : nd q i = some a) :
    Trie T ((w.setCell ⟨a, 0, none⟩ (.bool false)).setCell ⟨a, 1, none⟩ (.int .i64 0)) nd (del L q i) := by
  refine h.store e (sorted_del h.sorted q i) (fun r hr => h.right r (List.mem_filter.1 hr).1) none (fun p n => look_del L q i p n) (fun r hr => h.mem r (List.mem_filter.1 hr).1)
end

/-- What a call that writes only blocks of S leaves. -/
structure Only (S : Nat → Prop) (w w' : World) : Prop where
  os : w'.os = w.os
  tape : w'.tape = w.tape
  output : w'.output = w.output
  size : w.heap.size ≤ w'.heap.size
  block : ∀ k, k < w.heap.size → ¬ S k → w'.heap[k]? = w.heap[k]?

section
variable {S S' : Nat → Prop} {w w1 w2 : World}
theorem Only.refl (S : Nat → Prop) (w : World) : Only S w w := ⟨rfl, rfl, rfl, Nat.le_refl _, fun _ _ _ => rfl⟩
theorem Only.trans (h : Only S w w1) (h' : Only S' w1 w2) (hs : ∀ k, S' k → k < w.heap.size → S k) : Only S w w2 :=
  ⟨h'.os.trans h.os, h'.tape.trans h.tape, h'.output.trans h.output, Nat.le_trans h.size h'.size, fun k hk hn => (h'.block k (Nat.lt_of_lt_of_le hk h.size) (fun hh => hn (hs k hh hk))).trans (h.block k hk hn)⟩
theorem Only.mono (h : Only S w w1) (hs : ∀ k, S k → k < w.heap.size → S' k) : Only S' w w1 := ⟨h.os, h.tape, h.output, h.size, fun k hk hn => h.block k hk fun hh => hn (hs k hh hk)⟩
theorem Only.setCell (h : Only S w w1) {p : Addr} (hp : p.block < w.heap.size → S p.block) (u : Value) : Only S w (w1.setCell p u) :=
  ⟨h.os, h.tape, h.output, by rw [World.size_setCell]; exact h.size, fun k hk hn => by
    rw [Below.heap_setCell w1 p u k (fun e => by subst e; exact hn (hp hk))]
    exact h.block k hk hn⟩
theorem Only.alloc (h : Only S w w1) (o : Obj) : Only S w (w1.alloc o) :=
  ⟨h.os, h.tape, h.output, by simp; exact Nat.le_succ_of_le h.size, fun k hk hn => (Below.heap_alloc w1 o k (Nat.lt_of_lt_of_le hk h.size)).trans (h.block k hk hn)⟩
theorem Only.below (h : Below w.heap.size w w1) (S : Nat → Prop) : Only S w w1 := ⟨h.os, h.tape, h.output, h.size, fun k hk _ => h.block k hk⟩
theorem Only.to_below (h : Only S w w1) {B : Nat} (hB : B ≤ w.heap.size) (hs : ∀ k, S k → B ≤ k) : Below B w w1 :=
  ⟨h.os, h.tape, h.output, h.size, fun k hk => h.block k (by omega) fun hh => by have := hs k hh; omega⟩
end
end Go.Proofs.Ytlpnkfnmgcigbaa
