/- Two tables and the reference's, side by side; what the longest prefixes say. -/
import Derived.Test.YtlpnkfnmgcigbaaDuo
import Derived.Test.YtlpnkfnmgcigbaaRefAdd
import Derived.Test.YtlpnkfnmgcigbaaLooks
namespace Go.Proofs.Ytlpnkfnmgcigbaa
open Go.RowKit Lp

structure Tri (w W : World) (t1 : Nat) (nd1 : Nd) (L1 : List Rt) (t2 : Nat) (nd2 : Nd) (L2 : List Rt) (x g : Nat) (L : List Rt) : Prop where
  duo : Duo w W t1 nd1 L1 t2 nd2 L2
  rf : Rf W x g L
  x1 : ¬ Mine nd1 t1 x
  x2 : ¬ Mine nd2 t2 x
  xlo : w.heap.size ≤ x
  gp : Blk W x 30 #[.slice none 0 0] ∨ (g < W.heap.size ∧ ¬ Mine nd1 t1 g ∧ ¬ Mine nd2 t2 g)

theorem Rf.keep2 {W W' : World} {x g : Nat} {L : List Rt} (h : Rf W x g L) (hs : W.heap.size ≤ W'.heap.size) (hx : W'.heap[x]? = W.heap[x]?) (hg : Blk W x 30 #[.slice none 0 0] ∨ W'.heap[g]? = W.heap[g]?) : Rf W' x g L := by
  rcases hg with hg | hg
  · obtain ⟨A, c, hB, hr, _, hc⟩ := h.row
    have e : (#[Value.slice A L.length c] : Array Value) = #[.slice none 0 0] := by
      unfold Blk at hB hg
      rw [hB] at hg
      injection hg with hg
      injection hg
    have e2 : Value.slice A L.length c = .slice none 0 0 := by
      have := congrArg (fun a : Array Value => a[0]?) e
      simpa using this
    injection e2 with e3 e4 e5
    refine ⟨⟨A, c, hx.trans hB, ⟨hr.1, fun h0 => absurd e4 (by omega)⟩, fun ad ha => (by rw [e3] at ha; cases ha), hc⟩, h.ne⟩
  · exact h.keep hs hx fun _ => hg

section
variable {w W W' : World} {t1 t2 x g g' : Nat} {nd1 nd1' nd2 nd2' : Nd} {L1 L1' L2 L2' L L' : List Rt}
theorem Tri.swap (h : Tri w W t1 nd1 L1 t2 nd2 L2 x g L) : Tri w W t2 nd2 L2 t1 nd1 L1 x g L := ⟨h.duo.swap, h.rf, h.x2, h.x1, h.xlo, h.gp.imp id fun ⟨a, b, c⟩ => ⟨a, c, b⟩⟩
theorem Tri.na (h : Tri w W t1 nd1 L1 t2 nd2 L2 x g L) (hn : Next W W' t1 nd1 nd1' L1') : Tri w W' t1 nd1' L1' t2 nd2 L2 x g L := by
  have hxs := hn.only.block x h.rf.lt h.x1
  have new : ∀ k, k < W.heap.size → ¬ Mine nd1 t1 k → ¬ Mine nd1' t1 k := fun k hk hm hm' => by
    rcases hn.new k hm' with h1 | h1
    · exact hm h1
    · omega
  refine ⟨h.duo.na hn, h.rf.keep2 hn.only.size hxs (h.gp.imp id fun ⟨a, b, _⟩ => hn.only.block g a b), new x h.rf.lt h.x1, h.x2, h.xlo, h.gp.imp (fun q => hxs.trans q) fun ⟨a, b, c⟩ => ⟨Nat.lt_of_lt_of_le a hn.only.size, new g a b, c⟩⟩
theorem Tri.nb (h : Tri w W t1 nd1 L1 t2 nd2 L2 x g L) (hn : Next W W' t2 nd2 nd2' L2') : Tri w W' t1 nd1 L1 t2 nd2' L2' x g L := (h.swap.na hn).swap
theorem Tri.below (h : Tri w W t1 nd1 L1 t2 nd2 L2 x g L) (hb : Below W.heap.size W W') : Tri w W' t1 nd1 L1 t2 nd2 L2 x g L := by
  have hxs := hb.block x h.rf.lt
  exact ⟨h.duo.below hb, h.rf.keep2 hb.size hxs (h.gp.imp id fun ⟨a, _, _⟩ => hb.block g a), h.x1, h.x2, h.xlo, h.gp.imp (fun q => hxs.trans q) fun ⟨a, b, c⟩ => ⟨Nat.lt_of_lt_of_le a hb.size, b, c⟩⟩
theorem Tri.drew (h : Tri w W t1 nd1 L1 t2 nd2 L2 x g L) : Tri w W.drew t1 nd1 L1 t2 nd2 L2 x g L := h.below (below_drewN (Below.refl _ _) 1)
theorem Tri.drewN (h : Tri w W t1 nd1 L1 t2 nd2 L2 x g L) (n : Nat) : Tri w (W.drewN n) t1 nd1 L1 t2 nd2 L2 x g L := h.below (below_drewN (Below.refl _ _) n)
theorem Tri.alloc (h : Tri w W t1 nd1 L1 t2 nd2 L2 x g L) (o : Obj) : Tri w (W.alloc o) t1 nd1 L1 t2 nd2 L2 x g L := h.below ((Below.refl _ _).alloc (Nat.le_refl _) o)
theorem Tri.nr (h : Tri w W t1 nd1 L1 t2 nd2 L2 x g L) (hn : NextR W W' x g g' L') : Tri w W' t1 nd1 L1 t2 nd2 L2 x g' L' := by
  have k1 : ∀ k, Mine nd1 t1 k → W'.heap[k]? = W.heap[k]? := fun k hk => hn.only.block k (h.duo.a.tab.lt hk) (fun e => h.x1 (e ▸ hk))
  have k2 : ∀ k, Mine nd2 t2 k → W'.heap[k]? = W.heap[k]? := fun k hk => hn.only.block k (h.duo.b.tab.lt hk) (fun e => h.x2 (e ▸ hk))
  have hbl : Below w.heap.size w W' := h.duo.bel.trans ⟨hn.only.os, hn.only.tape, hn.only.output, hn.only.size, fun k hk => hn.only.block k (Nat.lt_of_lt_of_le hk h.duo.bel.size) (fun e => by have := h.xlo; omega)⟩
  refine ⟨⟨⟨h.duo.a.tab.keep k1, h.duo.a.own⟩, ⟨h.duo.b.tab.keep k2, h.duo.b.own⟩, h.duo.dis, hbl⟩, hn.rf, h.x1, h.x2, h.xlo, ?_⟩
  rcases hn.new with ⟨rfl, e⟩ | ⟨e, h0⟩
  · exact h.gp.imp (fun q => e.trans q) fun ⟨a, b, c⟩ => ⟨Nat.lt_of_lt_of_le a hn.only.size, b, c⟩
  · obtain ⟨A, c, _, hr, hg', _⟩ := hn.rf.row
    obtain ⟨ad, ea, hlt, _⟩ := hr.2 h0
    have e1 := hg' ad ea
    exact .inr ⟨by omega, fun hm => by have := h.duo.a.tab.lt hm; omega, fun hm => by have := h.duo.b.tab.lt hm; omega⟩
theorem Tri.both1 (h : Tri w W t1 nd1 L t2 nd2 L2 x g L) : Both W.heap.size W t1 nd1 x g L := by
  refine ⟨h.duo.a.tab, h.rf, fun k hk => h.duo.a.tab.lt hk, h.rf.lt, fun h0 => ?_⟩
  obtain ⟨A, c, _, hr, hg', _⟩ := h.rf.row
  obtain ⟨ad, ea, hlt, _⟩ := hr.2 h0
  have e1 := hg' ad ea
  omega
theorem Tri.both2 (h : Tri w W t1 nd1 L1 t2 nd2 L x g L) : Both W.heap.size W t2 nd2 x g L := h.swap.both1
end

/-- The last of what stands behind goes ahead. -/
theorem ins_front {L : List Rt} (hs : Sorted L) {i : Nat} (hi : i < L.length) : ins (L.drop (i + 1)) L[i] = L.drop i ∧ lkp (L.drop (i + 1)) L[i].p L[i].n = none := by
  have hd : L.drop i = L[i] :: L.drop (i + 1) := List.drop_eq_getElem_cons hi
  have hs2 : Sorted (L.drop i) := List.Pairwise.sublist (List.drop_sublist _ _) hs
  rw [hd] at hs2
  have h1 := (List.pairwise_cons.1 hs2).1
  have hno : ∀ r ∈ L.drop (i + 1), ¬ kl r L[i] = true := by
    intro r hr hh
    have a := (kl_iff _ _).1 (h1 r hr)
    have b := (kl_iff _ _).1 hh
    omega
  refine ⟨?_, look_none.2 fun r hr hh => ?_⟩
  · rw [hd]
    unfold ins
    generalize L.drop (i + 1) = M at *
    cases M with
    | nil => rfl
    | cons a M =>
      have := hno a (List.mem_cons_self ..)
      rw [List.takeWhile_cons_of_neg (by simpa using this), List.dropWhile_cons_of_neg (by simpa using this)]
      rfl
  · have a := (kl_iff _ _).1 (h1 r hr)
    omega
theorem add_front {L : List Rt} (hs : Sorted L) (hr : Right L) {i : Nat} (hi : i < L.length) : addC (L.drop (i + 1)) L[i].p L[i].n = 0 ∧ addL (L.drop (i + 1)) L[i].p L[i].n L[i].v = L.drop i := by
  obtain ⟨h1, h2⟩ := ins_front hs hi
  have hR := hr L[i] (List.getElem_mem hi)
  have h3 : rightN L[i].p L[i].n = true := (rightN_ok hR.1).2 ⟨L[i].n, rfl, hR.2.1, hR.1, hR.2.2⟩
  have h4 : addC (L.drop (i + 1)) L[i].p L[i].n = 0 := by unfold addC; rw [if_pos h3, Int.toNat_natCast, h2]; rfl
  refine ⟨h4, ?_⟩
  unfold addL
  rw [h4, if_pos rfl, Int.toNat_natCast]
  exact h1

/-- What is found has the address, and nothing longer has it. -/
theorem lon_says {L : List Rt} (hs : Sorted L) (hr : Right L) (ip : Nat) (r : Rt) (hm : r ∈ L) (ht : top ip r.n = r.p) : (lon L ip 33).isSome = true ∧ (r.n : Int) ≤ rn (lon L ip 33) := by
  have hb := best_lon hs ip 33
  have hlt : r.n < 33 := by have := (hr r hm).2.1; omega
  cases hl : lon L ip 33 with
  | none => exact absurd ht ((hl ▸ hb).1 rfl r ⟨hm, hlt⟩)
  | some y =>
    have := ((hl ▸ hb).2 y rfl).2.2 r ⟨hm, hlt⟩ ht
    exact ⟨rfl, by simp [rn]; omega⟩
theorem lon_has {L : List Rt} (hs : Sorted L) (hr : Right L) (ip : Nat) (h : (lon L ip 33).isSome = true) : top ip (rn (lon L ip 33)) = rp (lon L ip 33) ∧ rn (lon L ip 33) ≤ 32 := by
  have hb := best_lon hs ip 33
  cases hl : lon L ip 33 with
  | none => rw [hl] at h; cases h
  | some y =>
    have := (hl ▸ hb).2 y rfl
    exact ⟨this.2.1, (hr y this.1.1).2.1⟩
end Go.Proofs.Ytlpnkfnmgcigbaa
