/- A table and the reference's, side by side. -/
import Derived.Test.YtlpnkfnmgcigbaaTri
import Derived.Test.YtlpnkfnmgcigbaaRefRem
import Derived.Test.YtlpnkfnmgcigbaaRefFind
namespace Go.Proofs.Ytlpnkfnmgcigbaa
open Go.RowKit Lp

structure Uno (w W : World) (t : Nat) (nd : Nd) (x g : Nat) (L : List Rt) : Prop where
  a : Own w.heap.size W t nd L
  rf : Rf W x g L
  x1 : ¬ Mine nd t x
  xlo : w.heap.size ≤ x
  gp : Blk W x 30 #[.slice none 0 0] ∨ (g < W.heap.size ∧ ¬ Mine nd t g)
  bel : Below w.heap.size w W

/-- On the way: the table has gone ahead. -/
structure Mid (w W : World) (t : Nat) (nd : Nd) (x g : Nat) (L1 L : List Rt) : Prop where
  a : Own w.heap.size W t nd L1
  rf : Rf W x g L
  x1 : ¬ Mine nd t x
  xlo : w.heap.size ≤ x
  gp : Blk W x 30 #[.slice none 0 0] ∨ (g < W.heap.size ∧ ¬ Mine nd t g)
  bel : Below w.heap.size w W
section
variable {w W W' : World} {t x g g' : Nat} {nd nd' : Nd} {L L1 L' : List Rt}
theorem Uno.na (h : Uno w W t nd x g L) (hn : Next W W' t nd nd' L1) : Mid w W' t nd' x g L1 L := by
  have hxs := hn.only.block x h.rf.lt h.x1
  have new : ∀ k, k < W.heap.size → ¬ Mine nd t k → ¬ Mine nd' t k := fun k hk hm hm' => by
    rcases hn.new k hm' with h1 | h1
    · exact hm h1
    · omega
  obtain ⟨h1, h2⟩ := h.a.next h.bel.size hn
  exact ⟨h1, h.rf.keep2 hn.only.size hxs (h.gp.imp id fun ⟨a, b⟩ => hn.only.block g a b), new x h.rf.lt h.x1, h.xlo, h.gp.imp (fun q => hxs.trans q) fun ⟨a, b⟩ => ⟨Nat.lt_of_lt_of_le a hn.only.size, new g a b⟩, h.bel.trans h2⟩
theorem Mid.on (h : Mid w W t nd x g L1 L) (ho : Only (fun k => k = x) W W') (hr : Rf W' x g' L1) (hg : Blk W' x 30 #[.slice none 0 0] ∨ (g' < W'.heap.size ∧ ¬ Mine nd t g')) : Uno w W' t nd x g' L1 := by
  have k1 : ∀ k, Mine nd t k → W'.heap[k]? = W.heap[k]? := fun k hk => ho.block k (h.a.tab.lt hk) (fun e => h.x1 (e ▸ hk))
  exact ⟨⟨h.a.tab.keep k1, h.a.own⟩, hr, h.x1, h.xlo, hg, h.bel.trans ⟨ho.os, ho.tape, ho.output, ho.size, fun k hk => ho.block k (Nat.lt_of_lt_of_le hk h.bel.size) (fun e => by have := h.xlo; omega)⟩⟩
theorem Mid.nr (h : Mid w W t nd x g L1 L) (hn : NextR W W' x g g' L1) : Uno w W' t nd x g' L1 := by
  refine h.on hn.only hn.rf ?_
  rcases hn.new with ⟨rfl, e⟩ | ⟨e, h0⟩
  · exact h.gp.imp (fun q => e.trans q) fun ⟨a, b⟩ => ⟨Nat.lt_of_lt_of_le a hn.only.size, b⟩
  · obtain ⟨A, c, _, hr, hg', _⟩ := hn.rf.row
    obtain ⟨ad, ea, hlt, _⟩ := hr.2 h0
    have e1 := hg' ad ea
    exact .inr ⟨by omega, fun hm => by have := h.a.tab.lt hm; omega⟩
theorem Mid.rem (h : Mid w W t nd x g L1 L) (hn : RemR W W' x g g' L1) : Uno w W' t nd x g' L1 := by
  refine h.on hn.only hn.rf ?_
  rcases hn.new with ⟨rfl, rfl⟩ | ⟨e, h0⟩
  · exact h.gp
  · exact h0.imp id fun q => ⟨q, fun hm => by have := h.a.tab.lt hm; omega⟩
theorem Uno.below (h : Uno w W t nd x g L) (hb : Below W.heap.size W W') : Uno w W' t nd x g L := by
  have hxs := hb.block x h.rf.lt
  exact ⟨h.a.below hb, h.rf.keep2 hb.size hxs (h.gp.imp id fun ⟨a, _⟩ => hb.block g a), h.x1, h.xlo, h.gp.imp (fun q => hxs.trans q) fun ⟨a, b⟩ => ⟨Nat.lt_of_lt_of_le a hb.size, b⟩, h.bel.trans (hb.mono h.bel.size)⟩
theorem Uno.drewN (h : Uno w W t nd x g L) (n : Nat) : Uno w (W.drewN n) t nd x g L := h.below (below_drewN (Below.refl _ _) n)
theorem Uno.drew (h : Uno w W t nd x g L) : Uno w W.drew t nd x g L := h.drewN 1
theorem Uno.alloc (h : Uno w W t nd x g L) (o : Obj) : Uno w (W.alloc o) t nd x g L := h.below ((Below.refl _ _).alloc (Nat.le_refl _) o)
theorem Uno.both (h : Uno w W t nd x g L) : Both W.heap.size W t nd x g L := by
  refine ⟨h.a.tab, h.rf, fun k hk => h.a.tab.lt hk, h.rf.lt, fun h0 => ?_⟩
  obtain ⟨A, c, _, hr, hg', _⟩ := h.rf.row
  obtain ⟨ad, ea, hlt, _⟩ := hr.2 h0
  have e1 := hg' ad ea
  omega
/-- A block of another kind, made by the call itself, stays through both. -/
theorem far_next (hn : Next W W' t nd nd' L') {k : Nat} {ty : TypeId} {cs : Array Value} (hk : Blk W k ty cs) (hm : ¬ Mine nd t k) : Blk W' k ty cs := (hn.only.block k hk.lt hm).trans hk
theorem far_only (ho : Only (fun k => k = x) W W') {k : Nat} {ty : TypeId} {cs : Array Value} (hk : Blk W k ty cs) (hm : k ≠ x) : Blk W' k ty cs := (ho.block k hk.lt hm).trans hk
end
end Go.Proofs.Ytlpnkfnmgcigbaa
