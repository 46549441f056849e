/- A byte slice that came in, as a list of numbers below 256. -/
import Derived.Test.YtbekgccecdjdeaaFrame
import Derived.Test.YtbekgccecdjdeaaKit
import Derived.Test.YtbekgccecdjdeaaRows
namespace Go.Proofs.Ytbekgccecdjdeaa
open Go.RowKit

theorem bytes_of_row {w : World} {a : Option Addr} {len cap : Nat} {zs : List Int} (g : Row w .u8 1 a len cap zs) :
    ∃ l : List Nat, l.length = len ∧ Reads w w.heap.size 1 a len (bs l) ∧ (∀ k, l.getD k 0 ≤ 255) ∧ len ≤ cap ∧ cap ≤ 140737488351232 := by
  have hz : ∀ z ∈ zs, 0 ≤ z ∧ z ≤ 255 := by
    intro z hz
    have := g.wf z hz
    simp [Lit.wf, IntKind.min, IntKind.max, IntKind.signed, IntKind.bits] at this
    omega
  refine ⟨zs.map Int.toNat, by simp [g.len_eq], ?_, ?_, g.le, by have := g.reach; omega⟩
  · have e : bs (zs.map Int.toNat) = zs.map (Value.int .u8) := by
      unfold bs
      rw [List.map_map]
      refine List.map_congr_left fun z h => ?_
      have := hz z h
      simp only [Function.comp]
      rw [Int.toNat_of_nonneg this.1]
    rw [e]; exact g.reads
  · intro k
    rw [List.getD_eq_getElem?_getD, List.getElem?_map]
    cases h : zs[k]? with
    | none => simp
    | some z =>
      have := hz z (List.mem_of_getElem? h)
      simp; omega

theorem Try.info5 : (Try.prog.info? 5).map (fun i => (i.zero, i.size, i.bytes)) = some (some (.int .u8 0), 1, 1) := by kernel_rfl
/-- What a growing row leaves alone: all but its own block; and where it is then. -/
structure Grew (w w' : World) (v v' : Value) : Prop where
  g : w.grownBy w' v.ownBlock
  at_ : v'.ownBlock = v.ownBlock ∨ ∃ k, v'.ownBlock = some k ∧ w.heap.size ≤ k
theorem Grew.refl (w : World) (v : Value) : Grew w w v v := ⟨World.grownBy.refl w _, .inl rfl⟩
theorem Grew.trans {w w1 w2 : World} {v v1 v2 : Value} (h : Grew w w1 v v1) (h' : Grew w1 w2 v1 v2) : Grew w w2 v v2 := by
  refine ⟨⟨h'.g.os.trans h.g.os, h'.g.tape.trans h.g.tape, h'.g.output.trans h.g.output, Nat.le_trans h.g.size h'.g.size, fun k hk hne => ?_⟩, ?_⟩
  · refine (h'.g.block k (Nat.lt_of_lt_of_le hk h.g.size) ?_).trans (h.g.block k hk hne)
    rcases h.at_ with e | ⟨j, e, hj⟩
    · rw [e]; exact hne
    · rw [e]; intro q; simp only [Option.some.injEq] at q; omega
  · have hs := h.g.size
    rcases h'.at_ with e | ⟨j, e, hj⟩
    · rcases h.at_ with e' | ⟨j', e', hj'⟩
      · exact .inl (e.trans e')
      · exact .inr ⟨j', e.trans e', hj'⟩
    · exact .inr ⟨j, e, by omega⟩
theorem Grew.block {w w' : World} {v v' : Value} (h : Grew w w' v v') {g : Nat} {t : TypeId} {cs : Array Value} (hb : Blk w g t cs) (hne : v.ownBlock ≠ some g) : Blk w' g t cs :=
  (h.g.block g hb.lt (Ne.symm hne)).trans hb
theorem Grew.alloc {w w' : World} {v v' : Value} {o : Obj} (h : Grew (w.alloc o) w' v v') : Grew w w' v v' := by
  have hs := h.g.size
  simp at hs
  refine ⟨⟨h.g.os, h.g.tape, h.g.output, by omega, fun k hk hne => (h.g.block k (by simp; omega) hne).trans (heap_alloc_old w o hk)⟩, ?_⟩
  rcases h.at_ with e | ⟨j, e, hj⟩
  · exact .inl e
  · exact .inr ⟨j, e, by simp at hj; omega⟩

/-- 'append(s, b0, b1, ..)': bytes in a row of their own behind a row of the call's own. -/
theorem wpList_append_lit {ops : Array Oper} {rest : List Oper} {o : Oper} {a : Act} {Q : Exit → Act → World → Prop} (hgd : o.guard = none) (s x : Operand)
    (ho : o.op = .call { callee := .builtin .append, args := #[s, x], argTypes := #[37, 37] }) (base : Nat) (w : World) (cs : Array Value) (m : Nat) (hm : cs.size = m)
    (v : Value) (n : Nat) (xs : List Value) (hs : a.eval s = v) (hown : w.ownsRow base 5 1 v n xs) (hx : a.eval x = .slice (some ⟨w.heap.size, 0, none⟩) m m)
    (h1 : ∀ u ∈ cs.toList, u.oneCell' = true) (hn : n + m ≤ 4294967296) (hbase : base ≤ w.heap.size)
    (h : ∀ v' w', w'.ownsRow base 5 1 v' (n + m) (xs ++ cs.toList) → Below base w w' → Grew w w' v v' → wpList Try.prog ops Q rest (a.put o.dst v') w') :
    wpList Try.prog ops Q (o :: rest) a (w.alloc (.cells cs 5)) := by
  obtain ⟨i0, hi, hz0, hz1, hz2⟩ := info_parts Try.info5
  refine wpList_append_any _ hgd s x 37 ho base 5 i0 _ 1 1 Try.underlying37 hi hz0 hz1 hz2 rfl (by decide) v n xs hs (hown.alloc _) (w.heap.size + 1) _ m m cs.toList hx (reads_lit w 5 cs cs.toList m _ (by omega) rfl hm) h1
    (by unfold maxLen; omega) (by omega) (by simp; omega) ?_
  intro v' w' h2 h3 h4
  exact h v' w' h2 (((Below.refl _ _).alloc hbase _).grown h3 (by simp; omega) (fun k hk => ((hown.lt k hk).1))) (Grew.alloc (o := .cells cs 5) ⟨h3, h4.imp id (fun e => ⟨_, e, Nat.le_refl _⟩)⟩)
end Go.Proofs.Ytbekgccecdjdeaa
