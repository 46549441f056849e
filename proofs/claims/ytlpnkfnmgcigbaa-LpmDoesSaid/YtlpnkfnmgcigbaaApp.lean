/- Appends of routes. -/
import Derived.Test.YtlpnkfnmgcigbaaRef
namespace Go.Proofs.Ytlpnkfnmgcigbaa
open Go.RowKit Lp

theorem Try.info37 : (Try.prog.info? 37).map (fun i => (i.zero, i.size, i.bytes)) = some (some (.agg #[.int .u32 0, .int .i64 0, .int .i64 0]), 3, 24) := by kernel_rfl

theorem step_app {ops : Array Oper} {o : Oper} {a : Act} {K : Act → World → Prop} {Q : Exit → Act → World → Prop} {E : Prop} (hgd : o.guard = none) (s x : Operand)
    (ho : o.op = .call { callee := .builtin .append, args := #[s, x], argTypes := #[28, 28] }) (base : Nat) (w : World) (v : Value) (M : List Rt) (hs : a.eval s = v) (hown : w.ownsRow base 37 3 v M.length (rts M))
    (B : Nat) (A : Option Addr) (m c : Nat) (N : List Rt) (hx : a.eval x = .slice A m c) (hr : Reads w B 3 A m (rts N)) (hn : M.length + N.length ≤ 4398046511105) (hbase : base ≤ w.heap.size)
    (h : ∀ v' w', w'.ownsRow base 37 3 v' (M ++ N).length (rts (M ++ N)) → w.grownBy w' v.ownBlock → Below base w w' → K (a.put o.dst v') w') :
    if Region.wanted o (yielded ops a.tmps) = true then Oper.wp Try.prog o a w K Q else E := by
  obtain ⟨i0, hi, hz0, hz1, hz2⟩ := info_parts Try.info37
  have hm : m = N.length := by have := hr.1; rw [rts_length] at this; omega
  subst hm
  refine step_append_any w hgd s x 28 ho base 37 i0 _ 3 24 Try.underlying28 hi hz0 hz1 hz2 rfl (by decide) v M.length (rts M) hs hown B A N.length c (rts N) hx hr (rts_one N)
    (by unfold maxLen; omega) (by omega) hbase ?_
  intro v' w' h2 h3 _
  refine h v' w' ?_ h3 ((Below.refl _ _).grown h3 hbase fun k hk => (hown.lt k hk).1)
  rw [List.length_append, rts_append]; exact h2

theorem own_empty (w : World) {B : Nat} (hB : B ≤ w.heap.size) : (w.alloc (.cells #[] 37)).ownsRow B 37 3 (.slice (some ⟨w.heap.size, 0, none⟩) 0 0) ([] : List Rt).length (rts []) :=
  World.ownsRow_made w #[] 0 hB (by decide) (by simp)
theorem reads_one {w : World} {p n : Nat} {v : Int} {g : Nat} (h : Blk w g 37 #[.int .u32 p, .int .i64 n, .int .i64 v]) : Reads w w.heap.size 3 (some ⟨g, 0, none⟩) 1 (rts [⟨p, n, v⟩]) := by
  refine ⟨rfl, fun _ => ⟨_, rfl, h.lt, fun j u hu => ?_⟩⟩
  have e0 : (⟨g, 0, none⟩ : Addr).add j = ⟨g, j, none⟩ := by unfold Addr.add; split <;> simp_all
  rw [e0, h.cell]
  have : (rts [⟨p, n, v⟩]) = [.int .u32 p, .int .i64 n, .int .i64 v] := rfl
  rw [this] at hu
  simpa using hu

/-- Reads of the first k, and of what stands behind. -/
theorem reads_take {w : World} {B : Nat} {A : Option Addr} {L : List Rt} {k : Nat} (h : Reads w B 3 A L.length (rts L)) (hk : k ≤ L.length) : Reads w B 3 A k (rts (L.take k)) := by
  refine ⟨by rw [rts_length, List.length_take]; omega, fun h0 => ?_⟩
  obtain ⟨ad, e, hb, hc⟩ := h.2 (by omega)
  refine ⟨ad, e, hb, fun j u hu => hc j u ?_⟩
  rw [← rts_take] at hu
  rw [← hu]
  have hj := (List.getElem?_eq_some_iff.1 hu).1
  rw [List.length_take] at hj
  exact (List.getElem?_take_of_lt (by omega)).symm
theorem reads_drop {w : World} {B : Nat} {A : Option Addr} {L : List Rt} {k cap : Nat} (h : Reads w B 3 A L.length (rts L)) (hk : k ≤ L.length) (hc : L.length ≤ cap) :
    Reads w B 3 (if cap = k then A else A.map (·.add (k * 3))) (L.length - k) (rts (L.drop k)) := by
  rw [← rts_drop]; exact h.cut hk hc

/-- A row of routes of the call's own, and the reference's table over it. -/
theorem Rf.made {W : World} {base x : Nat} {M : List Rt} {v u : Value} (hB : Blk W x 30 #[u]) (hx : x < base) (hown : W.ownsRow base 37 3 v M.length (rts M)) :
    ∃ g', Rf (W.setCell ⟨x, 0, none⟩ v) x g' M ∧ base ≤ g' := by
  have hS : Blk (W.setCell ⟨x, 0, none⟩ v) x 30 #[v] := by have := hB.set_ 0 v; simpa using this
  rcases hown.2 with ⟨rfl, h0⟩ | ⟨g, cap, cur, rfl, hb, hg, hle, hcap, hsz, htk⟩
  · have : M = [] := List.eq_nil_of_length_eq_zero h0
    subst this
    exact ⟨base, ⟨⟨none, 0, hS, Reads.none_, fun ad h => (by cases h), Nat.le_refl _⟩, by omega⟩, Nat.le_refl _⟩
  · refine ⟨g, ⟨⟨_, cap, hS, ?_, fun ad h => (by cases h; rfl), hle⟩, by omega⟩, hb⟩
    have hr := (Reads.of_own hown)
    refine ⟨hr.1, fun h0 => ⟨_, rfl, ?_, fun j w hw => ?_⟩⟩
    · rw [World.size_setCell]
      obtain ⟨ad, e, hlt, _⟩ := hr.2 h0
      cases e; exact hlt
    · obtain ⟨ad, e, hlt, hc⟩ := hr.2 h0
      cases e
      rw [World.cell?_setCell_other W _ _ _ (fun e => by
        have := congrArg Addr.block e
        rw [block_of_add] at this
        simp at this
        omega)]
      exact hc j w hw

/-- What a writing call of the reference leaves. -/
structure NextR (w w1 : World) (x g g1 : Nat) (L1 : List Rt) : Prop where
  rf : Rf w1 x g1 L1
  new : (g1 = g ∧ w1.heap[x]? = w.heap[x]?) ∨ (w.heap.size ≤ g1 ∧ 0 < L1.length)
  only : Only (fun k => k = x) w w1
end Go.Proofs.Ytlpnkfnmgcigbaa
