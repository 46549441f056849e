/- Options of the call's own, grown by one; tails of bytes. -/
import Derived.Test.YtbekgccecdjdeaaAnswer
import Derived.Test.YtbekgccecdjdeaaNums
namespace Go.Proofs.Ytbekgccecdjdeaa
open Go.RowKit

theorem os_append (l m : List Opt) : os (l ++ m) = os l ++ os m := by simp [os]
theorem os_one (o : Opt) : os [o] = [.int .i64 o.cls, .int .i64 o.code, .string o.data] := by simp [os, Opt.cells]
theorem step_app_opt {ops : Array Oper} {o : Oper} {a : Act} {K : Act → World → Prop} {Q : Exit → Act → World → Prop} {E : Prop} (hgd : o.guard = none) (s x : Operand)
    (ho : o.op = .call { callee := .builtin .append, args := #[s, x], argTypes := #[29, 29] }) (base : Nat) (w : World)
    (v : Value) (l : List Opt) (hs : a.eval s = v) (hown : w.ownsRow base 28 3 v l.length (os l)) (p : Opt) (g : Nat) (hx : a.eval x = .slice (some ⟨g, 0, none⟩) 1 1)
    (hB : Blk w g 28 #[.int .i64 p.cls, .int .i64 p.code, .string p.data]) (hn : l.length ≤ 1048576) (hbase : base ≤ w.heap.size)
    (h : ∀ v' w', w'.ownsRow base 28 3 v' (l ++ [p]).length (os (l ++ [p])) → Below base w w' → K (a.put o.dst v') w') :
    if Region.wanted o (yielded ops a.tmps) = true then Oper.wp Try.prog o a w K Q else E := by
  obtain ⟨i0, hi, hz0, hz1, hz2⟩ := info_parts Try.info28
  refine step_append_any _ hgd s x 29 ho base 28 i0 _ 3 32 Try.underlying29 hi hz0 hz1 hz2 rfl (by decide) v l.length (os l) hs hown w.heap.size _ 1 1 (os [p]) hx (by
      rw [os_one]
      exact reads_blk hB hB.lt rfl) (by rw [os_one]; intro u hu; simp at hu; rcases hu with rfl | rfl | rfl <;> rfl)
    (by unfold maxLen; omega) (by omega) hbase ?_
  intro v' w' h2 h3 h4
  refine h v' w' ?_ ((Below.refl _ _).grown h3 hbase (fun k hk => (hown.lt k hk).1))
  rw [os_append, List.length_append]
  exact h2
theorem tail_reads {w : World} {B : Nat} {ad : Addr} {r : List Nat} (h : Reads w B 1 (some ad) r.length (bs r)) {c i : Nat} (hi : i ≤ r.length) (hc : r.length ≤ c) (h0 : 0 < i) :
    Reads w B 1 (if c = i then some ad else some ⟨ad.block, ad.off + i, none⟩) (r.drop i).length (bs (r.drop i)) := by
  have h1 := h.cut (k := i) (cap := c) hi hc
  have e : (bs r).drop (i * 1) = bs (r.drop i) := by unfold bs; rw [Nat.mul_one, List.map_drop]
  rw [e, Nat.mul_one] at h1
  rw [List.length_drop]
  have e2 : (Option.map (fun x => x.add i) (some ad)) = some ⟨ad.block, ad.off + i, none⟩ := by
    show some (ad.add i) = _
    unfold Addr.add; rw [if_neg (by omega)]
  rw [e2] at h1
  exact h1
theorem drop_le {r : List Nat} (h : ∀ k, r.getD k 0 ≤ 255) (i k : Nat) : (r.drop i).getD k 0 ≤ 255 := by
  have := h (i + k)
  simpa [List.getD_eq_getElem?_getD] using this
end Go.Proofs.Ytbekgccecdjdeaa
