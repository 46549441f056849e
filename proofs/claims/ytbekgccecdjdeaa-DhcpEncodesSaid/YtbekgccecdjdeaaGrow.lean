/- Bytes of the call's own, grown: by a string, by zeros, by a number's bytes. -/
import Derived.Test.YtbekgccecdjdeaaPut
import Derived.Test.YtbekgccecdjdeaaZeros
import Derived.Lib.AppendStr
import Derived.Lib.AppendZeros
import Derived.Deep.AppendSrc
import Derived.Lib.LazyBuf
import Derived.Deep.Upon
namespace Go.Proofs.Ytbekgccecdjdeaa
open Go.RowKit

def strNats (s : ByteArray) : List Nat := s.data.toList.map UInt8.toNat
theorem strCells_bs (s : ByteArray) : Lib.strCells s = bs (strNats s) := by
  simp [Lib.strCells, bs, strNats, List.map_map, Function.comp_def]
theorem strNats_length (s : ByteArray) : (strNats s).length = s.size := by
  simp [strNats]

/-- 'append(b, s...)', s a string. -/
theorem wp_append_text {o : Oper} {a : Act} {K : Act → World → Prop} {Q : Exit → Act → World → Prop} (sl x : Operand)
    (ho : o.op = .call { callee := .builtin .append, args := #[sl, x], argTypes := #[37, 9] }) (base : Nat) (w : World)
    (v : Value) (n : Nat) (xs : List Value) (hs : a.eval sl = v) (hown : w.ownsRow base 5 1 v n xs) (s : ByteArray) (hx : a.eval x = .string s)
    (hn : n + s.size ≤ 4294967296) (hbase : base ≤ w.heap.size)
    (h : ∀ v' w', w'.ownsRow base 5 1 v' (n + s.size) (xs ++ bs (strNats s)) → Below base w w' → w.grownBy w' v.ownBlock → K (a.put o.dst v') w') :
    o.wp Try.prog a w K Q := by
  obtain ⟨i0, hi, hz0, hz1, hz2⟩ := info_parts Try.info5
  obtain ⟨v', w', hr, h2, h3, h4⟩ := Lib.run_append_own_string (P := Try.prog) (w := w) (t := 37) (u := 9) (ty := o.type) (base := base) (e := 5) (i := i0) (ht := Try.underlying37) (hu := Try.underlying9) (hi := hi) (hz := hz0) (hsize := hz1) (hby := hz2) (v := v) (n := n) (xs := xs) (hown := hown) (s := s) (h63 := by unfold maxLen; omega) (hbytes := by omega) (hbase := hbase)
  unfold Oper.wp execOp
  simp only [ho, resolve, invoke, builtin, Sem.run_bind, Sem.run_pure, Result.andThen_ok, List.map_toArray, List.map_cons, List.map_nil, hs, hx, hr]
  rw [strCells_bs] at h2
  exact h v' w' h2 ((Below.refl _ _).grown h3 hbase (fun k hk => (hown.lt k hk).1)) h3
theorem wpList_append_text {ops : Array Oper} {rest : List Oper} {o : Oper} {a : Act} {Q : Exit → Act → World → Prop} (hgd : o.guard = none) (sl x : Operand)
    (ho : o.op = .call { callee := .builtin .append, args := #[sl, x], argTypes := #[37, 9] }) (base : Nat) (w : World)
    (v : Value) (n : Nat) (xs : List Value) (hs : a.eval sl = v) (hown : w.ownsRow base 5 1 v n xs) (s : ByteArray) (hx : a.eval x = .string s)
    (hn : n + s.size ≤ 4294967296) (hbase : base ≤ w.heap.size)
    (h : ∀ v' w', w'.ownsRow base 5 1 v' (n + s.size) (xs ++ bs (strNats s)) → Below base w w' → w.grownBy w' v.ownBlock → wpList Try.prog ops Q rest (a.put o.dst v') w') :
    wpList Try.prog ops Q (o :: rest) a w :=
  wpList_plain hgd fun _ hK => wp_append_text sl x ho base w v n xs hs hown s hx hn hbase fun v' w' h2 h3 h4 => hK _ _ (h v' w' h2 h3 h4)
theorem step_append_text {ops : Array Oper} {o : Oper} {a : Act} {K : Act → World → Prop} {Q : Exit → Act → World → Prop} {E : Prop} (hgd : o.guard = none) (sl x : Operand)
    (ho : o.op = .call { callee := .builtin .append, args := #[sl, x], argTypes := #[37, 9] }) (base : Nat) (w : World)
    (v : Value) (n : Nat) (xs : List Value) (hs : a.eval sl = v) (hown : w.ownsRow base 5 1 v n xs) (s : ByteArray) (hx : a.eval x = .string s)
    (hn : n + s.size ≤ 4294967296) (hbase : base ≤ w.heap.size)
    (h : ∀ v' w', w'.ownsRow base 5 1 v' (n + s.size) (xs ++ bs (strNats s)) → Below base w w' → w.grownBy w' v.ownBlock → K (a.put o.dst v') w') :
    if Region.wanted o (yielded ops a.tmps) = true then Oper.wp Try.prog o a w K Q else E := by
  have hw : Region.wanted o (yielded ops a.tmps) = true := by simp [Region.wanted, hgd]
  rw [if_pos hw]
  exact wp_append_text sl x ho base w v n xs hs hown s hx hn hbase h
theorem own_rowIs {w : World} {base g n cap : Nat} {xs : List Value} (h : w.ownsRow base 5 1 (.slice (some ⟨g, 0, none⟩) n cap) n xs) (hn : 0 < n) :
    ∃ f : Nat → Value, w.rowIs g 5 cap f ∧ n ≤ cap ∧ cap ≤ maxLen ∧ base ≤ g ∧ ∀ j, j < n → xs[j]? = some (f j) := by
  rcases h.2 with ⟨h0, _⟩ | ⟨g', cap', cur, hv, hb, hh, hnc, hcm, hcs, hx⟩
  · cases h0
  · simp only [Value.slice.injEq, Option.some.injEq, Addr.mk.injEq, and_true, true_and] at hv
    obtain ⟨rfl, rfl⟩ := hv
    refine ⟨fun j => cur[j]?.getD undef, ⟨cur, hh, by simpa using hcs, fun j hj => ?_⟩, hnc, hcm, hb, fun j hj => ?_⟩
    · have : j < cur.size := by omega
      simp [this]
    · have h1 : j < cur.size := by omega
      rw [← hx, Nat.mul_one, List.getElem?_take, if_pos hj]
      simp [h1]
theorem rowIs_own {w : World} {base g n cap : Nat} {f : Nat → Value} {xs : List Value} (h : w.rowIs g 5 cap f) (hnc : n ≤ cap) (hcm : cap ≤ maxLen) (hb : base ≤ g) (hl : xs.length = n) (hx : ∀ j, j < n → xs[j]? = some (f j)) :
    w.ownsRow base 5 1 (.slice (some ⟨g, 0, none⟩) n cap) n xs := by
  obtain ⟨cur, hh, hs, hc⟩ := h
  refine ⟨by omega, .inr ⟨g, cap, cur, rfl, hb, hh, hnc, hcm, by omega, ?_⟩⟩
  apply List.ext_getElem?
  intro j
  rw [Nat.mul_one, List.getElem?_take]
  by_cases hj : j < n
  · rw [if_pos hj, hx j hj, ← hc j (by omega)]
    simp
  · rw [if_neg hj, List.getElem?_eq_none (by omega)]
theorem run_append_zeros {base n : Nat} {v : Value} {xs : List Value} (w : World) (ty : TypeId) (hown : w.ownsRow base 5 1 v n xs) (hn : 0 < n) (m : Nat) (hm : n + m ≤ 4294967296) (hbase : base ≤ w.heap.size) :
    ∃ v' w', (Builtin.append_ #[37, 3] ty #[v, .int .i64 m]).run Try.prog w = .ok v' w' ∧ w'.ownsRow base 5 1 v' (n + m) (xs ++ List.replicate m (.int .u8 0)) ∧ w.grownBy w' v.ownBlock := by
  obtain ⟨i, hi, hz, hs, hby⟩ := info_parts Try.info5
  have hxl : xs.length = n := by have := hown.1; omega
  obtain ⟨g, cap, hv⟩ : ∃ g cap, v = .slice (some ⟨g, 0, none⟩) n cap := by
    rcases hown.2 with ⟨_, h0⟩ | ⟨g', cap', cur, hv, _⟩
    · omega
    · exact ⟨g', cap', hv⟩
  subst hv
  obtain ⟨f, hrow, hnc, hcm, hbg, hx⟩ := own_rowIs hown hn
  have hlen : (xs ++ List.replicate m (Value.int .u8 0)).length = n + m := by simp [hxl]
  by_cases hc : n + m ≤ cap
  · refine ⟨_, _, run_zeros_room w 37 3 ty 5 i (.int .u8 0) .i64 .i64 Try.underlying37 Try.underlying3 hi hz g n cap m hc (by omega) (by rw [hby]; omega) hs rfl rfl (fun j hj => by rw [hrow.cell (by omega)]; rfl) (fun j hj => hrow.frozen _), rowIs_own (Go.rowIs_setCells _ _ _ _ hrow) hc hcm hbg hlen (fun j hj => ?_), ⟨World.os_setCells _ _ _ _, tape_setCells _ _ _ _, World.output_setCells _ _ _ _, by rw [size_setCells']; exact Nat.le_refl _, fun k hk hne => World.heap_setCells_other w g n _ hk (fun e => hne (by rw [e]; rfl))⟩⟩
    simp only [List.length_replicate]
    by_cases hjn : j < n
    · rw [if_neg (by omega), List.getElem?_append_left (by omega), hx j hjn]
    · rw [if_pos ⟨by omega, hj⟩, List.getElem?_append_right (by omega), hxl, List.getElem?_replicate, if_pos (by omega)]
      simp [show j - n < m by omega]
  · have hol : xs.length = n * i.size := by rw [hs]; omega
    have hr := run_zeros_grow w 37 3 ty 5 i (.int .u8 0) .i64 .i64 Try.underlying37 Try.underlying3 hi hz g n cap xs hol (fun j u hu => by
      have hj : j < n := by have := (List.getElem?_eq_some_iff.1 hu).1; omega
      have e0 : (⟨g, 0, none⟩ : Addr).add j = ⟨g, j, none⟩ := by unfold Addr.add; split <;> simp_all
      rw [e0, hrow.cell (by omega), ← hx j hj, hu]) m (by omega) (by omega) (by rw [hby]; exact growslice_fits (by omega) (by omega)) (by rw [hby]; omega) hs
    have hge := grownCap_ge w (n + m) cap 5
    rw [show (Value.int IntKind.u8 0).cells = #[Value.int IntKind.u8 0] from rfl, zeros_eq, zeros_eq] at hr
    refine ⟨_, _, hr, ⟨by simp [hxl], .inr ⟨w.heap.size, _, _, rfl, hbase, heap_alloc_new w.drew _, hge, grownCap_le_maxLen w (n + m) cap 5 (by unfold maxLen; omega), ?_, ?_⟩⟩, ⟨rfl, rfl, rfl, by simp, fun k hk _ => heap_alloc_old w.drew _ hk⟩⟩
    · simp [hxl]; omega
    · simp only [Array.toList_append, List.append_assoc]
      rw [← List.append_assoc, Nat.mul_one, ← hlen]
      exact List.take_left
/-- 'append(b, make([]byte, m)...)'. -/
theorem wpList_append_zeros {ops : Array Oper} {rest : List Oper} {o : Oper} {a : Act} {Q : Exit → Act → World → Prop} (hgd : o.guard = none) (s x : Operand)
    (ho : o.op = .call { callee := .builtin .append, args := #[s, x], argTypes := #[37, 3] }) (base : Nat) (w : World)
    (v : Value) (n : Nat) (xs : List Value) (hs : a.eval s = v) (hown : w.ownsRow base 5 1 v n xs) (m : Nat) (hx : a.eval x = .int .i64 m)
    (hn0 : 0 < n) (hn : n + m ≤ 4294967296) (hbase : base ≤ w.heap.size)
    (h : ∀ v' w', w'.ownsRow base 5 1 v' (n + m) (xs ++ List.replicate m (.int .u8 0)) → Below base w w' → wpList Try.prog ops Q rest (a.put o.dst v') w') :
    wpList Try.prog ops Q (o :: rest) a w := by
  refine wpList_plain hgd fun K hK => ?_
  obtain ⟨v', w', hr, h2, h3⟩ := run_append_zeros w o.type hown hn0 m hn hbase
  unfold Oper.wp execOp
  simp only [ho, resolve, invoke, builtin, Sem.run_bind, Sem.run_pure, Result.andThen_ok, List.map_toArray, List.map_cons, List.map_nil, hs, hx, hr]
  exact hK _ _ (h v' w' h2 ((Below.refl _ _).grown h3 hbase (fun k hk => (hown.lt k hk).1)))
/-- 'append(b, b0, b1, ..)' in a region that draws. -/
theorem step_append_litD {ops : Array Oper} {o : Oper} {a : Act} {K : Act → World → Prop} {Q : Exit → Act → World → Prop} {E : Prop} (hgd : o.guard = none) (s x : Operand)
    (ho : o.op = .call { callee := .builtin .append, args := #[s, x], argTypes := #[37, 37] }) (base : Nat) (w : World) (cs : Array Value) (m : Nat) (hm : cs.size = m)
    (v : Value) (n : Nat) (xs : List Value) (hs : a.eval s = v) (hown : w.ownsRow base 5 1 v n xs) (hx : a.eval x = .slice (some ⟨w.heap.size, 0, none⟩) m m)
    (h1 : ∀ u ∈ cs.toList, u.oneCell' = true) (hn : n + m ≤ 4294967296) (hbase : base ≤ w.heap.size)
    (h : ∀ v' w', w'.ownsRow base 5 1 v' (n + m) (xs ++ cs.toList) → Below base w w' → Grew w w' v v' → K (a.put o.dst v') w') :
    if Region.wanted o (yielded ops a.tmps) = true then Oper.wp Try.prog o a (w.alloc (.cells cs 5)).drew K Q else E := by
  obtain ⟨i0, hi, hz0, hz1, hz2⟩ := info_parts Try.info5
  refine step_append_any _ hgd s x 37 ho base 5 i0 _ 1 1 Try.underlying37 hi hz0 hz1 hz2 rfl (by decide) v n xs hs (hown.alloc _).drew (w.heap.size + 1) _ m m cs.toList hx (reads_lit w 5 cs cs.toList m _ (by omega) rfl hm) h1
    (by unfold maxLen; omega) (by omega) (by show base ≤ (w.alloc _).heap.size; simp; omega) ?_
  intro v' w' h2 h3 h4
  have h3' : (w.alloc (.cells cs 5)).grownBy w' v.ownBlock := ⟨h3.os, h3.tape, h3.output, h3.size, h3.block⟩
  exact h v' w' h2 (((Below.refl _ _).alloc hbase _).grown h3' (by simp; omega) (fun k hk => ((hown.lt k hk).1))) (Grew.alloc (o := .cells cs 5) ⟨h3', h4.imp id (fun e => ⟨_, e, Nat.le_refl _⟩)⟩)
/-- put, behind bytes. -/
theorem put_bs (base : Nat) (v : Value) (l : List Nat) (x k : Nat) (w : World) (hown : w.ownsRow base 5 1 v l.length (bs l)) (hb : base ≤ w.heap.size) (hx : x < 18446744073709551616) (hk : k ≤ 8) (hn : l.length ≤ 1073741824) :
    Calls Try.prog 20 #[v, .int .u64 x, .int .i64 k] w fun e w' => ∃ v', e = .returned v' ∧ w'.ownsRow base 5 1 v' (l ++ be x k).length (bs (l ++ be x k)) ∧ Below base w w' ∧ Grew w w' v v' := by
  refine (put_any base v l.length (bs l) x k w hown hb hx hk hn).mono ?_
  rintro e w' ⟨v', rfl, h, hb', hg'⟩
  refine ⟨v', rfl, ?_, hb', hg'⟩
  rw [bs_append, List.length_append, be_length]
  exact h
end Go.Proofs.Ytbekgccecdjdeaa
