/- Small words for walks: owned slices as values, a copy by append, guards, worlds under a name. No program here. -/
import Derived.Test.YtbekgccecdjdeaaWords
import Derived.WalkKit
import Derived.Lib.Hide
import Derived.Lib.QuietBelow
import Derived.BigQuiet
namespace Go.Proofs.Ytbekgccecdjdeaa
open Go.RowKit

/-- An owned slice, as a value and as what it reads as. -/
theorem own_slice {w : World} {base size n : Nat} {e : TypeId} {v : Value} {xs : List Value} (h : w.ownsRow base e size v n xs) : ∃ A c, v = .slice A n c ∧ Reads w w.heap.size size A n xs := by
  rcases h.2 with ⟨rfl, rfl⟩ | ⟨g, cap, cur, rfl, _⟩
  · exact ⟨none, 0, rfl, Reads.of_own h⟩
  · exact ⟨_, cap, rfl, Reads.of_own h⟩

/-- 'append([]T{}, xs...)': a copy of the call's own. -/
theorem wpList_append_copy {P : Program} {ops : Array Oper} {rest : List Oper} {o : Oper} {a : Act} {Q : Exit → Act → World → Prop} (hgd : o.guard = none) (s x : Operand) (t : TypeId)
    (ho : o.op = .call { callee := .builtin .append, args := #[s, x], argTypes := #[t, t] })
    (w : World) (e : TypeId) (i : TypeInfo) (z : Value) (size bytes : Nat) (ht : P.underlying t = some (.slice e)) (hi : P.info? e = some i) (hz : i.zero = some z)
    (hsize : i.size = size) (hby : i.bytes = bytes) (hzs : z.cells.size = size) (hsz : 0 < size)
    (hs : a.eval s = .slice (some ⟨w.heap.size, 0, none⟩) 0 0)
    (A : Option Addr) (m c : Nat) (news : List Value) (hx : a.eval x = .slice A m c) (hr : Reads w w.heap.size size A m news) (h1 : ∀ u ∈ news, u.oneCell' = true)
    (h63 : m ≤ maxLen) (hbytes : m * bytes ≤ 140737488355328)
    (h : ∀ A' c' w', w'.ownsRow w.heap.size e size (.slice A' m c') m news → Reads w' w'.heap.size size A' m news → Below w.heap.size w w' → wpList P ops Q rest (a.put o.dst (.slice A' m c')) w') :
    wpList P ops Q (o :: rest) a (w.alloc (.cells #[] e)) := by
  refine wpList_append_any _ hgd s x t ho w.heap.size e i z size bytes ht hi hz hsize hby hzs hsz (.slice (some ⟨w.heap.size, 0, none⟩) 0 0) 0 [] hs
    (World.ownsRow_made w #[] 0 (Nat.le_refl _) (by decide) (by simp)) w.heap.size A m c news hx (hr.alloc (Nat.le_refl _) _) h1 (by rw [Nat.zero_add]; exact h63) (by rw [Nat.zero_add]; exact hbytes) (by simp) ?_
  intro v1 w1 hown hg hat
  rw [Nat.zero_add, List.nil_append] at hown
  obtain ⟨A1, c1, rfl, hr1⟩ := own_slice hown
  exact h A1 c1 w1 hown hr1 (((Below.refl _ _).alloc (Nat.le_refl _) _).grown hg (by simp) (fun k hk => by simp [Value.ownBlock] at hk; omega))

theorem unguard {P : Program} {ops : Array Oper} {rest : List Oper} {o : Oper} {a : Act} {Q : Exit → Act → World → Prop} {w : World} (hw : Region.wanted o (yielded ops a.tmps) = true)
    (h : wpList P ops Q ({ o with guard := none } :: rest) a w) : wpList P ops Q (o :: rest) a w := by
  unfold wpList at h ⊢
  rw [if_pos (show Region.wanted { o with guard := none } (yielded ops a.tmps) = true from rfl)] at h
  rw [if_pos hw]
  exact h

theorem reads_new (w : World) (t : TypeId) (cs : Array Value) (B : Nat) (hB : w.heap.size < B) : Reads (w.alloc (.cells cs t)) B 1 (some ⟨w.heap.size, 0, none⟩) cs.size cs.toList := by
  refine ⟨by simp, fun _ => ⟨_, rfl, hB, fun j u hu => ?_⟩⟩
  have e : (⟨w.heap.size, 0, none⟩ : Addr).add j = ⟨w.heap.size, j, none⟩ := by unfold Addr.add; split <;> simp_all
  rw [e, (Blk.new w t cs).cell]
  simpa using hu
theorem reads_lit (w : World) (t : TypeId) (cs : Array Value) (xs : List Value) (n B : Nat) (hB : w.heap.size < B) (h1 : cs.toList = xs) (h2 : cs.size = n) : Reads (w.alloc (.cells cs t)) B 1 (some ⟨w.heap.size, 0, none⟩) n xs := by
  subst h1; subst h2; exact reads_new w t cs B hB

/-- A world behind a new block, under a name. -/
theorem name_alloc (w : World) (o : Obj) : ∃ W, w.alloc o = W ∧ W.heap.size = w.heap.size + 1 ∧ Below w.heap.size w W := ⟨_, rfl, by simp, (Below.refl _ _).alloc (Nat.le_refl _) _⟩

theorem below_drewN {B : Nat} {a w : World} (h : Below B a w) (n : Nat) : Below B a (w.drewN n) := ⟨h.os, h.tape, h.output, h.size, h.block⟩

section
open Go.Sort
/-- A contract that leaves the world alone, in a world of the class. -/
theorem regrown_same {P : Program} {f : FuncId} {args : Array Value} {w : World} {d : Nat} {os : Array Obj} {v : Value}
    (h : Calls P f args (grow (redrawn w d) os) fun e w' => e = .returned v ∧ grow (redrawn w d) os = w') : Calls P f args (grow (redrawn w d) os) fun e w'' => e = .returned v ∧ ∃ p : Regrown, w'' = grow (redrawn w p.d) p.os :=
  Calls.regrown_of (h.mono fun _ _ ⟨he, hw⟩ => ⟨he, hw ▸ Below.refl _ _⟩)
theorem Reads.regrown {w : World} {size n : Nat} {A : Option Addr} {xs : List Value} (h : Reads w w.heap.size size A n xs) (d : Nat) (os : Array Obj) : Reads (grow (redrawn w d) os) w.heap.size size A n xs := h.below (below_regrown w d os)
end

/-- Bytes as values. -/
def bs (l : List Nat) : List Value := l.map fun (b : Nat) => .int .u8 (b : Int)
theorem bs_at {l : List Nat} {k : Nat} {v : Value} (h : (bs l)[k]? = some v) : k < l.length ∧ v = .int .u8 (l.getD k 0 : Nat) := by
  unfold bs at h
  rw [List.getElem?_map, Option.map_eq_some_iff] at h
  obtain ⟨b, hb, rfl⟩ := h
  have := List.getElem?_eq_some_iff.1 hb
  exact ⟨this.1, by simp [List.getD, hb]⟩
theorem bs_length (l : List Nat) : (bs l).length = l.length := by simp [bs]
theorem bs_append (l m : List Nat) : bs (l ++ m) = bs l ++ bs m := by simp [bs]
theorem bs_one (l : List Nat) : ∀ u ∈ bs l, u.oneCell' = true := by
  intro u hu
  unfold bs at hu
  obtain ⟨b, _, rfl⟩ := List.mem_map.1 hu
  rfl

/-- The string of a list of bytes. -/
def strOf (l : List Nat) : ByteArray := (l.map fun (b : Nat) => (b : Int)).foldl (fun r n => r.push (UInt8.ofNat n.toNat)) ByteArray.empty

theorem run_bytes_str {P : Program} {src dst e : TypeId} (hs : P.underlying src = some (.slice e)) (he : P.underlying e = some (.int .u8)) (hd : P.underlying dst = some .string)
    {w : World} {B n : Nat} {A : Option Addr} {l : List Nat} (c : Nat) (h : Reads w B 1 A n (bs l)) : (convert src dst (.slice A n c)).run P w = .ok (.string (strOf l)) w := by
  rw [run_convert_bytes_string w src dst e A n c hs he hd]
  have hn : l.length = n := by have := h.1; simpa [bs] using this
  cases A with
  | none =>
    have : n = 0 := by
      rcases Nat.eq_zero_or_pos n with h0 | h0
      · exact h0
      · obtain ⟨ad, h, _⟩ := h.2 h0; cases h
    subst this
    have : l = [] := List.eq_nil_of_length_eq_zero hn
    subst this
    simp [Conv.bytesToString, strOf]
  | some ad =>
    refine run_bytesToString w ad n c (l.map fun (b : Nat) => (b : Int)) ?_
    have hc : ∀ j v, (bs l)[j]? = some v → w.cell? (ad.add j) = some v := by
      intro j v hv
      have hj := (bs_at hv).1
      obtain ⟨ad', h1, _, h2⟩ := h.2 (by omega)
      obtain rfl := Option.some.inj h1
      exact h2 j v hv
    have := run_loadCells_list (P := P) w ad (bs l) hc
    rw [bs_length, hn] at this
    rw [this]
    congr 2
    simp [bs]

theorem ret_i64 {a b : Int} (h : a = b) : Ending.returned (.int .i64 a) = .returned (.int .i64 b) := by rw [h]
theorem ret_bool {a b : Bool} (h : a = b) : Ending.returned (.bool a) = .returned (.bool b) := by rw [h]
end Go.Proofs.Ytbekgccecdjdeaa
