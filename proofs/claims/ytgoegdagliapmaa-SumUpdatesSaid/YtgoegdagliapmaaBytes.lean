/- A byte slice that came in, as a list of numbers below 256. -/
import Derived.Test.YtgoegdagliapmaaFrame
import Derived.Test.YtgoegdagliapmaaLives
namespace Go.Proofs.Ytgoegdagliapmaa
open Go.RowKit

theorem bytes_of_row {w : World} {a : Option Addr} {len cap : Nat} {zs : List Int} (g : Row w .u8 1 a len cap zs) :
    ∃ l : List Nat, l.length = len ∧ Reads w w.heap.size 1 a len (bs l) ∧ (∀ k, l.getD k 0 ≤ 255) ∧ len ≤ cap ∧ cap ≤ 140737488351232 := by
  have hz : ∀ z ∈ zs, 0 ≤ z ∧ z ≤ 255 := by
    intro z hz
    have := g.wf z hz
    simp [Lit.wf, IntKind.min, IntKind.max, IntKind.signed, IntKind.bits] at this
    omega
  refine ⟨zs.map Int.toNat, by simp [g.len_eq], ?_, ?_, g.le, by have := g.reach; omega⟩
  · have e : bs (zs.map Int.toNat) = zs.map (Value.int .u8) := by
      unfold bs
      rw [List.map_map]
      refine List.map_congr_left fun z h => ?_
      have := hz z h
      simp only [Function.comp]
      rw [Int.toNat_of_nonneg this.1]
    rw [e]; exact g.reads
  · intro k
    rw [List.getD_eq_getElem?_getD, List.getElem?_map]
    cases h : zs[k]? with
    | none => simp
    | some z =>
      have := hz z (List.mem_of_getElem? h)
      simp; omega

theorem Try.info5 : (Try.prog.info? 5).map (fun i => (i.zero, i.size, i.bytes)) = some (some (.int .u8 0), 1, 1) := by kernel_rfl
theorem bs_one (l : List Nat) : ∀ u ∈ bs l, u.oneCell' = true := by
  intro u hu
  unfold bs at hu
  obtain ⟨b, _, rfl⟩ := List.mem_map.1 hu
  rfl

/-- The string of a list of bytes. -/
def strOf (l : List Nat) : ByteArray := (l.map fun (b : Nat) => (b : Int)).foldl (fun r n => r.push (UInt8.ofNat n.toNat)) ByteArray.empty

theorem run_bytes_str {P : Program} {src dst e : TypeId} (hs : P.underlying src = some (.slice e)) (he : P.underlying e = some (.int .u8)) (hd : P.underlying dst = some .string)
    {w : World} {B n : Nat} {A : Option Addr} {l : List Nat} (c : Nat) (h : Reads w B 1 A n (bs l)) : (convert src dst (.slice A n c)).run P w = .ok (.string (strOf l)) w := by
  rw [run_convert_bytes_string w src dst e A n c hs he hd]
  have hn : l.length = n := by have := h.1; simpa [bs] using this
  cases A with
  | none =>
    have : n = 0 := by
      rcases Nat.eq_zero_or_pos n with h0 | h0
      · exact h0
      · obtain ⟨ad, h, _⟩ := h.2 h0; cases h
    subst this
    have : l = [] := List.eq_nil_of_length_eq_zero hn
    subst this
    simp [Conv.bytesToString, strOf]
  | some ad =>
    refine run_bytesToString w ad n c (l.map fun (b : Nat) => (b : Int)) ?_
    have hc : ∀ j v, (bs l)[j]? = some v → w.cell? (ad.add j) = some v := by
      intro j v hv
      have hj := (bs_at hv).1
      obtain ⟨ad', h1, _, h2⟩ := h.2 (by omega)
      obtain rfl := Option.some.inj h1
      exact h2 j v hv
    have := run_loadCells_list (P := P) w ad (bs l) hc
    rw [bs_length, hn] at this
    rw [this]
    congr 2
    simp [bs]

/-- An owned slice, as a value and as what it reads as. -/
theorem own_slice {w : World} {base size n : Nat} {e : TypeId} {v : Value} {xs : List Value} (h : w.ownsRow base e size v n xs) : ∃ A c, v = .slice A n c ∧ Reads w w.heap.size size A n xs := by
  rcases h.2 with ⟨rfl, rfl⟩ | ⟨g, cap, cur, rfl, _⟩
  · exact ⟨none, 0, rfl, Reads.of_own h⟩
  · exact ⟨_, cap, rfl, Reads.of_own h⟩

/-- 'append([]T{}, xs...)': a copy of the call's own. -/
theorem wpList_append_copy {P : Program} {ops : Array Oper} {rest : List Oper} {o : Oper} {a : Act} {Q : Exit → Act → World → Prop} (hgd : o.guard = none) (s x : Operand) (t : TypeId)
    (ho : o.op = .call { callee := .builtin .append, args := #[s, x], argTypes := #[t, t] })
    (w : World) (e : TypeId) (i : TypeInfo) (z : Value) (size bytes : Nat) (ht : P.underlying t = some (.slice e)) (hi : P.info? e = some i) (hz : i.zero = some z)
    (hsize : i.size = size) (hby : i.bytes = bytes) (hzs : z.cells.size = size) (hsz : 0 < size)
    (hs : a.eval s = .slice (some ⟨w.heap.size, 0, none⟩) 0 0)
    (A : Option Addr) (m c : Nat) (news : List Value) (hx : a.eval x = .slice A m c) (hr : Reads w w.heap.size size A m news) (h1 : ∀ u ∈ news, u.oneCell' = true)
    (h63 : m ≤ maxLen) (hbytes : m * bytes ≤ 140737488355328)
    (h : ∀ A' c' w', w'.ownsRow w.heap.size e size (.slice A' m c') m news → Reads w' w'.heap.size size A' m news → Below w.heap.size w w' → wpList P ops Q rest (a.put o.dst (.slice A' m c')) w') :
    wpList P ops Q (o :: rest) a (w.alloc (.cells #[] e)) := by
  refine wpList_append_any _ hgd s x t ho w.heap.size e i z size bytes ht hi hz hsize hby hzs hsz (.slice (some ⟨w.heap.size, 0, none⟩) 0 0) 0 [] hs
    (World.ownsRow_made w #[] 0 (Nat.le_refl _) (by decide) (by simp)) w.heap.size A m c news hx (hr.alloc (Nat.le_refl _) _) h1 (by rw [Nat.zero_add]; exact h63) (by rw [Nat.zero_add]; exact hbytes) (by simp) ?_
  intro v1 w1 hown hg hat
  rw [Nat.zero_add, List.nil_append] at hown
  obtain ⟨A1, c1, rfl, hr1⟩ := own_slice hown
  exact h A1 c1 w1 hown hr1 (((Below.refl _ _).alloc (Nat.le_refl _) _).grown hg (by simp) (fun k hk => by simp [Value.ownBlock] at hk; omega))
end Go.Proofs.Ytgoegdagliapmaa
