/- What the rows' frames want: a slice of structs of integers that came in, opened. The first block is the guide's own, copied as it says. -/
import Derived.Test.YtlpnkfnmgcigbaaFrame
import Derived.Deep.Slices
import Derived.Deep.Fields
import Derived.ChangeSame
namespace Go.Proofs.Ytlpnkfnmgcigbaa
open Go.ChangeShapes Go.WideShapes Go.ChangeAt Go.RowKit Go.Deep

section
variable {H : Type} {enc : TypeId × Value → H} {P : Program} {w : World} {base : Nat} {spare : Nat → Bool} {held : Bool}
theorem open_slice_fields {t e : TypeId} {fs : Array Field} {fuel : Nat} {cs : List Value} {x : DataW H × List MemPlace} (ht : P.underlying t = some (.slice e)) (he : P.underlying e = some (.struct fs))
    (hone : oneCellFields P fs = true) (hC : P.cellsOf e = fs.size) (h : DataW.trod enc P w base spare held fuel t cs = some x) :
    (cs = [.slice none 0 0] ∧ x = (.nil, [])) ∨
    ∃ (a : Addr) (len cap m : Nat) (D : Nat → DataW H) (Pl : Nat → List MemPlace), cs = [.slice (some a) len cap] ∧ base ≤ a.block ∧ len ≤ cap ∧ cap ≤ maxLen ∧ m = (if spare a.block then cap else len) ∧
      x = (.slice ((List.range len).map D) ((List.range (m - len)).map fun j => D (len + j)), MemPlace.row a (m * fs.size) ++ (List.range m).flatMap Pl) ∧
      ∀ i, i < m → ∃ (ys : List (DataW H × List MemPlace)) (n : Nat), D i = .agg (ys.map (·.1)) ∧ Pl i = ys.flatMap (·.2) ∧ ys.length = fs.size ∧
        ∀ (j : Nat) (f : Field), fs[j]? = some f → ∃ (v : Value) (y : DataW H × List MemPlace), w.cell? (a.add (i * fs.size + j)) = some v ∧ ys[j]? = some y ∧ DataW.trod enc P w base spare held n f.type [v] = some y := by
  rcases open_slice ht h with h0 | ⟨a, len, cap, m, n, D, Pl, hcs, hb, hl, hm, hmm, hx, hi⟩
  · exact .inl h0
  · refine .inr ⟨a, len, cap, m, D, Pl, hcs, hb, hl, hm, hmm, by rw [hC] at hx; exact hx, fun i him => ?_⟩
    obtain ⟨cs', hc, ht'⟩ := hi i him
    rw [hC] at hc
    obtain ⟨ys, n', hn', hy, hlen, hyl, hf⟩ := DataW.trod_struct he ht'
    obtain ⟨_, hcl, hat⟩ := World.cells?_some hc
    simp only [Prod.mk.injEq] at hy
    refine ⟨ys, n', hy.1, hy.2, hyl, fun j f hj => ?_⟩
    obtain ⟨ho, hk⟩ := hone_of hone j f hj
    have hjl : j < fs.size := (Array.getElem?_eq_some_iff.1 hj).1
    have hcell := hat j hjl
    have hv : cs'[j]? = some (cs'[j]'(by omega)) := List.getElem?_eq_getElem (by omega)
    have h1 := hf j f hj
    rw [ho, hk] at h1
    have hone' : (cs'.drop j).take 1 = [cs'[j]'(by omega)] := by
      rw [List.drop_eq_getElem_cons (by omega)]
      rfl
    rw [hone'] at h1
    have hys : ys[j]? = some (ys[j]'(by omega)) := List.getElem?_eq_getElem (by omega)
    refine ⟨_, _, ?_, hys, h1.trans hys⟩
    rw [← Go.Deep.add_add, hcell, hv]
end

/-- A slice of structs of integers that came in: field j of element i is the number F i j. -/
structure RowS (w : World) (ks : List IntKind) (sz : Nat) (a : Option Addr) (len cap : Nat) (F : Nat → Nat → Int) : Prop where
  reads : 0 < len → ∃ ad, a = some ad ∧ ad.block < w.heap.size ∧ ∀ i j k, i < len → ks[j]? = some k → w.cell? (ad.add (i * ks.length + j)) = some (.int k (F i j)) ∧ (Lit.int k (F i j)).wf = true
  le : len ≤ cap
  reach : cap * sz ≤ 140737488351232

theorem open_row_s {H : Type} {enc : TypeId × Value → H} {P : Program} {W : World} {t e : TypeId} {fs : Array Field} {ks : List IntKind} {sz : Nat} {a : Option Addr} {len cap : Nat} {d : DataW H} {p : List MemPlace}
    (ht : P.underlying t = some (.slice e)) (he : P.underlying e = some (.struct fs)) (hone : oneCellFields P fs = true) (hC : P.cellsOf e = fs.size) (hn : ks.length = fs.size)
    (hk : ∀ (j : Nat) (f : Field) (k : IntKind), fs[j]? = some f → ks[j]? = some k → P.underlying f.type = some (.int k))
    (h : DataW.Trod enc P W 0 (fun _ => true) true t (.slice a len cap) d p) (hpos : 0 < fs.size)
    (hw : ∀ es sp, d = .slice es sp → (es.length + sp.length) * sz ≤ reachBytes) : ∃ F, RowS W ks sz a len cap F := by
  obtain ⟨fuel, hf⟩ := h
  rcases open_slice_fields ht he hone hC hf with ⟨hcs, _⟩ | ⟨x, l, c, m, D, Pl, hcs, _, hl, hm, hmm, hx, hi⟩
  · simp [Value.cells] at hcs
    obtain ⟨rfl, rfl, rfl⟩ := hcs
    exact ⟨fun _ _ => 0, fun h => by omega, Nat.le_refl _, by omega⟩
  · simp [Value.cells] at hcs
    obtain ⟨rfl, rfl, rfl⟩ := hcs
    simp only [if_true] at hmm
    subst hmm
    simp only [Prod.mk.injEq] at hx
    have hr := hw _ _ hx.1
    simp only [List.length_map, List.length_range, reachBytes] at hr
    have hr2 : len + (m - len) = m := by omega
    rw [hr2] at hr
    have each : ∀ i j, ∃ z : Int, i < len → ∀ k, ks[j]? = some k → W.cell? (x.add (i * ks.length + j)) = some (.int k z) ∧ (Lit.int k z).wf = true := by
      intro i j
      by_cases hil : i < len
      · by_cases hj : j < ks.length
        · obtain ⟨ys, n, _, _, hys, hfld⟩ := hi i (by omega)
          obtain ⟨f, hfj⟩ : ∃ f, fs[j]? = some f := ⟨_, Array.getElem?_eq_getElem (by omega)⟩
          obtain ⟨k, hkj⟩ : ∃ k, ks[j]? = some k := ⟨_, List.getElem?_eq_getElem hj⟩
          obtain ⟨v, y, hc, _, hty⟩ := hfld j f hfj
          obtain ⟨z, hz, _, hwf⟩ := DataW.trod_int (hk j f k hfj hkj) hty
          refine ⟨z, fun _ k' hk' => ?_⟩
          rw [hkj] at hk'
          obtain rfl := Option.some.inj hk'
          simp only [List.cons.injEq, and_true] at hz
          subst hz
          rw [hn]
          exact ⟨hc, hwf⟩
        · exact ⟨0, fun _ k hk' => by rw [List.getElem?_eq_none (by omega)] at hk'; cases hk'⟩
      · exact ⟨0, fun h => absurd h hil⟩
    refine ⟨fun i j => Classical.choose (each i j), fun h0 => ⟨x, rfl, ?_, fun i j k hil hkj => Classical.choose_spec (each i j) hil k hkj⟩, hl, by omega⟩
    obtain ⟨ys, n, _, _, hys, hfld⟩ := hi 0 (by omega)
    obtain ⟨f, hfj⟩ : ∃ f, fs[0]? = some f := ⟨_, Array.getElem?_eq_getElem hpos⟩
    obtain ⟨v, y, hc, _⟩ := hfld 0 f hfj
    have := World.block_lt_of_cell? W _ hc
    simpa [block_of_add] using this
end Go.Proofs.Ytlpnkfnmgcigbaa
