/- What the rows' frames want: a slice of integers that came in, opened. -/
import Derived.Test.YtbekgccecdjdeaaWords
import Derived.WalkKit
import Derived.ProofKit
import Derived.OpenShut
import Derived.ShutString
import Derived.ChangeOld
import Derived.SizedLaws
namespace Go.Proofs.Ytbekgccecdjdeaa
open Go.ChangeShapes Go.WideShapes Go.ChangeAt Go.RowKit

/-- A slice of integers that came in: it reads as the numbers zs, each fits its kind, and its capacity is within reach. -/
structure Row (w : World) (k : IntKind) (sz : Nat) (a : Option Addr) (len cap : Nat) (zs : List Int) : Prop where
  len_eq : zs.length = len
  reads : Reads w w.heap.size 1 a len (zs.map (Value.int k))
  wf : ∀ z ∈ zs, (Lit.int k z).wf = true
  le : len ≤ cap
  reach : cap * sz ≤ 140737488351232

theorem open_row {H : Type} {enc : TypeId × Value → H} {P : Program} {W : World} {t e : TypeId} {k : IntKind} {sz : Nat} {a : Option Addr} {len cap : Nat} {d : DataW H} {p : List MemPlace}
    (ht : P.underlying t = some (.slice e)) (he : P.underlying e = some (.int k)) (hc : P.cellsOf e = 1)
    (h : DataW.Trod enc P W 0 (fun _ => true) true t (.slice a len cap) d p)
    (hw : ∀ es sp, d = .slice es sp → (es.length + sp.length) * sz ≤ reachBytes) : ∃ zs, Row W k sz a len cap zs := by
  obtain ⟨fuel, hf⟩ := h
  rcases open_ints ht he hc hf with ⟨hcs, _⟩ | ⟨x, l, c, zs, hcs, _, hl, hm, hz, hx, hcell, hwz⟩
  · simp [Value.cells] at hcs
    obtain ⟨rfl, rfl, rfl⟩ := hcs
    exact ⟨[], rfl, ⟨by simp, fun h => by omega⟩, by simp, Nat.le_refl _, by omega⟩
  · simp [Value.cells] at hcs
    obtain ⟨rfl, rfl, rfl⟩ := hcs
    simp only [if_true] at hz
    simp only [Prod.mk.injEq] at hx
    have hr := hw _ _ hx.1
    simp only [lits, List.length_map, List.length_take, List.length_drop, reachBytes] at hr
    have hr2 : (min len zs.length + (zs.length - len)) = cap := by omega
    rw [hr2] at hr
    refine ⟨zs.take len, by simp; omega, ⟨by simp; omega, fun h0 => ⟨x, rfl, ?_, fun j u hu => ?_⟩⟩, fun z hzz => hwz z (List.mem_of_mem_take hzz), hl, by omega⟩
    · have := hcell 0 (by omega)
      exact World.block_lt_of_cell? W _ (by simpa [Addr.add] using this)
    · rw [List.getElem?_map, Option.map_eq_some_iff] at hu
      obtain ⟨z, hz1, rfl⟩ := hu
      have hj := (List.getElem?_eq_some_iff.1 hz1).1
      simp only [List.length_take] at hj
      rw [hcell j (by omega)]
      rw [List.getElem?_take_of_lt (by omega)] at hz1
      simp [List.getD, hz1]
end Go.Proofs.Ytbekgccecdjdeaa
