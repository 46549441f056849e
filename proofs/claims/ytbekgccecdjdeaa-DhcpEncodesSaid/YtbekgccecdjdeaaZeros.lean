/- append(s, make([]T, n)...): both arms, as equations (no program). After the kit's own law for the nil slice. -/
import Derived.Lib.AppendZeros
import Derived.Deep.AppendSrc
import Derived.Lib.LazyBuf
import Derived.Deep.Upon
namespace Go.Proofs.Ytbekgccecdjdeaa
open Go.Lib Go Go.Deep

theorem zeros_eq (z : Value) (n : Nat) : Builtin.zeroCells #[z] n = (List.replicate n z).toArray := by
  apply Array.ext
  · simp [Builtin.zeroCells]
  · intro i h1 h2
    simp [Builtin.zeroCells, Nat.mod_one]

theorem run_zeros_grow {P : Program} (w : World) (t tn ty e : TypeId) (i : TypeInfo) (z : Value) (k kn : IntKind) (ht : P.underlying t = some (.slice e)) (htn : P.underlying tn = some (.int kn)) (hi : P.info? e = some i) (hz : i.zero = some z)
    (g sLen sCap : Nat) (olds : List Value) (hlo : olds.length = sLen * i.size) (holds : ∀ j v, olds[j]? = some v → w.cell? ((⟨g, 0, none⟩ : Addr).add j) = some v)
    (n : Nat) (hg : sCap < sLen + n) (h63 : ((sLen + n : Nat) : Int) ≤ 9223372036854775807) (hfit : Builtin.nextslicecap (sLen + n) sCap * i.bytes ≤ 281474976710656) (h48 : n * i.bytes ≤ 281474976710656) (hs : i.size = 1) :
    (Builtin.append_ #[t, tn] ty #[.slice (some ⟨g, 0, none⟩) sLen sCap, .int k n]).run P w =
      .ok (.slice (some ⟨w.heap.size, 0, none⟩) (sLen + n) (grownCap w (sLen + n) sCap e))
        (w.drew.alloc (.cells (olds.toArray ++ Builtin.zeroCells z.cells n ++ Builtin.zeroCells z.cells (grownCap w (sLen + n) sCap e - (sLen + n))) e)) := by
  have hn : ¬ (sLen + n ≤ sCap) := by omega
  have hw : IntKind.i64.wrap (n : Int) = n := by rw [IntKind.wrap_i64]; omega
  have h63' : ¬ (9223372036854775807 < ((sLen : Int) + (n : Int))) := by omega
  have h48' : ¬ (281474976710656 < Builtin.nextslicecap (sLen + n) sCap * i.bytes) := by omega
  have h48i : ¬ (281474976710656 < (n : Int) * (i.bytes : Int)) := by
    rw [← Int.natCast_mul]
    omega
  have hneg : ¬ ((n : Int) < 0) := by omega
  have hold := run_firstCells_some (P := P) w.drew i.size sLen ⟨g, 0, none⟩ sLen sCap olds hlo (by simpa using holds)
  simp [Builtin.append_, run_underlying ht, run_underlying htn, sizeOf, typeInfo, zeroValue, hi, hz, asInt, asIntOf, hw, hn, hneg, h63', h48', h48i, Question.forced, hold, newRow, grownCap]
  intro h0
  have hn0 : n = 0 := by rw [hs, Nat.mul_one] at h0; exact h0
  subst hn0
  have e0 : Builtin.zeroCells z.cells 0 = #[] := Array.eq_empty_of_size_eq_zero (by simp [Builtin.zeroCells])
  rw [e0, Array.empty_append]

theorem run_zeros_room {P : Program} (w : World) (t tn ty e : TypeId) (i : TypeInfo) (z : Value) (k kn : IntKind) (ht : P.underlying t = some (.slice e)) (htn : P.underlying tn = some (.int kn)) (hi : P.info? e = some i) (hz : i.zero = some z)
    (g sLen sCap : Nat) (n : Nat) (hg : sLen + n ≤ sCap) (h63 : (n : Int) ≤ 9223372036854775807) (h48 : n * i.bytes ≤ 281474976710656) (hs : i.size = 1) (hz1 : z.cells = #[z]) (hone : z.oneCell' = true)
    (hc : ∀ j, j < n → (w.cell? ⟨g, sLen + j, none⟩).isSome = true) (hf : ∀ j, j < n → w.frozen? ⟨g, sLen + j, none⟩ = false) :
    (Builtin.append_ #[t, tn] ty #[.slice (some ⟨g, 0, none⟩) sLen sCap, .int k n]).run P w =
      .ok (.slice (some ⟨g, 0, none⟩) (sLen + n) sCap) (w.setCells g sLen (List.replicate n z)) := by
  have hw : IntKind.i64.wrap (n : Int) = n := by rw [IntKind.wrap_i64]; omega
  have h48i : ¬ (281474976710656 < (n : Int) * (i.bytes : Int)) := by
    rw [← Int.natCast_mul]
    omega
  have hneg : ¬ ((n : Int) < 0) := by omega
  have hst := run_storeCells_cells (P := P) g sLen (List.replicate n z) 0 w (by simpa using hc) (by simpa using hf) (by intro u hu; rw [List.eq_of_mem_replicate hu]; exact hone)
  simp only [Nat.add_zero] at hst
  have hzc : Builtin.zeroCells z.cells n = (List.replicate n z).toArray := by
    rw [hz1]; exact zeros_eq z n
  simp [Builtin.append_, run_underlying ht, run_underlying htn, sizeOf, typeInfo, zeroValue, hi, hz, asInt, asIntOf, hw, hg, hneg, h48i, hs, hzc, Addr.add_lit, hst]
  intro h0
  subst h0
  simp [storeCells, World.setCells]

theorem tape_setCells (g : Nat) : ∀ (vs : List Value) (o : Nat) (w : World), (w.setCells g o vs).tape = w.tape
  | [], _, _ => rfl
  | v :: r, o, w => (tape_setCells g r (o + 1) _).trans rfl
theorem size_setCells' (g : Nat) : ∀ (vs : List Value) (o : Nat) (w : World), (w.setCells g o vs).heap.size = w.heap.size
  | [], _, _ => rfl
  | v :: r, o, w => (size_setCells' g r (o + 1) _).trans (Deep.nblk_setCell _ _ _)

/-- BOTH ARMS AT ONCE, of a row told by its cells. -/
theorem run_zeros_row {P : Program} (w : World) (t tn ty e : TypeId) (i : TypeInfo) (z : Value) (k kn : IntKind) (bytes : Nat) (ht : P.underlying t = some (.slice e)) (htn : P.underlying tn = some (.int kn)) (hi : P.info? e = some i) (hz : i.zero = some z)
    (hs : i.size = 1) (hz1 : z.cells = #[z]) (hone : z.oneCell' = true) (hby : i.bytes = bytes) (g n cap : Nat) (f : Nat → Value) (hrow : w.rowIs g e cap f) (hn : n ≤ cap) (m : Nat) (h63 : n + m ≤ maxLen) (hbytes : (n + m) * bytes ≤ 140737488355328) :
    ∃ g' cap' f' w', (Builtin.append_ #[t, tn] ty #[.slice (some ⟨g, 0, none⟩) n cap, .int k m]).run P w = .ok (.slice (some ⟨g', 0, none⟩) (n + m) cap') w' ∧ (g' = g ∨ g' = w.heap.size) ∧ w'.rowIs g' e cap' f' ∧ n + m ≤ cap' ∧
      (∀ j, j < n → f' j = f j) ∧ (∀ j, n ≤ j → j < n + m → f' j = z) ∧ w.grownBy w' (some g) := by
  subst hby
  have hsm : n + m ≤ 9223372036854775807 := by simp only [maxLen] at h63; omega
  have hmb : m * i.bytes ≤ 281474976710656 := by
    have := Nat.mul_le_mul_right i.bytes (Nat.le_add_left m n)
    omega
  by_cases hc : n + m ≤ cap
  · refine ⟨g, cap, _, _, run_zeros_room w t tn ty e i z k kn ht htn hi hz g n cap m hc (by omega) hmb hs hz1 hone (fun j hj => by rw [hrow.cell (by omega)]; rfl) (fun j hj => hrow.frozen _), .inl rfl, rowIs_setCells _ _ _ _ hrow, hc, fun j hj => ?_, fun j h1 h2 => ?_, ?_⟩
    · simp only [List.length_replicate]
      rw [if_neg (by omega)]
    · simp only [List.length_replicate]
      rw [if_pos ⟨h1, h2⟩, List.getElem?_replicate, if_pos (by omega)]
      rfl
    · exact ⟨World.os_setCells _ _ _ _, tape_setCells _ _ _ _, World.output_setCells _ _ _ _, by rw [size_setCells']; exact Nat.le_refl _, fun k hk hne => World.heap_setCells_other w g n _ hk (fun e => hne (by rw [e]))⟩
  · have hol : ((List.range n).map f).length = n * i.size := by rw [hs]; simp
    have hr := run_zeros_grow w t tn ty e i z k kn ht htn hi hz g n cap ((List.range n).map f) hol (fun j v hv => by
      rw [List.getElem?_map, Option.map_eq_some_iff] at hv
      obtain ⟨a, ha, rfl⟩ := hv
      obtain ⟨hj, rfl⟩ := List.getElem?_eq_some_iff.1 ha
      rw [List.length_range] at hj
      rw [List.getElem_range]
      have e0 : (⟨g, 0, none⟩ : Addr).add j = ⟨g, j, none⟩ := by unfold Addr.add; split <;> simp_all
      rw [e0]
      exact hrow.cell (by omega)) m (by omega) (by omega) (growslice_fits (by omega) hbytes) hmb hs
    have hge := grownCap_ge w (n + m) cap e
    rw [hz1, zeros_eq, zeros_eq] at hr
    refine ⟨_, _, fun j => if j < n then f j else z, _, hr, .inr rfl, ?_, hge, fun j hj => by simp [hj], fun j h1 h2 => by show (if j < n then f j else z) = z; rw [if_neg (by omega)], ⟨rfl, rfl, rfl, by simp, fun k hk _ => heap_alloc_old w.drew _ k hk⟩⟩
    refine ⟨_, heap_alloc_new w.drew _, by simp; omega, fun j hj => ?_⟩
    show _ = some (if j < n then f j else z)
    by_cases hjn : j < n
    · rw [if_pos hjn, Array.getElem?_append_left (by simp; omega), Array.getElem?_append_left (by simp; omega)]
      simp [hjn]
    · rw [if_neg hjn]
      by_cases hjm : j < n + m
      · rw [Array.getElem?_append_left (by simp; omega), Array.getElem?_append_right (by simp; omega), List.getElem?_toArray, List.getElem?_replicate, if_pos (by simp; omega)]
      · rw [Array.getElem?_append_right (by simp; omega), List.getElem?_toArray, List.getElem?_replicate, if_pos (by simp; omega)]
end Go.Proofs.Ytbekgccecdjdeaa
