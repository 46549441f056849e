/- Two tables of the call's own, side by side. -/
import Derived.Test.YtlpnkfnmgcigbaaLives
import Derived.Test.YtlpnkfnmgcigbaaFrameS
namespace Go.Proofs.Ytlpnkfnmgcigbaa
open Go.RowKit Lp

structure Duo (w W : World) (t1 : Nat) (nd1 : Nd) (L1 : List Rt) (t2 : Nat) (nd2 : Nd) (L2 : List Rt) : Prop where
  a : Own w.heap.size W t1 nd1 L1
  b : Own w.heap.size W t2 nd2 L2
  dis : ∀ k, Mine nd1 t1 k → Mine nd2 t2 k → False
  bel : Below w.heap.size w W

section
variable {w W W' : World} {t1 t2 : Nat} {nd1 nd1' nd2 nd2' : Nd} {L1 L1' L2 L2' : List Rt}
theorem Duo.swap (h : Duo w W t1 nd1 L1 t2 nd2 L2) : Duo w W t2 nd2 L2 t1 nd1 L1 := ⟨h.b, h.a, fun k h1 h2 => h.dis k h2 h1, h.bel⟩
theorem Duo.na (h : Duo w W t1 nd1 L1 t2 nd2 L2) (hn : Next W W' t1 nd1 nd1' L1') : Duo w W' t1 nd1' L1' t2 nd2 L2 := by
  obtain ⟨h1, h2⟩ := h.a.next h.bel.size hn
  refine ⟨h1, ⟨h.b.tab.keep fun k hk => hn.only.block k (h.b.tab.lt hk) (fun hh => h.dis k hh hk), h.b.own⟩, fun k hk1 hk2 => ?_, h.bel.trans h2⟩
  rcases hn.new k hk1 with h3 | h3
  · exact h.dis k h3 hk2
  · have := h.b.tab.lt hk2; omega
theorem Duo.nb (h : Duo w W t1 nd1 L1 t2 nd2 L2) (hn : Next W W' t2 nd2 nd2' L2') : Duo w W' t1 nd1 L1 t2 nd2' L2' := (h.swap.na hn).swap
theorem Duo.below (h : Duo w W t1 nd1 L1 t2 nd2 L2) (hb : Below W.heap.size W W') : Duo w W' t1 nd1 L1 t2 nd2 L2 := ⟨h.a.below hb, h.b.below hb, h.dis, h.bel.trans (hb.mono h.bel.size)⟩
theorem Duo.alloc (h : Duo w W t1 nd1 L1 t2 nd2 L2) (o : Obj) : Duo w (W.alloc o) t1 nd1 L1 t2 nd2 L2 := h.below ((Below.refl _ _).alloc (Nat.le_refl _) o)
theorem Duo.drewN (h : Duo w W t1 nd1 L1 t2 nd2 L2) (n : Nat) : Duo w (W.drewN n) t1 nd1 L1 t2 nd2 L2 := h.below (below_drewN (Below.refl _ _) n)
theorem Duo.drew (h : Duo w W t1 nd1 L1 t2 nd2 L2) : Duo w W.drew t1 nd1 L1 t2 nd2 L2 := h.drewN 1
end

theorem del_ins {L : List Rt} {p k : Nat} (v : Int) (h : lkp L p k = none) : del (ins L ⟨p, k, v⟩) p k = L := by
  have e : L.takeWhile (kl · ⟨p, k, v⟩) ++ L.dropWhile (kl · ⟨p, k, v⟩) = L := List.takeWhile_append_dropWhile
  have hno : ∀ r ∈ L, (!has p k r) = true := by
    intro r hr
    have := look_none.1 h r hr
    simp only [Bool.not_eq_true', Bool.eq_false_iff]
    intro hh
    exact this ((has_iff _ _ _).1 hh)
  unfold del ins
  have hk : has p k ⟨p, k, v⟩ = true := by simp [has]
  rw [List.filter_append, List.filter_cons, hk]
  simp only [Bool.not_true, Bool.false_eq_true, if_false]
  rw [← List.filter_append, e]
  exact List.filter_eq_self.2 hno
theorem add_rem {L : List Rt} {p : Nat} {n : Int} (v : Int) (hp : p < 4294967296) (h : addC L p n = 0) : remC (addL L p n v) p n = 0 ∧ remL (addL L p n v) p n = L := by
  unfold addC at h
  by_cases hr : rightN p n = true
  · obtain ⟨k, rfl, _⟩ := (rightN_ok hp).1 hr
    rw [if_pos hr, Int.toNat_natCast] at h
    have hl : lkp L p k = none := by
      cases hl : lkp L p k with
      | none => rfl
      | some v => rw [hl] at h; simp at h
    have e : addL L p k v = ins L ⟨p, k, v⟩ := by unfold addL addC; rw [if_pos hr, Int.toNat_natCast, hl]; rfl
    have e2 : lkp (ins L ⟨p, k, v⟩) p k = some v := by rw [look_ins L ⟨p, k, v⟩ hl, if_pos ⟨rfl, rfl⟩]
    have e3 : remC (ins L ⟨p, k, v⟩) p k = 0 := by unfold remC; rw [if_pos hr, Int.toNat_natCast, e2]; rfl
    rw [e]
    refine ⟨e3, ?_⟩
    unfold remL
    rw [e3, Int.toNat_natCast, if_pos rfl, del_ins v hl]
  · rw [if_neg hr] at h; cases h
theorem addL_same {L : List Rt} {p : Nat} {n : Int} (v : Int) (h : ¬ addC L p n = 0) : addL L p n v = L := by unfold addL; rw [if_neg h]

/-- An operation that came in, as the walk asks for its fields. -/
theorem op_cells {w : World} {sz : Nat} {a : Option Addr} {len cap : Nat} {F : Nat → Nat → Int} (h : RowS w [.i64, .u32, .i64, .i64] sz a len cap F) {i : Nat} (hi : i < len) :
    ∃ (ad : Addr) (kd : Int) (p : Nat) (n v : Int), a = some ad ∧ p < 4294967296 ∧ ∀ W, Below w.heap.size w W →
      W.cell? (ad.add (i * 4)) = some (.int .i64 kd) ∧ W.cell? ⟨(ad.add (i * 4)).block, (ad.add (i * 4)).off + 1, none⟩ = some (.int .u32 p) ∧ W.cell? ⟨(ad.add (i * 4)).block, (ad.add (i * 4)).off + 2, none⟩ = some (.int .i64 n) ∧ W.cell? ⟨(ad.add (i * 4)).block, (ad.add (i * 4)).off + 3, none⟩ = some (.int .i64 v) := by
  obtain ⟨ad, rfl, hb, hc⟩ := h.reads (by omega)
  have h0 := hc i 0 .i64 hi rfl
  have h1 := hc i 1 .u32 hi rfl
  have h2 := hc i 2 .i64 hi rfl
  have h3 := hc i 3 .i64 hi rfl
  simp only [List.length_cons, List.length_nil, Nat.zero_add, Nat.reduceAdd] at h0 h1 h2 h3
  have hw := h1.2
  simp [Lit.wf, IntKind.min, IntKind.max, IntKind.signed, IntKind.bits] at hw
  obtain ⟨p, hp⟩ : ∃ p : Nat, F i 1 = p := ⟨(F i 1).toNat, by omega⟩
  rw [hp] at h1
  refine ⟨ad, F i 0, p, F i 2, F i 3, rfl, by omega, fun W hW => ⟨?_, ?_, ?_, ?_⟩⟩
  · rw [hW.cell (by rw [block_of_add]; exact hb)]
    simpa using h0.1
  · have e : (ad.add (i * 4)).add 1 = ⟨(ad.add (i * 4)).block, (ad.add (i * 4)).off + 1, none⟩ := rfl
    rw [← e, add_of_add, hW.cell (by rw [block_of_add]; exact hb)]; exact h1.1
  · have e : (ad.add (i * 4)).add 2 = ⟨(ad.add (i * 4)).block, (ad.add (i * 4)).off + 2, none⟩ := rfl
    rw [← e, add_of_add, hW.cell (by rw [block_of_add]; exact hb)]; exact h2.1
  · have e : (ad.add (i * 4)).add 3 = ⟨(ad.add (i * 4)).block, (ad.add (i * 4)).off + 3, none⟩ := rfl
    rw [← e, add_of_add, hW.cell (by rw [block_of_add]; exact hb)]; exact h3.1
theorem addC_not {L : List Rt} {p : Nat} {n : Int} (h : ¬ addC L p n = 0) : addC L p n = 1 ∨ addC L p n = 5 := by
  unfold addC at h ⊢
  split
  · rename_i hr
    rw [if_pos hr] at h
    split
    · exact .inr rfl
    · rename_i hl; rw [if_neg hl] at h; exact absurd rfl h
  · exact .inl rfl
/-- An address that came in. -/
theorem ip_cell {w : World} {a : Option Addr} {len cap : Nat} {zs : List Int} (g : Row w .u32 4 a len cap zs) {i : Nat} (hi : i < len) :
    ∃ (ad : Addr) (ip : Nat), a = some ad ∧ ip < 4294967296 ∧ ∀ W, Below w.heap.size w W → W.cell? (ad.add i) = some (.int .u32 ip) := by
  obtain ⟨ad, e, hb, hc⟩ := g.reads.2 (by omega)
  have hl : i < zs.length := by have := g.len_eq; omega
  have hw := g.wf zs[i] (List.getElem_mem hl)
  simp [Lit.wf, IntKind.min, IntKind.max, IntKind.signed, IntKind.bits] at hw
  obtain ⟨p, hp⟩ : ∃ p : Nat, zs[i] = p := ⟨zs[i].toNat, by omega⟩
  refine ⟨ad, p, e, by omega, fun W hW => ?_⟩
  rw [hW.cell (by rw [block_of_add]; exact hb)]
  exact hc i _ (by rw [List.getElem?_map, List.getElem?_eq_getElem hl, hp]; rfl)
end Go.Proofs.Ytlpnkfnmgcigbaa
