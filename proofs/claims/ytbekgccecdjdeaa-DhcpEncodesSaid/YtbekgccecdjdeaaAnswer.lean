/- Answer: what a network answers to a message. -/
import Derived.Test.YtbekgccecdjdeaaOther
import Derived.Deep.RegionHeld3
import Derived.Deep.DeepCutAuto
import Derived.Deep.CutBlock
import Derived.Deep.Frames
import Derived.Deep.RegionWith
import Derived.Deep.RegionLaw
import Derived.Deep.LoopGhost
namespace Go.Proofs.Ytbekgccecdjdeaa
open Go.RowKit

structure Lease where
  mac : Nat
  ip : Nat
  server : Nat
  mask : Nat
  router : Nat
  time : Nat
def Lease.val (L : Lease) : Array Value := #[.int .u64 L.mac, .int .u32 L.ip, .int .u32 L.server, .int .u32 L.mask, .int .u32 L.router, .int .u32 L.time]

def zeroMsg : Array Value := #[.int .i64 0, .int .u32 0, .int .i64 0, .int .i64 0, .int .u32 0, .int .u32 0, .int .u32 0, .int .u32 0, .int .u64 0, .slice none 0 0]
/-- The blocks of Answer's own: the message, the lease, the answer. -/
structure St (w0 w : World) (m : Msg) (s : Value) (L : Lease) : Prop where
  b0 : Blk w w0.heap.size 31 (m.val s)
  b1 : Blk w (w0.heap.size + 1) 25 L.val
  b2 : Blk w (w0.heap.size + 1 + 1) 31 zeroMsg
  bel : Below w0.heap.size w0 w
theorem St.next {w0 w w' : World} {m : Msg} {s : Value} {L : Lease} (h : St w0 w m s L) (hb : Below w.heap.size w w') : St w0 w' m s L :=
  ⟨h.b0.below hb h.b0.lt, h.b1.below hb h.b1.lt, h.b2.below hb h.b2.lt, h.bel.trans (hb.mono h.bel.size)⟩
theorem St.new (w : World) (m : Msg) (s : Value) (L : Lease) : St w (((w.alloc (.cells (m.val s) 31)).alloc (.cells L.val 25)).alloc (.cells zeroMsg 31)) m s L := by
  refine ⟨((Blk.new _ _ _).alloc _).alloc _, ?_, ?_, ?_⟩
  · have := (Blk.new (w.alloc (.cells (m.val s) 31)) 25 L.val).alloc (.cells zeroMsg 31)
    rwa [show (w.alloc (.cells (m.val s) 31)).heap.size = w.heap.size + 1 from by simp] at this
  · have := Blk.new ((w.alloc (.cells (m.val s) 31)).alloc (.cells L.val 25)) 31 zeroMsg
    rwa [show ((w.alloc (.cells (m.val s) 31)).alloc (.cells L.val 25)).heap.size = w.heap.size + 1 + 1 from by simp] at this
  · exact (((Below.refl _ _).alloc (Nat.le_refl _) _).alloc (by simp) _).alloc (by simp; omega) _

def b0 (k : ByteArray) : Nat := if h : 0 < k.size then k[0].toNat else 0
def kindL (l : List Opt) : ByteArray := (findL l 53).getD ByteArray.empty
/-- What is told: 2 an offer, 5 an ack. -/
def ansL (m : Msg) (L : Lease) : Option Nat :=
  if m.op ≠ 1 ∨ m.ch ≠ L.mac ∨ (kindL m.opts).size ≠ 1 then none
  else if b0 (kindL m.opts) = 1 then some 2
  else if b0 (kindL m.opts) = 3 then (if otherB m.opts 50 L.ip = true ∨ otherB m.opts 54 L.server = true then none else some 5)
  else none
def ansMsg (t : Nat) (m : Msg) (L : Lease) : Msg := ⟨2, m.xid, 0, m.flags, 0, L.ip, L.server, m.gi, m.ch,
  [⟨0, 53, strOf [t]⟩, ⟨0, 54, four L.server⟩, ⟨0, 51, four L.time⟩, ⟨0, 1, four L.mask⟩] ++ (if L.router = 0 then [] else [⟨0, 3, four L.router⟩])⟩
def AnsPost (w : World) (m : Msg) (L : Lease) (e : Ending) (w' : World) : Prop := Below w.heap.size w w' ∧
  match ansL m L with
  | none => e = .returned (.tuple #[.agg zeroMsg, .bool false])
  | some t => ∃ A n c, e = .returned (.tuple #[.agg ((ansMsg t m L).val (.slice A n c)), .bool true]) ∧ Reads w' w'.heap.size 3 A n (os (ansMsg t m L).opts)
theorem AnsPost.no {w w' : World} {m : Msg} {L : Lease} (h : ansL m L = none) (hb : Below w.heap.size w w') {e : Ending} (he : e = .returned (.tuple #[.agg zeroMsg, .bool false])) : AnsPost w m L e w' := by
  refine ⟨hb, ?_⟩
  rw [h]
  exact he

theorem AnsPost.yes {w w' : World} {m : Msg} {L : Lease} {t : Nat} (h : ansL m L = some t) (hb : Below w.heap.size w w') {e : Ending} {A : Option Addr} {n c : Nat}
    (he : e = .returned (.tuple #[.agg ((ansMsg t m L).val (.slice A n c)), .bool true])) (hr : Reads w' w'.heap.size 3 A n (os (ansMsg t m L).opts)) : AnsPost w m L e w' := by
  refine ⟨hb, ?_⟩
  rw [h]
  exact ⟨A, n, c, he, hr⟩
theorem Try.info28 : (Try.prog.info? 28).map (fun i => (i.zero, i.size, i.bytes)) = some (some (.agg #[.int .i64 0, .int .i64 0, .string ByteArray.empty]), 3, 32) := by kernel_rfl
theorem reads_blk {w : World} {g B n size : Nat} {T : TypeId} {cs : Array Value} (h : Blk w g T cs) (hB : g < B) (hs : cs.size = n * size) : Reads w B size (some ⟨g, 0, none⟩) n cs.toList := by
  refine ⟨by simpa using hs, fun _ => ⟨_, rfl, hB, fun j u hu => ?_⟩⟩
  have e : (⟨g, 0, none⟩ : Addr).add j = ⟨g, j, none⟩ := by unfold Addr.add; split <;> simp_all
  rw [e, h.cell]
  simpa using hu
theorem ownsRow_below {B : Nat} {e : TypeId} {k : Nat} {v : Value} {n : Nat} {xs : List Value} {w w' : World} (h : w.ownsRow B e k v n xs) (hb : Below w.heap.size w w') : w'.ownsRow B e k v n xs := by
  obtain ⟨h1, h2⟩ := h
  refine ⟨h1, ?_⟩
  rcases h2 with h2 | ⟨g, cap, cur, hv, hg, hh, r⟩
  · exact Or.inl h2
  · exact Or.inr ⟨g, cap, cur, hv, hg, (hb.block g (Blk.lt hh)).trans hh, r⟩
theorem set10 {w : World} {b : Nat} {T : TypeId} {c0 c1 c2 c3 c4 c5 c6 c7 c8 c9 : Value} (h : Blk w b T #[c0, c1, c2, c3, c4, c5, c6, c7, c8, c9]) (v0 v1 v2 v3 v4 v5 v6 v7 v8 v9 : Value) :
    Blk ((((((((((w.setCell ⟨b, 0, none⟩ v0).setCell ⟨b, 1, none⟩ v1).setCell ⟨b, 2, none⟩ v2).setCell ⟨b, 3, none⟩ v3).setCell ⟨b, 4, none⟩ v4).setCell ⟨b, 5, none⟩ v5).setCell ⟨b, 6, none⟩ v6).setCell ⟨b, 7, none⟩ v7).setCell ⟨b, 8, none⟩ v8).setCell ⟨b, 9, none⟩ v9) b T #[v0, v1, v2, v3, v4, v5, v6, v7, v8, v9] := by
  have := (((((((((h.set_ 0 v0).set_ 1 v1).set_ 2 v2).set_ 3 v3).set_ 4 v4).set_ 5 v5).set_ 6 v6).set_ 7 v7).set_ 8 v8).set_ 9 v9
  simpa using this
theorem far10 {w : World} {b g : Nat} {T : TypeId} {cs : Array Value} (h : Blk w g T cs) (hne : g ≠ b) (v0 v1 v2 v3 v4 v5 v6 v7 v8 v9 : Value) :
    Blk ((((((((((w.setCell ⟨b, 0, none⟩ v0).setCell ⟨b, 1, none⟩ v1).setCell ⟨b, 2, none⟩ v2).setCell ⟨b, 3, none⟩ v3).setCell ⟨b, 4, none⟩ v4).setCell ⟨b, 5, none⟩ v5).setCell ⟨b, 6, none⟩ v6).setCell ⟨b, 7, none⟩ v7).setCell ⟨b, 8, none⟩ v8).setCell ⟨b, 9, none⟩ v9) g T cs :=
  (((((((((h.far hne v0).far hne v1).far hne v2).far hne v3).far hne v4).far hne v5).far hne v6).far hne v7).far hne v8).far hne v9
theorem own10 {w : World} {b base : Nat} {e : TypeId} {size n : Nat} {v : Value} {xs : List Value} (h : w.ownsRow base e size v n xs) (hb : b < base) (v0 v1 v2 v3 v4 v5 v6 v7 v8 v9 : Value) :
    ((((((((((w.setCell ⟨b, 0, none⟩ v0).setCell ⟨b, 1, none⟩ v1).setCell ⟨b, 2, none⟩ v2).setCell ⟨b, 3, none⟩ v3).setCell ⟨b, 4, none⟩ v4).setCell ⟨b, 5, none⟩ v5).setCell ⟨b, 6, none⟩ v6).setCell ⟨b, 7, none⟩ v7).setCell ⟨b, 8, none⟩ v8).setCell ⟨b, 9, none⟩ v9).ownsRow base e size v n xs :=
  ownsRow_setCell_below (ownsRow_setCell_below (ownsRow_setCell_below (ownsRow_setCell_below (ownsRow_setCell_below (ownsRow_setCell_below (ownsRow_setCell_below (ownsRow_setCell_below (ownsRow_setCell_below (ownsRow_setCell_below h hb _) hb _) hb _) hb _) hb _) hb _) hb _) hb _) hb _) hb _
theorem below10 {B : Nat} {w0 w : World} {b : Nat} (h : Below B w0 w) (hb : B ≤ b) (v0 v1 v2 v3 v4 v5 v6 v7 v8 v9 : Value) :
    Below B w0 ((((((((((w.setCell ⟨b, 0, none⟩ v0).setCell ⟨b, 1, none⟩ v1).setCell ⟨b, 2, none⟩ v2).setCell ⟨b, 3, none⟩ v3).setCell ⟨b, 4, none⟩ v4).setCell ⟨b, 5, none⟩ v5).setCell ⟨b, 6, none⟩ v6).setCell ⟨b, 7, none⟩ v7).setCell ⟨b, 8, none⟩ v8).setCell ⟨b, 9, none⟩ v9) :=
  (((((((((h.setCell hb _).setCell hb _).setCell hb _).setCell hb _).setCell hb _).setCell hb _).setCell hb _).setCell hb _).setCell hb _).setCell hb _
theorem Try.size31 : (Try.prog.info? 31).map (·.size) = some 10 := by kernel_rfl
theorem res10 {fn : Func} {p u : Tmp} (h : fn.results = #[.cell p 31, .tmp u]) (tmps : Array Value) (w : World) (g : Nat) (cs : Array Value) (hB : Blk w g 31 cs) (hs : cs.size = 10) (hp : tmps.getD p undef = .pointer (some ⟨g, 0, none⟩)) :
    (results fn tmps).run Try.prog w = .ok (.tuple #[.agg cs, tmps.getD u undef]) w := by
  rw [results_cell_tmp h, hp]
  simp [asAddr, run_loadVar_row w g 31 31 cs (0, 0) _ hB Try.underlying31 rfl (by rw [hs]; exact Try.size31), Result.andThen]

/-- The answer under way: its block, whatever its options are. -/
theorem last7 {a b c d e f g : Prop} (h : a ∧ b ∧ c ∧ d ∧ e ∧ f ∧ g) : g := h.2.2.2.2.2.2
structure Mid (w wc : World) (m : Msg) (s : Value) (L : Lease) (w' : World) : Prop where
  st : St w wc m s L
  bel : Below wc.heap.size wc w'
  blk : ∃ v, Blk w' wc.heap.size 31 #[.int .i64 2, .int .u32 m.xid, .int .i64 0, .int .i64 m.flags, .int .u32 0, .int .u32 L.ip, .int .u32 L.server, .int .u32 m.gi, .int .u64 m.ch, v]
def c9 (w : World) (k : Nat) : Value := (w.cell? ⟨k, 9, none⟩).getD undef
section
variable {w wc : World} {m : Msg} {s : Value} {L : Lease} {w' : World}
theorem Mid.new (h : St w wc m s L) : Mid w wc m s L (wc.alloc (.cells #[.int .i64 2, .int .u32 m.xid, .int .i64 0, .int .i64 m.flags, .int .u32 0, .int .u32 L.ip, .int .u32 L.server, .int .u32 m.gi, .int .u64 m.ch, .slice none 0 0] 31)) :=
  ⟨h, (Below.refl _ _).alloc (Nat.le_refl _) _, _, Blk.new _ _ _⟩
theorem Mid.alloc (h : Hid (Mid w wc m s L w')) (o : Obj) : Mid w wc m s L (w'.alloc o) := by
  obtain ⟨h1, h2, v, h3⟩ := h.out
  exact ⟨h1, h2.alloc h2.size o, v, h3.alloc o⟩
theorem Mid.call (h : Hid (Mid w wc m s L w')) {w'' : World} (hb : Below w'.heap.size w' w'') : Mid w wc m s L w'' := by
  obtain ⟨h1, h2, v, h3⟩ := h.out
  exact ⟨h1, h2.trans (hb.mono h2.size), v, h3.below hb h3.lt⟩
theorem Mid.drew (h : Hid (Mid w wc m s L w')) : Mid w wc m s L w'.drew := by
  obtain ⟨h1, h2, v, h3⟩ := h.out
  exact ⟨h1, ⟨h2.os, h2.tape, h2.output, h2.size, h2.block⟩, v, h3⟩
theorem Mid.set_ (h : Hid (Mid w wc m s L w')) (u : Value) : Mid w wc m s L (w'.setCell ⟨wc.heap.size, 9, none⟩ u) := by
  obtain ⟨h1, h2, v, h3⟩ := h.out
  exact ⟨h1, h2.setCell (Nat.le_refl _) u, u, by simpa using h3.set_ 9 u⟩
theorem Mid.allocD (h : Hid (Mid w wc m s L w'.drew)) (o : Obj) : Mid w wc m s L (w'.alloc o).drew := Mid.alloc (w' := w'.drew) h o
theorem Mid.setD (h : Hid (Mid w wc m s L w'.drew)) (u : Value) : Mid w wc m s L (w'.setCell ⟨wc.heap.size, 9, none⟩ u).drew := Mid.set_ (w' := w'.drew) h u
theorem Mid.all (h : Mid w wc m s L w') : w'.cell? ⟨w.heap.size + 1, 2, none⟩ = some (.int .u32 L.server) ∧ w'.cell? ⟨w.heap.size + 1, 5, none⟩ = some (.int .u32 L.time) ∧ w'.cell? ⟨w.heap.size + 1, 3, none⟩ = some (.int .u32 L.mask) ∧
    w'.cell? ⟨w.heap.size + 1, 4, none⟩ = some (.int .u32 L.router) ∧ w'.cell? ⟨wc.heap.size, 9, none⟩ = some (c9 w' wc.heap.size) ∧ w'.frozen? ⟨wc.heap.size, 9, none⟩ = false ∧ Hid (Mid w wc m s L w') := by
  have hb := h.st.b1.below h.bel h.st.b1.lt
  obtain ⟨v, hv⟩ := h.blk
  refine ⟨hb.cell 2, hb.cell 5, hb.cell 3, hb.cell 4, ?_, hv.frozen 9, Lib.hid h⟩
  have : w'.cell? ⟨wc.heap.size, 9, none⟩ = some v := hv.cell 9
  unfold c9
  rw [this]
  rfl
end
def opts4 (t : Nat) (L : Lease) : Array Value := #[.int .i64 0, .int .i64 53, .string (strOf [t]), .int .i64 0, .int .i64 54, .string (strOf (be L.server 4)), .int .i64 0, .int .i64 51, .string (strOf (be L.time 4)), .int .i64 0, .int .i64 1, .string (strOf (be L.mask 4))]
/-- The answer with its options so far. -/
structure Done (w : World) (k : Nat) (m : Msg) (s : Value) (L : Lease) (ol : List Opt) (wd : World) : Prop where
  st : St w wd m s L
  lo : w.heap.size + 1 + 1 < k
  blk : ∃ v, Blk wd k 31 #[.int .i64 2, .int .u32 m.xid, .int .i64 0, .int .i64 m.flags, .int .u32 0, .int .u32 L.ip, .int .u32 L.server, .int .u32 m.gi, .int .u64 m.ch, v] ∧ wd.ownsRow (k + 1) 28 3 v ol.length (os ol)
def ol4 (t : Nat) (L : Lease) : List Opt := [⟨0, 53, strOf [t]⟩, ⟨0, 54, four L.server⟩, ⟨0, 51, four L.time⟩, ⟨0, 1, four L.mask⟩]
theorem set_is {w : World} {p : Addr} {u v : Value} (h : (w.setCell p u).cell? p = some v) : v = u := by
  rcases hc : w.cell? p with _ | x
  · exfalso
    simp only [World.setCell, World.cell?, Array.getElem?_modify, ↓reduceIte] at h hc
    rcases hh : w.heap[p.block]? with _ | o
    · simp [hh] at h
    · rw [hh] at h hc
      cases o <;> simp at h hc
      rename_i c e f
      have h2 := hc h.1
      have h3 := h.2
      rw [if_neg (by simp [h.1]), Array.getElem?_eq_none (by simpa using h2)] at h3
      cases h3
  · rw [World.cell?_setCell_same w p u hc] at h
    exact (Option.some.inj h).symm
theorem Mid.done {w wc : World} {m : Msg} {s : Value} {L : Lease} {w' : World} (t : Nat) {g : Nat} {a b c d e f : Prop}
    (h : a ∧ b ∧ c ∧ d ∧ e ∧ f ∧ Hid (Mid w wc m s L ((w'.alloc (.cells (opts4 t L) 28)).setCell ⟨wc.heap.size, 9, none⟩ (.slice (some ⟨g, 0, none⟩) 4 4)))) (hg : w'.heap.size = g) :
    Hid (Done w wc.heap.size m s L (ol4 t L) ((w'.alloc (.cells (opts4 t L) 28)).setCell ⟨wc.heap.size, 9, none⟩ (.slice (some ⟨g, 0, none⟩) 4 4))) := by
  subst hg
  obtain ⟨h1, hb, v, hv⟩ := (last7 h).out
  obtain rfl := set_is (hv.cell 9)
  have hn := Blk.new w' 28 (opts4 t L)
  have hlt : wc.heap.size < w'.heap.size + 1 := by have := hv.lt; simpa using this
  have hne : wc.heap.size ≠ w'.heap.size := by
    intro e
    have h2 := hn.set_ 9 (.slice (some ⟨w'.heap.size, 0, none⟩) 4 4)
    rw [e] at hv
    exact (h2.ne_ hv (by decide)) rfl
  have ho : (w'.alloc (.cells (opts4 t L) 28)).ownsRow (wc.heap.size + 1) 28 3 (.slice (some ⟨w'.heap.size, 0, none⟩) 4 4) 4 (opts4 t L).toList := World.ownsRow_lit w' (opts4 t L) 4 (by omega) (by decide) (by rfl)
  exact Lib.hid ⟨h1.next hb, h1.b2.lt, _, hv, ownsRow_setCell_below ho (by show wc.heap.size < wc.heap.size + 1; omega) _⟩
theorem St.nextk {w0 w w' : World} {m : Msg} {s : Value} {L : Lease} (h : St w0 w m s L) {k : Nat} (hb : Below k w w') (hk : w0.heap.size + 1 + 1 < k) : St w0 w' m s L :=
  ⟨h.b0.below hb (by omega), h.b1.below hb (by omega), h.b2.below hb (by omega), h.bel.trans (hb.mono (by omega))⟩
theorem done5 {w wd X w'' : World} {k : Nat} {m : Msg} {s : Value} {L : Lease} {ol : List Opt} {o1 : Opt} {v v' : Value} {o : Obj} {n5 : Nat} {xs : List Value} (h : Hid (Done w k m s L ol wd)) (ho : Hid (wd.ownsRow (k + 1) 28 3 v ol.length (os ol)))
    (hb : Below wd.drew.heap.size wd.drew X) (hg : (X.alloc o).grownBy w'' v.ownBlock)
    (hB : Hid (Blk w'' k 31 #[.int .i64 2, .int .u32 m.xid, .int .i64 0, .int .i64 m.flags, .int .u32 0, .int .u32 L.ip, .int .u32 L.server, .int .u32 m.gi, .int .u64 m.ch, v]))
    (ho' : Hid (w''.ownsRow (k + 1) 28 3 v' n5 xs)) (hn : n5 = (ol ++ [o1]).length := by rfl) (hx : xs = os (ol ++ [o1]) := by simp [os]) : Hid (Done w k m s L (ol ++ [o1]) (w''.setCell ⟨k, 9, none⟩ v')) := by
  subst hn; subst hx
  obtain ⟨v0, hk0, _⟩ := h.out.blk
  have hk1 : k < wd.heap.size := hk0.lt
  have h1 : Below k wd X := by
    have q : Below k wd.drew X := hb.mono (Nat.le_of_lt hk1)
    exact ⟨q.os, q.tape, q.output, q.size, q.block⟩
  have h2 : Below k wd w'' := (h1.alloc (by have := h1.size; omega) o).grown hg (by have := h1.size; simp; omega) (fun g e => by have := ho.out.lt g e; omega)
  have h3 := h2.setCell (p := ⟨k, 9, none⟩) (Nat.le_refl _) v'
  exact Lib.hid ⟨h.out.st.nextk h3 h.out.lo, h.out.lo, v', by simpa using hB.out.set_ 9 v', ownsRow_setCell_below ho'.out (by show k < k + 1; omega) _⟩
theorem conv_one (t : Nat) (W : World) (k : Nat) (h : W.cell? ⟨k, 0, none⟩ = some (.int .u8 t)) : (convert 37 9 (.slice (some ⟨k, 0, none⟩) 1 1)).run Try.prog W = .ok (.string (strOf [t])) W := by
  refine run_bytes_str (P := Try.prog) Try.underlying37 Try.underlying5 Try.underlying9 (B := k + 1) (n := 1) (l := [t]) 1 ⟨by simp [bs], fun _ => ⟨_, rfl, by simp, fun j u hu => ?_⟩⟩
  obtain ⟨hj, rfl⟩ := bs_at hu
  simp at hj
  subst hj
  exact h
theorem alloc_cell_below {W w' : World} {cs : Array Value} {T : TypeId} (hb : Below (W.alloc (.cells cs T)).heap.size (W.alloc (.cells cs T)) w') : w'.cell? ⟨W.heap.size, 0, none⟩ = cs[0]? :=
  ((Blk.new W T cs).below hb (by simp)).cell 0
theorem alloc_cell_belowD {W w' : World} {cs : Array Value} {T : TypeId} (hb : Below (W.alloc (.cells cs T)).drew.heap.size (W.alloc (.cells cs T)).drew w') : w'.cell? ⟨W.heap.size, 0, none⟩ = cs[0]? :=
  ((Blk.new W T cs).drew.below hb (by simp)).cell 0
theorem next_cell {w' w'' : World} {p : Addr} {v : Option Value} (hb : Below w'.heap.size w' w'') (hv : v.isSome = true) (h : w'.cell? p = v) : w''.cell? p = v := by
  obtain ⟨u, hu⟩ := Option.isSome_iff_exists.1 hv
  rw [hb.cell (World.block_lt_of_cell? w' p (h.trans hu)), h]

set_option maxRecDepth 100000 in
set_option maxHeartbeats 20000000 in
theorem answer_any (op xid secs flags ci yi si gi ch : Int) (A : Option Addr) (n c : Nat) (l : List Opt) (mac ip server mask router time : Nat) (w : World) (hr : Reads w w.heap.size 3 A n (os l)) (hn : n ≤ 1073741824)
    (hip : ip < 4294967296) (hse : server < 4294967296) (hma : mask < 4294967296) (hro : router < 4294967296) (hti : time < 4294967296) :
    Calls Try.prog 7 #[.agg (Msg.val ⟨op, xid, secs, flags, ci, yi, si, gi, ch, l⟩ (.slice A n c)), .agg (Lease.val ⟨mac, ip, server, mask, router, time⟩)] w fun e w' => AnsPost w ⟨op, xid, secs, flags, ci, yi, si, gi, ch, l⟩ ⟨mac, ip, server, mask, router, time⟩ e w' := by
  have hS := St.new w ⟨op, xid, secs, flags, ci, yi, si, gi, ch, l⟩ (.slice A n c) ⟨mac, ip, server, mask, router, time⟩
  unfold Msg.val Lease.val at hS ⊢
  unfold zeroMsg at hS
  go_enter Try.func7, Try.ntmps7
  go_wp2_with fail
  generalize ((w.alloc (.cells #[.int .i64 op, .int .u32 xid, .int .i64 secs, .int .i64 flags, .int .u32 ci, .int .u32 yi, .int .u32 si, .int .u32 gi, .int .u64 ch, .slice A n c] 31)).alloc _).alloc _ = w1 at *
  refine (find_any op xid secs flags ci yi si gi ch A n c l 53 w1 ((hr.below hS.bel).more hS.bel.size) hn).mono ?_
  rintro e w2 ⟨rfl, hb2⟩
  have hS2 := hS.next hb2
  have EK : Hid ((findL l 53).getD ByteArray.empty = kindL l) := Lib.hid rfl
  rw [EK.out]
  have HS := Lib.hid hS2
  have hr2 := (hr.below hS2.bel).more hS2.bel.size
  have h0 := hS2.b0.cell
  have h1 := hS2.b1.cell
  have h2 := hS2.b2.cell
  have f2 := hS2.b2.frozen
  simp only [Msg.val, Lease.val, zeroMsg] at h0 h1 h2
  clear hS hS2 hb2 hr
  by_cases g1 : op = 1
  · subst g1
    by_cases g2 : ch = mac
    · subst g2
      by_cases g3 : (kindL l).size = 1
      · have e0 : (kindL l)[0].toNat = b0 (kindL l) := by unfold b0; rw [dif_pos (by omega)]
        have hA : ¬ ((1 : Int) ≠ 1 ∨ (mac : Int) ≠ mac ∨ (kindL l).size ≠ 1) := by simp [g3]
        have KA : ansL ⟨1, xid, secs, flags, ci, yi, si, gi, mac, l⟩ ⟨mac, ip, server, mask, router, time⟩ = _ := if_neg hA
        have HA := Lib.hid KA
        clear KA hA
        generalize b0 (kindL l) = bt at *
        go_upto_block 0 with fail
        go_cut [8] (fun v8 wc => ∃ t : Nat, v8 = .int .u8 t ∧ Hid (ansL ⟨1, xid, secs, flags, ci, yi, si, gi, mac, l⟩ ⟨mac, ip, server, mask, router, time⟩ = some t) ∧ Hid (t = 2 ∨ t = 5) ∧ Hid (St w wc ⟨1, xid, secs, flags, ci, yi, si, gi, mac, l⟩ (.slice A n c) ⟨mac, ip, server, mask, router, time⟩))
        case first =>
          by_cases g4 : bt = 1
          · subst g4
            have YES := Lib.hid (HA.out.trans (if_pos rfl))
            go_wp2_with fail
            go_meet
            exact ⟨2, rfl, YES, Lib.hid (.inl rfl), HS⟩
          · by_cases g5 : bt = 3
            · subst g5
              have HA2 := Lib.hid (HA.out.trans ((if_neg (by decide)).trans (if_pos rfl)))
              go_wp2_with fail
              refine (other_any 1 xid secs flags ci yi si gi mac A n c l 50 ip hip w2 hr2 hn).mono ?_
              rintro e w3 ⟨rfl, hb3⟩
              have HS3 := Lib.hid (HS.out.next hb3)
              have hr3 := (hr2.below hb3).more hb3.size
              have h0 := HS3.out.b0.cell
              have h1 := HS3.out.b1.cell
              have h2 := HS3.out.b2.cell
              have f2 := HS3.out.b2.frozen
              simp only [Msg.val, Lease.val, zeroMsg] at h0 h1 h2
              clear hb3 hr2
              generalize otherB l 50 ip = o1 at *
              cases o1 with
              | true =>
                have NO := Lib.hid (HA2.out.trans (if_pos (.inl rfl)))
                go_wp2_with fail
                exact bodyPost_ret (res10 rfl _ _ (w.heap.size + 1 + 1) _ (set10 HS3.out.b2 _ _ _ _ _ _ _ _ _ _) rfl rfl) rfl (AnsPost.no NO.out (below10 HS3.out.bel (by omega) _ _ _ _ _ _ _ _ _ _) rfl)
              | false =>
                go_wp2_with fail
                refine (other_any 1 xid secs flags ci yi si gi mac A n c l 54 server hse w3 hr3 hn).mono ?_
                rintro e w4 ⟨rfl, hb4⟩
                have HS4 := Lib.hid (HS3.out.next hb4)
                have h0 := HS4.out.b0.cell
                have h1 := HS4.out.b1.cell
                have h2 := HS4.out.b2.cell
                have f2 := HS4.out.b2.frozen
                simp only [Msg.val, Lease.val, zeroMsg] at h0 h1 h2
                clear hb4 hr3
                generalize otherB l 54 server = o2 at *
                cases o2 with
                | true =>
                  have NO := Lib.hid (HA2.out.trans (if_pos (.inr rfl)))
                  go_wp2_with fail
                  exact bodyPost_ret (res10 rfl _ _ (w.heap.size + 1 + 1) _ (set10 HS4.out.b2 _ _ _ _ _ _ _ _ _ _) rfl rfl) rfl (AnsPost.no NO.out (below10 HS4.out.bel (by omega) _ _ _ _ _ _ _ _ _ _) rfl)
                | false =>
                  have YES := Lib.hid (HA2.out.trans (if_neg (by simp)))
                  go_wp2_with fail
                  go_meet
                  exact ⟨5, rfl, YES, Lib.hid (.inr rfl), HS4⟩
            · have NO := Lib.hid (HA.out.trans ((if_neg g4).trans (if_neg g5)))
              go_wp2_with fail
              exact bodyPost_ret (res10 rfl _ _ (w.heap.size + 1 + 1) _ (set10 HS.out.b2 _ _ _ _ _ _ _ _ _ _) rfl rfl) rfl (AnsPost.no NO.out (below10 HS.out.bel (by omega) _ _ _ _ _ _ _ _ _ _) rfl)
        case rest =>
          obtain ⟨t, rfl, HT, HT2, HS3⟩ := hcut
          obtain ⟨V, hV⟩ : ∃ V, V = wc := ⟨_, rfl⟩
          subst hV
          have h0 := HS3.out.b0.cell
          have h1 := HS3.out.b1.cell
          have h2 := HS3.out.b2.cell
          have f2 := HS3.out.b2.frozen
          simp only [Msg.val, Lease.val, zeroMsg] at h0 h1 h2
          clear HS hr2
          go_upto_region 13 with fail
          have MA := (Mid.new HS3.out).all
          unfold zeroMsg at MA
          simp only [] at MA
          generalize V.alloc (.cells #[.int .i64 2, .int .u32 xid, .int .i64 0, .int .i64 flags, .int .u32 0, .int .u32 ip, .int .u32 server, .int .u32 gi, .int .u64 mac, .slice none 0 0] 31) = W at *
          clear h0 h1 h2 f2
          obtain ⟨m1, m2, m3, m4, m5, m6, m7⟩ := MA
          go_cut [] (fun wd => Hid (Done w V.heap.size ⟨1, xid, secs, flags, ci, yi, si, gi, mac, l⟩ (.slice A n c) ⟨mac, ip, server, mask, router, time⟩ (ol4 t ⟨mac, ip, server, mask, router, time⟩) wd))
          case first =>
            have hcv := conv_one t
            go_region_held (fun w' => w'.cell? ⟨w.heap.size + 1, 2, none⟩ = some (.int .u32 server) ∧ w'.cell? ⟨w.heap.size + 1, 5, none⟩ = some (.int .u32 time) ∧ w'.cell? ⟨w.heap.size + 1, 3, none⟩ = some (.int .u32 mask) ∧
                w'.cell? ⟨w.heap.size + 1, 4, none⟩ = some (.int .u32 router) ∧ w'.cell? ⟨V.heap.size, 9, none⟩ = some (c9 w' V.heap.size) ∧ w'.frozen? ⟨V.heap.size, 9, none⟩ = false ∧ Hid (Mid w V ⟨1, xid, secs, flags, ci, yi, si, gi, mac, l⟩ (.slice A n c) ⟨mac, ip, server, mask, router, time⟩ w'))
              (first | assumption | exact (Mid.drew (by assumption)).all | exact (Mid.allocD (last7 (by assumption)) _).all | exact (Mid.setD (last7 (by assumption)) _).all | exact (Mid.call (last7 (by assumption)) (by assumption)).all | exact (Mid.set_ (last7 (by assumption)) _).all | exact (Mid.alloc (last7 (by assumption)) _).all)
              (first
                | (go_at_call_of 16 (Value.int IntKind.u32 server); refine (addr_any server hse _).mono ?_; rintro e w' ⟨rfl, hb⟩; first | (have hcl := alloc_cell_belowD hb; simp only [List.getElem?_toArray, List.getElem?_cons_zero] at hcl) | (have hcl := alloc_cell_below hb; simp only [List.getElem?_toArray, List.getElem?_cons_zero] at hcl) | (have hcl := next_cell hb rfl hcl) | skip)
                | (go_at_call_of 16 (Value.int IntKind.u32 time); refine (addr_any time hti _).mono ?_; rintro e w' ⟨rfl, hb⟩; first | (have hcl := alloc_cell_belowD hb; simp only [List.getElem?_toArray, List.getElem?_cons_zero] at hcl) | (have hcl := alloc_cell_below hb; simp only [List.getElem?_toArray, List.getElem?_cons_zero] at hcl) | (have hcl := next_cell hb rfl hcl) | skip)
                | (go_at_call_of 16 (Value.int IntKind.u32 mask); refine (addr_any mask hma _).mono ?_; rintro e w' ⟨rfl, hb⟩; first | (have hcl := alloc_cell_belowD hb; simp only [List.getElem?_toArray, List.getElem?_cons_zero] at hcl) | (have hcl := alloc_cell_below hb; simp only [List.getElem?_toArray, List.getElem?_cons_zero] at hcl) | (have hcl := next_cell hb rfl hcl) | skip))
            all_goals
              go_wp2_with fail
              go_meet
              exact Mid.done t (by assumption) (by simp)
          case rest =>
            have HD := hcut
            clear hcut m1 m2 m3 m4 m5 m6 m7
            have hk2 := HD.out.lo
            generalize V.heap.size = k at *
            have h1 := HD.out.st.b1.cell
            simp only [Lease.val] at h1
            go_upto_if 82 with fail
            go_cut [] (fun we => Hid (Done w k ⟨1, xid, secs, flags, ci, yi, si, gi, mac, l⟩ (.slice A n c) ⟨mac, ip, server, mask, router, time⟩ (ol4 t ⟨mac, ip, server, mask, router, time⟩ ++ (if router = 0 then [] else [⟨0, 3, four router⟩])) we))
            case first =>
              by_cases g6 : router = 0
              · subst g6
                go_wp2_with fail
                go_meet
                rw [if_pos trivial, List.append_nil]
                exact HD
              · obtain ⟨v, hBk, hown⟩ := HD.out.blk
                obtain ⟨A8, n8, rfl, _⟩ := own_slice hown
                have BK := Lib.hid hBk
                have HO := Lib.hid hown
                have h9 := hBk.cell
                clear hBk hown
                obtain ⟨i0, hi, hz0, hz1, hz2⟩ := info_parts Try.info28
                go_wp2_with fail
                go_region_law (first
                  | (refine step_append_any _ rfl (.tmp 84) (.tmp 89) 29 rfl (k + 1) 28 i0 _ 3 32 Try.underlying29 hi hz0 hz1 hz2 rfl (by decide) _ 4 (os (ol4 t ⟨mac, ip, server, mask, router, time⟩)) rfl (HO2.out.alloc _) (X.heap.size + 1) _ 1 1 (os [⟨0, 3, four router⟩]) rfl (reads_blk (Blk.new X 28 _) (by omega) rfl) (by intro u hu; simp [os, Opt.cells] at hu; rcases hu with rfl | rfl | rfl <;> rfl) (by decide) (by decide) (by have := BK2.out.lt; simp; omega) ?_; intro v' w'' hown' hg' _; obtain ⟨A7, n7, rfl, _⟩ := own_slice hown'; have BK3 := Lib.hid ((BK2.out.alloc (.cells #[.int .i64 0, .int .i64 3, .string (strOf (be router 4))] 28)).grown hg' (by intro e; have := HO2.out.lt _ e.symm; omega)); have c9 := BK3.out.cell 9; have f9 := BK3.out.frozen 9; have HO3 := Lib.hid hown'; have GB := Lib.hid hg'; clear hown' hg')
                  | (go_simp; go_at_call 16; refine (addr_any router hro _).mono ?_; rintro e X ⟨rfl, hb⟩; have BK2 := Lib.hid (BK.out.drew.below hb BK.out.lt); have HO2 := Lib.hid (ownsRow_below HO.out.drew hb); have c8 := BK2.out.cell 9; have c8a := (BK2.out.alloc (.cells #[.int .i64 0, .int .i64 3, .string (strOf (be router 4))] 28)).cell 9; have HB := Lib.hid hb; clear hb))
                all_goals
                  go_wp2_with fail
                  go_meet
                  rw [if_neg g6]
                  exact done5 HD HO HB.out GB.out BK3 HO3
            case rest =>
              obtain ⟨ol, hol⟩ : ∃ ol, ol = ol4 t ⟨mac, ip, server, mask, router, time⟩ ++ (if router = 0 then [] else [⟨0, 3, four router⟩]) := ⟨_, rfl⟩
              rw [← hol] at hcut
              have HE := hcut
              have EOL := Lib.hid hol
              clear hcut HD hol
              obtain ⟨v, hBk, hown⟩ := HE.out.blk
              obtain ⟨A9, n9, rfl, _⟩ := own_slice hown
              have HO := Lib.hid hown
              have h2 := HE.out.st.b2.cell
              have f2 := HE.out.st.b2.frozen
              have h9 := hBk.cell
              simp only [zeroMsg] at h2
              clear hBk hown
              go_wp2_with fail
              refine bodyPost_ret (res10 rfl _ _ (w.heap.size + 1 + 1) _ (set10 HE.out.st.b2 _ _ _ _ _ _ _ _ _ _) rfl rfl) rfl ?_
              have ho := own10 HO.out (b := w.heap.size + 1 + 1) (by omega) (.int .i64 2) (.int .u32 xid) (.int .i64 0) (.int .i64 flags) (.int .u32 0) (.int .u32 ip) (.int .u32 server) (.int .u32 gi) (.int .u64 mac) (.slice A9 ol.length n9)
              have hr9 := Reads.of_own ho
              clear ho
              exact AnsPost.yes HT.out (below10 HE.out.st.bel (by omega) _ _ _ _ _ _ _ _ _ _) rfl (by rw [show (ansMsg t ⟨1, xid, secs, flags, ci, yi, si, gi, mac, l⟩ ⟨mac, ip, server, mask, router, time⟩).opts = ol from EOL.out.symm]; exact hr9)
      · have hno : ansL ⟨1, xid, secs, flags, ci, yi, si, gi, mac, l⟩ ⟨mac, ip, server, mask, router, time⟩ = none := if_pos (.inr (.inr g3))
        have NO := Lib.hid hno
        clear hno
        go_wp2_with fail
        exact bodyPost_ret (res10 rfl _ _ (w.heap.size + 1 + 1) _ (set10 HS.out.b2 _ _ _ _ _ _ _ _ _ _) rfl rfl) rfl (AnsPost.no NO.out (below10 HS.out.bel (by omega) _ _ _ _ _ _ _ _ _ _) rfl)
    · have hno : ansL ⟨1, xid, secs, flags, ci, yi, si, gi, ch, l⟩ ⟨mac, ip, server, mask, router, time⟩ = none := if_pos (.inr (.inl g2))
      have NO := Lib.hid hno
      clear hno
      go_wp2_with fail
      exact bodyPost_ret (res10 rfl _ _ (w.heap.size + 1 + 1) _ (set10 HS.out.b2 _ _ _ _ _ _ _ _ _ _) rfl rfl) rfl (AnsPost.no NO.out (below10 HS.out.bel (by omega) _ _ _ _ _ _ _ _ _ _) rfl)
  · have hno : ansL ⟨op, xid, secs, flags, ci, yi, si, gi, ch, l⟩ ⟨mac, ip, server, mask, router, time⟩ = none := if_pos (.inl g1)
    have NO := Lib.hid hno
    clear hno
    go_wp2_with fail
    exact bodyPost_ret (res10 rfl _ _ (w.heap.size + 1 + 1) _ (set10 HS.out.b2 _ _ _ _ _ _ _ _ _ _) rfl rfl) rfl (AnsPost.no NO.out (below10 HS.out.bel (by omega) _ _ _ _ _ _ _ _ _ _) rfl)
end Go.Proofs.Ytbekgccecdjdeaa
