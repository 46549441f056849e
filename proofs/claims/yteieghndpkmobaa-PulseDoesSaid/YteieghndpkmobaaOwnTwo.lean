/- The pulse and the reference's, side by side, both of the call's own, with the same counts. -/
import Derived.Test.YteieghndpkmobaaOwnNew
namespace Go.Proofs.Yteieghndpkmobaa
open Go.RowKit

/-- The pulse (blocks bp, gp; counts l) and the reference's (blocks bx, gx; counts m), apart, above all that was there in w0. -/
structure Two (w0 w : World) (bp gp bx gx : Nat) (l m : List Int) : Prop where
  p : Own w 58 bp gp l
  x : Own w 43 bx gx m
  bel : Below w0.heap.size w0 w
  up : w0.heap.size ≤ bp ∧ w0.heap.size ≤ gp ∧ w0.heap.size ≤ bx ∧ w0.heap.size ≤ gx
  lt : bp < w.heap.size ∧ gp < w.heap.size ∧ bx < w.heap.size ∧ gx < w.heap.size
  apart : bp ≠ bx ∧ bp ≠ gx ∧ gp ≠ bx ∧ gp ≠ gx

theorem Own.lts {w : World} {T b g : Nat} {l : List Int} (h : Own w T b g l) : b < w.heap.size ∧ g < w.heap.size := by
  obtain ⟨⟨c, f, hB, hr, _⟩, _⟩ := h
  exact ⟨hB.lt, hr.lt⟩
theorem Own.but {w w' : World} {T b g b' g' : Nat} {l : List Int} (h : Own w T b g l) (hb : But2 w w' b' g') (h1 : b ≠ b') (h2 : b ≠ g') (h3 : g ≠ b') (h4 : g ≠ g') : Own w' T b g l := by
  have hlt := h.lts
  obtain ⟨⟨c, f, hB, hr, r⟩, hne⟩ := h
  exact ⟨⟨c, f, (hb.block b hlt.1 h1 h2).trans hB, hr.of_block (hb.block g hlt.2 h3 h4), r⟩, hne⟩
theorem But2.below {w0 w w' : World} {b g : Nat} (h : But2 w w' b g) (hw : Below w0.heap.size w0 w) (h1 : w0.heap.size ≤ b) (h2 : w0.heap.size ≤ g) : Below w0.heap.size w0 w' :=
  hw.trans ⟨h.os, h.tape, h.output, h.size, fun k hk => h.block k (by have := hw.size; omega) (by omega) (by omega)⟩

theorem Two.left_p {w0 w w' : World} {bp gp bx gx : Nat} {l m l' : List Int} (h : Two w0 w bp gp bx gx l m) (hl : Left w w' 58 bp gp l') : ∃ gp', Two w0 w' bp gp' bx gx l' m := by
  obtain ⟨g', hg, ho, hb⟩ := hl
  obtain ⟨hp, hx, hbel, ⟨u1, u2, u3, u4⟩, ⟨t1, t2, t3, t4⟩, ⟨a1, a2, a3, a4⟩⟩ := h
  have hs := hb.size
  have hs0 := hbel.size
  have hlts := ho.lts
  refine ⟨g', ho, hx.but hb (Ne.symm a1) (Ne.symm a3) (Ne.symm a2) (Ne.symm a4), hb.below hbel u1 u2, ⟨u1, ?_, u3, u4⟩, ⟨by omega, hlts.2, by omega, by omega⟩, ⟨a1, a2, ?_, ?_⟩⟩ <;> rcases hg with rfl | hg <;> omega
theorem Two.left_x {w0 w w' : World} {bp gp bx gx : Nat} {l m m' : List Int} (h : Two w0 w bp gp bx gx l m) (hl : Left w w' 43 bx gx m') : ∃ gx', Two w0 w' bp gp bx gx' l m' := by
  obtain ⟨g', hg, ho, hb⟩ := hl
  obtain ⟨hp, hx, hbel, ⟨u1, u2, u3, u4⟩, ⟨t1, t2, t3, t4⟩, ⟨a1, a2, a3, a4⟩⟩ := h
  have hs := hb.size
  have hs0 := hbel.size
  have hlts := ho.lts
  refine ⟨g', hp.but hb a1 a2 a3 a4, ho, hb.below hbel u3 u4, ⟨u1, u2, u3, ?_⟩, ⟨by omega, by omega, by omega, hlts.2⟩, ⟨a1, ?_, a3, ?_⟩⟩ <;> rcases hg with rfl | hg <;> omega
theorem Two.drewN {w0 w : World} {bp gp bx gx : Nat} {l m : List Int} (h : Two w0 w bp gp bx gx l m) (n : Nat) : Two w0 (w.drewN n) bp gp bx gx l m :=
  ⟨h.p.drewN n, h.x.drewN n, below_drewN h.bel n, h.up, h.lt, h.apart⟩
theorem Two.more {w0 w w' : World} {bp gp bx gx : Nat} {l m : List Int} (h : Two w0 w bp gp bx gx l m) (hb : Below w.heap.size w w') : Two w0 w' bp gp bx gx l m := by
  obtain ⟨hp, hx, hbel, hu, ⟨t1, t2, t3, t4⟩, ha⟩ := h
  have hs := hb.size
  have kk : But2 w w' w.heap.size w.heap.size := ⟨hb.os, hb.tape, hb.output, hb.size, fun k hk _ _ => hb.block k hk⟩
  exact ⟨hp.but kk (by omega) (by omega) (by omega) (by omega), hx.but kk (by omega) (by omega) (by omega) (by omega), hbel.trans (hb.mono hbel.size), hu, ⟨by omega, by omega, by omega, by omega⟩, ha⟩
end Go.Proofs.Yteieghndpkmobaa
