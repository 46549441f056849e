/- All, over a table: its routes in order. -/
import Derived.Test.YtlpnkfnmgcigbaaIter
namespace Go.Proofs.Ytlpnkfnmgcigbaa
open Go.RowKit Go.Shelf Lp
attribute [local go_sem] Oper.semAt_some

theorem each_in (l n₀ N : Nat) (J Jx : List Rt → World → Prop) (nd : Nd) (L : List Rt)
    (hY : ∀ m pr x W, J pr W → pr.length < N → YieldAt Fence.wide m Try.prog l #[rtV (some x)] W fun e W' => (e = .returned (.bool true) ∧ J (pr ++ [x]) W' ∧ Below n₀ W W') ∨ (e = .returned (.bool false) ∧ Jx (pr ++ [x]) W'))
    (hJd : ∀ pr W, J pr W → J pr W.drew) (hown : ∀ k, Has nd k → k < n₀) :
    ∀ (f n q i : Nat) (pr : List Rt) (W : World), i + f = 33 → Ok q i → Trie 57 W nd L → J pr W → pr.length + (pre L f q i).length ≤ N →
      CallsIn Fence.wide n Try.prog 30 #[ptr (nd q i), .int .u32 q, .int .i64 i, .func (.yield l) #[] #[]] W (Went n₀ J Jx pr (pre L f q i) W) := by
  intro f
  induction f with
  | zero => intro n q i pr W hi hq; have := hq.1; omega
  | succ f ih =>
    intro n q i pr W hi hq hT hJ hN
    have hnil : ∀ (o : Option Nat) (x y : Int) (n : Nat) (pr : List Rt) (W1 : World), o = none → J pr W1 → CallsIn Fence.wide n Try.prog 30 #[ptr o, .int .u32 x, .int .i64 y, .func (.yield l) #[] #[]] W1 (Went n₀ J Jx pr [] W1) := by
      intro o x y n pr W1 ho hJ1
      rw [ptr_none ho]
      refine (each_nil n _ _ _ W1).mono ?_
      rintro e W' ⟨rfl, rfl⟩
      exact .inl ⟨rfl, by simpa using hJ1, Below.refl _ _⟩
    cases hn : nd q i with
    | none =>
      rw [pre_none hT hi hq hn]
      exact hnil none _ _ n pr W rfl hJ
    | some b =>
      rw [ptr_some rfl]
      have hB := hT.blk q i b hn
      have hlt := hown b ⟨q, i, hn⟩
      have e : pre L (f + 1) q i = (match lkp L q i with | some v => [⟨q, i, v⟩] | none => []) ++ (pre L f q (i + 1) ++ pre L f (q + 2 ^ (31 - i)) (i + 1)) := rfl
      rw [e] at hN ⊢
      have hcast : ((i : Int) + 1) = ((i + 1 : Nat) : Int) := by simp
      by_cases h32 : i < 32
      · obtain ⟨o0, _⟩ := son_ok hq h32 (show 0 < 2 by omega)
        obtain ⟨o1, _⟩ := son_ok hq h32 (show 1 < 2 by omega)
        rw [son0] at o0
        rw [son1] at o1
        refine each_node l n₀ N J Jx nd L hY n q i b (q + 2 ^ (31 - i)) _ _ _ _ pr W hq.1 hq.2.1 hlt (hB.cell 0) (hB.cell 1) (hB.cell 2) (hB.cell 3) (or_next hq h32) (Lib.hid ?_) (Lib.hid ?_) hJd hJ hN
        · intro m p2 W1 hb hj hn2
          rw [hcast]
          exact ih m q (i + 1) p2 W1 (by omega) o0 (hT.keep fun k hk => hb.block k (hown k hk)) hj hn2
        · intro m p2 W1 hb hj hn2
          rw [hcast]
          exact ih m (q + 2 ^ (31 - i)) (i + 1) p2 W1 (by omega) o1 (hT.keep fun k hk => hb.block k (hown k hk)) hj hn2
      · obtain rfl : i = 32 := by have := hq.1; omega
        obtain rfl : f = 0 := by omega
        have dead : ∀ q', nd q' 33 = none := by
          intro q'
          cases hz : nd q' 33 with
          | none => rfl
          | some z => have := (hT.dom _ _ _ hz).1; omega
        refine each_node l n₀ N J Jx nd L hY n q 32 b q _ _ _ _ pr W hq.1 hq.2.1 hlt (hB.cell 0) (hB.cell 1) (hB.cell 2) (hB.cell 3) (or_last hq) (Lib.hid ?_) (Lib.hid ?_) hJd hJ hN
        · intro m p2 W1 hb hj hn2
          exact hnil _ _ _ m p2 W1 (dead _) hj
        · intro m p2 W1 hb hj hn2
          exact hnil _ _ _ m p2 W1 (dead _) hj

theorem all_stops (n t Bt n₀ : Nat) (nd : Nd) (L : List Rt) (w : World) (hT : Tab w t nd L) (hown : ∀ k, Mine nd t k → k < n₀) (hn : n₀ ≤ w.heap.size) (hB : Bt < w.heap.size) (hc : w.cell? ⟨Bt, 0, none⟩ = some (.pointer (some ⟨t, 0, none⟩))) :
    SeqStopsK Fence.wide n Try.prog 29 #[.pointer (some ⟨Bt, 0, none⟩)] (fun x : Rt => #[rtV (some x)]) (Below n₀) (fun ys => ys = L) (fun pr => pr <+: L) L.length w := fun l J Jx W hW hJ _ hY h0 => by
  have hb := (hW.cell (p := ⟨Bt, 0, none⟩) hB).trans hc
  have hTW := hT.below hW
  have ht := hTW.tab.cell 0
  simp only [List.getElem?_toArray, List.getElem?_cons_zero] at ht
  have MD := Lib.hid (callsIn_wide (n := n - 1).2 (made_yes t nd L W hTW))
  have EA := Lib.hid (each_in l n₀ L.length J Jx nd L (fun m pr x W hj hl => yield_any rfl m (hY pr x W hj hl)) (fun pr W hj => hJ pr W W.drew none hj ⟨rfl, rfl, rfl, Nat.le_refl _, fun _ _ _ => rfl⟩ (fun r e => by cases e))
    (fun k hk => hown k (.inr hk)) 33 (n - 1) 0 0 [] W rfl ⟨by omega, by omega, by omega⟩ hTW.trie h0 (by rw [pre_all hTW.trie.sorted hTW.trie.right]; simp))
  rw [pre_all hTW.trie.sorted hTW.trie.right] at EA
  clear hTW
  refine callsIn_of_wp Try.func29 rfl trivial ?_ rfl
  simp only [Try.ntmps29, List.size_toArray, List.length_cons, List.length_nil, Nat.reduceAdd, Nat.reduceSub, Array.replicate_succ, Array.replicate_zero, List.push_toArray, List.append_toArray, List.nil_append, List.cons_append]
  gi_wp2_with (first
    | (refine ⟨trivial, fun h => (by cases h), ?_⟩; gi_at_call 25; refine MD.out.mono ?_; rintro e w' ⟨rfl, rfl⟩)
    | fail)
  refine ⟨trivial, fun h => (by cases h), EA.out.mono ?_⟩
  rintro e W1 (⟨rfl, hj, _⟩ | ⟨rfl, q, hq, hx⟩)
  · have HJ := Lib.hid hj
    clear hj
    gi_wp2_with fail
    go_end0
    exact ⟨⟨_, rfl⟩, .inl ⟨L, rfl, by have := HJ.out; simpa using this⟩⟩
  · have HX := Lib.hid hx
    clear hx
    gi_wp2_with fail
    go_end0
    exact ⟨⟨_, rfl⟩, .inr ⟨q, hq, by have := HX.out; simpa using this⟩⟩
end Go.Proofs.Ytlpnkfnmgcigbaa
