/- The reference's Add. -/
import Derived.Test.YtlpnkfnmgcigbaaApp
import Derived.Test.YtlpnkfnmgcigbaaTable
import Derived.Test.YtlpnkfnmgcigbaaLast
namespace Go.Proofs.Ytlpnkfnmgcigbaa
open Go.RowKit Lp

set_option maxRecDepth 100000 in
set_option maxHeartbeats 8000000 in
theorem radd_any (x g p : Nat) (n v : Int) (L : List Rt) (w : World) (h : Rf w x g L) (hp : p < 4294967296) (hL : L.length ≤ 4398046511104) :
    Calls Try.prog 10 #[.pointer (some ⟨x, 0, none⟩), .int .u32 p, .int .i64 n, .int .i64 v] w fun e w' => e = .returned (.int .i64 (addC L p n)) ∧ ∃ g', NextR w w' x g g' (addL L p n v) := by
  have RT := Lib.hid (rright_any p n hp w)
  have HF := Lib.hid h
  have FD := Lib.hid (rfind_any x g p n L w h (by omega))
  by_cases hr : rightN p n = true
  · obtain ⟨n, rfl, hk⟩ := (rightN_ok hp).1 hr
    rw [hr] at RT
    cases hl : lkp L p n with
    | some v0 =>
      have E : addC L p n = 5 := by unfold addC; rw [if_pos hr, Int.toNat_natCast, hl]; rfl
      have E2 : addL L p n v = L := by unfold addL; rw [E]; rfl
      rw [E, E2]
      obtain ⟨j, hj, _⟩ := fi_some hl 0
      rw [hj] at FD
      clear E E2 hl hr h hj
      go_enter Try.func10, Try.ntmps10
      go_wp2_with (first
        | (go_at_call 23; refine RT.out.mono ?_; rintro e w' ⟨rfl, rfl⟩)
        | (go_at_call 24; refine FD.out.mono ?_; rintro e w' ⟨rfl, rfl⟩))
      go_ret
      exact ⟨rfl, g, HF.out, .inl ⟨rfl, rfl⟩, Only.refl _ _⟩
    | none =>
      have E : addC L p n = 0 := by unfold addC; rw [if_pos hr, Int.toNat_natCast, hl]; rfl
      have E2 : addL L p n v = ins L ⟨p, n, v⟩ := by unfold addL; rw [E]; rfl
      rw [E, E2]
      rw [fi_none hl 0] at FD
      obtain ⟨A, c, hB, hrd, _, hc⟩ := h.row
      have hx : w.cell? ⟨x, 0, none⟩ = some (.slice A L.length c) := hB.cell 0
      have HB := Lib.hid hB
      have HRD := Lib.hid hrd
      have HC := Lib.hid hc
      have HLEN := Lib.hid hL
      clear E E2 hl hr h hB
      go_enter Try.func10, Try.ntmps10
      go_wp2_with (first
        | (go_at_call 23; refine RT.out.mono ?_; rintro e w' ⟨rfl, rfl⟩)
        | (go_at_call 24; refine FD.out.mono ?_; rintro e w' ⟨rfl, rfl⟩))
      go_loopw [9] (fun iv wr => ∃ k : Nat, k ≤ L.length ∧ iv = .int .i64 k ∧ wr = w ∧ Hid (L.take k ++ (L.drop k).takeWhile (kl · ⟨p, n, v⟩) = L.takeWhile (kl · ⟨p, n, v⟩) ∧ (L.drop k).dropWhile (kl · ⟨p, n, v⟩) = L.dropWhile (kl · ⟨p, n, v⟩))) (fun iv _ => L.length - (intOf iv).toNat)
      case atStart => exact ⟨0, by omega, rfl, rfl, Lib.hid ⟨rfl, rfl⟩⟩
      case round =>
        obtain ⟨k, hk', rfl, rfl, HW⟩ := hrel
        by_cases hkl : k < L.length
        · obtain ⟨ad, rfl, hab, hab3, e0, e1, e2⟩ := rt_cells hrd hkl
          have hd : L.drop k = L[k] :: L.drop (k + 1) := List.drop_eq_getElem_cons hkl
          have ht : L.take (k + 1) = L.take k ++ [L[k]] := by rw [List.take_add_one, List.getElem?_eq_getElem hkl]; rfl
          have hW := HW.out
          rw [hd] at hW
          have HD := Lib.hid hd
          have HTK := Lib.hid ht
          clear hd ht HW
          generalize L[k] = o at *
          obtain ⟨op, on, ov⟩ := o
          simp only at e0 e1 e2
          have GO : Hid (kl ⟨op, on, ov⟩ ⟨p, n, v⟩ = true → (L.take (k + 1) ++ (L.drop (k + 1)).takeWhile (kl · ⟨p, n, v⟩) = L.takeWhile (kl · ⟨p, n, v⟩) ∧ (L.drop (k + 1)).dropWhile (kl · ⟨p, n, v⟩) = L.dropWhile (kl · ⟨p, n, v⟩))) := Lib.hid fun hh => by
            rw [List.takeWhile_cons_of_pos (by simpa using hh), List.dropWhile_cons_of_pos (by simpa using hh)] at hW
            rw [HTK.out, List.append_assoc]
            exact hW
          have ST : Hid (¬ kl ⟨op, on, ov⟩ ⟨p, n, v⟩ = true → L.take k ++ [⟨p, n, v⟩] ++ L.drop k = ins L ⟨p, n, v⟩) := Lib.hid fun hh => by
            rw [List.takeWhile_cons_of_neg (by simpa using hh), List.dropWhile_cons_of_neg (by simpa using hh), List.append_nil] at hW
            unfold ins
            rw [← hW.1, ← hW.2, HD.out]
            simp
          clear hW
          by_cases h1 : op < p
          · have NX := Lib.hid (GO.out ((kl_iff _ _).2 (.inl h1)))
            clear GO ST
            go_wp2_with fail
            exact ⟨⟨k + 1, by omega, by simp, trivial, NX⟩, by simp [intOf]; omega⟩
          · by_cases h2 : op = p
            · by_cases h3 : on < n
              · have NX := Lib.hid (GO.out ((kl_iff _ _).2 (.inr ⟨h2, h3⟩)))
                clear GO ST
                go_wp2_with fail
                exact ⟨⟨k + 1, by omega, by simp, trivial, NX⟩, by simp [intOf]; omega⟩
              · have EX := Lib.hid (ST.out (by rw [kl_iff]; simp only; omega))
                have HK : Hid (k ≤ L.length) := Lib.hid hk'
                clear GO ST
                go_wp2_with fail
                have hkc : k ≤ c := by have := HK.out; have := HC.out; omega
                have hkl2 : k ≤ L.length := HK.out
                refine wp_region_last (S := fun w' => w'.cell? ⟨x, 0, none⟩ = some (.slice (some ad) L.length c)) 24 (by kernel_rfl) ?_
                obtain ⟨w0, hw0⟩ : ∃ w0, w0 = wr.drew := ⟨_, rfl⟩
                have hHeld : w0.cell? ⟨x, 0, none⟩ = some (.slice (some ad) L.length c) := by rw [hw0]; exact hx
                rw [← hw0]
                have HX : Hid (Blk w0 x 30 #[.slice (some ad) L.length c]) := Lib.hid (by rw [hw0]; exact HB.out.drew)
                have HR : Hid (Reads w0 w0.heap.size 3 (some ad) L.length (rts L)) := Lib.hid (by rw [hw0]; exact HRD.out.drew)
                have HO : Hid (Drew wr w0) := Lib.hid (by rw [hw0]; exact ⟨1, rfl⟩)
                clear hw0 hx
                refine upToLast.take (i := 0) (oi := ⟨some 64, _, _, _, _, _⟩) (v := ?_) rfl (by kernel_rfl) (by kernel_rfl) (by kernel_rfl) (by kernel_rfl) (fun _ _ _ h => h) (by decide) (Or.inl ⟨by rfl, ?_⟩) hHeld ?_
                rotate_left 1
                · (intro w hSw; (try dsimp only at hSw); go_simp; try with_reducible rfl)
                try simp only [Act.put, List.setIfInBounds_toArray, List.set_cons_zero, List.set_cons_succ]
                refine upToLast.take (i := 2) (oi := ⟨some 66, _, _, _, _, _⟩) (v := ?_) rfl (by kernel_rfl) (by kernel_rfl) (by kernel_rfl) (by kernel_rfl) (fun _ _ _ h => h) (by decide) (Or.inl ⟨by rfl, ?_⟩) hHeld ?_
                rotate_left 1
                · (intro w hSw; (try dsimp only at hSw); go_simp; try with_reducible rfl)
                try simp only [Act.put, List.setIfInBounds_toArray, List.set_cons_zero, List.set_cons_succ]
                refine upToLast.take (i := 3) (oi := ⟨some 67, _, _, _, _, _⟩) (v := ?_) rfl (by kernel_rfl) (by kernel_rfl) (by kernel_rfl) (by kernel_rfl) (fun _ _ _ h => h) (by decide) (Or.inl ⟨by rfl, ?_⟩) hHeld ?_
                rotate_left 1
                · (intro w hSw; (try dsimp only at hSw); go_simp; try with_reducible rfl)
                try simp only [Act.put, List.setIfInBounds_toArray, List.set_cons_zero, List.set_cons_succ]
                refine upToLast.take (i := 4) (oi := ⟨some 68, _, _, _, _, _⟩) (v := ?_) rfl (by kernel_rfl) (by kernel_rfl) (by kernel_rfl) (by kernel_rfl) (fun _ _ _ h => h) (by decide) (Or.inl ⟨by rfl, ?_⟩) hHeld ?_
                rotate_left 1
                · (intro w hSw; (try dsimp only at hSw); go_simp; try with_reducible rfl)
                try simp only [Act.put, List.setIfInBounds_toArray, List.set_cons_zero, List.set_cons_succ]
                refine upToLast.take (i := 5) (oi := ⟨some 69, _, _, _, _, _⟩) (v := ?_) rfl (by kernel_rfl) (by kernel_rfl) (by kernel_rfl) (by kernel_rfl) (fun _ _ _ h => h) (by decide) (Or.inl ⟨by rfl, ?_⟩) hHeld ?_
                rotate_left 1
                · (intro w hSw; (try dsimp only at hSw); go_simp; try with_reducible rfl)
                try simp only [Act.put, List.setIfInBounds_toArray, List.set_cons_zero, List.set_cons_succ]
                refine upToLast.take (i := 6) (oi := ⟨some 70, _, _, _, _, _⟩) (v := ?_) rfl (by kernel_rfl) (by kernel_rfl) (by kernel_rfl) (by kernel_rfl) (fun _ _ _ h => h) (by decide) (Or.inl ⟨by rfl, ?_⟩) hHeld ?_
                rotate_left 1
                · (intro w hSw; (try dsimp only at hSw); go_simp; try with_reducible rfl)
                try simp only [Act.put, List.setIfInBounds_toArray, List.set_cons_zero, List.set_cons_succ]
                refine upToLast.take (i := 7) (oi := ⟨some 71, _, _, _, _, _⟩) (v := ?_) rfl (by kernel_rfl) (by kernel_rfl) (by kernel_rfl) (by kernel_rfl) (fun _ _ _ h => h) (by decide) (Or.inl ⟨by rfl, ?_⟩) hHeld ?_
                rotate_left 1
                · (intro w hSw; (try dsimp only at hSw); go_simp; try with_reducible rfl)
                try simp only [Act.put, List.setIfInBounds_toArray, List.set_cons_zero, List.set_cons_succ]
                refine upToLast.take (i := 9) (oi := ⟨some 73, _, _, _, _, _⟩) (v := ?_) rfl (by kernel_rfl) (by kernel_rfl) (by kernel_rfl) (by kernel_rfl) (fun _ _ _ h => h) (by decide) (Or.inl ⟨by rfl, ?_⟩) hHeld ?_
                rotate_left 1
                · (intro w hSw; (try dsimp only at hSw); go_simp; try with_reducible rfl)
                try simp only [Act.put, List.setIfInBounds_toArray, List.set_cons_zero, List.set_cons_succ]
                refine upToLast.take (i := 10) (oi := ⟨some 74, _, _, _, _, _⟩) (v := ?_) rfl (by kernel_rfl) (by kernel_rfl) (by kernel_rfl) (by kernel_rfl) (fun _ _ _ h => h) (by decide) (Or.inl ⟨by rfl, ?_⟩) hHeld ?_
                rotate_left 1
                · (intro w hSw; (try dsimp only at hSw); go_simp; try with_reducible rfl)
                try simp only [Act.put, List.setIfInBounds_toArray, List.set_cons_zero, List.set_cons_succ]
                refine upToLast.take (i := 11) (oi := ⟨some 75, _, _, _, _, _⟩) (v := ?_) rfl (by kernel_rfl) (by kernel_rfl) (by kernel_rfl) (by kernel_rfl) (fun _ _ _ h => h) (by decide) (Or.inl ⟨by rfl, ?_⟩) hHeld ?_
                rotate_left 1
                · (intro w hSw; (try dsimp only at hSw); go_simp; try with_reducible rfl)
                try simp only [Act.put, List.setIfInBounds_toArray, List.set_cons_zero, List.set_cons_succ]
                refine upToLast.take (i := 12) (oi := ⟨some 76, _, _, _, _, _⟩) (v := ?_) rfl (by kernel_rfl) (by kernel_rfl) (by kernel_rfl) (by kernel_rfl) (fun _ _ _ h => h) (by decide) (Or.inl ⟨by rfl, ?_⟩) hHeld ?_
                rotate_left 1
                · (intro w hSw; (try dsimp only at hSw); go_simp; try with_reducible rfl)
                try simp only [Act.put, List.setIfInBounds_toArray, List.set_cons_zero, List.set_cons_succ]
                refine upToLast.take (i := 15) (oi := ⟨some 79, _, _, _, _, _⟩) (v := ?_) rfl (by kernel_rfl) (by kernel_rfl) (by kernel_rfl) (by kernel_rfl) (fun _ _ _ h => h) (by decide) (Or.inl ⟨by rfl, ?_⟩) hHeld ?_
                rotate_left 1
                · (intro w hSw; (try dsimp only at hSw); go_simp; try with_reducible rfl)
                try simp only [Act.put, List.setIfInBounds_toArray, List.set_cons_zero, List.set_cons_succ]
                refine upToLast.take (i := 16) (oi := ⟨some 80, _, _, _, _, _⟩) (v := ?_) rfl (by kernel_rfl) (by kernel_rfl) (by kernel_rfl) (by kernel_rfl) (fun _ _ _ h => h) (by decide) (Or.inl ⟨by rfl, ?_⟩) hHeld ?_
                rotate_left 1
                · (intro w hSw; (try dsimp only at hSw); go_simp; try with_reducible rfl)
                try simp only [Act.put, List.setIfInBounds_toArray, List.set_cons_zero, List.set_cons_succ]
                refine upToLast.take (i := 17) (oi := ⟨some 81, _, _, _, _, _⟩) (v := ?_) rfl (by kernel_rfl) (by kernel_rfl) (by kernel_rfl) (by kernel_rfl) (fun _ _ _ h => h) (by decide) (Or.inl ⟨by rfl, ?_⟩) hHeld ?_
                rotate_left 1
                · (intro w hSw; (try dsimp only at hSw); go_simp; try with_reducible rfl)
                try simp only [Act.put, List.setIfInBounds_toArray, List.set_cons_zero, List.set_cons_succ]
                refine upToLast.take (i := 18) (oi := ⟨some 82, _, _, _, _, _⟩) (v := ?_) rfl (by kernel_rfl) (by kernel_rfl) (by kernel_rfl) (by kernel_rfl) (fun _ _ _ h => h) (by decide) (Or.inl ⟨by rfl, ?_⟩) hHeld ?_
                rotate_left 1
                · (intro w hSw; (try dsimp only at hSw); go_simp; try with_reducible rfl)
                try simp only [Act.put, List.setIfInBounds_toArray, List.set_cons_zero, List.set_cons_succ]
                refine upToLast.take (i := 19) (oi := ⟨some 83, _, _, _, _, _⟩) (v := ?_) rfl (by kernel_rfl) (by kernel_rfl) (by kernel_rfl) (by kernel_rfl) (fun _ _ _ h => h) (by decide) (Or.inl ⟨by rfl, ?_⟩) hHeld ?_
                rotate_left 1
                · (intro w hSw; (try dsimp only at hSw); go_simp; try with_reducible rfl)
                try simp only [Act.put, List.setIfInBounds_toArray, List.set_cons_zero, List.set_cons_succ]
                refine upToLast.take (i := 20) (oi := ⟨some 84, _, _, _, _, _⟩) (v := ?_) rfl (by kernel_rfl) (by kernel_rfl) (by kernel_rfl) (by kernel_rfl) (fun _ _ _ h => h) (by decide) (Or.inl ⟨by rfl, ?_⟩) hHeld ?_
                rotate_left 1
                · (intro w hSw; (try dsimp only at hSw); go_simp; try with_reducible rfl)
                try simp only [Act.put, List.setIfInBounds_toArray, List.set_cons_zero, List.set_cons_succ]
                refine upToLast.next (rs := [1, 13]) (by kernel_rfl) (by simp) ?_
                refine (each1.cons rfl (fun K hK => ?_) (each1.cons rfl (fun K hK => ?_) each1.nil))
                · go_simp
                  refine hK.out _ _ (fun _ => (World.cell?_alloc_lt w0 _ _ HX.out.lt).trans (HX.out.cell 0)) ?_
                  clear hK K
                  try simp only [Act.put, List.setIfInBounds_toArray, List.set_cons_zero, List.set_cons_succ]
                  refine upToLast.next (rs := [8, 13]) (by kernel_rfl) (by simp) ?_
                  refine (each1.cons rfl (fun K hK => ?_) (each1.cons rfl (fun K hK => ?_) each1.nil))
                  · refine step_app rfl (.tmp 65) (.tmp 71) rfl w0.heap.size (w0.alloc (.cells #[] 37)) (.slice (some ⟨w0.heap.size, 0, none⟩) 0 0) [] rfl (own_empty w0 (Nat.le_refl _)) w0.heap.size (some ad) k c (L.take k) rfl (((reads_take HR.out HK.out).alloc (Nat.le_refl _) _)) (by have := HK.out; simp; omega) (by simp) ?_
                    intro v1 w1 ho1 hg1 hb1
                    rw [List.nil_append] at ho1
                    have B1 : Below w0.heap.size w0 w1 := ((Below.refl _ _).alloc (Nat.le_refl _) _).trans hb1
                    refine hK.out _ _ (fun _ => (B1.cell (p := ⟨x, 0, none⟩) HX.out.lt).trans (HX.out.cell 0)) ?_
                    clear hK K
                    try simp only [Act.put, List.setIfInBounds_toArray, List.set_cons_zero, List.set_cons_succ]
                    refine upToLast.next (rs := [13]) (by kernel_rfl) (by simp) ?_
                    refine (each1.cons rfl (fun K hK => ?_) each1.nil)
                    go_simp
                    refine hK.out _ _ (fun _ => (World.cell?_alloc_lt w1 _ _ (Nat.lt_of_lt_of_le HX.out.lt B1.size)).trans ((B1.cell (p := ⟨x, 0, none⟩) HX.out.lt).trans (HX.out.cell 0))) ?_
                    clear hK K
                    try simp only [Act.put, List.setIfInBounds_toArray, List.set_cons_zero, List.set_cons_succ]
                    refine upToLast.next (rs := [14]) (by kernel_rfl) (by simp) ?_
                    refine (each1.cons rfl (fun K hK => ?_) each1.nil)
                    refine step_app rfl (.tmp 72) (.tmp 77) rfl w0.heap.size (w1.alloc (.cells #[.int .u32 p, .int .i64 n, .int .i64 v] 37)) v1 (L.take k) rfl (ho1.alloc _) (w1.alloc (.cells #[.int .u32 p, .int .i64 n, .int .i64 v] 37)).heap.size _ 1 1 [⟨p, n, v⟩] rfl (reads_one (Blk.new w1 37 _)) (by have := HLEN.out; rw [List.length_take]; simp; omega) (Nat.le_trans B1.size (by simp)) ?_
                    intro v2 w2 ho2 hg2 hb2
                    have B2 : Below w0.heap.size w0 w2 := (B1.alloc B1.size _).trans hb2
                    refine hK.out _ _ (fun _ => (B2.cell (p := ⟨x, 0, none⟩) HX.out.lt).trans (HX.out.cell 0)) ?_
                    clear hK K
                    try simp only [Act.put, List.setIfInBounds_toArray, List.set_cons_zero, List.set_cons_succ]
                    refine upToLast.next (rs := [21]) (by kernel_rfl) (by simp) ?_
                    refine (each1.cons rfl (fun K hK => ?_) each1.nil)
                    refine step_app rfl (.tmp 78) (.tmp 84) rfl w0.heap.size w2 v2 (L.take k ++ [⟨p, n, v⟩]) rfl ho2 w0.heap.size _ (L.length - k) _ (L.drop k) rfl ((reads_drop HR.out HK.out HC.out).below B2) (by have := HLEN.out; have := HK.out; simp; omega) B2.size ?_
                    intro v3 w3 ho3 hg3 hb3
                    rw [EX.out] at ho3
                    have B3 := B2.trans hb3
                    have hx3 := (B3.cell (p := ⟨x, 0, none⟩) HX.out.lt).trans (HX.out.cell 0)
                    have X3 := HX.out.below B3 HX.out.lt
                    have fx3 := X3.frozen 0
                    refine hK.out _ _ (fun _ => hx3) ?_
                    clear hK K
                    try simp only [Act.put, List.setIfInBounds_toArray, List.set_cons_zero, List.set_cons_succ]
                    refine upToLast.next (rs := [22]) (by kernel_rfl) (by simp) ?_
                    refine (each1.cons rfl (fun K hK => ?_) each1.nil)
                    go_simp
                    refine hK.out _ _ (fun _ => hx3) ?_
                    clear hK K
                    try simp only [Act.put, List.setIfInBounds_toArray, List.set_cons_zero, List.set_cons_succ]
                    refine upToLast.next (rs := [23]) (by kernel_rfl) (by simp) ?_
                    refine (each1.cons rfl (fun K hK => ?_) each1.nil)
                    go_simp
                    refine hK.out _ _ (fun _ => hx3) ?_
                    clear hK K
                    try simp only [Act.put, List.setIfInBounds_toArray, List.set_cons_zero, List.set_cons_succ]
                    refine upToLast.next (rs := [24]) (by kernel_rfl) (by simp) ?_
                    refine (each1.cons rfl (fun K hK => ?_) each1.nil)
                    obtain ⟨A3, c3, rfl, hr3⟩ := own_slice ho3
                    go_simp
                    obtain ⟨g', hRf, hgn⟩ := Rf.made X3 (base := w0.heap.size) HX.out.lt ho3
                    have o1 : Only (fun k => k = x) wr w3 := Only.below ((HO.out.below wr.heap.size).trans (B3.mono (Nat.le_of_eq (by rw [HO.out.same])))) _
                    have o2 : Only (fun k => k = x) wr (w3.setCell ⟨x, 0, none⟩ (.slice A3 (ins L ⟨p, n, v⟩).length c3)) := o1.setCell (p := ⟨x, 0, none⟩) (fun _ => rfl) _
                    have NX : NextR wr (w3.setCell ⟨x, 0, none⟩ (.slice A3 (ins L ⟨p, n, v⟩).length c3)) x g g' (ins L ⟨p, n, v⟩) := ⟨hRf, .inr ⟨by rw [HO.out.same] at hgn; exact hgn, by rw [length_ins]; omega⟩, o2⟩
                    have HNX := Lib.hid NX
                    clear NX hRf
                    refine hK.out _ _ (fun h => absurd rfl h) ?_
                    clear hK K
                    try simp only [Act.put, List.setIfInBounds_toArray, List.set_cons_zero, List.set_cons_succ]
                    refine upToLast.done (by kernel_rfl) ?_ _
                    go_wp2_with fail
                    all_goals go_ret
                    all_goals exact ⟨rfl, g', HNX.out⟩
                  · go_simp
                    refine hK.out _ _ (fun _ => (World.cell?_alloc_lt _ _ _ (by have := HX.out.lt; simp; omega)).trans ((World.cell?_alloc_lt w0 _ _ HX.out.lt).trans (HX.out.cell 0))) ?_
                    clear hK K
                    try simp only [Act.put, List.setIfInBounds_toArray, List.set_cons_zero, List.set_cons_succ]
                    refine upToLast.next (rs := [8]) (by kernel_rfl) (by simp) ?_
                    refine (each1.cons rfl (fun K hK => ?_) each1.nil)
                    refine step_app rfl (.tmp 65) (.tmp 71) rfl w0.heap.size ((w0.alloc (.cells #[] 37)).alloc (.cells #[.int .u32 p, .int .i64 n, .int .i64 v] 37)) (.slice (some ⟨w0.heap.size, 0, none⟩) 0 0) [] rfl ((own_empty w0 (Nat.le_refl _)).alloc _) w0.heap.size (some ad) k c (L.take k) rfl ((((reads_take HR.out HK.out).alloc (Nat.le_refl _) _).alloc (by simp) _)) (by have := HK.out; simp; omega) (by simp; omega) ?_
                    intro v1 w1 ho1 hg1 hb1
                    rw [List.nil_append] at ho1
                    have B1 : Below w0.heap.size w0 w1 := (((Below.refl _ _).alloc (Nat.le_refl _) _).alloc (by simp) _).trans hb1
                    have KL0 : Blk ((w0.alloc (.cells #[] 37)).alloc (.cells #[.int .u32 p, .int .i64 n, .int .i64 v] 37)) (w0.heap.size + 1) 37 #[.int .u32 p, .int .i64 n, .int .i64 v] := by have := Blk.new (w0.alloc (.cells #[] 37)) 37 #[.int .u32 p, .int .i64 n, .int .i64 v]; rwa [World.size_alloc] at this
                    have KL : Blk w1 (w0.heap.size + 1) 37 #[.int .u32 p, .int .i64 n, .int .i64 v] := KL0.grown hg1 (by simp [Value.ownBlock])
                    refine hK.out _ _ (fun _ => (B1.cell (p := ⟨x, 0, none⟩) HX.out.lt).trans (HX.out.cell 0)) ?_
                    clear hK K
                    try simp only [Act.put, List.setIfInBounds_toArray, List.set_cons_zero, List.set_cons_succ]
                    refine upToLast.next (rs := [14]) (by kernel_rfl) (by simp) ?_
                    refine (each1.cons rfl (fun K hK => ?_) each1.nil)
                    refine step_app rfl (.tmp 72) (.tmp 77) rfl w0.heap.size (w1) v1 (L.take k) rfl (ho1) (w1).heap.size _ 1 1 [⟨p, n, v⟩] rfl (reads_one KL) (by have := HLEN.out; rw [List.length_take]; simp; omega) (B1.size) ?_
                    intro v2 w2 ho2 hg2 hb2
                    have B2 : Below w0.heap.size w0 w2 := B1.trans hb2
                    refine hK.out _ _ (fun _ => (B2.cell (p := ⟨x, 0, none⟩) HX.out.lt).trans (HX.out.cell 0)) ?_
                    clear hK K
                    try simp only [Act.put, List.setIfInBounds_toArray, List.set_cons_zero, List.set_cons_succ]
                    refine upToLast.next (rs := [21]) (by kernel_rfl) (by simp) ?_
                    refine (each1.cons rfl (fun K hK => ?_) each1.nil)
                    refine step_app rfl (.tmp 78) (.tmp 84) rfl w0.heap.size w2 v2 (L.take k ++ [⟨p, n, v⟩]) rfl ho2 w0.heap.size _ (L.length - k) _ (L.drop k) rfl ((reads_drop HR.out HK.out HC.out).below B2) (by have := HLEN.out; have := HK.out; simp; omega) B2.size ?_
                    intro v3 w3 ho3 hg3 hb3
                    rw [EX.out] at ho3
                    have B3 := B2.trans hb3
                    have hx3 := (B3.cell (p := ⟨x, 0, none⟩) HX.out.lt).trans (HX.out.cell 0)
                    have X3 := HX.out.below B3 HX.out.lt
                    have fx3 := X3.frozen 0
                    refine hK.out _ _ (fun _ => hx3) ?_
                    clear hK K
                    try simp only [Act.put, List.setIfInBounds_toArray, List.set_cons_zero, List.set_cons_succ]
                    refine upToLast.next (rs := [22]) (by kernel_rfl) (by simp) ?_
                    refine (each1.cons rfl (fun K hK => ?_) each1.nil)
                    go_simp
                    refine hK.out _ _ (fun _ => hx3) ?_
                    clear hK K
                    try simp only [Act.put, List.setIfInBounds_toArray, List.set_cons_zero, List.set_cons_succ]
                    refine upToLast.next (rs := [23]) (by kernel_rfl) (by simp) ?_
                    refine (each1.cons rfl (fun K hK => ?_) each1.nil)
                    go_simp
                    refine hK.out _ _ (fun _ => hx3) ?_
                    clear hK K
                    try simp only [Act.put, List.setIfInBounds_toArray, List.set_cons_zero, List.set_cons_succ]
                    refine upToLast.next (rs := [24]) (by kernel_rfl) (by simp) ?_
                    refine (each1.cons rfl (fun K hK => ?_) each1.nil)
                    obtain ⟨A3, c3, rfl, hr3⟩ := own_slice ho3
                    go_simp
                    obtain ⟨g', hRf, hgn⟩ := Rf.made X3 (base := w0.heap.size) HX.out.lt ho3
                    have o1 : Only (fun k => k = x) wr w3 := Only.below ((HO.out.below wr.heap.size).trans (B3.mono (Nat.le_of_eq (by rw [HO.out.same])))) _
                    have o2 : Only (fun k => k = x) wr (w3.setCell ⟨x, 0, none⟩ (.slice A3 (ins L ⟨p, n, v⟩).length c3)) := o1.setCell (p := ⟨x, 0, none⟩) (fun _ => rfl) _
                    have NX : NextR wr (w3.setCell ⟨x, 0, none⟩ (.slice A3 (ins L ⟨p, n, v⟩).length c3)) x g g' (ins L ⟨p, n, v⟩) := ⟨hRf, .inr ⟨by rw [HO.out.same] at hgn; exact hgn, by rw [length_ins]; omega⟩, o2⟩
                    have HNX := Lib.hid NX
                    clear NX hRf
                    refine hK.out _ _ (fun h => absurd rfl h) ?_
                    clear hK K
                    try simp only [Act.put, List.setIfInBounds_toArray, List.set_cons_zero, List.set_cons_succ]
                    refine upToLast.done (by kernel_rfl) ?_ _
                    go_wp2_with fail
                    all_goals go_ret
                    all_goals exact ⟨rfl, g', HNX.out⟩
                · go_simp
                  refine hK.out _ _ (fun _ => (World.cell?_alloc_lt w0 _ _ HX.out.lt).trans (HX.out.cell 0)) ?_
                  clear hK K
                  try simp only [Act.put, List.setIfInBounds_toArray, List.set_cons_zero, List.set_cons_succ]
                  refine upToLast.next (rs := [1]) (by kernel_rfl) (by simp) ?_
                  refine (each1.cons rfl (fun K hK => ?_) each1.nil)
                  go_simp
                  refine hK.out _ _ (fun _ => (World.cell?_alloc_lt _ _ _ (by have := HX.out.lt; simp; omega)).trans ((World.cell?_alloc_lt w0 _ _ HX.out.lt).trans (HX.out.cell 0))) ?_
                  clear hK K
                  try simp only [Act.put, List.setIfInBounds_toArray, List.set_cons_zero, List.set_cons_succ]
                  refine upToLast.next (rs := [8]) (by kernel_rfl) (by simp) ?_
                  refine (each1.cons rfl (fun K hK => ?_) each1.nil)
                  refine step_app rfl (.tmp 65) (.tmp 71) rfl w0.heap.size ((w0.alloc (.cells #[.int .u32 p, .int .i64 n, .int .i64 v] 37)).alloc (.cells #[] 37)) (.slice (some ⟨w0.heap.size + 1, 0, none⟩) 0 0) [] rfl (by have := own_empty (w0.alloc (.cells #[.int .u32 p, .int .i64 n, .int .i64 v] 37)) (B := w0.heap.size) (by simp); rwa [World.size_alloc] at this) w0.heap.size (some ad) k c (L.take k) rfl ((((reads_take HR.out HK.out).alloc (Nat.le_refl _) _).alloc (by simp) _)) (by have := HK.out; simp; omega) (by simp; omega) ?_
                  intro v1 w1 ho1 hg1 hb1
                  rw [List.nil_append] at ho1
                  have B1 : Below w0.heap.size w0 w1 := (((Below.refl _ _).alloc (Nat.le_refl _) _).alloc (by simp) _).trans hb1
                  have KL0 : Blk ((w0.alloc (.cells #[.int .u32 p, .int .i64 n, .int .i64 v] 37)).alloc (.cells #[] 37)) w0.heap.size 37 #[.int .u32 p, .int .i64 n, .int .i64 v] := (Blk.new w0 37 _).alloc _
                  have KL : Blk w1 w0.heap.size 37 #[.int .u32 p, .int .i64 n, .int .i64 v] := KL0.grown hg1 (by simp [Value.ownBlock])
                  refine hK.out _ _ (fun _ => (B1.cell (p := ⟨x, 0, none⟩) HX.out.lt).trans (HX.out.cell 0)) ?_
                  clear hK K
                  try simp only [Act.put, List.setIfInBounds_toArray, List.set_cons_zero, List.set_cons_succ]
                  refine upToLast.next (rs := [14]) (by kernel_rfl) (by simp) ?_
                  refine (each1.cons rfl (fun K hK => ?_) each1.nil)
                  refine step_app rfl (.tmp 72) (.tmp 77) rfl w0.heap.size (w1) v1 (L.take k) rfl (ho1) (w1).heap.size _ 1 1 [⟨p, n, v⟩] rfl (reads_one KL) (by have := HLEN.out; rw [List.length_take]; simp; omega) (B1.size) ?_
                  intro v2 w2 ho2 hg2 hb2
                  have B2 : Below w0.heap.size w0 w2 := B1.trans hb2
                  refine hK.out _ _ (fun _ => (B2.cell (p := ⟨x, 0, none⟩) HX.out.lt).trans (HX.out.cell 0)) ?_
                  clear hK K
                  try simp only [Act.put, List.setIfInBounds_toArray, List.set_cons_zero, List.set_cons_succ]
                  refine upToLast.next (rs := [21]) (by kernel_rfl) (by simp) ?_
                  refine (each1.cons rfl (fun K hK => ?_) each1.nil)
                  refine step_app rfl (.tmp 78) (.tmp 84) rfl w0.heap.size w2 v2 (L.take k ++ [⟨p, n, v⟩]) rfl ho2 w0.heap.size _ (L.length - k) _ (L.drop k) rfl ((reads_drop HR.out HK.out HC.out).below B2) (by have := HLEN.out; have := HK.out; simp; omega) B2.size ?_
                  intro v3 w3 ho3 hg3 hb3
                  rw [EX.out] at ho3
                  have B3 := B2.trans hb3
                  have hx3 := (B3.cell (p := ⟨x, 0, none⟩) HX.out.lt).trans (HX.out.cell 0)
                  have X3 := HX.out.below B3 HX.out.lt
                  have fx3 := X3.frozen 0
                  refine hK.out _ _ (fun _ => hx3) ?_
                  clear hK K
                  try simp only [Act.put, List.setIfInBounds_toArray, List.set_cons_zero, List.set_cons_succ]
                  refine upToLast.next (rs := [22]) (by kernel_rfl) (by simp) ?_
                  refine (each1.cons rfl (fun K hK => ?_) each1.nil)
                  go_simp
                  refine hK.out _ _ (fun _ => hx3) ?_
                  clear hK K
                  try simp only [Act.put, List.setIfInBounds_toArray, List.set_cons_zero, List.set_cons_succ]
                  refine upToLast.next (rs := [23]) (by kernel_rfl) (by simp) ?_
                  refine (each1.cons rfl (fun K hK => ?_) each1.nil)
                  go_simp
                  refine hK.out _ _ (fun _ => hx3) ?_
                  clear hK K
                  try simp only [Act.put, List.setIfInBounds_toArray, List.set_cons_zero, List.set_cons_succ]
                  refine upToLast.next (rs := [24]) (by kernel_rfl) (by simp) ?_
                  refine (each1.cons rfl (fun K hK => ?_) each1.nil)
                  obtain ⟨A3, c3, rfl, hr3⟩ := own_slice ho3
                  go_simp
                  obtain ⟨g', hRf, hgn⟩ := Rf.made X3 (base := w0.heap.size) HX.out.lt ho3
                  have o1 : Only (fun k => k = x) wr w3 := Only.below ((HO.out.below wr.heap.size).trans (B3.mono (Nat.le_of_eq (by rw [HO.out.same])))) _
                  have o2 : Only (fun k => k = x) wr (w3.setCell ⟨x, 0, none⟩ (.slice A3 (ins L ⟨p, n, v⟩).length c3)) := o1.setCell (p := ⟨x, 0, none⟩) (fun _ => rfl) _
                  have NX : NextR wr (w3.setCell ⟨x, 0, none⟩ (.slice A3 (ins L ⟨p, n, v⟩).length c3)) x g g' (ins L ⟨p, n, v⟩) := ⟨hRf, .inr ⟨by rw [HO.out.same] at hgn; exact hgn, by rw [length_ins]; omega⟩, o2⟩
                  have HNX := Lib.hid NX
                  clear NX hRf
                  refine hK.out _ _ (fun h => absurd rfl h) ?_
                  clear hK K
                  try simp only [Act.put, List.setIfInBounds_toArray, List.set_cons_zero, List.set_cons_succ]
                  refine upToLast.done (by kernel_rfl) ?_ _
                  go_wp2_with fail
                  all_goals go_ret
                  all_goals exact ⟨rfl, g', HNX.out⟩
            · have EX := Lib.hid (ST.out (by rw [kl_iff]; simp only; omega))
              have HK : Hid (k ≤ L.length) := Lib.hid hk'
              clear GO ST
              go_wp2_with fail
              have hkc : k ≤ c := by have := HK.out; have := HC.out; omega
              have hkl2 : k ≤ L.length := HK.out
              refine wp_region_last (S := fun w' => w'.cell? ⟨x, 0, none⟩ = some (.slice (some ad) L.length c)) 24 (by kernel_rfl) ?_
              obtain ⟨w0, hw0⟩ : ∃ w0, w0 = wr.drew := ⟨_, rfl⟩
              have hHeld : w0.cell? ⟨x, 0, none⟩ = some (.slice (some ad) L.length c) := by rw [hw0]; exact hx
              rw [← hw0]
              have HX : Hid (Blk w0 x 30 #[.slice (some ad) L.length c]) := Lib.hid (by rw [hw0]; exact HB.out.drew)
              have HR : Hid (Reads w0 w0.heap.size 3 (some ad) L.length (rts L)) := Lib.hid (by rw [hw0]; exact HRD.out.drew)
              have HO : Hid (Drew wr w0) := Lib.hid (by rw [hw0]; exact ⟨1, rfl⟩)
              clear hw0 hx
              refine upToLast.take (i := 0) (oi := ⟨some 64, _, _, _, _, _⟩) (v := ?_) rfl (by kernel_rfl) (by kernel_rfl) (by kernel_rfl) (by kernel_rfl) (fun _ _ _ h => h) (by decide) (Or.inl ⟨by rfl, ?_⟩) hHeld ?_
              rotate_left 1
              · (intro w hSw; (try dsimp only at hSw); go_simp; try with_reducible rfl)
              try simp only [Act.put, List.setIfInBounds_toArray, List.set_cons_zero, List.set_cons_succ]
              refine upToLast.take (i := 2) (oi := ⟨some 66, _, _, _, _, _⟩) (v := ?_) rfl (by kernel_rfl) (by kernel_rfl) (by kernel_rfl) (by kernel_rfl) (fun _ _ _ h => h) (by decide) (Or.inl ⟨by rfl, ?_⟩) hHeld ?_
              rotate_left 1
              · (intro w hSw; (try dsimp only at hSw); go_simp; try with_reducible rfl)
              try simp only [Act.put, List.setIfInBounds_toArray, List.set_cons_zero, List.set_cons_succ]
              refine upToLast.take (i := 3) (oi := ⟨some 67, _, _, _, _, _⟩) (v := ?_) rfl (by kernel_rfl) (by kernel_rfl) (by kernel_rfl) (by kernel_rfl) (fun _ _ _ h => h) (by decide) (Or.inl ⟨by rfl, ?_⟩) hHeld ?_
              rotate_left 1
              · (intro w hSw; (try dsimp only at hSw); go_simp; try with_reducible rfl)
              try simp only [Act.put, List.setIfInBounds_toArray, List.set_cons_zero, List.set_cons_succ]
              refine upToLast.take (i := 4) (oi := ⟨some 68, _, _, _, _, _⟩) (v := ?_) rfl (by kernel_rfl) (by kernel_rfl) (by kernel_rfl) (by kernel_rfl) (fun _ _ _ h => h) (by decide) (Or.inl ⟨by rfl, ?_⟩) hHeld ?_
              rotate_left 1
              · (intro w hSw; (try dsimp only at hSw); go_simp; try with_reducible rfl)
              try simp only [Act.put, List.setIfInBounds_toArray, List.set_cons_zero, List.set_cons_succ]
              refine upToLast.take (i := 5) (oi := ⟨some 69, _, _, _, _, _⟩) (v := ?_) rfl (by kernel_rfl) (by kernel_rfl) (by kernel_rfl) (by kernel_rfl) (fun _ _ _ h => h) (by decide) (Or.inl ⟨by rfl, ?_⟩) hHeld ?_
              rotate_left 1
              · (intro w hSw; (try dsimp only at hSw); go_simp; try with_reducible rfl)
              try simp only [Act.put, List.setIfInBounds_toArray, List.set_cons_zero, List.set_cons_succ]
              refine upToLast.take (i := 6) (oi := ⟨some 70, _, _, _, _, _⟩) (v := ?_) rfl (by kernel_rfl) (by kernel_rfl) (by kernel_rfl) (by kernel_rfl) (fun _ _ _ h => h) (by decide) (Or.inl ⟨by rfl, ?_⟩) hHeld ?_
              rotate_left 1
              · (intro w hSw; (try dsimp only at hSw); go_simp; try with_reducible rfl)
              try simp only [Act.put, List.setIfInBounds_toArray, List.set_cons_zero, List.set_cons_succ]
              refine upToLast.take (i := 7) (oi := ⟨some 71, _, _, _, _, _⟩) (v := ?_) rfl (by kernel_rfl) (by kernel_rfl) (by kernel_rfl) (by kernel_rfl) (fun _ _ _ h => h) (by decide) (Or.inl ⟨by rfl, ?_⟩) hHeld ?_
              rotate_left 1
              · (intro w hSw; (try dsimp only at hSw); go_simp; try with_reducible rfl)
              try simp only [Act.put, List.setIfInBounds_toArray, List.set_cons_zero, List.set_cons_succ]
              refine upToLast.take (i := 9) (oi := ⟨some 73, _, _, _, _, _⟩) (v := ?_) rfl (by kernel_rfl) (by kernel_rfl) (by kernel_rfl) (by kernel_rfl) (fun _ _ _ h => h) (by decide) (Or.inl ⟨by rfl, ?_⟩) hHeld ?_
              rotate_left 1
              · (intro w hSw; (try dsimp only at hSw); go_simp; try with_reducible rfl)
              try simp only [Act.put, List.setIfInBounds_toArray, List.set_cons_zero, List.set_cons_succ]
              refine upToLast.take (i := 10) (oi := ⟨some 74, _, _, _, _, _⟩) (v := ?_) rfl (by kernel_rfl) (by kernel_rfl) (by kernel_rfl) (by kernel_rfl) (fun _ _ _ h => h) (by decide) (Or.inl ⟨by rfl, ?_⟩) hHeld ?_
              rotate_left 1
              · (intro w hSw; (try dsimp only at hSw); go_simp; try with_reducible rfl)
              try simp only [Act.put, List.setIfInBounds_toArray, List.set_cons_zero, List.set_cons_succ]
              refine upToLast.take (i := 11) (oi := ⟨some 75, _, _, _, _, _⟩) (v := ?_) rfl (by kernel_rfl) (by kernel_rfl) (by kernel_rfl) (by kernel_rfl) (fun _ _ _ h => h) (by decide) (Or.inl ⟨by rfl, ?_⟩) hHeld ?_
              rotate_left 1
              · (intro w hSw; (try dsimp only at hSw); go_simp; try with_reducible rfl)
              try simp only [Act.put, List.setIfInBounds_toArray, List.set_cons_zero, List.set_cons_succ]
              refine upToLast.take (i := 12) (oi := ⟨some 76, _, _, _, _, _⟩) (v := ?_) rfl (by kernel_rfl) (by kernel_rfl) (by kernel_rfl) (by kernel_rfl) (fun _ _ _ h => h) (by decide) (Or.inl ⟨by rfl, ?_⟩) hHeld ?_
              rotate_left 1
              · (intro w hSw; (try dsimp only at hSw); go_simp; try with_reducible rfl)
              try simp only [Act.put, List.setIfInBounds_toArray, List.set_cons_zero, List.set_cons_succ]
              refine upToLast.take (i := 15) (oi := ⟨some 79, _, _, _, _, _⟩) (v := ?_) rfl (by kernel_rfl) (by kernel_rfl) (by kernel_rfl) (by kernel_rfl) (fun _ _ _ h => h) (by decide) (Or.inl ⟨by rfl, ?_⟩) hHeld ?_
              rotate_left 1
              · (intro w hSw; (try dsimp only at hSw); go_simp; try with_reducible rfl)
              try simp only [Act.put, List.setIfInBounds_toArray, List.set_cons_zero, List.set_cons_succ]
              refine upToLast.take (i := 16) (oi := ⟨some 80, _, _, _, _, _⟩) (v := ?_) rfl (by kernel_rfl) (by kernel_rfl) (by kernel_rfl) (by kernel_rfl) (fun _ _ _ h => h) (by decide) (Or.inl ⟨by rfl, ?_⟩) hHeld ?_
              rotate_left 1
              · (intro w hSw; (try dsimp only at hSw); go_simp; try with_reducible rfl)
              try simp only [Act.put, List.setIfInBounds_toArray, List.set_cons_zero, List.set_cons_succ]
              refine upToLast.take (i := 17) (oi := ⟨some 81, _, _, _, _, _⟩) (v := ?_) rfl (by kernel_rfl) (by kernel_rfl) (by kernel_rfl) (by kernel_rfl) (fun _ _ _ h => h) (by decide) (Or.inl ⟨by rfl, ?_⟩) hHeld ?_
              rotate_left 1
              · (intro w hSw; (try dsimp only at hSw); go_simp; try with_reducible rfl)
              try simp only [Act.put, List.setIfInBounds_toArray, List.set_cons_zero, List.set_cons_succ]
              refine upToLast.take (i := 18) (oi := ⟨some 82, _, _, _, _, _⟩) (v := ?_) rfl (by kernel_rfl) (by kernel_rfl) (by kernel_rfl) (by kernel_rfl) (fun _ _ _ h => h) (by decide) (Or.inl ⟨by rfl, ?_⟩) hHeld ?_
              rotate_left 1
              · (intro w hSw; (try dsimp only at hSw); go_simp; try with_reducible rfl)
              try simp only [Act.put, List.setIfInBounds_toArray, List.set_cons_zero, List.set_cons_succ]
              refine upToLast.take (i := 19) (oi := ⟨some 83, _, _, _, _, _⟩) (v := ?_) rfl (by kernel_rfl) (by kernel_rfl) (by kernel_rfl) (by kernel_rfl) (fun _ _ _ h => h) (by decide) (Or.inl ⟨by rfl, ?_⟩) hHeld ?_
              rotate_left 1
              · (intro w hSw; (try dsimp only at hSw); go_simp; try with_reducible rfl)
              try simp only [Act.put, List.setIfInBounds_toArray, List.set_cons_zero, List.set_cons_succ]
              refine upToLast.take (i := 20) (oi := ⟨some 84, _, _, _, _, _⟩) (v := ?_) rfl (by kernel_rfl) (by kernel_rfl) (by kernel_rfl) (by kernel_rfl) (fun _ _ _ h => h) (by decide) (Or.inl ⟨by rfl, ?_⟩) hHeld ?_
              rotate_left 1
              · (intro w hSw; (try dsimp only at hSw); go_simp; try with_reducible rfl)
              try simp only [Act.put, List.setIfInBounds_toArray, List.set_cons_zero, List.set_cons_succ]
              refine upToLast.next (rs := [1, 13]) (by kernel_rfl) (by simp) ?_
              refine (each1.cons rfl (fun K hK => ?_) (each1.cons rfl (fun K hK => ?_) each1.nil))
              · go_simp
                refine hK.out _ _ (fun _ => (World.cell?_alloc_lt w0 _ _ HX.out.lt).trans (HX.out.cell 0)) ?_
                clear hK K
                try simp only [Act.put, List.setIfInBounds_toArray, List.set_cons_zero, List.set_cons_succ]
                refine upToLast.next (rs := [8, 13]) (by kernel_rfl) (by simp) ?_
                refine (each1.cons rfl (fun K hK => ?_) (each1.cons rfl (fun K hK => ?_) each1.nil))
                · refine step_app rfl (.tmp 65) (.tmp 71) rfl w0.heap.size (w0.alloc (.cells #[] 37)) (.slice (some ⟨w0.heap.size, 0, none⟩) 0 0) [] rfl (own_empty w0 (Nat.le_refl _)) w0.heap.size (some ad) k c (L.take k) rfl (((reads_take HR.out HK.out).alloc (Nat.le_refl _) _)) (by have := HK.out; simp; omega) (by simp) ?_
                  intro v1 w1 ho1 hg1 hb1
                  rw [List.nil_append] at ho1
                  have B1 : Below w0.heap.size w0 w1 := ((Below.refl _ _).alloc (Nat.le_refl _) _).trans hb1
                  refine hK.out _ _ (fun _ => (B1.cell (p := ⟨x, 0, none⟩) HX.out.lt).trans (HX.out.cell 0)) ?_
                  clear hK K
                  try simp only [Act.put, List.setIfInBounds_toArray, List.set_cons_zero, List.set_cons_succ]
                  refine upToLast.next (rs := [13]) (by kernel_rfl) (by simp) ?_
                  refine (each1.cons rfl (fun K hK => ?_) each1.nil)
                  go_simp
                  refine hK.out _ _ (fun _ => (World.cell?_alloc_lt w1 _ _ (Nat.lt_of_lt_of_le HX.out.lt B1.size)).trans ((B1.cell (p := ⟨x, 0, none⟩) HX.out.lt).trans (HX.out.cell 0))) ?_
                  clear hK K
                  try simp only [Act.put, List.setIfInBounds_toArray, List.set_cons_zero, List.set_cons_succ]
                  refine upToLast.next (rs := [14]) (by kernel_rfl) (by simp) ?_
                  refine (each1.cons rfl (fun K hK => ?_) each1.nil)
                  refine step_app rfl (.tmp 72) (.tmp 77) rfl w0.heap.size (w1.alloc (.cells #[.int .u32 p, .int .i64 n, .int .i64 v] 37)) v1 (L.take k) rfl (ho1.alloc _) (w1.alloc (.cells #[.int .u32 p, .int .i64 n, .int .i64 v] 37)).heap.size _ 1 1 [⟨p, n, v⟩] rfl (reads_one (Blk.new w1 37 _)) (by have := HLEN.out; rw [List.length_take]; simp; omega) (Nat.le_trans B1.size (by simp)) ?_
                  intro v2 w2 ho2 hg2 hb2
                  have B2 : Below w0.heap.size w0 w2 := (B1.alloc B1.size _).trans hb2
                  refine hK.out _ _ (fun _ => (B2.cell (p := ⟨x, 0, none⟩) HX.out.lt).trans (HX.out.cell 0)) ?_
                  clear hK K
                  try simp only [Act.put, List.setIfInBounds_toArray, List.set_cons_zero, List.set_cons_succ]
                  refine upToLast.next (rs := [21]) (by kernel_rfl) (by simp) ?_
                  refine (each1.cons rfl (fun K hK => ?_) each1.nil)
                  refine step_app rfl (.tmp 78) (.tmp 84) rfl w0.heap.size w2 v2 (L.take k ++ [⟨p, n, v⟩]) rfl ho2 w0.heap.size _ (L.length - k) _ (L.drop k) rfl ((reads_drop HR.out HK.out HC.out).below B2) (by have := HLEN.out; have := HK.out; simp; omega) B2.size ?_
                  intro v3 w3 ho3 hg3 hb3
                  rw [EX.out] at ho3
                  have B3 := B2.trans hb3
                  have hx3 := (B3.cell (p := ⟨x, 0, none⟩) HX.out.lt).trans (HX.out.cell 0)
                  have X3 := HX.out.below B3 HX.out.lt
                  have fx3 := X3.frozen 0
                  refine hK.out _ _ (fun _ => hx3) ?_
                  clear hK K
                  try simp only [Act.put, List.setIfInBounds_toArray, List.set_cons_zero, List.set_cons_succ]
                  refine upToLast.next (rs := [22]) (by kernel_rfl) (by simp) ?_
                  refine (each1.cons rfl (fun K hK => ?_) each1.nil)
                  go_simp
                  refine hK.out _ _ (fun _ => hx3) ?_
                  clear hK K
                  try simp only [Act.put, List.setIfInBounds_toArray, List.set_cons_zero, List.set_cons_succ]
                  refine upToLast.next (rs := [23]) (by kernel_rfl) (by simp) ?_
                  refine (each1.cons rfl (fun K hK => ?_) each1.nil)
                  go_simp
                  refine hK.out _ _ (fun _ => hx3) ?_
                  clear hK K
                  try simp only [Act.put, List.setIfInBounds_toArray, List.set_cons_zero, List.set_cons_succ]
                  refine upToLast.next (rs := [24]) (by kernel_rfl) (by simp) ?_
                  refine (each1.cons rfl (fun K hK => ?_) each1.nil)
                  obtain ⟨A3, c3, rfl, hr3⟩ := own_slice ho3
                  go_simp
                  obtain ⟨g', hRf, hgn⟩ := Rf.made X3 (base := w0.heap.size) HX.out.lt ho3
                  have o1 : Only (fun k => k = x) wr w3 := Only.below ((HO.out.below wr.heap.size).trans (B3.mono (Nat.le_of_eq (by rw [HO.out.same])))) _
                  have o2 : Only (fun k => k = x) wr (w3.setCell ⟨x, 0, none⟩ (.slice A3 (ins L ⟨p, n, v⟩).length c3)) := o1.setCell (p := ⟨x, 0, none⟩) (fun _ => rfl) _
                  have NX : NextR wr (w3.setCell ⟨x, 0, none⟩ (.slice A3 (ins L ⟨p, n, v⟩).length c3)) x g g' (ins L ⟨p, n, v⟩) := ⟨hRf, .inr ⟨by rw [HO.out.same] at hgn; exact hgn, by rw [length_ins]; omega⟩, o2⟩
                  have HNX := Lib.hid NX
                  clear NX hRf
                  refine hK.out _ _ (fun h => absurd rfl h) ?_
                  clear hK K
                  try simp only [Act.put, List.setIfInBounds_toArray, List.set_cons_zero, List.set_cons_succ]
                  refine upToLast.done (by kernel_rfl) ?_ _
                  go_wp2_with fail
                  all_goals go_ret
                  all_goals exact ⟨rfl, g', HNX.out⟩
                · go_simp
                  refine hK.out _ _ (fun _ => (World.cell?_alloc_lt _ _ _ (by have := HX.out.lt; simp; omega)).trans ((World.cell?_alloc_lt w0 _ _ HX.out.lt).trans (HX.out.cell 0))) ?_
                  clear hK K
                  try simp only [Act.put, List.setIfInBounds_toArray, List.set_cons_zero, List.set_cons_succ]
                  refine upToLast.next (rs := [8]) (by kernel_rfl) (by simp) ?_
                  refine (each1.cons rfl (fun K hK => ?_) each1.nil)
                  refine step_app rfl (.tmp 65) (.tmp 71) rfl w0.heap.size ((w0.alloc (.cells #[] 37)).alloc (.cells #[.int .u32 p, .int .i64 n, .int .i64 v] 37)) (.slice (some ⟨w0.heap.size, 0, none⟩) 0 0) [] rfl ((own_empty w0 (Nat.le_refl _)).alloc _) w0.heap.size (some ad) k c (L.take k) rfl ((((reads_take HR.out HK.out).alloc (Nat.le_refl _) _).alloc (by simp) _)) (by have := HK.out; simp; omega) (by simp; omega) ?_
                  intro v1 w1 ho1 hg1 hb1
                  rw [List.nil_append] at ho1
                  have B1 : Below w0.heap.size w0 w1 := (((Below.refl _ _).alloc (Nat.le_refl _) _).alloc (by simp) _).trans hb1
                  have KL0 : Blk ((w0.alloc (.cells #[] 37)).alloc (.cells #[.int .u32 p, .int .i64 n, .int .i64 v] 37)) (w0.heap.size + 1) 37 #[.int .u32 p, .int .i64 n, .int .i64 v] := by have := Blk.new (w0.alloc (.cells #[] 37)) 37 #[.int .u32 p, .int .i64 n, .int .i64 v]; rwa [World.size_alloc] at this
                  have KL : Blk w1 (w0.heap.size + 1) 37 #[.int .u32 p, .int .i64 n, .int .i64 v] := KL0.grown hg1 (by simp [Value.ownBlock])
                  refine hK.out _ _ (fun _ => (B1.cell (p := ⟨x, 0, none⟩) HX.out.lt).trans (HX.out.cell 0)) ?_
                  clear hK K
                  try simp only [Act.put, List.setIfInBounds_toArray, List.set_cons_zero, List.set_cons_succ]
                  refine upToLast.next (rs := [14]) (by kernel_rfl) (by simp) ?_
                  refine (each1.cons rfl (fun K hK => ?_) each1.nil)
                  refine step_app rfl (.tmp 72) (.tmp 77) rfl w0.heap.size (w1) v1 (L.take k) rfl (ho1) (w1).heap.size _ 1 1 [⟨p, n, v⟩] rfl (reads_one KL) (by have := HLEN.out; rw [List.length_take]; simp; omega) (B1.size) ?_
                  intro v2 w2 ho2 hg2 hb2
                  have B2 : Below w0.heap.size w0 w2 := B1.trans hb2
                  refine hK.out _ _ (fun _ => (B2.cell (p := ⟨x, 0, none⟩) HX.out.lt).trans (HX.out.cell 0)) ?_
                  clear hK K
                  try simp only [Act.put, List.setIfInBounds_toArray, List.set_cons_zero, List.set_cons_succ]
                  refine upToLast.next (rs := [21]) (by kernel_rfl) (by simp) ?_
                  refine (each1.cons rfl (fun K hK => ?_) each1.nil)
                  refine step_app rfl (.tmp 78) (.tmp 84) rfl w0.heap.size w2 v2 (L.take k ++ [⟨p, n, v⟩]) rfl ho2 w0.heap.size _ (L.length - k) _ (L.drop k) rfl ((reads_drop HR.out HK.out HC.out).below B2) (by have := HLEN.out; have := HK.out; simp; omega) B2.size ?_
                  intro v3 w3 ho3 hg3 hb3
                  rw [EX.out] at ho3
                  have B3 := B2.trans hb3
                  have hx3 := (B3.cell (p := ⟨x, 0, none⟩) HX.out.lt).trans (HX.out.cell 0)
                  have X3 := HX.out.below B3 HX.out.lt
                  have fx3 := X3.frozen 0
                  refine hK.out _ _ (fun _ => hx3) ?_
                  clear hK K
                  try simp only [Act.put, List.setIfInBounds_toArray, List.set_cons_zero, List.set_cons_succ]
                  refine upToLast.next (rs := [22]) (by kernel_rfl) (by simp) ?_
                  refine (each1.cons rfl (fun K hK => ?_) each1.nil)
                  go_simp
                  refine hK.out _ _ (fun _ => hx3) ?_
                  clear hK K
                  try simp only [Act.put, List.setIfInBounds_toArray, List.set_cons_zero, List.set_cons_succ]
                  refine upToLast.next (rs := [23]) (by kernel_rfl) (by simp) ?_
                  refine (each1.cons rfl (fun K hK => ?_) each1.nil)
                  go_simp
                  refine hK.out _ _ (fun _ => hx3) ?_
                  clear hK K
                  try simp only [Act.put, List.setIfInBounds_toArray, List.set_cons_zero, List.set_cons_succ]
                  refine upToLast.next (rs := [24]) (by kernel_rfl) (by simp) ?_
                  refine (each1.cons rfl (fun K hK => ?_) each1.nil)
                  obtain ⟨A3, c3, rfl, hr3⟩ := own_slice ho3
                  go_simp
                  obtain ⟨g', hRf, hgn⟩ := Rf.made X3 (base := w0.heap.size) HX.out.lt ho3
                  have o1 : Only (fun k => k = x) wr w3 := Only.below ((HO.out.below wr.heap.size).trans (B3.mono (Nat.le_of_eq (by rw [HO.out.same])))) _
                  have o2 : Only (fun k => k = x) wr (w3.setCell ⟨x, 0, none⟩ (.slice A3 (ins L ⟨p, n, v⟩).length c3)) := o1.setCell (p := ⟨x, 0, none⟩) (fun _ => rfl) _
                  have NX : NextR wr (w3.setCell ⟨x, 0, none⟩ (.slice A3 (ins L ⟨p, n, v⟩).length c3)) x g g' (ins L ⟨p, n, v⟩) := ⟨hRf, .inr ⟨by rw [HO.out.same] at hgn; exact hgn, by rw [length_ins]; omega⟩, o2⟩
                  have HNX := Lib.hid NX
                  clear NX hRf
                  refine hK.out _ _ (fun h => absurd rfl h) ?_
                  clear hK K
                  try simp only [Act.put, List.setIfInBounds_toArray, List.set_cons_zero, List.set_cons_succ]
                  refine upToLast.done (by kernel_rfl) ?_ _
                  go_wp2_with fail
                  all_goals go_ret
                  all_goals exact ⟨rfl, g', HNX.out⟩
              · go_simp
                refine hK.out _ _ (fun _ => (World.cell?_alloc_lt w0 _ _ HX.out.lt).trans (HX.out.cell 0)) ?_
                clear hK K
                try simp only [Act.put, List.setIfInBounds_toArray, List.set_cons_zero, List.set_cons_succ]
                refine upToLast.next (rs := [1]) (by kernel_rfl) (by simp) ?_
                refine (each1.cons rfl (fun K hK => ?_) each1.nil)
                go_simp
                refine hK.out _ _ (fun _ => (World.cell?_alloc_lt _ _ _ (by have := HX.out.lt; simp; omega)).trans ((World.cell?_alloc_lt w0 _ _ HX.out.lt).trans (HX.out.cell 0))) ?_
                clear hK K
                try simp only [Act.put, List.setIfInBounds_toArray, List.set_cons_zero, List.set_cons_succ]
                refine upToLast.next (rs := [8]) (by kernel_rfl) (by simp) ?_
                refine (each1.cons rfl (fun K hK => ?_) each1.nil)
                refine step_app rfl (.tmp 65) (.tmp 71) rfl w0.heap.size ((w0.alloc (.cells #[.int .u32 p, .int .i64 n, .int .i64 v] 37)).alloc (.cells #[] 37)) (.slice (some ⟨w0.heap.size + 1, 0, none⟩) 0 0) [] rfl (by have := own_empty (w0.alloc (.cells #[.int .u32 p, .int .i64 n, .int .i64 v] 37)) (B := w0.heap.size) (by simp); rwa [World.size_alloc] at this) w0.heap.size (some ad) k c (L.take k) rfl ((((reads_take HR.out HK.out).alloc (Nat.le_refl _) _).alloc (by simp) _)) (by have := HK.out; simp; omega) (by simp; omega) ?_
                intro v1 w1 ho1 hg1 hb1
                rw [List.nil_append] at ho1
                have B1 : Below w0.heap.size w0 w1 := (((Below.refl _ _).alloc (Nat.le_refl _) _).alloc (by simp) _).trans hb1
                have KL0 : Blk ((w0.alloc (.cells #[.int .u32 p, .int .i64 n, .int .i64 v] 37)).alloc (.cells #[] 37)) w0.heap.size 37 #[.int .u32 p, .int .i64 n, .int .i64 v] := (Blk.new w0 37 _).alloc _
                have KL : Blk w1 w0.heap.size 37 #[.int .u32 p, .int .i64 n, .int .i64 v] := KL0.grown hg1 (by simp [Value.ownBlock])
                refine hK.out _ _ (fun _ => (B1.cell (p := ⟨x, 0, none⟩) HX.out.lt).trans (HX.out.cell 0)) ?_
                clear hK K
                try simp only [Act.put, List.setIfInBounds_toArray, List.set_cons_zero, List.set_cons_succ]
                refine upToLast.next (rs := [14]) (by kernel_rfl) (by simp) ?_
                refine (each1.cons rfl (fun K hK => ?_) each1.nil)
                refine step_app rfl (.tmp 72) (.tmp 77) rfl w0.heap.size (w1) v1 (L.take k) rfl (ho1) (w1).heap.size _ 1 1 [⟨p, n, v⟩] rfl (reads_one KL) (by have := HLEN.out; rw [List.length_take]; simp; omega) (B1.size) ?_
                intro v2 w2 ho2 hg2 hb2
                have B2 : Below w0.heap.size w0 w2 := B1.trans hb2
                refine hK.out _ _ (fun _ => (B2.cell (p := ⟨x, 0, none⟩) HX.out.lt).trans (HX.out.cell 0)) ?_
                clear hK K
                try simp only [Act.put, List.setIfInBounds_toArray, List.set_cons_zero, List.set_cons_succ]
                refine upToLast.next (rs := [21]) (by kernel_rfl) (by simp) ?_
                refine (each1.cons rfl (fun K hK => ?_) each1.nil)
                refine step_app rfl (.tmp 78) (.tmp 84) rfl w0.heap.size w2 v2 (L.take k ++ [⟨p, n, v⟩]) rfl ho2 w0.heap.size _ (L.length - k) _ (L.drop k) rfl ((reads_drop HR.out HK.out HC.out).below B2) (by have := HLEN.out; have := HK.out; simp; omega) B2.size ?_
                intro v3 w3 ho3 hg3 hb3
                rw [EX.out] at ho3
                have B3 := B2.trans hb3
                have hx3 := (B3.cell (p := ⟨x, 0, none⟩) HX.out.lt).trans (HX.out.cell 0)
                have X3 := HX.out.below B3 HX.out.lt
                have fx3 := X3.frozen 0
                refine hK.out _ _ (fun _ => hx3) ?_
                clear hK K
                try simp only [Act.put, List.setIfInBounds_toArray, List.set_cons_zero, List.set_cons_succ]
                refine upToLast.next (rs := [22]) (by kernel_rfl) (by simp) ?_
                refine (each1.cons rfl (fun K hK => ?_) each1.nil)
                go_simp
                refine hK.out _ _ (fun _ => hx3) ?_
                clear hK K
                try simp only [Act.put, List.setIfInBounds_toArray, List.set_cons_zero, List.set_cons_succ]
                refine upToLast.next (rs := [23]) (by kernel_rfl) (by simp) ?_
                refine (each1.cons rfl (fun K hK => ?_) each1.nil)
                go_simp
                refine hK.out _ _ (fun _ => hx3) ?_
                clear hK K
                try simp only [Act.put, List.setIfInBounds_toArray, List.set_cons_zero, List.set_cons_succ]
                refine upToLast.next (rs := [24]) (by kernel_rfl) (by simp) ?_
                refine (each1.cons rfl (fun K hK => ?_) each1.nil)
                obtain ⟨A3, c3, rfl, hr3⟩ := own_slice ho3
                go_simp
                obtain ⟨g', hRf, hgn⟩ := Rf.made X3 (base := w0.heap.size) HX.out.lt ho3
                have o1 : Only (fun k => k = x) wr w3 := Only.below ((HO.out.below wr.heap.size).trans (B3.mono (Nat.le_of_eq (by rw [HO.out.same])))) _
                have o2 : Only (fun k => k = x) wr (w3.setCell ⟨x, 0, none⟩ (.slice A3 (ins L ⟨p, n, v⟩).length c3)) := o1.setCell (p := ⟨x, 0, none⟩) (fun _ => rfl) _
                have NX : NextR wr (w3.setCell ⟨x, 0, none⟩ (.slice A3 (ins L ⟨p, n, v⟩).length c3)) x g g' (ins L ⟨p, n, v⟩) := ⟨hRf, .inr ⟨by rw [HO.out.same] at hgn; exact hgn, by rw [length_ins]; omega⟩, o2⟩
                have HNX := Lib.hid NX
                clear NX hRf
                refine hK.out _ _ (fun h => absurd rfl h) ?_
                clear hK K
                try simp only [Act.put, List.setIfInBounds_toArray, List.set_cons_zero, List.set_cons_succ]
                refine upToLast.done (by kernel_rfl) ?_ _
                go_wp2_with fail
                all_goals go_ret
                all_goals exact ⟨rfl, g', HNX.out⟩
        · obtain rfl : k = L.length := by omega
          have EX : Hid (L.take L.length ++ [⟨p, n, v⟩] ++ L.drop L.length = ins L ⟨p, n, v⟩) := Lib.hid (by
            have hW := HW.out
            rw [List.drop_length] at hW ⊢
            simp only [List.takeWhile_nil, List.dropWhile_nil, List.append_nil] at hW ⊢
            unfold ins
            rw [← hW.1, ← hW.2])
          have HK : Hid (L.length ≤ L.length) := Lib.hid (Nat.le_refl _)
          go_wp2_with fail
          have hkc : L.length ≤ c := by have := HK.out; have := HC.out; omega
          have hkl2 : L.length ≤ L.length := HK.out
          refine wp_region_last (S := fun w' => w'.cell? ⟨x, 0, none⟩ = some (.slice A L.length c)) 24 (by kernel_rfl) ?_
          obtain ⟨w0, hw0⟩ : ∃ w0, w0 = wr.drew := ⟨_, rfl⟩
          have hHeld : w0.cell? ⟨x, 0, none⟩ = some (.slice A L.length c) := by rw [hw0]; exact hx
          rw [← hw0]
          have HX : Hid (Blk w0 x 30 #[.slice A L.length c]) := Lib.hid (by rw [hw0]; exact HB.out.drew)
          have HR : Hid (Reads w0 w0.heap.size 3 A L.length (rts L)) := Lib.hid (by rw [hw0]; exact HRD.out.drew)
          have HO : Hid (Drew wr w0) := Lib.hid (by rw [hw0]; exact ⟨1, rfl⟩)
          clear hw0 hx
          refine upToLast.take (i := 0) (oi := ⟨some 64, _, _, _, _, _⟩) (v := ?_) rfl (by kernel_rfl) (by kernel_rfl) (by kernel_rfl) (by kernel_rfl) (fun _ _ _ h => h) (by decide) (Or.inl ⟨by rfl, ?_⟩) hHeld ?_
          rotate_left 1
          · (intro w hSw; (try dsimp only at hSw); go_simp; try with_reducible rfl)
          try simp only [Act.put, List.setIfInBounds_toArray, List.set_cons_zero, List.set_cons_succ]
          refine upToLast.take (i := 2) (oi := ⟨some 66, _, _, _, _, _⟩) (v := ?_) rfl (by kernel_rfl) (by kernel_rfl) (by kernel_rfl) (by kernel_rfl) (fun _ _ _ h => h) (by decide) (Or.inl ⟨by rfl, ?_⟩) hHeld ?_
          rotate_left 1
          · (intro w hSw; (try dsimp only at hSw); go_simp; try with_reducible rfl)
          try simp only [Act.put, List.setIfInBounds_toArray, List.set_cons_zero, List.set_cons_succ]
          refine upToLast.take (i := 3) (oi := ⟨some 67, _, _, _, _, _⟩) (v := ?_) rfl (by kernel_rfl) (by kernel_rfl) (by kernel_rfl) (by kernel_rfl) (fun _ _ _ h => h) (by decide) (Or.inl ⟨by rfl, ?_⟩) hHeld ?_
          rotate_left 1
          · (intro w hSw; (try dsimp only at hSw); go_simp; try with_reducible rfl)
          try simp only [Act.put, List.setIfInBounds_toArray, List.set_cons_zero, List.set_cons_succ]
          refine upToLast.take (i := 4) (oi := ⟨some 68, _, _, _, _, _⟩) (v := ?_) rfl (by kernel_rfl) (by kernel_rfl) (by kernel_rfl) (by kernel_rfl) (fun _ _ _ h => h) (by decide) (Or.inl ⟨by rfl, ?_⟩) hHeld ?_
          rotate_left 1
          · (intro w hSw; (try dsimp only at hSw); go_simp; try with_reducible rfl)
          try simp only [Act.put, List.setIfInBounds_toArray, List.set_cons_zero, List.set_cons_succ]
          refine upToLast.take (i := 5) (oi := ⟨some 69, _, _, _, _, _⟩) (v := ?_) rfl (by kernel_rfl) (by kernel_rfl) (by kernel_rfl) (by kernel_rfl) (fun _ _ _ h => h) (by decide) (Or.inl ⟨by rfl, ?_⟩) hHeld ?_
          rotate_left 1
          · (intro w hSw; (try dsimp only at hSw); go_simp; try with_reducible rfl)
          try simp only [Act.put, List.setIfInBounds_toArray, List.set_cons_zero, List.set_cons_succ]
          refine upToLast.take (i := 6) (oi := ⟨some 70, _, _, _, _, _⟩) (v := ?_) rfl (by kernel_rfl) (by kernel_rfl) (by kernel_rfl) (by kernel_rfl) (fun _ _ _ h => h) (by decide) (Or.inl ⟨by rfl, ?_⟩) hHeld ?_
          rotate_left 1
          · (intro w hSw; (try dsimp only at hSw); go_simp; try with_reducible rfl)
          try simp only [Act.put, List.setIfInBounds_toArray, List.set_cons_zero, List.set_cons_succ]
          refine upToLast.take (i := 7) (oi := ⟨some 71, _, _, _, _, _⟩) (v := ?_) rfl (by kernel_rfl) (by kernel_rfl) (by kernel_rfl) (by kernel_rfl) (fun _ _ _ h => h) (by decide) (Or.inl ⟨by rfl, ?_⟩) hHeld ?_
          rotate_left 1
          · (intro w hSw; (try dsimp only at hSw); go_simp; try with_reducible rfl)
          try simp only [Act.put, List.setIfInBounds_toArray, List.set_cons_zero, List.set_cons_succ]
          refine upToLast.take (i := 9) (oi := ⟨some 73, _, _, _, _, _⟩) (v := ?_) rfl (by kernel_rfl) (by kernel_rfl) (by kernel_rfl) (by kernel_rfl) (fun _ _ _ h => h) (by decide) (Or.inl ⟨by rfl, ?_⟩) hHeld ?_
          rotate_left 1
          · (intro w hSw; (try dsimp only at hSw); go_simp; try with_reducible rfl)
          try simp only [Act.put, List.setIfInBounds_toArray, List.set_cons_zero, List.set_cons_succ]
          refine upToLast.take (i := 10) (oi := ⟨some 74, _, _, _, _, _⟩) (v := ?_) rfl (by kernel_rfl) (by kernel_rfl) (by kernel_rfl) (by kernel_rfl) (fun _ _ _ h => h) (by decide) (Or.inl ⟨by rfl, ?_⟩) hHeld ?_
          rotate_left 1
          · (intro w hSw; (try dsimp only at hSw); go_simp; try with_reducible rfl)
          try simp only [Act.put, List.setIfInBounds_toArray, List.set_cons_zero, List.set_cons_succ]
          refine upToLast.take (i := 11) (oi := ⟨some 75, _, _, _, _, _⟩) (v := ?_) rfl (by kernel_rfl) (by kernel_rfl) (by kernel_rfl) (by kernel_rfl) (fun _ _ _ h => h) (by decide) (Or.inl ⟨by rfl, ?_⟩) hHeld ?_
          rotate_left 1
          · (intro w hSw; (try dsimp only at hSw); go_simp; try with_reducible rfl)
          try simp only [Act.put, List.setIfInBounds_toArray, List.set_cons_zero, List.set_cons_succ]
          refine upToLast.take (i := 12) (oi := ⟨some 76, _, _, _, _, _⟩) (v := ?_) rfl (by kernel_rfl) (by kernel_rfl) (by kernel_rfl) (by kernel_rfl) (fun _ _ _ h => h) (by decide) (Or.inl ⟨by rfl, ?_⟩) hHeld ?_
          rotate_left 1
          · (intro w hSw; (try dsimp only at hSw); go_simp; try with_reducible rfl)
          try simp only [Act.put, List.setIfInBounds_toArray, List.set_cons_zero, List.set_cons_succ]
          refine upToLast.take (i := 15) (oi := ⟨some 79, _, _, _, _, _⟩) (v := ?_) rfl (by kernel_rfl) (by kernel_rfl) (by kernel_rfl) (by kernel_rfl) (fun _ _ _ h => h) (by decide) (Or.inl ⟨by rfl, ?_⟩) hHeld ?_
          rotate_left 1
          · (intro w hSw; (try dsimp only at hSw); go_simp; try with_reducible rfl)
          try simp only [Act.put, List.setIfInBounds_toArray, List.set_cons_zero, List.set_cons_succ]
          refine upToLast.take (i := 16) (oi := ⟨some 80, _, _, _, _, _⟩) (v := ?_) rfl (by kernel_rfl) (by kernel_rfl) (by kernel_rfl) (by kernel_rfl) (fun _ _ _ h => h) (by decide) (Or.inl ⟨by rfl, ?_⟩) hHeld ?_
          rotate_left 1
          · (intro w hSw; (try dsimp only at hSw); go_simp; try with_reducible rfl)
          try simp only [Act.put, List.setIfInBounds_toArray, List.set_cons_zero, List.set_cons_succ]
          refine upToLast.take (i := 17) (oi := ⟨some 81, _, _, _, _, _⟩) (v := ?_) rfl (by kernel_rfl) (by kernel_rfl) (by kernel_rfl) (by kernel_rfl) (fun _ _ _ h => h) (by decide) (Or.inl ⟨by rfl, ?_⟩) hHeld ?_
          rotate_left 1
          · (intro w hSw; (try dsimp only at hSw); go_simp; try with_reducible rfl)
          try simp only [Act.put, List.setIfInBounds_toArray, List.set_cons_zero, List.set_cons_succ]
          refine upToLast.take (i := 18) (oi := ⟨some 82, _, _, _, _, _⟩) (v := ?_) rfl (by kernel_rfl) (by kernel_rfl) (by kernel_rfl) (by kernel_rfl) (fun _ _ _ h => h) (by decide) (Or.inl ⟨by rfl, ?_⟩) hHeld ?_
          rotate_left 1
          · (intro w hSw; (try dsimp only at hSw); go_simp; try with_reducible rfl)
          try simp only [Act.put, List.setIfInBounds_toArray, List.set_cons_zero, List.set_cons_succ]
          refine upToLast.take (i := 19) (oi := ⟨some 83, _, _, _, _, _⟩) (v := ?_) rfl (by kernel_rfl) (by kernel_rfl) (by kernel_rfl) (by kernel_rfl) (fun _ _ _ h => h) (by decide) (Or.inl ⟨by rfl, ?_⟩) hHeld ?_
          rotate_left 1
          · (intro w hSw; (try dsimp only at hSw); go_simp; try with_reducible rfl)
          try simp only [Act.put, List.setIfInBounds_toArray, List.set_cons_zero, List.set_cons_succ]
          refine upToLast.take (i := 20) (oi := ⟨some 84, _, _, _, _, _⟩) (v := ?_) rfl (by kernel_rfl) (by kernel_rfl) (by kernel_rfl) (by kernel_rfl) (fun _ _ _ h => h) (by decide) (Or.inl ⟨by rfl, ?_⟩) hHeld ?_
          rotate_left 1
          · (intro w hSw; (try dsimp only at hSw); go_simp; try with_reducible rfl)
          try simp only [Act.put, List.setIfInBounds_toArray, List.set_cons_zero, List.set_cons_succ]
          refine upToLast.next (rs := [1, 13]) (by kernel_rfl) (by simp) ?_
          refine (each1.cons rfl (fun K hK => ?_) (each1.cons rfl (fun K hK => ?_) each1.nil))
          · go_simp
            refine hK.out _ _ (fun _ => (World.cell?_alloc_lt w0 _ _ HX.out.lt).trans (HX.out.cell 0)) ?_
            clear hK K
            try simp only [Act.put, List.setIfInBounds_toArray, List.set_cons_zero, List.set_cons_succ]
            refine upToLast.next (rs := [8, 13]) (by kernel_rfl) (by simp) ?_
            refine (each1.cons rfl (fun K hK => ?_) (each1.cons rfl (fun K hK => ?_) each1.nil))
            · refine step_app rfl (.tmp 65) (.tmp 71) rfl w0.heap.size (w0.alloc (.cells #[] 37)) (.slice (some ⟨w0.heap.size, 0, none⟩) 0 0) [] rfl (own_empty w0 (Nat.le_refl _)) w0.heap.size A L.length c (L.take L.length) rfl (((reads_take HR.out HK.out).alloc (Nat.le_refl _) _)) (by have := HK.out; simp; omega) (by simp) ?_
              intro v1 w1 ho1 hg1 hb1
              rw [List.nil_append] at ho1
              have B1 : Below w0.heap.size w0 w1 := ((Below.refl _ _).alloc (Nat.le_refl _) _).trans hb1
              refine hK.out _ _ (fun _ => (B1.cell (p := ⟨x, 0, none⟩) HX.out.lt).trans (HX.out.cell 0)) ?_
              clear hK K
              try simp only [Act.put, List.setIfInBounds_toArray, List.set_cons_zero, List.set_cons_succ]
              refine upToLast.next (rs := [13]) (by kernel_rfl) (by simp) ?_
              refine (each1.cons rfl (fun K hK => ?_) each1.nil)
              go_simp
              refine hK.out _ _ (fun _ => (World.cell?_alloc_lt w1 _ _ (Nat.lt_of_lt_of_le HX.out.lt B1.size)).trans ((B1.cell (p := ⟨x, 0, none⟩) HX.out.lt).trans (HX.out.cell 0))) ?_
              clear hK K
              try simp only [Act.put, List.setIfInBounds_toArray, List.set_cons_zero, List.set_cons_succ]
              refine upToLast.next (rs := [14]) (by kernel_rfl) (by simp) ?_
              refine (each1.cons rfl (fun K hK => ?_) each1.nil)
              refine step_app rfl (.tmp 72) (.tmp 77) rfl w0.heap.size (w1.alloc (.cells #[.int .u32 p, .int .i64 n, .int .i64 v] 37)) v1 (L.take L.length) rfl (ho1.alloc _) (w1.alloc (.cells #[.int .u32 p, .int .i64 n, .int .i64 v] 37)).heap.size _ 1 1 [⟨p, n, v⟩] rfl (reads_one (Blk.new w1 37 _)) (by have := HLEN.out; rw [List.length_take]; simp; omega) (Nat.le_trans B1.size (by simp)) ?_
              intro v2 w2 ho2 hg2 hb2
              have B2 : Below w0.heap.size w0 w2 := (B1.alloc B1.size _).trans hb2
              refine hK.out _ _ (fun _ => (B2.cell (p := ⟨x, 0, none⟩) HX.out.lt).trans (HX.out.cell 0)) ?_
              clear hK K
              try simp only [Act.put, List.setIfInBounds_toArray, List.set_cons_zero, List.set_cons_succ]
              refine upToLast.next (rs := [21]) (by kernel_rfl) (by simp) ?_
              refine (each1.cons rfl (fun K hK => ?_) each1.nil)
              refine step_app rfl (.tmp 78) (.tmp 84) rfl w0.heap.size w2 v2 (L.take L.length ++ [⟨p, n, v⟩]) rfl ho2 w0.heap.size _ 0 _ (L.drop L.length) rfl (by have := (reads_drop HR.out HK.out HC.out).below B2; rwa [Nat.sub_self] at this) (by have := HLEN.out; have := HK.out; simp; omega) B2.size ?_
              intro v3 w3 ho3 hg3 hb3
              rw [EX.out] at ho3
              have B3 := B2.trans hb3
              have hx3 := (B3.cell (p := ⟨x, 0, none⟩) HX.out.lt).trans (HX.out.cell 0)
              have X3 := HX.out.below B3 HX.out.lt
              have fx3 := X3.frozen 0
              refine hK.out _ _ (fun _ => hx3) ?_
              clear hK K
              try simp only [Act.put, List.setIfInBounds_toArray, List.set_cons_zero, List.set_cons_succ]
              refine upToLast.next (rs := [22]) (by kernel_rfl) (by simp) ?_
              refine (each1.cons rfl (fun K hK => ?_) each1.nil)
              go_simp
              refine hK.out _ _ (fun _ => hx3) ?_
              clear hK K
              try simp only [Act.put, List.setIfInBounds_toArray, List.set_cons_zero, List.set_cons_succ]
              refine upToLast.next (rs := [23]) (by kernel_rfl) (by simp) ?_
              refine (each1.cons rfl (fun K hK => ?_) each1.nil)
              go_simp
              refine hK.out _ _ (fun _ => hx3) ?_
              clear hK K
              try simp only [Act.put, List.setIfInBounds_toArray, List.set_cons_zero, List.set_cons_succ]
              refine upToLast.next (rs := [24]) (by kernel_rfl) (by simp) ?_
              refine (each1.cons rfl (fun K hK => ?_) each1.nil)
              obtain ⟨A3, c3, rfl, hr3⟩ := own_slice ho3
              go_simp
              obtain ⟨g', hRf, hgn⟩ := Rf.made X3 (base := w0.heap.size) HX.out.lt ho3
              have o1 : Only (fun k => k = x) wr w3 := Only.below ((HO.out.below wr.heap.size).trans (B3.mono (Nat.le_of_eq (by rw [HO.out.same])))) _
              have o2 : Only (fun k => k = x) wr (w3.setCell ⟨x, 0, none⟩ (.slice A3 (ins L ⟨p, n, v⟩).length c3)) := o1.setCell (p := ⟨x, 0, none⟩) (fun _ => rfl) _
              have NX : NextR wr (w3.setCell ⟨x, 0, none⟩ (.slice A3 (ins L ⟨p, n, v⟩).length c3)) x g g' (ins L ⟨p, n, v⟩) := ⟨hRf, .inr ⟨by rw [HO.out.same] at hgn; exact hgn, by rw [length_ins]; omega⟩, o2⟩
              have HNX := Lib.hid NX
              clear NX hRf
              refine hK.out _ _ (fun h => absurd rfl h) ?_
              clear hK K
              try simp only [Act.put, List.setIfInBounds_toArray, List.set_cons_zero, List.set_cons_succ]
              refine upToLast.done (by kernel_rfl) ?_ _
              go_wp2_with fail
              all_goals go_ret
              all_goals exact ⟨rfl, g', HNX.out⟩
            · go_simp
              refine hK.out _ _ (fun _ => (World.cell?_alloc_lt _ _ _ (by have := HX.out.lt; simp; omega)).trans ((World.cell?_alloc_lt w0 _ _ HX.out.lt).trans (HX.out.cell 0))) ?_
              clear hK K
              try simp only [Act.put, List.setIfInBounds_toArray, List.set_cons_zero, List.set_cons_succ]
              refine upToLast.next (rs := [8]) (by kernel_rfl) (by simp) ?_
              refine (each1.cons rfl (fun K hK => ?_) each1.nil)
              refine step_app rfl (.tmp 65) (.tmp 71) rfl w0.heap.size ((w0.alloc (.cells #[] 37)).alloc (.cells #[.int .u32 p, .int .i64 n, .int .i64 v] 37)) (.slice (some ⟨w0.heap.size, 0, none⟩) 0 0) [] rfl ((own_empty w0 (Nat.le_refl _)).alloc _) w0.heap.size A L.length c (L.take L.length) rfl ((((reads_take HR.out HK.out).alloc (Nat.le_refl _) _).alloc (by simp) _)) (by have := HK.out; simp; omega) (by simp; omega) ?_
              intro v1 w1 ho1 hg1 hb1
              rw [List.nil_append] at ho1
              have B1 : Below w0.heap.size w0 w1 := (((Below.refl _ _).alloc (Nat.le_refl _) _).alloc (by simp) _).trans hb1
              have KL0 : Blk ((w0.alloc (.cells #[] 37)).alloc (.cells #[.int .u32 p, .int .i64 n, .int .i64 v] 37)) (w0.heap.size + 1) 37 #[.int .u32 p, .int .i64 n, .int .i64 v] := by have := Blk.new (w0.alloc (.cells #[] 37)) 37 #[.int .u32 p, .int .i64 n, .int .i64 v]; rwa [World.size_alloc] at this
              have KL : Blk w1 (w0.heap.size + 1) 37 #[.int .u32 p, .int .i64 n, .int .i64 v] := KL0.grown hg1 (by simp [Value.ownBlock])
              refine hK.out _ _ (fun _ => (B1.cell (p := ⟨x, 0, none⟩) HX.out.lt).trans (HX.out.cell 0)) ?_
              clear hK K
              try simp only [Act.put, List.setIfInBounds_toArray, List.set_cons_zero, List.set_cons_succ]
              refine upToLast.next (rs := [14]) (by kernel_rfl) (by simp) ?_
              refine (each1.cons rfl (fun K hK => ?_) each1.nil)
              refine step_app rfl (.tmp 72) (.tmp 77) rfl w0.heap.size (w1) v1 (L.take L.length) rfl (ho1) (w1).heap.size _ 1 1 [⟨p, n, v⟩] rfl (reads_one KL) (by have := HLEN.out; rw [List.length_take]; simp; omega) (B1.size) ?_
              intro v2 w2 ho2 hg2 hb2
              have B2 : Below w0.heap.size w0 w2 := B1.trans hb2
              refine hK.out _ _ (fun _ => (B2.cell (p := ⟨x, 0, none⟩) HX.out.lt).trans (HX.out.cell 0)) ?_
              clear hK K
              try simp only [Act.put, List.setIfInBounds_toArray, List.set_cons_zero, List.set_cons_succ]
              refine upToLast.next (rs := [21]) (by kernel_rfl) (by simp) ?_
              refine (each1.cons rfl (fun K hK => ?_) each1.nil)
              refine step_app rfl (.tmp 78) (.tmp 84) rfl w0.heap.size w2 v2 (L.take L.length ++ [⟨p, n, v⟩]) rfl ho2 w0.heap.size _ 0 _ (L.drop L.length) rfl (by have := (reads_drop HR.out HK.out HC.out).below B2; rwa [Nat.sub_self] at this) (by have := HLEN.out; have := HK.out; simp; omega) B2.size ?_
              intro v3 w3 ho3 hg3 hb3
              rw [EX.out] at ho3
              have B3 := B2.trans hb3
              have hx3 := (B3.cell (p := ⟨x, 0, none⟩) HX.out.lt).trans (HX.out.cell 0)
              have X3 := HX.out.below B3 HX.out.lt
              have fx3 := X3.frozen 0
              refine hK.out _ _ (fun _ => hx3) ?_
              clear hK K
              try simp only [Act.put, List.setIfInBounds_toArray, List.set_cons_zero, List.set_cons_succ]
              refine upToLast.next (rs := [22]) (by kernel_rfl) (by simp) ?_
              refine (each1.cons rfl (fun K hK => ?_) each1.nil)
              go_simp
              refine hK.out _ _ (fun _ => hx3) ?_
              clear hK K
              try simp only [Act.put, List.setIfInBounds_toArray, List.set_cons_zero, List.set_cons_succ]
              refine upToLast.next (rs := [23]) (by kernel_rfl) (by simp) ?_
              refine (each1.cons rfl (fun K hK => ?_) each1.nil)
              go_simp
              refine hK.out _ _ (fun _ => hx3) ?_
              clear hK K
              try simp only [Act.put, List.setIfInBounds_toArray, List.set_cons_zero, List.set_cons_succ]
              refine upToLast.next (rs := [24]) (by kernel_rfl) (by simp) ?_
              refine (each1.cons rfl (fun K hK => ?_) each1.nil)
              obtain ⟨A3, c3, rfl, hr3⟩ := own_slice ho3
              go_simp
              obtain ⟨g', hRf, hgn⟩ := Rf.made X3 (base := w0.heap.size) HX.out.lt ho3
              have o1 : Only (fun k => k = x) wr w3 := Only.below ((HO.out.below wr.heap.size).trans (B3.mono (Nat.le_of_eq (by rw [HO.out.same])))) _
              have o2 : Only (fun k => k = x) wr (w3.setCell ⟨x, 0, none⟩ (.slice A3 (ins L ⟨p, n, v⟩).length c3)) := o1.setCell (p := ⟨x, 0, none⟩) (fun _ => rfl) _
              have NX : NextR wr (w3.setCell ⟨x, 0, none⟩ (.slice A3 (ins L ⟨p, n, v⟩).length c3)) x g g' (ins L ⟨p, n, v⟩) := ⟨hRf, .inr ⟨by rw [HO.out.same] at hgn; exact hgn, by rw [length_ins]; omega⟩, o2⟩
              have HNX := Lib.hid NX
              clear NX hRf
              refine hK.out _ _ (fun h => absurd rfl h) ?_
              clear hK K
              try simp only [Act.put, List.setIfInBounds_toArray, List.set_cons_zero, List.set_cons_succ]
              refine upToLast.done (by kernel_rfl) ?_ _
              go_wp2_with fail
              all_goals go_ret
              all_goals exact ⟨rfl, g', HNX.out⟩
          · go_simp
            refine hK.out _ _ (fun _ => (World.cell?_alloc_lt w0 _ _ HX.out.lt).trans (HX.out.cell 0)) ?_
            clear hK K
            try simp only [Act.put, List.setIfInBounds_toArray, List.set_cons_zero, List.set_cons_succ]
            refine upToLast.next (rs := [1]) (by kernel_rfl) (by simp) ?_
            refine (each1.cons rfl (fun K hK => ?_) each1.nil)
            go_simp
            refine hK.out _ _ (fun _ => (World.cell?_alloc_lt _ _ _ (by have := HX.out.lt; simp; omega)).trans ((World.cell?_alloc_lt w0 _ _ HX.out.lt).trans (HX.out.cell 0))) ?_
            clear hK K
            try simp only [Act.put, List.setIfInBounds_toArray, List.set_cons_zero, List.set_cons_succ]
            refine upToLast.next (rs := [8]) (by kernel_rfl) (by simp) ?_
            refine (each1.cons rfl (fun K hK => ?_) each1.nil)
            refine step_app rfl (.tmp 65) (.tmp 71) rfl w0.heap.size ((w0.alloc (.cells #[.int .u32 p, .int .i64 n, .int .i64 v] 37)).alloc (.cells #[] 37)) (.slice (some ⟨w0.heap.size + 1, 0, none⟩) 0 0) [] rfl (by have := own_empty (w0.alloc (.cells #[.int .u32 p, .int .i64 n, .int .i64 v] 37)) (B := w0.heap.size) (by simp); rwa [World.size_alloc] at this) w0.heap.size A L.length c (L.take L.length) rfl ((((reads_take HR.out HK.out).alloc (Nat.le_refl _) _).alloc (by simp) _)) (by have := HK.out; simp; omega) (by simp; omega) ?_
            intro v1 w1 ho1 hg1 hb1
            rw [List.nil_append] at ho1
            have B1 : Below w0.heap.size w0 w1 := (((Below.refl _ _).alloc (Nat.le_refl _) _).alloc (by simp) _).trans hb1
            have KL0 : Blk ((w0.alloc (.cells #[.int .u32 p, .int .i64 n, .int .i64 v] 37)).alloc (.cells #[] 37)) w0.heap.size 37 #[.int .u32 p, .int .i64 n, .int .i64 v] := (Blk.new w0 37 _).alloc _
            have KL : Blk w1 w0.heap.size 37 #[.int .u32 p, .int .i64 n, .int .i64 v] := KL0.grown hg1 (by simp [Value.ownBlock])
            refine hK.out _ _ (fun _ => (B1.cell (p := ⟨x, 0, none⟩) HX.out.lt).trans (HX.out.cell 0)) ?_
            clear hK K
            try simp only [Act.put, List.setIfInBounds_toArray, List.set_cons_zero, List.set_cons_succ]
            refine upToLast.next (rs := [14]) (by kernel_rfl) (by simp) ?_
            refine (each1.cons rfl (fun K hK => ?_) each1.nil)
            refine step_app rfl (.tmp 72) (.tmp 77) rfl w0.heap.size (w1) v1 (L.take L.length) rfl (ho1) (w1).heap.size _ 1 1 [⟨p, n, v⟩] rfl (reads_one KL) (by have := HLEN.out; rw [List.length_take]; simp; omega) (B1.size) ?_
            intro v2 w2 ho2 hg2 hb2
            have B2 : Below w0.heap.size w0 w2 := B1.trans hb2
            refine hK.out _ _ (fun _ => (B2.cell (p := ⟨x, 0, none⟩) HX.out.lt).trans (HX.out.cell 0)) ?_
            clear hK K
            try simp only [Act.put, List.setIfInBounds_toArray, List.set_cons_zero, List.set_cons_succ]
            refine upToLast.next (rs := [21]) (by kernel_rfl) (by simp) ?_
            refine (each1.cons rfl (fun K hK => ?_) each1.nil)
            refine step_app rfl (.tmp 78) (.tmp 84) rfl w0.heap.size w2 v2 (L.take L.length ++ [⟨p, n, v⟩]) rfl ho2 w0.heap.size _ 0 _ (L.drop L.length) rfl (by have := (reads_drop HR.out HK.out HC.out).below B2; rwa [Nat.sub_self] at this) (by have := HLEN.out; have := HK.out; simp; omega) B2.size ?_
            intro v3 w3 ho3 hg3 hb3
            rw [EX.out] at ho3
            have B3 := B2.trans hb3
            have hx3 := (B3.cell (p := ⟨x, 0, none⟩) HX.out.lt).trans (HX.out.cell 0)
            have X3 := HX.out.below B3 HX.out.lt
            have fx3 := X3.frozen 0
            refine hK.out _ _ (fun _ => hx3) ?_
            clear hK K
            try simp only [Act.put, List.setIfInBounds_toArray, List.set_cons_zero, List.set_cons_succ]
            refine upToLast.next (rs := [22]) (by kernel_rfl) (by simp) ?_
            refine (each1.cons rfl (fun K hK => ?_) each1.nil)
            go_simp
            refine hK.out _ _ (fun _ => hx3) ?_
            clear hK K
            try simp only [Act.put, List.setIfInBounds_toArray, List.set_cons_zero, List.set_cons_succ]
            refine upToLast.next (rs := [23]) (by kernel_rfl) (by simp) ?_
            refine (each1.cons rfl (fun K hK => ?_) each1.nil)
            go_simp
            refine hK.out _ _ (fun _ => hx3) ?_
            clear hK K
            try simp only [Act.put, List.setIfInBounds_toArray, List.set_cons_zero, List.set_cons_succ]
            refine upToLast.next (rs := [24]) (by kernel_rfl) (by simp) ?_
            refine (each1.cons rfl (fun K hK => ?_) each1.nil)
            obtain ⟨A3, c3, rfl, hr3⟩ := own_slice ho3
            go_simp
            obtain ⟨g', hRf, hgn⟩ := Rf.made X3 (base := w0.heap.size) HX.out.lt ho3
            have o1 : Only (fun k => k = x) wr w3 := Only.below ((HO.out.below wr.heap.size).trans (B3.mono (Nat.le_of_eq (by rw [HO.out.same])))) _
            have o2 : Only (fun k => k = x) wr (w3.setCell ⟨x, 0, none⟩ (.slice A3 (ins L ⟨p, n, v⟩).length c3)) := o1.setCell (p := ⟨x, 0, none⟩) (fun _ => rfl) _
            have NX : NextR wr (w3.setCell ⟨x, 0, none⟩ (.slice A3 (ins L ⟨p, n, v⟩).length c3)) x g g' (ins L ⟨p, n, v⟩) := ⟨hRf, .inr ⟨by rw [HO.out.same] at hgn; exact hgn, by rw [length_ins]; omega⟩, o2⟩
            have HNX := Lib.hid NX
            clear NX hRf
            refine hK.out _ _ (fun h => absurd rfl h) ?_
            clear hK K
            try simp only [Act.put, List.setIfInBounds_toArray, List.set_cons_zero, List.set_cons_succ]
            refine upToLast.done (by kernel_rfl) ?_ _
            go_wp2_with fail
            all_goals go_ret
            all_goals exact ⟨rfl, g', HNX.out⟩

  · have hr : rightN p n = false := by simpa using hr
    have E : addC L p n = 1 := by unfold addC; rw [hr]; rfl
    have E2 : addL L p n v = L := by unfold addL; rw [E]; rfl
    rw [E, E2]
    rw [hr] at RT
    clear hr E E2 h
    go_enter Try.func10, Try.ntmps10
    go_wp2_with (first
      | (go_at_call 23; refine RT.out.mono ?_; rintro e w' ⟨rfl, rfl⟩))
    go_ret
    exact ⟨rfl, g, HF.out, .inl ⟨rfl, rfl⟩, Only.refl _ _⟩
end Go.Proofs.Ytlpnkfnmgcigbaa
