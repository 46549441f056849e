/- The law SumRight, walked. -/
import Derived.Test.YtgoegdagliapmaaBytes

namespace Go.Proofs.Ytgoegdagliapmaa
open Go.RowKit

theorem unguard {P : Program} {ops : Array Oper} {rest : List Oper} {o : Oper} {a : Act} {Q : Exit → Act → World → Prop} {w : World} (hw : Region.wanted o (yielded ops a.tmps) = true)
    (h : wpList P ops Q ({ o with guard := none } :: rest) a w) : wpList P ops Q (o :: rest) a w := by
  unfold wpList at h ⊢
  rw [if_pos (show Region.wanted { o with guard := none } (yielded ops a.tmps) = true from rfl)] at h
  rw [if_pos hw]
  exact h

theorem reads_take {w : World} {B n m : Nat} {A : Option Addr} {l : List Nat} (h : Reads w B 1 A n (bs l)) (hm : m ≤ n) : Reads w B 1 A m (bs (l.take m)) := by
  have hl : l.length = n := by have := h.1; simpa [bs] using this
  refine ⟨by simp [bs]; omega, fun h0 => ?_⟩
  obtain ⟨ad, e, hb, hc⟩ := h.2 (by omega)
  refine ⟨ad, e, hb, fun j u hu => hc j u ?_⟩
  unfold bs at hu ⊢
  rw [List.map_take] at hu
  have hj := (List.getElem?_eq_some_iff.1 hu).1
  rw [List.length_take] at hj
  rwa [List.getElem?_take_of_lt (by omega)] at hu
theorem getD_take_le {l : List Nat} (hl : ∀ k, l.getD k 0 ≤ 255) (m k : Nat) : (l.take m).getD k 0 ≤ 255 := by
  rw [List.getD_eq_getElem?_getD, List.getElem?_take]
  split
  · rw [← List.getD_eq_getElem?_getD]; exact hl k
  · simp

set_option maxHeartbeats 400000 in
theorem right_even (w : World) (a : Option Addr) (len cap : Nat) (l : List Nat) (hlen : l.length = len) (hr : Reads w w.heap.size 1 a len (bs l)) (hl : ∀ k, l.getD k 0 ≤ 255) (hreach : len ≤ 140737488351232) (he : len % 2 = 0) :
    Calls Try.prog 4 #[.slice a len cap] w fun e w' => e = .returned (.bool true) ∧ Below w.heap.size w w' := by
  obtain ⟨i0, hi, hz0, hz1, hz2⟩ := info_parts Try.info5
  have l1 := nrm_le (tot l len)
  have he2 : (((len : Int) % 2) == 1) = false := by simp; omega
  have HE := Lib.hid he
  clear he
  go_enter Try.func4, Try.ntmps4
  go_wp2_with fail
  refine (check_any a len cap l _ _ hr hl (by omega)).mono ?_
  rintro e w' ⟨rfl, rfl⟩
  go_wp2_with fail
  refine (lives_any w).mono ?_
  rintro e w1 ⟨rfl, hb1⟩
  have hr1 := (hr.below hb1).more hb1.size
  generalize hC : 65535 - nrm (tot l len) = C at *
  have hC1 : C ≤ 65535 := by omega
  have HC := Lib.hid hC
  clear hC hr
  go_wp2_with (first
    | (at_builtin; refine unguard (by rfl) ?_; refine wpList_append_copy rfl (.tmp 17) (.tmp 18) 22 rfl w1 5 i0 _ 1 1 Try.underlying22 hi hz0 hz1 hz2 rfl (by decide) rfl a len cap (bs l) rfl hr1 (bs_one l) (by unfold maxLen; omega) (by omega) ?_; intro A1 c1 w2 hown hr2 hb2)
    | (at_builtin; refine unguard (by rfl) ?_; refine wpList_append_any _ rfl (.tmp 19) (.tmp 25) 22 rfl w1.heap.size 5 i0 _ 1 1 Try.underlying22 hi hz0 hz1 hz2 rfl (by decide) (.slice A1 len c1) len (bs l) rfl (hown.alloc _) (w2.heap.size + 1) (some ⟨w2.heap.size, 0, none⟩) 2 2 (bs [C / 256, C % 256]) rfl ?rd (bs_one _) (by unfold maxLen; omega) (by omega) ?sz ?go))
  case rd => exact reads_lit w2 5 _ _ 2 _ (by omega) (by simp [bs]) rfl
  case sz => have := hb2.size; simp; omega
  case go =>
    intro v3 w3 hown3 hg3 _
    have hb3 : Below w1.heap.size w1 w3 := (hb2.alloc hb2.size _).grown hg3 (by have := hb2.size; simp; omega) (fun k hk => (hown.lt k hk).1)
    obtain ⟨A3, c3, rfl, hr3⟩ := own_slice hown3
    have e : bs l ++ bs [C / 256, C % 256] = bs (l ++ [C / 256, C % 256]) := by simp [bs]
    rw [e] at hr3
    have hl3 : ∀ k, (l ++ [C / 256, C % 256]).getD k 0 ≤ 255 := by
      intro k
      rw [List.getD_eq_getElem?_getD]
      by_cases h : k < l.length
      · rw [List.getElem?_append_left h, ← List.getD_eq_getElem?_getD]; exact hl k
      · rw [List.getElem?_append_right (by omega)]
        match k - l.length with
        | 0 => simp; omega
        | 1 => simp; omega
        | j + 2 => simp
    have E : nrm (tot (l ++ [C / 256, C % 256]) (len + 2)) = 65535 := by
      rw [← hlen, tot_two' l _ _ (by rw [hlen]; exact HE.out), hlen, show 256 * (C / 256) + C % 256 = C from by omega, ← HC.out, nrm_full]
    have hE := Lib.hid E
    clear e E hown hown3 hg3 hr2 hr1
    go_wp2_with fail
    refine (sum_any A3 (len + 2) c3 _ _ _ hr3 hl3 (by omega)).mono ?_
    rintro e w' ⟨rfl, rfl⟩
    rw [hE.out]
    go_wp2
    go_ret
    exact ⟨rfl, hb1.trans (hb3.mono hb1.size)⟩

set_option maxHeartbeats 400000 in
theorem right_odd (w : World) (a : Option Addr) (len cap : Nat) (l : List Nat) (hlen : l.length = len) (hr : Reads w w.heap.size 1 a len (bs l)) (hl : ∀ k, l.getD k 0 ≤ 255) (hcap : len + 1 ≤ cap) (hcap2 : cap ≤ 140737488351232) (he : len % 2 = 0) :
    Calls Try.prog 4 #[.slice a (len + 1) cap] w fun e w' => e = .returned (.bool true) ∧ Below w.heap.size w w' := by
  obtain ⟨i0, hi, hz0, hz1, hz2⟩ := info_parts Try.info5
  have l1 := nrm_le (tot l len)
  have hreach : len ≤ 140737488351232 := by omega
  have he2 : ((((len : Int) + 1) % 2) == 1) = true := by simp; omega
  have HE := Lib.hid he
  clear he
  go_enter Try.func4, Try.ntmps4
  go_wp2_with fail
  refine (check_any a len cap l _ _ hr hl (by omega)).mono ?_
  rintro e w' ⟨rfl, rfl⟩
  go_wp2_with fail
  refine (lives_any w).mono ?_
  rintro e w1 ⟨rfl, hb1⟩
  have hr1 := (hr.below hb1).more hb1.size
  generalize hC : 65535 - nrm (tot l len) = C at *
  have hC1 : C ≤ 65535 := by omega
  have HC := Lib.hid hC
  clear hC hr
  go_wp2_with (first
    | (at_builtin; refine unguard (by rfl) ?_; refine wpList_append_copy rfl (.tmp 17) (.tmp 18) 22 rfl w1 5 i0 _ 1 1 Try.underlying22 hi hz0 hz1 hz2 rfl (by decide) rfl a len cap (bs l) rfl hr1 (bs_one l) (by unfold maxLen; omega) (by omega) ?_; intro A1 c1 w2 hown hr2 hb2)
    | (at_builtin; refine unguard (by rfl) ?_; refine wpList_append_any _ rfl (.tmp 19) (.tmp 25) 22 rfl w1.heap.size 5 i0 _ 1 1 Try.underlying22 hi hz0 hz1 hz2 rfl (by decide) (.slice A1 len c1) len (bs l) rfl (hown.alloc _) (w2.heap.size + 1) (some ⟨w2.heap.size, 0, none⟩) 2 2 (bs [C / 256, C % 256]) rfl ?rd (bs_one _) (by unfold maxLen; omega) (by omega) ?sz ?go))
  case rd => exact reads_lit w2 5 _ _ 2 _ (by omega) (by simp [bs]) rfl
  case sz => have := hb2.size; simp; omega
  case go =>
    intro v3 w3 hown3 hg3 _
    have hb3 : Below w1.heap.size w1 w3 := (hb2.alloc hb2.size _).grown hg3 (by have := hb2.size; simp; omega) (fun k hk => (hown.lt k hk).1)
    obtain ⟨A3, c3, rfl, hr3⟩ := own_slice hown3
    have e : bs l ++ bs [C / 256, C % 256] = bs (l ++ [C / 256, C % 256]) := by simp [bs]
    rw [e] at hr3
    have hl3 : ∀ k, (l ++ [C / 256, C % 256]).getD k 0 ≤ 255 := by
      intro k
      rw [List.getD_eq_getElem?_getD]
      by_cases h : k < l.length
      · rw [List.getElem?_append_left h, ← List.getD_eq_getElem?_getD]; exact hl k
      · rw [List.getElem?_append_right (by omega)]
        match k - l.length with
        | 0 => simp; omega
        | 1 => simp; omega
        | j + 2 => simp
    have E : nrm (tot (l ++ [C / 256, C % 256]) (len + 2)) = 65535 := by
      rw [← hlen, tot_two' l _ _ (by rw [hlen]; exact HE.out), hlen, show 256 * (C / 256) + C % 256 = C from by omega, ← HC.out, nrm_full]
    have hE := Lib.hid E
    clear e E hown hown3 hg3 hr2 hr1
    go_wp2_with fail
    refine (sum_any A3 (len + 2) c3 _ _ _ hr3 hl3 (by omega)).mono ?_
    rintro e w' ⟨rfl, rfl⟩
    rw [hE.out]
    go_wp2
    go_ret
    exact ⟨rfl, hb1.trans (hb3.mono hb1.size)⟩


theorem sumRight_walk (w : World) (a : Option Addr) (len cap : Nat) (zs : List Int) (g : Row w .u8 1 a len cap zs) :
    Calls Try.prog 4 #[.slice a len cap] w fun e w' => e = .returned (.bool true) ∧ Below w.heap.size w w' := by
  obtain ⟨l, hlen, hr, hl, hle, hreach⟩ := bytes_of_row g
  by_cases he : len % 2 = 0
  · exact right_even w a len cap l hlen hr hl (by omega) he
  · obtain ⟨m, rfl⟩ : ∃ m, len = m + 1 := ⟨len - 1, by omega⟩
    exact right_odd w a m cap (l.take m) (by simp; omega) (reads_take hr (by omega)) (getD_take_le hl m) hle hreach (by omega)
end Go.Proofs.Ytgoegdagliapmaa
