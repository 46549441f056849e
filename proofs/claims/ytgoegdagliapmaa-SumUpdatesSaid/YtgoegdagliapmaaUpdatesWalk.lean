/- The law SumUpdates, walked. -/
import Derived.Test.YtgoegdagliapmaaPiecesWalk
import Derived.Test.YtgoegdagliapmaaWordsWalk
namespace Go.Proofs.Ytgoegdagliapmaa
open Go.RowKit Go.Sort

set_option maxHeartbeats 400000 in
set_option maxRecDepth 100000 in
theorem updates_small (w : World) (a : Option Addr) (len cap : Nat) (at_ now : Int) (hs : len < 2) :
    Calls Try.prog 7 #[.slice a len cap, .int .i64 at_, .int .u16 now] w fun e w' => e = .returned (.bool true) ∧ Below w.heap.size w w' := by
  go_enter Try.func7, Try.ntmps7
  go_wp2_with fail
  refine (lives_any w).mono ?_
  rintro e w1 ⟨rfl, hb1⟩
  go_wp2_with fail
  refine (update_any 7 7 7 (by omega) (by omega) (by omega) _).mono ?_
  rintro e w' ⟨rfl, rfl⟩
  go_wp2_with fail
  refine (rupdate_any 7 7 7 (by omega) (by omega) (by omega) _).mono ?_
  rintro e w' ⟨rfl, rfl⟩
  go_wp2
  go_ret
  exact ⟨rfl, hb1⟩


theorem or16 {x y : Nat} (hx : x ≤ 255) (hy : y ≤ 255) : bits .or .u16 ((x : Int) * 256) (y : Int) = ((256 * x + y : Nat) : Int) := by
  have := u16_or_nat (x * 256) y (by omega) (by omega)
  rw [show ((x * 256 : Nat) : Int) = (x : Int) * 256 from by omega] at this
  rw [this]
  congr 1
  have h := Nat.two_pow_add_eq_or_of_lt (i := 8) (b := y) (by omega) x
  rw [show x * 256 = 2 ^ 8 * x from by omega, ← h]

theorem tot_set (l : List Nat) (i v : Nat) (hi : i < l.length) : ∀ n, i < n → tot (l.set i v) n + (if i % 2 = 0 then 256 else 1) * l.getD i 0 = tot l n + (if i % 2 = 0 then 256 else 1) * v := by
  have hsame : ∀ n, n ≤ i → tot (l.set i v) n = tot l n := by
    intro n
    induction n with
    | zero => intro _; rfl
    | succ n ih =>
      intro h
      have e : (l.set i v).getD n 0 = l.getD n 0 := by
        simp only [List.getD_eq_getElem?_getD]
        rw [List.getElem?_set_ne (by omega)]
      rw [tot_succ, tot_succ, ih (by omega), e]
  intro n
  induction n with
  | zero => intro h; omega
  | succ n ih =>
    intro h
    rw [tot_succ, tot_succ]
    by_cases hn : i < n
    · have e : (l.set i v).getD n 0 = l.getD n 0 := by
        simp only [List.getD_eq_getElem?_getD]
        rw [List.getElem?_set_ne (by omega)]
      rw [e]
      have := ih hn
      omega
    · obtain rfl : i = n := by omega
      have e : (l.set i v).getD i 0 = v := by
        simp only [List.getD_eq_getElem?_getD]
        rw [List.getElem?_set_self hi]; rfl
      rw [e, hsame i (Nat.le_refl _)]
      by_cases he : i % 2 = 0
      · rw [if_pos he, if_pos he, if_pos he]; omega
      · rw [if_neg he, if_neg he, if_neg he]; omega

theorem tot_swap (l : List Nat) (k now n : Nat) (h : 2 * k + 1 < n) (hn : n = l.length) : tot ((l.set (2 * k) (now / 256)).set (2 * k + 1) (now % 256)) n = tot l n - (256 * l.getD (2 * k) 0 + l.getD (2 * k + 1) 0) + now ∧ 256 * l.getD (2 * k) 0 + l.getD (2 * k + 1) 0 ≤ tot l n := by
  have h1 := tot_set l (2 * k) (now / 256) (by omega) n (by omega)
  have h2 := tot_set (l.set (2 * k) (now / 256)) (2 * k + 1) (now % 256) (by simp; omega) n (by omega)
  rw [if_pos (by omega)] at h1
  rw [if_neg (by omega)] at h2
  have e : (l.set (2 * k) (now / 256)).getD (2 * k + 1) 0 = l.getD (2 * k + 1) 0 := by
    simp only [List.getD_eq_getElem?_getD]
    rw [List.getElem?_set_ne (by omega)]
  rw [e] at h2
  have hmono : tot l (2 * k) + (256 * l.getD (2 * k) 0 + l.getD (2 * k + 1) 0) ≤ tot l n := by
    have hm : ∀ j, tot l (2 * k + 2) ≤ tot l (2 * k + 2 + j) := by
      intro j
      induction j with
      | zero => exact Nat.le_refl _
      | succ j ih => rw [show 2 * k + 2 + (j + 1) = (2 * k + 2 + j) + 1 from by omega, tot_succ l (2 * k + 2 + j)]; omega
    have := hm (n - (2 * k + 2))
    rw [show 2 * k + 2 + (n - (2 * k + 2)) = n from by omega] at this
    have e2 := tot_two l (2 * k) (by omega)
    omega
  omega


theorem below_drewN {B : Nat} {a w : World} (h : Below B a w) (n : Nat) : Below B a (w.drewN n) := ⟨h.os, h.tape, h.output, h.size, h.block⟩

theorem stored {w : World} {g len k p q nq : Nat} {l : List Nat} {cur : Array Value} (hB : Blk w g 5 cur) (ht : cur.toList.take (len * 1) = bs l) (hlen : l.length = len) (hk : 2 * k + 1 < len) {P Q : Int} (hP : P = (p : Int)) (hQ : Q = (q : Int)) :
    Reads (((w.drewN nq).setCell ⟨g, 2 * k, none⟩ (.int .u8 P)).setCell ⟨g, 2 * k + 1, none⟩ (.int .u8 Q)) (g + 1) 1 (some ⟨g, 0, none⟩) len (bs ((l.set (2 * k) p).set (2 * k + 1) q)) := by
  subst hP; subst hQ
  have hB2 := ((hB.drewN nq).set_ (2 * k) (.int .u8 (p : Int))).set_ (2 * k + 1) (.int .u8 (q : Int))
  have hbs : bs ((l.set (2 * k) p).set (2 * k + 1) q) = ((bs l).set (2 * k) (.int .u8 (p : Int))).set (2 * k + 1) (.int .u8 (q : Int)) := by simp [bs, List.map_set]
  refine ⟨by simp [bs]; omega, fun _ => ⟨_, rfl, by simp, fun j u hu => ?_⟩⟩
  have e : (⟨g, 0, none⟩ : Addr).add j = ⟨g, j, none⟩ := by unfold Addr.add; split <;> simp_all
  have hj : j < len := by have := (bs_at hu).1; simp at this; omega
  rw [e, hB2.cell j]
  rw [hbs] at hu
  have hcj : cur[j]? = (bs l)[j]? := by
    rw [← ht, List.getElem?_take_of_lt (by omega)]; simp
  have hsz : len ≤ cur.size := by
    have := congrArg List.length ht
    simp [bs] at this
    omega
  rw [Array.getElem?_setIfInBounds, Array.getElem?_setIfInBounds, hcj]
  rw [List.getElem?_set, List.getElem?_set] at hu
  simp only [Array.size_setIfInBounds, List.length_set, bs_length] at hu ⊢
  rw [← hu]
  by_cases h1 : 2 * k + 1 = j
  · rw [if_pos h1, if_pos h1, if_pos (by omega), if_pos (by omega)]
  · rw [if_neg h1, if_neg h1]
    by_cases h2 : 2 * k = j
    · rw [if_pos h2, if_pos h2, if_pos (by omega), if_pos (by omega)]
    · rw [if_neg h2, if_neg h2]

theorem hown_cell {w : World} {base g n c j k : Nat} {l : List Nat} (h : w.ownsRow base 5 1 (.slice (some ⟨g, 0, none⟩) n c) n (bs l)) (hlen : l.length = n) (hk : 2 * k + 1 < n) (hj : j ≤ 2 * k + 1) : w.cell? ⟨g, j, none⟩ = some (.int .u8 (l.getD j 0 : Nat)) := by
  have hlt : j < l.length := by omega
  have := h.cells (g := g) rfl j (.int .u8 (l.getD j 0 : Nat)) (by simp [bs, List.getD, List.getElem?_eq_getElem hlt])
  have e : (⟨g, 0, none⟩ : Addr).add j = ⟨g, j, none⟩ := by unfold Addr.add; split <;> simp_all
  rwa [e] at this

theorem getD_set_le {l : List Nat} (hl : ∀ k, l.getD k 0 ≤ 255) {i v : Nat} (hv : v ≤ 255) : ∀ k, (l.set i v).getD k 0 ≤ 255 := by
  intro k
  have := hl k
  simp only [List.getD_eq_getElem?_getD] at this ⊢
  rw [List.getElem?_set]
  split
  · split
    · exact hv
    · exact Nat.zero_le _
  · exact this

theorem upd_two {T old now S : Nat} (h : old ≤ T) (ho : old ≤ 65535) (hn : now ≤ 65535) (hS : S = T - old + now) :
    65535 - nrm (65535 - (65535 - nrm T) + (65535 - old) + now) = 65535 - nrm S ∨ ((65535 - nrm (65535 - (65535 - nrm T) + (65535 - old) + now)) % 65535 = 0 ∧ (65535 - nrm S) % 65535 = 0) := by
  have := nrm_le T
  rw [show 65535 - (65535 - nrm T) = nrm T from by omega, hS]
  exact upd h ho hn

set_option maxHeartbeats 400000 in
set_option maxRecDepth 100000 in
theorem updates_pos (w : World) (a : Option Addr) (len cap : Nat) (l : List Nat) (at_ : Int) (now : Nat) (hlen : l.length = len) (hr : Reads w w.heap.size 1 a len (bs l)) (hl : ∀ k, l.getD k 0 ≤ 255) (hle : len ≤ cap) (hreach : cap ≤ 140737488351232) (hs : 2 ≤ len) (hnow : now ≤ 65535) :
    Calls Try.prog 7 #[.slice a len cap, .int .i64 at_, .int .u16 (now : Int)] w fun e w' => e = .returned (.bool true) ∧ Below w.heap.size w w' := by
  obtain ⟨i0, hi, hz0, hz1, hz2⟩ := info_parts Try.info5
  have m1 : -((len : Int) / 2) < at_.tmod ((len : Int) / 2) ∧ at_.tmod ((len : Int) / 2) < (len : Int) / 2 := by
    have := Int.natAbs_tmod at_ ((len : Int) / 2)
    have h3 : (at_.natAbs % ((len : Int) / 2).natAbs) < ((len : Int) / 2).natAbs := Nat.mod_lt at_.natAbs (by omega)
    omega
  obtain ⟨m1, m2⟩ := m1
  go_enter Try.func7, Try.ntmps7
  go_wp2_with (at_builtin; (refine wpList_append_copy rfl (.tmp 33) (.tmp 34) 22 rfl w 5 i0 _ 1 1 Try.underlying22 hi hz0 hz1 hz2 rfl (by decide) rfl a len cap (bs l) rfl hr (bs_one l) (by unfold maxLen; omega) (by omega) ?_); intro A1 c1 w1 hown _ hb1)
  · obtain ⟨k, hk, hk2⟩ : ∃ k : Nat, at_.tmod ((len : Int) / 2) + (len : Int) / 2 = k ∧ 2 * k + 1 < len := ⟨(at_.tmod ((len : Int) / 2) + (len : Int) / 2).toNat, by omega, by omega⟩
    rw [hk]
    clear hk m1 m2
    rcases hown.2 with ⟨_, h⟩ | ⟨g, cp, cur, hv, hg0, hgg, hcap, hmax, hsz, htake⟩
    · omega
    injection hv with hA _ hc1
    subst hA
    subst hc1
    have hB : Blk w1 g 5 cur := hgg
    have hx : w1.cell? ⟨g, 2 * k, none⟩ = some (.int .u8 (l.getD (2 * k) 0 : Nat)) := hown_cell hown hlen hk2 (by omega)
    have hy : w1.cell? ⟨g, 2 * k + 1, none⟩ = some (.int .u8 (l.getD (2 * k + 1) 0 : Nat)) := hown_cell hown hlen hk2 (by omega)
    have f1 := hB.frozen (2 * k)
    have f2 := hB.frozen (2 * k + 1)
    have S := Lib.hid (tot_swap l k now len hk2 hlen.symm)
    have xb := hl (2 * k)
    have yb := hl (2 * k + 1)
    generalize l.getD (2 * k) 0 = x at hx xb S
    generalize l.getD (2 * k + 1) 0 = y at hy yb S
    have HT := Lib.hid htake
    clear hown htake hgg
    go_quiet (fail)
    go_wp2_with fail
    have hR3 := stored (nq := nq) (p := now / 256) (q := now % 256) hB HT.out hlen hk2 (P := (now : Int) / 256) (Q := (now : Int) % 256) (by omega) (by omega)
    have hb3 : Below w.heap.size w (((w1.drewN nq).setCell ⟨g, 2 * k, none⟩ (.int .u8 ((now : Int) / 256))).setCell ⟨g, 2 * k + 1, none⟩ (.int .u8 ((now : Int) % 256))) := ((below_drewN hb1 nq).setCell (p := ⟨g, 2 * k, none⟩) hg0 _).setCell (p := ⟨g, 2 * k + 1, none⟩) hg0 _
    generalize (((w1.drewN nq).setCell ⟨g, 2 * k, none⟩ (.int .u8 ((now : Int) / 256))).setCell ⟨g, 2 * k + 1, none⟩ (.int .u8 ((now : Int) % 256))) = W3 at hR3 hb3 ⊢
    rw [or16 xb yb]
    have hr3 := hr.below hb3
    have hl3 : ∀ j, ((l.set (2 * k) (now / 256)).set (2 * k + 1) (now % 256)).getD j 0 ≤ 255 := getD_set_le (getD_set_le hl (by omega)) (by omega)
    have HU := Lib.hid (upd_two S.out.2 (by omega) hnow S.out.1)
    clear hB hx hy f1 f2 HT hb1 hr S
    have c1' := nrm_le (tot l len)
    refine (check_any a len cap l _ W3 hr3 hl (by omega)).mono ?_
    rintro e w' ⟨rfl, rfl⟩
    go_wp2_with fail
    refine (update_any (65535 - nrm (tot l len)) (256 * x + y) now (by omega) (by omega) hnow _).mono ?_
    rintro e w' ⟨rfl, rfl⟩
    go_wp2_with fail
    refine (check_any _ len c1 _ _ W3 hR3 hl3 (by omega)).mono ?_
    rintro e w' ⟨rfl, rfl⟩
    clear hR3 hl3
    obtain ⟨T, hT⟩ : ∃ T, T = tot l len := ⟨_, rfl⟩
    rw [← hT] at HU c1' ⊢
    obtain ⟨V, hV⟩ : ∃ V, V = 65535 - nrm (tot ((l.set (2 * k) (now / 256)).set (2 * k + 1) (now % 256)) len) := ⟨_, rfl⟩
    rw [← hV] at HU ⊢
    have hV1 : V ≤ 65535 := by omega
    have HT := Lib.hid hT
    clear hT hV
    go_wp2_with fail
    refine (lives_any W3).mono ?_
    rintro e W4 ⟨rfl, hb4⟩
    have hr4 := hr3.below (hb4.mono hb3.size)
    have hb5 := hb3.trans (hb4.mono hb3.size)
    clear hr3 hb3 hb4
    go_wp2_with fail
    refine (rcheck_any a len cap l _ W4 hr4 hl (by omega)).mono ?_
    rintro e w' ⟨rfl, rfl⟩
    rw [← HT.out]
    go_wp2_with fail
    refine (rupdate_any (65535 - nrm T) (256 * x + y) now (by omega) (by omega) hnow _).mono ?_
    rintro e w' ⟨rfl, rfl⟩
    have hU1 : 65535 - nrm (65535 - (65535 - nrm T) + (65535 - (256 * x + y)) + now) ≤ 65535 := by omega
    generalize 65535 - nrm (65535 - (65535 - nrm T) + (65535 - (256 * x + y)) + now) = U at HU hU1 ⊢
    go_wp2_with fail
    all_goals
      go_ret
      have hU := HU.out
      refine ⟨congrArg (fun b => Ending.returned (Value.bool b)) ?_, hb5⟩
      first | rfl | (simp; omega)
  · obtain ⟨k, hk, hk2⟩ : ∃ k : Nat, at_.tmod ((len : Int) / 2) = k ∧ 2 * k + 1 < len := ⟨(at_.tmod ((len : Int) / 2)).toNat, by omega, by omega⟩
    rw [hk]
    clear hk m1 m2
    rcases hown.2 with ⟨_, h⟩ | ⟨g, cp, cur, hv, hg0, hgg, hcap, hmax, hsz, htake⟩
    · omega
    injection hv with hA _ hc1
    subst hA
    subst hc1
    have hB : Blk w1 g 5 cur := hgg
    have hx : w1.cell? ⟨g, 2 * k, none⟩ = some (.int .u8 (l.getD (2 * k) 0 : Nat)) := hown_cell hown hlen hk2 (by omega)
    have hy : w1.cell? ⟨g, 2 * k + 1, none⟩ = some (.int .u8 (l.getD (2 * k + 1) 0 : Nat)) := hown_cell hown hlen hk2 (by omega)
    have f1 := hB.frozen (2 * k)
    have f2 := hB.frozen (2 * k + 1)
    have S := Lib.hid (tot_swap l k now len hk2 hlen.symm)
    have xb := hl (2 * k)
    have yb := hl (2 * k + 1)
    generalize l.getD (2 * k) 0 = x at hx xb S
    generalize l.getD (2 * k + 1) 0 = y at hy yb S
    have HT := Lib.hid htake
    clear hown htake hgg
    go_quiet (fail)
    go_wp2_with fail
    have hR3 := stored (nq := nq) (p := now / 256) (q := now % 256) hB HT.out hlen hk2 (P := (now : Int) / 256) (Q := (now : Int) % 256) (by omega) (by omega)
    have hb3 : Below w.heap.size w (((w1.drewN nq).setCell ⟨g, 2 * k, none⟩ (.int .u8 ((now : Int) / 256))).setCell ⟨g, 2 * k + 1, none⟩ (.int .u8 ((now : Int) % 256))) := ((below_drewN hb1 nq).setCell (p := ⟨g, 2 * k, none⟩) hg0 _).setCell (p := ⟨g, 2 * k + 1, none⟩) hg0 _
    generalize (((w1.drewN nq).setCell ⟨g, 2 * k, none⟩ (.int .u8 ((now : Int) / 256))).setCell ⟨g, 2 * k + 1, none⟩ (.int .u8 ((now : Int) % 256))) = W3 at hR3 hb3 ⊢
    rw [or16 xb yb]
    have hr3 := hr.below hb3
    have hl3 : ∀ j, ((l.set (2 * k) (now / 256)).set (2 * k + 1) (now % 256)).getD j 0 ≤ 255 := getD_set_le (getD_set_le hl (by omega)) (by omega)
    have HU := Lib.hid (upd_two S.out.2 (by omega) hnow S.out.1)
    clear hB hx hy f1 f2 HT hb1 hr S
    have c1' := nrm_le (tot l len)
    refine (check_any a len cap l _ W3 hr3 hl (by omega)).mono ?_
    rintro e w' ⟨rfl, rfl⟩
    go_wp2_with fail
    refine (update_any (65535 - nrm (tot l len)) (256 * x + y) now (by omega) (by omega) hnow _).mono ?_
    rintro e w' ⟨rfl, rfl⟩
    go_wp2_with fail
    refine (check_any _ len c1 _ _ W3 hR3 hl3 (by omega)).mono ?_
    rintro e w' ⟨rfl, rfl⟩
    clear hR3 hl3
    obtain ⟨T, hT⟩ : ∃ T, T = tot l len := ⟨_, rfl⟩
    rw [← hT] at HU c1' ⊢
    obtain ⟨V, hV⟩ : ∃ V, V = 65535 - nrm (tot ((l.set (2 * k) (now / 256)).set (2 * k + 1) (now % 256)) len) := ⟨_, rfl⟩
    rw [← hV] at HU ⊢
    have hV1 : V ≤ 65535 := by omega
    have HT := Lib.hid hT
    clear hT hV
    go_wp2_with fail
    refine (lives_any W3).mono ?_
    rintro e W4 ⟨rfl, hb4⟩
    have hr4 := hr3.below (hb4.mono hb3.size)
    have hb5 := hb3.trans (hb4.mono hb3.size)
    clear hr3 hb3 hb4
    go_wp2_with fail
    refine (rcheck_any a len cap l _ W4 hr4 hl (by omega)).mono ?_
    rintro e w' ⟨rfl, rfl⟩
    rw [← HT.out]
    go_wp2_with fail
    refine (rupdate_any (65535 - nrm T) (256 * x + y) now (by omega) (by omega) hnow _).mono ?_
    rintro e w' ⟨rfl, rfl⟩
    have hU1 : 65535 - nrm (65535 - (65535 - nrm T) + (65535 - (256 * x + y)) + now) ≤ 65535 := by omega
    generalize 65535 - nrm (65535 - (65535 - nrm T) + (65535 - (256 * x + y)) + now) = U at HU hU1 ⊢
    go_wp2_with fail
    all_goals
      go_ret
      have hU := HU.out
      refine ⟨congrArg (fun b => Ending.returned (Value.bool b)) ?_, hb5⟩
      first | rfl | (simp; omega)

theorem sumUpdates_walk (w : World) (a : Option Addr) (len cap : Nat) (zs : List Int) (g : Row w .u8 1 a len cap zs) (x : Int) (_ : (Lit.int .i64 x).wf = true) (n : Int) (hn : (Lit.int .u16 n).wf = true) :
    Calls Try.prog 7 #[.slice a len cap, .int .i64 x, .int .u16 n] w fun e w' => e = .returned (.bool true) ∧ Below w.heap.size w w' := by
  obtain ⟨l, hlen, hr, hl, hle, hreach⟩ := bytes_of_row g
  obtain ⟨n, rfl, hn2⟩ := u16_nat hn
  by_cases h : len < 2
  · exact updates_small w a len cap x n h
  · exact updates_pos w a len cap l x n hlen hr hl hle hreach (by omega) hn2
end Go.Proofs.Ytgoegdagliapmaa
