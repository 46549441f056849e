/- Decode: the message of bytes.  -/
import Derived.Test.YtbekgccecdjdeaaDec
import Derived.Test.YtbekgccecdjdeaaLabels
import Derived.Test.YtbekgccecdjdeaaAnswer
import Derived.Test.YtbekgccecdjdeaaSlots
import Derived.StillTailTactics
import Derived.Test.YtbekgccecdjdeaaSays
import Derived.Test.YtbekgccecdjdeaaOptApp
import Derived.Test.YtbekgccecdjdeaaLast
namespace Go.Proofs.Ytbekgccecdjdeaa
open Go.RowKit

/-- What Decode answers. -/
def DecPost (w : World) (l : List Nat) (e : Ending) (w' : World) : Prop := Below w.heap.size w w' ∧
  ∃ A n c, e = .returned (.tuple #[.agg ((dec l).1.val (.slice A n c)), .int .i64 (dec l).2]) ∧ Reads w' w'.heap.size 3 A n (os (dec l).1.opts)

/-- Decode, on its way: what is still to read, what has come of it. -/
structure Dc (w W : World) (l r : List Nat) (A : Option Addr) (c : Nat) (acc : List Opt) (v : Value) : Prop where
  rd : Reads w w.heap.size 1 A r.length (bs r)
  le : r.length ≤ c
  h8 : ∀ k, r.getD k 0 ≤ 255
  res : Blk W w.heap.size 31 (noMsg.val (.slice none 0 0))
  cur : Blk W (w.heap.size + 1) 31 ((msgOf l acc).val v)
  own : W.ownsRow (w.heap.size + 2) 28 3 v acc.length (os acc)
  bel : Below w.heap.size w W
  par : parse [] (l.drop 240) = parse acc r
  room : acc.length + cnt r ≤ 1048576
  hd : headB l = true
  len : r.length ≤ 281474976710656
/-- Decode, refused: the result's cell. -/
structure Db (w W : World) (l : List Nat) : Prop where
  res : Blk W w.heap.size 31 (noMsg.val (.slice none 0 0))
  bel : Below w.heap.size w W
  no : dec l = (noMsg, 60)
theorem addr_add0 (ad : Addr) : ad.add 0 = ad := by unfold Addr.add; split <;> simp_all
theorem part_reads {w : World} {B : Nat} {ad : Addr} {l : List Nat} (c : Nat) (h : Reads w B 1 (some ad) l.length (bs l)) (i n : Nat) (hi : i + n ≤ l.length) (hc : l.length ≤ c) (hn : 0 < n) (h0 : 0 < i) :
    Reads w B 1 (some ⟨ad.block, ad.off + i, none⟩) n (bs ((l.drop i).take n)) := by
  have := reads_part h hi c hc hn
  rw [part_length hi, if_neg (by omega), Nat.mul_one] at this
  have e : ad.add i = ⟨ad.block, ad.off + i, none⟩ := by unfold Addr.add; rw [if_neg (by omega)]
  rw [← e]
  exact this
theorem bytes_part {l : List Nat} (h8 : ∀ k, l.getD k 0 ≤ 255) (i n : Nat) : ∀ c ∈ (l.drop i).take n, c < 256 := by
  intro c hc
  obtain ⟨k, hk, rfl⟩ := List.mem_iff_getElem.1 hc
  have := part_le h8 i n k
  rw [List.getD_eq_getElem?_getD, List.getElem?_eq_getElem hk] at this
  simp at this ⊢; omega
/-- Strings of bytes are the same where the bytes are. -/
theorem str_is (m : List Nat) (q : List UInt8) (h : ∀ c ∈ m, c < 256) {k : List Nat} (hk : k = q.map UInt8.toNat) : ((strOf m).toList == q) = decide (m = k) := by
  rw [toList_data, strOf_data, Bool.eq_iff_iff]
  simp only [beq_iff_eq, decide_eq_true_eq]
  subst hk
  constructor
  · intro e
    subst e
    rw [List.map_map]
    conv => lhs; rw [← List.map_id m]
    apply List.map_congr_left
    intro c hc
    simp [Nat.mod_eq_of_lt (h c hc)]
  · intro e
    rw [e, List.map_map]
    conv => rhs; rw [← List.map_id q]
    apply List.map_congr_left
    intro c hc
    simp
theorem part_str {w : World} {B : Nat} {ad : Addr} {l : List Nat} (c : Nat) (h : Reads w B 1 (some ad) l.length (bs l)) (i n : Nat) (hi : i + n ≤ l.length) (hc : l.length ≤ c) (hn : 0 < n) (h0 : 0 < i) :
    (convert 37 9 (.slice (some ⟨ad.block, ad.off + i, none⟩) n (c - i))).run Try.prog w = .ok (.string (strOf ((l.drop i).take n))) w :=
  run_bytes_str Try.underlying37 Try.underlying5 Try.underlying9 (c - i) (part_reads c h i n hi hc hn h0)
theorem wrap_small {x : Nat} (h : x < 9223372036854775808) : IntKind.i64.wrap (x : Int) = (x : Int) := by
  simp [IntKind.wrap, IntKind.signed, IntKind.bits]; omega
theorem wrap_small32 {x : Nat} (h : x < 4294967296) : IntKind.u32.wrap (x : Int) = (x : Int) := by
  simp [IntKind.wrap, IntKind.signed, IntKind.bits]; omega
theorem redrew {B : Nat} {w w' : World} (h : Below B w w') : Below B w w'.drew := ⟨h.os, h.tape, h.output, h.size, h.block⟩
theorem addr_addn (ad : Addr) {n : Nat} (h : n ≠ 0) : ad.add n = ⟨ad.block, ad.off + n, none⟩ := by unfold Addr.add; rw [if_neg h]
def lenOf : Value → Nat
  | .slice _ n _ => n
  | _ => 0

set_option maxRecDepth 1000000 in
set_option maxHeartbeats 8000000 in
theorem decode_any (A : Option Addr) (c : Nat) (l : List Nat) (w : World) (hr : Reads w w.heap.size 1 A l.length (bs l)) (h8 : ∀ k, l.getD k 0 ≤ 255) (hc : l.length ≤ c) (hl : l.length ≤ 281474976710656) (hroom : cnt (l.drop 240) ≤ 1048576) :
    Calls Try.prog 10 #[.slice A l.length c] w fun e w' => DecPost w l e w' := by
  go_enter Try.func10, Try.ntmps10
  go_wp2_with (fail)
  obtain ⟨J1, hJ1⟩ : ∃ J : Act → World → Prop, Hid (J = fun a' W => ∃ (r : List Nat) (A' : Option Addr) (c' : Nat) (acc : List Opt) (v : Value), Hid (Dc w W l r A' c' acc v) ∧ Slots a' (.slice A' r.length c') (.pointer (some ⟨w.heap.size, 0, none⟩)) (.pointer (some ⟨w.heap.size + 1, 0, none⟩))) := ⟨_, Lib.hid rfl⟩
  obtain ⟨J0, hJ0⟩ : ∃ J : Act → World → Prop, Hid (J = fun a' W => Hid (Db w W l) ∧ ∃ x0 x4, Slots a' x0 (.pointer (some ⟨w.heap.size, 0, none⟩)) x4) := ⟨_, Lib.hid rfl⟩
  refine wp_scope_two_key J0 J1 (fun a' _ => lenOf (a'.tmps.getD 0 undef)) rfl rfl ?pass0 ?pass1 ?first
  case pass0 =>
    intro a' W hJ
    rw [hJ0.out] at hJ
    obtain ⟨hst, x0, x4, hs⟩ := hJ
    obtain ⟨u, rfl⟩ := hs.act
    clear hJ0 hJ1 J0 J1 hs
    have c0 : W.cell? ⟨w.heap.size, 0, none⟩ = some (.int .i64 0) := hst.out.res.cell 0
    have f0 := hst.out.res.frozen 0
    have c1 : W.cell? ⟨w.heap.size, 1, none⟩ = some (.int .u32 0) := hst.out.res.cell 1
    have f1 := hst.out.res.frozen 1
    have c2 : W.cell? ⟨w.heap.size, 2, none⟩ = some (.int .i64 0) := hst.out.res.cell 2
    have f2 := hst.out.res.frozen 2
    have c3 : W.cell? ⟨w.heap.size, 3, none⟩ = some (.int .i64 0) := hst.out.res.cell 3
    have f3 := hst.out.res.frozen 3
    have c4 : W.cell? ⟨w.heap.size, 4, none⟩ = some (.int .u32 0) := hst.out.res.cell 4
    have f4 := hst.out.res.frozen 4
    have c5 : W.cell? ⟨w.heap.size, 5, none⟩ = some (.int .u32 0) := hst.out.res.cell 5
    have f5 := hst.out.res.frozen 5
    have c6 : W.cell? ⟨w.heap.size, 6, none⟩ = some (.int .u32 0) := hst.out.res.cell 6
    have f6 := hst.out.res.frozen 6
    have c7 : W.cell? ⟨w.heap.size, 7, none⟩ = some (.int .u32 0) := hst.out.res.cell 7
    have f7 := hst.out.res.frozen 7
    have c8 : W.cell? ⟨w.heap.size, 8, none⟩ = some (.int .u64 0) := hst.out.res.cell 8
    have f8 := hst.out.res.frozen 8
    have c9 : W.cell? ⟨w.heap.size, 9, none⟩ = some (.slice none 0 0) := hst.out.res.cell 9
    have f9 := hst.out.res.frozen 9
    go_wp2_with (fail)
    simp only [jump2]
    refine bodyPost_ret (res10 rfl _ _ w.heap.size _ (set10 hst.out.res _ _ _ _ _ _ _ _ _ _) rfl rfl) rfl ⟨below10 hst.out.bel (Nat.le_refl _) _ _ _ _ _ _ _ _ _ _, none, 0, 0, ?_, ?_⟩
    · rw [hst.out.no]; rfl
    · rw [hst.out.no]; exact ⟨rfl, fun h => absurd h (by decide)⟩
  case pass1 =>
    intro a' W hJ
    rw [hJ1.out] at hJ
    obtain ⟨r, A', c', acc, v, hst, hs⟩ := hJ
    obtain ⟨u, rfl⟩ := hs.act
    clear hs hr h8 hc hl hroom
    have HJ1 := hJ1
    have HJ0 := hJ0
    clear hJ1 hJ0
    rcases Nat.eq_zero_or_pos r.length with h0 | h0
    · have NO : Hid (dec l = (noMsg, 60)) := Lib.hid (dec_bad (by rw [hst.out.par, List.eq_nil_of_length_eq_zero h0, parse_nil]))
      rw [h0]
      clear h0
      go_wp2_with fail
      go_step3
      show J0 _ _
      rw [HJ0.out]
      exact ⟨Lib.hid ⟨hst.out.res, hst.out.bel, NO.out⟩, _, _, ⟨rfl, rfl, rfl, rfl, rfl, rfl, rfl⟩⟩
    · obtain ⟨ad, u1, rfl, hab, hu, hcl⟩ := hst.out.rd.at_ (k := 0) (by omega)
      obtain ⟨_, rfl⟩ := bs_at hu
      rw [addr_add0, ← hst.out.bel.cell hab] at hcl
      have hlc := hst.out.le
      have hlen := hst.out.len
      have hb8 := hst.out.h8 0
      clear hu
      by_cases h255 : r.getD 0 0 = 255
      · obtain ⟨M, hM⟩ : ∃ M, M = msgOf l acc := ⟨_, rfl⟩
        obtain ⟨Av, cv, rfl, _⟩ := own_slice hst.out.own
        have YES : Hid (dec l = (M, 0)) := Lib.hid (by rw [hM]; exact dec_yes hst.out.hd (hst.out.par.trans (parse_end acc h0 h255)))
        have HAC : Hid (M.opts = acc) := Lib.hid (by rw [hM]; rfl)
        rw [h255] at hcl
        rw [show ((255 : Nat) : Int) = 255 from rfl] at hcl
        have c0 : W.cell? ⟨w.heap.size + 1, 0, none⟩ = some (.int .i64 M.op) := by rw [hM]; exact hst.out.cur.cell 0
        have c1 : W.cell? ⟨w.heap.size + 1, 1, none⟩ = some (.int .u32 M.xid) := by rw [hM]; exact hst.out.cur.cell 1
        have c2 : W.cell? ⟨w.heap.size + 1, 2, none⟩ = some (.int .i64 M.secs) := by rw [hM]; exact hst.out.cur.cell 2
        have c3 : W.cell? ⟨w.heap.size + 1, 3, none⟩ = some (.int .i64 M.flags) := by rw [hM]; exact hst.out.cur.cell 3
        have c4 : W.cell? ⟨w.heap.size + 1, 4, none⟩ = some (.int .u32 M.ci) := by rw [hM]; exact hst.out.cur.cell 4
        have c5 : W.cell? ⟨w.heap.size + 1, 5, none⟩ = some (.int .u32 M.yi) := by rw [hM]; exact hst.out.cur.cell 5
        have c6 : W.cell? ⟨w.heap.size + 1, 6, none⟩ = some (.int .u32 M.si) := by rw [hM]; exact hst.out.cur.cell 6
        have c7 : W.cell? ⟨w.heap.size + 1, 7, none⟩ = some (.int .u32 M.gi) := by rw [hM]; exact hst.out.cur.cell 7
        have c8 : W.cell? ⟨w.heap.size + 1, 8, none⟩ = some (.int .u64 M.ch) := by rw [hM]; exact hst.out.cur.cell 8
        have c9 : W.cell? ⟨w.heap.size + 1, 9, none⟩ = some (.slice Av acc.length cv) := hst.out.cur.cell 9
        have d0 : W.cell? ⟨w.heap.size, 0, none⟩ = some (.int .i64 0) := hst.out.res.cell 0
        have f0 := hst.out.res.frozen 0
        have d1 : W.cell? ⟨w.heap.size, 1, none⟩ = some (.int .u32 0) := hst.out.res.cell 1
        have f1 := hst.out.res.frozen 1
        have d2 : W.cell? ⟨w.heap.size, 2, none⟩ = some (.int .i64 0) := hst.out.res.cell 2
        have f2 := hst.out.res.frozen 2
        have d3 : W.cell? ⟨w.heap.size, 3, none⟩ = some (.int .i64 0) := hst.out.res.cell 3
        have f3 := hst.out.res.frozen 3
        have d4 : W.cell? ⟨w.heap.size, 4, none⟩ = some (.int .u32 0) := hst.out.res.cell 4
        have f4 := hst.out.res.frozen 4
        have d5 : W.cell? ⟨w.heap.size, 5, none⟩ = some (.int .u32 0) := hst.out.res.cell 5
        have f5 := hst.out.res.frozen 5
        have d6 : W.cell? ⟨w.heap.size, 6, none⟩ = some (.int .u32 0) := hst.out.res.cell 6
        have f6 := hst.out.res.frozen 6
        have d7 : W.cell? ⟨w.heap.size, 7, none⟩ = some (.int .u32 0) := hst.out.res.cell 7
        have f7 := hst.out.res.frozen 7
        have d8 : W.cell? ⟨w.heap.size, 8, none⟩ = some (.int .u64 0) := hst.out.res.cell 8
        have f8 := hst.out.res.frozen 8
        have d9 : W.cell? ⟨w.heap.size, 9, none⟩ = some (.slice none 0 0) := hst.out.res.cell 9
        have f9 := hst.out.res.frozen 9
        have HM : Hid (M = msgOf l acc) := Lib.hid hM
        clear hM h255 hb8
        go_wp2_with fail
        simp only [jump2]
        refine bodyPost_ret (res10 rfl _ _ w.heap.size _ (set10 hst.out.res _ _ _ _ _ _ _ _ _ _) rfl rfl) rfl ⟨below10 hst.out.bel (Nat.le_refl _) _ _ _ _ _ _ _ _ _ _, Av, acc.length, cv, ?_, ?_⟩
        · rw [YES.out]; rfl
        · rw [YES.out]; simp only [HAC.out]; exact Reads.of_own (own10 hst.out.own (by omega) _ _ _ _ _ _ _ _ _ _)
      · by_cases hz : r.getD 0 0 = 0
        · have T := tail_reads (w := w) (B := w.heap.size) hst.out.rd (c := c') (i := 1) (by omega) hst.out.le (by omega)
          have PZ := Lib.hid (parse_zero acc h0 hz)
          have CZ := Lib.hid (cnt_zero h0 hz)
          have HT := Lib.hid T
          clear T
          rw [hz] at hcl
          rw [show ((0 : Nat) : Int) = 0 from rfl] at hcl
          clear h255 hz hb8
          have hl1 : 1 ≤ r.length := h0
          have hc1 : 1 ≤ c' := by omega
          by_cases hcc : c' = 1
          all_goals
            go_wp2_with fail
            go_step3
            show J1 _ _ ∧ _
            rw [HJ1.out]
            refine ⟨⟨r.drop 1, (if c' = 1 then some ad else some ⟨ad.block, ad.off + 1, none⟩), c' - 1, acc, v, Lib.hid ?dc, ⟨rfl, rfl, ?sl, rfl, rfl, rfl, rfl⟩⟩, ?mu⟩
            case sl => rw [List.length_drop]; first | (subst hcc; rw [if_pos rfl]; rfl) | (rw [if_neg hcc]; rfl)
            case mu => simp [lenOf]; omega
            case dc =>
              have Z := hst.out
              exact ⟨HT.out, by rw [List.length_drop]; omega, drop_le Z.h8 1, Z.res, Z.cur, Z.own, Z.bel, Z.par.trans PZ.out, by rw [← CZ.out]; exact Z.room, Z.hd, by rw [List.length_drop]; have := Z.len; omega⟩
        · by_cases h3 : r.length < 2 ∨ r.length - 2 < r.getD 1 0
          · have NO : Hid (dec l = (noMsg, 60)) := Lib.hid (dec_bad (hst.out.par.trans (parse_short acc h0 h255 hz h3)))
            by_cases h2 : r.length < 2
            · obtain e1 : r.length = 1 := by omega
              rw [e1]
              generalize r.getD 0 0 = b0 at *
              clear e1 h2 h3 h0 hlc
              go_wp2_with fail
              go_step3
              show J0 _ _
              rw [HJ0.out]
              exact ⟨Lib.hid ⟨hst.out.res, hst.out.bel, NO.out⟩, _, _, ⟨rfl, rfl, rfl, rfl, rfl, rfl, rfl⟩⟩
            · obtain ⟨ad2, u2, e2, _, hu2, hcl2⟩ := hst.out.rd.at_ (k := 1) (by omega)
              obtain rfl := Option.some.inj e2
              obtain ⟨_, rfl⟩ := bs_at hu2
              rw [← hst.out.bel.cell (by rw [block_of_add]; exact hab), show ad.add 1 = ⟨ad.block, ad.off + 1, none⟩ from rfl] at hcl2
              have hlt : ((r.length : Int) - 2) < ((r.getD 1 0 : Nat) : Int) := by omega
              have hge : 2 ≤ r.length := by omega
              have hb9 := hst.out.h8 1
              generalize r.getD 0 0 = b0 at *
              generalize r.getD 1 0 = b1 at *
              clear h2 h3 h0 hu2 e2
              go_wp2_with fail
              go_step3
              show J0 _ _
              rw [HJ0.out]
              exact ⟨Lib.hid ⟨hst.out.res, hst.out.bel, NO.out⟩, _, _, ⟨rfl, rfl, rfl, rfl, rfl, rfl, rfl⟩⟩
          · obtain ⟨ad2, u2, e2, _, hu2, hcl2⟩ := hst.out.rd.at_ (k := 1) (by omega)
            obtain rfl := Option.some.inj e2
            obtain ⟨_, rfl⟩ := bs_at hu2
            rw [← hst.out.bel.cell (by rw [block_of_add]; exact hab), show ad.add 1 = ⟨ad.block, ad.off + 1, none⟩ from rfl] at hcl2
            have hge : 2 ≤ r.length := by omega
            have hfit : 2 + r.getD 1 0 ≤ r.length := by omega
            have PM := Lib.hid (parse_more acc hge h255 hz (fun q => h3 (.inr q)))
            have CM := Lib.hid (cnt_more hge h255 hz (fun q => h3 (.inr q)))
            have hb9 := hst.out.h8 1
            have RD2 := Lib.hid (tail_reads (w := w) (B := w.heap.size) hst.out.rd (c := c') (i := 2 + r.getD 1 0) (by omega) hst.out.le (by omega))
            have DS : Hid (∀ W', Below (w.heap.size + 2) W W' → (convert 37 9 (.slice (if c' = 2 then some ad else some ⟨ad.block, ad.off + 2, none⟩) (r.getD 1 0) (c' - 2))).run Try.prog W' = .ok (.string (strOf ((r.drop 2).take (r.getD 1 0)))) W') := Lib.hid (by
              intro W' hb
              rcases Nat.eq_zero_or_pos (r.getD 1 0) with hn | hn
              · rw [hn]
                have h0 : Reads W' W'.heap.size 1 (if c' = 2 then some ad else some ⟨ad.block, ad.off + 2, none⟩) 0 (bs []) := ⟨rfl, fun h => absurd h (by omega)⟩
                exact run_bytes_str Try.underlying37 Try.underlying5 Try.underlying9 (c' - 2) h0
              · have h1 := reads_part (i := 2) (n := r.getD 1 0) ((hst.out.rd.below hst.out.bel).below (hb.mono (by omega))) (by omega) c' hst.out.le hn
                rw [part_length (by omega)] at h1
                exact run_bytes_str Try.underlying37 Try.underlying5 Try.underlying9 (c' - 2) h1)
            have hnlt : ¬ ((r.length : Int) - 2) < ((r.getD 1 0 : Nat) : Int) := by omega
            generalize hq : (r.drop 2).take (r.getD 1 0) = q at *
            have HB0 : Hid (r.getD 0 0 ≠ 255 ∧ r.getD 0 0 ≠ 0) := Lib.hid ⟨h255, hz⟩
            generalize r.getD 0 0 = b0 at *
            generalize r.getD 1 0 = b1 at *
            have c9 : W.cell? ⟨w.heap.size + 1, 9, none⟩ = some v := hst.out.cur.cell 9
            have f9 := hst.out.cur.frozen 9
            clear h3 h0 hu2 e2 hq
            have HS : Hid (∀ W', Below (w.heap.size + 2) W W' → W'.cell? ⟨w.heap.size + 1, 9, none⟩ = some v ∧ W'.cell? ad = some (.int .u8 b0) ∧ W'.cell? ⟨ad.block, ad.off + 1, none⟩ = some (.int .u8 b1) ∧ (convert 37 9 (.slice (if c' = 2 then some ad else some ⟨ad.block, ad.off + 2, none⟩) b1 (c' - 2))).run Try.prog W' = .ok (.string (strOf q)) W') := Lib.hid fun W' hb =>
              ⟨(hb.cell (by simp)).trans c9, (hb.cell (by omega)).trans hcl, (hb.cell (by simp only; omega)).trans hcl2, DS.out W' hb⟩
            clear DS
            have hsz : w.heap.size + 2 ≤ W.heap.size := hst.out.cur.lt
            have HSZ := Lib.hid hsz
            clear hsz
            go_wp2_with fail
            refine wp_region_last (S := fun w' => Below (w.heap.size + 2) W w') 18 (by kernel_rfl) ?_
            obtain ⟨w0, hw0⟩ : ∃ w0, w0 = W.drew := ⟨_, rfl⟩
            have hHeld : Below (w.heap.size + 2) W w0 := by rw [hw0]; exact redrew (Below.refl _ _)
            have OW : Hid (w0.ownsRow (w.heap.size + 2) 28 3 v acc.length (os acc)) := Lib.hid (by rw [hw0]; exact hst.out.own.drew)
            rw [← hw0]
            clear hw0 c9 f9
            have hw1 : IntKind.i64.wrap (b1 : Int) = (b1 : Int) := wrap_small (by omega)
            have hw2 : IntKind.i64.wrap (2 + (b1 : Int)) = 2 + (b1 : Int) := by have := wrap_small (x := 2 + b1) (by omega); simpa using this
            have hw6 : IntKind.i64.wrap (b0 : Int) = (b0 : Int) := wrap_small (by omega)
            have hw3 : (2 + (b1 : Int)).toNat = 2 + b1 := by omega
            have hw5 : max (2 + (b1 : Int)) 0 = 2 + (b1 : Int) := by omega
            have hw7 : (0 : Int) ≤ 2 + (b1 : Int) := by omega
            have hw8 : 2 + (b1 : Int) ≤ (c' : Int) := by omega
            have hw9 : (2 : Int) ≤ 2 + (b1 : Int) := by omega
            refine upToLast.take (i := 0) (oi := ⟨some 97, _, _, _, _, _⟩) (v := ?_) rfl (by kernel_rfl) (by kernel_rfl) (by kernel_rfl) (by kernel_rfl) (fun _ _ _ h => h) (by decide) (Or.inl ⟨by rfl, ?_⟩) hHeld ?_
            rotate_left 1
            · (intro w hSw; obtain ⟨S1, S2, S3, S4⟩ := HS.out w hSw; clear hSw; go_simp; try with_reducible rfl)
            try simp only [Act.put, List.setIfInBounds_toArray, List.set_cons_zero, List.set_cons_succ]
            refine upToLast.take (i := 1) (oi := ⟨some 98, _, _, _, _, _⟩) (v := ?_) rfl (by kernel_rfl) (by kernel_rfl) (by kernel_rfl) (by kernel_rfl) (fun _ _ _ h => h) (by decide) (Or.inl ⟨by rfl, ?_⟩) hHeld ?_
            rotate_left 1
            · (intro w hSw; obtain ⟨S1, S2, S3, S4⟩ := HS.out w hSw; clear hSw; go_simp; try with_reducible rfl)
            try simp only [Act.put, List.setIfInBounds_toArray, List.set_cons_zero, List.set_cons_succ]
            refine upToLast.take (i := 2) (oi := ⟨some 99, _, _, _, _, _⟩) (v := ?_) rfl (by kernel_rfl) (by kernel_rfl) (by kernel_rfl) (by kernel_rfl) (fun _ _ _ h => h) (by decide) (Or.inl ⟨by rfl, ?_⟩) hHeld ?_
            rotate_left 1
            · (intro w hSw; obtain ⟨S1, S2, S3, S4⟩ := HS.out w hSw; clear hSw; go_simp; try with_reducible rfl)
            try simp only [Act.put, List.setIfInBounds_toArray, List.set_cons_zero, List.set_cons_succ]
            refine upToLast.take (i := 3) (oi := ⟨some 100, _, _, _, _, _⟩) (v := ?_) rfl (by kernel_rfl) (by kernel_rfl) (by kernel_rfl) (by kernel_rfl) (fun _ _ _ h => h) (by decide) (Or.inl ⟨by rfl, ?_⟩) hHeld ?_
            rotate_left 1
            · (intro w hSw; obtain ⟨S1, S2, S3, S4⟩ := HS.out w hSw; clear hSw; go_simp; try with_reducible rfl)
            try simp only [Act.put, List.setIfInBounds_toArray, List.set_cons_zero, List.set_cons_succ]
            refine upToLast.take (i := 4) (oi := ⟨some 101, _, _, _, _, _⟩) (v := ?_) rfl (by kernel_rfl) (by kernel_rfl) (by kernel_rfl) (by kernel_rfl) (fun _ _ _ h => h) (by decide) (Or.inl ⟨by rfl, ?_⟩) hHeld ?_
            rotate_left 1
            · (intro w hSw; obtain ⟨S1, S2, S3, S4⟩ := HS.out w hSw; clear hSw; go_simp; try with_reducible rfl)
            try simp only [Act.put, List.setIfInBounds_toArray, List.set_cons_zero, List.set_cons_succ]
            refine upToLast.take (i := 5) (oi := ⟨some 102, _, _, _, _, _⟩) (v := ?_) rfl (by kernel_rfl) (by kernel_rfl) (by kernel_rfl) (by kernel_rfl) (fun _ _ _ h => h) (by decide) (Or.inl ⟨by rfl, ?_⟩) hHeld ?_
            rotate_left 1
            · (intro w hSw; obtain ⟨S1, S2, S3, S4⟩ := HS.out w hSw; clear hSw; go_simp; try with_reducible rfl)
            try simp only [Act.put, List.setIfInBounds_toArray, List.set_cons_zero, List.set_cons_succ]
            refine upToLast.take (i := 6) (oi := ⟨some 103, _, _, _, _, _⟩) (v := ?_) rfl (by kernel_rfl) (by kernel_rfl) (by kernel_rfl) (by kernel_rfl) (fun _ _ _ h => h) (by decide) (Or.inl ⟨by rfl, ?_⟩) hHeld ?_
            rotate_left 1
            · (intro w hSw; obtain ⟨S1, S2, S3, S4⟩ := HS.out w hSw; clear hSw; go_simp; try with_reducible rfl)
            try simp only [Act.put, List.setIfInBounds_toArray, List.set_cons_zero, List.set_cons_succ]
            refine upToLast.take (i := 7) (oi := ⟨some 104, _, _, _, _, _⟩) (v := ?_) rfl (by kernel_rfl) (by kernel_rfl) (by kernel_rfl) (by kernel_rfl) (fun _ _ _ h => h) (by decide) (Or.inl ⟨by rfl, ?_⟩) hHeld ?_
            rotate_left 1
            · (intro w hSw; obtain ⟨S1, S2, S3, S4⟩ := HS.out w hSw; clear hSw; go_simp; try with_reducible rfl)
            try simp only [Act.put, List.setIfInBounds_toArray, List.set_cons_zero, List.set_cons_succ]
            refine upToLast.take (i := 8) (oi := ⟨some 105, _, _, _, _, _⟩) (v := ?_) rfl (by kernel_rfl) (by kernel_rfl) (by kernel_rfl) (by kernel_rfl) (fun _ _ _ h => h) (by decide) (Or.inl ⟨by rfl, ?_⟩) hHeld ?_
            rotate_left 1
            · (intro w hSw; obtain ⟨S1, S2, S3, S4⟩ := HS.out w hSw; clear hSw; go_simp; try with_reducible rfl)
            try simp only [Act.put, List.setIfInBounds_toArray, List.set_cons_zero, List.set_cons_succ]
            refine upToLast.take (i := 9) (oi := ⟨some 106, _, _, _, _, _⟩) (v := ?_) rfl (by kernel_rfl) (by kernel_rfl) (by kernel_rfl) (by kernel_rfl) (fun _ _ _ h => h) (by decide) (Or.inl ⟨by rfl, ?_⟩) hHeld ?_
            rotate_left 1
            · (intro w hSw; obtain ⟨S1, S2, S3, S4⟩ := HS.out w hSw; clear hSw; go_simp; try with_reducible rfl)
            try simp only [Act.put, List.setIfInBounds_toArray, List.set_cons_zero, List.set_cons_succ]
            refine upToLast.take (i := 10) (oi := ⟨some 107, _, _, _, _, _⟩) (v := ?_) rfl (by kernel_rfl) (by kernel_rfl) (by kernel_rfl) (by kernel_rfl) (fun _ _ _ h => h) (by decide) (Or.inl ⟨by rfl, ?_⟩) hHeld ?_
            rotate_left 1
            · (intro w hSw; obtain ⟨S1, S2, S3, S4⟩ := HS.out w hSw; clear hSw; go_simp; try with_reducible rfl)
            try simp only [Act.put, List.setIfInBounds_toArray, List.set_cons_zero, List.set_cons_succ]
            refine upToLast.take (i := 11) (oi := ⟨some 108, _, _, _, _, _⟩) (v := ?_) rfl (by kernel_rfl) (by kernel_rfl) (by kernel_rfl) (by kernel_rfl) (fun _ _ _ h => h) (by decide) (Or.inl ⟨by rfl, ?_⟩) hHeld ?_
            rotate_left 1
            · (intro w hSw; obtain ⟨S1, S2, S3, S4⟩ := HS.out w hSw; clear hSw; go_simp; try with_reducible rfl)
            try simp only [Act.put, List.setIfInBounds_toArray, List.set_cons_zero, List.set_cons_succ]
            refine upToLast.take (i := 12) (oi := ⟨some 109, _, _, _, _, _⟩) (v := ?_) rfl (by kernel_rfl) (by kernel_rfl) (by kernel_rfl) (by kernel_rfl) (fun _ _ _ h => h) (by decide) (Or.inl ⟨by rfl, ?_⟩) hHeld ?_
            rotate_left 1
            · (intro w hSw; obtain ⟨S1, S2, S3, S4⟩ := HS.out w hSw; clear hSw; go_simp; try with_reducible rfl)
            try simp only [Act.put, List.setIfInBounds_toArray, List.set_cons_zero, List.set_cons_succ]
            refine upToLast.take (i := 13) (oi := ⟨some 110, _, _, _, _, _⟩) (v := ?_) rfl (by kernel_rfl) (by kernel_rfl) (by kernel_rfl) (by kernel_rfl) (fun _ _ _ h => h) (by decide) (Or.inl ⟨by rfl, ?_⟩) hHeld ?_
            rotate_left 1
            · (intro w hSw; obtain ⟨S1, S2, S3, S4⟩ := HS.out w hSw; clear hSw; go_simp; try with_reducible rfl)
            try simp only [Act.put, List.setIfInBounds_toArray, List.set_cons_zero, List.set_cons_succ]
            refine upToLast.take (i := 14) (oi := ⟨some 111, _, _, _, _, _⟩) (v := ?_) rfl (by kernel_rfl) (by kernel_rfl) (by kernel_rfl) (by kernel_rfl) (fun _ _ _ h => h) (by decide) (Or.inl ⟨by rfl, ?_⟩) hHeld ?_
            rotate_left 1
            · (intro w hSw; obtain ⟨S1, S2, S3, S4⟩ := HS.out w hSw; clear hSw; go_simp; try with_reducible rfl)
            try simp only [Act.put, List.setIfInBounds_toArray, List.set_cons_zero, List.set_cons_succ]
            clear hw1 hw2 hw3 hw5 hw6 hw7 hw8 hw9
            refine upToLast.next (rs := [15]) (by kernel_rfl) (by simp) ?_
            refine (each1.cons rfl (fun K hK => ?_) each1.nil)
            go_simp
            have hs0 : w.heap.size + 2 ≤ w0.heap.size := Nat.le_trans HSZ.out hHeld.size
            refine hK.out _ _ (fun _ => hHeld.alloc hs0 _) ?_
            clear hK K
            try simp only [Act.put, List.setIfInBounds_toArray, List.set_cons_zero, List.set_cons_succ]
            refine upToLast.next (rs := [16]) (by kernel_rfl) (by simp) ?_
            refine (each1.cons rfl (fun K hK => ?_) each1.nil)
            refine step_app_opt rfl (.tmp 98) (.tmp 112) rfl (w.heap.size + 2) _ v acc rfl (OW.out.alloc _) (⟨0, b0, strOf q⟩ : Opt) w0.heap.size rfl (Blk.new w0 28 _) (by have := hst.out.room; omega) (Nat.le_trans hs0 (by simp)) ?_
            intro v2 w2 ho2 hb2
            have B2 : Below (w.heap.size + 2) W w2 := (hHeld.alloc hs0 _).trans hb2
            refine hK.out _ _ (fun _ => B2) ?_
            clear hK K hHeld hb2
            try simp only [Act.put, List.setIfInBounds_toArray, List.set_cons_zero, List.set_cons_succ]
            refine upToLast.next (rs := [17]) (by kernel_rfl) (by simp) ?_
            refine (each1.cons rfl (fun K hK => ?_) each1.nil)
            go_simp
            refine hK.out _ _ (fun _ => B2) ?_
            clear hK K
            try simp only [Act.put, List.setIfInBounds_toArray, List.set_cons_zero, List.set_cons_succ]
            refine upToLast.next (rs := [18]) (by kernel_rfl) (by simp) ?_
            refine (each1.cons rfl (fun K hK => ?_) each1.nil)
            have X2 := hst.out.cur.below B2 (by omega)
            have x9 : w2.cell? ⟨w.heap.size + 1, 9, none⟩ = some v := X2.cell 9
            have fx9 := X2.frozen 9
            obtain ⟨A2, c2, rfl, _⟩ := own_slice ho2
            go_simp
            refine hK.out _ _ (fun h => absurd rfl h) ?_
            clear hK K
            try simp only [Act.put, List.setIfInBounds_toArray, List.set_cons_zero, List.set_cons_succ]
            refine upToLast.done (by kernel_rfl) ?_ _
            generalize hw3 : w2.setCell _ _ = w3
            have B3 : Below (w.heap.size + 1) W w3 := by rw [← hw3]; exact (B2.mono (by omega)).setCell (by simp) _
            have X3 : Blk w3 (w.heap.size + 1) 31 ((msgOf l (acc ++ [(⟨0, b0, strOf q⟩ : Opt)])).val (.slice A2 (acc ++ [(⟨0, b0, strOf q⟩ : Opt)]).length c2)) := by rw [← hw3, show (acc ++ [(⟨0, b0, strOf q⟩ : Opt)]).length = acc.length + 1 by simp]; exact X2.set_ 9 _
            have O3 : w3.ownsRow (w.heap.size + 2) 28 3 (.slice A2 (acc ++ [(⟨0, b0, strOf q⟩ : Opt)]).length c2) (acc ++ [(⟨0, b0, strOf q⟩ : Opt)]).length (os (acc ++ [(⟨0, b0, strOf q⟩ : Opt)])) := by rw [← hw3]; exact ownsRow_setCell_below ho2 (by simp) _
            have k3 : w3.cell? ⟨ad.block, ad.off + 1, none⟩ = some (.int .u8 b1) := (B3.cell (by simp only; omega)).trans hcl2
            have R3 := hst.out.res.below B3 (by omega)
            have DC : Hid (Dc w w3 l (r.drop (2 + b1)) (if c' = 2 + b1 then some ad else some ⟨ad.block, ad.off + (2 + b1), none⟩) (c' - (2 + b1)) (acc ++ [(⟨0, b0, strOf q⟩ : Opt)]) (.slice A2 (acc ++ [(⟨0, b0, strOf q⟩ : Opt)]).length c2)) := Lib.hid (by
              have Z := hst.out
              refine ⟨RD2.out, by rw [List.length_drop]; omega, drop_le Z.h8 _, R3, X3, O3, Z.bel.trans (B3.mono (by omega)), Z.par.trans PM.out, ?_, Z.hd, by rw [List.length_drop]; have := Z.len; omega⟩
              have := Z.room
              rw [CM.out] at this
              simp only [List.length_append, List.length_cons, List.length_nil]; omega)
            clear X2 x9 fx9 B2 ho2 hw3 X3 O3 R3 B3
            by_cases hcc : c' = 2 + b1
            all_goals
              go_wp2_with fail
              all_goals
                go_step3
                show J1 _ _ ∧ _
                rw [HJ1.out]
                refine ⟨⟨_, _, _, _, _, DC, ⟨rfl, rfl, ?sl, rfl, rfl, rfl, rfl⟩⟩, ?mu⟩
                case sl =>
                  rw [List.length_drop]
                  show Value.slice _ _ _ = _
                  first
                    | (rw [if_pos hcc]; simp only [Value.slice.injEq, true_and] <;> omega)
                    | (rw [if_neg hcc, ← addr_addn ad (n := 2 + b1) (by omega)])
                case mu => simp [lenOf]; omega
  case first =>
    intro KEY
    go_upto_region 2 with (fail)
    generalize hW2 : (w.alloc _).alloc _ = W2
    have HW : Hid (Blk W2 w.heap.size 31 (noMsg.val (.slice none 0 0)) ∧ Blk W2 (w.heap.size + 1) 31 (noMsg.val (.slice none 0 0)) ∧ Below w.heap.size w W2 ∧ W2.heap.size = w.heap.size + 2) := Lib.hid (by
      rw [← hW2]
      refine ⟨(Blk.new _ _ _).alloc _, ?_, ((Below.refl _ _).alloc (Nat.le_refl _) _).alloc (by simp) _, by simp⟩
      have := Blk.new (w.alloc (.cells (noMsg.val (.slice none 0 0)) 31)) 31 (noMsg.val (.slice none 0 0))
      rw [show (w.alloc (.cells (noMsg.val (.slice none 0 0)) 31)).heap.size = w.heap.size + 1 by simp] at this
      exact this)
    have hr2 := hr.below HW.out.2.2.1
    clear hW2
    have HKEY := KEY
    clear KEY
    go_cut [32] (fun s32 wx => s32 = .bool (!headB l) ∧ wx = W2)
    case first =>
      by_cases hL : l.length < 240
      · go_wp2_with fail
        go_meet
        refine ⟨?_, rfl⟩
        have : headB l = false := by
          unfold headB
          rw [show decide (240 ≤ l.length) = false by simp; omega]
          rfl
        rw [this]; rfl
      · obtain ⟨ad, u, rfl, hab, hu, hcl⟩ := hr2.at_ (k := 0) (by omega)
        obtain ⟨_, rfl⟩ := bs_at hu
        rw [addr_add0] at hcl
        have k1 := part_str c hr2 1 3 (by omega) hc (by omega) (by omega)
        have k2 := part_str c hr2 236 4 (by omega) hc (by omega) (by omega)
        have E1 : ((strOf ((l.drop 1).take 3)).toList == [1, 6, 0]) = decide ((l.drop 1).take 3 = [1, 6, 0]) := str_is _ _ (bytes_part h8 1 3) (by decide)
        have E2 : ((strOf ((l.drop 236).take 4)).toList == [99, 130, 83, 99]) = decide ((l.drop 236).take 4 = [99, 130, 83, 99]) := str_is _ _ (bytes_part h8 236 4) (by decide)
        have HB : Hid (headB l = ((decide (l.getD 0 0 = 1) || decide (l.getD 0 0 = 2)) && ((strOf ((l.drop 1).take 3)).toList == [1, 6, 0]) && ((strOf ((l.drop 236).take 4)).toList == [99, 130, 83, 99]))) := Lib.hid (by
          unfold headB
          rw [E1, E2, show decide (240 ≤ l.length) = true by simp; omega]
          rfl)
        clear E1 E2
        generalize strOf ((l.drop 1).take 3) = s1 at *
        generalize strOf ((l.drop 236).take 4) = s2 at *
        have HB2 : Hid (l.getD 0 0 = 1 ∨ l.getD 0 0 = 2 ∨ (l.getD 0 0 ≠ 1 ∧ l.getD 0 0 ≠ 2)) := Lib.hid (by omega)
        have h80 := h8 0
        generalize l.getD 0 0 = b at *
        by_cases m1 : (s1.toList == [1, 6, 0]) = true
        · rcases HB2.out with o1 | o1 | ⟨o1, o2⟩
          · subst o1
            rw [show ((1 : Nat) : Int) = 1 from rfl] at hcl
            go_wp2_with fail
            go_meet
            refine ⟨?_, rfl⟩
            rw [HB.out, m1]; simp; omega
          · subst o1
            rw [show ((2 : Nat) : Int) = 2 from rfl] at hcl
            go_wp2_with fail
            go_meet
            refine ⟨?_, rfl⟩
            rw [HB.out, m1]; simp; omega
          · go_wp2_with fail
            go_meet
            refine ⟨?_, rfl⟩
            rw [HB.out]; simp [o1, o2]
        · simp only [Bool.not_eq_true] at m1
          rcases HB2.out with o1 | o1 | ⟨o1, o2⟩
          · subst o1
            rw [show ((1 : Nat) : Int) = 1 from rfl] at hcl
            go_wp2_with fail
            go_meet
            refine ⟨?_, rfl⟩
            rw [HB.out, m1]; simp
          · subst o1
            rw [show ((2 : Nat) : Int) = 2 from rfl] at hcl
            go_wp2_with fail
            go_meet
            refine ⟨?_, rfl⟩
            rw [HB.out, m1]; simp
          · go_wp2_with fail
            go_meet
            refine ⟨?_, rfl⟩
            rw [HB.out]; simp [o1, o2]
    case rest =>
      obtain ⟨rfl, rfl⟩ := hcut
      rcases hh : headB l with _ | _
      · have HD := Lib.hid (dec_no hh)
        go_wp2_with fail
        go_step3
        show J0 _ _
        rw [hJ0.out]
        exact ⟨Lib.hid ⟨HW.out.1, HW.out.2.2.1, HD.out⟩, _, _, ⟨rfl, rfl, rfl, rfl, rfl, rfl, rfl⟩⟩
      · have hL : 240 ≤ l.length := by
          unfold headB at hh
          simp only [Bool.and_eq_true, decide_eq_true_eq] at hh
          exact hh.1.1.1
        have HH := Lib.hid hh
        clear hh
        obtain ⟨ad, u, rfl, hab, hu, hcl⟩ := hr2.at_ (k := 0) (by omega)
        obtain ⟨_, rfl⟩ := bs_at hu
        rw [addr_add0] at hcl
        have G : ∀ i n, 0 < i → 0 < n → n ≤ 8 → i + n ≤ l.length → Hid (Calls Try.prog 17 #[.slice (some ⟨ad.block, ad.off + i, none⟩) n (c - i)] wc.drew fun e w' => e = .returned (.int .u64 (numAt l i n : Nat)) ∧ w' = wc.drew) := by
          intro i n h0 hn hn8 hi
          have h1 := get_any (some ⟨ad.block, ad.off + i, none⟩) (c - i) ((l.drop i).take n) wc.drew (by
            have := part_reads (w := wc.drew) (B := w.heap.size) c hr2 i n hi hc hn h0
            rw [part_length hi]
            exact ⟨this.1, fun h => by obtain ⟨p, hp, hlt, hx⟩ := this.2 h; exact ⟨p, hp, Nat.lt_of_lt_of_le hlt HW.out.2.2.1.size, hx⟩⟩) (part_le h8 i n) (by rw [part_length hi]; exact hn8)
          rw [part_length hi] at h1
          exact Lib.hid (h1.mono fun e w' hh => ⟨hh.1, hh.2.symm⟩)
        have g4 := G 4 4 (by omega) (by omega) (by omega) (by omega)
        have g8 := G 8 2 (by omega) (by omega) (by omega) (by omega)
        have g10 := G 10 2 (by omega) (by omega) (by omega) (by omega)
        have g12 := G 12 4 (by omega) (by omega) (by omega) (by omega)
        have g16 := G 16 4 (by omega) (by omega) (by omega) (by omega)
        have g20 := G 20 4 (by omega) (by omega) (by omega) (by omega)
        have g24 := G 24 4 (by omega) (by omega) (by omega) (by omega)
        have g28 := G 28 6 (by omega) (by omega) (by omega) (by omega)
        have wb : IntKind.i64.wrap ((l.getD 0 0 : Nat) : Int) = ((l.getD 0 0 : Nat) : Int) := wrap_small (by have := h8 0; omega)
        have w8 : IntKind.i64.wrap ((numAt l 8 2 : Nat) : Int) = ((numAt l 8 2 : Nat) : Int) := wrap_small (by have := numAt_lt h8 (i := 8) (n := 2) (by omega); omega)
        have w10 : IntKind.i64.wrap ((numAt l 10 2 : Nat) : Int) = ((numAt l 10 2 : Nat) : Int) := wrap_small (by have := numAt_lt h8 (i := 10) (n := 2) (by omega); omega)
        have w4 : IntKind.u32.wrap ((numAt l 4 4 : Nat) : Int) = ((numAt l 4 4 : Nat) : Int) := wrap_small32 (by have := numAt_lt h8 (i := 4) (n := 4) (by omega); omega)
        have w12 : IntKind.u32.wrap ((numAt l 12 4 : Nat) : Int) = ((numAt l 12 4 : Nat) : Int) := wrap_small32 (by have := numAt_lt h8 (i := 12) (n := 4) (by omega); omega)
        have w16 : IntKind.u32.wrap ((numAt l 16 4 : Nat) : Int) = ((numAt l 16 4 : Nat) : Int) := wrap_small32 (by have := numAt_lt h8 (i := 16) (n := 4) (by omega); omega)
        have w20 : IntKind.u32.wrap ((numAt l 20 4 : Nat) : Int) = ((numAt l 20 4 : Nat) : Int) := wrap_small32 (by have := numAt_lt h8 (i := 20) (n := 4) (by omega); omega)
        have w24 : IntKind.u32.wrap ((numAt l 24 4 : Nat) : Int) = ((numAt l 24 4 : Nat) : Int) := wrap_small32 (by have := numAt_lt h8 (i := 24) (n := 4) (by omega); omega)
        have q4 : (4 : Int) ≤ (c : Int) := by omega
        have p4 : c ≠ 4 := by omega
        have r4 : (4 : Int) ≤ (l.length : Int) := by omega
        have q8 : (8 : Int) ≤ (c : Int) := by omega
        have p8 : c ≠ 8 := by omega
        have r8 : (8 : Int) ≤ (l.length : Int) := by omega
        have q10 : (10 : Int) ≤ (c : Int) := by omega
        have p10 : c ≠ 10 := by omega
        have r10 : (10 : Int) ≤ (l.length : Int) := by omega
        have q12 : (12 : Int) ≤ (c : Int) := by omega
        have p12 : c ≠ 12 := by omega
        have r12 : (12 : Int) ≤ (l.length : Int) := by omega
        have q16 : (16 : Int) ≤ (c : Int) := by omega
        have p16 : c ≠ 16 := by omega
        have r16 : (16 : Int) ≤ (l.length : Int) := by omega
        have q20 : (20 : Int) ≤ (c : Int) := by omega
        have p20 : c ≠ 20 := by omega
        have r20 : (20 : Int) ≤ (l.length : Int) := by omega
        have q24 : (24 : Int) ≤ (c : Int) := by omega
        have p24 : c ≠ 24 := by omega
        have r24 : (24 : Int) ≤ (l.length : Int) := by omega
        have q28 : (28 : Int) ≤ (c : Int) := by omega
        have p28 : c ≠ 28 := by omega
        have r28 : (28 : Int) ≤ (l.length : Int) := by omega
        have q34 : (34 : Int) ≤ (c : Int) := by omega
        have p34 : c ≠ 34 := by omega
        have r34 : (34 : Int) ≤ (l.length : Int) := by omega
        have HM : Hid (∀ o v, (msgOf l o).val v = #[.int .i64 (l.getD 0 0 : Nat), .int .u32 (numAt l 4 4 : Nat), .int .i64 (numAt l 8 2 : Nat), .int .i64 (numAt l 10 2 : Nat), .int .u32 (numAt l 12 4 : Nat), .int .u32 (numAt l 16 4 : Nat), .int .u32 (numAt l 20 4 : Nat), .int .u32 (numAt l 24 4 : Nat), .int .u64 (numAt l 28 6 : Nat), v]) := Lib.hid fun o v => rfl
        clear G hu
        generalize numAt l 4 4 = n4 at *
        generalize numAt l 8 2 = n8 at *
        generalize numAt l 10 2 = n10 at *
        generalize numAt l 12 4 = n12 at *
        generalize numAt l 16 4 = n16 at *
        generalize numAt l 20 4 = n20 at *
        generalize numAt l 24 4 = n24 at *
        generalize numAt l 28 6 = n28 at *
        generalize l.getD 0 0 = b0 at *
        go_upto_region 3 with (fail)
        refine wp_region_still_tail 36 (by kernel_rfl) (by kernel_rfl) ?_
        simp only [List.take_succ_cons, List.take_zero, List.drop_succ_cons, List.drop_zero]
        repeat still_step
        still_call g4.out
        repeat still_step
        still_call g8.out
        repeat still_step
        still_call g10.out
        repeat still_step
        still_call g12.out
        repeat still_step
        still_call g16.out
        repeat still_step
        still_call g20.out
        repeat still_step
        still_call g24.out
        repeat still_step
        still_call g28.out
        repeat still_step
        refine wpStill_nil ?_
        change wpList _ _ _ _ _ wc.drew
        clear g4 g8 g10 g12 g16 g20 g24 g28
        have c0 : wc.cell? ⟨w.heap.size + 1, 0, none⟩ = some (.int .i64 0) := HW.out.2.1.cell 0
        have f0 := HW.out.2.1.frozen 0
        have c1 : wc.cell? ⟨w.heap.size + 1, 1, none⟩ = some (.int .u32 0) := HW.out.2.1.cell 1
        have f1 := HW.out.2.1.frozen 1
        have c2 : wc.cell? ⟨w.heap.size + 1, 2, none⟩ = some (.int .i64 0) := HW.out.2.1.cell 2
        have f2 := HW.out.2.1.frozen 2
        have c3 : wc.cell? ⟨w.heap.size + 1, 3, none⟩ = some (.int .i64 0) := HW.out.2.1.cell 3
        have f3 := HW.out.2.1.frozen 3
        have c4 : wc.cell? ⟨w.heap.size + 1, 4, none⟩ = some (.int .u32 0) := HW.out.2.1.cell 4
        have f4 := HW.out.2.1.frozen 4
        have c5 : wc.cell? ⟨w.heap.size + 1, 5, none⟩ = some (.int .u32 0) := HW.out.2.1.cell 5
        have f5 := HW.out.2.1.frozen 5
        have c6 : wc.cell? ⟨w.heap.size + 1, 6, none⟩ = some (.int .u32 0) := HW.out.2.1.cell 6
        have f6 := HW.out.2.1.frozen 6
        have c7 : wc.cell? ⟨w.heap.size + 1, 7, none⟩ = some (.int .u32 0) := HW.out.2.1.cell 7
        have f7 := HW.out.2.1.frozen 7
        have c8 : wc.cell? ⟨w.heap.size + 1, 8, none⟩ = some (.int .u64 0) := HW.out.2.1.cell 8
        have f8 := HW.out.2.1.frozen 8
        have c9 : wc.cell? ⟨w.heap.size + 1, 9, none⟩ = some (.slice none 0 0) := HW.out.2.1.cell 9
        have f9 := HW.out.2.1.frozen 9
        go_wp2
        all_goals
          rename_i K HK
          have T := tail_reads (w := w) (B := w.heap.size) hr (c := c) (i := 240) (by omega) hc (by omega)
          refine wp_label ?_
          refine HK _ _ (HKEY.out _ _ ?_)
          rw [hJ1.out]
          refine ⟨l.drop 240, (if c = 240 then some ad else some ⟨ad.block, ad.off + 240, none⟩), c - 240, [], .slice none 0 0, Lib.hid ?dc, ⟨rfl, rfl, ?sl, rfl, rfl, rfl, rfl⟩⟩
          case sl => rw [List.length_drop]; first | (subst h; rw [if_pos rfl]; rfl) | (rw [if_neg h]; rfl)
          case dc =>
            refine ⟨T, by rw [List.length_drop]; omega, drop_le h8 240, ?_, ?_, World.ownsRow_nil _ _ 28 3, ?_, rfl, by simpa using hroom, HH.out, by rw [List.length_drop]; omega⟩
            · exact (far10 HW.out.1 (by omega) _ _ _ _ _ _ _ _ _ _).drew
            · rw [HM.out]; exact (set10 HW.out.2.1 _ _ _ _ _ _ _ _ _ _).drew
            · exact redrew (below10 HW.out.2.2.1 (by omega) _ _ _ _ _ _ _ _ _ _)
end Go.Proofs.Ytbekgccecdjdeaa
