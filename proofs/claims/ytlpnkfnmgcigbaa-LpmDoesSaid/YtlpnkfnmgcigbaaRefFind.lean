/- The reference's Find. -/
import Derived.Test.YtlpnkfnmgcigbaaRef
import Derived.Test.YtlpnkfnmgcigbaaFind
namespace Go.Proofs.Ytlpnkfnmgcigbaa
open Go.RowKit Lp

/-- The best so far, as cells: a length of -1 where there is none. -/
def bn (o : Option Rt) : Int := match o with | some r => r.n | none => -1
theorem bn_rn {o : Option Rt} (h : o.isSome = true) : bn o = rn o := by cases o with | none => cases h | some r => rfl
def bdC (o : Option Rt) : Array Value := #[.int .u32 (rp o), .int .i64 (bn o), .int .i64 (rv o)]
structure Rd (w W : World) (ip : Nat) (L : List Rt) (i : Nat) (o : Option Rt) : Prop where
  fold : (L.drop i).foldl (better ip) o = L.foldl (better ip) none
  res : Blk W w.heap.size 37 #[.int .u32 0, .int .i64 0, .int .i64 0]
  cur : Blk W (w.heap.size + 1) 37 (bdC o)
  below : Below w.heap.size w W
theorem Rd.drewN {w W : World} {ip : Nat} {L : List Rt} {i : Nat} {o : Option Rt} (h : Rd w W ip L i o) (n : Nat) : Rd w (W.drewN n) ip L i o := ⟨h.fold, h.res.drewN n, h.cur.drewN n, below_drewN h.below n⟩

set_option maxRecDepth 100000 in
set_option maxHeartbeats 4000000 in
theorem rfind_best (x g ip : Nat) (L : List Rt) (w : World) (h : Rf w x g L) (hS : Sorted L) (hRt : Right L) (hp : ip < 4294967296) (hL : L.length ≤ 4398046511104) :
    Calls Try.prog 19 #[.pointer (some ⟨x, 0, none⟩), .int .u32 ip] w fun e w' => e = .returned (.tuple #[rtV (lon L ip 33), .bool (lon L ip 33).isSome]) ∧ Below w.heap.size w w' := by
  obtain ⟨A, c, hB, hr, _, hc⟩ := h.row
  have hxl := hB.lt
  have HX := Lib.hid hB
  have HR := Lib.hid hr
  have HRT := Lib.hid hRt
  have HFE := Lib.hid (find_eq hS hRt ip)
  have hx0 : w.cell? ⟨x, 0, none⟩ = some (.slice A L.length c) := hB.cell 0
  clear h hB hr hS hRt hx0
  go_enter Try.func19, Try.ntmps19
  go_wp2_with fail
  go_loopw [7] (fun iv W => ∃ (i : Nat) (o : Option Rt), i ≤ L.length ∧ iv = .int .i64 i ∧ Hid (Rd w W ip L i o)) (fun iv _ => L.length - (intOf iv).toNat)
  case atStart =>
    refine ⟨0, none, by omega, rfl, Lib.hid ⟨rfl, ?_, ?_, ?_⟩⟩
    · exact (Blk.new w 37 _).alloc _
    · have := Blk.new (w.alloc (.cells #[.int .u32 0, .int .i64 0, .int .i64 0] 37)) 37 #[.int .u32 0, .int .i64 (-1), .int .i64 0]
      have e : bdC none = #[.int .u32 0, .int .i64 (-1), .int .i64 0] := rfl
      rw [e]
      simpa using this
    · exact ((Below.refl _ _).alloc (Nat.le_refl _) _).alloc (by simp) _
  case round =>
    obtain ⟨i, o, hi, rfl, HS⟩ := hrel
    have cx : wr.cell? ⟨x, 0, none⟩ = some (.slice A L.length c) := (HX.out.below HS.out.below hxl).cell 0
    have b0 : wr.cell? ⟨w.heap.size + 1, 0, none⟩ = some (.int .u32 (rp o)) := HS.out.cur.cell 0
    have b1 : wr.cell? ⟨w.heap.size + 1, 1, none⟩ = some (.int .i64 (bn o)) := HS.out.cur.cell 1
    have b2 : wr.cell? ⟨w.heap.size + 1, 2, none⟩ = some (.int .i64 (rv o)) := HS.out.cur.cell 2
    have f0 := HS.out.cur.frozen 0
    have f1 := HS.out.cur.frozen 1
    have f2 := HS.out.cur.frozen 2
    by_cases hil : i < L.length
    · obtain ⟨ad, rfl, hab, hab3, e0, e1, e2⟩ := rt_cells HR.out hil
      rw [← HS.out.below.cell (by first | exact hab | exact hab3)] at e0 e1 e2
      have hd : L.drop i = L[i] :: L.drop (i + 1) := List.drop_eq_getElem_cons hil
      have hF := HS.out.fold
      rw [hd] at hF
      have HF := Lib.hid hF
      have hon : L[i].n ≤ 32 := (HRT.out L[i] (List.getElem_mem hil)).2.1
      clear hd hF
      generalize L[i] = q at *
      obtain ⟨op, on, ov⟩ := q
      simp only at e0 e1 e2 hon
      have MK : Hid (∀ w, Calls Try.prog 15 #[.int .i64 on] w fun e w' => e = .returned (.int .u32 (msk on)) ∧ w = w') := Lib.hid (by have := rmask_any on; rw [clamp_nat hon] at this; exact this)
      have EM : bits BinOp.and IntKind.u32 (ip : Int) (msk on : Nat) = (top ip on : Nat) := by rw [u32_and_nat ip _ hp (msk_lt on), and_msk hp hon]
      have NO : Hid (¬ (top ip on = op ∧ bn o < (on : Int)) → better ip o ⟨op, on, ov⟩ = o) := Lib.hid fun hh => by
        unfold better
        rw [if_neg]
        rintro ⟨g1, g2⟩
        refine hh ⟨g1, ?_⟩
        cases o with
        | none => simp [bn]; omega
        | some r => have := g2 r rfl; simp [bn]; omega
      have YES : Hid (top ip on = op → bn o < (on : Int) → better ip o ⟨op, on, ov⟩ = some ⟨op, on, ov⟩) := Lib.hid fun g1 g2 => by
        unfold better
        rw [if_pos]
        refine ⟨g1, ?_⟩
        rintro r rfl
        simp [bn] at g2; omega
      by_cases hto : top ip on = op
      · have heq : ((top ip on : Nat) : Int) = (op : Int) := by omega
        have EM2 : bits BinOp.and IntKind.u32 (ip : Int) (msk on : Nat) = (op : Int) := EM.trans heq
        by_cases hlt : bn o < (on : Int)
        · have HY := Lib.hid (YES.out hto hlt)
          have hd1 : decide (bn o < (on : Int)) = true := by simpa using hlt
          clear hto EM heq NO YES
          go_wp2_with fail
          go_quiet ((go_at_call 15; exact quiet_left (MK.out _)))
          go_wp2_with fail
          refine ⟨⟨i + 1, some ⟨op, on, ov⟩, by omega, by simp, Lib.hid ⟨by have := HF.out; rw [List.foldl_cons, HY.out] at this; exact this, (HS.out.drewN _).res.far3 (by omega) _ _ _, (HS.out.drewN _).cur.set3 _ _ _, below_set3 (HS.out.drewN _).below (by omega) _ _ _⟩⟩, by simp [intOf]; omega⟩
        · have HN := Lib.hid (NO.out (fun q => hlt q.2))
          have hd1 : decide (bn o < (on : Int)) = false := by simpa using hlt
          clear hto EM heq NO YES
          go_wp2_with fail
          go_quiet ((go_at_call 15; exact quiet_left (MK.out _)))
          go_wp2_with fail
          go_roundw
          case rel => exact ⟨i + 1, o, by omega, by go_num, Lib.hid ⟨by have := HF.out; rw [List.foldl_cons, HN.out] at this; exact this, (HS.out.drewN _).res, (HS.out.drewN _).cur, (HS.out.drewN _).below⟩⟩
          case measure => simp [intOf]; omega
      · have HN := Lib.hid (NO.out (fun q => hto q.1))
        have hne : (((top ip on : Nat) : Int) == (op : Int)) = false := by simp; omega
        have hne2 : ((top ip on) == op) = false := by simp; omega
        clear hto NO YES
        go_wp2_with fail
        go_quiet ((go_at_call 15; exact quiet_left (MK.out _)))
        go_wp2_with fail
        go_roundw
        case rel => exact ⟨i + 1, o, by omega, by go_num, Lib.hid ⟨by have := HF.out; rw [List.foldl_cons, HN.out] at this; exact this, (HS.out.drewN _).res, (HS.out.drewN _).cur, (HS.out.drewN _).below⟩⟩
        case measure => simp [intOf]; omega
    · obtain rfl : i = L.length := by omega
      have HO : Hid (lon L ip 33 = o) := Lib.hid (by
        have := HS.out.fold
        rw [List.drop_length] at this
        rw [← HFE.out, ← this]; rfl)
      have r0 : wr.cell? ⟨w.heap.size, 0, none⟩ = some (.int .u32 0) := HS.out.res.cell 0
      have r1 : wr.cell? ⟨w.heap.size, 1, none⟩ = some (.int .i64 0) := HS.out.res.cell 1
      have r2 : wr.cell? ⟨w.heap.size, 2, none⟩ = some (.int .i64 0) := HS.out.res.cell 2
      have q0 := HS.out.res.frozen 0
      have q1 := HS.out.res.frozen 1
      have q2 := HS.out.res.frozen 2
      cases o with
      | none =>
        have hb : bn none = -1 := rfl
        rw [hb] at b1
        go_wp2_with fail
        exact bodyPost_ret (res3 rfl _ _ w.heap.size _ (HS.out.res.set3 _ _ _) rfl rfl) rfl ⟨by rw [HO.out]; rfl, below_set3 HS.out.below (Nat.le_refl _) _ _ _⟩
      | some r =>
        have hb : bn (some r) = (r.n : Int) := rfl
        rw [hb] at b1
        go_wp2_with fail
        exact bodyPost_ret (res3 rfl _ _ w.heap.size _ (HS.out.res.set3 _ _ _) rfl rfl) rfl ⟨by rw [HO.out]; rfl, below_set3 HS.out.below (Nat.le_refl _) _ _ _⟩
end Go.Proofs.Ytlpnkfnmgcigbaa
