/- What sum.Hash and the hash of the reference compute. -/
import Derived.Test.YtgoegdagliapmaaMix

namespace Go.Proofs.Ytgoegdagliapmaa
open Go.RowKit

def u32 (z : Int) : Nat := (z % 4294967296).toNat
theorem u32_lt (z : Int) : u32 z < 4294967296 := by unfold u32; omega
def hashN (src dst : Nat) (proto sport dport : Int) : Nat :=
  mixr (mixr (mixr (mixr (mixr 2166136261 src 4 4) dst 4 4) (u32 proto) 1 1) (u32 sport) 2 2) (u32 dport) 2 2

theorem mix_int (x h n : Nat) {X H N : Int} (hX : X = x) (hH : H = h) (hN : N = n) (b : Nat) (w : World) (hB : Blk w b 33 #[.int .u32 H]) (hx : x < 4294967296) (hh : h < 4294967296) (hn : n ≤ 4) :
    Calls Try.prog 25 #[.int .u32 X, .int .i64 N, .pointer (some ⟨b, 0, none⟩)] w fun e w' => e = .returned (.tuple #[]) ∧ Blk w' b 33 #[.int .u32 (mixr h x n n : Nat)] ∧ Below b w w' := by
  subst hX; subst hH; subst hN
  exact mix_any x h n b w hB hx hh hn
theorem u32_eq (z : Int) : z % 4294967296 = (u32 z : Int) := by unfold u32; omega

set_option maxRecDepth 100000 in
theorem hash_any (src dst : Nat) (proto sport dport : Int) (w : World) (h1 : src < 4294967296) (h2 : dst < 4294967296) :
    Calls Try.prog 18 #[.int .u32 (src : Int), .int .u32 (dst : Int), .int .i64 proto, .int .i64 sport, .int .i64 dport] w fun e w' => e = .returned (.int .u32 (hashN src dst proto sport dport : Nat)) ∧ Below w.heap.size w w' := by
  obtain ⟨r1, e1⟩ : ∃ r, r = mixr 2166136261 src 4 4 := ⟨_, rfl⟩
  obtain ⟨r2, e2⟩ : ∃ r, r = mixr r1 dst 4 4 := ⟨_, rfl⟩
  obtain ⟨r3, e3⟩ : ∃ r, r = mixr r2 (u32 proto) 1 1 := ⟨_, rfl⟩
  obtain ⟨r4, e4⟩ : ∃ r, r = mixr r3 (u32 sport) 2 2 := ⟨_, rfl⟩
  obtain ⟨r5, e5⟩ : ∃ r, r = mixr r4 (u32 dport) 2 2 := ⟨_, rfl⟩
  have E : r5 = hashN src dst proto sport dport := by subst e1 e2 e3 e4 e5; rfl
  rw [← E]
  have l1 : r1 < 4294967296 := e1 ▸ mixr_lt (by omega) _
  have l2 : r2 < 4294967296 := e2 ▸ mixr_lt l1 _
  have l3 : r3 < 4294967296 := e3 ▸ mixr_lt l2 _
  have l4 : r4 < 4294967296 := e4 ▸ mixr_lt l3 _
  have H1 := Lib.hid e1
  have H2 := Lib.hid e2
  have H3 := Lib.hid e3
  have H4 := Lib.hid e4
  have H5 := Lib.hid e5
  clear e1 e2 e3 e4 e5 E
  go_enter Try.func18, Try.ntmps18
  go_wp2_with fail
  refine (mix_int src 2166136261 4 rfl rfl rfl _ _ (Blk.new w 33 #[.int .u32 2166136261]) h1 (by omega) (by omega)).mono ?_
  rintro e w1 ⟨rfl, hB1, hb1⟩
  rw [← H1.out] at hB1
  go_wp2_with fail
  refine (mix_int dst r1 4 rfl rfl rfl _ _ hB1 h2 l1 (by omega)).mono ?_
  rintro e w2 ⟨rfl, hB2, hb2⟩
  rw [← H2.out] at hB2
  go_wp2_with fail
  refine (mix_int (u32 proto) r2 1 (u32_eq _) rfl rfl _ _ hB2 (u32_lt _) l2 (by omega)).mono ?_
  rintro e w3 ⟨rfl, hB3, hb3⟩
  rw [← H3.out] at hB3
  go_wp2_with fail
  refine (mix_int (u32 sport) r3 2 (u32_eq _) rfl rfl _ _ hB3 (u32_lt _) l3 (by omega)).mono ?_
  rintro e w4 ⟨rfl, hB4, hb4⟩
  rw [← H4.out] at hB4
  go_wp2_with fail
  refine (mix_int (u32 dport) r4 2 (u32_eq _) rfl rfl _ _ hB4 (u32_lt _) l4 (by omega)).mono ?_
  rintro e w5 ⟨rfl, hB5, hb5⟩
  rw [← H5.out] at hB5
  have hc : w5.cell? ⟨w.heap.size, 0, none⟩ = some (.int .u32 (r5 : Int)) := hB5.cell 0
  go_wp2
  go_ret
  exact ⟨rfl, (((((Below.refl _ _).alloc (Nat.le_refl _) _).trans hb1).trans hb2).trans hb3).trans hb4 |>.trans hb5⟩

/-- A fold of the bytes. -/
def fnv (l : List Nat) : Nat → Nat
  | 0 => 2166136261
  | k + 1 => stp (fnv l k) (l.getD k 0)
theorem fnv_lt (l : List Nat) : ∀ k, fnv l k < 4294967296
  | 0 => by simp [fnv]
  | _ + 1 => stp_lt _ _
def u16 (z : Int) : Nat := (z % 65536).toNat
def u8 (z : Int) : Nat := (z % 256).toNat
def flow (src dst : Nat) (proto sport dport : Int) : List Nat :=
  [src / 16777216 % 256, src / 65536 % 256, src / 256 % 256, src % 256, dst / 16777216 % 256, dst / 65536 % 256, dst / 256 % 256, dst % 256, u8 proto, u16 sport / 256, u8 sport, u16 dport / 256, u8 dport]
theorem flow_le (src dst : Nat) (proto sport dport : Int) (k : Nat) : (flow src dst proto sport dport).getD k 0 ≤ 255 := by
  unfold flow
  match k with
  | 0 | 1 | 2 | 3 | 4 | 5 | 6 | 7 => simp; omega
  | 8 | 9 | 10 | 11 | 12 => simp [u8, u16]; omega
  | k + 13 => simp
theorem fnv_flow (src dst : Nat) (proto sport dport : Int) : fnv (flow src dst proto sport dport) 13 = hashN src dst proto sport dport := by
  have p0 : u32 proto / 2 ^ (8 * (1 - 1 - 0)) % 256 = u8 proto := by simp [u32, u8]; omega
  have s1 : u32 sport / 2 ^ (8 * (2 - 1 - 0)) % 256 = u16 sport / 256 := by simp [u32, u16]; omega
  have s0 : u32 sport / 2 ^ (8 * (2 - 1 - 1)) % 256 = u8 sport := by simp [u32, u8]; omega
  have d1 : u32 dport / 2 ^ (8 * (2 - 1 - 0)) % 256 = u16 dport / 256 := by simp [u32, u16]; omega
  have d0 : u32 dport / 2 ^ (8 * (2 - 1 - 1)) % 256 = u8 dport := by simp [u32, u8]; omega
  unfold hashN
  simp only [mixr, p0, s1, s0, d1, d0]
  simp [fnv, flow]

theorem stp_val2 {h b : Nat} (hh : h < 4294967296) (hb : b < 256) : bits .xor .u32 (h : Int) (b : Int) * 16777619 % 4294967296 = ((stp h b : Nat) : Int) := by
  rw [u32_xor_nat h b hh (by omega)]
  unfold stp
  omega

set_option maxRecDepth 100000 in
set_option maxHeartbeats 400000 in
theorem rhash_any (src dst : Nat) (proto sport dport : Int) (w : World) (h1 : src < 4294967296) (h2 : dst < 4294967296) :
    Calls Try.prog 22 #[.int .u32 (src : Int), .int .u32 (dst : Int), .int .i64 proto, .int .i64 sport, .int .i64 dport] w fun e w' => e = .returned (.int .u32 (fnv (flow src dst proto sport dport) 13 : Nat)) ∧ Below w.heap.size w w' := by
  have q1 : IntKind.u16.wrap sport = (u16 sport : Int) := by unfold u16; simp [IntKind.wrap, IntKind.signed, IntKind.bits]; omega
  have q2 : IntKind.u16.wrap dport = (u16 dport : Int) := by unfold u16; simp [IntKind.wrap, IntKind.signed, IntKind.bits]; omega
  have q3 : proto % 256 = (u8 proto : Int) := by unfold u8; omega
  have q4 : sport % 256 = (u8 sport : Int) := by unfold u8; omega
  have q5 : dport % 256 = (u8 dport : Int) := by unfold u8; omega
  have b1 : u16 sport ≤ 65535 := by unfold u16; omega
  have b2 : u16 dport ≤ 65535 := by unfold u16; omega
  go_enter Try.func22, Try.ntmps22
  go_wp2
  obtain ⟨W, hW, hz, hb⟩ := name_alloc w (.cells #[.int .u8 ((src : Int) / 16777216), .int .u8 ((src : Int) / 65536 % 256), .int .u8 ((src : Int) / 256 % 256), .int .u8 ((src : Int) % 256), .int .u8 ((dst : Int) / 16777216), .int .u8 ((dst : Int) / 65536 % 256), .int .u8 ((dst : Int) / 256 % 256), .int .u8 ((dst : Int) % 256), .int .u8 (u8 proto : Int), .int .u8 ((u16 sport : Int) / 256), .int .u8 (u8 sport : Int), .int .u8 ((u16 dport : Int) / 256), .int .u8 (u8 dport : Int)] 5)
  have hR : Reads W (w.heap.size + 1) 1 (some ⟨w.heap.size, 0, none⟩) 13 (bs (flow src dst proto sport dport)) := by
    rw [← hW]
    exact reads_lit w 5 _ _ 13 _ (by omega) (by simp [bs, flow]; omega) rfl
  rw [hW]
  have hl := flow_le src dst proto sport dport
  obtain ⟨l, hL⟩ : ∃ l, l = flow src dst proto sport dport := ⟨_, rfl⟩
  rw [← hL] at hR hl
  have HL := Lib.hid hL
  clear hL
  clear hW hz q1 q2 q3 q4 q5 b1 b2
  go_loop [12, 13] (fun t i => ∃ k : Nat, k ≤ 13 ∧ i = .int .i64 k ∧ t = .int .u32 (fnv l k : Nat)) (fun _ i => 13 - (intOf i).toNat)
  case atStart => exact ⟨0, by omega, rfl, rfl⟩
  case round =>
    obtain ⟨k, hk, rfl, rfl⟩ := hrel
    have hf := fnv_lt l k
    have hbk := hl k
    by_cases hlt : k < 13
    · obtain ⟨ad, u, had, _, hu, hc⟩ := hR.at_ hlt
      obtain rfl := Option.some.inj had
      obtain ⟨_, rfl⟩ := bs_at hu
      rw [show (⟨w.heap.size, 0, none⟩ : Addr).add k = ⟨w.heap.size, k, none⟩ from by unfold Addr.add; split <;> simp_all] at hc
      have hv := stp_val2 hf (show l.getD k 0 < 256 by omega)
      have HE : fnv l (k + 1) = stp (fnv l k) (l.getD k 0) := rfl
      generalize l.getD k 0 = x at hbk hc hv HE
      have HV := Lib.hid hv
      have HX := Lib.hid HE
      clear hv HE hu had
      go_wp2
      go_round
      case rel => exact ⟨k + 1, by omega, by go_num, by rw [HX.out, HV.out]⟩
      case measure => simp [intOf]; omega
    · have hge : 13 ≤ k := by omega
      clear hbk
      go_wp2
      go_ret
      have e : k = 13 := by omega
      refine ⟨?_, hb⟩
      show Ending.returned (.int .u32 (fnv l k : Nat)) = _
      rw [e, HL.out]
end Go.Proofs.Ytgoegdagliapmaa
