/- The law SumFlows, walked. -/
import Derived.Test.YtgoegdagliapmaaHash
namespace Go.Proofs.Ytgoegdagliapmaa
open Go.RowKit

def pseudo (src dst : Nat) (proto size : Int) : Nat := nrm (src / 65536 + src % 65536 + dst / 65536 + dst % 65536 + u8 proto + u16 size)

theorem fold_int {Z : Int} (x : Nat) (hZ : Z = x) (h1 : x ≤ 4611686018427387904) (w : World) :
    Calls Try.prog 24 #[.int .u64 Z] w fun e w' => e = .returned (.int .u16 (nrm x : Nat)) ∧ w = w' := by subst hZ; exact fold_any x h1 w
theorem radd_nat {A B : Int} (a b : Nat) (hA : A = a) (hB : B = b) (ha : a ≤ 65535) (hb : b ≤ 65535) (w : World) :
    Calls Try.prog 15 #[.int .u16 A, .int .u16 B] w fun e w' => e = .returned (.int .u16 (nrm (a + b) : Nat)) ∧ w = w' := by subst hA; subst hB; exact radd_any a b ha hb w
theorem and16 {x : Nat} (hx : x < 4294967296) : bits .and .u32 (x : Int) 65535 = ((x % 65536 : Nat) : Int) := by
  have := u32_and_nat x 65535 hx (by omega)
  rw [show ((65535 : Nat) : Int) = 65535 from rfl] at this
  rw [this, show 65535 = 2 ^ 16 - 1 from rfl, Nat.and_two_pow_sub_one_eq_mod]

set_option maxRecDepth 100000 in
theorem pseudo_any (src dst : Nat) (proto size : Int) (w : World) (h1 : src < 4294967296) (h2 : dst < 4294967296) :
    Calls Try.prog 20 #[.int .u32 (src : Int), .int .u32 (dst : Int), .int .i64 proto, .int .i64 size] w fun e w' => e = .returned (.int .u16 (pseudo src dst proto size : Nat)) ∧ w = w' := by
  have q1 := and16 h1
  have q2 := and16 h2
  have q3 : proto % 256 = (u8 proto : Int) := by unfold u8; omega
  have q4 : IntKind.u16.wrap size = (u16 size : Int) := by unfold u16; simp [IntKind.wrap, IntKind.signed, IntKind.bits]; omega
  have b3 : u8 proto ≤ 255 := by unfold u8; omega
  have b4 : u16 size ≤ 65535 := by unfold u16; omega
  go_enter Try.func20, Try.ntmps20
  go_wp2_with fail
  refine (fold_int (src / 65536 + src % 65536 + dst / 65536 + dst % 65536 + u8 proto + u16 size) (by omega) (by omega) _).mono ?_
  rintro e w' ⟨rfl, rfl⟩
  go_wp2
  go_ret
  exact ⟨rfl, rfl⟩
set_option maxRecDepth 100000 in
theorem rpseudo_any (src dst : Nat) (proto size : Int) (w : World) (h1 : src < 4294967296) (h2 : dst < 4294967296) :
    Calls Try.prog 21 #[.int .u32 (src : Int), .int .u32 (dst : Int), .int .i64 proto, .int .i64 size] w fun e w' => e = .returned (.int .u16 (pseudo src dst proto size : Nat)) ∧ w = w' := by
  have q3 : proto % 256 = (u8 proto : Int) := by unfold u8; omega
  have q4 : IntKind.u16.wrap size = (u16 size : Int) := by unfold u16; simp [IntKind.wrap, IntKind.signed, IntKind.bits]; omega
  have b3 : u8 proto ≤ 255 := by unfold u8; omega
  have b4 : u16 size ≤ 65535 := by unfold u16; omega
  have n1 := nrm_le (src / 65536 + src % 65536)
  have n2 := nrm_le (dst / 65536 + dst % 65536)
  have n3 := nrm_le (nrm (src / 65536 + src % 65536) + nrm (dst / 65536 + dst % 65536))
  have n4 := nrm_le (u8 proto + u16 size)
  have E : nrm (nrm (nrm (src / 65536 + src % 65536) + nrm (dst / 65536 + dst % 65536)) + nrm (u8 proto + u16 size)) = pseudo src dst proto size := by
    unfold pseudo
    rw [nrm_add', nrm_add, Nat.add_assoc (nrm _), nrm_add, ← Nat.add_assoc, Nat.add_comm, ← Nat.add_assoc, nrm_add']
    congr 1; omega
  have HE := Lib.hid E
  clear E
  go_enter Try.func21, Try.ntmps21
  go_wp2_with fail
  refine (radd_nat (src / 65536) (src % 65536) (by omega) (by omega) (by omega) (by omega) _).mono ?_
  rintro e w' ⟨rfl, rfl⟩
  go_wp2_with fail
  refine (radd_nat (dst / 65536) (dst % 65536) (by omega) (by omega) (by omega) (by omega) _).mono ?_
  rintro e w' ⟨rfl, rfl⟩
  go_wp2_with fail
  refine (radd_any _ _ n1 n2 _).mono ?_
  rintro e w' ⟨rfl, rfl⟩
  go_wp2_with fail
  refine (radd_nat (u8 proto) (u16 size) (by first | rfl | omega) (by first | rfl | omega) (by omega) (by omega) _).mono ?_
  rintro e w' ⟨rfl, rfl⟩
  go_wp2_with fail
  refine (radd_any _ _ n3 n4 _).mono ?_
  rintro e w' ⟨rfl, rfl⟩
  rw [HE.out]
  go_wp2
  go_ret
  exact ⟨rfl, rfl⟩

theorem rpick_any (h n : Int) (h0 : 0 ≤ h) (hh : h ≤ 4294967295) (hn : n ≤ 9223372036854775807) (w : World) :
    Calls Try.prog 23 #[.int .u32 h, .int .i64 n] w fun e w' => e = .returned (.int .i64 (pick h n)) ∧ w = w' := by
  go_enter Try.func23, Try.ntmps23
  go_wp2
  · go_ret
    exact ⟨ret_i64 (by unfold pick; rw [if_pos (by assumption)]), rfl⟩
  · go_ret
    exact ⟨ret_i64 (pick_wrap h n h0 hh (by assumption)), rfl⟩

theorem u32_nat {a : Int} (h : (Lit.int .u32 a).wf = true) : ∃ n : Nat, a = n ∧ n < 4294967296 := by
  simp [Lit.wf, IntKind.min, IntKind.max, IntKind.signed, IntKind.bits] at h
  exact ⟨a.toNat, by omega, by omega⟩

set_option maxRecDepth 100000 in
theorem sumFlows_walk (w : World) (s : Int) (hs : (Lit.int .u32 s).wf = true) (d : Int) (hd : (Lit.int .u32 d).wf = true) (p : Int) (_ : (Lit.int .i64 p).wf = true) (sp : Int) (hsp : (Lit.int .i64 sp).wf = true) (dp : Int) (_ : (Lit.int .i64 dp).wf = true) :
    Calls Try.prog 8 #[.int .u32 s, .int .u32 d, .int .i64 p, .int .i64 sp, .int .i64 dp] w fun e w' => e = .returned (.bool true) ∧ Below w.heap.size w w' := by
  obtain ⟨s, rfl, h1⟩ := u32_nat hs
  obtain ⟨d, rfl, h2⟩ := u32_nat hd
  have hsp2 : sp ≤ 9223372036854775807 := by
    simp [Lit.wf, IntKind.min, IntKind.max, IntKind.signed, IntKind.bits] at hsp
    exact hsp.2
  have hN : hashN s d p sp dp < 4294967296 := mixr_lt (mixr_lt (mixr_lt (mixr_lt (mixr_lt (by omega) _) _) _) _) _
  have g1 : 0 ≤ pick (hashN s d p sp dp) sp := by
    unfold pick; split
    · omega
    · exact Int.emod_nonneg _ (by omega)
  have g2 : 1 ≤ sp → pick (hashN s d p sp dp) sp < sp := by
    intro h; unfold pick; rw [if_neg (by omega)]
    exact Int.emod_lt_of_pos _ (by omega)
  obtain ⟨N, hNe⟩ : ∃ N, N = hashN s d p sp dp := ⟨_, rfl⟩
  rw [← hNe] at hN g1 g2
  have F := Lib.hid (fnv_flow s d p sp dp)
  have HN := Lib.hid hNe
  clear hNe
  obtain ⟨K, hK⟩ : ∃ K, K = pick N sp := ⟨_, rfl⟩
  rw [← hK] at g1 g2
  have HK := Lib.hid hK
  clear hK
  by_cases h : sp < 1
  · clear g2
    go_enter Try.func8, Try.ntmps8
    go_wp2_with fail
    refine (hash_any s d p sp dp w h1 h2).mono ?_
    rintro e w1 ⟨rfl, hb1⟩
    rw [← HN.out]
    go_wp2_with fail
    refine (pick_any N sp (by omega) (by omega) hsp2 w1).mono ?_
    rintro e w' ⟨rfl, rfl⟩
    rw [← HK.out]
    go_wp2_with fail
    refine (lives_any w1).mono ?_
    rintro e w2 ⟨rfl, hb2⟩
    have hb := hb1.trans (hb2.mono hb1.size)
    go_wp2_with fail
    refine (pseudo_any s d p dp w2 h1 h2).mono ?_
    rintro e w' ⟨rfl, rfl⟩
    go_wp2_with fail
    refine (rpseudo_any s d p dp w2 h1 h2).mono ?_
    rintro e w' ⟨rfl, rfl⟩
    go_wp2_with fail
    refine (rhash_any s d p sp dp w2 h1 h2).mono ?_
    rintro e w3 ⟨rfl, hb3⟩
    rw [F.out, ← HN.out]
    have hb' := hb.trans (hb3.mono hb.size)
    go_wp2_with fail
    refine (rpick_any N sp (by omega) (by omega) hsp2 w3).mono ?_
    rintro e w' ⟨rfl, rfl⟩
    rw [← HK.out]
    go_wp2
    go_ret
    exact ⟨rfl, hb'⟩
  · have g3 := g2 (by omega)
    clear g2
    go_enter Try.func8, Try.ntmps8
    go_wp2_with fail
    refine (hash_any s d p sp dp w h1 h2).mono ?_
    rintro e w1 ⟨rfl, hb1⟩
    rw [← HN.out]
    go_wp2_with fail
    refine (pick_any N sp (by omega) (by omega) hsp2 w1).mono ?_
    rintro e w' ⟨rfl, rfl⟩
    rw [← HK.out]
    go_wp2_with fail
    refine (lives_any w1).mono ?_
    rintro e w2 ⟨rfl, hb2⟩
    have hb := hb1.trans (hb2.mono hb1.size)
    go_wp2_with fail
    refine (pseudo_any s d p dp w2 h1 h2).mono ?_
    rintro e w' ⟨rfl, rfl⟩
    go_wp2_with fail
    refine (rpseudo_any s d p dp w2 h1 h2).mono ?_
    rintro e w' ⟨rfl, rfl⟩
    go_wp2_with fail
    refine (rhash_any s d p sp dp w2 h1 h2).mono ?_
    rintro e w3 ⟨rfl, hb3⟩
    rw [F.out, ← HN.out]
    have hb' := hb.trans (hb3.mono hb.size)
    go_wp2_with fail
    refine (rpick_any N sp (by omega) (by omega) hsp2 w3).mono ?_
    rintro e w' ⟨rfl, rfl⟩
    rw [← HK.out]
    go_wp2
    go_ret
    exact ⟨rfl, hb'⟩
end Go.Proofs.Ytgoegdagliapmaa
