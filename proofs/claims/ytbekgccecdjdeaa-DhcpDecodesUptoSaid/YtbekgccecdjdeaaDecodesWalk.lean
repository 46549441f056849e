/- The walk of DhcpDecodes. -/
import Derived.Test.YtbekgccecdjdeaaRefDecode
import Derived.Test.YtbekgccecdjdeaaAsCalls
namespace Go.Proofs.Ytbekgccecdjdeaa
open Go.RowKit

theorem refDecode_as {l : List Nat} {op xid secs flags ci yi si gi ch : Int} {opts : List Opt} {ec : Int} (h : dec l = (⟨op, xid, secs, flags, ci, yi, si, gi, ch, opts⟩, ec)) (A : Option Addr) (c : Nat) (w : World)
    (hr : Reads w w.heap.size 1 A l.length (bs l)) (h8 : ∀ k, l.getD k 0 ≤ 255) (hc : l.length ≤ c) (hl : l.length ≤ 4398046511104) (hroom : cnt (l.drop 240) ≤ 1048576) :
    Calls Try.prog 11 #[.slice A l.length c] w fun e w' => Below w.heap.size w w' ∧ ∃ A c, e = .returned (.tuple #[.agg #[.int .i64 op, .int .u32 xid, .int .i64 secs, .int .i64 flags, .int .u32 ci, .int .u32 yi, .int .u32 si, .int .u32 gi, .int .u64 ch, .slice A opts.length c], .int .i64 ec]) ∧ Reads w' w'.heap.size 3 A opts.length (os opts) := by
  refine (refDecode_any A c l w hr h8 hc hl hroom).mono ?_
  rintro e w' ⟨hb, A', n, c', he, hr'⟩
  rw [h] at he hr'
  simp only at he hr'
  obtain rfl : n = opts.length := by have := hr'.1; rw [os_length] at this; omega
  exact ⟨hb, A', c', he, hr'⟩
set_option maxRecDepth 100000 in
set_option maxHeartbeats 4000000 in
theorem dhcpDecodes_walk (w : World) (a : Option Addr) (len cap : Nat) (zs : List Int) (g : Row w .u8 1 a len cap zs) (hlen : len ≤ 1048576) :
    Calls Try.prog 4 #[.slice a len cap] w fun e w' => e = .returned (.bool true) ∧ Below w.heap.size w w' := by
  obtain ⟨l, rfl, hr, h8, hle, _⟩ := bytes_of_row g
  clear g zs
  obtain ⟨⟨⟨op, xid, secs, flags, ci, yi, si, gi, ch, opts⟩, ec⟩, hd⟩ : ∃ x, dec l = x := ⟨_, rfl⟩
  have hfit : Fits ⟨op, xid, secs, flags, ci, yi, si, gi, ch, opts⟩ := by
    rcases dec_cases l with h | ⟨m, h⟩
    · rw [hd] at h; injection h with h1 _; rw [h1]
      exact ⟨by decide, by decide, by decide, by decide, by decide, by decide⟩
    · have hf := dec_fits h8 h
      rw [hd] at h; injection h with h1 _; rw [h1]
      exact hf
  obtain ⟨b1, b2, b3, b4, b5, b6⟩ := hfit
  simp only at b1 b2 b3 b4 b5 b6
  obtain ⟨xid, rfl⟩ : ∃ k : Nat, xid = (k : Int) := ⟨xid.toNat, by omega⟩
  obtain ⟨ci, rfl⟩ : ∃ k : Nat, ci = (k : Int) := ⟨ci.toNat, by omega⟩
  obtain ⟨yi, rfl⟩ : ∃ k : Nat, yi = (k : Int) := ⟨yi.toNat, by omega⟩
  obtain ⟨si, rfl⟩ : ∃ k : Nat, si = (k : Int) := ⟨si.toNat, by omega⟩
  obtain ⟨gi, rfl⟩ : ∃ k : Nat, gi = (k : Int) := ⟨gi.toNat, by omega⟩
  obtain ⟨ch, rfl⟩ : ∃ k : Nat, ch = (k : Int) := ⟨ch.toNat, by omega⟩
  have HIN : Hid (xid < 4294967296 ∧ ci < 4294967296 ∧ yi < 4294967296 ∧ si < 4294967296 ∧ gi < 4294967296) := Lib.hid ⟨by omega, by omega, by omega, by omega, by omega⟩
  have HF : Hid (Fits ⟨op, xid, secs, flags, ci, yi, si, gi, ch, opts⟩) := Lib.hid ⟨b1, b2, b3, b4, b5, b6⟩
  clear b1 b2 b3 b4 b5 b6
  have HEC : Hid (ec = 60 ∨ ec = 0) := Lib.hid (by
    rcases dec_cases l with h | ⟨m, h⟩
    · rw [hd] at h; injection h with _ h2; exact .inl h2
    · rw [hd] at h; injection h with _ h2; exact .inr h2)
  have HCN : Hid (opts.length ≤ l.length) := Lib.hid (dec_count hd)
  have HD := Lib.hid hd
  have H8 := Lib.hid h8
  have HRM := Lib.hid (cnt_room hlen 240)
  have HR := Lib.hid hr
  have HLE := Lib.hid hle
  have HLN : Hid (l.length ≤ 1048576) := Lib.hid hlen
  obtain ⟨i0, hi0, hz0, hz1, hz2⟩ := info_parts Try.info5
  clear hd h8 hr hle hlen
  go_enter Try.func4, Try.ntmps4
  go_wp2_with (at_builtin; refine wpList_append_copy rfl (.tmp 11) (.tmp 12) 37 rfl w 5 i0 _ 1 1 Try.underlying37 hi0 hz0 hz1 hz2 rfl (by decide) rfl a l.length cap (bs l) rfl HR.out (bs_one l) (by have := HLN.out; unfold maxLen; omega) (by have := HLN.out; omega) ?_; intro A1 c1 w1 ho1 hr1 hb1)
  refine (decode_as HD.out A1 c1 w1 hr1 H8.out (own_cap ho1) (by have := HLN.out; omega) HRM.out).mono ?_
  rintro e w2 ⟨hb2, A2, c2, rfl, hr2⟩
  have HB2 : Hid (Below w.heap.size w w2) := Lib.hid (hb1.trans (hb2.mono hb1.size))
  have HR1 : Hid (Reads w2 w2.heap.size 1 A1 l.length (bs l)) := Lib.hid ((hr1.below hb2).more hb2.size)
  have HR2 := Lib.hid hr2
  clear ho1 hr1 hb1 hb2 hr2
  go_wp2_with fail
  obtain ⟨W3, hW3, hz3, hb3⟩ := name_alloc w2 (.cells #[.int .i64 op, .int .u32 xid, .int .i64 secs, .int .i64 flags, .int .u32 ci, .int .u32 yi, .int .u32 si, .int .u32 gi, .int .u64 ch, .slice A2 opts.length c2] 31)
  have hB3 : Blk W3 w2.heap.size 31 #[.int .i64 op, .int .u32 xid, .int .i64 secs, .int .i64 flags, .int .u32 ci, .int .u32 yi, .int .u32 si, .int .u32 gi, .int .u64 ch, .slice A2 opts.length c2] := by rw [← hW3]; exact Blk.new _ _ _
  rw [hW3]
  have HX3 := Lib.hid hB3
  have HB3 := Lib.hid (HB2.out.trans (hb3.mono HB2.out.size))
  have HR13 := Lib.hid ((HR1.out.below hb3).more hb3.size)
  have HR23 := Lib.hid ((HR2.out.below hb3).more hb3.size)
  have LT3 : Hid (w2.heap.size < W3.heap.size) := Lib.hid (by omega)
  clear hW3 hz3 hb3 hB3 HR1 HR2
  refine (refDecode_as HD.out a cap W3 ((HR.out.below HB3.out).more HB3.out.size) H8.out HLE.out (by have := HLN.out; omega) HRM.out).mono ?_
  rintro e w4 ⟨hb4, A4, c4, rfl, hr4⟩
  have HX4 := Lib.hid (HX3.out.below hb4 LT3.out)
  have HB4 := Lib.hid (HB3.out.trans (hb4.mono HB3.out.size))
  have HR14 := Lib.hid ((HR13.out.below hb4).more hb4.size)
  have HR24 := Lib.hid ((HR23.out.below hb4).more hb4.size)
  have HR44 := Lib.hid hr4
  have LT4 : Hid (w2.heap.size < w4.heap.size) := Lib.hid (Nat.lt_of_lt_of_le LT3.out hb4.size)
  clear hb4 hr4 HX3 HR13 HR23
  go_wp2_with fail
  obtain ⟨W5, hW5, hz5, hb5⟩ := name_alloc w4 (.cells #[.int .i64 op, .int .u32 xid, .int .i64 secs, .int .i64 flags, .int .u32 ci, .int .u32 yi, .int .u32 si, .int .u32 gi, .int .u64 ch, .slice A4 opts.length c4] 31)
  have hB5 : Blk W5 w4.heap.size 31 #[.int .i64 op, .int .u32 xid, .int .i64 secs, .int .i64 flags, .int .u32 ci, .int .u32 yi, .int .u32 si, .int .u32 gi, .int .u64 ch, .slice A4 opts.length c4] := by rw [← hW5]; exact Blk.new _ _ _
  rw [hW5]
  have HY5 := Lib.hid hB5
  have HX5 := Lib.hid (HX4.out.below hb5 LT4.out)
  have HB5 := Lib.hid (HB4.out.trans (hb5.mono HB4.out.size))
  have HR15 := Lib.hid ((HR14.out.below hb5).more hb5.size)
  have HR25 := Lib.hid ((HR24.out.below hb5).more hb5.size)
  have HR45 := Lib.hid ((HR44.out.below hb5).more hb5.size)
  have LT5 : Hid (w2.heap.size < W5.heap.size ∧ w4.heap.size < W5.heap.size) := Lib.hid ⟨by have := LT4.out; omega, by omega⟩
  clear hW5 hz5 hb5 hB5 HX4 HR14 HR24 HR44
  refine (lives_any W5).mono ?_
  rintro e w6 ⟨rfl, hb6⟩
  have HX6 := Lib.hid (HX5.out.below hb6 LT5.out.1)
  have HY6 := Lib.hid (HY5.out.below hb6 LT5.out.2)
  have HB6 := Lib.hid (HB5.out.trans (hb6.mono HB5.out.size))
  have HR16 := Lib.hid ((HR15.out.below hb6).more hb6.size)
  have HR26 := Lib.hid ((HR25.out.below hb6).more hb6.size)
  have HR46 := Lib.hid ((HR45.out.below hb6).more hb6.size)
  have LT6 : Hid (w2.heap.size < w6.heap.size) := Lib.hid (Nat.lt_of_lt_of_le LT5.out.1 hb6.size)
  clear hb6 HX5 HY5 HR15 HR25 HR45 LT5
  have x6 := HX6.out.cell
  have y6 := HY6.out.cell
  go_wp2_with fail
  refine (same_as A2 A4 c2 c4 w6 HR26.out HR46.out (by have := HCN.out; have := HLN.out; omega)).mono ?_
  rintro e w7 ⟨rfl, hb7⟩
  have HX7 := Lib.hid (HX6.out.below hb7 LT6.out)
  have HB7 := Lib.hid (HB6.out.trans (hb7.mono HB6.out.size))
  have HR27 := Lib.hid ((HR26.out.below hb7).more hb7.size)
  have LT7 : Hid (w2.heap.size < w7.heap.size) := Lib.hid (Nat.lt_of_lt_of_le LT6.out hb7.size)
  have k1 := run_bytes_str (P := Try.prog) Try.underlying37 Try.underlying5 Try.underlying9 c1 (HR16.out.below hb7)
  have k2 := run_bytes_str (P := Try.prog) Try.underlying37 Try.underlying5 Try.underlying9 cap (HR.out.below HB7.out)
  clear hb7 x6 y6 HX6 HY6 HR16 HR26 HR46
  have x7 : w7.cell? ⟨w2.heap.size, 9, none⟩ = some (.slice A2 opts.length c2) := HX7.out.cell 9
  rcases HEC.out with h60 | h00
  · subst h60
    go_wp2_with fail
    go_ret
    exact ⟨rfl, HB7.out⟩
  · subst h00
    by_cases h64 : opts.length ≤ 64
    · obtain ⟨lo, hE⟩ := enc_dec H8.out HD.out h64
      have HE := Lib.hid hE
      have HD2 : Hid (dec lo = (⟨op, xid, secs, flags, ci, yi, si, gi, ch, opts⟩, 0)) := Lib.hid (by have := dec_enc [] HF.out hE; rwa [List.append_nil] at this)
      have HCN2 : Hid (cnt (lo.drop 240) ≤ 1048576) := Lib.hid (by have := cnt_enc [] hE; rw [List.append_nil] at this; omega)
      have HLO := Lib.hid (enc_length hE)
      have H8O := Lib.hid (getD_le (enc_le hE))
      have HCH : Hid (ch < 18446744073709551616) := Lib.hid (by have := ((headOk_iff _).1 (enc_some hE).1).2.2.2.2.2.1; simp only at this; omega)
      have H64 := Lib.hid h64
      clear hE
      go_upto_region 8 with fail
      clear k1 k2 x7
      have x7 := HX7.out.cell
      go_wp2_with fail
      refine (encode_as HE.out A2 c2 w7 HR27.out HIN.out.1 HIN.out.2.1 HIN.out.2.2.1 HIN.out.2.2.2.1 HIN.out.2.2.2.2 HCH.out).mono ?_
      rintro e w8 ⟨hb8, A8, c8, rfl, hr8, hc8⟩
      have HX8 := Lib.hid (HX7.out.below hb8 LT7.out)
      have HB8 := Lib.hid (HB7.out.trans (hb8.mono HB7.out.size))
      have HR28 := Lib.hid ((HR27.out.below hb8).more hb8.size)
      have LT8 : Hid (w2.heap.size < w8.heap.size) := Lib.hid (Nat.lt_of_lt_of_le LT7.out hb8.size)
      have HR8 := Lib.hid hr8
      have HC8 := Lib.hid hc8
      clear hb8 hr8 hc8 x7
      go_wp2_with fail
      refine (decode_as HD2.out A8 c8 w8 HR8.out H8O.out HC8.out (by have := HLO.out; omega) HCN2.out).mono ?_
      rintro e w9 ⟨hb9, A9, c9, rfl, hr9⟩
      have HX9 := Lib.hid (HX8.out.below hb9 LT8.out)
      have HB9 := Lib.hid (HB8.out.trans (hb9.mono HB8.out.size))
      have HR29 := Lib.hid ((HR28.out.below hb9).more hb9.size)
      have HR99 := Lib.hid hr9
      have LT9 : Hid (w2.heap.size < w9.heap.size) := Lib.hid (Nat.lt_of_lt_of_le LT8.out hb9.size)
      clear hb9 hr9
      go_upto_region 10 with fail
      obtain ⟨Wa, hWa, hza, hba⟩ := name_alloc w9 (.cells #[.int .i64 op, .int .u32 xid, .int .i64 secs, .int .i64 flags, .int .u32 ci, .int .u32 yi, .int .u32 si, .int .u32 gi, .int .u64 ch, .slice A9 opts.length c9] 31)
      have hBa : Blk Wa w9.heap.size 31 #[.int .i64 op, .int .u32 xid, .int .i64 secs, .int .i64 flags, .int .u32 ci, .int .u32 yi, .int .u32 si, .int .u32 gi, .int .u64 ch, .slice A9 opts.length c9] := by rw [← hWa]; exact Blk.new _ _ _
      rw [hWa]
      have xa := (HX9.out.below hba LT9.out).cell
      have ya := hBa.cell
      have HBa := Lib.hid (HB9.out.trans (hba.mono HB9.out.size))
      have HSa := Lib.hid (same_as (op := op) (xid := xid) (secs := secs) (flags := flags) (ci := ci) (yi := yi) (si := si) (gi := gi) (ch := ch) (opts := opts) A9 A2 c9 c2 Wa ((HR99.out.below hba).more hba.size) ((HR29.out.below hba).more hba.size) (by omega))
      clear hWa hza hba hBa
      go_wp2_with fail
      refine HSa.out.mono ?_
      rintro e wb ⟨rfl, hbb⟩
      have HBb := Lib.hid (HBa.out.trans (hbb.mono HBa.out.size))
      clear hbb xa ya
      go_wp2_with fail
      go_ret
      exact ⟨rfl, HBb.out⟩
    · go_wp2_with fail
      go_ret
      exact ⟨rfl, HB7.out⟩
end Go.Proofs.Ytbekgccecdjdeaa
