/- Four bytes say an address: plain facts. -/
import Derived.Test.YtbekgccecdjdeaaAnswer
namespace Go.Proofs.Ytbekgccecdjdeaa
open Go.RowKit

theorem loop_eq (bs : ByteArray) (n : Nat) : ∀ (i : Nat) (r : List UInt8), bs.size - i = n → ByteArray.toList.loop bs i r = r.reverse ++ bs.data.toList.drop i := by
  induction n with
  | zero =>
    intro i r h
    unfold ByteArray.toList.loop
    rw [if_neg (by omega), List.drop_eq_nil_of_le (by rw [Array.length_toList]; exact Nat.le_of_sub_eq_zero h)]
    simp
  | succ n ih =>
    intro i r h
    unfold ByteArray.toList.loop
    have hi : i < bs.size := by omega
    have hi' : i < bs.data.toList.length := by rw [Array.length_toList]; exact hi
    rw [if_pos hi, ih (i + 1) _ (by omega), List.drop_eq_getElem_cons hi']
    have e : bs.get! i = bs.data.toList[i] := by
      rw [Array.getElem_toList]
      show bs.data[i]! = _
      exact getElem!_pos bs.data i hi
    rw [e]
    simp
theorem toList_data (bs : ByteArray) : bs.toList = bs.data.toList := by
  unfold ByteArray.toList
  rw [loop_eq bs bs.size 0 [] rfl]
  simp
theorem four_data (x : Nat) : (four x).data.toList = [UInt8.ofNat (x / 256 ^ 3 % 256), UInt8.ofNat (x / 256 ^ 2 % 256), UInt8.ofNat (x / 256 ^ 1 % 256), UInt8.ofNat (x / 256 ^ 0 % 256)] := rfl
theorem four_size (x : Nat) : (four x).size = 4 := rfl
theorem ofNat_inj {a b : Nat} (ha : a < 256) (hb : b < 256) (h : UInt8.ofNat a = UInt8.ofNat b) : a = b := by
  have := congrArg UInt8.toNat h
  rw [UInt8.toNat_ofNat_of_lt' ha, UInt8.toNat_ofNat_of_lt' hb] at this
  exact this
theorem four_eq (x y : Nat) (hx : x < 4294967296) (hy : y < 4294967296) : ((four x).toList == (four y).toList) = decide (x = y) := by
  rw [toList_data, toList_data, four_data, four_data, Bool.eq_iff_iff]
  simp only [beq_iff_eq, decide_eq_true_eq]
  constructor
  · intro h
    simp only [List.cons.injEq, and_true] at h
    obtain ⟨h3, h2, h1, h0⟩ := h
    have h3 := ofNat_inj (Nat.mod_lt _ (by omega)) (Nat.mod_lt _ (by omega)) h3
    have h2 := ofNat_inj (Nat.mod_lt _ (by omega)) (Nat.mod_lt _ (by omega)) h2
    have h1 := ofNat_inj (Nat.mod_lt _ (by omega)) (Nat.mod_lt _ (by omega)) h1
    have h0 := ofNat_inj (Nat.mod_lt _ (by omega)) (Nat.mod_lt _ (by omega)) h0
    simp only [Nat.reducePow, Nat.div_one] at h3 h2 h1 h0
    omega
  · rintro rfl; rfl
def one (t : UInt8) : ByteArray := ⟨#[t]⟩
/-- The asks of DhcpTalks and what they are answered. -/
def ask1 (xid flags mac : Nat) : Msg := ⟨1, xid, 0, flags, 0, 0, 0, 0, mac, [⟨0, 53, one 1⟩]⟩
def ask3 (xid flags mac ip server : Nat) : Msg := ⟨1, xid, 0, flags, 0, 0, 0, 0, mac, [⟨0, 53, one 3⟩, ⟨0, 50, four ip⟩, ⟨0, 54, four server⟩]⟩
theorem ans_ask1 (xid flags : Nat) (L : Lease) : ansL (ask1 xid flags L.mac) L = some 2 := by
  unfold ansL
  rw [if_neg (by intro h; rcases h with h | h | h <;> exact h rfl), if_pos (by rfl)]
theorem other_four (a x : Nat) (l : List Opt) (c : Int) (h : findL l c = some (four a)) (ha : a < 4294967296) (hx : x < 4294967296) : otherB l c x = !decide (a = x) := by
  unfold otherB
  rw [h]
  simp only [four_size, four_eq a x ha hx]
  simp
theorem ans_ask3 (xid flags ip : Nat) (L : Lease) (hi : ip < 4294967296) (hip : L.ip < 4294967296) (hse : L.server < 4294967296) : ansL (ask3 xid flags L.mac ip L.server) L = if ip = L.ip then some 5 else none := by
  unfold ansL
  rw [if_neg (by intro h; rcases h with h | h | h <;> exact h rfl), if_neg (by show ¬ ((3 : Nat) = 1); decide), if_pos (by rfl)]
  have h1 : otherB (ask3 xid flags L.mac ip L.server).opts 50 L.ip = !decide (ip = L.ip) := other_four ip L.ip _ _ rfl hi hip
  have h2 : otherB (ask3 xid flags L.mac ip L.server).opts 54 L.server = !decide (L.server = L.server) := other_four L.server L.server _ _ rfl hse hse
  rw [h1, h2]
  by_cases e : ip = L.ip <;> simp [e]
theorem find_server (t : Nat) (m : Msg) (L : Lease) : findL (ansMsg t m L).opts 54 = some (four L.server) := rfl
theorem find_kind (t : Nat) (m : Msg) (L : Lease) : findL (ansMsg t m L).opts 53 = some (strOf [t]) := rfl
end Go.Proofs.Ytbekgccecdjdeaa
