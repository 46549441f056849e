/- Plain words on bytes and numbers. No program here. -/
namespace Go.Proofs.Ytbekgccecdjdeaa
/-- The lowest k bytes of a number, the highest first. -/
def be (x : Nat) : Nat → List Nat
  | 0 => []
  | k + 1 => x / 256 ^ k % 256 :: be x k
theorem be_length (x k : Nat) : (be x k).length = k := by induction k with | zero => rfl | succ k ih => simp [be, ih]
theorem be_le (x k : Nat) : ∀ b ∈ be x k, b ≤ 255 := by
  induction k with
  | zero => intro b h; cases h
  | succ k ih =>
    intro b h
    rcases List.mem_cons.1 h with rfl | h
    · omega
    · exact ih b h
theorem be_byte (x i : Nat) : (x : Int) / 2 ^ (8 * i) % 256 = ((x / 256 ^ i % 256 : Nat) : Int) := by
  rw [show (2 : Int) ^ (8 * i) = ((256 ^ i : Nat) : Int) by rw [Int.pow_mul, Int.natCast_pow]; rfl]
  rw [Int.natCast_emod, Int.natCast_ediv]
  rfl
/-- The number of some bytes, the highest first. -/
def num : List Nat → Nat := fun l => l.foldl (fun x c => x * 256 + c) 0
end Go.Proofs.Ytbekgccecdjdeaa
