/-
  No cell of these rows narrows 'for every input' (looked for: loops, veiled, ifaces, maps, wideKeys, modest, calm, conditions, laid).
  DERIVED. THE GIVEN ROWS OF THIS SEAT. 5 by the template 'for every input the law returns true; each argument reads behind the call as it read before'; 0 by the template 'total and deterministic' (their statements: YtlpnkfnmgcigbaaTotals.lean).
  GIVEN WITH THE SEED: the statements are not yours to turn. If you find one false, say at which input.
  Laid BY PROGRAM, IN A SANDBOX (cutbox-rows.mjs): the forced cells as the released guide's own fill.sh prints them over the translation dc6960ead9d289ac… (all of the seat's roots in one cut). By AI agents, Wed Nov 11 2026. No macro, syntax, notation, axiom, sorry.
-/
import Derived.Test.YtlpnkfnmgcigbaaChecked
import GoSem.Claim
import GoSem.ClaimJoined
import GoSem.ClaimMapViews
import Derived.JoinedTies
import Derived.KernelRfl
namespace Go.Proofs.Ytlpnkfnmgcigbaa
/- THE CELL 'sum', in the pinned program and in every row, IS THE sha256 OF THE DUMP (.gsa) THAT YtlpnkfnmgcigbaaProg.lean LOADS. Nothing in Lean hashes anything: it is a label: what it is worth is what the hold of that sum in a sandbox is worth. -/
noncomputable def Try.pinned : Pinned := { name := "ytlpnkfnmgcigbaa", sum := "dc6960ead9d289ac21d179e8533f83806d16058c77162a7a1c6722e0459396ae", checked := Try.checked }
namespace Rows
def none {H : Type} : Left H := { results := [], args := [] }

/-- 'skeinlaw17.LpmLongest': WHATEVER THE INPUT: true; the input reads as it did. -/
def lpmLongestSpec : ChangeSpec := { name := "lpmLongest", fn := fun _ => fun
  | [d1, d2] => { results := [.lit (.bool true)], args := [d1, d2] }
  | _ => none }
def lpmLongestRow : OpenClaim := { program := "ytlpnkfnmgcigbaa", sum := "dc6960ead9d289ac21d179e8533f83806d16058c77162a7a1c6722e0459396ae", func := "skein/skeinlaw17.LpmLongest", spec := "lpmLongest", unfollowed := true, recurses := true, apart := false }
def LpmLongestSaid : Prop := lpmLongestRow.holds Try.pinned (OpenSpec.ofChange lpmLongestSpec)

/-- ITS FALSE NEIGHBOUR: 'it returns false'. Refute it at one input. -/
def lpmLongestWrong : ChangeSpec := { name := "lpmLongest", fn := fun _ => fun
  | [d1, d2] => { results := [.lit (.bool false)], args := [d1, d2] }
  | _ => none }
def LpmLongestWrongFalsely : Prop := lpmLongestRow.holds Try.pinned (OpenSpec.ofChange lpmLongestWrong)

/-- 'skeinlaw17.LpmMasks': WHATEVER THE INPUT: true; the input reads as it did. -/
def lpmMasksSpec : ChangeSpec := { name := "lpmMasks", fn := fun _ => fun
  | [d] => { results := [.lit (.bool true)], args := [d] }
  | _ => none }
def lpmMasksRow : OpenClaim := { program := "ytlpnkfnmgcigbaa", sum := "dc6960ead9d289ac21d179e8533f83806d16058c77162a7a1c6722e0459396ae", func := "skein/skeinlaw17.LpmMasks", spec := "lpmMasks", unfollowed := true, recurses := true, apart := false }
def LpmMasksSaid : Prop := lpmMasksRow.holds Try.pinned (OpenSpec.ofChange lpmMasksSpec)

/-- ITS FALSE NEIGHBOUR: 'it returns false'. Refute it at one input. -/
def lpmMasksWrong : ChangeSpec := { name := "lpmMasks", fn := fun _ => fun
  | [d] => { results := [.lit (.bool false)], args := [d] }
  | _ => none }
def LpmMasksWrongFalsely : Prop := lpmMasksRow.holds Try.pinned (OpenSpec.ofChange lpmMasksWrong)

/-- 'skeinlaw17.LpmGone': WHATEVER THE INPUT: true; the input reads as it did. -/
def lpmGoneSpec : ChangeSpec := { name := "lpmGone", fn := fun _ => fun
  | [d1, d2, d3] => { results := [.lit (.bool true)], args := [d1, d2, d3] }
  | _ => none }
def lpmGoneRow : OpenClaim := { program := "ytlpnkfnmgcigbaa", sum := "dc6960ead9d289ac21d179e8533f83806d16058c77162a7a1c6722e0459396ae", func := "skein/skeinlaw17.LpmGone", spec := "lpmGone", unfollowed := true, recurses := true, apart := false }
def LpmGoneSaid : Prop := lpmGoneRow.holds Try.pinned (OpenSpec.ofChange lpmGoneSpec)

/-- ITS FALSE NEIGHBOUR: 'it returns false'. Refute it at one input. -/
def lpmGoneWrong : ChangeSpec := { name := "lpmGone", fn := fun _ => fun
  | [d1, d2, d3] => { results := [.lit (.bool false)], args := [d1, d2, d3] }
  | _ => none }
def LpmGoneWrongFalsely : Prop := lpmGoneRow.holds Try.pinned (OpenSpec.ofChange lpmGoneWrong)

/-- 'skeinlaw17.LpmDoes': WHATEVER THE INPUT: true; the input reads as it did. -/
def lpmDoesSpec : ChangeSpec := { name := "lpmDoes", fn := fun _ => fun
  | [d] => { results := [.lit (.bool true)], args := [d] }
  | _ => none }
def lpmDoesRow : OpenClaim := { program := "ytlpnkfnmgcigbaa", sum := "dc6960ead9d289ac21d179e8533f83806d16058c77162a7a1c6722e0459396ae", func := "skein/skeinlaw17.LpmDoes", spec := "lpmDoes", unfollowed := true, recurses := true, apart := false }
def LpmDoesSaid : Prop := lpmDoesRow.holds Try.pinned (OpenSpec.ofChange lpmDoesSpec)

/-- ITS FALSE NEIGHBOUR: 'it returns false'. Refute it at one input. -/
def lpmDoesWrong : ChangeSpec := { name := "lpmDoes", fn := fun _ => fun
  | [d] => { results := [.lit (.bool false)], args := [d] }
  | _ => none }
def LpmDoesWrongFalsely : Prop := lpmDoesRow.holds Try.pinned (OpenSpec.ofChange lpmDoesWrong)

/-- 'skeinlaw17.LpmNobody': WHATEVER THE INPUT: true; the input reads as it did. -/
def lpmNobodySpec : ChangeSpec := { name := "lpmNobody", fn := fun _ => fun
  | [d1, d2] => { results := [.lit (.bool true)], args := [d1, d2] }
  | _ => none }
def lpmNobodyRow : OpenClaim := { program := "ytlpnkfnmgcigbaa", sum := "dc6960ead9d289ac21d179e8533f83806d16058c77162a7a1c6722e0459396ae", func := "skein/skeinlaw17.LpmNobody", spec := "lpmNobody", unfollowed := true, recurses := true, apart := false }
def LpmNobodySaid : Prop := lpmNobodyRow.holds Try.pinned (OpenSpec.ofChange lpmNobodySpec)

/-- ITS FALSE NEIGHBOUR: 'it returns false'. Refute it at one input. -/
def lpmNobodyWrong : ChangeSpec := { name := "lpmNobody", fn := fun _ => fun
  | [d1, d2] => { results := [.lit (.bool false)], args := [d1, d2] }
  | _ => none }
def LpmNobodyWrongFalsely : Prop := lpmNobodyRow.holds Try.pinned (OpenSpec.ofChange lpmNobodyWrong)

/- THE SECOND FORM. 'bulk': how many values and letters a reading holds, each counted each time it is reached (what is shared counts as often as it is met; a slice's spare places count too). A statement '..UptoSaid' is the law's where the arguments, and the package variables that the reading takes, are together of bulk at most 1048576: NARROWER than '..Said'. Prove '..Said' where nothing that the law and all that it calls make is longer than what came in: it says more and counts as full. Else prove '..UptoSaid'. A law counts once. -/
mutual
def uptoBulk {H : Type} : DataW H → Nat
  | .lit (.string bytes) => bytes.length + 1
  | .lit _ => 1
  | .nil => 1
  | .ptr d => uptoBulk d + 1
  | .slice elems spare => uptoBulkAll elems + uptoBulkAll spare + 1
  | .agg parts => uptoBulkAll parts + 1
  | .iface _ d => uptoBulk d + 1
  | .map entries => uptoBulkEntries entries + 1
  | .held _ => 1
def uptoBulkAll {H : Type} : List (DataW H) → Nat
  | [] => 0
  | d :: r => uptoBulk d + uptoBulkAll r
def uptoBulkEntries {H : Type} : List (Lit × DataW H) → Nat
  | [] => 0
  | x :: r => uptoBulkEntry x + uptoBulkEntries r
def uptoBulkEntry {H : Type} : Lit × DataW H → Nat
  | (.string bytes, d) => bytes.length + uptoBulk d + 1
  | (_, d) => uptoBulk d + 1
 end
def uptoSmall : (H : Type) → List (DataW H) → Bool := fun _ ds => decide (uptoBulkAll ds ≤ 1048576)
def OpenSpec.upto (s : _root_.Go.ChangeSpec) : _root_.Go.OpenSpec := { _root_.Go.OpenSpec.ofChange s with cond := some uptoSmall }

/-- 'skeinlaw17.LpmLongest', WHERE WHAT IT READS IS OF BULK AT MOST 1048576: true; the input reads as it did. -/
def lpmLongestUptoRow : OpenClaim := { program := "ytlpnkfnmgcigbaa", sum := "dc6960ead9d289ac21d179e8533f83806d16058c77162a7a1c6722e0459396ae", func := "skein/skeinlaw17.LpmLongest", spec := "lpmLongest", unfollowed := true, recurses := true, apart := false, narrowed := true }
def LpmLongestUptoSaid : Prop := lpmLongestUptoRow.holds Try.pinned (OpenSpec.upto lpmLongestSpec)

/-- 'skeinlaw17.LpmMasks', WHERE WHAT IT READS IS OF BULK AT MOST 1048576: true; the input reads as it did. -/
def lpmMasksUptoRow : OpenClaim := { program := "ytlpnkfnmgcigbaa", sum := "dc6960ead9d289ac21d179e8533f83806d16058c77162a7a1c6722e0459396ae", func := "skein/skeinlaw17.LpmMasks", spec := "lpmMasks", unfollowed := true, recurses := true, apart := false, narrowed := true }
def LpmMasksUptoSaid : Prop := lpmMasksUptoRow.holds Try.pinned (OpenSpec.upto lpmMasksSpec)

/-- 'skeinlaw17.LpmGone', WHERE WHAT IT READS IS OF BULK AT MOST 1048576: true; the input reads as it did. -/
def lpmGoneUptoRow : OpenClaim := { program := "ytlpnkfnmgcigbaa", sum := "dc6960ead9d289ac21d179e8533f83806d16058c77162a7a1c6722e0459396ae", func := "skein/skeinlaw17.LpmGone", spec := "lpmGone", unfollowed := true, recurses := true, apart := false, narrowed := true }
def LpmGoneUptoSaid : Prop := lpmGoneUptoRow.holds Try.pinned (OpenSpec.upto lpmGoneSpec)

/-- 'skeinlaw17.LpmDoes', WHERE WHAT IT READS IS OF BULK AT MOST 1048576: true; the input reads as it did. -/
def lpmDoesUptoRow : OpenClaim := { program := "ytlpnkfnmgcigbaa", sum := "dc6960ead9d289ac21d179e8533f83806d16058c77162a7a1c6722e0459396ae", func := "skein/skeinlaw17.LpmDoes", spec := "lpmDoes", unfollowed := true, recurses := true, apart := false, narrowed := true }
def LpmDoesUptoSaid : Prop := lpmDoesUptoRow.holds Try.pinned (OpenSpec.upto lpmDoesSpec)

/-- 'skeinlaw17.LpmNobody', WHERE WHAT IT READS IS OF BULK AT MOST 1048576: true; the input reads as it did. -/
def lpmNobodyUptoRow : OpenClaim := { program := "ytlpnkfnmgcigbaa", sum := "dc6960ead9d289ac21d179e8533f83806d16058c77162a7a1c6722e0459396ae", func := "skein/skeinlaw17.LpmNobody", spec := "lpmNobody", unfollowed := true, recurses := true, apart := false, narrowed := true }
def LpmNobodyUptoSaid : Prop := lpmNobodyUptoRow.holds Try.pinned (OpenSpec.upto lpmNobodySpec)

end Rows
end Go.Proofs.Ytlpnkfnmgcigbaa
