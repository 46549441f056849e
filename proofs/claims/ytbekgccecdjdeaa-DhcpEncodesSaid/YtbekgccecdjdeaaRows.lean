/-
  No cell of these rows narrows 'for every input' (looked for: loops, veiled, ifaces, maps, wideKeys, modest, calm, conditions, laid).
  DERIVED. THE GIVEN ROWS OF THIS SEAT. 3 by the template 'for every input the law returns true; each argument reads behind the call as it read before'; 0 by the template 'total and deterministic' (their statements: YtbekgccecdjdeaaTotals.lean).
  GIVEN WITH THE SEED: the statements are not yours to turn. If you find one false, say at which input.
  Laid BY PROGRAM, IN A SANDBOX (cutbox-rows.mjs): the forced cells as the released guide's own fill.sh prints them over the translation 7847c6601b2c6d33… (all of the seat's roots in one cut). By AI agents, Wed Nov 11 2026. No macro, syntax, notation, axiom, sorry.
-/
import Derived.Test.YtbekgccecdjdeaaChecked
import GoSem.Claim
import GoSem.ClaimJoined
import GoSem.ClaimMapViews
import Derived.JoinedTies
import Derived.KernelRfl
namespace Go.Proofs.Ytbekgccecdjdeaa
/- THE CELL 'sum', in the pinned program and in every row, IS THE sha256 OF THE DUMP (.gsa) THAT YtbekgccecdjdeaaProg.lean LOADS. Nothing in Lean hashes anything: it is a label: what it is worth is what the hold of that sum in a sandbox is worth. -/
noncomputable def Try.pinned : Pinned := { name := "ytbekgccecdjdeaa", sum := "7847c6601b2c6d33ada35ac1ce447d60c7f75549d261d86c468a631fd82f152f", checked := Try.checked }
namespace Rows
def none {H : Type} : Left H := { results := [], args := [] }

/-- 'skeinlaw06.DhcpTalks': WHATEVER THE INPUT: true; the input reads as it did. -/
def dhcpTalksSpec : ChangeSpec := { name := "dhcpTalks", fn := fun _ => fun
  | [d1, d2, d3, d4] => { results := [.lit (.bool true)], args := [d1, d2, d3, d4] }
  | _ => none }
def dhcpTalksRow : OpenClaim := { program := "ytbekgccecdjdeaa", sum := "7847c6601b2c6d33ada35ac1ce447d60c7f75549d261d86c468a631fd82f152f", func := "skein/skeinlaw06.DhcpTalks", spec := "dhcpTalks", unfollowed := true, recurses := true, apart := false }
def DhcpTalksSaid : Prop := dhcpTalksRow.holds Try.pinned (OpenSpec.ofChange dhcpTalksSpec)

/-- ITS FALSE NEIGHBOUR: 'it returns false'. Refute it at one input. -/
def dhcpTalksWrong : ChangeSpec := { name := "dhcpTalks", fn := fun _ => fun
  | [d1, d2, d3, d4] => { results := [.lit (.bool false)], args := [d1, d2, d3, d4] }
  | _ => none }
def DhcpTalksWrongFalsely : Prop := dhcpTalksRow.holds Try.pinned (OpenSpec.ofChange dhcpTalksWrong)

/-- 'skeinlaw06.DhcpDecodes': WHATEVER THE INPUT: true; the input reads as it did. -/
def dhcpDecodesSpec : ChangeSpec := { name := "dhcpDecodes", fn := fun _ => fun
  | [d] => { results := [.lit (.bool true)], args := [d] }
  | _ => none }
def dhcpDecodesRow : OpenClaim := { program := "ytbekgccecdjdeaa", sum := "7847c6601b2c6d33ada35ac1ce447d60c7f75549d261d86c468a631fd82f152f", func := "skein/skeinlaw06.DhcpDecodes", spec := "dhcpDecodes", apart := false }
def DhcpDecodesSaid : Prop := dhcpDecodesRow.holds Try.pinned (OpenSpec.ofChange dhcpDecodesSpec)

/-- ITS FALSE NEIGHBOUR: 'it returns false'. Refute it at one input. -/
def dhcpDecodesWrong : ChangeSpec := { name := "dhcpDecodes", fn := fun _ => fun
  | [d] => { results := [.lit (.bool false)], args := [d] }
  | _ => none }
def DhcpDecodesWrongFalsely : Prop := dhcpDecodesRow.holds Try.pinned (OpenSpec.ofChange dhcpDecodesWrong)

/-- 'skeinlaw06.DhcpEncodes': WHATEVER THE INPUT: true; the input reads as it did. -/
def dhcpEncodesSpec : ChangeSpec := { name := "dhcpEncodes", fn := fun _ => fun
  | [d1, d2] => { results := [.lit (.bool true)], args := [d1, d2] }
  | _ => none }
def dhcpEncodesRow : OpenClaim := { program := "ytbekgccecdjdeaa", sum := "7847c6601b2c6d33ada35ac1ce447d60c7f75549d261d86c468a631fd82f152f", func := "skein/skeinlaw06.DhcpEncodes", spec := "dhcpEncodes", apart := false }
def DhcpEncodesSaid : Prop := dhcpEncodesRow.holds Try.pinned (OpenSpec.ofChange dhcpEncodesSpec)

/-- ITS FALSE NEIGHBOUR: 'it returns false'. Refute it at one input. -/
def dhcpEncodesWrong : ChangeSpec := { name := "dhcpEncodes", fn := fun _ => fun
  | [d1, d2] => { results := [.lit (.bool false)], args := [d1, d2] }
  | _ => none }
def DhcpEncodesWrongFalsely : Prop := dhcpEncodesRow.holds Try.pinned (OpenSpec.ofChange dhcpEncodesWrong)

/- THE SECOND FORM. 'bulk': how many values and letters a reading holds, each counted each time it is reached (what is shared counts as often as it is met; a slice's spare places count too). A statement '..UptoSaid' is the law's where the arguments, and the package variables that the reading takes, are together of bulk at most 1048576: NARROWER than '..Said'. Prove '..Said' where nothing that the law and all that it calls make is longer than what came in: it says more and counts as full. Else prove '..UptoSaid'. A law counts once. -/
mutual
def uptoBulk {H : Type} : DataW H → Nat
  | .lit (.string bytes) => bytes.length + 1
  | .lit _ => 1
  | .nil => 1
  | .ptr d => uptoBulk d + 1
  | .slice elems spare => uptoBulkAll elems + uptoBulkAll spare + 1
  | .agg parts => uptoBulkAll parts + 1
  | .iface _ d => uptoBulk d + 1
  | .map entries => uptoBulkEntries entries + 1
  | .held _ => 1
def uptoBulkAll {H : Type} : List (DataW H) → Nat
  | [] => 0
  | d :: r => uptoBulk d + uptoBulkAll r
def uptoBulkEntries {H : Type} : List (Lit × DataW H) → Nat
  | [] => 0
  | x :: r => uptoBulkEntry x + uptoBulkEntries r
def uptoBulkEntry {H : Type} : Lit × DataW H → Nat
  | (.string bytes, d) => bytes.length + uptoBulk d + 1
  | (_, d) => uptoBulk d + 1
 end
def uptoSmall : (H : Type) → List (DataW H) → Bool := fun _ ds => decide (uptoBulkAll ds ≤ 1048576)
def OpenSpec.upto (s : _root_.Go.ChangeSpec) : _root_.Go.OpenSpec := { _root_.Go.OpenSpec.ofChange s with cond := some uptoSmall }

/-- 'skeinlaw06.DhcpTalks', WHERE WHAT IT READS IS OF BULK AT MOST 1048576: true; the input reads as it did. -/
def dhcpTalksUptoRow : OpenClaim := { program := "ytbekgccecdjdeaa", sum := "7847c6601b2c6d33ada35ac1ce447d60c7f75549d261d86c468a631fd82f152f", func := "skein/skeinlaw06.DhcpTalks", spec := "dhcpTalks", unfollowed := true, recurses := true, apart := false, narrowed := true }
def DhcpTalksUptoSaid : Prop := dhcpTalksUptoRow.holds Try.pinned (OpenSpec.upto dhcpTalksSpec)

/-- 'skeinlaw06.DhcpDecodes', WHERE WHAT IT READS IS OF BULK AT MOST 1048576: true; the input reads as it did. -/
def dhcpDecodesUptoRow : OpenClaim := { program := "ytbekgccecdjdeaa", sum := "7847c6601b2c6d33ada35ac1ce447d60c7f75549d261d86c468a631fd82f152f", func := "skein/skeinlaw06.DhcpDecodes", spec := "dhcpDecodes", apart := false, narrowed := true }
def DhcpDecodesUptoSaid : Prop := dhcpDecodesUptoRow.holds Try.pinned (OpenSpec.upto dhcpDecodesSpec)

/-- 'skeinlaw06.DhcpEncodes', WHERE WHAT IT READS IS OF BULK AT MOST 1048576: true; the input reads as it did. -/
def dhcpEncodesUptoRow : OpenClaim := { program := "ytbekgccecdjdeaa", sum := "7847c6601b2c6d33ada35ac1ce447d60c7f75549d261d86c468a631fd82f152f", func := "skein/skeinlaw06.DhcpEncodes", spec := "dhcpEncodes", apart := false, narrowed := true }
def DhcpEncodesUptoSaid : Prop := dhcpEncodesUptoRow.holds Try.pinned (OpenSpec.upto dhcpEncodesSpec)

end Rows
end Go.Proofs.Ytbekgccecdjdeaa
