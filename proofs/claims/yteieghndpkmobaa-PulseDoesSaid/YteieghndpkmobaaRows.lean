/-
  No cell of these rows narrows 'for every input' (looked for: loops, veiled, ifaces, maps, wideKeys, modest, calm, conditions, laid).
  DERIVED. THE GIVEN ROWS OF THIS SEAT. 7 by the template 'for every input the law returns true; each argument reads behind the call as it read before'; 0 by the template 'total and deterministic' (their statements: YteieghndpkmobaaTotals.lean).
  GIVEN WITH THE SEED: the statements are not yours to turn. If you find one false, say at which input.
  Laid BY PROGRAM, IN A SANDBOX (cutbox-rows.mjs): the forced cells as the released guide's own fill.sh prints them over the translation 6193bca0775dc001… (all of the seat's roots in one cut). By AI agents, Wed Nov 11 2026. No macro, syntax, notation, axiom, sorry.
-/
import Derived.Test.YteieghndpkmobaaChecked
import GoSem.Claim
import GoSem.ClaimJoined
import GoSem.ClaimMapViews
import Derived.JoinedTies
import Derived.KernelRfl
namespace Go.Proofs.Yteieghndpkmobaa
/- THE CELL 'sum', in the pinned program and in every row, IS THE sha256 OF THE DUMP (.gsa) THAT YteieghndpkmobaaProg.lean LOADS. Nothing in Lean hashes anything: it is a label: what it is worth is what the hold of that sum in a sandbox is worth. -/
noncomputable def Try.pinned : Pinned := { name := "yteieghndpkmobaa", sum := "6193bca0775dc001f9db0f0080ae9dd7ff1820c001953a97b690765e39c36f71", checked := Try.checked }
namespace Rows
def none {H : Type} : Left H := { results := [], args := [] }

/-- 'skeinlaw26.PulseBack': WHATEVER THE INPUT: true; the input reads as it did. -/
def pulseBackSpec : ChangeSpec := { name := "pulseBack", fn := fun _ => fun
  | [d] => { results := [.lit (.bool true)], args := [d] }
  | _ => none }
def pulseBackRow : OpenClaim := { program := "yteieghndpkmobaa", sum := "6193bca0775dc001f9db0f0080ae9dd7ff1820c001953a97b690765e39c36f71", func := "skein/skeinlaw26.PulseBack", spec := "pulseBack", unfollowed := true, recurses := true, apart := false }
def PulseBackSaid : Prop := pulseBackRow.holds Try.pinned (OpenSpec.ofChange pulseBackSpec)

/-- ITS FALSE NEIGHBOUR: 'it returns false'. Refute it at one input. -/
def pulseBackWrong : ChangeSpec := { name := "pulseBack", fn := fun _ => fun
  | [d] => { results := [.lit (.bool false)], args := [d] }
  | _ => none }
def PulseBackWrongFalsely : Prop := pulseBackRow.holds Try.pinned (OpenSpec.ofChange pulseBackWrong)

/-- 'skeinlaw26.PulseLater': WHATEVER THE INPUT: true; the input reads as it did. -/
def pulseLaterSpec : ChangeSpec := { name := "pulseLater", fn := fun _ => fun
  | [d] => { results := [.lit (.bool true)], args := [d] }
  | _ => none }
def pulseLaterRow : OpenClaim := { program := "yteieghndpkmobaa", sum := "6193bca0775dc001f9db0f0080ae9dd7ff1820c001953a97b690765e39c36f71", func := "skein/skeinlaw26.PulseLater", spec := "pulseLater", unfollowed := true, recurses := true, apart := false }
def PulseLaterSaid : Prop := pulseLaterRow.holds Try.pinned (OpenSpec.ofChange pulseLaterSpec)

/-- ITS FALSE NEIGHBOUR: 'it returns false'. Refute it at one input. -/
def pulseLaterWrong : ChangeSpec := { name := "pulseLater", fn := fun _ => fun
  | [d] => { results := [.lit (.bool false)], args := [d] }
  | _ => none }
def PulseLaterWrongFalsely : Prop := pulseLaterRow.holds Try.pinned (OpenSpec.ofChange pulseLaterWrong)

/-- 'skeinlaw26.PulseTurns': WHATEVER THE INPUT: true; the input reads as it did. -/
def pulseTurnsSpec : ChangeSpec := { name := "pulseTurns", fn := fun _ => fun
  | [d1, d2, d3] => { results := [.lit (.bool true)], args := [d1, d2, d3] }
  | _ => none }
def pulseTurnsRow : OpenClaim := { program := "yteieghndpkmobaa", sum := "6193bca0775dc001f9db0f0080ae9dd7ff1820c001953a97b690765e39c36f71", func := "skein/skeinlaw26.PulseTurns", spec := "pulseTurns", unfollowed := true, recurses := true, apart := false }
def PulseTurnsSaid : Prop := pulseTurnsRow.holds Try.pinned (OpenSpec.ofChange pulseTurnsSpec)

/-- ITS FALSE NEIGHBOUR: 'it returns false'. Refute it at one input. -/
def pulseTurnsWrong : ChangeSpec := { name := "pulseTurns", fn := fun _ => fun
  | [d1, d2, d3] => { results := [.lit (.bool false)], args := [d1, d2, d3] }
  | _ => none }
def PulseTurnsWrongFalsely : Prop := pulseTurnsRow.holds Try.pinned (OpenSpec.ofChange pulseTurnsWrong)

/-- 'skeinlaw26.PulseAdds': WHATEVER THE INPUT: true; the input reads as it did. -/
def pulseAddsSpec : ChangeSpec := { name := "pulseAdds", fn := fun _ => fun
  | [d1, d2, d3] => { results := [.lit (.bool true)], args := [d1, d2, d3] }
  | _ => none }
def pulseAddsRow : OpenClaim := { program := "yteieghndpkmobaa", sum := "6193bca0775dc001f9db0f0080ae9dd7ff1820c001953a97b690765e39c36f71", func := "skein/skeinlaw26.PulseAdds", spec := "pulseAdds", unfollowed := true, recurses := true, apart := false }
def PulseAddsSaid : Prop := pulseAddsRow.holds Try.pinned (OpenSpec.ofChange pulseAddsSpec)

/-- ITS FALSE NEIGHBOUR: 'it returns false'. Refute it at one input. -/
def pulseAddsWrong : ChangeSpec := { name := "pulseAdds", fn := fun _ => fun
  | [d1, d2, d3] => { results := [.lit (.bool false)], args := [d1, d2, d3] }
  | _ => none }
def PulseAddsWrongFalsely : Prop := pulseAddsRow.holds Try.pinned (OpenSpec.ofChange pulseAddsWrong)

/-- 'skeinlaw26.PulseOf': WHATEVER THE INPUT: true; the input reads as it did. -/
def pulseOfSpec : ChangeSpec := { name := "pulseOf", fn := fun _ => fun
  | [d1, d2] => { results := [.lit (.bool true)], args := [d1, d2] }
  | _ => none }
def pulseOfRow : OpenClaim := { program := "yteieghndpkmobaa", sum := "6193bca0775dc001f9db0f0080ae9dd7ff1820c001953a97b690765e39c36f71", func := "skein/skeinlaw26.PulseOf", spec := "pulseOf", unfollowed := true, recurses := true, apart := false }
def PulseOfSaid : Prop := pulseOfRow.holds Try.pinned (OpenSpec.ofChange pulseOfSpec)

/-- ITS FALSE NEIGHBOUR: 'it returns false'. Refute it at one input. -/
def pulseOfWrong : ChangeSpec := { name := "pulseOf", fn := fun _ => fun
  | [d1, d2] => { results := [.lit (.bool false)], args := [d1, d2] }
  | _ => none }
def PulseOfWrongFalsely : Prop := pulseOfRow.holds Try.pinned (OpenSpec.ofChange pulseOfWrong)

/-- 'skeinlaw26.PulseNobody': WHATEVER THE INPUT: true; the input reads as it did. -/
def pulseNobodySpec : ChangeSpec := { name := "pulseNobody", fn := fun _ => fun
  | [d] => { results := [.lit (.bool true)], args := [d] }
  | _ => none }
def pulseNobodyRow : OpenClaim := { program := "yteieghndpkmobaa", sum := "6193bca0775dc001f9db0f0080ae9dd7ff1820c001953a97b690765e39c36f71", func := "skein/skeinlaw26.PulseNobody", spec := "pulseNobody", unfollowed := true, recurses := true, apart := false }
def PulseNobodySaid : Prop := pulseNobodyRow.holds Try.pinned (OpenSpec.ofChange pulseNobodySpec)

/-- ITS FALSE NEIGHBOUR: 'it returns false'. Refute it at one input. -/
def pulseNobodyWrong : ChangeSpec := { name := "pulseNobody", fn := fun _ => fun
  | [d] => { results := [.lit (.bool false)], args := [d] }
  | _ => none }
def PulseNobodyWrongFalsely : Prop := pulseNobodyRow.holds Try.pinned (OpenSpec.ofChange pulseNobodyWrong)

/-- 'skeinlaw26.PulseDoes': WHATEVER THE INPUT: true; the input reads as it did. -/
def pulseDoesSpec : ChangeSpec := { name := "pulseDoes", fn := fun _ => fun
  | [d] => { results := [.lit (.bool true)], args := [d] }
  | _ => none }
def pulseDoesRow : OpenClaim := { program := "yteieghndpkmobaa", sum := "6193bca0775dc001f9db0f0080ae9dd7ff1820c001953a97b690765e39c36f71", func := "skein/skeinlaw26.PulseDoes", spec := "pulseDoes", unfollowed := true, recurses := true, apart := false }
def PulseDoesSaid : Prop := pulseDoesRow.holds Try.pinned (OpenSpec.ofChange pulseDoesSpec)

/-- ITS FALSE NEIGHBOUR: 'it returns false'. Refute it at one input. -/
def pulseDoesWrong : ChangeSpec := { name := "pulseDoes", fn := fun _ => fun
  | [d] => { results := [.lit (.bool false)], args := [d] }
  | _ => none }
def PulseDoesWrongFalsely : Prop := pulseDoesRow.holds Try.pinned (OpenSpec.ofChange pulseDoesWrong)

/- THE SECOND FORM. 'bulk': how many values and letters a reading holds, each counted each time it is reached (what is shared counts as often as it is met; a slice's spare places count too). A statement '..UptoSaid' is the law's where the arguments, and the package variables that the reading takes, are together of bulk at most 1048576: NARROWER than '..Said'. Prove '..Said' where nothing that the law and all that it calls make is longer than what came in: it says more and counts as full. Else prove '..UptoSaid'. A law counts once. -/
mutual
def uptoBulk {H : Type} : DataW H → Nat
  | .lit (.string bytes) => bytes.length + 1
  | .lit _ => 1
  | .nil => 1
  | .ptr d => uptoBulk d + 1
  | .slice elems spare => uptoBulkAll elems + uptoBulkAll spare + 1
  | .agg parts => uptoBulkAll parts + 1
  | .iface _ d => uptoBulk d + 1
  | .map entries => uptoBulkEntries entries + 1
  | .held _ => 1
def uptoBulkAll {H : Type} : List (DataW H) → Nat
  | [] => 0
  | d :: r => uptoBulk d + uptoBulkAll r
def uptoBulkEntries {H : Type} : List (Lit × DataW H) → Nat
  | [] => 0
  | x :: r => uptoBulkEntry x + uptoBulkEntries r
def uptoBulkEntry {H : Type} : Lit × DataW H → Nat
  | (.string bytes, d) => bytes.length + uptoBulk d + 1
  | (_, d) => uptoBulk d + 1
 end
def uptoSmall : (H : Type) → List (DataW H) → Bool := fun _ ds => decide (uptoBulkAll ds ≤ 1048576)
def OpenSpec.upto (s : _root_.Go.ChangeSpec) : _root_.Go.OpenSpec := { _root_.Go.OpenSpec.ofChange s with cond := some uptoSmall }

/-- 'skeinlaw26.PulseBack', WHERE WHAT IT READS IS OF BULK AT MOST 1048576: true; the input reads as it did. -/
def pulseBackUptoRow : OpenClaim := { program := "yteieghndpkmobaa", sum := "6193bca0775dc001f9db0f0080ae9dd7ff1820c001953a97b690765e39c36f71", func := "skein/skeinlaw26.PulseBack", spec := "pulseBack", unfollowed := true, recurses := true, apart := false, narrowed := true }
def PulseBackUptoSaid : Prop := pulseBackUptoRow.holds Try.pinned (OpenSpec.upto pulseBackSpec)

/-- 'skeinlaw26.PulseLater', WHERE WHAT IT READS IS OF BULK AT MOST 1048576: true; the input reads as it did. -/
def pulseLaterUptoRow : OpenClaim := { program := "yteieghndpkmobaa", sum := "6193bca0775dc001f9db0f0080ae9dd7ff1820c001953a97b690765e39c36f71", func := "skein/skeinlaw26.PulseLater", spec := "pulseLater", unfollowed := true, recurses := true, apart := false, narrowed := true }
def PulseLaterUptoSaid : Prop := pulseLaterUptoRow.holds Try.pinned (OpenSpec.upto pulseLaterSpec)

/-- 'skeinlaw26.PulseTurns', WHERE WHAT IT READS IS OF BULK AT MOST 1048576: true; the input reads as it did. -/
def pulseTurnsUptoRow : OpenClaim := { program := "yteieghndpkmobaa", sum := "6193bca0775dc001f9db0f0080ae9dd7ff1820c001953a97b690765e39c36f71", func := "skein/skeinlaw26.PulseTurns", spec := "pulseTurns", unfollowed := true, recurses := true, apart := false, narrowed := true }
def PulseTurnsUptoSaid : Prop := pulseTurnsUptoRow.holds Try.pinned (OpenSpec.upto pulseTurnsSpec)

/-- 'skeinlaw26.PulseAdds', WHERE WHAT IT READS IS OF BULK AT MOST 1048576: true; the input reads as it did. -/
def pulseAddsUptoRow : OpenClaim := { program := "yteieghndpkmobaa", sum := "6193bca0775dc001f9db0f0080ae9dd7ff1820c001953a97b690765e39c36f71", func := "skein/skeinlaw26.PulseAdds", spec := "pulseAdds", unfollowed := true, recurses := true, apart := false, narrowed := true }
def PulseAddsUptoSaid : Prop := pulseAddsUptoRow.holds Try.pinned (OpenSpec.upto pulseAddsSpec)

/-- 'skeinlaw26.PulseOf', WHERE WHAT IT READS IS OF BULK AT MOST 1048576: true; the input reads as it did. -/
def pulseOfUptoRow : OpenClaim := { program := "yteieghndpkmobaa", sum := "6193bca0775dc001f9db0f0080ae9dd7ff1820c001953a97b690765e39c36f71", func := "skein/skeinlaw26.PulseOf", spec := "pulseOf", unfollowed := true, recurses := true, apart := false, narrowed := true }
def PulseOfUptoSaid : Prop := pulseOfUptoRow.holds Try.pinned (OpenSpec.upto pulseOfSpec)

/-- 'skeinlaw26.PulseNobody', WHERE WHAT IT READS IS OF BULK AT MOST 1048576: true; the input reads as it did. -/
def pulseNobodyUptoRow : OpenClaim := { program := "yteieghndpkmobaa", sum := "6193bca0775dc001f9db0f0080ae9dd7ff1820c001953a97b690765e39c36f71", func := "skein/skeinlaw26.PulseNobody", spec := "pulseNobody", unfollowed := true, recurses := true, apart := false, narrowed := true }
def PulseNobodyUptoSaid : Prop := pulseNobodyUptoRow.holds Try.pinned (OpenSpec.upto pulseNobodySpec)

/-- 'skeinlaw26.PulseDoes', WHERE WHAT IT READS IS OF BULK AT MOST 1048576: true; the input reads as it did. -/
def pulseDoesUptoRow : OpenClaim := { program := "yteieghndpkmobaa", sum := "6193bca0775dc001f9db0f0080ae9dd7ff1820c001953a97b690765e39c36f71", func := "skein/skeinlaw26.PulseDoes", spec := "pulseDoes", unfollowed := true, recurses := true, apart := false, narrowed := true }
def PulseDoesUptoSaid : Prop := pulseDoesUptoRow.holds Try.pinned (OpenSpec.upto pulseDoesSpec)

end Rows
end Go.Proofs.Yteieghndpkmobaa
