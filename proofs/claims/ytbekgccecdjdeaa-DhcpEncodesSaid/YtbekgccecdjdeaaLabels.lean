/- A scope with two labels. No program here. -/
import Derived.Scope
import Derived.ScopeJumps
import Derived.Lib.Hide
import Derived.Test.YtbekgccecdjdeaaKit
namespace Go.Proofs.Ytbekgccecdjdeaa
open Go Go.RowKit

/-- As Q; by a goto to label 0: J0; to label 1: J1. -/
def jump2 (J0 J1 : Act → World → Prop) (Q : Exit → Act → World → Prop) : Exit → Act → World → Prop
  | .goto 0, a, w => J0 a w
  | .goto 1, a, w => J1 a w
  | .goto _, _, _ => False
  | e, a, w => Q e a w

section
variable {P : Program} {a : Act} {w : World} {Q : Exit → Act → World → Prop}

/-- Label 0 ends without a jump; each pass from label 1 lowers the measure. -/
theorem wp_scope_two {c rest0 rest1 : Code} (J0 J1 : Act → World → Prop) (μ : Act → World → Nat) (hf0 : findLabel c 0 = some rest0) (hf1 : findLabel c 1 = some rest1)
    (pass0 : ∀ a w, J0 a w → rest0.wp P (jump2 (fun _ _ => False) (fun _ _ => False) Q) a w)
    (pass1 : ∀ a w, J1 a w → rest1.wp P (jump2 J0 (fun a' w' => J1 a' w' ∧ μ a' w' < μ a w) Q) a w)
    (first : c.wp P (jump2 J0 J1 Q) a w) : (Code.scope c).wp P Q a w := by
  intro b k cs
  have hg0 : gotoIn 0 (.inScope c :: k) = some (.code rest0 :: .inScope c :: k) := by simp [gotoIn, hf0]
  have hg1 : gotoIn 1 (.inScope c :: k) = some (.code rest1 :: .inScope c :: k) := by simp [gotoIn, hf1]
  have key0 : ∀ a w, J0 a w → ∃ e a' w', Q e a' w' ∧ Arrives P (lone (b.at a (.code rest0 :: .inScope c :: k)) cs w) b k cs e a' w' := by
    intro a w hJ
    obtain ⟨e, a₁, w₁, hq, harr⟩ := pass0 a w hJ b (.inScope c :: k) cs
    cases e with
    | normal => exact ⟨.normal, a₁, w₁, hq, Steps.trans harr (.one step_inScope)⟩
    | exit id => exact ⟨.exit id, a₁, w₁, hq, fun k' hk => harr k' (by simp [exitTo, hk])⟩
    | goto l' =>
      rcases l' with _ | _ | l' <;> exact hq.elim
    | ret => exact ⟨_, a₁, w₁, hq, harr⟩
    | panic ch => exact ⟨_, a₁, w₁, hq, harr⟩
    | outgrown => exact ⟨_, a₁, w₁, hq, harr⟩
  have key : ∀ n a w, μ a w = n → J1 a w → ∃ e a' w', Q e a' w' ∧ Arrives P (lone (b.at a (.code rest1 :: .inScope c :: k)) cs w) b k cs e a' w' := by
    intro n
    induction n using Nat.strongRecOn with
    | _ n ih =>
      intro a w hn hJ
      obtain ⟨e, a₁, w₁, hq, harr⟩ := pass1 a w hJ b (.inScope c :: k) cs
      cases e with
      | normal => exact ⟨.normal, a₁, w₁, hq, Steps.trans harr (.one step_inScope)⟩
      | exit id => exact ⟨.exit id, a₁, w₁, hq, fun k' hk => harr k' (by simp [exitTo, hk])⟩
      | goto l' =>
        rcases l' with _ | _ | l'
        · obtain ⟨e₂, a₂, w₂, hq₂, harr₂⟩ := key0 a₁ w₁ hq
          exact ⟨e₂, a₂, w₂, hq₂, .of_steps (harr _ hg0) harr₂⟩
        · obtain ⟨hJ', hlt⟩ := hq
          obtain ⟨e₂, a₂, w₂, hq₂, harr₂⟩ := ih _ (by omega) a₁ w₁ rfl hJ'
          exact ⟨e₂, a₂, w₂, hq₂, .of_steps (harr _ hg1) harr₂⟩
        · exact hq.elim
      | ret => exact ⟨_, a₁, w₁, hq, harr⟩
      | panic ch => exact ⟨_, a₁, w₁, hq, harr⟩
      | outgrown => exact ⟨_, a₁, w₁, hq, harr⟩
  obtain ⟨e, a₁, w₁, hq, harr⟩ := first b (.inScope c :: k) cs
  cases e with
  | normal => exact ⟨.normal, a₁, w₁, hq, .head step_scope (Steps.trans harr (.one step_inScope))⟩
  | exit id => exact ⟨.exit id, a₁, w₁, hq, fun k' hk => .head step_scope (harr k' (by simp [exitTo, hk]))⟩
  | goto l' =>
    rcases l' with _ | _ | l'
    · obtain ⟨e₂, a₂, w₂, hq₂, harr₂⟩ := key0 a₁ w₁ hq
      exact ⟨e₂, a₂, w₂, hq₂, .of_steps (.head step_scope (harr _ hg0)) harr₂⟩
    · obtain ⟨e₂, a₂, w₂, hq₂, harr₂⟩ := key _ a₁ w₁ rfl hq
      exact ⟨e₂, a₂, w₂, hq₂, .of_steps (.head step_scope (harr _ hg1)) harr₂⟩
    · exact hq.elim
  | ret => exact ⟨_, a₁, w₁, hq, .of_steps (.one step_scope) harr⟩
  | panic ch => exact ⟨_, a₁, w₁, hq, .of_steps (.one step_scope) harr⟩
  | outgrown => exact ⟨_, a₁, w₁, hq, .of_steps (.one step_scope) harr⟩

/-- .. as the walk wants it: the label's own code, walked once, serves the first run too. -/
theorem wp_scope_two_key {c rest0 rest1 : Code} (J0 J1 : Act → World → Prop) (μ : Act → World → Nat) (hf0 : findLabel c 0 = some (.seq .skip rest0)) (hf1 : findLabel c 1 = some (.seq .skip rest1))
    (pass0 : ∀ a w, J0 a w → rest0.wp P (jump2 (fun _ _ => False) (fun _ _ => False) Q) a w)
    (pass1 : ∀ a w, J1 a w → rest1.wp P (jump2 J0 (fun a' w' => J1 a' w' ∧ μ a' w' < μ a w) Q) a w)
    (first : Hid (∀ a w, J1 a w → rest1.wp P (jump2 J0 J1 Q) a w) → c.wp P (jump2 J0 J1 Q) a w) : (Code.scope c).wp P Q a w := by
  refine wp_scope_two J0 J1 μ hf0 hf1 (fun a w hJ => wp_seq (wp_skip (pass0 a w hJ))) (fun a w hJ => wp_seq (wp_skip (pass1 a w hJ))) (first (Lib.hid fun a w hJ => Code.wp_mono (fun e a' w' q => ?_) (pass1 a w hJ)))
  cases e with
  | goto l => rcases l with _ | _ | l <;> first | exact q | exact q.1
  | _ => exact q
end
end Go.Proofs.Ytbekgccecdjdeaa
