/- Part 18 of the proof. -/
import Derived.Test.YteaellpidegbiaaGreatDoorA14
set_option linter.unusedVariables false
set_option linter.unusedSimpArgs false
namespace Go.Ab
inductive FT where
  | leaf
  | node (l : FT) (f : Nat) (F : IFunc) (r : FT)
noncomputable def FT.get (t : FT) (f : Nat) : Option IFunc :=
  FT.rec none (fun _ g F _ l r => bif Nat.beq f g then some F else bif Nat.blt f g then l else r) t
def FT.ok (P : Program) : FT → Prop
  | .leaf => True
  | .node l f F r => l.ok P ∧ (∃ anns, Is P f anns F) ∧ r.ok P
theorem FT.ok_get {P : Program} : ∀ {t : FT}, t.ok P → ∀ f F, t.get f = some F → ∃ anns, Is P f anns F
  | .leaf, _, f, F, h => by cases h
  | .node l g G r, ⟨h1, h2, h3⟩, f, F, h => by
    have h : (bif Nat.beq f g then some G else bif Nat.blt f g then l.get f else r.get f) = some F := h
    cases e : Nat.beq f g with
    | true => rw [e] at h; injection h with h; subst h; rw [Nat.eq_of_beq_eq_true e]; exact h2
    | false =>
      rw [e] at h
      cases e2 : Nat.blt f g with
      | true => rw [e2] at h; exact ok_get h1 f F h
      | false => rw [e2] at h; exact ok_get h3 f F h
end Go.Ab
