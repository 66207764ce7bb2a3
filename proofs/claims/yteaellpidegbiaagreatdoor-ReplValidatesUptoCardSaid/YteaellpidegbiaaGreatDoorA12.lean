/- Part 12 of the proof. -/
import Derived.Test.YteaellpidegbiaaGreatDoorA11
set_option linter.unusedVariables false
set_option linter.unusedSimpArgs false
namespace Go.Ab
variable {P : Program} {H : Heap}
def resVL (rs : List RV) (al : AL) (H : Heap) : Option (List AV) :=
  match rs with
  | [] => some []
  | .tmp t :: l => match resVL l al H with
    | some r => some (look al t :: r)
    | none => none
  | .cell t n :: l => match rload n (look al t) H, resVL l al H with
    | some v, some r => some (v :: r)
    | _, _ => none
theorem resVL_eq (n : Nat) (al : AL) (H : Heap) : ∀ rs, resV rs (mkE n al) H = resVL rs al H
  | [] => rfl
  | .tmp t :: l => by simp only [resV, resVL, resVL_eq n al H l]; rfl
  | .cell t k :: l => by simp only [resV, resVL, resVL_eq n al H l]; rfl
def resultL (rs : List RV) (al : AL) (H : Heap) : Option AV :=
  match resVL rs al H with
  | some [v] => some v
  | some vs => some (.tuple vs)
  | none => none
def fpostL (rs : List RV) (Q : CPost) : PL
  | .normal, al, H => ∃ v, resultL rs al H = some v ∧ Q (.ret v) H
  | .ret, al, H => ∃ v, resultL rs al H = some v ∧ Q (.ret v) H
  | .panic v, _, H => Q (.panic v) H
  | _, _, _ => False
structure IFunc where
  n : Nat
  rs : List RV
  body : IC
def Is (P : Program) (f : FuncId) (anns : List Ann) (F : IFunc) : Prop :=
  match P.funcs[f]? with
  | some fn => match fn.body with
    | some c => fn.ntmps = F.n ∧ cRV P fn.results.toList = some F.rs ∧ cCode P fn.ntmps c anns = some (F.body, [])
    | none => False
  | none => False
theorem Is.call {f : FuncId} {anns : List Ann} {F : IFunc} (hnn : NoNum P) (hm : P.follows .mixedOrders = true) (hF : Is P f anns F) {args : List AV} {Q : CPost}
    (hn : Nat.ble args.length F.n = true) (h : iwp P F.body (fpostL F.rs Q) (number 0 args) H) : ACall P f args H Q := by
  unfold Is at hF
  split at hF
  case h_2 => exact hF.elim
  rename_i fn hf
  split at hF
  case h_2 => exact hF.elim
  rename_i c hb
  obtain ⟨h1, h2, h3⟩ := hF
  refine acall_of_awp hf hb h2 (by rw [h1]; exact Nat.le_of_ble_eq_true hn) ?_
  refine (iwp_sound hnn hm c _ _ _ h3 _ _ _ h).mono ?_
  rintro x env H' ⟨m, al, rfl, hmm, q⟩
  cases x with
  | normal => obtain ⟨v, h4, h5⟩ := q; exact ⟨v, by simp only [resultA, resVL_eq]; exact h4, h5⟩
  | ret => obtain ⟨v, h4, h5⟩ := q; exact ⟨v, by simp only [resultA, resVL_eq]; exact h4, h5⟩
  | panic v => exact q
  | exit id => exact q
  | goto l => exact q
end Go.Ab
