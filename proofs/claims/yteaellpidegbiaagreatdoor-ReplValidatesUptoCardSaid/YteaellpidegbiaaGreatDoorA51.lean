/- Part 51 of the proof. ReplValidates answers true for every rule whose data have a bulk of at most 1048576, and leaves its argument as it was; condition: two tables of unicode/utf8 read as their initialisers lay them. -/
import Derived.Test.YteaellpidegbiaaGreatDoorCards
import Derived.Test.YteaellpidegbiaaGreatDoorTie
import Derived.WalkKit
import Derived.ProofKit
import Derived.OpenShut
import Derived.Carry
import Derived.Deep.DeepHandedRow
import Derived.Lib.LaidTab
import Derived.Test.YteaellpidegbiaaGreatDoorA49
import Derived.Test.YteaellpidegbiaaGreatDoorA50
set_option linter.unusedVariables false
set_option linter.unusedSimpArgs false
namespace Go.Proofs.YteaellpidegbiaaGreatDoor
open Go.ChangeShapes Go.WideShapes Go.ChangeAt Go.RowKit Go.Ab
theorem laidOut : laidOutB Tryz.prog = true := by kernel_rfl
theorem small_of {H : Type} {d : DataW H} (hk : Rows.uptoSmall H ([d] ++ []) = true) : Rows.uptoBulk d ≤ 1048576 := by
  have h : Rows.uptoBulkAll ([d] ++ []) ≤ 1048576 := of_decide_eq_true hk
  simp only [List.append_nil, Rows.uptoBulkAll, Nat.add_zero] at h
  exact h
set_option maxRecDepth 1000000 in
theorem contract4 (H : Type) (enc' : TypeId × Value → H) (W : World) (base : Nat) (args : Array Value) (ds gs : List (DataW H)) (before : List MemPlace)
    (hval : ∀ (j : Nat) t v, Tryz.f4.params[j]? = some t → args[j]? = some v → Value.okWide Tryz.prog W .any base t v)
    (hW : DataW.Whole enc' Tryz.prog Tryz.f4.params.toList Rows.replValidatesSpec.vars false W args.toList ds gs before) (hk : Rows.uptoSmall H (ds ++ gs) = true) :
    Calls Tryz.prog 4 args W fun e W' => ∃ v, e = .returned v ∧ Rows.replValidatesSpec.post enc' Tryz.prog Tryz.f4 false true false false W args v W' := by
  have hW' := hW
  obtain ⟨p, q, hA0, hV, rfl, hfz, hnd⟩ := hW
  have hA : DataW.TrodAll enc' Tryz.prog W 0 (fun _ => true) true Tryz.f4.params.toList args.toList ds p := hA0
  rw [Tryz.params4] at hA hval
  obtain ⟨v0, d0, rfl, rfl, h0⟩ := trodAll_one hA
  obtain ⟨rfl, rfl⟩ := trodVars_none hV
  have hk := small_of hk
  obtain ⟨fuel, hf⟩ := h0
  obtain ⟨r, hr, hb⟩ := open_rule (fun _ => rfl) hf
  have hs := small_rule (r := r) (Nat.le_trans hb hk)
  obtain ⟨cs, rfl⟩ : ∃ cs, v0 = .agg cs := by
    have := hval 0 26 v0 (by simp) (by simp)
    unfold Value.okWide at this
    rw [Tryz.underlying26] at this
    obtain ⟨cs, h, _⟩ := this
    exact ⟨cs, h⟩
  have ha := hr.agg
  rw [Array.toArray_toList] at ha
  have hc : CRel phi0 (sigW W) [encR r] #[.agg cs] := by
    refine ⟨rfl, fun i => ?_⟩
    match i with
    | 0 => exact ha
    | i + 1 => exact .top _
  have hlt : ∀ x ∈ p, x.block < W.heap.size := fun x hx => hW'.lt x (by simpa using hx)
  refine (c4 r hs [] phi0 (sigW W) _ W (hrel0 W) hc).mono ?_
  rintro e W' ⟨φ', σ', rr, H', st, kp, hrr, rfl, rfl⟩
  obtain ⟨c, rfl, hv⟩ := hrr
  cases hv
  have hbel : Below W.heap.size W W' := ⟨st.os, st.tape, st.output, st.size, fun k hk => st.frame k hk (by rintro ⟨id, b, L, h, _⟩; simp at h)⟩
  have hag : DataW.TrodAll enc' Tryz.prog W' 0 (fun b => decide (b < W.heap.size)) true Tryz.f4.params.toList [Value.agg cs] [d0] p := by
    rw [Tryz.params4]
    exact trodAll_mk1 (Below.trod laidOut (by kernel_rfl) (of_decide_eq_true (by kernel_rfl)) ⟨fuel, hf⟩ hbel hlt)
  exact ⟨_, rfl, [d0], [], p ++ [], [], p, [], hW', trodAll_mk1 (shut_bool Tryz.underlying4 _), hag, rfl, World.keptBut_mono (fun x hx => ⟨hx, Or.inr (List.mem_append.1 hx)⟩) (hbel.frame (· ∈ p ++ [])), fun h => by cases h⟩
set_option maxRecDepth 100000 in
theorem lifted4 (os : Os) (started : os.Started) (H : Type) (enc' : TypeId × Value → H) (F : Stop.Interp) :
    ReturnsInHanded {} Tryz.checked os 4 .any ((Rows.OpenSpec.upto Rows.replValidatesSpec).preRow enc' Tryz.prog Tryz.f4 Rows.replValidatesUptoRow.domain false Rows.replValidatesUptoRow.laid) (((Rows.OpenSpec.upto Rows.replValidatesSpec).at F).post enc' Tryz.prog Tryz.f4 false true false false) := by
  obtain ⟨places, hx⟩ := reads4 os enc'
  refine returnsInHanded_of_row (C := Tryz.checked) (s := Rows.OpenSpec.upto Rows.replValidatesSpec) own started (by kernel_rfl) Tryz.func4
    (witness_row_at (enc := enc') (C := Tryz.checked) false (laidWorld os) #[noRule] rfl (by kernel_rfl) (by kernel_rfl) (by kernel_rfl)
      (OpenSpec.preRow_of_cond 8 hx (by kernel_rfl) (fun k hk => by cases hk; kernel_rfl) (by kernel_rfl) (laid_met os _))) ?_
  intro W base args ds gs before hval hW _ hcond _ _ _ _
  exact contract4 H enc' W base args ds gs before hval hW (hcond _ rfl)
set_option maxRecDepth 100000 in
theorem said4 : Rows.ReplValidatesUptoSaid :=
  OpenClaim.holds_of_cond 4 Tryz.f4 rfl rfl rfl rfl rfl rfl rfl ⟨rfl, rfl, rfl, rfl, rfl⟩ rfl rfl rfl rfl rfl (by kernel_rfl) Tryz.func4 (by kernel_rfl)
    (of_decide_eq_true (by kernel_rfl)) (by unfold Func.isWrapper; first | (rw [if_pos (by decide +kernel)]; kernel_rfl) | (rw [if_neg (by decide +kernel)]; exact ⟨rfl, rfl⟩))
    (fun os started H enc' _ F => by rw [OpenClaim.pre_eq_preRow]; exact lifted4 os started H enc' F)
theorem plain4 (f : FuncId) (fn : Func) (hf : Tryz.pinned.checked.prog.funcNamed "ablaut/ablautlaw07.ReplValidates" = some f) (hfn : Tryz.pinned.checked.prog.funcs[f]? = some fn) :
    true = Tryz.pinned.checked.prog.looks [] ∧ ∀ (j : Nat) t, fn.params[j]? = some t → Tryz.pinned.checked.prog.wantsStandIn t = false := by
  obtain rfl : f = 4 := Option.some.inj ((show Tryz.prog.funcNamed "ablaut/ablautlaw07.ReplValidates" = some 4 by kernel_rfl).symm.trans hf) |>.symm
  obtain rfl : fn = Tryz.f4 := (Option.some.inj (Tryz.func4.symm.trans hfn)).symm
  refine ⟨by kernel_rfl, fun j t ht => ?_⟩
  rw [Tryz.params4] at ht
  obtain rfl : t = 26 := by simpa using Array.mem_of_getElem? ht
  exact (show Tryz.prog.wantsStandIn 26 = false by kernel_rfl)
theorem replValidates_card : Rows.ReplValidatesUptoCardSaid :=
  Claim7.holds_tied_plain_at .later [] _ _ _ _ said4 (fun _ h => by cases h) (by kernel_rfl) (fun _ h => by cases h) replValidatesUpto_row_tie rfl ⟨rfl, rfl⟩ (by kernel_rfl) rfl plain4 (by kernel_rfl)
#print axioms replValidates_card
end Go.Proofs.YteaellpidegbiaaGreatDoor
