/- Part 35 of the proof. -/
import Derived.Test.YteaellpidegbiaaGreatDoorA33
import Derived.Test.YteaellpidegbiaaGreatDoorA34
set_option linter.unusedVariables false
set_option linter.unusedSimpArgs false
namespace Go.Ab
open Go
variable {P : Program} {φ : Phi} {σ : Sig} {H : Heap} {w w' : World}
theorem bytes_baOf (l : List UInt8) : (baOf l) = ⟨l.toArray⟩ := rfl
def sorted (l : List (List UInt8)) : List (List UInt8) := l.mergeSort fun x y => decide (x ≤ y)
theorem sort_call {id : Nat} {ss : List (List UInt8)} (hg : H[id]? = some (.cells (ss.map .str))) (hs : ss.length < 4611686018427387904) :
    ACall Proofs.Tryz.prog 27 [.sl id 0 ss.length 1] H (fun r H' => r = .ret (.tuple []) ∧ H' = H.set id (.cells ((sorted ss).map .str))) := by
  intro φ σ cargs w hr hc
  obtain ⟨hl, hrel⟩ := hc
  obtain ⟨l⟩ := cargs
  match l, hl, hrel with
  | [x], _, hrel =>
    have hx : VRel φ σ (.sl id 0 ss.length 1) x := by simpa using hrel 0
    cases hx with
    | sl _ _ _ _ cap L hp hn hcap =>
      obtain ⟨arr, t, fr, h1, h2, h3, h4, h5, h6⟩ := blk_cells hr hg hp
      rw [List.length_map] at h3 h5
      have hcell : ∀ j, j < ss.length → arr[L.o + j]? = some (.string ⟨(ss.getD j []).toArray⟩) := by
        intro j hj
        have := h5 j hj
        rw [getD_some (by omega)]
        rw [List.getD_eq_getElem?_getD, List.getElem?_map, List.getElem?_eq_getElem hj] at this
        rw [vrel_str this, List.getD_eq_getElem?_getD, List.getElem?_eq_getElem hj]; rfl
      have hH : Go.Sort.Holds Go.Proofs.encStr w L.b (L.o + 0) ss.toArray := by
        intro j hj
        rw [List.size_toArray] at hj
        refine ⟨?_, ?_⟩
        · have := cell_of_blk (o := L.o + j) h1
          unfold at_ at this
          rw [Nat.add_zero, this, hcell j hj, getElem!_pos _ j (by simpa using hj)]
          simp [List.getD_eq_getElem?_getD, List.getElem?_eq_getElem hj]
        · have := frozen_of_blk (o := L.o + j) h1 (h4 _ (by omega) (by omega))
          unfold at_ at this
          rw [Nat.add_zero]; exact this
      refine (Proofs.Tryz.slices_Sort_string L.b (L.o + 0) cap ss w hH (hr.bnd _ _ hp) hs).mono ?_
      rintro e w' ⟨rfl, n, os, rfl⟩
      have hlen : (sorted ss).length = ss.length := by simp [sorted]
      have hb : L.b < w.heap.size := hr.bnd _ _ hp
      let arr' : Array Value := Go.Sort.putCells Go.Proofs.encStr (L.o + 0) (sorted ss).toArray arr
      have hget : ∀ j, arr'[j]? = (arr[j]?).map fun x => if L.o ≤ j ∧ j < L.o + ss.length then .string ⟨((sorted ss).getD (j - L.o) []).toArray⟩ else x := by
        intro j
        show (Go.Sort.putCells Go.Proofs.encStr (L.o + 0) (sorted ss).toArray arr)[j]? = _
        simp only [Go.Sort.putCells, Array.getElem?_mapIdx, Nat.add_zero, List.size_toArray, hlen]
        congr 1
        funext y
        by_cases c : L.o ≤ j ∧ j < L.o + ss.length
        · rw [if_pos c, if_pos c]
          rw [getElem!_pos _ _ (by simp [hlen]; omega)]
          simp [List.getD_eq_getElem?_getD, List.getElem?_eq_getElem (show j - L.o < (sorted ss).length by omega)]
        · rw [if_neg c, if_neg c]
      have hsz : arr'.size = arr.size := by show (Go.Sort.putCells _ _ _ arr).size = _; simp [Go.Sort.putCells]
      have step1 : Step φ σ H w φ σ (H.set id (.cells ((sorted ss).map .str))) (World.setObj_ w L.b (.cells arr' t fr)) := by
        refine step_mod hr hg rfl hp ?_ rfl ?_
        · refine ⟨arr', t, fr, by rw [setObj_get, if_pos rfl, if_pos hb], by rw [hsz]; exact h2, by rw [List.length_map, hlen]; exact h3, h4, ?_, h6⟩
          intro i hi
          rw [List.length_map, hlen] at hi
          have hv := hget (L.o + i)
          rw [hcell i hi, Option.map_some, if_pos ⟨by omega, by omega⟩, show L.o + i - L.o = i by omega] at hv
          rw [Array.getD_eq_getD_getElem?, hv, List.getD_eq_getElem?_getD, List.getElem?_map, List.getElem?_eq_getElem (by omega)]
          rw [List.getD_eq_getElem?_getD, List.getElem?_eq_getElem (by omega)]
          exact .str _ _ rfl
        · intro j v hσ
          have hj : j < L.o := by
            rcases Nat.lt_or_ge j L.o with h | h
            · exact h
            · rw [h6 j h] at hσ; cases hσ
          have h7 := hr.sig _ _ _ hσ
          rw [cell_of_blk h1] at h7
          rw [cell_of_blk (arr := arr') (t := t) (fr := fr) (by rw [setObj_get, if_pos rfl, if_pos hb]), hget, h7, Option.map_some, if_neg (by omega)]
      have step2 : RowKit.Below (World.setObj_ w L.b (.cells arr' t fr)).heap.size (World.setObj_ w L.b (.cells arr' t fr))
          (Go.Sort.grow (Go.Sort.putRow Go.Proofs.encStr (Go.Sort.ahead w n) L.b (L.o + 0) (sorted ss).toArray) os) := by
        refine ⟨rfl, rfl, rfl, by simp [World.setObj_], ?_⟩
        intro k hk
        have hk' : k < w.heap.size := by simpa [World.setObj_] using hk
        rw [setObj_get]
        simp only [Go.Sort.grow, Go.Sort.putRow, Go.Sort.mapBlock, Go.Sort.ahead]
        rw [Array.getElem?_append_left (by simpa using hk'), Array.getElem?_modify]
        by_cases e : L.b = k
        · subst e
          rw [if_pos rfl, if_pos rfl, if_pos hk', h1]
          rfl
        · rw [if_neg e, if_neg e]
      have s := step1.trans (step_below step1.hrel step2)
      refine ⟨φ, σ, .ret (.tuple []), _, s, ?_, ⟨_, rfl, .tuple _ _ rfl fun i => by simpa using VRel.top _⟩, rfl, rfl⟩
      refine ⟨by simp, fun i hi => ?_⟩
      rw [List.getElem?_set]
      by_cases e : id = i
      · subst e; rw [hg] at hi; cases hi
      · rw [if_neg e]; exact hi
theorem sort_none (H : Heap) : ACall Proofs.Tryz.prog 27 [.nilslice] H (fun r H' => r = .ret (.tuple []) ∧ H' = H) := by
  refine acall_same fun φ σ cargs w hr hc => ?_
  obtain ⟨hl, hrel⟩ := hc
  obtain ⟨l⟩ := cargs
  match l, hl, hrel with
  | [x], _, hrel =>
    have hx : VRel φ σ .nilslice x := by simpa using hrel 0
    cases hx
    refine (Proofs.Tryz.slices_Sort_string_none none 0 w).mono ?_
    rintro e w' ⟨rfl, rfl⟩
    exact ⟨⟨_, rfl, .tuple _ _ rfl fun i => by simpa using VRel.top _⟩, rfl⟩
end Go.Ab
