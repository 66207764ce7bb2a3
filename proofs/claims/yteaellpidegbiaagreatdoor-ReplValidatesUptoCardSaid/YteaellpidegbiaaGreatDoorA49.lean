/- Part 49 of the proof. -/
import Derived.Test.YteaellpidegbiaaGreatDoorA37
import Derived.Test.YteaellpidegbiaaGreatDoorA39
import Derived.Test.YteaellpidegbiaaGreatDoorA44
import Derived.Test.YteaellpidegbiaaGreatDoorA46
import Derived.Test.YteaellpidegbiaaGreatDoorA48
set_option linter.unusedVariables false
set_option linter.unusedSimpArgs false
namespace Go.Ab
open Go
set_option maxRecDepth 100000
set_option maxHeartbeats 16000000
theorem syms_same (r : Ru) : (if vrule2 r != 0 then [] else if decide (((setS (occR r)).length : Int) > 40) then [] else setS (occR r)) = (symsR r).1 ∧
    (if vrule2 r != 0 then vrule2 r else if decide (((setS (occR r)).length : Int) > 40) then 3 else 0) = (symsR r).2 := by
  unfold symsR
  rw [vrule_eq, setS_length]
  split
  · exact ⟨rfl, rfl⟩
  · split
    · exact ⟨rfl, rfl⟩
    · exact ⟨rfl, rfl⟩
theorem c4 (r : Ru) (hr : SmallR r) (H : Heap) : ACall PP 4 [encR r] H (Just H (.bool true)) := by
  have k10 := c10 r hr.ok hr.okt
  have k11 := c11 r hr.ok2 (by have := addAll_le (occR r) []; have := hr.occ; simp at *; omega)
  have k12 := c12 r hr.ok (by have := hr.occ; omega)
  have k13 := c13 r hr.ok
  have k14 := c14 r hr.ok
  have k15 := c15 r hr.ok
  have k16 := c16 r hr.ok
  rw [text_eq] at k13
  rw [(syms_same r).1, (syms_same r).2] at k12
  rw [vrule_eq] at k16
  have hsl : (symsR r).1.length ≤ 1000000000000 := by
    have h1 := addAll_le (occR r) []
    have h2 := hr.occ
    have h3 := setS_length (occR r)
    unfold symsR
    split
    · simp
    · split
      · simp
      · simp at h1
        show (setS (occR r)).length ≤ 1000000000000
        omega
  have hw := sl_W ⟨true, (symsR r).1⟩
  have k17 := c17 hw hw hsl
  simp only at hw
  generalize encW ⟨true, (symsR r).1⟩ = sv at *
  generalize (symsR r).1 = sl at *
  generalize (symsR r).2 = se at *
  generalize (text2 r).1 = tt at *
  generalize (text2 r).2 = te at *
  generalize vrule r = ve at *
  generalize overR r = ov at *
  have b1 : (ve == ve) = true := by simp
  have b2 : (sl == sl) = true := by simp
  have b3 : (se == se) = true := by simp
  have b4 : (tt == tt) = true := by simp
  have b5 : (te == te) = true := by simp
  clear hr hsl
  obtain ⟨kind, pn, pairs, ln, places, below⟩ := r
  unfold encR at *
  refine ACall.gives (is4.c1 nonum mixed rfl ?_)
  refine walk ?_
  refine st_call rfl (k10 _) ?_
  refine walk ?_
  cases ov
  · refine walk ?_
    refine st_call rfl (k11 _) ?_
    refine walk ?_
    refine st_call rfl (k12 _) ?_
    refine walk ?_
    refine st_call rfl (k13 _) ?_
    refine walk ?_
    refine st_call rfl (k14 _) ?_
    refine walk ?_
    refine st_call rfl (k15 _) ?_
    refine walk ?_
    refine st_call rfl (k16 _) ?_
    refine walk ?_
    refine st_call rfl (k17 _) ?_
    refine walk ?_
    refine st_call rfl (known_call _) ?_
    refine walk ?_
    exact fr
  · refine walk ?_
    refine st_call rfl (known_call _) ?_
    refine walk ?_
    exact fr
end Go.Ab
