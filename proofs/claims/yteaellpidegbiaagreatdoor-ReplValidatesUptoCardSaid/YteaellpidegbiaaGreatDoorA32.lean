/- Part 32 of the proof. -/
import Derived.Test.YteaellpidegbiaaGreatDoorA19
import Derived.Test.YteaellpidegbiaaGreatDoorA31
set_option linter.unusedVariables false
set_option linter.unusedSimpArgs false
namespace Go.Ab
open Go
theorem ba_of {s : ByteArray} {c : UInt8} (h : s.data.toList = [c]) : s = ⟨#[c]⟩ := by
  obtain ⟨⟨l⟩⟩ := s
  simp only at h; rw [h]
def ansCount : List AV → Heap → Option AV
  | [.str s, .str [c]], _ => some (.int .i64 (Lib.countByte s c))
  | _, _ => none
theorem two_args {φ : Phi} {σ : Sig} {a b : AV} {cargs : Array Value} (h : CRel φ σ [a, b] cargs) : ∃ x y, cargs = #[x, y] ∧ VRel φ σ a x ∧ VRel φ σ b y := by
  obtain ⟨hl, hr⟩ := h
  obtain ⟨l⟩ := cargs
  match l, hl with
  | [x, y], _ => exact ⟨x, y, rfl, by simpa using hr 0, by simpa using hr 1⟩
theorem count_ok (args : List AV) (H : Heap) (v : AV) (h : ansCount args H = some v) : ACall Proofs.Tryz.prog 114 args H (fun r H' => r = .ret v ∧ H' = H) := by
  unfold ansCount at h
  split at h
  · rename_i s c
    injection h with h; subst h
    refine acall_same fun φ σ cargs w hr hc => ?_
    obtain ⟨x, y, rfl, hx, hy⟩ := two_args hc
    cases hx with
    | str _ a ha => cases hy with
      | str _ b hb =>
        rw [ba_of hb]
        refine (Proofs.Tryz.strings_Count_one a c w).mono ?_
        rintro e w' ⟨rfl, rfl⟩
        exact ⟨⟨_, rfl, by rw [ha]; exact .int _ _⟩, rfl⟩
  · cases h
def ansIndex : List AV → Heap → Option AV
  | [.str s, .str [c]], _ => some (.int .i64 (Lib.indexByte s c))
  | _, _ => none
theorem index_ok (args : List AV) (H : Heap) (v : AV) (h : ansIndex args H = some v) : ACall Proofs.Tryz.prog 171 args H (fun r H' => r = .ret v ∧ H' = H) := by
  unfold ansIndex at h
  split at h
  · rename_i s c
    injection h with h; subst h
    refine acall_same fun φ σ cargs w hr hc => ?_
    obtain ⟨x, y, rfl, hx, hy⟩ := two_args hc
    cases hx with
    | str _ a ha => cases hy with
      | str _ b hb =>
        rw [ba_of hb]
        refine (Proofs.Tryz.stringslite_Index_one a c w).mono ?_
        rintro e w' ⟨rfl, rfl⟩
        exact ⟨⟨_, rfl, by rw [ha]; exact .int _ _⟩, rfl⟩
  · cases h
def ansIndexByte : List AV → Heap → Option AV
  | [.str s, .int .u8 c], _ => some (.int .i64 (Lib.indexByte s c.toNat.toUInt8))
  | _, _ => none
theorem indexByte_ok (args : List AV) (H : Heap) (v : AV) (h : ansIndexByte args H = some v) : ACall Proofs.Tryz.prog 207 args H (fun r H' => r = .ret v ∧ H' = H) := by
  unfold ansIndexByte at h
  split at h
  · rename_i s c
    injection h with h; subst h
    refine acall_same fun φ σ cargs w hr hc => ?_
    obtain ⟨x, y, rfl, hx, hy⟩ := two_args hc
    cases hx with
    | str _ a ha => cases hy with
      | int =>
        refine (Proofs.Tryz.stringslite_IndexByte a c w).mono ?_
        rintro e w' ⟨rfl, rfl⟩
        exact ⟨⟨_, rfl, by rw [ha]; exact .int _ _⟩, rfl⟩
  · cases h
theorem body114 : hasBody Proofs.Tryz.prog 114 = true := by unfold hasBody; rw [Go.Proofs.Tryz.func114]; rfl
theorem body171 : hasBody Proofs.Tryz.prog 171 = true := by unfold hasBody; rw [Go.Proofs.Tryz.func171]; rfl
theorem body207 : hasBody Proofs.Tryz.prog 207 = true := by unfold hasBody; rw [Go.Proofs.Tryz.func207]; rfl
def orcLib : BCall := orcPure 114 ansCount (orcPure 171 ansIndex (orcPure 207 ansIndexByte orcNone))
theorem orcLib_ok : CallOk Proofs.Tryz.prog orcLib :=
  orcPure_ok (orcPure_ok (orcPure_ok orcNone_ok body207 indexByte_ok) body171 index_ok) body114 count_ok
end Go.Ab
