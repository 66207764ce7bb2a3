/- Part 33 of the proof. -/
import Derived.Test.YteaellpidegbiaaGreatDoorA25
import Derived.Test.YteaellpidegbiaaGreatDoorA32
set_option linter.unusedVariables false
set_option linter.unusedSimpArgs false
namespace Go.Ab
open Go
variable {P : Program} {φ : Phi} {σ : Sig} {H : Heap} {w w' : World}
theorem step_below (hr : HRel φ σ H w) (h : RowKit.Below w.heap.size w w') : Step φ σ H w φ σ H w' := by
  have hb : ∀ k, k < w.heap.size → w'.heap[k]? = w.heap[k]? := h.block
  refine ⟨.refl _, .refl _, h.os, h.tape, h.output, h.size, fun b hlt _ => hb b hlt, fun b hb => .inr hb, ?_⟩
  refine ⟨hr.dom, fun id L hL => Nat.lt_of_lt_of_le (hr.bnd id L hL) h.size, ?_, hr.inj, ?_, hr.resv⟩
  · intro id b hg hl
    obtain ⟨L, h1, h2⟩ := hr.blk id b hg hl
    exact ⟨L, h1, h2.mono (.refl _) (.refl _) (fun _ _ _ h => h) (hb _ (hr.bnd _ _ h1))⟩
  · intro b o v hs
    have := hr.sig b o v hs
    rw [World.cell?_of_block (hb b (World.block_lt_of_cell? w _ this))]; exact this
theorem acall_below {f : FuncId} {args : List AV} {v : AV} (h : ∀ (φ : Phi) (σ : Sig) (cargs : Array Value) (w : World), HRel φ σ H w → CRel φ σ args cargs →
    Calls P f cargs w fun e w' => (∃ c, e = .returned c ∧ VRel φ σ v c) ∧ RowKit.Below w.heap.size w w') : ACall P f args H (Just H v) := by
  intro φ σ cargs w hr hc
  refine (h φ σ cargs w hr hc).mono ?_
  rintro e w' ⟨⟨c, rfl, hv⟩, hb⟩
  exact ⟨φ, σ, .ret v, H, step_below hr hb, .refl _, ⟨c, rfl, hv⟩, rfl, rfl⟩
def baOf (l : List UInt8) : ByteArray := ⟨l.toArray⟩
theorem vrel_str {l : List UInt8} {c : Value} (h : VRel φ σ (.str l) c) : c = .string (baOf l) := by
  cases h with
  | str _ s hs => subst hs; rfl
theorem cells_strs (l : List (List UInt8)) : flat (l.map AV.str) = l.map AV.str := by
  induction l with
  | nil => rfl
  | cons a l ih => show [AV.str a] ++ flat (l.map AV.str) = _; rw [ih]; rfl
theorem join_call {x : AV} {n : Nat} {strs : List (List UInt8)} {sep : List UInt8} (hx : srcOf 1 H x = some (n, strs.map .str)) (hn : strs.length ≤ 140737488355328)
    (hlen : (Lib.join strs sep).length ≤ 140737488355328) : ACall Proofs.Tryz.prog 33 [x, .str sep] H (Just H (.str (Lib.join strs sep))) := by
  refine acall_below fun φ σ cargs w hr hc => ?_
  obtain ⟨u, v, rfl, hu, hv⟩ := two_args hc
  rw [vrel_str hv]
  have em : (strs.map baOf).map (fun b => b.data.toList) = strs := by
    rw [List.map_map]; conv => rhs; rw [← List.map_id strs]
    rfl
  have main : ∀ (bk o cap : Nat), bk < w.heap.size → strs.length ≤ cap → (∀ j, j < strs.length → ∃ c, w.cell? ⟨bk, o + j, none⟩ = some c ∧ VRel φ σ ((strs.map AV.str).getD j .top) c) →
      Calls Proofs.Tryz.prog 33 #[.slice (some ⟨bk, o, none⟩) strs.length cap, .string (baOf sep)] w fun e w' => (∃ c, e = .returned c ∧ VRel φ σ (.str (Lib.join strs sep)) c) ∧ RowKit.Below w.heap.size w w' := by
    intro bk o cap hbk hcap hcells
    have := Proofs.Tryz.strings_Join bk o cap (strs.map baOf) (baOf sep) w (fun j x hj => ?_) hbk (by simpa using hn) (by simpa using hcap) (by rw [em]; exact hlen)
    · rw [em, List.length_map] at this
      refine this.mono ?_
      rintro e w' ⟨rfl, hb⟩
      exact ⟨⟨_, rfl, .str _ _ rfl⟩, hb⟩
    · rw [List.getElem?_map] at hj
      cases hs : strs[j]? with
      | none => rw [hs] at hj; simp at hj
      | some l =>
        rw [hs] at hj; simp only [Option.map_some] at hj; injection hj with hj; subst hj
        obtain ⟨c, h1, h2⟩ := hcells j (List.getElem?_eq_some_iff.1 hs).1
        rw [List.getD_eq_getElem?_getD, List.getElem?_map, hs] at h2
        rw [h1, vrel_str h2]
  unfold srcOf at hx
  split at hx
  · injection hx with hx; injection hx with h1 h2
    have : strs = [] := by simpa using h2.symm
    subst this
    cases hu
    refine (Proofs.Tryz.strings_Join_none none 0 (baOf sep) w).mono ?_
    rintro e w' ⟨rfl, rfl⟩
    exact ⟨⟨_, rfl, .str _ _ rfl⟩, .refl _ _⟩
  · rename_i id off m sz'
    split at hx
    · rename_i e; subst e
      split at hx
      · rename_i cs hg
        split at hx
        · rename_i hle
          injection hx with hx; injection hx with h1 h2
          cases hu with
          | sl _ _ _ _ cap L hp hn hc =>
            obtain ⟨arr, t', fr, g1, g2, g3, g4, g5, g6⟩ := blk_cells hr hg hp
            have hml : m = strs.length := by
              have := congrArg List.length h2
              simp at this; omega
            subst hml
            refine main L.b (L.o + off) cap (hr.bnd _ _ hp) hn fun j hj => ⟨arr.getD (L.o + off + j) undef, ?_, ?_⟩
            · have := cell_of_blk (o := L.o + off + j) g1
              unfold at_ at this
              rw [this, getD_some (by omega)]
            · have := g5 (off + j) (by omega)
              rw [← h2, getD_take_drop, if_pos (by omega), Nat.add_assoc]; exact this
        · cases hx
      · cases hx
    · cases hx
  · rename_i sz' xs
    split at hx
    · rename_i e; subst e
      injection hx with hx; injection hx with h1 h2
      cases hu with
      | list _ _ b o m cap f hsz hxl hn h r =>
        have hfl : (flat xs).length = xs.length * 1 := flat_len hsz
        have hml : m = strs.length := by
          have := congrArg List.length h2
          rw [List.length_map] at this; omega
        subst hml
        have hbk : ∀ j, j < strs.length → σ b (o + j) = some (f j) := fun j hj => h j (by omega)
        by_cases h0 : strs.length = 0
        · have : strs = [] := List.length_eq_zero_iff.1 h0
          subst this
          refine (Proofs.Tryz.strings_Join_none _ cap (baOf sep) w).mono ?_
          rintro e w' ⟨rfl, rfl⟩
          exact ⟨⟨_, rfl, .str _ _ rfl⟩, .refl _ _⟩
        · refine main b o cap (World.block_lt_of_cell? w _ (hr.sig _ _ _ (hbk 0 (by omega)))) hn fun j hj => ⟨f j, ?_, ?_⟩
          · exact hr.sig _ _ _ (hbk j hj)
          · have := r j
            rw [h2] at this; exact this
      | elist _ a =>
        have : strs = [] := by simpa [flat] using h2.symm
        subst this
        refine (Proofs.Tryz.strings_Join_none _ _ (baOf sep) w).mono ?_
        rintro e w' ⟨rfl, rfl⟩
        exact ⟨⟨_, rfl, .str _ _ rfl⟩, .refl _ _⟩
    · cases hx
  · cases hx
def unstr : List AV → Option (List (List UInt8))
  | [] => some []
  | .str s :: l => match unstr l with
    | some r => some (s :: r)
    | none => none
  | _ => none
theorem unstr_eq : ∀ {l : List AV} {r : List (List UInt8)}, unstr l = some r → l = r.map .str
  | [], r, h => by injection h with h; subst h; rfl
  | v :: l, r, h => by
    cases v <;> simp only [unstr] at h <;> try cases h
    split at h
    · rename_i q hq; injection h with h; subst h; rw [unstr_eq hq]; rfl
    · cases h
def ansJoin : List AV → Heap → Option AV
  | [x, .str sep], H => match srcOf 1 H x with
    | some (_, ys) => match unstr ys with
      | some strs => if strs.length ≤ 1000 ∧ (Lib.join strs sep).length ≤ 1000 then some (.str (Lib.join strs sep)) else none
      | none => none
    | none => none
  | _, _ => none
theorem join_ok (args : List AV) (H : Heap) (v : AV) (h : ansJoin args H = some v) : ACall Proofs.Tryz.prog 33 args H (fun r H' => r = .ret v ∧ H' = H) := by
  unfold ansJoin at h
  split at h
  · rename_i x sep
    split at h
    · rename_i n ys hs
      split at h
      · rename_i strs hu
        split at h
        · rename_i hc
          injection h with h; subst h
          rw [unstr_eq hu] at hs
          exact join_call hs (by omega) (by omega)
        · cases h
      · cases h
    · cases h
  · cases h
theorem body33 : hasBody Proofs.Tryz.prog 33 = true := by unfold hasBody; rw [Go.Proofs.Tryz.func33]; rfl
end Go.Ab
