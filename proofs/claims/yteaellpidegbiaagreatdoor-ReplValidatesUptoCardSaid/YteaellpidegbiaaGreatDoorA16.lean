/- Part 16 of the proof. -/
import Derived.Test.YteaellpidegbiaaGreatDoorA15
set_option linter.unusedVariables false
set_option linter.unusedSimpArgs false
namespace Go.Ab
variable {P : Program} {φ φ' : Phi} {σ σ' : Sig} {H H' K : Heap} {w w' : World}
mutual
def mapV (κ : Nat → Nat) : AV → AV
  | .ptr id off => .ptr (κ id) off
  | .sl id off n sz => .sl (κ id) off n sz
  | .map id => .map (κ id)
  | .cptr cs => .cptr (mapVs κ cs)
  | .list sz xs => .list sz (mapVs κ xs)
  | .clo fn a b => .clo fn (mapVs κ a) (mapVs κ b)
  | .iface t v => .iface t (mapV κ v)
  | .agg cs => .agg (mapVs κ cs)
  | .tuple cs => .tuple (mapVs κ cs)
  | .top => .top
  | .bool b => .bool b
  | .int k n => .int k n
  | .str s => .str s
  | .nilptr => .nilptr
  | .glob g => .glob g
  | .nilslice => .nilslice
  | .nilmap => .nilmap
  | .nilfunc => .nilfunc
  | .niliface => .niliface
def mapVs (κ : Nat → Nat) : List AV → List AV
  | [] => []
  | v :: vs => mapV κ v :: mapVs κ vs
end
theorem mapVs_map (κ : Nat → Nat) : ∀ l, mapVs κ l = l.map (mapV κ)
  | [] => by simp [mapVs]
  | v :: vs => by simp [mapVs, mapVs_map κ vs]
theorem mapV_top (κ : Nat → Nat) : mapV κ .top = .top := by simp [mapV]
theorem mapVs_get (κ : Nat → Nat) (l : List AV) (i : Nat) : (mapVs κ l).getD i .top = mapV κ (l.getD i .top) := by
  rw [mapVs_map, List.getD_eq_getElem?_getD, List.getD_eq_getElem?_getD, List.getElem?_map]
  cases l[i]? with
  | none => simp [mapV_top]
  | some v => simp
theorem mapVs_length (κ : Nat → Nat) (l : List AV) : (mapVs κ l).length = l.length := by simp [mapVs_map]
theorem cells_map (κ : Nat → Nat) (v : AV) : (mapV κ v).cells = mapVs κ v.cells := by
  cases v <;> simp [mapV, AV.cells, mapVs]
theorem flat_map (κ : Nat → Nat) : ∀ l : List AV, flat (mapVs κ l) = mapVs κ (flat l)
  | [] => by simp [mapVs, flat]
  | v :: vs => by
    have ih := flat_map κ vs
    simp only [flat, mapVs_map, List.flatMap_cons, List.map_cons, List.map_append] at ih ⊢
    rw [ih, cells_map, mapVs_map]
theorem vrel_map {κ : Nat → Nat} {x : AV} {c : Value} (h : VRel φ' σ' x c) : ∀ v, mapV κ v = x → VRel (fun i => φ' (κ i)) σ' v c := by
  induction h with
  | top v => intro u hu; cases u <;> simp [mapV] at hu; exact .top _
  | bool b => intro u hu; cases u <;> simp [mapV] at hu; subst hu; exact .bool _
  | int k n => intro u hu; cases u <;> simp [mapV] at hu; obtain ⟨rfl, rfl⟩ := hu; exact .int _ _
  | str l s h => intro u hu; cases u <;> simp [mapV] at hu; subst hu; exact .str _ _ h
  | nilptr => intro u hu; cases u <;> simp [mapV] at hu; exact .nilptr
  | ptr id off L h => intro u hu; cases u <;> simp [mapV] at hu; obtain ⟨rfl, rfl⟩ := hu; exact .ptr _ _ L h
  | cptr cs b o f h r ih =>
    intro u hu; cases u <;> simp [mapV] at hu
    subst hu
    exact .cptr _ b o f (fun i hi => h i (by rw [mapVs_length]; exact hi)) fun i => ih i _ (mapVs_get κ _ i).symm
  | glob g => intro u hu; cases u <;> simp [mapV] at hu; subst hu; exact .glob _
  | nilslice => intro u hu; cases u <;> simp [mapV] at hu; exact .nilslice
  | sl id off n sz cap L h hn hc => intro u hu; cases u <;> simp [mapV] at hu; obtain ⟨rfl, rfl, rfl, rfl⟩ := hu; exact .sl _ _ _ _ cap L h hn hc
  | list sz xs b o n cap f hsz hx hn h r ih =>
    intro u hu; cases u <;> simp [mapV] at hu
    obtain ⟨rfl, rfl⟩ := hu
    rename_i xs
    refine .list _ _ b o n cap f (fun x hxm => ?_) (by rw [mapVs_length] at hx; exact hx) hn (fun i hi => h i (by rw [flat_map, mapVs_length]; exact hi)) fun i => ih i _ (by rw [flat_map, mapVs_get])
    have := hsz (mapV κ x) (by rw [mapVs_map]; exact List.mem_map_of_mem hxm)
    rw [cells_map, mapVs_length] at this; exact this
  | elist sz a =>
    intro u hu; cases u <;> simp [mapV] at hu
    obtain ⟨rfl, hu⟩ := hu
    rename_i xs
    cases xs with
    | nil => exact .elist _ a
    | cons x xs => simp [mapVs_map] at hu
  | nilmap => intro u hu; cases u <;> simp [mapV] at hu; exact .nilmap
  | map id L h => intro u hu; cases u <;> simp [mapV] at hu; subst hu; exact .map _ L h
  | nilfunc => intro u hu; cases u <;> simp [mapV] at hu; exact .nilfunc
  | clo fn fs cs fs' cs' hf hc r1 r2 ih1 ih2 =>
    intro u hu; cases u <;> simp [mapV] at hu
    obtain ⟨rfl, rfl, rfl⟩ := hu
    rw [mapVs_length] at hf hc
    exact .clo _ _ _ fs' cs' hf hc (fun i => ih1 i _ (mapVs_get κ _ i).symm) fun i => ih2 i _ (mapVs_get κ _ i).symm
  | niliface => intro u hu; cases u <;> simp [mapV] at hu; exact .niliface
  | iface t v v' r ih => intro u hu; cases u <;> simp [mapV] at hu; obtain ⟨rfl, rfl⟩ := hu; exact .iface _ _ _ (ih _ rfl)
  | agg cs cs' h r ih =>
    intro u hu; cases u <;> simp [mapV] at hu
    subst hu
    rw [mapVs_length] at h
    exact .agg _ _ h fun i => ih i _ (mapVs_get κ _ i).symm
  | tuple cs cs' h r ih =>
    intro u hu; cases u <;> simp [mapV] at hu
    subst hu
    rw [mapVs_length] at h
    exact .tuple _ _ h fun i => ih i _ (mapVs_get κ _ i).symm
def mapB (κ : Nat → Nat) : Blk → Blk
  | .dead => .dead
  | .resv => .resv
  | .cells cs => .cells (mapVs κ cs)
  | .map es clock => .map (es.map fun e => (mapV κ e.1, mapV κ e.2.1, e.2.2)) clock
  | .iter m since seen last => .iter (m.map κ) since seen last
theorem brel_map {κ : Nat → Nat} {L : Loc} {b : Blk} (h : BRel φ' σ' w' L (mapB κ b)) : BRel (fun i => φ' (κ i)) σ' w' L b := by
  cases b with
  | dead => trivial
  | resv => trivial
  | cells cs =>
    obtain ⟨arr, t, fr, h1, h2, h3, h4, h5, h6⟩ := h
    rw [mapVs_length] at h3 h5
    exact ⟨arr, t, fr, h1, h2, h3, h4, fun i hi => vrel_map (h5 i hi) _ (mapVs_get κ _ i).symm, h6⟩
  | map es clock =>
    obtain ⟨ces, h1, h2, h3⟩ := h
    simp only [List.length_map] at h2 h3
    refine ⟨ces, h1, h2, fun i hi hi' => ?_⟩
    have := h3 i hi hi'
    simp only [List.getElem_map] at this
    exact ⟨vrel_map this.1 _ rfl, vrel_map this.2.1 _ rfl, this.2.2⟩
  | iter m since seen last =>
    obtain ⟨h0, cm, h1, h2⟩ := h
    refine ⟨h0, cm, h1, ?_⟩
    rcases h2 with ⟨e1, e2⟩ | ⟨id, b, M, e1, e2, e3, e4⟩
    · cases m <;> simp at e1; exact .inl ⟨rfl, e2⟩
    · cases m <;> simp at e1; subst e1; exact .inr ⟨_, b, M, rfl, e2, e3, e4⟩
structure Ren (κ : Nat → Nat) (H H' K : Heap) : Prop where
  old : ∀ id, id < H.length → κ id = id
  len : H.length ≤ K.length
  kept : ∀ (id : Nat), H[id]? = some Blk.resv → K[id]? = some Blk.resv
  out : ∀ id, K.length ≤ id → H'.length ≤ κ id
  blk : ∀ (id : Nat) b, K[id]? = some b → b = .dead ∨ H'[κ id]? = some (mapB κ b)
  inj : ∀ i j, i < K.length → j < K.length → κ i = κ j → i = j
theorem mapB_live {κ : Nat → Nat} {b : Blk} : (mapB κ b).live = b.live := by cases b <;> rfl
theorem step_ren {κ : Nat → Nat} (hr : HRel φ σ H w) (s : Step φ σ H w φ' σ' H' w') (r : Ren κ H H' K) : Step φ σ H w (fun i => φ' (κ i)) σ' K w' := by
  have live : ∀ (id : Nat) b, K[id]? = some b → b.live = true → H'[κ id]? = some (mapB κ b) := by
    intro id b h hl
    rcases r.blk id b h with e | e
    · subst e; cases hl
    · exact e
  refine ⟨?_, s.extS, s.os, s.tape, s.output, s.size, s.frame, ?_, ?_⟩
  · intro id L h
    show φ' (κ id) = _
    rw [r.old _ (hr.dom _ _ h)]; exact s.extP _ _ h
  · rintro b ⟨id, blk, L, h1, h2, h3, h4⟩
    exact s.own b ⟨κ id, mapB κ blk, L, live _ _ h1 h2, by rw [mapB_live]; exact h2, h3, h4⟩
  · refine ⟨?_, fun id L h => s.hrel.bnd _ L h, ?_, ?_, s.hrel.sig, ?_⟩
    · intro id L h
      rcases Nat.lt_or_ge id K.length with h' | h'
      · exact h'
      · have := s.hrel.dom _ _ h
        have := r.out _ h'
        omega
    · intro id b h hl
      obtain ⟨L, h1, h2⟩ := s.hrel.blk (κ id) _ (live _ _ h hl) (by rw [mapB_live]; exact hl)
      exact ⟨L, h1, brel_map h2⟩
    · intro id id' b b' L L' h1 h2 h3 h4 h5 h6 h7
      have := s.hrel.inj (κ id) (κ id') _ _ L L' (live _ _ h1 h2) (by rw [mapB_live]; exact h2) (live _ _ h3 h4) (by rw [mapB_live]; exact h4) h5 h6 h7
      exact r.inj _ _ (List.getElem?_eq_some_iff.1 h1).1 (List.getElem?_eq_some_iff.1 h3).1 this
    · intro id h
      rcases r.blk id _ h with e | e
      · cases e
      · exact s.hrel.resv _ e
def mapR (κ : Nat → Nat) : ARes → ARes
  | .ret v => .ret (mapV κ v)
  | .panic v => .panic (mapV κ v)
theorem ACall.ren {f : FuncId} {args : List AV} {r : ARes} (h : ACall P f args H (fun r' H' => ∃ κ, Ren κ H H' K ∧ r' = mapR κ r)) :
    ACall P f args H (fun r' H' => r' = r ∧ H' = K) := by
  intro φ σ cargs w hr hc
  refine (h φ σ cargs w hr hc).mono ?_
  rintro e w' ⟨φ', σ', r', H', s, kp, rr, κ, rn, rfl⟩
  refine ⟨fun i => φ' (κ i), σ', r, K, step_ren hr s rn, ⟨rn.len, rn.kept⟩, ?_, rfl, rfl⟩
  cases r with
  | ret v => obtain ⟨c, rfl, hv⟩ := rr; exact ⟨c, rfl, vrel_map hv _ rfl⟩
  | panic v => obtain ⟨c, rfl, hv⟩ := rr; exact ⟨c, rfl, vrel_map hv _ rfl⟩
end Go.Ab
