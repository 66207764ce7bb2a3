/- Part 46 of the proof. -/
import Derived.Test.YteaellpidegbiaaGreatDoorRows
import Derived.Test.YteaellpidegbiaaGreatDoorA37
import Derived.Test.YteaellpidegbiaaGreatDoorA39
import Derived.Test.YteaellpidegbiaaGreatDoorA45
set_option linter.unusedVariables false
set_option linter.unusedSimpArgs false
namespace Go.Ab
open Go Go.ChangeShapes
open Go.Proofs.YteaellpidegbiaaGreatDoor.Rows (uptoBulk uptoBulkAll)
set_option maxRecDepth 100000
def sumG {α : Type} (g : α → Nat) : List α → Nat
  | [] => 0
  | x :: xs => g x + sumG g xs
theorem sumG_mem {α : Type} {g : α → Nat} {l : List α} {x : α} (h : x ∈ l) : g x ≤ sumG g l := by
  induction l with
  | nil => cases h
  | cons y ys ih =>
    simp only [sumG]
    rcases List.mem_cons.1 h with rfl | h
    · omega
    · have := ih h; omega
theorem length_sumG {α : Type} {g : α → Nat} (hg : ∀ x, 1 ≤ g x) : ∀ l : List α, l.length ≤ sumG g l
  | [] => Nat.le_refl _
  | x :: xs => by have := length_sumG hg xs; have := hg x; simp only [sumG, List.length_cons]; omega
section
variable {H : Type} {enc' : TypeId × Value → H} {w : World} {base : Nat} {spare : Nat → Bool} {held : Bool}
theorem sumG_le {α : Type} {g : α → Nat} : ∀ (l : List α) (ds : List (DataW H)), l.length = ds.length → (∀ (i : Nat) (a : α), l[i]? = some a → ∃ d, ds[i]? = some d ∧ g a ≤ uptoBulk d) → sumG g l ≤ uptoBulkAll ds
  | [], [], _, _ => by simp [sumG]
  | [], _ :: _, h, _ => by simp at h
  | _ :: _, [], h, _ => by simp at h
  | x :: xs, d :: ds, h, hp => by
    obtain ⟨d', h1, h2⟩ := hp 0 x rfl
    simp at h1; subst h1
    have := sumG_le xs ds (by simpa using h) fun i a ha => by simpa using hp (i + 1) a (by simpa using ha)
    simp only [sumG, uptoBulkAll]; omega
theorem bulk_elems {x : DataW H} (h : x = .nil ∨ ∃ sp, x = .slice (elemsOf x) sp) : uptoBulkAll (elemsOf x) + 1 ≤ uptoBulk x := by
  rcases h with h | ⟨sp, h⟩
  · rw [h]; simp [elemsOf, uptoBulk, uptoBulkAll]
  · generalize elemsOf x = es at *
    subst h
    simp only [uptoBulk]; omega
theorem cells9 : PP.cellsOf 9 = 1 := by kernel_rfl
theorem cells36 : PP.cellsOf 36 = 1 := by kernel_rfl
theorem cells59 : PP.cellsOf 59 = 1 := by kernel_rfl
theorem cells61 : PP.cellsOf 61 = 3 := by kernel_rfl
theorem cells63 : PP.cellsOf 63 = 6 := by kernel_rfl
theorem cells57 : PP.cellsOf 57 = 2 := by kernel_rfl
theorem cells26 : PP.cellsOf 26 = 4 := by kernel_rfl
theorem cells23 : PP.cellsOf 23 = 1 := by kernel_rfl
theorem cells24 : PP.cellsOf 24 = 1 := by kernel_rfl
theorem cells3 : PP.cellsOf 3 = 1 := by kernel_rfl
theorem cells4 : PP.cellsOf 4 = 1 := by kernel_rfl
def wdB (w : List Bt) : Nat := sumG (fun s => s.length + 1) w
theorem wdB_tot : ∀ w : List Bt, wdB w = w.length + tot w
  | [] => rfl
  | s :: w => by
    have := wdB_tot w
    unfold wdB at *
    simp only [sumG, this, tot, List.length_cons]; omega
theorem open_word (hsp : ∀ b, spare b = true) {fuel : Nat} {cs : List Value} {x : DataW H × List MemPlace} (h : DataW.trod enc' PP w base spare held fuel 36 cs = some x) :
    ∃ u : Wd, RelC w [encW u] cs ∧ wdB u.l + 1 ≤ uptoBulk x.1 := by
  obtain ⟨nl, l, h1, h2, h3, h4⟩ := open_list (f := AV.str) (R := fun s d => d = .lit (.string s)) Go.Proofs.Tryz.underlying36 cells9 (by omega) (fun _ => rfl) hsp h
    fun n cs' y _ hy => by
      obtain ⟨s, a, b⟩ := open_strR Go.Proofs.Tryz.underlying9 hy
      exact ⟨s, a, b⟩
  refine ⟨⟨nl, l⟩, ?_, ?_⟩
  · have e : encW ⟨nl, l⟩ = if nl && (List.map AV.str l).isEmpty then AV.nilslice else .list 1 (l.map .str) := by unfold encW; simp
    rw [show encW ⟨nl, l⟩ = if nl && l.isEmpty then AV.nilslice else .list 1 (l.map .str) from rfl]
    exact h1
  · have hs : wdB l ≤ _ := sumG_le (g := fun s : Bt => s.length + 1) l _ h2 fun i a ha => by
      obtain ⟨d, g1, rfl⟩ := h4 i a ha
      exact ⟨_, g1, by simp [uptoBulk]⟩
    have := bulk_elems h3
    show wdB l + 1 ≤ _
    omega
theorem enc_len (e : Ex) : (enc e).cells.length = 3 := by obtain ⟨a, b, c, d⟩ := e; rw [enc_mk]; rfl
theorem ws_sum : ∀ l : List Ex, ws l = sumG Ex.w l
  | [] => rfl
  | x :: xs => by simp only [ws, sumG, ws_sum xs]
theorem open_ex (hsp : ∀ b, spare b = true) : ∀ (fuel : Nat) {cs : List Value} {x : DataW H × List MemPlace}, DataW.trod enc' PP w base spare held fuel 61 cs = some x →
    ∃ e : Ex, RelC w (enc e).cells cs ∧ e.w ≤ uptoBulk x.1 := by
  intro fuel
  induction fuel using Nat.strongRecOn with
  | ind fuel ih =>
    intro cs x h
    obtain ⟨xs, n, rfl, rfl, hl, hlen, hf⟩ := DataW.trod_struct Go.Proofs.Tryz.underlying61 h
    rw [cells61] at hl
    match xs, hlen, cs, hl with
    | [y0, y1, y2], _, [c0, c1, c2], _ =>
      have g0 : DataW.trod enc' PP w base spare held n 3 (([c0, c1, c2].drop 0).take (PP.cellsOf 3)) = some y0 := hf 0 _ rfl
      rw [cells3] at g0
      have g1 : DataW.trod enc' PP w base spare held n 9 (([c0, c1, c2].drop 1).take (PP.cellsOf 9)) = some y1 := hf 1 _ rfl
      rw [cells9] at g1
      have g2 : DataW.trod enc' PP w base spare held n 59 (([c0, c1, c2].drop 2).take (PP.cellsOf 59)) = some y2 := hf 2 _ rfl
      rw [cells59] at g2
      have g0 : DataW.trod enc' PP w base spare held n 3 [c0] = some y0 := g0
      have g1 : DataW.trod enc' PP w base spare held n 9 [c1] = some y1 := g1
      have g2 : DataW.trod enc' PP w base spare held n 59 [c2] = some y2 := g2
      obtain ⟨op, r0, b0⟩ := open_intR Go.Proofs.Tryz.underlying3 g0
      obtain ⟨s, r1, b1⟩ := open_strR Go.Proofs.Tryz.underlying9 g1
      obtain ⟨nl, l, r2, h2, h3, h4⟩ := open_list (f := enc) (R := fun e d => e.w ≤ uptoBulk d) Go.Proofs.Tryz.underlying59 cells61 (by omega) enc_len hsp g2
        fun m cs' y hm hy => ih m (by omega) hy
      refine ⟨.mk op s nl l, ?_, ?_⟩
      · rw [enc_mk]
        exact (r0.append r1).append r2
      · have h5 := sumG_le (g := Ex.w) l _ h2 h4
        have h6 := bulk_elems h3
        simp only [Ex.w, ws_sum]
        simp only [List.map_cons, List.map_nil, uptoBulk, uptoBulkAll, b0, b1]
        omega
theorem encPl_cells (p : Pl) : (encPl p).cells = (enc p.1).cells ++ (enc p.2).cells := by
  obtain ⟨⟨a, b, c, d⟩, ⟨a', b', c', d'⟩⟩ := p
  simp only [enc_mk]; rfl
def plB (p : Pl) : Nat := p.1.w + p.2.w + 1
def prB (p : Pr) : Nat := wdB p.a.l + wdB p.b.l + 1
theorem open_place (hsp : ∀ b, spare b = true) {fuel : Nat} {cs : List Value} {x : DataW H × List MemPlace} (h : DataW.trod enc' PP w base spare held fuel 63 cs = some x) :
    ∃ p : Pl, RelC w (encPl p).cells cs ∧ plB p ≤ uptoBulk x.1 := by
  obtain ⟨xs, n, rfl, rfl, hl, hlen, hf⟩ := DataW.trod_struct Go.Proofs.Tryz.underlying63 h
  rw [cells63] at hl
  match xs, hlen, cs, hl with
  | [y0, y1], _, [c0, c1, c2, c3, c4, c5], _ =>
    have g0 : DataW.trod enc' PP w base spare held n 61 (([c0, c1, c2, c3, c4, c5].drop 0).take (PP.cellsOf 61)) = some y0 := hf 0 _ rfl
    rw [cells61] at g0
    have g1 : DataW.trod enc' PP w base spare held n 61 (([c0, c1, c2, c3, c4, c5].drop 3).take (PP.cellsOf 61)) = some y1 := hf 1 _ rfl
    rw [cells61] at g1
    have g0 : DataW.trod enc' PP w base spare held n 61 [c0, c1, c2] = some y0 := g0
    have g1 : DataW.trod enc' PP w base spare held n 61 [c3, c4, c5] = some y1 := g1
    obtain ⟨a, r0, b0⟩ := open_ex hsp _ g0
    obtain ⟨b, r1, b1⟩ := open_ex hsp _ g1
    refine ⟨(a, b), ?_, ?_⟩
    · rw [encPl_cells]; exact r0.append r1
    · simp only [List.map_cons, List.map_nil, uptoBulk, uptoBulkAll, plB]; omega
theorem open_pair (hsp : ∀ b, spare b = true) {fuel : Nat} {cs : List Value} {x : DataW H × List MemPlace} (h : DataW.trod enc' PP w base spare held fuel 57 cs = some x) :
    ∃ p : Pr, RelC w (encP p).cells cs ∧ prB p ≤ uptoBulk x.1 := by
  obtain ⟨xs, n, rfl, rfl, hl, hlen, hf⟩ := DataW.trod_struct Go.Proofs.Tryz.underlying57 h
  rw [cells57] at hl
  match xs, hlen, cs, hl with
  | [y0, y1], _, [c0, c1], _ =>
    have g0 : DataW.trod enc' PP w base spare held n 36 (([c0, c1].drop 0).take (PP.cellsOf 36)) = some y0 := hf 0 _ rfl
    rw [cells36] at g0
    have g1 : DataW.trod enc' PP w base spare held n 36 (([c0, c1].drop 1).take (PP.cellsOf 36)) = some y1 := hf 1 _ rfl
    rw [cells36] at g1
    have g0 : DataW.trod enc' PP w base spare held n 36 [c0] = some y0 := g0
    have g1 : DataW.trod enc' PP w base spare held n 36 [c1] = some y1 := g1
    obtain ⟨a, r0, b0⟩ := open_word hsp g0
    obtain ⟨b, r1, b1⟩ := open_word hsp g1
    refine ⟨⟨a, b⟩, ?_, ?_⟩
    · exact r0.append r1
    · simp only [List.map_cons, List.map_nil, uptoBulk, uptoBulkAll, prB]; omega
def ruB (r : Ru) : Nat := sumG prB r.pairs + sumG plB r.places
theorem open_rule (hsp : ∀ b, spare b = true) {fuel : Nat} {cs : List Value} {x : DataW H × List MemPlace} (h : DataW.trod enc' PP w base spare held fuel 26 cs = some x) :
    ∃ r : Ru, RelC w (encR r).cells cs ∧ ruB r ≤ uptoBulk x.1 := by
  obtain ⟨xs, n, rfl, rfl, hl, hlen, hf⟩ := DataW.trod_struct Go.Proofs.Tryz.underlying26 h
  rw [cells26] at hl
  match xs, hlen, cs, hl with
  | [y0, y1, y2, y3], _, [c0, c1, c2, c3], _ =>
    have g0 : DataW.trod enc' PP w base spare held n 3 (([c0, c1, c2, c3].drop 0).take (PP.cellsOf 3)) = some y0 := hf 0 _ rfl
    rw [cells3] at g0
    have g1 : DataW.trod enc' PP w base spare held n 23 (([c0, c1, c2, c3].drop 1).take (PP.cellsOf 23)) = some y1 := hf 1 _ rfl
    rw [cells23] at g1
    have g2 : DataW.trod enc' PP w base spare held n 24 (([c0, c1, c2, c3].drop 2).take (PP.cellsOf 24)) = some y2 := hf 2 _ rfl
    rw [cells24] at g2
    have g3 : DataW.trod enc' PP w base spare held n 4 (([c0, c1, c2, c3].drop 3).take (PP.cellsOf 4)) = some y3 := hf 3 _ rfl
    rw [cells4] at g3
    have g0 : DataW.trod enc' PP w base spare held n 3 [c0] = some y0 := g0
    have g1 : DataW.trod enc' PP w base spare held n 23 [c1] = some y1 := g1
    have g2 : DataW.trod enc' PP w base spare held n 24 [c2] = some y2 := g2
    have g3 : DataW.trod enc' PP w base spare held n 4 [c3] = some y3 := g3
    obtain ⟨kind, r0, b0⟩ := open_intR Go.Proofs.Tryz.underlying3 g0
    obtain ⟨below, r3, b3⟩ := open_boolR Go.Proofs.Tryz.underlying4 g3
    obtain ⟨pn, ps, r1, p2, p3, p4⟩ := open_list (f := encP) (R := fun e d => prB e ≤ uptoBulk d) Go.Proofs.Tryz.underlying23 cells57 (by omega) (fun _ => rfl) hsp g1
      fun m cs' y hm hy => open_pair hsp hy
    obtain ⟨ln, ls, r2, l2, l3, l4⟩ := open_list (f := encPl) (R := fun e d => plB e ≤ uptoBulk d) Go.Proofs.Tryz.underlying24 cells63 (by omega) (fun p => by rw [encPl_cells, List.length_append, enc_len, enc_len]) hsp g2
      fun m cs' y hm hy => open_place hsp hy
    refine ⟨⟨kind, pn, ps, ln, ls, below⟩, ?_, ?_⟩
    · exact ((r0.append r1).append r2).append r3
    · have h5 := sumG_le (g := prB) ps _ p2 p4
      have h6 := bulk_elems p3
      have h7 := sumG_le (g := plB) ls _ l2 l4
      have h8 := bulk_elems l3
      simp only [List.map_cons, List.map_nil, uptoBulk, uptoBulkAll, ruB]
      omega
end
theorem okW_of {w : List Bt} {n : Nat} (h : wdB w ≤ n) (hn : n ≤ 1000000000000) : okW w ∧ okT w ∧ w.length ≤ n := by
  have h1 := wdB_tot w
  refine ⟨⟨by omega, fun s hs => ?_⟩, by unfold okT; omega, by omega⟩
  have h2 : s.length + 1 ≤ wdB w := sumG_mem (g := fun s : Bt => s.length + 1) hs
  show s.length ≤ 1000000000000
  omega
mutual
theorem symsE_le : ∀ e : Ex, (symsE e).length ≤ e.w
  | .mk op s nl l => by
    have := symsL_w l
    simp only [symsE, Ex.w, List.length_append]
    split <;> simp <;> omega
theorem symsL_w : ∀ l : List Ex, (symsL l).length ≤ ws l
  | [] => Nat.le_refl _
  | x :: xs => by
    have := symsE_le x
    have := symsL_w xs
    simp only [symsL, ws, List.length_append]; omega
end
theorem addAll_le : ∀ (l ks : List (List UInt8)), (addAll ks l).length ≤ ks.length + l.length
  | [], ks => by simp [addAll]
  | s :: l, ks => by
    show (addAll (addK ks s) l).length ≤ _
    have := addAll_le l (addK ks s)
    have h2 : (addK ks s).length ≤ ks.length + 1 := by unfold addK; split <;> simp
    simp only [List.length_cons]; omega
structure SmallR (r : Ru) : Prop where
  ok : okR r
  ok2 : okR2 r
  okt : ∀ p ∈ r.pairs, okT p.a.l ∧ okT p.b.l
  occ : (occR r).length ≤ 1048576
theorem small_rule {r : Ru} (h : ruB r ≤ 1048576) : SmallR r := by
  unfold ruB at h
  have hp : ∀ p ∈ r.pairs, wdB p.a.l + wdB p.b.l + 1 ≤ 1048576 := fun p hp => by have := sumG_mem (g := prB) hp; unfold prB at this; unfold prB at h; omega
  have hl : ∀ p ∈ r.places, p.1.w + p.2.w + 1 ≤ 1048576 := fun p hp => by have := sumG_mem (g := plB) hp; unfold plB at this; unfold plB at h; omega
  have l1 := length_sumG (g := prB) (fun x => by unfold prB; omega) r.pairs
  have l2 := length_sumG (g := plB) (fun x => by unfold plB; omega) r.places
  have ok : okR r := ⟨by omega, by omega, fun p h1 => ⟨(okW_of (w := p.a.l) (n := 1048576) (by have := hp p h1; omega) (by omega)).1, (okW_of (w := p.b.l) (n := 1048576) (by have := hp p h1; omega) (by omega)).1⟩,
    fun p h1 => ⟨by have := hl p h1; unfold okE; omega, by have := hl p h1; unfold okE; omega⟩⟩
  refine ⟨ok, ⟨ok, fun p h1 => ?_⟩, fun p h1 => ⟨(okW_of (w := p.a.l) (n := 1048576) (by have := hp p h1; omega) (by omega)).2.1, (okW_of (w := p.b.l) (n := 1048576) (by have := hp p h1; omega) (by omega)).2.1⟩, ?_⟩
  · have a := wdB_tot p.a.l
    have b := wdB_tot p.b.l
    have := hp p h1
    omega
  · have f1 : ∀ l : List Pr, (occP l).length ≤ sumG prB l := by
      intro l
      induction l with
      | nil => simp [occP]
      | cons x xs ih =>
        have a := wdB_tot x.a.l
        have b := wdB_tot x.b.l
        unfold occP at *
        simp only [List.flatMap_cons, List.length_append, sumG, prB] at *; omega
    have f2 : ∀ l : List Pl, (occL l).length ≤ sumG plB l := by
      intro l
      induction l with
      | nil => simp [occL]
      | cons x xs ih =>
        have a := symsE_le x.1
        have b := symsE_le x.2
        unfold occL at *
        simp only [List.flatMap_cons, List.length_append, sumG, plB] at *; omega
    have := f1 r.pairs
    have := f2 r.places
    unfold occR
    rw [List.length_append]; omega
end Go.Ab
