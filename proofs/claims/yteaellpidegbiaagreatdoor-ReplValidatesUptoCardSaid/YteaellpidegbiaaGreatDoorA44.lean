/- Part 44 of the proof. -/
import Derived.WalkKit
import Derived.BigCall
import Derived.Handy
import Derived.Test.YteaellpidegbiaaGreatDoorA31
import Derived.Test.YteaellpidegbiaaGreatDoorA33
import Derived.Test.YteaellpidegbiaaGreatDoorA39
import Derived.Test.YteaellpidegbiaaGreatDoorA41
import Derived.Test.YteaellpidegbiaaGreatDoorA42
import Derived.Test.YteaellpidegbiaaGreatDoorA43
set_option linter.unusedVariables false
set_option linter.unusedSimpArgs false
namespace Go.Ab
open Go Go.RowKit
open Go.Proofs
theorem getD_el {α : Type} {l : List α} {j : Nat} {d : α} (h : j < l.length) : l.getD j d = l[j] := by
  rw [List.getD_eq_getElem?_getD, List.getElem?_eq_getElem h]; rfl
def lstr (l : List ByteArray) : List Bt := l.map fun b => b.data.toList
theorem lstr_get {l : List ByteArray} {k : Nat} (h : k < l.length) : (lstr l)[k]? = some (l[k].data.toList) := by
  unfold lstr; rw [List.getElem?_map, List.getElem?_eq_getElem h]; rfl
theorem lstr_take (l : List ByteArray) (k : Nat) : (lstr l).take k = lstr (l.take k) := by unfold lstr; rw [List.map_take]
def tx30 (t : Bt) : Bt × Int := if decide ((t.length : Int) > 400) then ([], 3) else (t, 0)
set_option maxHeartbeats 2000000 in
set_option maxRecDepth 1000000 in
theorem walk30 (bk o cap : Nat) (strs : List ByteArray) (w : World) (hb : bk < w.heap.size)
    (hc : ∀ j, j < strs.length → w.cell? ⟨bk, o + j, none⟩ = some (.string (strs.getD j ⟨#[]⟩)))
    (hn : strs.length ≤ 1000) (hs : ∀ j, j < strs.length → (strs.getD j ⟨#[]⟩).size ≤ 1000) (st : ByteArray) (q : Int) (hq : Hide (st = baOf (tx30 (wtext (lstr strs))).1 ∧ q = (tx30 (wtext (lstr strs))).2)) (hl : Hide (∀ k, (wtext ((lstr strs).take k)).length ≤ 1000000))
    (h38 : Calls Tryz.prog 38 #[.slice (some ⟨bk, o, none⟩) strs.length cap] w fun e w' => e = .returned (.int .i64 0) ∧ Below w.heap.size w w') :
    Calls Tryz.prog 30 #[.slice (some ⟨bk, o, none⟩) strs.length cap] w fun e w' =>
      e = .returned (.tuple #[.string st, .int .i64 q]) ∧ Below w.heap.size w w' := by
  go_enter Tryz.func30, Tryz.ntmps30
  go_wp2_with (go_at_call 38; refine h38.mono ?_)
  rintro e W1 ⟨rfl, b1⟩
  have h0 : Lib.IsBuilder 114 5 W1.heap.size W1.heap.size [] (W1.alloc (.cells #[.pointer none, .slice none 0 0] 114)) := Lib.fresh_isBuilder 114 5 W1
  go_wp2
  go_loopw [15] (fun i wr => ∃ k : Nat, k ≤ strs.length ∧ i = .int .i64 k ∧ Lib.IsBuilder 114 5 W1.heap.size W1.heap.size (Lib.byteCells (wtext ((lstr strs).take k))) wr ∧ Below w.heap.size w wr ∧ W1.heap.size ≤ wr.heap.size)
    (fun i _ => strs.length - (RowKit.intOf i).toNat)
  case atStart => exact ⟨0, Nat.zero_le _, rfl, (by rw [List.take_zero]; exact h0), (b1.alloc b1.size _), by simp⟩
  case round =>
    obtain ⟨k, hk, rfl, hI, hbw, hsz⟩ := hrel
    have hcx : k < strs.length → wr.cell? ⟨bk, o + k, none⟩ = some (.string (strs.getD k ⟨#[]⟩)) := fun _ => (hbw.cell (by exact hb)).trans (hc k (by omega))
    have hlx := hl.h k
    go_wp2_with (first | (go_at_call 65; refine (Tryz.own_WriteString W1.heap.size W1.heap.size _ _ _ hI ?_ hsz).mono ?_) | (go_at_call 66; refine (Tryz.Builder_Len W1.heap.size W1.heap.size _ _ hI).mono ?_))
    · rw [Lib.byteCells_length]
      have hlt : k < strs.length := by assumption
      have hsk := hs k hlt
      rw [getD_el hlt] at hsk
      have hsz' := Lib.size_eq strs[k]
      omega
    · rintro e w' ⟨rfl, hI', hb'⟩
      have hlt : k < strs.length := by assumption
      have hsk := hs k hlt
      rw [getD_el hlt] at hsk
      have hsz' := Lib.size_eq strs[k]
      have hc1 : ((strs[k].size : Int) == 1) = true := by assumption
      go_wp2
      go_roundw
      case rel =>
        refine ⟨k + 1, by omega, by go_num, ?_, hbw.trans (hb'.mono b1.size), Nat.le_trans hsz hb'.size⟩
        rw [wtext_take (lstr_get hlt), Lib.byteCells_append]
        have e : wSym strs[k].data.toList = strs[k].data.toList := by
          unfold wSym
          rw [← hsz', hc1, if_pos rfl]
        rw [e]
        exact Or.inr hI'
      case measure => simp [RowKit.intOf]; omega
    · exfalso
      have hlt : k < strs.length := by assumption
      have hsk := hs k hlt
      rw [getD_el hlt] at hsk
      have hsz' := Lib.size_eq strs[k]
      omega
    · exfalso
      have hlt : k < strs.length := by assumption
      have hsk := hs k hlt
      rw [getD_el hlt] at hsk
      have hsz' := Lib.size_eq strs[k]
      omega
    · rw [Lib.byteCells_length]
      have hlt : k < strs.length := by assumption
      have hsk := hs k hlt
      rw [getD_el hlt] at hsk
      have hsz' := Lib.size_eq strs[k]
      have h60 : (⟨#[60]⟩ : ByteArray).size = 1 := rfl
      have h62 : (⟨#[62]⟩ : ByteArray).size = 1 := rfl
      rw [ByteArray.size_append, ByteArray.size_append]
      omega
    · rintro e w' ⟨rfl, hI', hb'⟩
      have hlt : k < strs.length := by assumption
      have hsk := hs k hlt
      rw [getD_el hlt] at hsk
      have hsz' := Lib.size_eq strs[k]
      have hc1 : ((strs[k].size : Int) == 1) = false := by assumption
      go_wp2
      go_roundw
      case rel =>
        refine ⟨k + 1, by omega, by go_num, ?_, hbw.trans (hb'.mono b1.size), Nat.le_trans hsz hb'.size⟩
        rw [wtext_take (lstr_get hlt), Lib.byteCells_append]
        have e : wSym strs[k].data.toList = (⟨#[60]⟩ ++ strs[k] ++ ⟨#[62]⟩ : ByteArray).data.toList := by
          unfold wSym
          rw [← hsz', hc1, if_neg (by simp)]
          simp
        rw [e]
        exact Or.inr hI'
      case measure => simp [RowKit.intOf]; omega
    · have hk2 : k = strs.length := by omega
      subst hk2
      have htk : (lstr strs).take strs.length = lstr strs := List.take_of_length_le (by simp [lstr])
      rintro e w' ⟨rfl, rfl⟩
      rw [htk] at hI hlx ⊢
      rw [Lib.byteCells_length]
      obtain ⟨hq1, hq2⟩ := hq.h
      unfold tx30 at hq1 hq2
      generalize wtext (lstr strs) = tw at *
      go_wp2_with (go_at_call 67; refine (Tryz.Builder_String_any W1.heap.size W1.heap.size _ _ hI hsz).mono ?_)
      · have hd : decide ((tw.length : Int) > 400) = true := by simpa using (by assumption : (400 : Int) < tw.length)
        rw [hd] at hq1 hq2
        go_ret2
        subst hq1 hq2
        exact ⟨rfl, hbw⟩
      · rintro e w2 ⟨rfl, hb2⟩
        go_wp2
        go_ret2
        have hd : decide ((tw.length : Int) > 400) = false := by (first | assumption | simpa using (by assumption : (tw.length : Int) ≤ 400) | simpa using (by assumption : (decide (400 < (tw.length : Int))) = false))
        rw [hd] at hq1 hq2
        subst hq1 hq2
        exact ⟨rfl, hbw.trans (hb2.mono b1.size)⟩
set_option maxHeartbeats 2000000 in
set_option maxRecDepth 1000000 in
theorem walk30_none (a : Option Addr) (cap : Nat) (w : World)
    (h38 : Calls Tryz.prog 38 #[.slice a 0 cap] w fun e w' => e = .returned (.int .i64 0) ∧ Below w.heap.size w w') :
    Calls Tryz.prog 30 #[.slice a 0 cap] w fun e w' =>
      e = .returned (.tuple #[.string ⟨#[]⟩, .int .i64 0]) ∧ Below w.heap.size w w' := by
  go_enter Tryz.func30, Tryz.ntmps30
  go_wp2_with (go_at_call 38; refine h38.mono ?_)
  rintro e W1 ⟨rfl, b1⟩
  have h0 : Lib.IsBuilder 114 5 W1.heap.size W1.heap.size (Lib.byteCells []) (W1.alloc (.cells #[.pointer none, .slice none 0 0] 114)) := Lib.fresh_isBuilder 114 5 W1
  have b2 := b1.alloc b1.size (.cells #[.pointer none, .slice none 0 0] 114)
  have hsz : W1.heap.size ≤ (W1.alloc (.cells #[.pointer none, .slice none 0 0] 114)).heap.size := by simp
  go_wp2
  refine wp_loop_rounds 1 ?_
  rw [rounds_succ]
  go_wp2_with (first | (go_at_call 66; refine (Tryz.Builder_Len W1.heap.size W1.heap.size _ _ h0).mono ?_))
  rintro e w' ⟨rfl, rfl⟩
  go_wp2_with (go_at_call 67; refine (Tryz.Builder_String_any W1.heap.size W1.heap.size _ _ h0 hsz).mono ?_)
  rintro e w2 ⟨rfl, hb2⟩
  go_wp2
  go_ret2
  exact ⟨rfl, b2.trans (hb2.mono b1.size)⟩
theorem vrel_list_inv {φ : Phi} {σ : Sig} {sz : Nat} {xs : List AV} {u : Value} (h : VRel φ σ (.list sz xs) u) (hx : xs ≠ []) :
    ∃ (b o m cap : Nat) (f : Nat → Value), u = .slice (some (at_ b o)) m cap ∧ m = xs.length ∧ (∀ i, i < (flat xs).length → σ b (o + i) = some (f i)) ∧ ∀ i, VRel φ σ ((flat xs).getD i .top) (f i) := by
  cases h with
  | list _ _ b o n cap f hsz hxl hn h r => exact ⟨b, o, n, cap, f, rfl, hxl.symm, h, r⟩
  | elist _ a => exact absurd rfl hx
theorem call_nil {P : Program} {f : FuncId} {args : List AV} {v : AV} {m : Nat} {H : Heap} (ha : args.all (plainV m) = true) (h : ACall P f args [] (Just [] v))
    {φ : Phi} {σ : Sig} {cargs : Array Value} {w : World} (hr : HRel φ σ H w) (hc : CRel φ σ args cargs) :
    Calls P f cargs w fun e w' => (∃ φ' σ' c, e = .returned c ∧ VRel φ' σ' v c) ∧ Below w.heap.size w w' := by
  have hc' : CRel (below 0 φ) σ args cargs := by
    refine ⟨hc.1, fun i => ?_⟩
    have := hc.2 i
    rcases Nat.lt_or_ge i args.length with h | h
    · rw [List.getD_eq_getElem?_getD, List.getElem?_eq_getElem h] at this ⊢
      exact plainV_rel (List.all_eq_true.1 ha _ (List.getElem_mem h)) this
    · rw [List.getD_eq_getElem?_getD, List.getElem?_eq_none h]; exact .top _
  refine (h (below 0 φ) σ cargs w (hrel_nil hr) hc').mono ?_
  rintro e w' ⟨φ', σ', r, H', s, kp, rr, rfl, rfl⟩
  obtain ⟨c, rfl, hvc⟩ := rr
  refine ⟨⟨φ', σ', c, rfl, hvc⟩, s.os, s.tape, s.output, s.size, fun k hk => s.frame k hk ?_⟩
  rintro ⟨id, blk, L, h1, _⟩
  simp at h1
theorem sl_inv {sz : Nat} {v : AV} {xs : List AV} (h : Sl sz v xs) : (v = .nilslice ∧ xs = []) ∨ v = .list sz xs := by
  cases h with
  | nil => exact .inl ⟨rfl, rfl⟩
  | list => exact .inr rfl
theorem the_arg {φ : Phi} {σ : Sig} {a : AV} {cargs : Array Value} (h : CRel φ σ [a] cargs) : ∃ x, cargs = #[x] ∧ VRel φ σ a x := by
  obtain ⟨hl, hr⟩ := h
  obtain ⟨l⟩ := cargs
  match l, hl with
  | [x], _ => exact ⟨x, rfl, hr 0⟩
theorem plain_strs (l : List Bt) : plainV 2 (.list 1 (l.map .str)) = true := by
  simp [plainV]
theorem c30 {v : AV} {w : List Bt} (hv : Sl 1 v (w.map .str)) (h0 : vword w = 0) (H : Heap) : ACall PP 30 [v] H (Just H (.tuple [.str (tx30 (wtext w)).1, .int .i64 (tx30 (wtext w)).2])) := by
  obtain ⟨hn, hs, hl⟩ := vword_le h0
  have hok : okW w := ⟨by omega, fun s hs' => by have := hs s hs'; unfold okS; omega⟩
  have k38 := c38 hv hok []
  rw [h0] at k38
  refine acall_below fun φ σ cargs W hr hc => ?_
  have hpl : [v].all (plainV 2) = true := by
    rcases sl_inv hv with ⟨rfl, _⟩ | rfl
    · rfl
    · simpa using plain_strs w
  have h38 := call_nil hpl k38 hr hc
  have h38 : Calls Tryz.prog 38 cargs W fun e w' => e = .returned (.int .i64 0) ∧ Below W.heap.size W w' := by
    refine h38.mono ?_
    rintro e w' ⟨⟨φ', σ', c, rfl, hc'⟩, hb⟩
    cases hc'
    exact ⟨rfl, hb⟩
  obtain ⟨u, rfl, hu⟩ := the_arg hc
  have fin : ∀ (t : Bt) (st : ByteArray) (q : Int), st = baOf t → VRel φ σ (.tuple [.str t, .int .i64 q]) (.tuple #[.string st, .int .i64 q]) := by
    rintro t st q rfl
    refine .tuple _ _ rfl fun i => ?_
    match i with
    | 0 => exact .str _ _ rfl
    | 1 => exact .int _ _
    | i + 2 => exact .top _
  have empty : w = [] → ∀ a cap, u = .slice a 0 cap → Calls Tryz.prog 30 #[u] W fun e w' => (∃ c, e = .returned c ∧ VRel φ σ (.tuple [.str (tx30 (wtext w)).1, .int .i64 (tx30 (wtext w)).2]) c) ∧ Below W.heap.size W w' := by
    rintro rfl a cap rfl
    refine (walk30_none a cap W h38).mono ?_
    rintro e w' ⟨rfl, hb⟩
    exact ⟨⟨_, rfl, fin [] _ 0 rfl⟩, hb⟩
  rcases sl_inv hv with ⟨rfl, hx⟩ | rfl
  · have hw : w = [] := by simpa using hx
    cases hu
    exact empty hw none 0 rfl
  · by_cases hwz : w = []
    · subst hwz
      cases hu with
      | list _ _ b o m cap f hsz hxl hnc h r => subst hxl; exact empty rfl _ _ rfl
      | elist _ a => exact empty rfl _ _ rfl
    obtain ⟨b, o, m, cap, f, rfl, hml, h, r⟩ := vrel_list_inv hu (by simpa using hwz)
    rw [List.length_map] at hml
    subst hml
    · have hfl : flat (w.map AV.str) = w.map AV.str := cells_strs w
      by_cases hz : w = []
      · subst hz; exact empty rfl _ _ rfl
      have hbk : ∀ j, j < w.length → σ b (o + j) = some (f j) := fun j hj => h j (by rw [hfl, List.length_map]; exact hj)
      have hst : ∀ j (hj : j < w.length), f j = .string (baOf w[j]) := by
        intro j hj
        have := r j
        rw [hfl, List.getD_eq_getElem?_getD, List.getElem?_map, List.getElem?_eq_getElem hj] at this
        exact vrel_str this
      have em : lstr (w.map baOf) = w := by
        unfold lstr
        rw [List.map_map]; conv => rhs; rw [← List.map_id w]
        rfl
      have hwl : (w.map baOf).length = w.length := List.length_map _
      have gd : ∀ j (hj : j < w.length), (w.map baOf).getD j ⟨#[]⟩ = baOf w[j] := by
        intro j hj
        rw [List.getD_eq_getElem?_getD, List.getElem?_map, List.getElem?_eq_getElem hj]; rfl
      have := walk30 b o cap (w.map baOf) W (World.block_lt_of_cell? W _ (hr.sig _ _ _ (hbk 0 (List.length_pos_iff.2 hz))))
        (fun j hj => by
          rw [hwl] at hj
          rw [gd j hj, ← hst j hj]; exact hr.sig _ _ _ (hbk j hj))
        (by rw [hwl]; omega)
        (fun j hj => by
          rw [hwl] at hj
          rw [gd j hj, Lib.size_eq]; exact Nat.le_trans (hs _ (List.getElem_mem hj)) (by omega))
        (baOf (tx30 (wtext w)).1) (tx30 (wtext w)).2 ⟨by rw [em]; exact ⟨rfl, rfl⟩⟩ ⟨fun k => by rw [em]; have := wtext_le w k; omega⟩ (by rw [hwl]; exact h38)
      rw [hwl] at this
      refine this.mono ?_
      rintro e w' ⟨rfl, hb⟩
      exact ⟨⟨_, rfl, fin _ _ _ rfl⟩, hb⟩
end Go.Ab
namespace Go.Ab
open Go
set_option maxRecDepth 100000
set_option maxHeartbeats 16000000
theorem plain_st (s : Bt) (e : Int) : Plain (.tuple [.str s, .int .i64 e]) := ⟨2, rfl⟩
theorem wtext_nil {w : List Bt} (h : (wtext w == []) = true) : w = [] := by
  rw [beq_iff_eq] at h
  cases w with
  | nil => rfl
  | cons s w =>
    exfalso
    simp only [wtext, List.append_eq_nil_iff] at h
    have h1 := h.1
    unfold wSym at h1
    split at h1
    · rename_i h2; subst h1; simp at h2
    · simp at h1
theorem c13 (r : Ru) (hr : okR r) (H : Heap) : ACall PP 13 [encR r] H (Just H (.tuple [.str (text1 r).1, .int .i64 (text1 r).2])) := by
  have k15 := fun H => c15 r hr H
  have k32 := fun h H => c32 r hr h H
  have hg : vrule r = 0 → Good r := good
  have hgl : vrule r = 0 → _ := good_ls
  have htm : moreE r = 0 → _ := tail_more (r := r)
  have hml := moreL_len r
  have eF : fullR r = prT r.kind r.pairs ++ tailR r := rfl
  have hpl : vrule r = 0 → (fullR r).length ≤ 2000000 := by
    intro h
    have g := good h
    have h1 := prT_le (k := r.kind) g.ps 24
    rw [List.take_of_length_le g.np] at h1
    have h2 := plT_le _ (good_ls h).1 g.nl
    rw [fullR, List.length_append]
    unfold tailR
    split
    · simp; omega
    · split
      · simp; omega
      · split
        · simp; omega
        · simp; omega
  unfold text1
  generalize vrule r = ve at *
  generalize moreE r = me at *
  generalize moreL r = ml at *
  generalize tailR r = tr at *
  generalize fullR r = fu at *
  obtain ⟨kind, pn, pairs, ln, places, below⟩ := r
  simp only at eF hg hgl
  have hsp := sl_Ps pn pairs
  have hlp : (pairs.map encP).length = pairs.length := List.length_map _
  obtain ⟨hnp, hnl, hps, hls⟩ := hr
  simp only at hnp hnl hps hls
  unfold encR at *
  refine ACall.gives (is13.c1 nonum mixed rfl ?_)
  refine walk ?_
  refine st_call rfl (k15 _) ?_
  refine walk ?_
  refine iw_cond _ rfl ?_ ?_ <;> intro h1
  · simp only [h1, if_true]
    refine walk ?_
    exact fr (hp := plain_st _ _)
  simp only [h1, Bool.false_eq_true, if_false]
  have hv0 : ve = 0 := by simpa using h1
  obtain ⟨gps, gls, gnp, gnl, gk0, gk3, gne⟩ := hg hv0
  obtain ⟨_, gpn⟩ := hgl hv0
  have hpl := hpl hv0
  have k32 := k32 hv0
  clear hg hgl
  simp only at gps gnp gk0 gk3 gne gpn
  refine walk ?_
  refine iw_loop pairs.length (fun i al H' => al = [(1, .ptr (H.length + 0) 0), (24, encPs pn pairs), (25, .int .i64 (pairs.map encP).length), (26, .int .i64 i)] ∧ Ext (H ++ [.cells [.int .i64 kind, encPs pn pairs, encLs ln places, .bool below]]) H' ∧ (pairs.take i).any brkP = false) ⟨rfl, .refl _, by simp⟩ ?_
  rintro i _ H1 hi ⟨rfl, hx, hb⟩
  have hB : H1[H.length + 0]? = some (.cells [.int .i64 kind, encPs pn pairs, encLs ln places, .bool below]) := hx.get hp_new
  refine wi_nil ?_
  refine walk ?_
  refine iw_cond _ rfl ?_ ?_ <;> intro hc
  · simp only [decide_eq_true_eq] at hc
    obtain ⟨c, hc⟩ := get_ex (l := pairs) (i := i) (by omega)
    have hu : (pairs.map encP)[i]? = some (.agg [encW c.a, encW c.b]) := getmap (f := encP) hc
    have vas := sl_W c.a
    have vbs := sl_W c.b
    have hany : (brk c.a.l || brk c.b.l) = true → pairs.any brkP = true := fun h => any_of_get (p := brkP) hc h
    rw [any_take_succ hc, hb]
    rw [show brkP c = (brk c.a.l || brk c.b.l) from rfl]
    have hfill := fill2W (a := c.a) (b := c.b)
    have hall := all_W (a := c.a) (b := c.b)
    generalize encW c.a = va at *
    generalize encW c.b = vb at *
    generalize c.a.l = wa at *
    generalize c.b.l = wb at *
    refine walk ?_
    refine st_storeW (n := 0) (ws := [va, vb]) rfl rfl rfl rfl rfl hall rfl ?_
    refine walk ?_
    refine st_slice (out := [va, vb]) hfill rfl rfl ?_
    refine walk ?_
    refine iw_loop2 (fun al H' => al = [(1, .ptr (H.length + 0) 0), (24, encPs pn pairs), (25, .int .i64 (pairs.map encP).length), (26, .int .i64 i), (34, .sl (H1.length + 1) 0 2 1), (35, .int .i64 (2 : Nat)), (36, .int .i64 (0 : Nat))] ∧ H' = H1 ++ [.cells [va, vb], .cells [va, vb]])
      (fun al H' => al = [(1, .ptr (H.length + 0) 0), (24, encPs pn pairs), (25, .int .i64 (pairs.map encP).length), (26, .int .i64 i), (34, .sl (H1.length + 1) 0 2 1), (35, .int .i64 (2 : Nat)), (36, .int .i64 (1 : Nat))] ∧ H' = H1 ++ [.cells [va, vb], .cells [va, vb]] ∧ brk wa = false)
      (fun al H' => al = [(1, .ptr (H.length + 0) 0), (24, encPs pn pairs), (25, .int .i64 (pairs.map encP).length), (26, .int .i64 i), (34, .sl (H1.length + 1) 0 2 1), (35, .int .i64 (2 : Nat)), (36, .int .i64 (2 : Nat))] ∧ H' = H1 ++ [.cells [va, vb], .cells [va, vb]] ∧ brk wa = false ∧ brk wb = false)
      ⟨rfl, rfl⟩ ?_ ?_ ?_
    · rintro _ _ ⟨rfl, rfl⟩
      refine walk ?_
      refine vv_cut [(1, .ptr (H.length + 0) 0), (24, encPs pn pairs), (25, .int .i64 (pairs.map encP).length), (26, .int .i64 i), (34, .sl (H1.length + 1) 0 2 1), (35, .int .i64 (2 : Nat)), (36, .int .i64 (0 : Nat)), (54, .bool (brk wa))] (H1 ++ [.cells [va, vb], .cells [va, vb]]) ?_ ?_
      · clear hany
        have ew : (((wa.map AV.str).length : Int) == 2) = ((wa.length : Int) == 2) := by rw [List.length_map]
        refine walk ?_
        rw [ew]
        cases h2 : ((wa.length : Int) == 2)
        · have eb : brk wa = false := by
            unfold brk
            cases h3 : wa == [[91], [93]] with
            | false => rfl
            | true => rw [beq_iff_eq] at h3; subst h3; simp at h2
          rw [eb]
          refine walk ?_
          exact vv_end rfl rfl
        · match wa, h2, vas with
          | [a, b], _, hsv =>
            have hu1 : ([a, b].map AV.str)[0]? = some (.str a) := rfl
            have hu2 : ([a, b].map AV.str)[1]? = some (.str b) := rfl
            have e2 : brk [a, b] = (a == [91] && b == [93]) := by simp [brk]
            rw [e2]
            refine walk ?_
            refine walk ?_
            cases ha : (a == [91])
            · refine walk ?_
              exact vv_end rfl rfl
            · refine walk ?_
              refine walk ?_
              cases hbb : (b == [93])
              · refine walk ?_
                exact vv_end rfl rfl
              · refine walk ?_
                exact vv_end rfl rfl
          | [], h, _ => simp at h
          | [_], h, _ => simp at h
          | _ :: _ :: _ :: _, h, _ => simp at h; omega
      cases hba : brk wa
      · refine walk ?_
        exact ⟨rfl, rfl, rfl⟩
      · rw [hany (by rw [hba]; rfl)]
        refine walk ?_
        exact fp_r rfl (ends_ext (hx.app _).base (plain_st _ _))
    · rintro _ _ ⟨rfl, rfl, hba⟩
      refine walk ?_
      refine vv_cut [(1, .ptr (H.length + 0) 0), (24, encPs pn pairs), (25, .int .i64 (pairs.map encP).length), (26, .int .i64 i), (34, .sl (H1.length + 1) 0 2 1), (35, .int .i64 (2 : Nat)), (36, .int .i64 (1 : Nat)), (54, .bool (brk wb))] (H1 ++ [.cells [va, vb], .cells [va, vb]]) ?_ ?_
      · clear hany
        have ew : (((wb.map AV.str).length : Int) == 2) = ((wb.length : Int) == 2) := by rw [List.length_map]
        refine walk ?_
        rw [ew]
        cases h2 : ((wb.length : Int) == 2)
        · have eb : brk wb = false := by
            unfold brk
            cases h3 : wb == [[91], [93]] with
            | false => rfl
            | true => rw [beq_iff_eq] at h3; subst h3; simp at h2
          rw [eb]
          refine walk ?_
          exact vv_end rfl rfl
        · match wb, h2, vbs with
          | [a, b], _, hsv =>
            have hu1 : ([a, b].map AV.str)[0]? = some (.str a) := rfl
            have hu2 : ([a, b].map AV.str)[1]? = some (.str b) := rfl
            have e2 : brk [a, b] = (a == [91] && b == [93]) := by simp [brk]
            rw [e2]
            refine walk ?_
            refine walk ?_
            cases ha : (a == [91])
            · refine walk ?_
              exact vv_end rfl rfl
            · refine walk ?_
              refine walk ?_
              cases hbb : (b == [93])
              · refine walk ?_
                exact vv_end rfl rfl
              · refine walk ?_
                exact vv_end rfl rfl
          | [], h, _ => simp at h
          | [_], h, _ => simp at h
          | _ :: _ :: _ :: _, h, _ => simp at h; omega
      cases hbb : brk wb
      · refine walk ?_
        exact ⟨rfl, rfl, hba, rfl⟩
      · rw [hany (by rw [hbb]; simp)]
        refine walk ?_
        exact fp_r rfl (ends_ext (hx.app _).base (plain_st _ _))
    · rintro _ _ ⟨rfl, rfl, hba, hbb⟩
      refine walk ?_
      exact ⟨by omega, rfl, hx.app _, by rw [hba, hbb]; rfl⟩
  simp only [decide_eq_false_iff_not] at hc
  have : i = pairs.length := by omega
  subst this
  rw [List.take_length] at hb
  rw [hb]
  clear hc hi
  simp only [Bool.false_eq_true, if_false]
  clear hb
  refine walk ?_
  refine iw_loop pairs.length (fun i al H' => ∃ ov, al = [(1, .ptr (H.length + 0) 0), (9, ov), (58, encPs pn pairs), (59, .int .i64 (pairs.map encP).length), (60, .int .i64 i)] ∧ OwnS (H ++ [.cells [.int .i64 kind, encPs pn pairs, encLs ln places, .bool below]]) H' ov (prw kind (pairs.take i)) ∧ (pairs.take i).any lgP1 = false) ⟨_, rfl, .nil (hx.app _), by simp⟩ ?_
  clear hx hB H1
  rintro i _ H1 hi ⟨ov, rfl, hO, hb⟩
  have hB : H1[H.length + 0]? = some (.cells [.int .i64 kind, encPs pn pairs, encLs ln places, .bool below]) := hO.1.get hp_new
  refine wi_nil ?_
  refine walk ?_
  refine iw_cond _ rfl ?_ ?_ <;> intro hc
  · simp only [decide_eq_true_eq] at hc
    obtain ⟨c, hc⟩ := get_ex (l := pairs) (i := i) (by omega)
    have hm := List.mem_of_getElem? hc
    have hu : (pairs.map encP)[i]? = some (.agg [encW c.a, encW c.b]) := getmap (f := encP) hc
    have gc := gps c hm
    have k30a := c30 (sl_W c.a) gc.1
    have k30b := c30 (sl_W c.b) gc.2
    have hany : lgP1 c = true → pairs.any lgP1 = true := fun h => any_of_get hc h
    have eL : lgP1 c = (decide (((wtext c.a.l).length : Int) > 400) || decide (((wtext c.b.l).length : Int) > 400)) := rfl
    have pa : ptext c.a.l = wtext c.a.l := by
      have := gne c hm
      unfold ptext
      rw [if_neg]
      simpa using this
    have pb1 : (wtext c.b.l == []) = true → ptext c.b.l = [91, 93] := fun h => by rw [wtext_nil h]; rfl
    have pb0 : (wtext c.b.l == []) = false → ptext c.b.l = wtext c.b.l := fun h => by
      unfold ptext
      rw [if_neg]
      intro h2
      have : c.b.l = [] := by simpa using h2
      rw [this] at h; cases h
    have e1 : prp kind c = [wtext c.a.l, arrowS kind, ptext c.b.l] := by unfold prp; rw [pa]
    rw [prw_one hc, any_take_succ hc, hb, e1, Bool.false_or]
    have hwl : (prw kind (pairs.take i)).length ≤ 96 := by
      have := prw_len kind (pairs.take i)
      rw [List.length_take] at this; omega
    have hall := all_W (a := c.a) (b := c.b)
    clear pa e1
    generalize prw kind (pairs.take i) = o0 at *
    generalize lgP1 c = lc at *
    generalize encW c.a = va at *
    generalize encW c.b = vb at *
    generalize wtext c.a.l = ta at *
    generalize wtext c.b.l = tb at *
    generalize ptext c.b.l = pb at *
    refine walk ?_
    refine st_storeW (n := 0) (ws := [va, vb]) rfl rfl rfl rfl rfl hall rfl ?_
    refine walk ?_
    refine st_call rfl (k30a _) ?_
    unfold tx30
    cases hda : decide ((ta.length : Int) > 400)
    rotate_left
    · simp only [if_true]
      rw [hany (by rw [eL, hda]; rfl)]
      simp only [if_true]
      refine walk ?_
      exact fp_r rfl (ends_ext (hO.app _).1.base (plain_st _ _))
    simp only [Bool.false_eq_true, if_false]
    refine walk ?_
    refine st_call rfl (k30b _) ?_
    unfold tx30
    cases hdb : decide ((tb.length : Int) > 400)
    rotate_left
    · simp only [if_true]
      rw [hany (by rw [eL, hdb]; simp)]
      simp only [if_true]
      refine walk ?_
      exact fp_r rfl (ends_ext (hO.app _).1.base (plain_st _ _))
    simp only [Bool.false_eq_true, if_false]
    rw [hda, hdb] at eL
    refine walk ?_
    refine wi_cut (fun al' H' => ∃ tl, al' = (1, .ptr (H.length + 0) 0) :: (9, ov) :: (10, .int .i64 i) :: (12, .str ta) :: (14, .str pb) :: (58, encPs pn pairs) :: (59, .int .i64 (pairs.map encP).length) :: (60, .int .i64 i) :: tl ∧ OwnS (H ++ [.cells [.int .i64 kind, encPs pn pairs, encLs ln places, .bool below]]) H' ov o0) ?_ ?_
    · cases hz : (tb == [])
      · rw [pb0 hz]
        refine walk ?_
        exact ⟨_, rfl, hO.app _⟩
      · rw [pb1 hz]
        refine walk ?_
        exact ⟨_, rfl, hO.app _⟩
    clear hO hB
    rintro _ H2 ⟨tl, rfl, hO⟩
    refine walk ?_
    refine wi_cut (fun al' H' => ∃ ov tl, al' = (1, .ptr (H.length + 0) 0) :: (9, ov) :: (12, .str ta) :: (14, .str pb) :: (58, encPs pn pairs) :: (59, .int .i64 (pairs.map encP).length) :: (60, .int .i64 i) :: tl ∧ OwnS (H ++ [.cells [.int .i64 kind, encPs pn pairs, encLs ln places, .bool below]]) H' ov (o0 ++ (if decide ((i : Int) > 0) then [[44]] else []))) ?_ ?_
    · refine iw_cond _ rfl ?_ ?_ <;> intro hi0
      · rw [if_pos hi0]
        refine walk ?_
        refine st_sliceG (out := [.str [44]]) rfl ?_
        refine st_appO (l := o0) (ys := [[44]]) rfl (hO.app _) (srcOf_last rfl) (by simp; omega) ?_
        intro v' H' ho
        refine walk ?_
        exact ⟨_, _, rfl, ho⟩
      · rw [hi0, if_neg (by simp), List.append_nil]
        refine walk ?_
        exact ⟨_, _, rfl, hO⟩
    clear hO
    rintro _ H3 ⟨ov2, tl2, rfl, hO⟩
    have hB : H3[H.length + 0]? = some (.cells [.int .i64 kind, encPs pn pairs, encLs ln places, .bool below]) := hO.1.get hp_new
    have hwl2 : (o0 ++ (if decide ((i : Int) > 0) then [[44]] else [])).length ≤ 97 := by
      rw [List.length_append]; split <;> simp <;> omega
    generalize o0 ++ (if decide ((i : Int) > 0) then [[44]] else []) = o1 at *
    refine walk ?_
    refine st_call rfl (c31 kind _) ?_
    refine walk ?_
    refine st_sliceG (out := [.str ta, .str (arrowS kind), .str pb]) rfl ?_
    refine st_appO (l := o1) (ys := [ta, arrowS kind, pb]) rfl (hO.app _) (srcOf_last rfl) (by simp; omega) ?_
    intro v' H' ho
    refine walk ?_
    exact ⟨by omega, _, rfl, ho, by rw [eL]; rfl⟩
  simp only [decide_eq_false_iff_not] at hc
  have : i = pairs.length := by omega
  subst this
  rw [List.take_length] at hO hb
  rw [hb]
  clear hc hi
  simp only [Bool.false_eq_true, if_false]
  have hB : H1[H.length + 0]? = some (.cells [.int .i64 kind, encPs pn pairs, encLs ln places, .bool below]) := hO.1.get hp_new
  have hwl := prw_len kind pairs
  refine walk ?_
  refine st_call rfl (k32 _) ?_
  refine walk ?_
  refine iw_cond _ rfl ?_ ?_ <;> intro h2
  · simp only [h2, if_true]
    refine walk ?_
    exact fp_r rfl (ends_ext (hO.app _).1.base (plain_st _ _))
  simp only [h2, Bool.false_eq_true, if_false]
  have hj : Lib.join (prw kind pairs ++ ml) [32] = fu := by rw [join_prw _ _ gpn, htm (by simpa using h2), ← eF]
  refine walk ?_
  refine st_appO (l := prw kind pairs) (ys := ml) rfl (hO.app _) (srcOf_W ⟨true, ml⟩ _) (by omega) ?_
  intro v' H' ho
  refine st_call rfl (join_call ho.src (by rw [List.length_append]; omega) (by rw [hj]; omega)) ?_
  rw [hj]
  refine walk ?_
  refine iw_cond _ rfl ?_ ?_ <;> intro h3
  · simp only [h3, if_true]
    refine walk ?_
    exact fp_r rfl (ends_ext ho.1.base (plain_st _ _))
  · simp only [h3, Bool.false_eq_true, if_false]
    refine walk ?_
    exact fp_r rfl (ends_ext ho.1.base (plain_st _ _))
end Go.Ab
