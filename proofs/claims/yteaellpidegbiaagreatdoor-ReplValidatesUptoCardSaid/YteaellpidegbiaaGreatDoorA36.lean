/- Part 36 of the proof. -/
import Derived.Test.YteaellpidegbiaaGreatDoorA30
import Derived.Test.YteaellpidegbiaaGreatDoorA35
set_option linter.unusedVariables false
set_option linter.unusedSimpArgs false
namespace Go.Ab
open Go
set_option maxRecDepth 100000
set_option maxHeartbeats 8000000
theorem mem_entsF : ∀ {ks : List (List UInt8)} {n : Nat} {e : AV × AV × Nat}, e ∈ entsF n ks → ∃ i k, ks[i]? = some k ∧ e = (.str k, .bool true, n + i)
  | [], n, e, h => by cases h
  | k :: ks, n, e, h => by
    simp only [entsF, List.mem_cons] at h
    rcases h with rfl | h
    · exact ⟨0, k, rfl, rfl⟩
    · obtain ⟨i, k', h1, h2⟩ := mem_entsF h
      exact ⟨i + 1, k', by simpa using h1, by rw [h2]; congr 2; omega⟩
theorem entsF_mem : ∀ {ks : List (List UInt8)} {n i : Nat} {k : List UInt8}, ks[i]? = some k → (.str k, .bool true, n + i) ∈ entsF n ks
  | [], n, i, k, h => by simp at h
  | k' :: ks, n, 0, k, h => by simp at h; subst h; simp [entsF]
  | k' :: ks, n, i + 1, k, h => by
    have := entsF_mem (n := n + 1) (show ks[i]? = some k by simpa using h)
    simp only [entsF, List.mem_cons]
    right; rw [show n + (i + 1) = n + 1 + i by omega]; exact this
theorem find_entsF : ∀ {ks : List (List UInt8)} {n i : Nat} {k : List UInt8}, ks[i]? = some k → (entsF n ks).find? (fun e => e.2.2 == n + i) = some (.str k, .bool true, n + i)
  | [], n, i, k, h => by simp at h
  | k' :: ks, n, 0, k, h => by simp at h; subst h; simp [entsF]
  | k' :: ks, n, i + 1, k, h => by
    have := find_entsF (n := n + 1) (show ks[i]? = some k by simpa using h)
    simp only [entsF]
    rw [List.find?_cons_of_neg (by simp)]
    rw [show n + (i + 1) = n + 1 + i by omega]; exact this
section steps
variable {P : Program} {H G : Heap} {al : AL} {K : KL} {Qp : AL → AV → Heap → Prop} {os : List IOper} {d : Nat} {x y : Arg}
theorem st_next_set {it M : Nat} {ks : List (List UInt8)} {seen : List Nat} (hx : evL al x = .ptr it 0) (hi : H[it]? = some (.iter (some M) ks.length seen ks.length)) (hm : H[M]? = some (MB ks))
    (hdone : (∀ i, i < ks.length → i ∈ seen) → VV P os ((d, .tuple [.bool false]) :: al) H K Qp)
    (hnext : ∀ i k, ks[i]? = some k → i ∉ seen → VV P os ((d, .tuple [.bool true, .str k, .bool true]) :: al) (H.set it (.iter (some M) ks.length (seen ++ [i]) ks.length)) K Qp) :
    VV P (⟨some d, .next, [x], none, none⟩ :: os) al H K Qp := by
  refine ⟨?_⟩
  show (match nnext (evsL al [x]) H with | some l => ∀ x ∈ l, vopsL P os (setL al (some d) x.1) x.2 K Qp | none => False)
  have e1 : evsL al [x] = [.ptr it 0] := by show [evL al x] = _; rw [hx]
  have e2 : iterAt H it = some (some M, ks.length, seen, ks.length) := by simp only [iterAt, hi]
  have e3 : mapAt H M = some (entsF 0 ks, ks.length) := by simp only [mapAt, hm, MB]
  have hall : (!seen.isEmpty && !(entsF 0 ks).isEmpty && (entsF 0 ks).all (fun e => decide (e.2.2 ≥ ks.length))) = false := by
    cases ks with
    | nil => simp [entsF]
    | cons k ks => simp [entsF]
  have hnew : ((entsF 0 ks).filter fun e => !seen.contains e.2.2).filter (fun e => decide (e.2.2 ≥ ks.length)) = [] := by
    rw [List.filter_eq_nil_iff]
    intro e he
    obtain ⟨i, k, h1, rfl⟩ := mem_entsF (List.mem_filter.1 he).1
    have := (List.getElem?_eq_some_iff.1 h1).1
    simp; omega
  rw [e1]
  simp only [nnext, e2, e3, hall, Bool.false_eq_true, if_false, hnew, List.append_nil]
  intro z hz
  rcases List.mem_append.1 hz with hz | hz
  · split at hz
    · rename_i hemp
      rw [List.mem_singleton] at hz
      subst hz
      refine (hdone fun i hi' => ?_).1
      rw [List.isEmpty_iff, List.filter_eq_nil_iff] at hemp
      obtain ⟨k, hk⟩ := get_ex hi'
      refine Classical.byContradiction fun hns => ?_
      have hme := entsF_mem (n := 0) hk
      have := hemp _ (List.mem_filter.2 ⟨hme, by simpa using hns⟩)
      simp at this; omega
    · cases hz
  · obtain ⟨e, he, rfl⟩ := List.mem_map.1 hz
    have he' := (List.mem_filter.1 he).1
    obtain ⟨h1, h2⟩ := List.mem_filter.1 he'
    obtain ⟨i, k, h3, rfl⟩ := mem_entsF h1
    have := (hnext i k h3 (by simpa using h2)).1
    simp only [Nat.zero_add]
    exact this
theorem st_entry_set {it M i : Nat} {ks : List (List UInt8)} {seen : List Nat} {k : List UInt8} (hx : evL al x = .ptr it 0) (hi : H[it]? = some (.iter (some M) ks.length (seen ++ [i]) ks.length)) (hm : H[M]? = some (MB ks))
    (hk : ks[i]? = some k) (h : VV P os ((d, .tuple [.str k, .bool true]) :: al) H K Qp) : VV P (⟨some d, .i (.n .entry), [x], none, none⟩ :: os) al H K Qp := by
  refine st_i (H' := H) (v := .tuple [.str k, .bool true]) ?_ h
  have e1 : evsL al [x] = [.ptr it 0] := by show [evL al x] = _; rw [hx]
  have e2 : iterAt H it = some (some M, ks.length, seen ++ [i], ks.length) := by simp only [iterAt, hi]
  have e3 : mapAt H M = some (entsF 0 ks, ks.length) := by simp only [mapAt, hm, MB]
  have e4 := find_entsF (n := 0) hk
  rw [Nat.zero_add] at e4
  show nsem .entry (evsL al [x]) H H.length = _
  rw [e1]
  simp only [nsem, e2, e3, List.getLast?_concat, if_true, e4]
theorem st_lenMap {M : Nat} {ks : List (List UInt8)} (hx : evL al x = .map M) (hm : H[M]? = some (MB ks)) (h : VV P os ((d, .int .i64 ks.length) :: al) H K Qp) :
    VV P (⟨some d, .i (.n .lenMap), [x], none, none⟩ :: os) al H K Qp := by
  refine st_i (H' := H) (v := .int .i64 ks.length) ?_ h
  have e1 : evsL al [x] = [.map M] := by show [evL al x] = _; rw [hx]
  have e3 : mapAt H M = some (entsF 0 ks, ks.length) := by simp only [mapAt, hm, MB]
  show nsem .lenMap (evsL al [x]) H H.length = _
  rw [e1]
  simp only [nsem, e3, entsF_length]
theorem st_makeMap {n : Nat} {G' : Heap} (hn : G.length = n) (hG : G ++ [MB []] = G') (h : VV P os ((d, .map (H.length + n)) :: al) (H ++ G') K Qp) : VV P (⟨some d, .i (.n (.makeMap false)), [], none, none⟩ :: os) al (H ++ G) K Qp := by
  subst hn; subst hG
  refine st_i ?_ h
  show some (AV.map (H ++ G).length, put (H ++ G) (H ++ G).length (.map [] 0)) = _
  rw [put_app, List.length_append]; rfl
theorem st_range {M : Nat} {ks : List (List UInt8)} (hx : evL al x = .map M) (hm : H[M]? = some (MB ks)) (h : VV P os ((d, .ptr H.length 0) :: al) (H ++ [.iter (some M) ks.length [] ks.length]) K Qp) :
    VV P (⟨some d, .i (.n .range), [x], none, none⟩ :: os) al H K Qp := by
  refine st_i ?_ h
  have e1 : evsL al [x] = [.map M] := by show [evL al x] = _; rw [hx]
  have e3 : mapAt H M = some (entsF 0 ks, ks.length) := by simp only [mapAt, hm, MB]
  show nsem .range (evsL al [x]) H H.length = _
  rw [e1]
  simp only [nsem, e3]
  unfold put; rw [if_neg (by omega)]
end steps
def setS (l : List (List UInt8)) : List (List UInt8) := sorted (addAll [] l)
def symsR (r : Ru) : List (List UInt8) × Int :=
  if vrule r != 0 then ([], vrule r) else if decide (((addAll [] (occR r)).length : Int) > 40) then ([], 3) else (setS (occR r), 0)
theorem addAll_nodup : ∀ (l ks : List (List UInt8)), ks.Nodup → (addAll ks l).Nodup
  | [], ks, h => h
  | s :: l, ks, h => by
    show (addAll (addK ks s) l).Nodup
    refine addAll_nodup l _ ?_
    unfold addK
    split
    · exact h
    · rename_i hn
      rw [List.nodup_append]
      refine ⟨h, by simp, ?_⟩
      intro a ha b hb e
      rw [List.mem_singleton] at hb
      subst hb; subst e; exact hn ha
theorem addAll_mem : ∀ (l ks : List (List UInt8)) (x : List UInt8), x ∈ addAll ks l ↔ x ∈ ks ∨ x ∈ l
  | [], ks, x => by simp [addAll]
  | s :: l, ks, x => by
    show x ∈ addAll (addK ks s) l ↔ _
    rw [addAll_mem l]
    unfold addK
    split
    · rename_i h
      simp only [List.mem_cons]
      constructor
      · rintro (h1 | h1)
        · exact .inl h1
        · exact .inr (.inr h1)
      · rintro (h1 | rfl | h1)
        · exact .inl h1
        · exact .inl h
        · exact .inr h1
    · simp only [List.mem_append, List.mem_cons, List.not_mem_nil, or_false]
      constructor
      · rintro ((h1 | h1) | h1)
        · exact .inl h1
        · exact .inr (.inl h1)
        · exact .inr (.inr h1)
      · rintro (h1 | h1 | h1)
        · exact .inl (.inl h1)
        · exact .inl (.inr h1)
        · exact .inr h1
theorem sorted_perm {a b : List (List UInt8)} (h : a.Perm b) : sorted a = sorted b := by
  have tr : ∀ x y z : List UInt8, decide (x ≤ y) = true → decide (y ≤ z) = true → decide (x ≤ z) = true := by
    intro x y z h1 h2
    simp only [decide_eq_true_eq] at *
    exact List.le_trans h1 h2
  have tot : ∀ x y : List UInt8, (decide (x ≤ y) || decide (y ≤ x)) = true := by
    intro x y
    simp only [Bool.or_eq_true, decide_eq_true_eq]
    exact List.le_total x y
  refine List.Perm.eq_of_pairwise (le := fun x y => decide (x ≤ y) = true) ?_ (List.pairwise_mergeSort tr tot a) (List.pairwise_mergeSort tr tot b) ?_
  · intro x y _ _ h1 h2
    simp only [decide_eq_true_eq] at h1 h2
    exact List.le_antisymm h1 h2
  · exact ((List.mergeSort_perm a _).trans h).trans (List.mergeSort_perm b _).symm
def gone (ks : List (List UInt8)) (seen : List Nat) : List (List UInt8) := seen.map fun i => ks.getD i []
theorem gone_perm {ks : List (List UInt8)} {seen : List Nat} (hn : seen.Nodup) (hb : ∀ i ∈ seen, i < ks.length) (ha : ∀ i, i < ks.length → i ∈ seen) : (gone ks seen).Perm ks := by
  have hp : seen.Perm (List.range ks.length) := by
    rw [List.perm_ext_iff_of_nodup hn List.nodup_range]
    intro i
    rw [List.mem_range]
    exact ⟨hb i, ha i⟩
  have := hp.map fun i => ks.getD i []
  refine this.trans (List.Perm.of_eq ?_)
  apply List.ext_getElem
  · simp
  · intro i h1 h2
    simp [List.getD_eq_getElem?_getD, List.getElem?_eq_getElem h2]
end Go.Ab
namespace Go.Ab
open Go
set_option maxRecDepth 100000
set_option maxHeartbeats 8000000
section steps
variable {P : Program} {H G : Heap} {al : AL} {K : KL} {Qp : AL → AV → Heap → Prop} {os : List IOper} {d : Nat} {x y : Arg}
theorem st_appG {sz bytes id off k m : Nat} {cs ys : List AV} (hx : evL al x = .sl id off k sz) (hg : H[id]? = some (.cells cs)) (hc : off + k * sz ≤ cs.length)
    (hy : srcOf sz H (evL al y) = some (m, ys)) (hs : ys.all AV.scalar = true) (hb : (k + m) * bytes ≤ 140737488355328)
    (h : VV P os ((d, .sl H.length 0 (k + m) sz) :: al) (H.set id .dead ++ [.cells ((cs.drop off).take (k * sz) ++ ys)]) K Qp) :
    VV P (⟨some d, .i (.m (.append sz bytes)), [x, y], none, none⟩ :: os) al H K Qp := by
  refine st_i ?_ h
  have h0 : srcOf sz H (.sl id off k sz) = some (k, (cs.drop off).take (k * sz)) := by
    simp only [srcOf, if_true, hg]; rw [if_pos hc]
  simp only [isem, msem, evsL, hx, eappend, hy, h0, hs, Bool.true_and]
  rw [if_pos (by simpa using hb)]
  unfold put; rw [if_neg (by simp)]
theorem st_app0G {sz bytes m : Nat} {ys : List AV} (hx : evL al x = .nilslice) (hy : srcOf sz H (evL al y) = some (m, ys)) (hm : 0 < m) (hs : ys.all AV.scalar = true) (hb : m * bytes ≤ 140737488355328)
    (h : VV P os ((d, .sl H.length 0 m sz) :: al) (H ++ [.cells ys]) K Qp) : VV P (⟨some d, .i (.m (.append sz bytes)), [x, y], none, none⟩ :: os) al H K Qp := by
  refine st_i ?_ h
  have h0 : srcOf sz H .nilslice = some (0, []) := rfl
  simp only [isem, msem, evsL, hx, eappend, hy, h0, hs, Bool.true_and, Nat.zero_add]
  rw [if_pos (by simpa using hb), if_neg (by omega)]
  unfold put; rw [if_neg (by omega)]
theorem st_sliceG {len sz : Nat} {zs : List AV} {ps : List (Nat × Nat)} {as_ : List Arg} {out : List AV} (hf : fillA (if len * sz = 0 then [] else copies len zs) ps (evsL al as_) = some out)
    (h : VV P os ((d, .sl H.length 0 len sz) :: al) (H ++ [.cells out]) K Qp) : VV P (⟨some d, .i (.m (.buildSlice len sz zs ps)), as_, none, none⟩ :: os) al H K Qp := by
  refine st_i ?_ h
  simp only [isem, msem, hf]
  unfold put; rw [if_neg (by omega)]
theorem srcOf_last {sz m : Nat} {cs : List AV} (h : cs.length = m * sz) : srcOf sz (H ++ [.cells cs]) (.sl H.length 0 m sz) = some (m, cs) := by
  simp only [srcOf, if_true]
  rw [List.getElem?_append_right (Nat.le_refl _), Nat.sub_self]
  simp only [List.getElem?_cons_zero]
  rw [if_pos (by omega), List.drop_zero, ← h, List.take_length]
end steps
theorem Ext.set {H H' : Heap} {id : Nat} {b : Blk} (h : Ext H H') (hid : H.length ≤ id) : Ext H (H'.set id b) := by
  obtain ⟨G, rfl⟩ := h; exact ⟨G.set (id - H.length) b, by rw [List.set_append_right _ _ hid]⟩
theorem Upd.ext {H G H' : Heap} {M : Nat} {ks : List (List UInt8)} (h : Upd (H ++ G) M ks H') (hM : H.length ≤ M) : Ext H H' := by
  obtain ⟨_, G', rfl⟩ := h
  exact ⟨G.set (M - H.length) (MB ks) ++ G', by rw [List.set_append_right _ _ hM, List.append_assoc]⟩
theorem get_set_ne {H : Heap} {a b : Nat} {x y : Blk} (h : H[a]? = some x) (hne : a ≠ b) : (H.set b y)[a]? = some x := by
  rw [List.getElem?_set, if_neg (fun e => hne e.symm)]; exact h
theorem get_set_eq {H : Heap} {a : Nat} {x y : Blk} (h : H[a]? = some x) : (H.set a y)[a]? = some y := by
  rw [List.getElem?_set, if_pos rfl, if_pos (List.getElem?_eq_some_iff.1 h).1]
theorem get_lt {H : Heap} {a : Nat} {x : Blk} (h : H[a]? = some x) : a < H.length := (List.getElem?_eq_some_iff.1 h).1
theorem nodup_le : ∀ (n : Nat) (l : List Nat), l.Nodup → (∀ i ∈ l, i < n) → l.length ≤ n
  | 0, l, _, h => by
    cases l with
    | nil => simp
    | cons a l => exact absurd (h a (by simp)) (by omega)
  | n + 1, l, hn, h => by
    have h1 := nodup_le n (l.erase n) (hn.erase n) fun i hi => by
      have h2 := List.mem_of_mem_erase hi
      have h3 := h i h2
      have : i ≠ n := by rintro rfl; exact (List.Nodup.not_mem_erase hn) hi
      omega
    have := List.length_erase (a := n) (l := l)
    split at this <;> omega
theorem gone_append (ks : List (List UInt8)) (seen : List Nat) (i : Nat) (k : List UInt8) (h : ks[i]? = some k) : gone ks (seen ++ [i]) = gone ks seen ++ [k] := by
  simp [gone, List.getD_eq_getElem?_getD, h]
theorem plain_ans (w : Wd) (e : Int) : Plain (.tuple [encW w, .int .i64 e]) := Plain.tuple fun x hx => by
  rcases List.mem_cons.1 hx with rfl | hx
  · exact plain_W w
  · rw [List.mem_singleton.1 hx]; exact Plain.int _ _
def OutIs (H0 : Nat) (H : Heap) (it M : Nat) (v : AV) (l : List (List UInt8)) : Prop :=
  (l = [] ∧ v = .nilslice) ∨ ∃ id, v = .sl id 0 l.length 1 ∧ H[id]? = some (.cells (l.map .str)) ∧ H0 ≤ id ∧ id ≠ it ∧ id ≠ M ∧ l ≠ []
theorem c11 (r : Ru) (hr : okR2 r) (hb : (addAll [] (occR r)).length ≤ 67108864) (H : Heap) : ACall PP 11 [encR r] H (Just H (.tuple [encW ⟨true, (symsR r).1⟩, .int .i64 (symsR r).2])) := by
  have k15 := fun H => c15 r hr.ok H
  have k26 := fun (X : Heap) M hM => c26 r hr (H := X) (M := M) (ks := []) hM
  have hs : symsR r = if vrule r != 0 then ([], vrule r) else if decide (((addAll [] (occR r)).length : Int) > 40) then ([], 3) else (sorted (addAll [] (occR r)), 0) := rfl
  have hnd := addAll_nodup (occR r) [] (by simp)
  rw [hs]
  generalize vrule r = ve at *
  generalize addAll [] (occR r) = ks at *
  clear hs
  obtain ⟨kind, pn, pairs, ln, places, below⟩ := r
  unfold encR at *
  refine ACall.gives (is11.c1 nonum mixed rfl ?_)
  refine walk ?_
  refine st_call rfl (k15 _) ?_
  refine walk ?_
  refine iw_cond _ rfl ?_ ?_ <;> intro h1
  · rw [if_pos h1]
    refine walk ?_
    exact fr (hp := plain_ans ⟨true, []⟩ _)
  rw [if_neg (by simpa using h1)]
  refine walk ?_
  refine st_makeMap rfl rfl ?_
  refine walk ?_
  refine st_callq rfl (k26 _ (H.length + 1) hp_new) ?_ ?_
  case refine_2 => rintro v H2 ⟨h, _⟩; cases h
  rintro v H2 ⟨_, hU⟩
  have hx : Ext H H2 := hU.ext (by omega)
  have hM := hU.get
  clear hU k26 k15
  refine walk ?_
  refine st_lenMap rfl hM ?_
  refine walk ?_
  refine iw_cond _ rfl ?_ ?_ <;> intro h2
  · rw [if_pos h2]
    refine walk ?_
    exact fp_r rfl (ends_ext hx (plain_ans ⟨true, []⟩ _))
  rw [if_neg (by simpa using h2)]
  refine walk ?_
  refine st_range rfl hM ?_
  refine walk ?_
  have hit : (H2 ++ [.iter (some (H.length + 1)) ks.length [] ks.length])[H2.length]? = some (.iter (some (H.length + 1)) ks.length [] ks.length) := by
    rw [List.getElem?_append_right (Nat.le_refl _), Nat.sub_self]; rfl
  have hHM : H.length + 1 < H2.length := get_lt hM
  generalize hitn : H2.length = it at *
  have hitM : it ≠ H.length + 1 := by omega
  have hit0 : H.length ≤ it := by omega
  refine iw_loop ks.length (fun i al H' => ∃ ov seen, seen.length = i ∧ al = [(6, ov), (21, .ptr it 0)] ∧ Ext H H' ∧ H'[it]? = some (.iter (some (H.length + 1)) ks.length seen ks.length) ∧ H'[H.length + 1]? = some (MB ks) ∧
    seen.Nodup ∧ (∀ j ∈ seen, j < ks.length) ∧ OutIs H.length H' it (H.length + 1) ov (gone ks seen)) ⟨.nilslice, [], rfl, rfl, hx.app _, hit, hp_old hM, by simp, by simp, .inl ⟨rfl, rfl⟩⟩ ?_
  clear hx hM hit hHM hitn H2
  rintro i _ H1 hi ⟨ov, seen, hsl, rfl, hx, hit, hM, hsn, hsb, ho⟩
  refine walk ?_
  refine st_next_set rfl hit hM ?_ ?_
  ·
    intro hall
    have hperm := gone_perm hsn hsb hall
    rw [← sorted_perm hperm]
    have hglen : (gone ks seen).length ≤ 67108864 := by rw [hperm.length_eq]; exact hb
    have hgs : (sorted (gone ks seen)).length = (gone ks seen).length := by simp [sorted]
    generalize gone ks seen = out at *
    clear hperm hsn hsb
    refine walk ?_
    rcases ho with ⟨rfl, rfl⟩ | ⟨id, rfl, hid, hid0, hne1, hne2, hne⟩
    · refine st_callq rfl (sort_none _) ?_ ?_
      case refine_2 => rintro v H2 ⟨h, _⟩; cases h
      rintro v H2 ⟨_, rfl⟩
      refine walk ?_
      have e : sorted ([] : List (List UInt8)) = [] := by simp [sorted]
      rw [e]
      exact fp_r rfl (ends_ext hx (plain_ans ⟨true, []⟩ 0))
    · refine st_callq rfl (sort_call hid (by omega)) ?_ ?_
      case refine_2 => rintro v H2 ⟨h, _⟩; cases h
      rintro v H2 ⟨_, rfl⟩
      refine walk ?_
      have he : encW ⟨true, sorted out⟩ = .list 1 ((sorted out).map .str) := by
        unfold encW
        rw [if_neg]
        intro h
        simp only [Bool.and_eq_true, List.isEmpty_iff] at h
        rw [h.2] at hgs
        exact hne (List.length_eq_zero_iff.1 hgs.symm)
      refine fp_r rfl ?_
      have hg2 : (H1.set id (.cells ((sorted out).map .str)))[id]? = some (.cells ((sorted out).map .str)) := get_set_eq hid
      have hx2 : Ext H ((H1.set id (.cells ((sorted out).map .str))).set id .dead) := (hx.set hid0).set hid0
      obtain ⟨G, hG⟩ := hx2
      refine ⟨_, G, rfl, .step id _ hg2 (v' := .tuple [.list 1 ((sorted out).map .str), .int .i64 0]) ?_ ?_, ?_⟩
      · refine .tuple _ _ rfl fun j => ?_
        match j with
        | 0 => rw [← hgs]; exact sealStrs id (sorted out)
        | 1 => exact .refl _
        | j + 2 => exact .refl _
      · rw [hG, he]; exact .done _ _
      · exact plain_ans ⟨true, _⟩ _
  ·
    intro i' k hk hns
    have hin := (List.getElem?_eq_some_iff.1 hk).1
    have hsn' : (seen ++ [i']).Nodup := by
      rw [List.nodup_append]
      refine ⟨hsn, by simp, ?_⟩
      intro a ha b hb e
      rw [List.mem_singleton] at hb
      subst hb; subst e; exact hns ha
    have hsb' : ∀ j ∈ seen ++ [i'], j < ks.length := by
      intro j hj
      rcases List.mem_append.1 hj with h | h
      · exact hsb j h
      · rw [List.mem_singleton.1 h]; exact hin
    have hlt := nodup_le _ _ hsn' hsb'
    rw [List.length_append, List.length_singleton] at hlt
    have hgo := gone_append ks seen i' k hk
    have hit2 : (H1.set it (.iter (some (H.length + 1)) ks.length (seen ++ [i']) ks.length))[it]? = some (.iter (some (H.length + 1)) ks.length (seen ++ [i']) ks.length) := get_set_eq hit
    have hM2 : (H1.set it (.iter (some (H.length + 1)) ks.length (seen ++ [i']) ks.length))[H.length + 1]? = some (MB ks) := get_set_ne hM (fun e => hitM e.symm)
    have hx2 : Ext H (H1.set it (.iter (some (H.length + 1)) ks.length (seen ++ [i']) ks.length)) := hx.set hit0
    have ho2 : OutIs H.length (H1.set it (.iter (some (H.length + 1)) ks.length (seen ++ [i']) ks.length)) it (H.length + 1) ov (gone ks seen) := by
      rcases ho with h | ⟨id, h1, h2, h3, h4, h5, h6⟩
      · exact .inl h
      · exact .inr ⟨id, h1, get_set_ne h2 h4, h3, h4, h5, h6⟩
    generalize H1.set it (.iter (some (H.length + 1)) ks.length (seen ++ [i']) ks.length) = X at *
    clear ho hx hit hM
    refine walk ?_
    refine st_entry_set rfl hit2 hM2 hk ?_
    refine walk ?_
    refine st_sliceG (out := [.str k]) rfl ?_
    have hXl : H.length ≤ X.length := by obtain ⟨G, rfl⟩ := hx2; simp
    have hMX := get_lt hM2
    have hIX := get_lt hit2
    rcases ho2 with ⟨h3, rfl⟩ | ⟨id, rfl, h4, h5, h6, h7, h8⟩
    · refine st_app0G (m := 1) (ys := [.str k]) rfl (srcOf_last rfl) (by omega) rfl (by omega) ?_
      refine walk ?_
      refine ⟨by omega, _, seen ++ [i'], by simp [hsl], rfl, (hx2.app _).app _, hp_old (hp_old hit2), hp_old (hp_old hM2), hsn', hsb', ?_⟩
      rw [hgo, h3]
      refine .inr ⟨_, rfl, ?_, by simp; omega, by simp; omega, by simp; omega, by simp⟩
      rw [List.getElem?_append_right (Nat.le_refl _), Nat.sub_self]; rfl
    · have hgl : (gone ks seen).length = seen.length := by simp [gone]
      have hIdX := get_lt h4
      refine st_appG (m := 1) (ys := [.str k]) (cs := (gone ks seen).map .str) rfl (hp_old h4) (by simp) (srcOf_last rfl) rfl (by omega) ?_
      refine walk ?_
      refine ⟨by omega, _, seen ++ [i'], by simp [hsl], rfl, ((hx2.app _).set h5).app _, hp_old (get_set_ne (hp_old hit2) (fun e => h6 e.symm)), hp_old (get_set_ne (hp_old hM2) (fun e => h7 e.symm)), hsn', hsb', ?_⟩
      rw [hgo]
      refine .inr ⟨(X ++ [Blk.cells [.str k]] : Heap).length, by show AV.sl _ 0 _ 1 = _; simp, ?_, by simp; omega, by simp; omega, by simp; omega, by simp⟩
      rw [List.getElem?_append_right (by simp)]
      simp
      exact List.take_of_length_le (by simp)
end Go.Ab
namespace Go.Ab
open Go
set_option maxRecDepth 100000
set_option maxHeartbeats 8000000
def OwnS (H H' : Heap) (v : AV) (l : List (List UInt8)) : Prop :=
  Ext H H' ∧ ((l = [] ∧ v = .nilslice) ∨ ∃ id, v = .sl id 0 l.length 1 ∧ H'[id]? = some (.cells (l.map .str)) ∧ H.length ≤ id ∧ l ≠ [])
theorem OwnS.nil {H H' : Heap} (h : Ext H H') : OwnS H H' .nilslice [] := ⟨h, .inl ⟨rfl, rfl⟩⟩
theorem OwnS.app {H H' : Heap} {v : AV} {l : List (List UInt8)} (h : OwnS H H' v l) (G : Heap) : OwnS H (H' ++ G) v l := by
  obtain ⟨h1, h2⟩ := h
  refine ⟨h1.app G, ?_⟩
  rcases h2 with h2 | ⟨id, a, b, c, d⟩
  · exact .inl h2
  · exact .inr ⟨id, a, hp_old b, c, d⟩
theorem Ext.get {H H' : Heap} (h : Ext H H') {j : Nat} {b : Blk} (hg : H[j]? = some b) : H'[j]? = some b := by obtain ⟨G, rfl⟩ := h; exact hp_old hg
theorem Ext.len {H H' : Heap} (h : Ext H H') : H.length ≤ H'.length := by obtain ⟨G, rfl⟩ := h; simp
theorem Ext.base {H G H' : Heap} (h : Ext (H ++ G) H') : Ext H H' := by obtain ⟨G', rfl⟩ := h; exact ⟨G ++ G', by rw [List.append_assoc]⟩
theorem OwnS.ends {H G H' : Heap} {v : AV} {l : List (List UInt8)} (h : OwnS (H ++ G) H' v l) : Gives H (encW ⟨true, l⟩) (.ret v) H' := by
  obtain ⟨h1, h2⟩ := h
  rcases h2 with ⟨rfl, rfl⟩ | ⟨id, rfl, h3, h4, h5⟩
  · exact ends_ext h1.base (plain_W ⟨true, []⟩)
  · have he : encW ⟨true, l⟩ = .list 1 (l.map .str) := by
      unfold encW
      rw [if_neg]
      intro h
      simp only [Bool.and_eq_true, List.isEmpty_iff] at h
      exact h5 h.2
    obtain ⟨G', hG⟩ := h1.base.set (id := id) (b := .dead) (by rw [List.length_append] at h4; omega)
    exact ⟨_, G', rfl, .step id _ h3 (sealStrs id l) (by rw [hG, he]; exact .done _ _), plain_W _⟩
section steps
variable {P : Program} {H G : Heap} {al : AL} {K : KL} {Qp : AL → AV → Heap → Prop} {os : List IOper} {d : Nat} {x y : Arg}
theorem st_appO {H0 : Heap} {v : AV} {l ys : List (List UInt8)} (hx : evL al x = v) (ho : OwnS H0 H v l) (hy : srcOf 1 H (evL al y) = some (ys.length, ys.map .str)) (hb : l.length + ys.length ≤ 1000000000)
    (h : ∀ v' H', OwnS H0 H' v' (l ++ ys) → VV P os ((d, v') :: al) H' K Qp) : VV P (⟨some d, .i (.m (.append 1 16)), [x, y], none, none⟩ :: os) al H K Qp := by
  obtain ⟨h1, h2⟩ := ho
  rcases h2 with ⟨rfl, rfl⟩ | ⟨id, rfl, h3, h4, h5⟩
  · cases ys with
    | nil => exact st_app00 (ys := []) hx hy rfl (h _ _ ⟨h1, .inl ⟨rfl, rfl⟩⟩)
    | cons s ys =>
      refine st_app0G hx hy (by simp) (all_strs _) (by simp at hb ⊢; omega) (h _ _ ⟨h1.app _, .inr ⟨_, rfl, ?_, h1.len, by simp⟩⟩)
      rw [List.getElem?_append_right (Nat.le_refl _), Nat.sub_self]; rfl
  · refine st_appG hx h3 (by simp) hy (all_strs _) (by omega) (h _ _ ⟨(h1.set h4).app _, .inr ⟨_, by rw [List.length_append], ?_, h1.len, by simp [h5]⟩⟩)
    rw [List.getElem?_append_right (by simp)]
    simp
    exact List.take_of_length_le (by simp)
theorem srcOf_strs (l : List (List UInt8)) : srcOf 1 H (.list 1 (l.map .str)) = some (l.length, l.map .str) := by
  simp only [srcOf, if_true, List.length_map, flat_strs]
end steps
theorem symsL_le : ∀ (l : List Ex) (i : Nat), (symsL (l.take i)).length ≤ (symsL l).length
  | [], i => by simp
  | x :: xs, 0 => by simp [symsL]
  | x :: xs, i + 1 => by simp only [List.take_succ_cons, symsL, List.length_append]; have := symsL_le xs i; omega
theorem c64 (e : Ex) (he : okE e) (hb : (symsE e).length ≤ 1000000000) (H : Heap) : ACall PP 64 [enc e] H (Just H (encW ⟨true, symsE e⟩)) := by
  match e, he, hb with
  | .mk op s nl l, he, hb =>
    have hs := sl_lst nl l
    have hl : (l.map enc).length = l.length := List.length_map _
    have hll := okE_l he
    simp only [symsE] at hb ⊢
    rw [enc_mk]
    refine ACall.gives (is64.c1 nonum mixed rfl ?_)
    refine walk ?_
    refine wi_cut (fun al' H' => ∃ ov, (al' = [(1, .ptr (H.length + 0) 0), (3, ov)] ∨ al' = [(1, .ptr (H.length + 0) 0), (3, ov), (7, .bool false)]) ∧ OwnS (H ++ [.cells [.int .i64 op, .str s, lst nl l]]) H' ov (if op == 0 then [s] else [])) ?_ ?_
    · cases h0 : (op == 0)
      · refine walk ?_
        exact ⟨_, .inr rfl, .nil (.refl _)⟩
      · refine walk ?_
        refine st_sliceG (out := [.str s]) rfl ?_
        refine st_appO (H0 := H ++ [.cells [.int .i64 op, .str s, lst nl l]]) (l := []) (ys := [s]) rfl ((OwnS.nil (.refl _)).app _) (srcOf_last rfl) (by simp) ?_
        intro v' H' ho
        refine walk ?_
        exact ⟨_, .inl rfl, ho⟩
    generalize (if op == 0 then [s] else []) = pre at *
    have hB0 : (H ++ [.cells [.int .i64 op, .str s, lst nl l]])[H.length + 0]? = some (.cells [.int .i64 op, .str s, lst nl l]) := hp_new
    have hend : ∀ {H' v l'}, OwnS (H ++ [.cells [.int .i64 op, .str s, lst nl l]]) H' v l' → Gives H (encW ⟨true, l'⟩) (.ret v) H' := fun h => h.ends
    generalize (H ++ [.cells [.int .i64 op, .str s, lst nl l]] : Heap) = H0 at *
    rintro _ H1 ⟨ov, rfl | rfl, hO⟩
    all_goals
      refine walk ?_
      refine iw_loop l.length (fun i al H' => ∃ ov, al = [(1, .ptr (H.length + 0) 0), (3, ov), (4, .int .i64 i)] ∧ OwnS H0 H' ov (pre ++ symsL (l.take i))) ⟨ov, rfl, by simpa [symsL] using hO⟩ ?_
      clear hO H1 ov
      rintro i _ H1 hi ⟨ov, rfl, hO⟩
      have hB := hO.1.get hB0
      refine walk ?_
      refine iw_cond _ rfl ?_ ?_ <;> intro hc
      · simp only [decide_eq_true_eq] at hc
        obtain ⟨c, hc⟩ := get_ex (l := l) (i := i) (by omega)
        have hu := getmap (f := enc) hc
        have hm := List.mem_of_getElem? hc
        have ht := symsL_take hc
        have hle : (symsL (l.take (i + 1))).length ≤ (symsL l).length := symsL_le l (i + 1)
        have hlen : (symsL (l.take i)).length + (symsE c).length ≤ (symsL l).length := by rw [ht, List.length_append] at hle; exact hle
        rw [List.length_append] at hb
        obtain ⟨op', s', nl', l'⟩ := c
        rw [enc_mk] at hu
        have ih := c64 (.mk op' s' nl' l') (okE_kid he hm) (by omega) H1
        rw [enc_mk] at ih
        refine walk ?_
        refine st_call rfl ih ?_
        refine st_appO rfl hO (srcOf_W ⟨true, _⟩ _) (by rw [List.length_append]; simp only; omega) ?_
        intro v' H' ho
        refine walk ?_
        refine ⟨by omega, _, rfl, ?_⟩
        rw [ht, ← List.append_assoc]; exact ho
      · simp only [decide_eq_false_iff_not] at hc
        have : i = l.length := by omega
        subst this
        rw [List.take_length] at hO
        refine walk ?_
        exact fp_r rfl (hend hO)
termination_by SizeOf.sizeOf e
decreasing_by all_goals (subst_vars; exact mem_size (by assumption))
end Go.Ab
