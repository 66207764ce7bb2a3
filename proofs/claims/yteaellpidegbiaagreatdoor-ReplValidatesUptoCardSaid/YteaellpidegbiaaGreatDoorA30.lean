/- Part 30 of the proof. -/
import Derived.Test.YteaellpidegbiaaGreatDoorA29
set_option linter.unusedVariables false
set_option linter.unusedSimpArgs false
namespace Go.Ab
open Go
set_option maxRecDepth 100000
set_option maxHeartbeats 4000000
def entsF : Nat → List (List UInt8) → Ents
  | _, [] => []
  | n, k :: ks => (.str k, .bool true, n) :: entsF (n + 1) ks
def MB (ks : List (List UInt8)) : Blk := .map (entsF 0 ks) ks.length
def addK (ks : List (List UInt8)) (s : List UInt8) : List (List UInt8) := if s ∈ ks then ks else ks ++ [s]
def addAll (ks l : List (List UInt8)) : List (List UInt8) := l.foldl addK ks
theorem entsF_length : ∀ (ks : List (List UInt8)) (n : Nat), (entsF n ks).length = ks.length
  | [], _ => rfl
  | k :: ks, n => by simp only [entsF, List.length_cons, entsF_length ks]
theorem entsF_append : ∀ (ks : List (List UInt8)) (n : Nat) (s : List UInt8), entsF n (ks ++ [s]) = entsF n ks ++ [(.str s, .bool true, n + ks.length)]
  | [], n, s => by simp [entsF]
  | k :: ks, n, s => by
    simp only [List.cons_append, entsF, entsF_append ks, List.length_cons]
    rw [show n + 1 + ks.length = n + (ks.length + 1) by omega]
def kStr : KT := ⟨false, [.str]⟩
theorem keyEq_str (s t : List UInt8) : keyEq kStr (.str s) (.str t) = some (s == t) := rfl
theorem afind_str (s : List UInt8) : ∀ (ks : List (List UInt8)) (n i : Nat), (s ∉ ks ∧ afind kStr (.str s) (entsF n ks) i = some none) ∨ ∃ j, ks[j]? = some s ∧ afind kStr (.str s) (entsF n ks) i = some (some (i + j))
  | [], n, i => .inl ⟨by simp, rfl⟩
  | k :: ks, n, i => by
    simp only [entsF, afind, keyEq_str]
    cases h : (s == k) with
    | true =>
      have := eq_of_beq h
      subst this
      exact .inr ⟨0, rfl, rfl⟩
    | false =>
      simp only
      rcases afind_str s ks (n + 1) (i + 1) with ⟨h1, h2⟩ | ⟨j, h1, h2⟩
      · refine .inl ⟨?_, h2⟩
        rw [List.mem_cons]
        rintro (rfl | h3)
        · simp at h
        · exact h1 h3
      · exact .inr ⟨j + 1, by simpa using h1, by rw [h2]; congr 2; omega⟩
theorem setEnt_same (s : List UInt8) : ∀ (ks : List (List UInt8)) (n j : Nat), ks[j]? = some s → setEnt (entsF n ks) j (.str s) (.bool true) = entsF n ks
  | [], n, j, h => by simp at h
  | k :: ks, n, 0, h => by simp at h; subst h; rfl
  | k :: ks, n, j + 1, h => by
    have := setEnt_same s ks (n + 1) j (by simpa using h)
    simp only [entsF, setEnt, List.modify_succ_cons] at this ⊢
    rw [this]
theorem set_self {H : Heap} {M : Nat} {b : Blk} (h : H[M]? = some b) : H.set M b = H := by
  apply List.ext_getElem?
  intro i
  rw [List.getElem?_set]
  by_cases e : M = i
  · subst e; rw [if_pos rfl, h, if_pos (List.getElem?_eq_some_iff.1 h).1]
  · rw [if_neg e]
section steps
variable {P : Program} {H G : Heap} {al : AL} {K : KL} {Qp : AL → AV → Heap → Prop} {os : List IOper} {x y : Arg}
theorem st_upd {M : Nat} {ks : List (List UInt8)} {s : List UInt8} (hx : evL al x = .map M) (hy : evL al y = .str s) (hg : H[M]? = some (MB ks)) (h : VV P os al (H.set M (MB (addK ks s))) K Qp) :
    VV P (⟨none, .i (.n (.update ⟨false, [.str]⟩)), [x, y, .const (.bool true)], none, none⟩ :: os) al H K Qp := by
  refine st_i0 (v := .top) (H' := H.set M (MB (addK ks s))) ?_ h
  have hm : mapAt H M = some (entsF 0 ks, ks.length) := by simp only [mapAt, hg, MB]
  have hk : keyOk ⟨false, [.str]⟩ (.str s) = true := rfl
  have hv : evsL al [x, y, .const (.bool true)] = [.map M, .str s, .bool true] := by
    show [evL al x, evL al y, AV.bool true] = _
    rw [hx, hy]
  show nsem (.update ⟨false, [.str]⟩) (evsL al [x, y, .const (.bool true)]) H H.length = _
  rw [hv]
  simp only [nsem, hm, hk, if_true]
  rcases afind_str s ks 0 0 with ⟨h1, h2⟩ | ⟨j, h1, h2⟩
  · have h2 : afind ⟨false, [.str]⟩ (.str s) (entsF 0 ks) 0 = some none := h2
    rw [h2]
    simp only [MB, addK, if_neg h1, entsF_append, List.length_append, List.length_singleton, Nat.zero_add]
  · have h2 : afind ⟨false, [.str]⟩ (.str s) (entsF 0 ks) 0 = some (some (0 + j)) := h2
    rw [h2]
    simp only [MB, addK, if_pos (List.mem_of_getElem? h1), Nat.zero_add, setEnt_same s ks 0 j h1]
end steps
def Upd (H : Heap) (M : Nat) (ks : List (List UInt8)) (H' : Heap) : Prop := M < H.length ∧ ∃ G, H' = H.set M (MB ks) ++ G
theorem Upd.refl {H : Heap} {M : Nat} {ks : List (List UInt8)} (h : H[M]? = some (MB ks)) : Upd H M ks H := ⟨(List.getElem?_eq_some_iff.1 h).1, [], by rw [set_self h, List.append_nil]⟩
theorem Upd.app {H H' : Heap} {M : Nat} {ks : List (List UInt8)} (h : Upd H M ks H') (G : Heap) : Upd H M ks (H' ++ G) := by obtain ⟨h0, G', rfl⟩ := h; exact ⟨h0, G' ++ G, by rw [List.append_assoc]⟩
theorem Upd.set {H H' : Heap} {M : Nat} {ks ks2 : List (List UInt8)} (h : Upd H M ks H') : Upd H M ks2 (H'.set M (MB ks2)) := by
  obtain ⟨h0, G', rfl⟩ := h
  exact ⟨h0, G', by rw [List.set_append_left _ _ (by simpa using h0), List.set_set]⟩
theorem Upd.get {H H' : Heap} {M : Nat} {ks : List (List UInt8)} (h : Upd H M ks H') : H'[M]? = some (MB ks) := by
  obtain ⟨h0, G', rfl⟩ := h
  rw [List.getElem?_append_left (by simpa using h0), List.getElem?_set, if_pos rfl, if_pos h0]
theorem Upd.old {H H' : Heap} {M id : Nat} {ks : List (List UInt8)} {b : Blk} (h : Upd H M ks H') (hne : id ≠ M) (hg : H[id]? = some b) : H'[id]? = some b := by
  obtain ⟨h0, G', rfl⟩ := h
  have := (List.getElem?_eq_some_iff.1 hg).1
  rw [List.getElem?_append_left (by simpa using this), List.getElem?_set, if_neg (fun e => hne e.symm)]; exact hg
theorem Upd.trans {H H1 H2 : Heap} {M : Nat} {ks ks2 : List (List UInt8)} (h : Upd H M ks H1) (k : Upd H1 M ks2 H2) : Upd H M ks2 H2 := by
  obtain ⟨h0, G, rfl⟩ := h
  obtain ⟨_, G2, rfl⟩ := k
  exact ⟨h0, G ++ G2, by rw [List.set_append_left _ _ (by simpa using h0), List.set_set, List.append_assoc]⟩
theorem ne_blk {H : Heap} {a M : Nat} {b c : Blk} (h1 : H[a]? = some b) (h2 : H[M]? = some c) (h : b ≠ c) : a ≠ M := by
  rintro rfl; rw [h1] at h2; injection h2 with h2; exact h h2
mutual
def symsE : Ex → List (List UInt8)
  | .mk op s _ l => (if op == 0 then [s] else []) ++ symsL l
def symsL : List Ex → List (List UInt8)
  | [] => []
  | x :: xs => symsE x ++ symsL xs
end
theorem symsL_take {l : List Ex} {i : Nat} {x : Ex} (h : l[i]? = some x) : symsL (l.take (i + 1)) = symsL (l.take i) ++ symsE x := by
  induction l generalizing i with
  | nil => simp at h
  | cons y ys ih =>
    cases i with
    | zero => simp at h; subst h; simp [symsL]
    | succ i => simp only [List.take_succ_cons, symsL]; rw [ih (by simpa using h), List.append_assoc]
theorem addAll_append (ks a b : List (List UInt8)) : addAll ks (a ++ b) = addAll (addAll ks a) b := List.foldl_append
def Gath (H : Heap) (M : Nat) (ks : List (List UInt8)) : CPost := fun r H' => r = .ret (.tuple []) ∧ Upd H M ks H'
theorem c60 (e : Ex) (he : okE e) {H : Heap} {a b M : Nat} {ks : List (List UInt8)} (ha : H[a]? = some (.cells [.map M])) (hb : H[b]? = some (.cells [.clo (.func 60) [] [.ptr a 0, .ptr b 0]])) (hM : H[M]? = some (MB ks)) :
    ACall PP 60 [enc e, .ptr a 0, .ptr b 0] H (Gath H M (addAll ks (symsE e))) := by
  match e, he with
  | .mk op s nl l, he =>
    have hs := sl_lst nl l
    have hl : (l.map enc).length = l.length := List.length_map _
    have hll := okE_l he
    have hne1 := ne_blk ha hM (by unfold MB; simp)
    have hne2 := ne_blk hb hM (by unfold MB; simp)
    rw [enc_mk]
    refine is60.c3 nonum mixed rfl ?_
    refine walk ?_
    refine wi_cut (fun al' H' => (al' = [(2, .ptr b 0), (3, .ptr (H.length + 0) 0)] ∨ al' = [(1, .ptr a 0), (2, .ptr b 0), (3, .ptr (H.length + 0) 0), (8, .bool false)]) ∧ Upd H M (addAll ks (if op == 0 then [s] else [])) H' ∧ H'[H.length + 0]? = some (.cells [.int .i64 op, .str s, lst nl l])) ?_ ?_
    · cases h0 : (op == 0)
      · refine walk ?_
        exact ⟨.inr rfl, (Upd.refl hM).app _, hp_new⟩
      · refine walk ?_
        refine st_upd rfl rfl (hp_old hM) ?_
        refine walk ?_
        refine ⟨.inl rfl, ((Upd.refl hM).app _).set, ?_⟩
        rw [List.getElem?_set, if_neg (by have := (List.getElem?_eq_some_iff.1 hM).1; omega)]
        exact hp_new
    have fin : ∀ al' H', Upd H M (addAll ks (symsE (.mk op s nl l))) H' → fpostL ic60.rs (Gath H M (addAll ks (symsE (.mk op s nl l)))) .normal al' H' := fun al' H' h => fp_n rfl ⟨rfl, h⟩
    have hsy : addAll ks (symsE (.mk op s nl l)) = addAll (addAll ks (if op == 0 then [s] else [])) (symsL l) := by simp only [symsE, addAll_append]
    generalize addAll ks (if op == 0 then [s] else []) = ks1 at *
    rw [hsy] at fin ⊢
    rintro _ H1 ⟨rfl | rfl, hU, hB⟩
    all_goals
      refine walk ?_
      refine iw_loop l.length (fun i al H' => al = [(2, .ptr b 0), (13, lst nl l), (14, .int .i64 (l.map enc).length), (15, .int .i64 i)] ∧ Upd H M (addAll ks1 (symsL (l.take i))) H') ⟨rfl, hU⟩ ?_
      clear hU hB H1
      rintro i _ H1 hi ⟨rfl, hU⟩
      refine wi_nil ?_
      refine walk ?_
      refine iw_cond _ rfl ?_ ?_ <;> intro hc
      · simp only [decide_eq_true_eq] at hc
        obtain ⟨c, hc⟩ := get_ex (l := l) (i := i) (by omega)
        have hu := getmap (f := enc) hc
        have hm := List.mem_of_getElem? hc
        have ht := symsL_take hc
        obtain ⟨op', s', nl', l'⟩ := c
        rw [enc_mk] at hu
        have ha1 := hU.old hne1 ha
        have hb1 := hU.old hne2 hb
        have ih := fun G => c60 (.mk op' s' nl' l') (okE_kid he hm) (H := H1 ++ G) (hp_old ha1) (hp_old hb1) (hp_old hU.get)
        simp only [enc_mk] at ih
        refine walk ?_
        refine st_callvq rfl is60.hasBody (ih _) ?_ ?_
        · rintro v H2 ⟨_, hU2⟩
          refine walk ?_
          refine ⟨by omega, rfl, ?_⟩
          rw [ht, addAll_append]
          exact (hU.app _).trans hU2
        · rintro v H2 ⟨h, _⟩; cases h
      · simp only [decide_eq_false_iff_not] at hc
        have : i = l.length := by omega
        subst this
        rw [List.take_length] at hU
        refine walk ?_
        exact fin _ _ (hU.app _)
termination_by SizeOf.sizeOf e
decreasing_by all_goals (subst_vars; exact mem_size (by assumption))
end Go.Ab
namespace Go.Ab
open Go
set_option maxRecDepth 100000
set_option maxHeartbeats 4000000
theorem cells_W (w : Wd) : (encW w).cells = [encW w] := by unfold encW; split <;> rfl
theorem flat_strs (l : List (List UInt8)) : flat (l.map AV.str) = l.map AV.str := by
  induction l with
  | nil => rfl
  | cons a l ih => show [AV.str a] ++ flat (l.map AV.str) = _; rw [ih]; rfl
theorem srcOf_W (w : Wd) (H : Heap) : srcOf 1 H (encW w) = some (w.l.length, w.l.map .str) := by
  obtain ⟨nl, l⟩ := w
  unfold encW
  split
  · rename_i h
    simp only [Bool.and_eq_true, List.isEmpty_iff] at h
    obtain ⟨_, rfl⟩ := h; rfl
  · simp only [srcOf, if_true, List.length_map, flat_strs]
theorem all_strs (l : List (List UInt8)) : (l.map AV.str).all AV.scalar = true := by
  rw [List.all_eq_true]; intro x hx; obtain ⟨s, _, rfl⟩ := List.mem_map.1 hx; rfl
theorem plain_W (w : Wd) : Plain (encW w) := by
  unfold encW; split
  · exact Plain.nilslice
  · exact Plain.list _ fun x hx => by obtain ⟨s, _, rfl⟩ := List.mem_map.1 hx; exact Plain.str s
section steps
variable {P : Program} {H G : Heap} {al : AL} {K : KL} {Qp : AL → AV → Heap → Prop} {os : List IOper} {d : Nat} {x y : Arg}
theorem st_idxW {i : Nat} {w : AV} {xs : List AV} {u : Wd} (hx : evL al x = w) (hs : Sl 1 w xs) (hy : evL al y = .int .i64 i) (hc : xs[i]? = some (encW u))
    (h : VV P os ((d, .cptr [encW u]) :: al) H K Qp) : VV P (⟨some d, .i (.d (.idxAddr 1)), [x, y], none, none⟩ :: os) al H K Qp := st_idx hx hs hy hc (by rw [cells_W]; exact h)
end steps
theorem c121z (H : Heap) : ACall PP 121 [.nilslice, .int .i64 0] H (Just H .nilslice) := by
  refine ACall.gives (is121.c2 nonum mixed rfl ?_)
  refine walk ?_
  refine st_i (v := .int .i64 0) rfl ?_
  refine st_mv .nilslice rfl ?_
  refine st_d (v := .int .i64 0) rfl ?_
  refine st_subi rfl rfl (by omega) (by omega) ?_
  refine st_subi rfl rfl (by omega) (by omega) ?_
  refine walk ?_
  exact fr (hp := Plain.nilslice)
theorem c121 {n : Nat} (h0 : 0 < n) (hn : n ≤ 67108864) (H : Heap) : ACall PP 121 [.nilslice, .int .i64 n] H (fun r H' => ∃ G k cs, r = .ret (.sl (H.length + k) 0 0 1) ∧ H' = H ++ G ∧ G[k]? = some (.cells cs)) := by
  have hz : decide ((n : Int) < 0) = false := by simp
  have hp : decide ((n : Int) - (0 - 0) > 0) = true := by simp; omega
  refine is121.c2 nonum mixed rfl ?_
  refine walk ?_
  refine st_i (v := .int .i64 0) rfl ?_
  refine st_mv .nilslice rfl ?_
  refine st_d (v := .int .i64 0) rfl ?_
  refine st_subi rfl rfl (by omega) (by omega) ?_
  refine st_subi rfl rfl (by omega) (by omega) ?_
  refine walk ?_
  refine st_i (v := .int .i64 0) rfl ?_
  refine st_d (v := .nilslice) rfl ?_
  refine st_mv (.int .i64 (n : Int)) (by show AV.int .i64 ((n : Int) - (0 - 0)) = _; congr 1) ?_
  refine st_i (v := .sl (H ++ []).length 0 n 1) (H' := H ++ ([] ++ [.cells (copies n [.str []])])) ?_ ?_
  · show esem (.appendZ 1 16 [.str []]) [.nilslice, .int .i64 (n : Int)] (H ++ []) (H ++ []).length = _
    simp only [esem]
    rw [if_pos ⟨by omega, by omega, by omega⟩, put_app]
    simp
  refine st_mv .nilslice rfl ?_
  refine st_d (v := .int .i64 0) rfl ?_
  refine st_d (v := .sl (H ++ []).length 0 0 1) ?_ ?_
  · show dslice 1 false true (.sl (H ++ []).length 0 n 1) [.int .i64 0] = _
    simp only [dslice, if_true, bounds]
    rw [if_pos ⟨by omega, by omega⟩]
    rfl
  refine walk ?_
  exact fp_r rfl ⟨_, 0, _, by simp; rfl, rfl, rfl⟩
theorem ends_strs {H G : Heap} {l : List (List UInt8)} : Gives H (.list 1 (l.map .str)) (.ret (.sl (H.length + G.length) 0 l.length 1)) (H ++ (G ++ [.cells (l.map .str)])) :=
  ⟨_, G ++ [.dead], rfl, .step (H.length + G.length) (l.map .str) (by rw [hp_new, List.getElem?_append_right (Nat.le_refl _), Nat.sub_self]; rfl) (sealStrs _ l)
    (by rw [set_new, List.set_append_right _ _ (Nat.le_refl _), Nat.sub_self]; exact .done _ _), Plain.list _ fun x hx => by obtain ⟨s, _, rfl⟩ := List.mem_map.1 hx; exact Plain.str s⟩
theorem c61 (a b : Wd) (hn : a.l.length + b.l.length ≤ 67108864) (H : Heap) : ACall PP 61 [.list 1 [encW a, encW b]] H (Just H (encW ⟨true, a.l ++ b.l⟩)) := by
  have hs : Sl 1 (.list 1 [encW a, encW b]) [encW a, encW b] := .list _
  have sa := sl_W a
  have sb := sl_W b
  have la : (a.l.map AV.str).length = a.l.length := List.length_map _
  have lb : (b.l.map AV.str).length = b.l.length := List.length_map _
  have g0 : ([encW a, encW b] : List AV)[0]? = some (encW a) := rfl
  have g1 : ([encW a, encW b] : List AV)[1]? = some (encW b) := rfl
  refine ACall.gives (is61.c1 nonum mixed rfl ?_)
  refine walk ?_
  have z1 : decide ((0 : Int) + ((a.l.map AV.str).length : Int) < 0) = false := by simp
  have z2 : decide ((0 : Int) + ((a.l.map AV.str).length : Int) + ((b.l.map AV.str).length : Int) < 0) = false := by simp; omega
  refine iw_loop2 (fun al H' => al = [(0, .list 1 [encW a, encW b]), (3, .int .i64 0), (9, .list 1 [encW a, encW b]), (10, .int .i64 (2 : Nat)), (11, .int .i64 (0 : Nat))] ∧ H' = H ++ [])
    (fun al H' => al = [(0, .list 1 [encW a, encW b]), (3, .int .i64 (0 + ((a.l.map AV.str).length : Int))), (9, .list 1 [encW a, encW b]), (10, .int .i64 (2 : Nat)), (11, .int .i64 (1 : Nat))] ∧ H' = H ++ [])
    (fun al H' => al = [(0, .list 1 [encW a, encW b]), (3, .int .i64 (0 + ((a.l.map AV.str).length : Int) + ((b.l.map AV.str).length : Int))), (9, .list 1 [encW a, encW b]), (10, .int .i64 (2 : Nat)), (11, .int .i64 (2 : Nat))] ∧ H' = H ++ [])
    ⟨rfl, rfl⟩ ?_ ?_ ?_
  · rintro _ _ ⟨rfl, rfl⟩
    refine walk ?_
    refine st_loadc (v := encW a) (cs := (encW a).cells) rfl (by rw [cells_W]; rfl) ?_
    refine walk ?_
    refine st_addi rfl rfl (by omega) (by omega) ?_
    refine walk ?_
    exact ⟨rfl, rfl⟩
  · rintro _ _ ⟨rfl, rfl⟩
    refine walk ?_
    refine st_loadc (v := encW b) (cs := (encW b).cells) rfl (by rw [cells_W]; rfl) ?_
    refine walk ?_
    refine st_addi rfl rfl (by omega) (by omega) ?_
    refine walk ?_
    exact ⟨rfl, rfl⟩
  rintro _ _ ⟨rfl, rfl⟩
  refine walk ?_
  by_cases h0 : a.l.length + b.l.length = 0
  · have ea : a.l = [] := List.length_eq_zero_iff.1 (by omega)
    have eb : b.l = [] := List.length_eq_zero_iff.1 (by omega)
    have e0 : (0 : Int) + ((a.l.map AV.str).length : Int) + ((b.l.map AV.str).length : Int) = 0 := by omega
    have er : encW ⟨true, a.l ++ b.l⟩ = .nilslice := by rw [ea, eb]; rfl
    have qa : ∀ H, srcOf 1 H (encW a) = some (0, []) := fun H => by rw [srcOf_W, ea]; rfl
    have qb : ∀ H, srcOf 1 H (encW b) = some (0, []) := fun H => by rw [srcOf_W, eb]; rfl
    rw [e0, er]
    refine st_call rfl (c121z _) ?_
    refine walk ?_
    refine iw_loop2 (fun al H' => al = [(6, .nilslice), (25, .list 1 [encW a, encW b]), (26, .int .i64 (2 : Nat)), (27, .int .i64 (0 : Nat))] ∧ H' = H ++ [])
      (fun al H' => al = [(6, .nilslice), (25, .list 1 [encW a, encW b]), (26, .int .i64 (2 : Nat)), (27, .int .i64 (1 : Nat))] ∧ H' = H ++ [])
      (fun al H' => al = [(6, .nilslice), (25, .list 1 [encW a, encW b]), (26, .int .i64 (2 : Nat)), (27, .int .i64 (2 : Nat))] ∧ H' = H ++ [])
      ⟨rfl, rfl⟩ ?_ ?_ ?_
    · rintro _ _ ⟨rfl, rfl⟩
      refine walk ?_
      refine st_loadc (v := encW a) (cs := (encW a).cells) rfl (by rw [cells_W]; rfl) ?_
      refine walk ?_
      refine st_app00 (ys := []) rfl (qa _) rfl ?_
      refine walk ?_
      exact ⟨rfl, rfl⟩
    · rintro _ _ ⟨rfl, rfl⟩
      refine walk ?_
      refine st_loadc (v := encW b) (cs := (encW b).cells) rfl (by rw [cells_W]; rfl) ?_
      refine walk ?_
      refine st_app00 (ys := []) rfl (qb _) rfl ?_
      refine walk ?_
      exact ⟨rfl, rfl⟩
    rintro _ _ ⟨rfl, rfl⟩
    refine walk ?_
    exact fr (hp := Plain.nilslice)
  · have e0 : (0 : Int) + ((a.l.map AV.str).length : Int) + ((b.l.map AV.str).length : Int) = ((a.l.length + b.l.length : Nat) : Int) := by omega
    have er : encW ⟨true, a.l ++ b.l⟩ = .list 1 ((a.l ++ b.l).map .str) := by
      unfold encW
      rw [if_neg]
      intro h
      simp only [Bool.and_eq_true, List.isEmpty_iff, List.append_eq_nil_iff] at h
      rw [h.2.1, h.2.2] at h0; simp at h0
    rw [e0, er]
    refine st_callq rfl (c121 (by omega) hn _) ?_ ?_
    case refine_2 => rintro v H' ⟨G, k, cs, h, _⟩; cases h
    rintro v H' ⟨G, k, cs, h, rfl, hk⟩
    injection h with h; subst h
    rw [List.append_nil]
    refine walk ?_
    refine iw_loop2 (fun al H' => al = [(6, .sl (H.length + k) 0 0 1), (25, .list 1 [encW a, encW b]), (26, .int .i64 (2 : Nat)), (27, .int .i64 (0 : Nat))] ∧ H' = H ++ G)
      (fun al H' => al = [(6, .sl (H.length + (G.set k .dead).length) 0 (0 + a.l.length) 1), (25, .list 1 [encW a, encW b]), (26, .int .i64 (2 : Nat)), (27, .int .i64 (1 : Nat))] ∧ H' = H ++ (G.set k .dead ++ [.cells (a.l.map .str)]))
      (fun al H' => al = [(6, .sl (H.length + ((G.set k .dead ++ [.dead] : Heap)).length) 0 (a.l ++ b.l).length 1), (25, .list 1 [encW a, encW b]), (26, .int .i64 (2 : Nat)), (27, .int .i64 (2 : Nat))] ∧ H' = H ++ ((G.set k .dead ++ [.dead]) ++ [.cells ((a.l ++ b.l).map .str)]))
      ⟨rfl, rfl⟩ ?_ ?_ ?_
    · rintro _ _ ⟨rfl, rfl⟩
      refine walk ?_
      refine st_loadc (v := encW a) (cs := (encW a).cells) rfl (by rw [cells_W]; rfl) ?_
      refine walk ?_
      refine st_app (i := k) (off := 0) (k := 0) (n := (G.set k .dead).length) rfl hk (by omega) (srcOf_W a _) (all_strs _) (by omega) (by simp) rfl ?_
      refine walk ?_
      exact ⟨rfl, by simp⟩
    · rintro _ _ ⟨rfl, rfl⟩
      refine walk ?_
      refine st_loadc (v := encW b) (cs := (encW b).cells) rfl (by rw [cells_W]; rfl) ?_
      refine walk ?_
      refine st_app (i := (G.set k .dead).length) (off := 0) (k := 0 + a.l.length) (n := ((G.set k .dead ++ [.dead] : Heap)).length) rfl (by rw [List.getElem?_append_right (Nat.le_refl _), Nat.sub_self]; rfl) (by simp) (srcOf_W b _) (all_strs _) (by omega) (by simp) rfl ?_
      refine walk ?_
      refine ⟨by simp; rfl, ?_⟩
      rw [List.set_append_right _ _ (Nat.le_refl _), Nat.sub_self]
      simp
      exact List.take_of_length_le (by simp)
    rintro _ _ ⟨rfl, rfl⟩
    refine walk ?_
    exact fp_r rfl ends_strs
end Go.Ab
namespace Go.Ab
open Go
set_option maxRecDepth 100000
set_option maxHeartbeats 8000000
theorem Upd.base {H G H' : Heap} {M : Nat} {ks : List (List UInt8)} (h : Upd (H ++ G) M ks H') (hM : M < H.length) : Upd H M ks H' := by
  obtain ⟨_, G', rfl⟩ := h
  exact ⟨hM, G ++ G', by rw [List.set_append_left _ _ hM, List.append_assoc]⟩
theorem sealW (id : Nat) (a b : Wd) : SealR id [encW a, encW b] (.sl id 0 2 1) (.list 1 [encW a, encW b]) := by
  refine .sl 0 2 1 [encW a, encW b] rfl (fun x hx => ?_) ?_ (by simp)
  · rcases List.mem_cons.1 hx with rfl | hx
    · rw [cells_W]; rfl
    · rw [List.mem_singleton.1 hx, cells_W]; rfl
  · show (encW a).cells ++ ((encW b).cells ++ []) = _
    rw [cells_W, cells_W]; rfl
def occP (l : List Pr) : List (List UInt8) := l.flatMap fun p => p.a.l ++ p.b.l
def occL (l : List Pl) : List (List UInt8) := l.flatMap fun p => symsE p.1 ++ symsE p.2
def occR (r : Ru) : List (List UInt8) := occP r.pairs ++ occL r.places
theorem take_succ_get {α : Type} {l : List α} {i : Nat} {c : α} (h : l[i]? = some c) : l.take (i + 1) = l.take i ++ [c] := by
  rw [List.take_add_one, h]; rfl
structure okR2 (r : Ru) : Prop where
  ok : okR r
  ps : ∀ p ∈ r.pairs, p.a.l.length + p.b.l.length ≤ 67108864
theorem c26 (r : Ru) (hr : okR2 r) {H : Heap} {M : Nat} {ks : List (List UInt8)} (hM : H[M]? = some (MB ks)) : ACall PP 26 [encR r, .map M] H (Gath H M (addAll ks (occR r))) := by
  obtain ⟨kind, pn, pairs, ln, places, below⟩ := r
  obtain ⟨⟨hnp, hnl, hps, hls⟩, hpl⟩ := hr
  simp only at hnp hnl hps hls hpl
  have hsp := sl_Ps pn pairs
  have hsl := sl_Ls ln places
  have hlp : (pairs.map encP).length = pairs.length := List.length_map _
  have hll : (places.map encPl).length = places.length := List.length_map _
  have hMl := (List.getElem?_eq_some_iff.1 hM).1
  unfold encR
  refine is26.c2 nonum mixed rfl ?_
  refine walk ?_
  refine st_mkf (vs := [.ptr (H.length + 1) 0, .ptr (H.length + 2) 0]) rfl ?_
  refine walk ?_
  have fin : ∀ al' H', Upd H M (addAll ks (occR ⟨kind, pn, pairs, ln, places, below⟩)) H' → fpostL ic26.rs (Gath H M (addAll ks (occR ⟨kind, pn, pairs, ln, places, below⟩))) .normal al' H' := fun al' H' h => fp_n rfl ⟨rfl, h⟩
  have hocc : addAll ks (occR ⟨kind, pn, pairs, ln, places, below⟩) = addAll (addAll ks (occP pairs)) (occL places) := by simp only [occR, addAll_append]
  rw [hocc] at fin ⊢
  have h1 : (H ++ [.cells [.int .i64 kind, encPs pn pairs, encLs ln places, .bool below], .cells [.map M], .cells [.clo (.func 60) [] [.ptr (H.length + 1) 0, .ptr (H.length + 2) 0]]])[H.length + 1]? = some (.cells [.map M]) := hp_new
  have h2 : (H ++ [.cells [.int .i64 kind, encPs pn pairs, encLs ln places, .bool below], .cells [.map M], .cells [.clo (.func 60) [] [.ptr (H.length + 1) 0, .ptr (H.length + 2) 0]]])[H.length + 2]? = some (.cells [.clo (.func 60) [] [.ptr (H.length + 1) 0, .ptr (H.length + 2) 0]]) := hp_new
  have hM0 : (H ++ [.cells [.int .i64 kind, encPs pn pairs, encLs ln places, .bool below], .cells [.map M], .cells [.clo (.func 60) [] [.ptr (H.length + 1) 0, .ptr (H.length + 2) 0]]])[M]? = some (MB ks) := hp_old hM
  have hbase : ∀ {ks' H'}, Upd (H ++ [.cells [.int .i64 kind, encPs pn pairs, encLs ln places, .bool below], .cells [.map M], .cells [.clo (.func 60) [] [.ptr (H.length + 1) 0, .ptr (H.length + 2) 0]]]) M ks' H' → Upd H M ks' H' := fun h => h.base hMl
  have hU0 := Upd.refl hM0
  refine iw_loop pairs.length (fun i al H' => al = [(2, .ptr (H.length + 0) 0), (3, .ptr (H.length + 1) 0), (4, .ptr (H.length + 2) 0), (13, encPs pn pairs), (14, .int .i64 (pairs.map encP).length), (15, .int .i64 i)] ∧
    Upd (H ++ [.cells [.int .i64 kind, encPs pn pairs, encLs ln places, .bool below], .cells [.map M], .cells [.clo (.func 60) [] [.ptr (H.length + 1) 0, .ptr (H.length + 2) 0]]]) M (addAll ks (occP (pairs.take i))) H') ⟨rfl, hU0⟩ ?_
  have h0 : (H ++ [.cells [.int .i64 kind, encPs pn pairs, encLs ln places, .bool below], .cells [.map M], .cells [.clo (.func 60) [] [.ptr (H.length + 1) 0, .ptr (H.length + 2) 0]]])[H.length + 0]? = some (.cells [.int .i64 kind, encPs pn pairs, encLs ln places, .bool below]) := hp_new
  have hn0 := ne_blk h0 hM0 (by unfold MB; simp)
  have hn1 := ne_blk h1 hM0 (by unfold MB; simp)
  have hn2 := ne_blk h2 hM0 (by unfold MB; simp)
  generalize (H ++ [.cells [.int .i64 kind, encPs pn pairs, encLs ln places, .bool below], .cells [.map M], .cells [.clo (.func 60) [] [.ptr (H.length + 1) 0, .ptr (H.length + 2) 0]]] : Heap) = H0 at *
  clear hM hMl hU0
  rintro i _ H1 hi ⟨rfl, hU⟩
  refine wi_nil ?_
  refine walk ?_
  refine iw_cond _ rfl ?_ ?_ <;> intro hc
  · simp only [decide_eq_true_eq] at hc
    obtain ⟨c, hc⟩ := get_ex (l := pairs) (i := i) (by omega)
    have hu : (pairs.map encP)[i]? = some (.agg [encW c.a, encW c.b]) := getmap (f := encP) hc
    have hok := hps c (List.mem_of_getElem? hc)
    have ht : addAll ks (occP (pairs.take (i + 1))) = addAll (addAll ks (occP (pairs.take i))) (c.a.l ++ c.b.l) := by
      rw [take_succ_get hc, occP, List.flatMap_append, addAll_append]
      simp [occP]
    have k61 := fun H => c61 c.a c.b (hpl c (List.mem_of_getElem? hc)) H
    rw [ht]
    generalize addAll ks (occP (pairs.take i)) = ks1 at *
    refine walk ?_
    refine st_storeW (n := 0) (ws := [encW c.a, encW c.b]) rfl rfl rfl rfl rfl all_W rfl ?_
    refine walk ?_
    refine st_slice (out := [encW c.a, encW c.b]) fill2W rfl rfl ?_
    refine st_callS (n := 1) (G' := [.cells [encW c.a, encW c.b], .dead]) (cs := [encW c.a, encW c.b]) (args := [.sl (H1.length + 1) 0 2 1]) (args' := [.list 1 [encW c.a, encW c.b]]) ?_ ?_ ?_ (seal1 (sealW (H1.length + 1) c.a c.b)) ?_ (k61 _) ?_
    · rfl
    · rfl
    · rfl
    · rfl
    have sv := sl_W ⟨true, c.a.l ++ c.b.l⟩
    have hlv : ((c.a.l ++ c.b.l).map AV.str).length = (c.a.l ++ c.b.l).length := List.length_map _
    have hlen : (c.a.l ++ c.b.l).length ≤ 67108864 := by rw [List.length_append]; exact hpl c (List.mem_of_getElem? hc)
    simp only at sv
    generalize encW ⟨true, c.a.l ++ c.b.l⟩ = v at *
    generalize c.a.l ++ c.b.l = w at *
    refine walk ?_
    refine iw_loop w.length (fun k al H' => al = [(2, .ptr (H.length + 0) 0), (3, .ptr (H.length + 1) 0), (4, .ptr (H.length + 2) 0), (13, encPs pn pairs), (14, .int .i64 (pairs.map encP).length), (15, .int .i64 i), (24, v), (25, .int .i64 (w.map AV.str).length), (26, .int .i64 k)] ∧
      Upd H0 M (addAll ks1 (w.take k)) H') ⟨rfl, hU.app _⟩ ?_
    clear hU H1
    rintro k _ H1 hk ⟨rfl, hU⟩
    refine walk ?_
    refine iw_cond _ rfl ?_ ?_ <;> intro hck
    · simp only [decide_eq_true_eq] at hck
      obtain ⟨s, hs⟩ := get_ex (l := w) (i := k) (by omega)
      have hsu := getmap (f := AV.str) hs
      have hA := hU.old hn1 h1
      refine walk ?_
      refine st_upd rfl rfl hU.get ?_
      refine walk ?_
      refine ⟨by omega, rfl, ?_⟩
      rw [take_succ_get hs, addAll_append]
      exact hU.set
    · simp only [decide_eq_false_iff_not] at hck
      have : k = w.length := by omega
      subst this
      rw [List.take_length] at hU
      refine walk ?_
      exact ⟨by omega, rfl, hU⟩
  simp only [decide_eq_false_iff_not] at hc
  have : i = pairs.length := by omega
  subst this
  rw [List.take_length] at hU
  clear hc hi
  generalize addAll ks (occP pairs) = ks1 at *
  have hB := hU.old hn0 h0
  refine walk ?_
  refine iw_loop places.length (fun i al H' => al = [(4, .ptr (H.length + 2) 0), (35, encLs ln places), (36, .int .i64 (places.map encPl).length), (37, .int .i64 i)] ∧ Upd H0 M (addAll ks1 (occL (places.take i))) H') ⟨rfl, hU.app _⟩ ?_
  clear hU hB H1
  rintro i _ H1 hi ⟨rfl, hU⟩
  refine wi_nil ?_
  refine walk ?_
  refine iw_cond _ rfl ?_ ?_ <;> intro hc
  · simp only [decide_eq_true_eq] at hc
    obtain ⟨c, hc⟩ := get_ex (l := places) (i := i) (by omega)
    have ht : addAll ks1 (occL (places.take (i + 1))) = addAll (addAll (addAll ks1 (occL (places.take i))) (symsE c.1)) (symsE c.2) := by
      rw [take_succ_get hc, occL, List.flatMap_append, addAll_append]
      simp only [List.flatMap_cons, List.flatMap_nil, List.append_nil, addAll_append]
      rfl
    have hok := hls _ (List.mem_of_getElem? hc)
    have k1 := fun (X : Heap) (ks : List (List UInt8)) ha hb hM => c60 c.1 hok.1 (H := X) (a := H.length + 1) (b := H.length + 2) (M := M) (ks := ks) ha hb hM
    have k2 := fun (X : Heap) (ks : List (List UInt8)) ha hb hM => c60 c.2 hok.2 (H := X) (a := H.length + 1) (b := H.length + 2) (M := M) (ks := ks) ha hb hM
    rw [ht]
    generalize symsE c.1 = y1 at *
    generalize symsE c.2 = y2 at *
    generalize addAll ks1 (occL (places.take i)) = ks2 at *
    obtain ⟨⟨o1, s1, n1, l1⟩, ⟨o2, s2, n2, l2⟩⟩ := c
    have hu : (places.map encPl)[i]? = some (.agg [.int .i64 o1, .str s1, lst n1 l1, .int .i64 o2, .str s2, lst n2 l2]) := getmap (f := encPl) hc
    simp only [enc_mk] at k1 k2
    have hA := hU.old hn1 h1
    have hC := hU.old hn2 h2
    refine walk ?_
    refine st_storeW (n := 0) (ws := [.int .i64 o1, .str s1, lst n1 l1, .int .i64 o2, .str s2, lst n2 l2]) rfl rfl rfl rfl rfl all_Pl rfl ?_
    refine walk ?_
    refine st_callvq rfl is60.hasBody (k1 _ ks2 (hp_old hA) (hp_old hC) (hp_old hU.get)) ?_ ?_
    case refine_2 => rintro v H2 ⟨h, _⟩; cases h
    rintro v H2 ⟨_, hU2⟩
    have hU3 := (hU.app _).trans hU2
    have hA3 := hU3.old hn1 h1
    have hC3 := hU3.old hn2 h2
    have hX : H2[H1.length + 0]? = some (.cells [.int .i64 o1, .str s1, lst n1 l1, .int .i64 o2, .str s2, lst n2 l2]) := hU2.old (by have := (List.getElem?_eq_some_iff.1 hU.get).1; omega) hp_new
    refine walk ?_
    refine st_callvq rfl is60.hasBody (k2 _ _ hA3 hC3 hU3.get) ?_ ?_
    case refine_2 => rintro v H2 ⟨h, _⟩; cases h
    rintro v H3 ⟨_, hU4⟩
    refine walk ?_
    exact ⟨by omega, rfl, hU3.trans hU4⟩
  simp only [decide_eq_false_iff_not] at hc
  have : i = places.length := by omega
  subst this
  rw [List.take_length] at hU
  refine walk ?_
  exact fin _ _ (hbase (hU.app _))
end Go.Ab
namespace Go.Ab
open Go
set_option maxRecDepth 100000
set_option maxHeartbeats 8000000
def formR2 (r : Ru) : Bool := decide (r.kind < 0) || decide (r.kind > 3) || ((r.pairs.length : Int) == 0) || (r.below && (r.kind != 2) && (r.kind != 3))
def vrule2 (r : Ru) : Int :=
  if decide ((r.pairs.length : Int) > 24) || decide ((r.places.length : Int) > 24) then 3 else if r.pairs.any longP then 3 else
  if perr r.pairs != 0 then perr r.pairs else if lerr vexpr2 r.places != 0 then lerr vexpr2 r.places else if formR2 r then 1 else if r.places.any oddPl then 1 else if twice r.pairs then 1 else 0
theorem c16 (r : Ru) (hr : okR r) (H : Heap) : ACall PP 16 [encR r] H (Just H (.int .i64 (vrule2 r))) := by
  obtain ⟨kind, pn, pairs, ln, places, below⟩ := r
  obtain ⟨hnp, hnl, hps, hls⟩ := hr
  simp only at hnp hnl hps hls
  have hsp := sl_Ps pn pairs
  have hsl := sl_Ls ln places
  have hlp : (pairs.map encP).length = pairs.length := List.length_map _
  have hll : (places.map encPl).length = places.length := List.length_map _
  have e1 : ∀ k : Int, decide (((pairs.map encP).length : Int) > k) = decide ((pairs.length : Int) > k) := fun k => by rw [hlp]
  have e2 : ∀ k : Int, decide (((places.map encPl).length : Int) > k) = decide ((places.length : Int) > k) := fun k => by rw [hll]
  have e3 : (((pairs.map encP).length : Int) == 0) = ((pairs.length : Int) == 0) := by rw [hlp]
  have hv : vrule2 ⟨kind, pn, pairs, ln, places, below⟩ = if decide ((pairs.length : Int) > 24) || decide ((places.length : Int) > 24) then 3 else if pairs.any longP then 3 else
      if perr pairs != 0 then perr pairs else if lerr vexpr2 places != 0 then lerr vexpr2 places else if formR2 ⟨kind, pn, pairs, ln, places, below⟩ then 1 else if places.any oddPl then 1 else if twice pairs then 1 else 0 := rfl
  refine ACall.gives (is16.c1 nonum mixed rfl ?_)
  unfold encR
  rw [hv]
  refine walk ?_
  rw [e1]
  refine vv_cut [(1, .ptr (H.length + 0) 0), (22, .bool (decide ((pairs.length : Int) > 24) || decide ((places.length : Int) > 24)))] (H ++ [.cells [.int .i64 kind, encPs pn pairs, encLs ln places, .bool below]]) ?_ ?_
  · cases h1 : decide ((pairs.length : Int) > 24)
    · refine walk ?_
      rw [e2]
      refine walk ?_
      exact vv_end rfl rfl
    · refine walk ?_
      exact vv_end rfl rfl
  refine nx_n ?_
  refine iw_cond _ rfl ?_ ?_ <;> intro h1
  · rw [h1]
    refine walk ?_
    exact fr
  rw [h1]
  refine walk ?_
  refine iw_loop pairs.length (fun i al H' => al = [(1, .ptr (H.length + 0) 0), (3, .int .i64 i)] ∧ Ext H H' ∧
    H'[H.length + 0]? = some (.cells [.int .i64 kind, encPs pn pairs, encLs ln places, .bool below]) ∧ (pairs.take i).any longP = false) ⟨rfl, ⟨_, rfl⟩, hp_new, by simp⟩ ?_
  rintro i _ H1 hi ⟨rfl, hx, hb, ha⟩
  refine walk ?_
  refine iw_cond _ rfl ?_ ?_ <;> intro hc
  · simp only [decide_eq_true_eq] at hc
    obtain ⟨c, hc⟩ := get_ex (l := pairs) (i := i) (by omega)
    have hu : (pairs.map encP)[i]? = some (.agg [encW c.a, encW c.b]) := getmap (f := encP) hc
    have ht := any_take_succ (p := longP) hc
    have hany := any_of_get (p := longP) hc
    have s1 := sl_W c.a
    have s2 := sl_W c.b
    have l1 : ∀ k : Int, decide (((c.a.l.map AV.str).length : Int) > k) = decide ((c.a.l.length : Int) > k) := fun k => by rw [List.length_map]
    have l2 : ∀ k : Int, decide (((c.b.l.map AV.str).length : Int) > k) = decide ((c.b.l.length : Int) > k) := fun k => by rw [List.length_map]
    refine walk ?_
    rw [l1]
    cases h2 : decide ((c.a.l.length : Int) > 6)
    · refine walk ?_
      rw [l2]
      cases h3 : decide ((c.b.l.length : Int) > 60)
      · refine walk ?_
        exact ⟨by omega, rfl, hx, hb, by rw [ht, ha]; simp only [longP, h2, h3]; rfl⟩
      · rw [hany (by simp only [longP, h2, h3]; rfl)]
        refine walk ?_
        exact fp_r rfl (ends_ext hx (Plain.int _ _))
    · rw [hany (by simp only [longP, h2]; rfl)]
      refine walk ?_
      exact fp_r rfl (ends_ext hx (Plain.int _ _))
  simp only [decide_eq_false_iff_not] at hc
  have : i = pairs.length := by omega
  subst this
  rw [List.take_length] at ha
  rw [ha]
  clear hc hi ha
  refine walk ?_
  refine iw_loop pairs.length (fun i al H' => al = [(1, .ptr (H.length + 0) 0), (4, .int .i64 i)] ∧ Ext H H' ∧
    H'[H.length + 0]? = some (.cells [.int .i64 kind, encPs pn pairs, encLs ln places, .bool below]) ∧ perr pairs = perr (pairs.drop i)) ⟨rfl, hx, hb, rfl⟩ ?_
  clear hx hb H1
  rintro i _ H1 hi ⟨rfl, hx, hb, ha⟩
  refine walk ?_
  refine iw_cond _ rfl ?_ ?_ <;> intro hc
  · simp only [decide_eq_true_eq] at hc
    obtain ⟨c, hc⟩ := get_ex (l := pairs) (i := i) (by omega)
    have hu : (pairs.map encP)[i]? = some (.agg [encW c.a, encW c.b]) := getmap (f := encP) hc
    have hok := hps c (List.mem_of_getElem? hc)
    rw [drop_get hc] at ha
    simp only [perr] at ha
    have k1 := fun H => c42 (sl_W c.a) hok.1 H
    have k2 := fun H => c42 (sl_W c.b) hok.2 H
    generalize vword c.a.l = v1 at *
    generalize vword c.b.l = v2 at *
    refine walk ?_
    refine st_call rfl (k1 _) ?_
    refine walk ?_
    refine iw_cond _ rfl ?_ ?_ <;> intro h1
    · rw [ha, if_pos h1, if_pos h1]
      refine walk ?_
      exact fp_r rfl (ends_ext hx (Plain.int _ _))
    rw [if_neg (by simpa using h1)] at ha
    refine walk ?_
    refine st_call rfl (k2 _) ?_
    refine walk ?_
    refine iw_cond _ rfl ?_ ?_ <;> intro h2
    · rw [ha, if_pos h2, if_pos h2]
      refine walk ?_
      exact fp_r rfl (ends_ext hx (Plain.int _ _))
    rw [if_neg (by simpa using h2)] at ha
    refine walk ?_
    exact ⟨by omega, rfl, hx, hb, ha⟩
  simp only [decide_eq_false_iff_not] at hc
  have : i = pairs.length := by omega
  subst this
  rw [List.drop_length] at ha
  rw [ha]
  clear hc hi ha
  refine walk ?_
  refine iw_loop places.length (fun i al H' => al = [(1, .ptr (H.length + 0) 0), (7, .int .i64 i)] ∧ Ext H H' ∧
    H'[H.length + 0]? = some (.cells [.int .i64 kind, encPs pn pairs, encLs ln places, .bool below]) ∧ lerr vexpr2 places = lerr vexpr2 (places.drop i)) ⟨rfl, hx, hb, rfl⟩ ?_
  clear hx hb H1
  rintro i _ H1 hi ⟨rfl, hx, hb, ha⟩
  refine walk ?_
  refine iw_cond _ rfl ?_ ?_ <;> intro hc
  · simp only [decide_eq_true_eq] at hc
    obtain ⟨c, hc⟩ := get_ex (l := places) (i := i) (by omega)
    obtain ⟨⟨o1, s1, n1, l1⟩, ⟨o2, s2, n2, l2⟩⟩ := c
    have hu : (places.map encPl)[i]? = some (.agg [.int .i64 o1, .str s1, lst n1 l1, .int .i64 o2, .str s2, lst n2 l2]) := getmap (f := encPl) hc
    have hok := hls _ (List.mem_of_getElem? hc)
    rw [drop_get hc] at ha
    simp only [lerr] at ha
    have k1 := fun H => c43 (.mk o1 s1 n1 l1) hok.1 H
    have k2 := fun H => c43 (.mk o2 s2 n2 l2) hok.2 H
    simp only [enc_mk] at k1 k2
    generalize vexpr2 (.mk o1 s1 n1 l1) = v1 at *
    generalize vexpr2 (.mk o2 s2 n2 l2) = v2 at *
    refine walk ?_
    refine st_call rfl (k1 _) ?_
    refine walk ?_
    refine iw_cond _ rfl ?_ ?_ <;> intro h1
    · rw [ha, if_pos h1, if_pos h1]
      refine walk ?_
      exact fp_r rfl (ends_ext hx (Plain.int _ _))
    rw [if_neg (by simpa using h1)] at ha
    refine walk ?_
    refine st_call rfl (k2 _) ?_
    refine walk ?_
    refine iw_cond _ rfl ?_ ?_ <;> intro h2
    · rw [ha, if_pos h2, if_pos h2]
      refine walk ?_
      exact fp_r rfl (ends_ext hx (Plain.int _ _))
    rw [if_neg (by simpa using h2)] at ha
    refine walk ?_
    exact ⟨by omega, rfl, hx, hb, ha⟩
  simp only [decide_eq_false_iff_not] at hc
  have : i = places.length := by omega
  subst this
  rw [List.drop_length] at ha
  rw [ha]
  clear hc hi ha
  refine walk ?_
  refine vv_cutE [(1, .ptr (H.length + 0) 0), (129, .bool (formR2 ⟨kind, pn, pairs, ln, places, below⟩))] (fun h => Ext H h ∧ h[H.length + 0]? = some (.cells [.int .i64 kind, encPs pn pairs, encLs ln places, .bool below])) ?_ ?_
  · have hf : ∀ b, (decide (kind < 0) || decide (kind > 3) || ((pairs.length : Int) == 0) || (below && (kind != 2) && (kind != 3))) = b → formR2 ⟨kind, pn, pairs, ln, places, below⟩ = b := fun b h => h
    cases h2 : decide (kind < 0)
    · refine walk ?_
      cases h3 : decide (kind > 3)
      · refine walk ?_
        rw [e3]
        cases h4 : ((pairs.length : Int) == 0)
        · refine walk ?_
          cases below
          · rw [hf false (by rw [h2, h3, h4]; rfl)]
            refine walk ?_
            exact vv_endE rfl ⟨hx, hb⟩
          · refine walk ?_
            cases h5 : (kind != 2)
            · rw [hf false (by rw [h2, h3, h4, h5]; rfl)]
              refine walk ?_
              exact vv_endE rfl ⟨hx, hb⟩
            · rw [hf (kind != 3) (by rw [h2, h3, h4, h5]; simp)]
              refine walk ?_
              exact vv_endE rfl ⟨hx, hb⟩
        · rw [hf true (by rw [h4]; simp)]
          refine walk ?_
          exact vv_endE rfl ⟨hx, hb⟩
      · rw [hf true (by rw [h3]; simp)]
        refine walk ?_
        exact vv_endE rfl ⟨hx, hb⟩
    · rw [hf true (by rw [h2]; rfl)]
      refine walk ?_
      exact vv_endE rfl ⟨hx, hb⟩
  clear hx hb H1
  rintro H1 ⟨hx, hb⟩
  refine nx_n ?_
  refine iw_cond _ rfl ?_ ?_ <;> intro hfo
  · rw [hfo]
    refine walk ?_
    exact fp_r rfl (ends_ext hx (Plain.int _ _))
  rw [hfo]
  refine walk ?_
  refine iw_loop places.length (fun i al H' => al = [(1, .ptr (H.length + 0) 0), (10, .int .i64 i)] ∧ Ext H H' ∧
    H'[H.length + 0]? = some (.cells [.int .i64 kind, encPs pn pairs, encLs ln places, .bool below]) ∧ (places.take i).any oddPl = false) ⟨rfl, hx, hb, by simp⟩ ?_
  clear hx hb H1
  rintro i _ H1 hi ⟨rfl, hx, hb, ha⟩
  refine walk ?_
  refine iw_cond _ rfl ?_ ?_ <;> intro hc
  · simp only [decide_eq_true_eq] at hc
    obtain ⟨c, hc⟩ := get_ex (l := places) (i := i) (by omega)
    have ht := any_take_succ (p := oddPl) hc
    have hany := any_of_get (p := oddPl) hc
    have hok := hls _ (List.mem_of_getElem? hc)
    have k1 := fun H => c44 c.1 hok.1 H
    have k2 := fun H => c44 c.2 hok.2 H
    have ho : oddPl c = (c.1.odd || c.2.odd) := rfl
    generalize oddPl c = q at *
    generalize c.1.odd = q1 at *
    generalize c.2.odd = q2 at *
    obtain ⟨⟨o1, s1, n1, l1⟩, ⟨o2, s2, n2, l2⟩⟩ := c
    have hu : (places.map encPl)[i]? = some (.agg [.int .i64 o1, .str s1, lst n1 l1, .int .i64 o2, .str s2, lst n2 l2]) := getmap (f := encPl) hc
    simp only [enc_mk] at k1 k2
    refine walk ?_
    refine st_call rfl (k1 _) ?_
    refine walk ?_
    cases q1
    · refine walk ?_
      refine st_call rfl (k2 _) ?_
      refine walk ?_
      cases q2
      · refine walk ?_
        exact ⟨by omega, rfl, hx, hb, by rw [ht, ha, ho]; rfl⟩
      · rw [hany ho]
        refine walk ?_
        exact fp_r rfl (ends_ext hx (Plain.int _ _))
    · rw [hany ho]
      refine walk ?_
      exact fp_r rfl (ends_ext hx (Plain.int _ _))
  simp only [decide_eq_false_iff_not] at hc
  have : i = places.length := by omega
  subst this
  rw [List.take_length] at ha
  rw [ha]
  clear hc hi ha
  refine walk ?_
  refine iw_loop pairs.length (fun i al H' => al = [(1, .ptr (H.length + 0) 0), (11, .int .i64 i)] ∧ Ext H H' ∧
    H'[H.length + 0]? = some (.cells [.int .i64 kind, encPs pn pairs, encLs ln places, .bool below]) ∧ ∀ k, k < i → twiceAt pairs k = false) ⟨rfl, hx, hb, by omega⟩ ?_
  clear hx hb H1
  rintro i _ H1 hi ⟨rfl, hx, hb, ha⟩
  refine walk ?_
  refine iw_cond _ rfl ?_ ?_ <;> intro hc
  · simp only [decide_eq_true_eq] at hc
    obtain ⟨c, hc⟩ := get_ex (l := pairs) (i := i) (by omega)
    have hm := List.mem_of_getElem? hc
    have hu : (pairs.map encP)[i]? = some (.agg [encW c.a, encW c.b]) := getmap (f := encP) hc
    have hok := hps c hm
    have ht : twiceAt pairs i = ((c.a.l == []) || (pairs.take i).any (sameP c)) := by simp only [twiceAt, hc]
    have htw : twiceAt pairs i = true → twice pairs = true := fun h => List.any_eq_true.2 ⟨i, List.mem_range.2 (by omega), h⟩
    have e0 : (((c.a.l.map AV.str).length : Int) == 0) = (c.a.l == []) := by
      cases c.a.l <;> simp
      omega
    have hsW := sl_W c.a
    refine walk ?_
    rw [e0]
    refine iw_cond _ rfl ?_ ?_ <;> intro h1
    · rw [htw (by rw [ht, h1]; rfl)]
      refine walk ?_
      exact fp_r rfl (ends_ext hx (Plain.int _ _))
    refine walk ?_
    refine iw_loop i (fun k al H' => al = [(1, .ptr (H.length + 0) 0), (11, .int .i64 i), (12, .int .i64 k)] ∧ Ext H H' ∧
      H'[H.length + 0]? = some (.cells [.int .i64 kind, encPs pn pairs, encLs ln places, .bool below]) ∧ (pairs.take k).any (sameP c) = false) ⟨rfl, hx, hb, by simp⟩ ?_
    clear hx hb H1
    rintro k _ H1 hk ⟨rfl, hx, hb, hs⟩
    refine walk ?_
    refine iw_cond _ rfl ?_ ?_ <;> intro hck
    · simp only [decide_eq_true_eq] at hck
      obtain ⟨q, hq⟩ := get_ex (l := pairs) (i := k) (by omega)
      have hqu : (pairs.map encP)[k]? = some (.agg [encW q.a, encW q.b]) := getmap (f := encP) hq
      have htk := any_take_succ (p := sameP c) hq
      have hin : sameP c q = true → (pairs.take i).any (sameP c) = true := by
        intro h
        refine List.any_eq_true.2 ⟨q, ?_, h⟩
        rw [List.mem_iff_getElem?]
        exact ⟨k, by rw [List.getElem?_take_of_lt (by omega)]; exact hq⟩
      have k1 := fun H => c17 (sl_W c.a) (sl_W q.a) hok.1.1 H
      have k2 := fun H => c17 (sl_W c.b) (sl_W q.b) hok.2.1 H
      have hsd : sameP c q = ((c.a.l == q.a.l) && (c.b.l == q.b.l)) := rfl
      generalize (c.a.l == q.a.l) = b1 at *
      generalize (c.b.l == q.b.l) = b2 at *
      generalize sameP c q = b at *
      refine walk ?_
      refine st_call rfl (k1 _) ?_
      refine walk ?_
      cases b1
      · refine walk ?_
        exact ⟨by omega, rfl, hx, hb, by rw [htk, hs, hsd]; rfl⟩
      · refine walk ?_
        refine st_call rfl (k2 _) ?_
        refine walk ?_
        cases b2
        · refine walk ?_
          exact ⟨by omega, rfl, hx, hb, by rw [htk, hs, hsd]; rfl⟩
        · rw [htw (by rw [ht, hin hsd]; simp)]
          refine walk ?_
          exact fp_r rfl (ends_ext hx (Plain.int _ _))
    · simp only [decide_eq_false_iff_not] at hck
      have : k = i := by omega
      subst this
      refine walk ?_
      refine ⟨by omega, rfl, hx, hb, ?_⟩
      intro j hj
      rcases Nat.lt_succ_iff_lt_or_eq.1 hj with h | h
      · exact ha j h
      · subst h; rw [ht, h1, hs]; rfl
  simp only [decide_eq_false_iff_not] at hc
  have : twice pairs = false := by
    rw [twice, List.any_eq_false]; intro k hk; rw [ha k (by have := List.mem_range.1 hk; omega)]; simp
  rw [this]
  refine walk ?_
  exact fp_r rfl (ends_ext hx (Plain.int _ _))
end Go.Ab
