/- Part 39 of the proof. -/
import Derived.Test.YteaellpidegbiaaGreatDoorA38
set_option linter.unusedVariables false
set_option linter.unusedSimpArgs false
namespace Go.Ab
open Go
set_option maxRecDepth 100000
set_option maxHeartbeats 8000000
structure Good (r : Ru) : Prop where
  ps : ∀ p ∈ r.pairs, vword p.a.l = 0 ∧ vword p.b.l = 0
  ls : ∀ p ∈ r.places, p.1.right = true ∧ p.2.right = true
  np : r.pairs.length ≤ 24
  nl : r.places.length ≤ 24
  k0 : 0 ≤ r.kind
  k3 : r.kind ≤ 3
  ne : ∀ p ∈ r.pairs, p.a.l ≠ []
theorem perr_zero : ∀ {l : List Pr}, perr l = 0 → ∀ p ∈ l, vword p.a.l = 0 ∧ vword p.b.l = 0
  | p :: ps, h, q, hq => by
    simp only [perr] at h
    split at h
    · rename_i h1; rw [h] at h1; exact absurd h1 (by decide)
    · rename_i h1
      split at h
      · rename_i h2; rw [h] at h2; exact absurd h2 (by decide)
      · rename_i h2
        rcases List.mem_cons.1 hq with rfl | hq
        · exact ⟨by simpa using h1, by simpa using h2⟩
        · exact perr_zero h q hq
theorem lerr_zero {v : Ex → Int} : ∀ {l : List Pl}, lerr v l = 0 → ∀ p ∈ l, v p.1 = 0 ∧ v p.2 = 0
  | p :: ps, h, q, hq => by
    simp only [lerr] at h
    split at h
    · rename_i h1; rw [h] at h1; exact absurd h1 (by decide)
    · rename_i h1
      split at h
      · rename_i h2; rw [h] at h2; exact absurd h2 (by decide)
      · rename_i h2
        rcases List.mem_cons.1 hq with rfl | hq
        · exact ⟨by simpa using h1, by simpa using h2⟩
        · exact lerr_zero h q hq
theorem vexpr_right {e : Ex} (h : vexpr e = 0) : e.right = true := by
  unfold vexpr at h
  split at h
  · cases h
  · split at h
    · cases h
    · rename_i h2; simpa using h2
theorem twice_ne : ∀ {l : List Pr}, twice l = false → ∀ p ∈ l, p.a.l ≠ [] := by
  intro l h p hp hn
  obtain ⟨i, hi, rfl⟩ := List.getElem_of_mem hp
  unfold twice at h
  rw [List.any_eq_false] at h
  have := h i (by simpa using hi)
  unfold twiceAt at this
  rw [List.getElem?_eq_getElem hi] at this
  simp [hn] at this
theorem vword_le {w : List Bt} (h : vword w = 0) : w.length ≤ 60 ∧ (∀ s ∈ w, s.length ≤ 16) ∧ (wtext w).length ≤ 1080 := by
  unfold vword at h
  split at h; · cases h
  rename_i h1
  simp only [Bool.or_eq_true, decide_eq_true_eq, not_or, Bool.not_eq_true, List.any_eq_false] at h1
  have h2 : ∀ s ∈ w, s.length ≤ 16 := by
    intro s hs
    have := h1.2 s hs
    simp [isLongS] at this
    omega
  have h3 : ∀ w : List Bt, (∀ s ∈ w, s.length ≤ 16) → (wtext w).length ≤ 18 * w.length := by
    intro w
    induction w with
    | nil => intro; simp [wtext]
    | cons x xs ih =>
      intro h
      have := ih fun s hs => h s (List.mem_cons_of_mem _ hs)
      have := wSym_le x
      have := h x (by simp)
      simp only [wtext, List.length_append, List.length_cons]; omega
  have := h3 w h2
  exact ⟨by omega, h2, by omega⟩
theorem ptext_le {w : List Bt} (h : vword w = 0) : (ptext w).length ≤ 1082 := by
  have := (vword_le h).2.2
  unfold ptext; split
  · simp
  · omega
def prc (k : Int) (p : Pr) : Bt := ptext p.a.l ++ [32] ++ arrowS k ++ [32] ++ ptext p.b.l
def prTs (k : Int) : List Pr → Bt
  | [] => []
  | p :: ps => [32, 44, 32] ++ prc k p ++ prTs k ps
def prT (k : Int) : List Pr → Bt
  | [] => []
  | p :: ps => prc k p ++ prTs k ps
theorem prTs_app (k : Int) (a b : List Pr) : prTs k (a ++ b) = prTs k a ++ prTs k b := by
  induction a with
  | nil => rfl
  | cons x xs ih => simp [prTs, ih]
theorem prT_snoc {k : Int} {ps : List Pr} {i : Nat} {p : Pr} (h : ps[i + 1]? = some p) : prT k (ps.take (i + 1 + 1)) = prT k (ps.take (i + 1)) ++ [32, 44, 32] ++ prc k p := by
  match ps, h with
  | x :: xs, h =>
    have h : xs[i]? = some p := by simpa using h
    rw [List.take_succ_cons, List.take_succ_cons, take_succ_get h]
    simp only [prT, prTs_app, prTs, List.append_nil, List.append_assoc]
theorem prT_one {k : Int} {ps : List Pr} {i : Nat} {p : Pr} (h : ps[i]? = some p) :
    prT k (ps.take (i + 1)) = (if decide ((i : Int) > 0) then prT k (ps.take i) ++ [32, 44, 32] else prT k (ps.take i)) ++ prc k p := by
  cases i with
  | zero =>
    match ps, h with
    | x :: xs, hc => injection hc with hc; subst hc; simp [prT, prTs]
  | succ i =>
    rw [prT_snoc h, if_pos (by simp only [decide_eq_true_eq]; omega)]
theorem arrowS_le (k : Int) : (arrowS k).length ≤ 4 := by
  unfold arrowS; repeat' split
  all_goals simp
theorem prT_le {k : Int} {ps : List Pr} (h : ∀ p ∈ ps, vword p.a.l = 0 ∧ vword p.b.l = 0) : ∀ i, (prT k (ps.take i)).length ≤ 2173 * i
  | 0 => by simp [prT]
  | i + 1 => by
    have ih := prT_le h (k := k) i
    by_cases hi : i < ps.length
    · have hg := List.getElem?_eq_getElem hi
      have hm := h _ (List.mem_of_getElem? hg)
      have h1 := ptext_le hm.1
      have h2 := ptext_le hm.2
      have h3 := arrowS_le k
      rw [prT_one hg]
      unfold prc
      split <;> simp only [List.length_append, List.length_cons, List.length_nil] <;> omega
    · rw [List.take_of_length_le (by omega)]
      rw [List.take_of_length_le (by omega)] at ih
      omega
def brkP (p : Pr) : Bool := brk p.a.l || brk p.b.l
def lgP (p : Pr) : Bool := decide (((ptext p.a.l).length : Int) > 400) || decide (((ptext p.b.l).length : Int) > 400)
def tailR (r : Ru) : Bt := if r.below && ((r.places.length : Int) == 0) then [32, 47, 47, 32, 95] else if r.below then [32, 47, 47, 32] ++ plT r.places else if decide ((r.places.length : Int) > 0) then [32, 124, 124, 32] ++ plT r.places else []
def fullR (r : Ru) : Bt := prT r.kind r.pairs ++ tailR r
def text2 (r : Ru) : Bt × Int :=
  if vrule2 r != 0 then ([], vrule2 r) else if r.pairs.any brkP then ([], 1) else if r.pairs.any lgP || decide (((fullR r).length : Int) > 6000) then ([], 3) else (fullR r, 0)
theorem plT_good {r : Ru} (g : Good r) (hr : okR r) : (plT r.places).length ≤ 10000000000000000 := by
  have h0 : ∀ l : List Pl, (∀ p ∈ l, okE p.1 ∧ okE p.2) → (plTs l).length ≤ 42000000000010 * l.length := by
    intro l
    induction l with
    | nil => intro; simp [plTs]
    | cons p ps ih =>
      intro h
      have := ih fun q hq => h q (List.mem_cons_of_mem _ hq)
      have h1 := h p (by simp)
      have ta := sideT_le p.1 true
      have tb := sideT_le p.2 false
      unfold okE at h1
      simp only [plTs, plc, List.length_append, List.length_cons, List.length_nil]; omega
  have h1 := h0 r.places hr.ls
  have h2 : (plT r.places).length ≤ (plTs r.places).length := by
    cases r.places with
    | nil => simp [plT]
    | cons p ps => simp only [plT, plTs, List.length_append]; omega
  have := g.nl
  omega
theorem arr_idx {k : Int} (h0 : 0 ≤ k) (h3 : k ≤ 3) : dsem (.idxArr 4 1 false) [.agg [.str [45, 62], .str [40, 45, 62, 41], .str [64, 45, 62], .str [64, 62]], .int .i64 k] = some (.str (arrowS k)) := by
  have : k = 0 ∨ k = 1 ∨ k = 2 ∨ k = 3 := by omega
  rcases this with rfl | rfl | rfl | rfl <;> rfl
theorem good {r : Ru} (h : vrule r = 0) : Good r := by
  unfold vrule at h
  split at h; · cases h
  rename_i h1
  split at h; · cases h
  split at h
  · rename_i h2; rw [h] at h2; exact absurd h2 (by decide)
  rename_i h2
  split at h
  · rename_i h3; rw [h] at h3; exact absurd h3 (by decide)
  rename_i h3
  split at h; · cases h
  rename_i h4
  have h2 : perr r.pairs = 0 := by simpa using h2
  have h3 : lerr vexpr r.places = 0 := by simpa using h3
  simp only [formR, Bool.or_eq_true, decide_eq_true_eq, not_or, Int.not_lt, Bool.not_eq_true] at h1 h4
  obtain ⟨h1a, h1b⟩ := h1
  obtain ⟨⟨⟨⟨h4a, h4b⟩, h4c⟩, h4d⟩, h4e⟩ := h4
  exact ⟨perr_zero h2, fun p hp => ⟨vexpr_right (lerr_zero h3 p hp).1, vexpr_right (lerr_zero h3 p hp).2⟩, by omega, by omega, by omega, by omega, twice_ne h4e⟩
theorem c14 (r : Ru) (hr : okR r) (H : Heap) : ACall PP 14 [encR r] H (Just H (.tuple [.str (text2 r).1, .int .i64 (text2 r).2])) := by
  have hp2 : ∀ (s : Bt) (e : Int), Plain (.tuple [.str s, .int .i64 e]) := fun s e => ⟨2, rfl⟩
  have k16 := fun H => c16 r hr H
  have hg : vrule2 r = 0 → Good r := fun h => good (by rw [← vrule_eq]; exact h)
  have hpl := fun g => plT_good (r := r) g hr
  unfold text2
  generalize vrule2 r = ve at *
  have eF : fullR r = prT r.kind r.pairs ++ tailR r := rfl
  have eT : tailR r = if r.below && ((r.places.length : Int) == 0) then [32, 47, 47, 32, 95] else if r.below then [32, 47, 47, 32] ++ plT r.places else if decide ((r.places.length : Int) > 0) then [32, 124, 124, 32] ++ plT r.places else [] := rfl
  generalize tailR r = tr at *
  generalize fullR r = fr' at *
  obtain ⟨kind, pn, pairs, ln, places, below⟩ := r
  simp only at eF eT hpl
  have hsp := sl_Ps pn pairs
  have hsl := sl_Ls ln places
  have hlp : (pairs.map encP).length = pairs.length := List.length_map _
  have hll : (places.map encPl).length = places.length := List.length_map _
  have e2 : (((places.map encPl).length : Int) == 0) = ((places.length : Int) == 0) := by rw [hll]
  have e3 : decide (((places.map encPl).length : Int) > 0) = decide ((places.length : Int) > 0) := by rw [hll]
  obtain ⟨hnp, hnl, hps, hls⟩ := hr
  simp only at hnp hnl hps hls
  unfold encR at *
  refine ACall.gives (is14.c1 nonum mixed rfl ?_)
  refine walk ?_
  refine st_call rfl (k16 _) ?_
  refine walk ?_
  refine iw_cond _ rfl ?_ ?_ <;> intro h1
  · simp only [h1, if_true]
    refine walk ?_
    exact fr (hp := hp2 _ _)
  simp only [h1, Bool.false_eq_true, if_false]
  obtain ⟨gps, gls, gnp, gnl, gk0, gk3, gne⟩ := hg (by simpa using h1)
  have hpl := hpl (hg (by simpa using h1))
  simp only at gps gls gnp gnl gk0 gk3 gne
  have pl := prT_le (k := kind) gps
  refine walk ?_
  refine iw_loop pairs.length (fun i al H' => al = [(1, .ptr (H.length + 0) 0), (5, .str (prT kind (pairs.take i))), (6, .bool ((pairs.take i).any lgP)), (7, .int .i64 i)] ∧ H' = H ++ [.cells [.int .i64 kind, encPs pn pairs, encLs ln places, .bool below]] ∧ (pairs.take i).any brkP = false) ⟨rfl, rfl, by simp⟩ ?_
  rintro i _ _ hi ⟨rfl, rfl, hb⟩
  refine walk ?_
  refine iw_cond _ rfl ?_ ?_ <;> intro hc
  · simp only [decide_eq_true_eq] at hc
    obtain ⟨c, hc⟩ := get_ex (l := pairs) (i := i) (by omega)
    have hm := List.mem_of_getElem? hc
    have hu : (pairs.map encP)[i]? = some (.agg [encW c.a, encW c.b]) := getmap (f := encP) hc
    have hsa := sl_W c.a
    have hsb := sl_W c.b
    have gc := gps c hm
    have ka := c35 hsa (by have := (vword_le gc.1).1; omega) (by have := (vword_le gc.1).2.2; omega)
    have kb := c35 hsb (by have := (vword_le gc.2).1; omega) (by have := (vword_le gc.2).2.2; omega)
    have k34a := c34 hsa
    have k34b := c34 hsb
    have la := ptext_le gc.1
    have lb := ptext_le gc.2
    have h2 := pl i
    rw [prT_one hc, any_take_succ hc, any_take_succ hc]
    have hbk : brkP c = (brk c.a.l || brk c.b.l) := rfl
    have hlg : lgP c = (decide (((ptext c.a.l).length : Int) > 400) || decide (((ptext c.b.l).length : Int) > 400)) := rfl
    have hpc : prc kind c = ptext c.a.l ++ [32] ++ arrowS kind ++ [32] ++ ptext c.b.l := rfl
    have har := arrowS_le kind
    have hidx := arr_idx gk0 gk3
    have ha34 : brkP c = true → pairs.any brkP = true := fun h => any_of_get hc h
    rw [hb, Bool.false_or, hpc, hlg]
    rw [hbk] at ha34 ⊢
    generalize ptext c.a.l = pa at *
    generalize ptext c.b.l = pb at *
    generalize brk c.a.l = ba at *
    generalize brk c.b.l = bb at *
    generalize (pairs.take i).any lgP = lg at *
    generalize prT kind (pairs.take i) = pt at *
    generalize arrowS kind = ar at *
    generalize encW c.a = va at *
    generalize encW c.b = vb at *
    refine walk ?_
    refine st_call rfl (k34a _) ?_
    refine walk ?_
    cases ba
    · refine walk ?_
      refine st_call rfl (k34b _) ?_
      refine walk ?_
      cases bb
      · refine walk ?_
        refine vv_cut [(1, .ptr (H.length + 0) 0), (5, .str pt), (6, .bool (lg || (decide ((pa.length : Int) > 400) || decide ((pb.length : Int) > 400)))), (7, .int .i64 i)] (H ++ [.cells [.int .i64 kind, encPs pn pairs, encLs ln places, .bool below]]) ?_ ?_
        · cases lg
          · refine walk ?_
            refine st_call rfl (ka _) ?_
            refine walk ?_
            cases hda : decide ((pa.length : Int) > 400)
            · refine walk ?_
              refine st_call rfl (kb _) ?_
              refine walk ?_
              exact vv_end rfl rfl
            · refine walk ?_
              exact vv_end rfl rfl
          · refine walk ?_
            exact vv_end rfl rfl
        generalize (lg || (decide ((pa.length : Int) > 400) || decide ((pb.length : Int) > 400))) = lg'
        refine walk ?_
        refine iw_cond _ rfl ?_ ?_ <;> intro hi0
        · rw [if_pos hi0]
          refine walkA ?_
          refine st_call rfl (ka _) ?_
          refine walkA ?_
          refine st_call rfl (c36 _) ?_
          refine walkA ?_
          refine st_op rfl hidx ?_
          refine walkA ?_
          refine st_call rfl (kb _) ?_
          refine walkA ?_
          exact ⟨by omega, rfl, rfl, rfl⟩
        · rw [hi0, if_neg (by simp)]
          refine walkA ?_
          refine st_call rfl (ka _) ?_
          refine walkA ?_
          refine st_call rfl (c36 _) ?_
          refine walkA ?_
          refine st_op rfl hidx ?_
          refine walkA ?_
          refine st_call rfl (kb _) ?_
          refine walkA ?_
          exact ⟨by omega, rfl, rfl, rfl⟩
      · rw [ha34 rfl]
        refine walk ?_
        exact fr (hp := hp2 _ _)
    · rw [ha34 rfl]
      refine walk ?_
      exact fr (hp := hp2 _ _)
  simp only [decide_eq_false_iff_not] at hc
  have ht : pairs.take i = pairs := List.take_of_length_le (by omega)
  rw [ht] at hb ⊢
  have plf := pl 24
  rw [List.take_of_length_le gnp] at plf
  rw [hb]
  simp only [Bool.false_eq_true, if_false]
  have k37 := c37 hsl hnl hls gls hpl
  generalize prT kind pairs = pt at *
  generalize plT places = pp at *
  generalize pairs.any lgP = lg at *
  refine walk ?_
  cases below
  · refine walk ?_
    rw [e3]
    refine iw_cond _ rfl ?_ ?_ <;> intro hn
    · refine walk ?_
      refine st_call rfl (k37 _) ?_
      refine walkA ?_
      rw [show pt ++ ([32, 124, 124, 32] ++ pp) = fr' by rw [eF, eT, hn]; simp]
      cases lg
      · refine walk ?_
        refine iw_cond _ rfl ?_ ?_ <;> intro h6
        · rw [Bool.false_or, h6]
          refine walk ?_
          exact fr (hp := hp2 _ _)
        · rw [Bool.false_or, h6]
          refine walk ?_
          exact fr (hp := hp2 _ _)
      · refine walk ?_
        exact fr (hp := hp2 _ _)
    · refine walk ?_
      rw [show pt = fr' by rw [eF, eT, hn]; simp]
      cases lg
      · refine walk ?_
        refine iw_cond _ rfl ?_ ?_ <;> intro h6
        · rw [Bool.false_or, h6]
          refine walk ?_
          exact fr (hp := hp2 _ _)
        · rw [Bool.false_or, h6]
          refine walk ?_
          exact fr (hp := hp2 _ _)
      · refine walk ?_
        exact fr (hp := hp2 _ _)
  · refine walk ?_
    rw [e2]
    cases hn : ((places.length : Int) == 0)
    · refine walk ?_
      refine st_call rfl (k37 _) ?_
      refine walkA ?_
      rw [show pt ++ ([32, 47, 47, 32] ++ pp) = fr' by rw [eF, eT, hn]; simp]
      cases lg
      · refine walk ?_
        refine iw_cond _ rfl ?_ ?_ <;> intro h6
        · rw [Bool.false_or, h6]
          refine walk ?_
          exact fr (hp := hp2 _ _)
        · rw [Bool.false_or, h6]
          refine walk ?_
          exact fr (hp := hp2 _ _)
      · refine walk ?_
        exact fr (hp := hp2 _ _)
    · refine walkA ?_
      rw [show pt ++ [32, 47, 47, 32, 95] = fr' by rw [eF, eT, hn]; simp]
      cases lg
      · refine walk ?_
        refine iw_cond _ rfl ?_ ?_ <;> intro h6
        · rw [Bool.false_or, h6]
          refine walk ?_
          exact fr (hp := hp2 _ _)
        · rw [Bool.false_or, h6]
          refine walk ?_
          exact fr (hp := hp2 _ _)
      · refine walk ?_
        exact fr (hp := hp2 _ _)
end Go.Ab
namespace Go.Ab
open Go
set_option maxRecDepth 100000
set_option maxHeartbeats 8000000
section steps
variable {P : Program} {H G : Heap} {al : AL} {K : KL} {Qp : AL → AV → Heap → Prop} {os : List IOper} {d : Nat} {x y z : Arg}
theorem st_mkM {n : Nat} {G' : Heap} (hn : G.length = n) (hG : G ++ [.map [] 0] = G') (h : VV P os ((d, .map (H.length + n)) :: al) (H ++ G') K Qp) : VV P (⟨some d, .i (.n (.makeMap false)), [], none, none⟩ :: os) al (H ++ G) K Qp := by
  subst hn; subst hG
  refine st_i ?_ h
  show some (AV.map (H ++ G).length, put (H ++ G) (H ++ G).length (.map [] 0)) = _
  rw [put_app, List.length_append]
theorem st_updI {n : Nat} {k : Int} {s : Bt} {es : Ents} {c : Nat} {G' : Heap} (hx : evL al x = .map (H.length + n)) (hy : evL al y = .int .i64 k) (hz : evL al z = .str s) (hg : G[n]? = some (.map es c))
    (hf : afind ⟨false, [.int]⟩ (.int .i64 k) es 0 = some none) (hG : G.set n (.map (es ++ [(.int .i64 k, .str s, c)]) (c + 1)) = G') (h : VV P os al (H ++ G') K Qp) :
    VV P (⟨none, .i (.n (.update ⟨false, [.int]⟩)), [x, y, z], none, none⟩ :: os) al (H ++ G) K Qp := by
  subst hG
  refine st_i0 (v := .top) (H' := H ++ G.set n (.map (es ++ [(.int .i64 k, .str s, c)]) (c + 1))) ?_ h
  have hm : mapAt (H ++ G) (H.length + n) = some (es, c) := by simp only [mapAt, hp_new, hg]
  have hv : evsL al [x, y, z] = [.map (H.length + n), .int .i64 k, .str s] := by
    show [evL al x, evL al y, evL al z] = _
    rw [hx, hy, hz]
  have hk : keyOk ⟨false, [.int]⟩ (.int .i64 k) = true := rfl
  show nsem (.update ⟨false, [.int]⟩) (evsL al [x, y, z]) (H ++ G) (H ++ G).length = _
  rw [hv]
  simp only [nsem, hm, hk, if_true, hf, set_new]
theorem st_lookI {n : Nat} {k : Int} {es : Ents} {c : Nat} {r : Option Nat} {v : AV} (hx : evL al x = .map (H.length + n)) (hy : evL al y = .int .i64 k) (hg : G[n]? = some (.map es c))
    (hf : afind ⟨false, [.int]⟩ (.int .i64 k) es 0 = some r) (hv : found (.str []) false (r.map fun i => (es.getD i (.top, .top, 0)).2.1) = v) (h : VV P os ((d, v) :: al) (H ++ G) K Qp) :
    VV P (⟨some d, .i (.n (.lookup ⟨false, [.int]⟩ (.str []) false)), [x, y], none, none⟩ :: os) al (H ++ G) K Qp := by
  subst hv
  refine st_i ?_ h
  have hm : mapAt (H ++ G) (H.length + n) = some (es, c) := by simp only [mapAt, hp_new, hg]
  have hv : evsL al [x, y] = [.map (H.length + n), .int .i64 k] := by
    show [evL al x, evL al y] = _
    rw [hx, hy]
  have hk : keyOk ⟨false, [.int]⟩ (.int .i64 k) = true := rfl
  show nsem (.lookup ⟨false, [.int]⟩ (.str []) false) (evsL al [x, y]) (H ++ G) (H ++ G).length = _
  rw [hv]
  simp only [nsem, hm, hk, if_true, hf]
  cases r <;> rfl
end steps
section vt
variable {P : Program} {H : Heap} {al : AL} {Q : PL} {K : KL} {ios : List IOper} {B : List (List Nat)} {Gp : AV → Prop} {s r : Sched} {c X : Blk}
theorem vt_stop {b0 base : Nat} : VT P b0 base ios B K Gp .stop al H := ⟨fun _ _ => trivial⟩
theorem vt_or {b0 base i : Nat} (h : VT P b0 base ios B K Gp (.branch i s .stop) al H) (h2 : VT P b0 base ios B K Gp r al H) : VT P b0 base ios B K Gp (.branch i s r) al H := by
  refine ⟨fun S hS => ⟨(h.1 S hS).1, ?_⟩⟩
  cases r with
  | stop => trivial
  | done => exact h2.1 S hS
  | quiet => exact h2.1 S hS
  | branch => exact h2.1 S hS
theorem pres1 {m m' : Blk} : ∀ n x v, okRd (H.length + 1) x = true → rload n x (H ++ [c, m]) = some v → rload n x (H ++ [c, m']) = some v := by
  intro n x v ho hl
  cases x with
  | ptr j off =>
    have hj : j < H.length + 1 := by simpa [okRd, Nat.blt_eq] using ho
    have e : ∀ m : Blk, (H ++ [c, m])[j]? = (H ++ [c])[j]? := by
      intro m
      rw [show H ++ [c, m] = (H ++ [c]) ++ [m] by simp, List.getElem?_append_left (by simpa using hj)]
    simp only [rload, e] at hl ⊢
    exact hl
  | _ => exact hl
theorem vt_mk {i d : Nat} (ho : ios[i]? = some ⟨some d, .i (.n (.makeMap false)), [], none, some 0⟩)
    (h : VT P (H.length + 1) (H.length + 1) ios B K Gp s ((d, .map (H.length + 1)) :: al) (H ++ [c, .map [] 0])) :
    VT P (H.length + 1) (H.length + 1) ios B K Gp (.branch i s .stop) al (H ++ [c, .resv]) := by
  refine ⟨fun S hS => ?_⟩
  have hrr : rOf (H.length + 1) ⟨some d, .i (.n (.makeMap false)), [], none, some 0⟩ (H ++ [c, .resv]) = H.length + 1 := rfl
  have hget : (H ++ [c, Blk.resv])[H.length + 1]? = some .resv := by rw [hp_new]; rfl
  have hput : put (H ++ [c, Blk.resv]) (H.length + 1) (.map [] 0) = H ++ [c, .map [] 0] := by
    unfold put
    rw [if_pos (by simp), set_new]; rfl
  have hS' : ∀ r ∈ S, okRd (H.length + 1) r.x = true ∧ rload r.n r.x (H ++ [c, .map [] 0]) = some r.v := fun r hr => ⟨(hS r hr).1, pres1 _ _ _ (hS r hr).1 (hS r hr).2⟩
  simp only [vsL, ho, hrr]
  refine ⟨⟨?_, Nat.ble_eq_true_of_le (Nat.le_refl _), ?_⟩, trivial⟩
  · simp [freeB]
  · have hi : isem (.n (.makeMap false)) (evsL al []) (H ++ [c, Blk.resv]) (H.length + 1) = some (.map (H.length + 1), H ++ [c, .map [] 0]) := by
      show some (AV.map (H.length + 1), put (H ++ [c, Blk.resv]) (H.length + 1) (.map [] 0)) = _
      rw [hput]
    simp only [vopL, vexecL, hi]
    refine ⟨?_, h.1 S hS'⟩
    unfold obligL
    rw [ho]
    simp only
    split
    · trivial
    · exact fun r hr _ => (hS' r hr).2
theorem base1 {m : Blk} : H.length + 1 ≤ (H ++ [c, m]).length := by simp
theorem iw_drawR {ks : List Nat} (h : VT P (H.length + 1) (H.length + 1) ios B (fun a h => Q .normal (keepL a ks) h) (fun _ => False) s al (H ++ [c, .resv])) : WI P (.draw 1 ios B s (some ks)) Q al (H ++ [c]) := by
  refine ⟨⟨fun _ => False, fun _ _ f => f.elim, ?_⟩⟩
  have e1 : reserve (H ++ [c]) 1 = H ++ [c, .resv] := by simp [reserve]
  have e2 : (H ++ [c]).length = H.length + 1 := by simp
  rw [e1, e2]
  exact h.1 [] (by simp)
end vt
end Go.Ab
namespace Go.Ab
open Go
set_option maxRecDepth 100000
set_option maxHeartbeats 8000000
mutual
def nf : Ex → Nat
  | .mk _ s _ l => nfs (1 + s.length) l
def nfs : Nat → List Ex → Nat
  | n, [] => n
  | n, x :: xs => if n ≤ 24000 then nfs (n + nf x) xs else n
end
mutual
theorem nf_le : ∀ e : Ex, nf e ≤ e.w
  | .mk _ s _ l => by simp only [nf, Ex.w]; exact nfs_le (1 + s.length) l
theorem nfs_le : ∀ (n : Nat) (l : List Ex), nfs n l ≤ n + ws l
  | n, [] => by simp [nfs, ws]
  | n, x :: xs => by
    have := nf_le x
    have := nfs_le (n + nf x) xs
    simp only [nfs, ws]; split <;> omega
end
theorem ws_take {l : List Ex} {i : Nat} {x : Ex} (h : l[i]? = some x) : ws (l.take (i + 1)) = ws (l.take i) + x.w := by
  induction l generalizing i with
  | nil => simp at h
  | cons y ys ih =>
    cases i with
    | zero => simp at h; subst h; simp [ws]
    | succ i => simp only [List.take_succ_cons, ws]; rw [ih (by simpa using h)]; omega
theorem ws_le : ∀ (l : List Ex) (i : Nat), ws (l.take i) ≤ ws l
  | [], i => by simp
  | x :: xs, 0 => by simp [ws]
  | x :: xs, i + 1 => by simp only [List.take_succ_cons, ws]; have := ws_le xs i; omega
theorem c25 (e : Ex) (he : okE e) (H : Heap) : ACall PP 25 [enc e] H (Just H (.int .i64 (nf e))) := by
  match e, he with
  | .mk op s nl l, he =>
    have hs := sl_lst nl l
    have hl : (l.map enc).length = l.length := List.length_map _
    have hll := okE_l he
    have hw : 1 + s.length + ws l ≤ 1000000000000 := by unfold okE at he; simp only [Ex.w] at he; omega
    have hn : nf (.mk op s nl l) = nfs (1 + s.length) l := rfl
    rw [enc_mk, hn]
    refine ACall.gives (is25.c1 nonum mixed rfl ?_)
    refine walk ?_
    refine st_addn (a := 1) (b := s.length) (by rfl) (by rfl) (by omega) ?_
    refine walk ?_
    refine iw_loop l.length (fun i al H' => ∃ n : Nat, al = [(1, .ptr (H.length + 0) 0), (3, .int .i64 n), (4, .int .i64 i)] ∧ H' = H ++ [.cells [.int .i64 op, .str s, lst nl l]] ∧ n ≤ 1 + s.length + ws (l.take i) ∧ nfs (1 + s.length) l = nfs n (l.drop i)) ⟨_, rfl, rfl, by omega, rfl⟩ ?_
    rintro i _ _ hi ⟨n, rfl, rfl, hnb, hv⟩
    have hwi := ws_le l i
    refine walk ?_
    cases hc : decide ((i : Int) < ((l.map enc).length : Int))
    · simp only [decide_eq_false_iff_not] at hc
      have : i = l.length := by omega
      subst this
      rw [List.drop_length] at hv
      rw [hv]
      refine walk ?_
      exact fr
    · simp only [decide_eq_true_eq] at hc
      obtain ⟨c, hcg⟩ := get_ex (l := l) (i := i) (by omega)
      have hu := getmap (f := enc) hcg
      have hm := List.mem_of_getElem? hcg
      rw [drop_get hcg] at hv
      simp only [nfs] at hv
      refine walk ?_
      refine iw_cond _ rfl ?_ ?_ <;> intro hq
      · simp only [decide_eq_true_eq] at hq
        rw [if_pos (by omega)] at hv
        have ih := fun H => c25 c (okE_kid he hm) H
        have h1 := ws_take hcg
        have h2 := ws_le l (i + 1)
        have h3 := nf_le c
        obtain ⟨op', s', nl', l'⟩ := c
        rw [enc_mk] at hu ih
        refine walk ?_
        refine st_call rfl (ih _) ?_
        refine st_addn (a := n) (b := nf (.mk op' s' nl' l')) (by rfl) (by rfl) (by omega) ?_
        refine walk ?_
        exact ⟨by omega, _, rfl, rfl, by omega, hv⟩
      · simp only [decide_eq_false_iff_not] at hq
        rw [if_neg (by omega)] at hv
        rw [hv]
        refine walk ?_
        exact fr
termination_by SizeOf.sizeOf e
decreasing_by exact mem_size (by assumption)
def nw : Nat → List Bt → Nat
  | n, [] => n
  | n, s :: w => if n ≤ 24000 then nw (n + s.length) w else n
def tot : List Bt → Nat
  | [] => 0
  | s :: w => s.length + tot w
theorem nw_le : ∀ (n : Nat) (w : List Bt), nw n w ≤ n + tot w
  | n, [] => by simp [nw]
  | n, x :: xs => by have := nw_le (n + x.length) xs; simp only [nw, tot]; split <;> omega
theorem tot_take {l : List Bt} {i : Nat} {x : Bt} (h : l[i]? = some x) : tot (l.take (i + 1)) = tot (l.take i) + x.length := by
  induction l generalizing i with
  | nil => simp at h
  | cons y ys ih =>
    cases i with
    | zero => simp at h; subst h; simp [tot]
    | succ i => simp only [List.take_succ_cons, tot]; rw [ih (by simpa using h)]; omega
theorem tot_le : ∀ (l : List Bt) (i : Nat), tot (l.take i) ≤ tot l
  | [], i => by simp
  | x :: xs, 0 => by simp [tot]
  | x :: xs, i + 1 => by simp only [List.take_succ_cons, tot]; have := tot_le xs i; omega
def nww (n : Nat) (a : List Bt) : Nat := nw (n + a.length) a
abbrev okT (w : List Bt) : Prop := w.length + tot w ≤ 1000000000000
theorem c24 {a b : Wd} (ha : okT a.l) (hb : okT b.l) {id : Nat} {H : Heap} (hg : H[id]? = some (.cells [encW a, encW b])) :
    ACall PP 24 [.sl id 0 2 1] H (Just H (.int .i64 (nww (nww 0 a.l) b.l))) := by
  have hg : (H ++ [])[id]? = some (.cells [encW a, encW b]) := hp_old hg
  have sa := sl_W a
  have sb := sl_W b
  unfold okT at ha hb
  have la : (a.l.map AV.str).length = a.l.length := List.length_map _
  have lb : (b.l.map AV.str).length = b.l.length := List.length_map _
  have na := nw_le (0 + a.l.length) a.l
  have nb := nw_le (nww 0 a.l + b.l.length) b.l
  have e1 : nww 0 a.l = nw (0 + a.l.length) a.l := rfl
  refine ACall.gives (is24.c1 nonum mixed rfl ?_)
  refine walk ?_
  refine iw_loop2 (fun al H' => al = [(0, .sl id 0 2 1), (3, .int .i64 (0 : Nat)), (4, .int .i64 (0 : Nat))] ∧ H' = H ++ []) (fun al H' => al = [(0, .sl id 0 2 1), (3, .int .i64 (nww 0 a.l : Nat)), (4, .int .i64 (1 : Nat))] ∧ H' = H ++ [])
    (fun al H' => al = [(0, .sl id 0 2 1), (3, .int .i64 (nww (nww 0 a.l) b.l : Nat)), (4, .int .i64 (2 : Nat))] ∧ H' = H ++ []) ⟨rfl, rfl⟩ ?_ ?_ ?_
  · rintro _ _ ⟨rfl, rfl⟩
    refine walk ?_
    refine st_addn (a := 0) (b := (a.l.map AV.str).length) (by rfl) (by rfl) (by omega) ?_
    refine walk ?_
    refine iw_loop a.l.length (fun j al H' => ∃ n : Nat, al = [(0, .sl id 0 2 1), (3, .int .i64 n), (4, .int .i64 (0 : Nat)), (5, .int .i64 j)] ∧ H' = H ++ [] ∧ n ≤ 0 + a.l.length + tot (a.l.take j) ∧ nww (0) a.l = nw n (a.l.drop j)) ⟨_, rfl, rfl, by rw [la]; omega, by rw [la]; rfl⟩ ?_
    rintro j _ _ hj ⟨n, rfl, rfl, hnb, hv⟩
    have ht := tot_le a.l j
    refine walk ?_
    cases hc : decide ((j : Int) < ((a.l.map AV.str).length : Int))
    · simp only [decide_eq_false_iff_not] at hc
      rw [List.drop_of_length_le (by omega)] at hv
      refine walk ?_
      exact ⟨by rw [hv]; rfl, rfl⟩
    · simp only [decide_eq_true_eq] at hc
      obtain ⟨c, hcg⟩ := get_ex (l := a.l) (i := j) (by omega)
      have hu := getmap (f := AV.str) hcg
      rw [drop_get hcg] at hv
      simp only [nw] at hv
      refine walk ?_
      refine iw_cond _ rfl ?_ ?_ <;> intro hq
      · simp only [decide_eq_true_eq] at hq
        rw [if_pos (by omega)] at hv
        have h1 := tot_take hcg
        have h2 := tot_le a.l (j + 1)
        refine walk ?_
        refine st_addn (a := n) (b := c.length) (by rfl) (by rfl) (by omega) ?_
        refine walk ?_
        exact ⟨by omega, _, rfl, rfl, by omega, hv⟩
      · simp only [decide_eq_false_iff_not] at hq
        rw [if_neg (by omega)] at hv
        refine walk ?_
        exact ⟨by rw [hv]; rfl, rfl⟩
  · rintro _ _ ⟨rfl, rfl⟩
    refine walk ?_
    refine st_addn (a := nww 0 a.l) (b := (b.l.map AV.str).length) (by rfl) (by rfl) (by omega) ?_
    refine walk ?_
    refine iw_loop b.l.length (fun j al H' => ∃ n : Nat, al = [(0, .sl id 0 2 1), (3, .int .i64 n), (4, .int .i64 (1 : Nat)), (5, .int .i64 j)] ∧ H' = H ++ [] ∧ n ≤ nww 0 a.l + b.l.length + tot (b.l.take j) ∧ nww (nww 0 a.l) b.l = nw n (b.l.drop j)) ⟨_, rfl, rfl, by rw [lb]; omega, by rw [lb]; rfl⟩ ?_
    rintro j _ _ hj ⟨n, rfl, rfl, hnb, hv⟩
    have ht := tot_le b.l j
    refine walk ?_
    cases hc : decide ((j : Int) < ((b.l.map AV.str).length : Int))
    · simp only [decide_eq_false_iff_not] at hc
      rw [List.drop_of_length_le (by omega)] at hv
      refine walk ?_
      exact ⟨by rw [hv]; rfl, rfl⟩
    · simp only [decide_eq_true_eq] at hc
      obtain ⟨c, hcg⟩ := get_ex (l := b.l) (i := j) (by omega)
      have hu := getmap (f := AV.str) hcg
      rw [drop_get hcg] at hv
      simp only [nw] at hv
      refine walk ?_
      refine iw_cond _ rfl ?_ ?_ <;> intro hq
      · simp only [decide_eq_true_eq] at hq
        rw [if_pos (by omega)] at hv
        have h1 := tot_take hcg
        have h2 := tot_le b.l (j + 1)
        refine walk ?_
        refine st_addn (a := n) (b := c.length) (by rfl) (by rfl) (by omega) ?_
        refine walk ?_
        exact ⟨by omega, _, rfl, rfl, by omega, hv⟩
      · simp only [decide_eq_false_iff_not] at hq
        rw [if_neg (by omega)] at hv
        refine walk ?_
        exact ⟨by rw [hv]; rfl, rfl⟩
  · rintro _ _ ⟨rfl, rfl⟩
    refine walk ?_
    exact fr
end Go.Ab
namespace Go.Ab
open Go
set_option maxRecDepth 100000
set_option maxHeartbeats 8000000
def nps : Nat → List Pr → Nat
  | n, [] => n
  | n, p :: ps => if n ≤ 24000 then nps (n + nww (nww 0 p.a.l) p.b.l) ps else n
def nls : Nat → List Pl → Nat
  | n, [] => n
  | n, p :: ps => if n ≤ 24000 then nls (n + (nf p.1 + nf p.2)) ps else n
def overR (r : Ru) : Bool := decide ((nls (nps (r.pairs.length + r.places.length) r.pairs) r.places : Int) > 24000)
theorem nww_le {a b : List Bt} (ha : okT a) (hb : okT b) : nww (nww 0 a) b ≤ 2000000000000 := by
  have h1 := nw_le (0 + a.length) a
  have h2 := nw_le (nww 0 a + b.length) b
  have e1 : nww 0 a = nw (0 + a.length) a := rfl
  have e2 : nww (nww 0 a) b = nw (nww 0 a + b.length) b := rfl
  omega
theorem c10 (r : Ru) (hr : okR r) (ht : ∀ p ∈ r.pairs, okT p.a.l ∧ okT p.b.l) (H : Heap) : ACall PP 10 [encR r] H (Just H (.bool (overR r))) := by
  obtain ⟨kind, pn, pairs, ln, places, below⟩ := r
  obtain ⟨hnp, hnl, hps, hls⟩ := hr
  simp only at hnp hnl hps hls ht
  have hsp := sl_Ps pn pairs
  have hsl := sl_Ls ln places
  have hlp : (pairs.map encP).length = pairs.length := List.length_map _
  have hll : (places.map encPl).length = places.length := List.length_map _
  have hv : overR ⟨kind, pn, pairs, ln, places, below⟩ = decide ((nls (nps (pairs.length + places.length) pairs) places : Int) > 24000) := rfl
  rw [hv]
  unfold encR
  refine ACall.gives (is10.c1 nonum mixed rfl ?_)
  refine walk ?_
  refine st_addn (a := (pairs.map encP).length) (b := (places.map encPl).length) (by rfl) (by rfl) (by omega) ?_
  rw [hlp, hll]
  refine walk ?_
  refine iw_loop pairs.length (fun i al H' => ∃ n : Nat, al = [(1, .ptr (H.length + 0) 0), (3, .int .i64 n), (4, .int .i64 i)] ∧ Ext H H' ∧ H'[H.length + 0]? = some (.cells [.int .i64 kind, encPs pn pairs, encLs ln places, .bool below]) ∧
    n ≤ 3000000000000 ∧ nps (pairs.length + places.length) pairs = nps n (pairs.drop i)) ⟨_, rfl, ⟨_, rfl⟩, hp_new, by omega, rfl⟩ ?_
  rintro i _ H1 hi ⟨n, rfl, hx, hB, hnb, hvp⟩
  have hlt0 : H.length + 0 < H1.length := (List.getElem?_eq_some_iff.1 hB).1
  have hokp : ∀ off, okRd H1.length (.ptr (H.length + 0) off) = true := by intro off; simp [okRd, Nat.blt_eq]; simpa using hlt0
  refine walk ?_
  cases hc : decide ((i : Int) < ((pairs.map encP).length : Int))
  · simp only [decide_eq_false_iff_not] at hc
    rw [List.drop_of_length_le (by omega)] at hvp
    have hvp : nps (pairs.length + places.length) pairs = n := hvp
    rw [hvp]
    clear hvp hlt0 hokp
    refine walk ?_
    refine iw_loop places.length (fun i al H' => ∃ n2 : Nat, al = [(1, .ptr (H.length + 0) 0), (3, .int .i64 n2), (5, .int .i64 i)] ∧ H' = H1 ∧ n2 ≤ 3000000000000 ∧ nls n places = nls n2 (places.drop i)) ⟨_, rfl, rfl, hnb, rfl⟩ ?_
    rintro i _ _ hi ⟨n2, rfl, rfl, hnb2, hvp⟩
    refine walk ?_
    cases hc : decide ((i : Int) < ((places.map encPl).length : Int))
    · simp only [decide_eq_false_iff_not] at hc
      rw [List.drop_of_length_le (by omega)] at hvp
      have hvp : nls n places = n2 := hvp
      rw [hvp]
      refine walk ?_
      exact fp_r rfl (ends_ext hx (Plain.bool _))
    · simp only [decide_eq_true_eq] at hc
      obtain ⟨c, hcg⟩ := get_ex (l := places) (i := i) (by omega)
      have hok := hls _ (List.mem_of_getElem? hcg)
      have hu := getmap (f := encPl) hcg
      rw [drop_get hcg] at hvp
      simp only [nls] at hvp
      refine walk ?_
      refine iw_cond _ rfl ?_ ?_ <;> intro hq
      · simp only [decide_eq_true_eq] at hq
        rw [if_pos (by omega)] at hvp
        have k1 := fun H => c25 c.1 hok.1 H
        have k2 := fun H => c25 c.2 hok.2 H
        have b1 := nf_le c.1
        have b2 := nf_le c.2
        unfold okE at hok
        generalize nf c.1 = f1 at *
        generalize nf c.2 = f2 at *
        obtain ⟨⟨o1, s1, n1, l1⟩, ⟨o2, s2, n2', l2⟩⟩ := c
        unfold encPl at hu
        simp only [enc_mk] at k1 k2 hu
        refine walk ?_
        refine st_call rfl (k1 _) ?_
        refine walk ?_
        refine st_call rfl (k2 _) ?_
        refine walk ?_
        refine st_addn (a := f1) (b := f2) (by rfl) (by rfl) (by omega) ?_
        refine walk ?_
        refine st_addn (a := n2) (b := f1 + f2) (by rfl) (by rfl) (by omega) ?_
        refine walk ?_
        exact ⟨by omega, _, rfl, rfl, by omega, hvp⟩
      · simp only [decide_eq_false_iff_not] at hq
        rw [if_neg (by omega)] at hvp
        rw [hvp]
        refine walk ?_
        exact fp_r rfl (ends_ext hx (Plain.bool _))
  · simp only [decide_eq_true_eq] at hc
    obtain ⟨c, hcg⟩ := get_ex (l := pairs) (i := i) (by omega)
    have hm := List.mem_of_getElem? hcg
    have hu : (pairs.map encP)[i]? = some (.agg [encW c.a, encW c.b]) := getmap (f := encP) hcg
    have htc := ht c hm
    have hwb := nww_le htc.1 htc.2
    rw [drop_get hcg] at hvp
    simp only [nps] at hvp
    refine walk ?_
    refine iw_cond _ rfl ?_ ?_ <;> intro hq
    · simp only [decide_eq_true_eq] at hq
      rw [if_pos (by omega)] at hvp
      refine walkN ?_
      refine iw_drawT H1.length ?_
      refine walkT ?_
      refine vt_b rfl rfl (Nat.le_refl _) ?_
      refine st_sliceG (out := [encW c.a, encW c.b]) fill2W ?_
      refine st_finTB (ext_rd (.refl _) ⟨_, rfl⟩) ?_
      refine vt_b rfl rfl (by simp) ?_
      refine st_call rfl (c24 htc.1 htc.2 (by rw [List.getElem?_append_right (Nat.le_refl _), Nat.sub_self]; rfl)) ?_
      refine st_finTB (fun _ _ _ _ h => h) ?_
      generalize nww (nww 0 c.a.l) c.b.l = f1 at *
      refine walkT ?_
      refine st_addn (a := n) (b := f1) (by rfl) (by rfl) (by omega) ?_
      refine walkT ?_
      refine walk ?_
      exact ⟨by omega, _, rfl, hx.app _, hp_old hB, by omega, hvp⟩
    · simp only [decide_eq_false_iff_not] at hq
      rw [if_neg (by omega)] at hvp
      rw [hvp]
      clear hvp hlt0 hokp
      refine walk ?_
      refine iw_loop places.length (fun i al H' => ∃ n2 : Nat, al = [(1, .ptr (H.length + 0) 0), (3, .int .i64 n2), (5, .int .i64 i)] ∧ H' = H1 ∧ n2 = n) ⟨_, rfl, rfl, rfl⟩ ?_
      rintro i _ _ hi ⟨n2, rfl, rfl, rfl⟩
      have hn3 : nls n2 places = n2 := by
        cases places with
        | nil => rfl
        | cons p ps => simp only [nls]; rw [if_neg (by omega)]
      have hq3 : decide ((n2 : Int) ≤ 24000) = false := by simp only [decide_eq_false_iff_not]; omega
      rw [hn3]
      refine walk ?_
      cases hc3 : decide ((i : Int) < ((places.map encPl).length : Int))
      · refine walk ?_
        exact fp_r rfl (ends_ext hx (Plain.bool _))
      · refine walk ?_
        exact fp_r rfl (ends_ext hx (Plain.bool _))
end Go.Ab
