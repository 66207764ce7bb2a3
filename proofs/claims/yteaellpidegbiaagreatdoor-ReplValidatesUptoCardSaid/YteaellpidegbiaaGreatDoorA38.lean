/- Part 38 of the proof. -/
import Derived.Test.YteaellpidegbiaaGreatDoorA37
set_option linter.unusedVariables false
set_option linter.unusedSimpArgs false
namespace Go.Ab
open Go
set_option maxRecDepth 100000
set_option maxHeartbeats 8000000
abbrev Bt := List UInt8
theorem walkA {g n : Prop} (k : n) (h : Hide n → g := by (intro k); (repeat (first | ((with_reducible apply st_mv); focus (first | exact ev_c | (apply ev_t; (repeat (first | exact lk_hit | (apply lk_miss; focus exact rfl) | exact lk_nil))))) | ((with_reducible apply st_adds); (focus exact rfl); (focus exact rfl); (focus ((try simp only [List.length_append, List.length_cons, List.length_nil]); omega))) | ((with_reducible apply st_idxA); (focus (first | exact ev_c | (apply ev_t; (repeat (first | exact lk_hit | (apply lk_miss; focus exact rfl) | exact lk_nil))))); (focus assumption); (focus exact rfl); (focus assumption)) | ((with_reducible apply st_idxS); (focus (first | exact ev_c | (apply ev_t; (repeat (first | exact lk_hit | (apply lk_miss; focus exact rfl) | exact lk_nil))))); (focus assumption); (focus exact rfl); (focus assumption)) | ((with_reducible apply st_loadcA); (focus exact rfl); (focus exact rfl)) | ((with_reducible apply st_lenStr); (focus exact rfl)) | ((with_reducible apply st_lss); (focus exact rfl); (focus exact rfl)) | ((with_reducible apply st_eqi); (focus exact rfl); (focus exact rfl)) | ((with_reducible apply st_field); (focus exact rfl); (focus exact rfl)) | ((with_reducible apply st_extract); (focus exact rfl); (focus exact rfl)) | ((with_reducible apply st_gtr); (focus exact rfl); (focus exact rfl)) | ((with_reducible apply st_leq); (focus exact rfl); (focus exact rfl)) | ((with_reducible apply st_geq); (focus exact rfl); (focus exact rfl)) | ((with_reducible apply st_nei); (focus exact rfl); (focus exact rfl)) | ((with_reducible apply st_eqs); (focus exact rfl); (focus exact rfl)) | ((with_reducible apply st_nes); (focus exact rfl); (focus exact rfl)) | ((with_reducible apply st_lts); (focus exact rfl); (focus exact rfl)) | ((with_reducible apply st_gts); (focus exact rfl); (focus exact rfl)) | ((with_reducible apply st_not); (focus exact rfl)) | ((with_reducible apply st_fieldc); (focus exact rfl); (focus exact rfl)) | ((with_reducible apply st_loadc); (focus exact rfl); (focus exact rfl)) | ((with_reducible apply st_len); (focus (first | exact ev_c | (apply ev_t; (repeat (first | exact lk_hit | (apply lk_miss; focus exact rfl) | exact lk_nil))))); (focus assumption)) | ((with_reducible apply st_idx); (focus (first | exact ev_c | (apply ev_t; (repeat (first | exact lk_hit | (apply lk_miss; focus exact rfl) | exact lk_nil))))); (focus assumption); (focus exact rfl); (focus assumption)) | ((with_reducible apply st_idxStr); (focus exact rfl); (focus exact rfl); (focus assumption)) | ((with_reducible apply st_storeW); (focus exact rfl); (focus exact rfl); (focus exact rfl); (focus exact rfl); (focus exact rfl); (focus (first | exact rfl | exact all_lst)); (focus exact rfl)) | ((with_reducible apply st_loadnA); (focus exact rfl); (focus exact rfl); (focus exact rfl)) | ((with_reducible apply st_loadA); (focus exact rfl); (focus (first | assumption | exact hp_old (by assumption))); (focus exact rfl)) | ((with_reducible apply st_alloc); (focus exact rfl); (focus exact rfl)) | ((with_reducible apply st_storen); (focus exact rfl); (focus (first | exact ev_c | (apply ev_t; (repeat (first | exact lk_hit | (apply lk_miss; focus exact rfl) | exact lk_nil))))); (focus exact rfl); (focus exact rfl); (focus exact rfl); (focus exact rfl)) | ((with_reducible apply st_loadn); (focus exact rfl); (focus exact rfl); (focus exact rfl)) | ((with_reducible apply st_load); (focus exact rfl); (focus (first | assumption | exact hp_old (by assumption))); (focus exact rfl)) | ((with_reducible apply st_box); (focus (first | exact ev_c | (apply ev_t; (repeat (first | exact lk_hit | (apply lk_miss; focus exact rfl) | exact lk_nil))))); (focus exact rfl); (focus exact rfl); (focus exact rfl)) | ((with_reducible apply st_fieldp); (focus exact rfl)) | ((with_reducible apply st_lenSl); (focus exact rfl)) | ((with_reducible apply st_idxSl); (focus exact rfl); (focus exact rfl); (focus (first | decide | omega))) | ((with_reducible apply st_inc); (focus exact rfl); (focus omega)) | ((with_reducible apply st_end); focus (repeat (first | exact kp_nil | ((with_reducible apply kp); focus (repeat (first | exact lk_hit | (apply lk_miss; focus exact rfl) | exact lk_nil)))))) | ((with_reducible apply vs_end); focus (repeat (first | exact kp_nil | ((with_reducible apply kp); focus (repeat (first | exact lk_hit | (apply lk_miss; focus exact rfl) | exact lk_nil)))))) | ((with_reducible apply vs_q); (focus exact rfl); (focus exact rfl)) | ((with_reducible apply vs_b); (focus exact rfl); (focus exact rfl); (focus exact Nat.le_refl _)) | ((with_reducible apply st_finB)) | (with_reducible apply st_finQ) | ((with_reducible apply st_pickT); (focus (first | exact rfl | exact congrArg AV.bool (by assumption))); (focus (first | exact ev_c | (apply ev_t; (repeat (first | exact lk_hit | (apply lk_miss; focus exact rfl) | exact lk_nil)))))) | ((with_reducible apply st_pickF); (focus (first | exact rfl | exact congrArg AV.bool (by assumption))); (focus (first | exact ev_c | (apply ev_t; (repeat (first | exact lk_hit | (apply lk_miss; focus exact rfl) | exact lk_nil)))))) | ((with_reducible apply st_yes); (focus (first | exact rfl | exact congrArg AV.bool (by assumption)))) | ((with_reducible apply st_noT); (focus (first | exact rfl | exact congrArg AV.bool (by assumption)))) | ((with_reducible apply st_noF); (focus (first | exact rfl | exact congrArg AV.bool (by assumption)))) | ((with_reducible apply st_no'); (focus exact rfl)) | with_reducible refine iw_seq ?_ | with_reducible refine iw_region ?_ | with_reducible refine nx_n ?_ | with_reducible refine iw_skip ?_ | with_reducible refine iw_block ?_ | with_reducible refine iw_ret ?_ | with_reducible refine iw_exit ?_ | with_reducible refine nx_x ?_ | with_reducible refine nx_r ?_ | with_reducible refine bk_n ?_ | with_reducible refine bk_r ?_ | with_reducible refine bk_x ?_ | with_reducible refine bk_y rfl ?_ | ((with_reducible apply iw_yes); (focus (first | exact rfl | exact congrArg AV.bool (by assumption)))) | ((with_reducible apply iw_no); (focus (first | exact rfl | exact congrArg AV.bool (by assumption)))) | refine iw_seq ?_ | refine iw_drawq rfl rfl ?_ | with_reducible refine iw_drawS ?_)); (exact k.h)) : g := h ⟨k⟩
def arrowS (k : Int) : Bt := if k = 1 then [40, 45, 62, 41] else if k = 2 then [64, 45, 62] else if k = 3 then [64, 62] else [45, 62]
theorem c31 (k : Int) (H : Heap) : ACall PP 31 [.int .i64 k] H (Just H (.str (arrowS k))) := by
  refine ACall.gives (is31.c1 nonum mixed rfl ?_)
  by_cases h1 : k = 1
  · subst h1; refine walk ?_; exact fr
  by_cases h2 : k = 2
  · subst h2; refine walk ?_; exact fr
  by_cases h3 : k = 3
  · subst h3; refine walk ?_; exact fr
  rw [show arrowS k = [45, 62] by simp [arrowS, h1, h2, h3]]
  have e1 : (k == 1) = false := by simpa using h1
  have e2 : (k == 2) = false := by simpa using h2
  have e3 : (k == 3) = false := by simpa using h3
  refine walk ?_
  exact fr
def isAl (c : UInt8) : Bool := (decide ((c.toNat : Int) ≥ 97) && decide ((c.toNat : Int) ≤ 122)) || (decide ((c.toNat : Int) ≥ 65) && decide ((c.toNat : Int) ≤ 90)) || (decide ((c.toNat : Int) ≥ 48) && decide ((c.toNat : Int) ≤ 57))
theorem c250 (c : UInt8) (H : Heap) : ACall PP 250 [.int .u8 c.toNat] H (Just H (.bool (isAl c))) := by
  refine ACall.gives (is250.c1 nonum mixed rfl ?_)
  unfold isAl
  refine walk ?_
  cases h1 : decide ((c.toNat : Int) ≥ 97)
  · refine walk ?_
    cases h3 : decide ((c.toNat : Int) ≥ 65)
    · refine walk ?_
      cases h5 : decide ((c.toNat : Int) ≥ 48)
      · refine walk ?_; exact fr
      · refine walk ?_
        cases h6 : decide ((c.toNat : Int) ≤ 57)
        · refine walk ?_; exact fr
        · refine walk ?_; exact fr
    · refine walk ?_
      cases h4 : decide ((c.toNat : Int) ≤ 90)
      · refine walk ?_
        cases h5 : decide ((c.toNat : Int) ≥ 48)
        · refine walk ?_; exact fr
        · refine walk ?_
          cases h6 : decide ((c.toNat : Int) ≤ 57)
          · refine walk ?_; exact fr
          · refine walk ?_; exact fr
      · refine walk ?_; exact fr
  · refine walk ?_
    cases h2 : decide ((c.toNat : Int) ≤ 122)
    · refine walk ?_
      cases h3 : decide ((c.toNat : Int) ≥ 65)
      · refine walk ?_
        cases h5 : decide ((c.toNat : Int) ≥ 48)
        · refine walk ?_; exact fr
        · refine walk ?_
          cases h6 : decide ((c.toNat : Int) ≤ 57)
          · refine walk ?_; exact fr
          · refine walk ?_; exact fr
      · refine walk ?_
        cases h4 : decide ((c.toNat : Int) ≤ 90)
        · refine walk ?_
          cases h5 : decide ((c.toNat : Int) ≥ 48)
          · refine walk ?_; exact fr
          · refine walk ?_
            cases h6 : decide ((c.toNat : Int) ≤ 57)
            · refine walk ?_; exact fr
            · refine walk ?_; exact fr
        · refine walk ?_; exact fr
    · refine walk ?_; exact fr
theorem c220 (c : UInt8) (H : Heap) : ACall PP 220 [.int .u8 c.toNat] H (Just H (.bool (isAl c))) := by
  refine ACall.gives (is220.c1 nonum mixed rfl ?_)
  unfold isAl
  refine walk ?_
  cases h1 : decide ((c.toNat : Int) ≥ 97)
  · refine walk ?_
    cases h3 : decide ((c.toNat : Int) ≥ 65)
    · refine walk ?_
      cases h5 : decide ((c.toNat : Int) ≥ 48)
      · refine walk ?_; exact fr
      · refine walk ?_
        cases h6 : decide ((c.toNat : Int) ≤ 57)
        · refine walk ?_; exact fr
        · refine walk ?_; exact fr
    · refine walk ?_
      cases h4 : decide ((c.toNat : Int) ≤ 90)
      · refine walk ?_
        cases h5 : decide ((c.toNat : Int) ≥ 48)
        · refine walk ?_; exact fr
        · refine walk ?_
          cases h6 : decide ((c.toNat : Int) ≤ 57)
          · refine walk ?_; exact fr
          · refine walk ?_; exact fr
      · refine walk ?_; exact fr
  · refine walk ?_
    cases h2 : decide ((c.toNat : Int) ≤ 122)
    · refine walk ?_
      cases h3 : decide ((c.toNat : Int) ≥ 65)
      · refine walk ?_
        cases h5 : decide ((c.toNat : Int) ≥ 48)
        · refine walk ?_; exact fr
        · refine walk ?_
          cases h6 : decide ((c.toNat : Int) ≤ 57)
          · refine walk ?_; exact fr
          · refine walk ?_; exact fr
      · refine walk ?_
        cases h4 : decide ((c.toNat : Int) ≤ 90)
        · refine walk ?_
          cases h5 : decide ((c.toNat : Int) ≥ 48)
          · refine walk ?_; exact fr
          · refine walk ?_
            cases h6 : decide ((c.toNat : Int) ≤ 57)
            · refine walk ?_; exact fr
            · refine walk ?_; exact fr
        · refine walk ?_; exact fr
    · refine walk ?_; exact fr
def lvl (op : Int) : Int := if op = 14 then 0 else if op = 7 then 1 else if op = 5 then 2 else if op = 6 then 3 else if op = 15 then 4 else if op = 13 then 5 else if op = 4 then 6 else if op = 11 then 7 else if op = 12 then 7 else
  if op = 8 then 8 else if op = 9 then 8 else if op = 10 then 8 else 9
theorem c218 {op : Int} (ho : 0 ≤ op ∧ op ≤ 15) (H : Heap) : ACall PP 218 [.int .i64 op] H (Just H (.int .i64 (lvl op))) := by
  refine ACall.gives (is218.c1 nonum mixed rfl ?_)
  have : op = 0 ∨ op = 1 ∨ op = 2 ∨ op = 3 ∨ op = 4 ∨ op = 5 ∨ op = 6 ∨ op = 7 ∨ op = 8 ∨ op = 9 ∨ op = 10 ∨ op = 11 ∨ op = 12 ∨ op = 13 ∨ op = 14 ∨ op = 15 := by omega
  rcases this with rfl | rfl | rfl | rfl | rfl | rfl | rfl | rfl | rfl | rfl | rfl | rfl | rfl | rfl | rfl | rfl <;> (refine walk ?_; exact fr)
theorem c188 {op : Int} (ho : 0 ≤ op ∧ op ≤ 15) {s : Bt} {nl : Bool} {l : List Ex} (H : Heap) : ACall PP 188 [enc (.mk op s nl l)] H (Just H (.int .i64 (lvl op))) := by
  rw [enc_mk]
  refine ACall.gives (is188.c1 nonum mixed rfl ?_)
  have : op = 0 ∨ op = 1 ∨ op = 2 ∨ op = 3 ∨ op = 4 ∨ op = 5 ∨ op = 6 ∨ op = 7 ∨ op = 8 ∨ op = 9 ∨ op = 10 ∨ op = 11 ∨ op = 12 ∨ op = 13 ∨ op = 14 ∨ op = 15 := by omega
  rcases this with rfl | rfl | rfl | rfl | rfl | rfl | rfl | rfl | rfl | rfl | rfl | rfl | rfl | rfl | rfl | rfl <;> (refine walk ?_; exact fr)
end Go.Ab
namespace Go.Ab
open Go
set_option maxRecDepth 100000
set_option maxHeartbeats 8000000
def wSym (s : Bt) : Bt := if ((s.length : Int) == 1) then s else [60] ++ s ++ [62]
def wtext : List Bt → Bt
  | [] => []
  | s :: w => wSym s ++ wtext w
theorem wtext_app (a b : List Bt) : wtext (a ++ b) = wtext a ++ wtext b := by
  induction a with
  | nil => rfl
  | cons x xs ih => simp [wtext, ih]
theorem wtext_take {l : List Bt} {i : Nat} {x : Bt} (h : l[i]? = some x) : wtext (l.take (i + 1)) = wtext (l.take i) ++ wSym x := by
  rw [take_succ_get h, wtext_app]; simp [wtext]
theorem wtext_le (l : List Bt) (i : Nat) : (wtext (l.take i)).length ≤ (wtext l).length := by
  conv => rhs; rw [← List.take_append_drop i l, wtext_app, List.length_append]
  omega
theorem wSym_le (s : Bt) : (wSym s).length ≤ s.length + 2 := by
  unfold wSym; split <;> simp
theorem c70 {v : AV} {w : List Bt} (hv : Sl 1 v (w.map .str)) (hw : w.length ≤ 1000000000000) (hb : (wtext w).length ≤ 10000000000000) (H : Heap) : ACall PP 70 [v] H (Just H (.str (wtext w))) := by
  have hl : (w.map AV.str).length = w.length := List.length_map _
  refine ACall.gives (is70.c1 nonum mixed rfl ?_)
  refine walk ?_
  refine iw_loop w.length (fun i al H' => al = [(0, v), (3, .str (wtext (w.take i))), (4, .int .i64 i)] ∧ H' = H ++ []) ⟨rfl, rfl⟩ ?_
  rintro i _ _ hi ⟨rfl, rfl⟩
  refine walk ?_
  refine iw_cond _ rfl ?_ ?_ <;> intro hc
  · simp only [decide_eq_true_eq] at hc
    obtain ⟨c, hc⟩ := get_ex (l := w) (i := i) (by omega)
    have hu := getmap (f := AV.str) hc
    have h1 := wtext_le w (i + 1)
    have h2 := wtext_le w i
    rw [wtext_take hc] at h1 ⊢
    unfold wSym at h1 ⊢
    rw [List.length_append] at h1
    refine walk ?_
    cases hs : ((c.length : Int) == 1)
    · simp only [hs, Bool.false_eq_true, if_false, List.length_append, List.length_cons, List.length_nil] at h1 ⊢
      refine walkA ?_
      exact ⟨by omega, rfl, rfl⟩
    · simp only [hs, if_true] at h1 ⊢
      refine walkA ?_
      exact ⟨by omega, rfl, rfl⟩
  simp only [decide_eq_false_iff_not] at hc
  rw [show w.take i = w from List.take_of_length_le (by omega)]
  refine walk ?_
  exact fr
def ptext (w : List Bt) : Bt := if ((w.length : Int) == 0) then [91, 93] else wtext w
theorem c35 {v : AV} {w : List Bt} (hv : Sl 1 v (w.map .str)) (hw : w.length ≤ 1000000000000) (hb : (wtext w).length ≤ 10000000000000) (H : Heap) : ACall PP 35 [v] H (Just H (.str (ptext w))) := by
  have hl : (w.map AV.str).length = w.length := List.length_map _
  have e : (((w.map AV.str).length : Int) == 0) = ((w.length : Int) == 0) := by rw [hl]
  refine ACall.gives (is35.c1 nonum mixed rfl ?_)
  unfold ptext
  refine walk ?_
  rw [e]
  cases h : ((w.length : Int) == 0)
  · refine walk ?_
    refine st_call rfl (c70 hv hw hb _) ?_
    refine walk ?_
    exact fr
  · refine walk ?_
    exact fr
def brk (w : List Bt) : Bool := w == [[91], [93]]
theorem c34 {v : AV} {w : List Bt} (hv : Sl 1 v (w.map .str)) (H : Heap) : ACall PP 34 [v] H (Just H (.bool (brk w))) := by
  have hl : (w.map AV.str).length = w.length := List.length_map _
  have e : (((w.map AV.str).length : Int) == 2) = ((w.length : Int) == 2) := by rw [hl]
  refine ACall.gives (is34.c1 nonum mixed rfl ?_)
  refine walk ?_
  rw [e]
  cases h : ((w.length : Int) == 2)
  · have : brk w = false := by
      unfold brk
      cases h2 : w == [[91], [93]] with
      | false => rfl
      | true => rw [beq_iff_eq] at h2; subst h2; simp at h
    rw [this]
    refine walk ?_
    exact fr
  · match w, h with
    | [a, b], _ =>
      have hu : ([a, b].map AV.str)[0]? = some (.str a) := rfl
      have hu2 : ([a, b].map AV.str)[1]? = some (.str b) := rfl
      have e2 : brk [a, b] = (a == [91] && b == [93]) := by simp [brk]
      rw [e2]
      refine walk ?_
      refine walk ?_
      cases ha : (a == [91])
      · refine walk ?_
        exact fr
      · refine walk ?_
        refine walk ?_
        cases hbb : (b == [93])
        · refine walk ?_
          exact fr
        · refine walk ?_
          exact fr
    | [], h => simp at h
    | [_], h => simp at h
    | _ :: _ :: _ :: _, h => simp at h; omega
def sSym (s : Bt) : Bt := if decide ((s.length : Int) > 1) then [60] ++ s ++ [62] else match s with
  | c :: _ => if isAl c then s else [92] ++ s
  | [] => []
theorem c191 {s : Bt} (hs : okS s) (h0 : s ≠ []) (H : Heap) : ACall PP 191 [.str s] H (Just H (.str (sSym s))) := by
  refine ACall.gives (is191.c1 nonum mixed rfl ?_)
  unfold okS at hs
  unfold sSym
  refine walk ?_
  cases h : decide ((s.length : Int) > 1)
  · match s, h0 with
    | c :: s', _ =>
      have hc : (c :: s')[0]? = some c := rfl
      have hs' : s'.length + 1 ≤ 1000000000000 := hs
      refine walk ?_
      refine st_call rfl (c220 c _) ?_
      simp only [Bool.false_eq_true, if_false]
      refine walk ?_
      cases ha : isAl c
      · refine walkA ?_
        exact fr
      · refine walk ?_
        exact fr
  · simp only [if_true]
    refine walkA ?_
    exact fr
def sign0 (op : Int) (s : Bt) : Bt := if op = 1 then [46] else if op = 2 then [91, 93] else if op = 3 then [33] else sSym s
theorem c219 {op : Int} {s : Bt} {nl : Bool} {l : List Ex} (hs : okS s) (ho : 0 ≤ op ∧ op ≤ 3) (h0 : op = 0 → s ≠ []) (H : Heap) : ACall PP 219 [enc (.mk op s nl l)] H (Just H (.str (sign0 op s))) := by
  rw [enc_mk]
  refine ACall.gives (is219.c1 nonum mixed rfl ?_)
  unfold okS at hs
  have : op = 0 ∨ op = 1 ∨ op = 2 ∨ op = 3 := by omega
  rcases this with rfl | rfl | rfl | rfl
  · rw [show sign0 0 s = sSym s from rfl]
    unfold sSym
    have h0 := h0 rfl
    refine walk ?_
    cases h : decide ((s.length : Int) > 1)
    · match s, h0 with
      | c :: s', _ =>
        have hc : (c :: s')[0]? = some c := rfl
        have hs' : s'.length + 1 ≤ 1000000000000 := hs
        refine walk ?_
        refine st_call rfl (c250 c _) ?_
        simp only [Bool.false_eq_true, if_false]
        refine walk ?_
        cases ha : isAl c
        · refine walkA ?_
          exact fr
        · refine walk ?_
          exact fr
    · simp only [if_true]
      refine walkA ?_
      exact fr
  · refine walk ?_
    exact fr
  · refine walk ?_
    exact fr
  · refine walk ?_
    exact fr
end Go.Ab
namespace Go.Ab
open Go
set_option maxRecDepth 100000
set_option maxHeartbeats 8000000
def Ex.op : Ex → Int
  | .mk op _ _ _ => op
abbrev Kd := Int × Bt
def tx (least : Int) (k : Kd) : Bt := if lvl k.1 < least then [91] ++ k.2 ++ [93] else k.2
def tails (sg : Bt) (least : Int) : List Kd → Bt
  | [] => []
  | k :: ks => sg ++ tx least k ++ tails sg least ks
def jn (sg : Bt) (f least : Int) : List Kd → Bt
  | [] => []
  | k :: ks => tx f k ++ tails sg least ks
def hdT (least : Int) : List Kd → Bt
  | [] => []
  | k :: _ => tx least k
def only3 : List Kd → Bt
  | [a, b, c] => tx 1 a ++ [32, 61, 62] ++ (if (b.1 != 2) then [32] ++ tx 1 b else []) ++ [32, 95] ++ (if (c.1 != 2) then [32] ++ tx 1 c else [])
  | _ => []
def node (op : Int) (s : Bt) (ks : List Kd) : Bt :=
  if op = 14 then only3 ks else if op = 7 then jn [32, 45, 32] 1 2 ks else if op = 5 then jn [32, 124, 32] 3 3 ks else if op = 6 then jn [32, 38, 32] 4 4 ks else
  if op = 15 then jn [32, 37, 32] 4 5 ks else if op = 13 then jn [32, 47, 32] 5 6 ks else if op = 4 then jn [] 7 7 ks else if op = 11 then [126] ++ hdT 7 ks else if op = 12 then [36] ++ hdT 7 ks else
  if op = 8 then hdT 8 ks ++ [42] else if op = 9 then hdT 8 ks ++ [43] else if op = 10 then hdT 8 ks ++ [63] else sign0 op s
mutual
def body : Ex → Bt
  | .mk op s _ l => node op s (bodies l)
def bodies : List Ex → List Kd
  | [] => []
  | x :: xs => (x.op, body x) :: bodies xs
end
def textE (e : Ex) (least : Int) : Bt := tx least (e.op, body e)
theorem bodies_map : ∀ l : List Ex, bodies l = l.map fun x => (x.op, body x)
  | [] => rfl
  | x :: xs => by simp only [bodies, bodies_map xs, List.map_cons]
def sumK : List Kd → Nat
  | [] => 0
  | k :: ks => k.2.length + 5 + sumK ks
theorem tx_le (f : Int) (k : Kd) : (tx f k).length ≤ k.2.length + 2 := by unfold tx; split <;> simp
theorem tails_le (sg : Bt) (hs : sg.length ≤ 3) (f : Int) : ∀ ks, (tails sg f ks).length ≤ sumK ks
  | [] => Nat.le_refl _
  | k :: ks => by
    have := tails_le sg hs f ks
    have := tx_le f k
    simp only [tails, sumK, List.length_append]; omega
theorem jn_le (sg : Bt) (hs : sg.length ≤ 3) (f g : Int) : ∀ ks, (jn sg f g ks).length ≤ sumK ks
  | [] => Nat.le_refl _
  | k :: ks => by
    have := tails_le sg hs g ks
    have := tx_le f k
    simp only [jn, sumK, List.length_append]; omega
theorem hdT_le (f : Int) : ∀ ks, (hdT f ks).length ≤ sumK ks
  | [] => Nat.le_refl _
  | k :: ks => by
    have := tx_le f k
    simp only [hdT, sumK]; omega
theorem only3_le : ∀ ks, (only3 ks).length ≤ sumK ks + 16 := by
  intro ks
  unfold only3
  split
  · rename_i a b c
    have := tx_le 1 a
    have := tx_le 1 b
    have := tx_le 1 c
    have e1 : ∀ (q : Bool) (t : Bt), (if q = true then t else []).length ≤ t.length := by intro q t; cases q <;> simp
    have := e1 (b.1 != 2) ([32] ++ tx 1 b)
    have := e1 (c.1 != 2) ([32] ++ tx 1 c)
    simp only [sumK, List.length_append, List.length_cons, List.length_nil] at *
    omega
  · simp
theorem sSym_le (s : Bt) : (sSym s).length ≤ s.length + 2 := by
  unfold sSym
  split
  · simp
  · split
    · split <;> simp
    · simp
theorem sign0_le (op : Int) (s : Bt) : (sign0 op s).length ≤ s.length + 2 := by
  unfold sign0
  have := sSym_le s
  split
  · simp
  · split
    · simp
    · split
      · simp
      · exact this
theorem node_le (op : Int) (s : Bt) (ks : List Kd) : (node op s ks).length ≤ s.length + sumK ks + 16 := by
  have h1 := only3_le ks
  have h2 := fun sg h f g => jn_le sg h f g ks
  have h3 := fun f => hdT_le f ks
  have h4 := sign0_le op s
  unfold node
  have := h3 7
  have := h3 8
  by_cases e14 : op = 14
  · rw [if_pos e14]; omega
  rw [if_neg e14]
  by_cases e7 : op = 7
  · rw [if_pos e7]; have := h2 [32, 45, 32] (by decide) 1 2; omega
  rw [if_neg e7]
  by_cases e5 : op = 5
  · rw [if_pos e5]; have := h2 [32, 124, 32] (by decide) 3 3; omega
  rw [if_neg e5]
  by_cases e6 : op = 6
  · rw [if_pos e6]; have := h2 [32, 38, 32] (by decide) 4 4; omega
  rw [if_neg e6]
  by_cases e15 : op = 15
  · rw [if_pos e15]; have := h2 [32, 37, 32] (by decide) 4 5; omega
  rw [if_neg e15]
  by_cases e13 : op = 13
  · rw [if_pos e13]; have := h2 [32, 47, 32] (by decide) 5 6; omega
  rw [if_neg e13]
  by_cases e4 : op = 4
  · rw [if_pos e4]; have := h2 [] (by decide) 7 7; omega
  rw [if_neg e4]
  by_cases e11 : op = 11
  · rw [if_pos e11]; simp only [List.length_append, List.length_cons, List.length_nil]; omega
  rw [if_neg e11]
  by_cases e12 : op = 12
  · rw [if_pos e12]; simp only [List.length_append, List.length_cons, List.length_nil]; omega
  rw [if_neg e12]
  by_cases e8 : op = 8
  · rw [if_pos e8]; simp only [List.length_append, List.length_cons, List.length_nil]; omega
  rw [if_neg e8]
  by_cases e9 : op = 9
  · rw [if_pos e9]; simp only [List.length_append, List.length_cons, List.length_nil]; omega
  rw [if_neg e9]
  by_cases e10 : op = 10
  · rw [if_pos e10]; simp only [List.length_append, List.length_cons, List.length_nil]; omega
  rw [if_neg e10]
  omega
mutual
theorem body_le : ∀ e : Ex, (body e).length + 5 ≤ 21 * e.w
  | .mk op s nl l => by
    have := bodies_le l
    have := node_le op s (bodies l)
    simp only [body, Ex.w]; omega
theorem bodies_le : ∀ l : List Ex, sumK (bodies l) ≤ 21 * ws l
  | [] => Nat.le_refl _
  | x :: xs => by
    have := body_le x
    have := bodies_le xs
    simp only [bodies, sumK, ws] at *; omega
end
theorem textE_le (e : Ex) (f : Int) : (textE e f).length ≤ 21 * e.w := by
  have := body_le e
  have := tx_le f (e.op, body e)
  unfold textE; change _ ≤ (body e).length + 2 at this; omega
theorem sumK_app (a b : List Kd) : sumK (a ++ b) = sumK a + sumK b := by
  induction a with
  | nil => simp [sumK]
  | cons x xs ih => simp only [List.cons_append, sumK, ih]; omega
theorem sumK_take (l : List Kd) (i : Nat) : sumK (l.take i) ≤ sumK l := by
  conv => rhs; rw [← List.take_append_drop i l, sumK_app]
  omega
theorem tails_app (sg : Bt) (f : Int) (a b : List Kd) : tails sg f (a ++ b) = tails sg f a ++ tails sg f b := by
  induction a with
  | nil => rfl
  | cons x xs ih => simp [tails, ih]
theorem jn_snoc {sg : Bt} {f g : Int} {ks : List Kd} {i : Nat} {k : Kd} (h : ks[i + 1]? = some k) : jn sg f g (ks.take (i + 1 + 1)) = jn sg f g (ks.take (i + 1)) ++ (sg ++ tx g k) := by
  match ks, h with
  | x :: xs, h =>
    have h : xs[i]? = some k := by simpa using h
    rw [List.take_succ_cons, List.take_succ_cons, take_succ_get h]
    simp only [jn, tails_app, tails, List.append_nil, List.append_assoc]
theorem c190 {v : AV} {l : List Ex} (hv : Sl 3 v (l.map enc)) (hw : ws l ≤ 1000000000000) {sg : Bt} (hs : sg.length ≤ 3) (f g : Int)
    (hk : ∀ x ∈ l, ∀ least H, ACall PP 136 [enc x, .int .i64 least] H (Just H (.str (textE x least)))) (H : Heap) :
    ACall PP 190 [v, .int .i64 f, .int .i64 g, .str sg] H (Just H (.str (jn sg f g (bodies l)))) := by
  have hl : (l.map enc).length = l.length := List.length_map _
  have hb : (bodies l).length = l.length := by rw [bodies_map, List.length_map]
  have hsz := bodies_le l
  have hlw : l.length ≤ ws l := Nat.le_trans (length_sizes l) (sizes_ws l)
  refine ACall.gives (is190.c4 nonum mixed rfl ?_)
  refine walk ?_
  refine iw_loop l.length (fun i al H' => al = [(0, v), (1, .int .i64 f), (2, .int .i64 g), (3, .str sg), (9, .str (jn sg f g ((bodies l).take i))), (10, .int .i64 i)] ∧ H' = H ++ []) ⟨rfl, rfl⟩ ?_
  rintro i _ _ hi ⟨rfl, rfl⟩
  refine walk ?_
  refine iw_cond _ rfl ?_ ?_ <;> intro hc
  · simp only [decide_eq_true_eq] at hc
    obtain ⟨c, hc⟩ := get_ex (l := l) (i := i) (by omega)
    have hu := getmap (f := enc) hc
    have kk := hk c (List.mem_of_getElem? hc)
    have hkd : (bodies l)[i]? = some (c.op, body c) := by rw [bodies_map]; exact getmap hc
    have tl := textE_le c g
    have hcw := ws_mem (List.mem_of_getElem? hc)
    obtain ⟨op', s', nl', l'⟩ := c
    rw [enc_mk] at hu kk
    cases i with
    | zero =>
      have e1 : jn sg f g ((bodies l).take (0 + 1)) = textE (.mk op' s' nl' l') f := by
        match bodies l, hkd with
        | x :: xs, hkd => injection hkd with hkd; subst hkd; simp [jn, tails, textE]
      rw [e1]
      refine walk ?_
      refine st_call rfl (kk _ _) ?_
      refine walk ?_
      exact ⟨by omega, rfl, rfl⟩
    | succ i =>
      have e0 : (((i + 1 : Nat) : Int) == 0) = false := by simp; omega
      have j1 := jn_le sg hs f g ((bodies l).take (i + 1))
      have j2 := sumK_take (bodies l) (i + 1)
      rw [jn_snoc hkd]
      unfold textE at tl kk
      have tl2 := tx_le g ((Ex.mk op' s' nl' l').op, body (.mk op' s' nl' l'))
      refine walk ?_
      refine st_call rfl (kk _ _) ?_
      refine walkA ?_
      exact ⟨by omega, rfl, rfl⟩
  simp only [decide_eq_false_iff_not] at hc
  rw [show (bodies l).take i = bodies l from List.take_of_length_le (by omega)]
  refine walk ?_
  exact fr
end Go.Ab
namespace Go.Ab
open Go
set_option maxRecDepth 100000
set_option maxHeartbeats 8000000
theorem frs {rs : List RV} {al : AL} {H G : Heap} {a b : Bt} (e : a = b) (hv : resultL rs al (H ++ G) = some (.str a) := by rfl) :
    fpostL rs (Gives H (.str b)) .ret al (H ++ G) := by subst e; exact fp_r hv (ends_ret (Plain.str _))
theorem right_facts {op : Int} {s : Bt} {nl : Bool} {l : List Ex} (h : (Ex.mk op s nl l).right = true) :
    (0 ≤ op ∧ op ≤ 15) ∧ (op = 0 → s ≠ []) ∧ (op = 14 → l.length = 3) ∧ (op = 7 ∨ op = 13 ∨ op = 15 → l.length = 2) ∧ (op = 8 ∨ op = 9 ∨ op = 10 ∨ op = 11 ∨ op = 12 → l.length = 1) ∧ (∀ x ∈ l, x.right = true) := by
  have hr : (Ex.mk op s nl l).right = (!badNode (kidsS op) op s l.length && !badSym op s && !(l.any fun x => !x.right)) := by rw [rights_any]; rfl
  rw [hr] at h
  simp only [Bool.and_eq_true, Bool.not_eq_true', List.any_eq_false] at h
  obtain ⟨⟨h1, h2⟩, h3⟩ := h
  have h3 : ∀ x ∈ l, x.right = true := fun x hx => by have := h3 x hx; simpa using this
  rcases ops_all op with ho | ho
  · refine ⟨by omega, ?_, ?_, ?_, ?_, h3⟩
    · rintro rfl
      rintro rfl
      revert h2; decide
    · rintro rfl
      simp [badNode, kidsS] at h1; omega
    · rintro (rfl | rfl | rfl) <;> simp [badNode, kidsS] at h1 <;> omega
    · rintro (rfl | rfl | rfl | rfl | rfl) <;> simp [badNode, kidsS] at h1 <;> omega
  · have e : kidsS op = (0, 0, false) := by
      unfold kidsS
      rw [if_neg (by omega), if_neg (by omega), if_neg (by omega), if_neg (by omega), if_neg (by omega)]
    rw [e] at h1
    simp [badNode] at h1
theorem ws3 {a b c : Ex} : ws [a, b, c] = a.w + (b.w + (c.w + 0)) := rfl
theorem c189 {v : AV} {a b c : Ex} (hv : Sl 3 v ([a, b, c].map enc)) (hw : ws [a, b, c] ≤ 1000000000000)
    (hk : ∀ x ∈ [a, b, c], ∀ least H, ACall PP 136 [enc x, .int .i64 least] H (Just H (.str (textE x least)))) (H : Heap) :
    ACall PP 189 [v] H (Just H (.str (only3 (bodies [a, b, c])))) := by
  have ka := hk a (by simp) 1
  have kb := hk b (by simp) 1
  have kc := hk c (by simp) 1
  have ta := textE_le a 1
  have tb := textE_le b 1
  have tc := textE_le c 1
  rw [ws3] at hw
  have ho : only3 (bodies [a, b, c]) = textE a 1 ++ [32, 61, 62] ++ (if (b.op != 2) then [32] ++ textE b 1 else []) ++ [32, 95] ++ (if (c.op != 2) then [32] ++ textE c 1 else []) := rfl
  rw [ho]
  generalize textE a 1 = wa at *
  generalize textE b 1 = wb at *
  generalize textE c 1 = wc at *
  obtain ⟨op1, s1, nl1, l1⟩ := a
  obtain ⟨op2, s2, nl2, l2⟩ := b
  obtain ⟨op3, s3, nl3, l3⟩ := c
  simp only [Ex.op]
  have hu0 := getmap (f := enc) (show [Ex.mk op1 s1 nl1 l1, .mk op2 s2 nl2 l2, .mk op3 s3 nl3 l3][0]? = some _ from rfl)
  have hu1 := getmap (f := enc) (show [Ex.mk op1 s1 nl1 l1, .mk op2 s2 nl2 l2, .mk op3 s3 nl3 l3][1]? = some _ from rfl)
  have hu2 := getmap (f := enc) (show [Ex.mk op1 s1 nl1 l1, .mk op2 s2 nl2 l2, .mk op3 s3 nl3 l3][2]? = some _ from rfl)
  rw [enc_mk] at ka kb kc hu0 hu1 hu2
  refine ACall.gives (is189.c1 nonum mixed rfl ?_)
  refine walk ?_
  refine st_call rfl (ka _) ?_
  refine walkA ?_
  refine iw_cond _ rfl ?_ ?_ <;> intro hb
  · refine walk ?_
    refine st_call rfl (kb _) ?_
    refine walkA ?_
    refine iw_cond _ rfl ?_ ?_ <;> intro hc
    · refine walk ?_
      refine st_call rfl (kc _) ?_
      refine walkA ?_
      (refine frs ?_ rfl); simp [hb, hc]
    · refine walk ?_
      (refine frs ?_ rfl); simp [hb, hc]
  · refine walkA ?_
    refine iw_cond _ rfl ?_ ?_ <;> intro hc
    · refine walk ?_
      refine st_call rfl (kc _) ?_
      refine walkA ?_
      (refine frs ?_ rfl); simp [hb, hc]
    · refine walk ?_
      (refine frs ?_ rfl); simp [hb, hc]
theorem lvl_nonneg (op : Int) : 0 ≤ lvl op := by
  unfold lvl
  repeat' split
  all_goals decide
theorem c136w {e : Ex} (he : okE e) (ho : 0 ≤ e.op ∧ e.op ≤ 15) (h : ∀ least H, decide (lvl e.op < least) = false → ACall PP 136 [enc e, .int .i64 least] H (Just H (.str (body e)))) (least : Int) (H : Heap) :
    ACall PP 136 [enc e, .int .i64 least] H (Just H (.str (textE e least))) := by
  have h0 : decide (lvl e.op < 0) = false := by
    have := lvl_nonneg e.op
    simp only [decide_eq_false_iff_not]; omega
  cases hl : decide (lvl e.op < least)
  · have : textE e least = body e := by
      simp only [decide_eq_false_iff_not] at hl
      unfold textE tx; rw [if_neg hl]
    rw [this]
    exact h least H hl
  · have ht : textE e least = [91] ++ body e ++ [93] := by
      simp only [decide_eq_true_eq] at hl
      unfold textE tx; rw [if_pos hl]
    have hb := body_le e
    have h2 := fun H => h 0 H h0
    rw [ht]
    unfold okE at he
    obtain ⟨op, s, nl, l⟩ := e
    simp only [Ex.op] at ho hl
    have k := fun H => c188 ho (s := s) (nl := nl) (l := l) H
    rw [enc_mk] at h2 k ⊢
    refine ACall.gives (is136.c2 nonum mixed rfl ?_)
    refine walk ?_
    refine st_call rfl (k _) ?_
    refine walk ?_
    refine st_call rfl (h2 _) ?_
    refine walkA ?_
    exact fr
theorem get1 {x : Ex} {op : Int} {s : Bt} {nl : Bool} {l : List Ex} (h : x = .mk op s nl l) : ([x].map enc)[0]? = some (.agg [.int .i64 op, .str s, lst nl l]) := by
  subst h; exact congrArg some (enc_mk ..)
theorem c136 (e : Ex) (he : okE e) (hr : e.right = true) (least : Int) (H : Heap) : ACall PP 136 [enc e, .int .i64 least] H (Just H (.str (textE e least))) := by
  match e, he, hr with
  | .mk op s nl l, he, hr =>
    obtain ⟨ho, hf0, hf3, hf2, hf1, hkr⟩ := right_facts hr
    refine c136w he ho (fun least H hl => ?_) least H
    have hk : ∀ x ∈ l, ∀ least H, ACall PP 136 [enc x, .int .i64 least] H (Just H (.str (textE x least))) := fun x hx least H => c136 x (okE_kid he hx) (hkr x hx) least H
    have hs := sl_lst nl l
    have hsl := okE_s he
    have hwl : ws l ≤ 1000000000000 := by unfold okE at he; simp only [Ex.w] at he; omega
    have k := fun H => c188 ho (s := s) (nl := nl) (l := l) H
    simp only [Ex.op] at hl
    rw [enc_mk] at k ⊢
    rw [show body (.mk op s nl l) = node op s (bodies l) from rfl]
    refine ACall.gives (is136.c2 nonum mixed rfl ?_)
    refine walk ?_
    refine st_call rfl (k _) ?_
    refine walk ?_
    have : op = 0 ∨ op = 1 ∨ op = 2 ∨ op = 3 ∨ op = 4 ∨ op = 5 ∨ op = 6 ∨ op = 7 ∨ op = 8 ∨ op = 9 ∨ op = 10 ∨ op = 11 ∨ op = 12 ∨ op = 13 ∨ op = 14 ∨ op = 15 := by omega
    rcases this with rfl | rfl | rfl | rfl | rfl | rfl | rfl | rfl | rfl | rfl | rfl | rfl | rfl | rfl | rfl | rfl
    case inr.inr.inr.inr.inr.inr.inr.inr.inr.inr.inr.inr.inr.inr.inl =>
      match l, hf3 rfl with
      | [a, b, c], _ =>
        refine walk ?_
        refine st_call rfl (c189 hs hwl hk _) ?_
        refine walk ?_
        exact fr
    case inl =>
      refine walk ?_
      refine st_call rfl (c191 hsl (hf0 rfl) _) ?_
      refine walk ?_
      exact fr
    case inr.inl =>
      refine walk ?_
      exact fr
    case inr.inr.inl =>
      refine walk ?_
      exact fr
    case inr.inr.inr.inl =>
      refine walk ?_
      exact fr
    case inr.inr.inr.inr.inl =>
      refine walk ?_
      refine st_call rfl (c190 hs hwl (by decide) 7 7 hk _) ?_
      refine walk ?_
      exact fr
    case inr.inr.inr.inr.inr.inl =>
      refine walk ?_
      refine st_call rfl (c190 hs hwl (by decide) 3 3 hk _) ?_
      refine walk ?_
      exact fr
    case inr.inr.inr.inr.inr.inr.inl =>
      refine walk ?_
      refine st_call rfl (c190 hs hwl (by decide) 4 4 hk _) ?_
      refine walk ?_
      exact fr
    case inr.inr.inr.inr.inr.inr.inr.inl =>
      refine walk ?_
      refine st_call rfl (c190 hs hwl (by decide) 1 2 hk _) ?_
      refine walk ?_
      exact fr
    case inr.inr.inr.inr.inr.inr.inr.inr.inr.inr.inr.inr.inr.inl =>
      refine walk ?_
      refine st_call rfl (c190 hs hwl (by decide) 5 6 hk _) ?_
      refine walk ?_
      exact fr
    case inr.inr.inr.inr.inr.inr.inr.inr.inr.inr.inr.inr.inr.inr.inr =>
      refine walk ?_
      refine st_call rfl (c190 hs hwl (by decide) 4 5 hk _) ?_
      refine walk ?_
      exact fr
    all_goals
      match l, hf1 (by omega) with
      | [x], _ =>
        obtain ⟨op1, s1, nl1, l1, hx⟩ : ∃ a b c d, x = .mk a b c d := by cases x; exact ⟨_, _, _, _, rfl⟩
        have hu := get1 hx
        have k7 := hk x (by simp) 7
        have k8 := hk x (by simp) 8
        have t7 := textE_le x 7
        have t8 := textE_le x 8
        have hxw : x.w ≤ 1000000000000 := by simp only [ws] at hwl; omega
        have en : enc x = .agg [.int .i64 op1, .str s1, lst nl1 l1] := by rw [hx, enc_mk]
        rw [en] at k7 k8
        rw [show bodies [x] = [(x.op, body x)] from rfl]
        refine walk ?_
        first | refine st_call rfl (k7 _) ?_ | refine st_call rfl (k8 _) ?_
        refine walkA ?_
        exact fr
termination_by SizeOf.sizeOf e
decreasing_by exact mem_size (by assumption)
end Go.Ab
namespace Go.Ab
open Go
set_option maxRecDepth 100000
set_option maxHeartbeats 8000000
def sideBo (op : Int) (w : Bt) : Bt := if (op == 14) then [91] ++ w ++ [93] else w
def sideTo (op : Int) (w : Bt) (left : Bool) : Bt := if (op == 2) then [] else if left then sideBo op w ++ [32] else [32] ++ sideBo op w
def sideB (e : Ex) : Bt := sideBo e.op (textE e 0)
def sideT (e : Ex) (left : Bool) : Bt := sideTo e.op (textE e 0) left
theorem sideB_le (e : Ex) : (sideB e).length ≤ 21 * e.w + 2 := by
  have := textE_le e 0
  unfold sideB sideBo
  split
  · simp only [List.length_append, List.length_cons, List.length_nil]; omega
  · omega
theorem sideT_le (e : Ex) (b : Bool) : (sideT e b).length ≤ 21 * e.w + 3 := by
  have := sideB_le e
  unfold sideB at this
  unfold sideT sideTo
  split
  · simp
  · split <;> simp only [List.length_append, List.length_cons, List.length_nil] <;> omega
theorem c71 (e : Ex) (he : okE e) (hr : e.right = true) (left : Bool) (H : Heap) : ACall PP 71 [enc e, .bool left] H (Just H (.str (sideT e left))) := by
  have k := fun H => c136 e he hr 0 H
  have t := textE_le e 0
  unfold okE at he
  unfold sideT
  generalize textE e 0 = we at *
  obtain ⟨op, s, nl, l⟩ := e
  rw [enc_mk] at k ⊢
  rw [show (Ex.mk op s nl l).op = op from rfl]
  unfold sideTo sideBo
  refine ACall.gives (is71.c2 nonum mixed rfl ?_)
  refine walk ?_
  cases h2 : (op == 2)
  · refine walk ?_
    refine st_call rfl (k _) ?_
    refine walk ?_
    cases h3 : (op == 14)
    · refine walk ?_
      cases left
      · refine walkA ?_
        exact fr
      · refine walkA ?_
        exact fr
    · refine walkA ?_
      cases left
      · refine walkA ?_
        exact fr
      · refine walkA ?_
        exact fr
  · refine walk ?_
    exact fr
def plc (p : Pl) : Bt := sideT p.1 true ++ [95] ++ sideT p.2 false
def plTs : List Pl → Bt
  | [] => []
  | p :: ps => [32, 59, 32] ++ plc p ++ plTs ps
def plT : List Pl → Bt
  | [] => []
  | p :: ps => plc p ++ plTs ps
theorem plTs_app (a b : List Pl) : plTs (a ++ b) = plTs a ++ plTs b := by
  induction a with
  | nil => rfl
  | cons x xs ih => simp [plTs, ih]
theorem plT_snoc {ps : List Pl} {i : Nat} {p : Pl} (h : ps[i + 1]? = some p) : plT (ps.take (i + 1 + 1)) = plT (ps.take (i + 1)) ++ [32, 59, 32] ++ plc p := by
  match ps, h with
  | x :: xs, h =>
    have h : xs[i]? = some p := by simpa using h
    rw [List.take_succ_cons, List.take_succ_cons, take_succ_get h]
    simp only [plT, plTs_app, plTs, List.append_nil, List.append_assoc]
theorem plT_take (ps : List Pl) (i : Nat) : (plT (ps.take i)).length ≤ (plT ps).length := by
  match ps, i with
  | [], i => simp
  | x :: xs, 0 => simp [plT]
  | x :: xs, i + 1 =>
    rw [List.take_succ_cons]
    simp only [plT, List.length_append]
    have : (plTs xs).length = (plTs (xs.take i)).length + (plTs (xs.drop i)).length := by
      rw [← List.length_append, ← plTs_app, List.take_append_drop]
    omega
theorem c37 {v : AV} {l : List Pl} (hv : Sl 6 v (l.map encPl)) (hl0 : l.length ≤ 1000000000000) (hk : ∀ p ∈ l, okE p.1 ∧ okE p.2) (hr : ∀ p ∈ l, p.1.right = true ∧ p.2.right = true)
    (hb : (plT l).length ≤ 10000000000000000) (H : Heap) : ACall PP 37 [v] H (Just H (.str (plT l))) := by
  have hl : (l.map encPl).length = l.length := List.length_map _
  refine ACall.gives (is37.c1 nonum mixed rfl ?_)
  refine walk ?_
  refine iw_loop l.length (fun i al H' => al = [(0, v), (3, .str (plT (l.take i))), (4, .int .i64 i)] ∧ H' = H ++ []) ⟨rfl, rfl⟩ ?_
  rintro i _ _ hi ⟨rfl, rfl⟩
  refine walk ?_
  refine iw_cond _ rfl ?_ ?_ <;> intro hc
  · simp only [decide_eq_true_eq] at hc
    obtain ⟨c, hc⟩ := get_ex (l := l) (i := i) (by omega)
    have hu := getmap (f := encPl) hc
    have hm := List.mem_of_getElem? hc
    have h1 := plT_take l i
    have h2 := plT_take l (i + 1)
    have hkc := hk c hm
    have ka := c71 c.1 hkc.1 (hr c hm).1 true
    have kb := c71 c.2 hkc.2 (hr c hm).2 false
    have ta := sideT_le c.1 true
    have tb := sideT_le c.2 false
    have e0 : plT (l.take (i + 1)) = (if decide ((i : Int) > 0) then plT (l.take i) ++ [32, 59, 32] else plT (l.take i)) ++ (sideT c.1 true ++ [95] ++ sideT c.2 false) := by
      cases i with
      | zero =>
        match l, hc with
        | x :: xs, hc => injection hc with hc; subst hc; simp [plT, plTs, plc]
      | succ i =>
        rw [plT_snoc hc, if_pos (by simp only [decide_eq_true_eq]; omega)]; rfl
    rw [e0]
    generalize sideT c.1 true = wa at *
    generalize sideT c.2 false = wb at *
    generalize plT (l.take i) = wp at *
    obtain ⟨⟨op1, s1, nl1, l1⟩, op2, s2, nl2, l2⟩ := c
    unfold encPl at hu
    simp only [enc_mk] at hu ka kb
    refine walk ?_
    refine iw_cond _ rfl ?_ ?_ <;> intro hi0
    · rw [if_pos hi0]
      refine walkA ?_
      refine st_call rfl (ka _) ?_
      refine walkA ?_
      refine st_call rfl (kb _) ?_
      refine walkA ?_
      exact ⟨by omega, rfl, rfl⟩
    · rw [hi0, if_neg (by simp)]
      refine walkA ?_
      refine st_call rfl (ka _) ?_
      refine walkA ?_
      refine st_call rfl (kb _) ?_
      refine walkA ?_
      exact ⟨by omega, rfl, rfl⟩
  simp only [decide_eq_false_iff_not] at hc
  rw [show l.take i = l from List.take_of_length_le (by omega)]
  refine walk ?_
  exact fr
theorem Is.c0 {P : Program} {H : Heap} {f : FuncId} {anns : List Ann} {F : IFunc} {R : CPost} (hnn : NoNum P) (hm : P.follows .mixedOrders = true) (hF : Is P f anns F) (hn : Nat.ble 0 F.n = true) (h : WI P F.body (fpostL F.rs R) [] (H ++ [])) : ACall P f [] H R := by
  rw [List.append_nil] at h; exact hF.call hnn hm hn h.1
theorem res_cell {al : AL} {t n off : Nat} {k : Option Nat} {H G : Heap} {cs : List AV} {v : AV} (h1 : look al t = .ptr (H.length + n) off) (hg : G[n]? = some (.cells cs)) (hd : dpart k cs off = some v) :
    resultL [.cell t k] al (H ++ G) = some v := by
  simp only [resultL, resVL, rload, h1, hp_new, hg, hd]
theorem c36 (H : Heap) : ACall PP 36 [] H (Just H (.agg [.str [45, 62], .str [40, 45, 62, 41], .str [64, 45, 62], .str [64, 62]])) := by
  refine ACall.gives (Is.c0 nonum mixed is36 rfl ?_)
  refine walk ?_
  refine st_build rfl rfl ?_
  refine walk ?_
  exact fp_r (res_cell (n := 0) rfl rfl rfl) (ends_ret ⟨2, rfl⟩)
end Go.Ab
