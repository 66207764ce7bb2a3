/- Part 37 of the proof. -/
import Derived.Test.YteaellpidegbiaaGreatDoorA30
import Derived.Test.YteaellpidegbiaaGreatDoorA36
set_option linter.unusedVariables false
set_option linter.unusedSimpArgs false
namespace Go.Ab
open Go
set_option maxRecDepth 100000
set_option maxHeartbeats 8000000
def okRd (b0 : Nat) : AV → Bool
  | .ptr j _ => Nat.blt j b0
  | _ => true
structure VT (P : Program) (b0 base : Nat) (ios : List IOper) (B : List (List Nat)) (K : KL) (G : AV → Prop) (s : Sched) (al : AL) (H : Heap) : Prop where
  h : ∀ S : List Rd, (∀ r ∈ S, okRd b0 r.x = true ∧ rload r.n r.x H = some r.v) → vsL P base ios B K G s S al H
section vt
variable {P : Program} {H : Heap} {al : AL} {Q : PL} {K : KL} {b0 base : Nat} {ios : List IOper} {B : List (List Nat)} {Gp : AV → Prop} {s : Sched}
theorem vt_q {i : Nat} {o : IOper} (ho : ios[i]? = some o) (hq : isQuiet o = true) (hr : ∀ v n x, quietValL o al H = some (v, some (n, x)) → okRd b0 x = true)
    (h : VV P [o] al H (fun al' _ => VT P b0 base ios B K Gp s al' H) (fun _ _ _ => False)) : VT P b0 base ios B K Gp (.quiet i s) al H := by
  refine ⟨fun S hS => ?_⟩
  obtain ⟨v, rd, h1, h2⟩ := quiet_vop (K := fun al' _ => VT P b0 base ios B K Gp s al' H) hq h.1
  simp only [vsL, ho, h1]
  refine h2.1 _ fun r hr' => ?_
  cases rd with
  | none => exact hS r hr'
  | some q =>
    obtain ⟨n, u⟩ := q
    rcases List.mem_cons.1 hr' with rfl | hr'
    · exact ⟨hr _ _ _ h1, quiet_rd h1⟩
    · exact hS r hr'
theorem hr_d {d : Option Nat} {op : DOp} {as_ : List Arg} {r : Option Nat} : ∀ v n x, quietValL ⟨d, .i (.d op), as_, none, r⟩ al H = some (v, some (n, x)) → okRd b0 x = true := by
  intro v n x h
  simp only [quietValL, quietExecL] at h
  split at h
  · injection h with h; injection h with _ h; cases h
  · cases h
theorem hr_l {d : Option Nat} {k : Option Nat} {a : Arg} {r : Option Nat} (hok : okRd b0 (evL al a) = true) : ∀ v n x, quietValL ⟨d, .i (.m (.load k)), [a], none, r⟩ al H = some (v, some (n, x)) → okRd b0 x = true := by
  intro v n x h
  simp only [quietValL, quietExecL, evsL] at h
  split at h
  · injection h with h; injection h with _ h; injection h with h; injection h with _ h; subst h; exact hok
  · cases h
theorem vt_b {i : Nat} {o : IOper} (ho : ios[i]? = some o) (hr : o.res = none) (hb : base ≤ H.length)
    (h : VV P [o] al H (fun al' H' => (∀ n x v, okRd b0 x = true → rload n x H = some v → rload n x H' = some v) ∧ VT P b0 base ios B K Gp s al' H') (fun _ v _ => Gp v)) :
    VT P b0 base ios B K Gp (.branch i s .stop) al H := by
  refine ⟨fun S hS => ?_⟩
  have hrr : rOf base o H = H.length := by simp [rOf, hr]
  simp only [vsL, ho, hrr]
  refine ⟨⟨?_, Nat.ble_eq_true_of_le hb, ?_⟩, trivial⟩
  · simp [freeB]
  · refine iw_cut.vopL_mono h.1 ?_ (fun _ _ _ q => q)
    rintro al' H' ⟨hpres, q⟩
    have hS' : ∀ r ∈ S, okRd b0 r.x = true ∧ rload r.n r.x H' = some r.v := fun r hr => ⟨(hS r hr).1, hpres _ _ _ (hS r hr).1 (hS r hr).2⟩
    refine ⟨?_, q.1 S hS'⟩
    unfold obligL
    rw [ho]
    simp only
    split
    · trivial
    · exact fun r hr _ => (hS' r hr).2
theorem vt_end {ks : List Nat} {al' : AL} (hk : keepL al ks = al') (h : Q .normal al' H) : VT P b0 base ios B (fun a h => Q .normal (keepL a ks) h) Gp .done al H := ⟨fun _ _ => by subst hk; exact h⟩
theorem iw_drawT {ks : List Nat} (b0 : Nat) (h : VT P b0 H.length ios B (fun a h => Q .normal (keepL a ks) h) (fun _ => False) s al H) : WI P (.draw 0 ios B s (some ks)) Q al H := by
  refine ⟨⟨fun _ => False, fun _ _ f => f.elim, ?_⟩⟩
  have : reserve H 0 = H := by simp [reserve]
  rw [this]
  exact h.1 [] (by simp)
theorem st_finT {H' : Heap} {Qp : AL → AV → Heap → Prop} (h : VT P b0 base ios B K Gp s al H') : VV P [] al H (fun a _ => VT P b0 base ios B K Gp s a H') Qp := ⟨h⟩
theorem st_finTB {H' : Heap} {Qp : AL → AV → Heap → Prop} (hp : ∀ n x v, okRd b0 x = true → rload n x H' = some v → rload n x H = some v) (h : VT P b0 base ios B K Gp s al H) :
    VV P [] al H (fun a h => (∀ n x v, okRd b0 x = true → rload n x H' = some v → rload n x h = some v) ∧ VT P b0 base ios B K Gp s a h) Qp := ⟨⟨hp, h⟩⟩
theorem ext_rd {H0 H H' : Heap} (h : Ext H0 H) (h' : Ext H0 H') : ∀ n x v, okRd H0.length x = true → rload n x H = some v → rload n x H' = some v := by
  intro n x v ho hl
  obtain ⟨G, rfl⟩ := h
  obtain ⟨G', rfl⟩ := h'
  cases x with
  | ptr j off =>
    have hj : j < H0.length := by simpa [okRd, Nat.blt_eq] using ho
    simp only [rload, List.getElem?_append_left hj] at hl ⊢
    exact hl
  | _ => exact hl
end vt
section steps
variable {P : Program} {H : Heap} {al : AL} {K : KL} {Qp : AL → AV → Heap → Prop} {os : List IOper} {d : Nat} {x y : Arg}
theorem st_appOL {H0 : Heap} {v : AV} {l ys : List (List UInt8)} (hx : evL al x = v) (ho : OwnS H0 H v l) (hy : srcOf 1 H (evL al y) = some (ys.length, ys.map .str)) (hb : l.length + ys.length ≤ 1000000000)
    (h : ∀ v' H', OwnS H0 H' v' (l ++ ys) → H.length ≤ H'.length → VV P os ((d, v') :: al) H' K Qp) : VV P (⟨some d, .i (.m (.append 1 16)), [x, y], none, none⟩ :: os) al H K Qp := by
  obtain ⟨h1, h2⟩ := ho
  rcases h2 with ⟨rfl, rfl⟩ | ⟨id, rfl, h3, h4, h5⟩
  · cases ys with
    | nil => exact st_app00 (ys := []) hx hy rfl (h _ _ ⟨h1, .inl ⟨rfl, rfl⟩⟩ (Nat.le_refl _))
    | cons s ys =>
      refine st_app0G hx hy (by simp) (all_strs _) (by simp at hb ⊢; omega) (h _ _ ⟨h1.app _, .inr ⟨_, rfl, ?_, h1.len, by simp⟩⟩ (by simp))
      rw [List.getElem?_append_right (Nat.le_refl _), Nat.sub_self]; rfl
  · refine st_appG hx h3 (by simp) hy (all_strs _) (by omega) (h _ _ ⟨(h1.set h4).app _, .inr ⟨_, by rw [List.length_append], ?_, h1.len, by simp [h5]⟩⟩ (by simp))
    rw [List.getElem?_append_right (by simp)]
    simp
    exact List.take_of_length_le (by simp)
end steps
theorem walkT {g n : Prop} (k : n) (h : Hide n → g := by (intro k); (repeat (first | ((with_reducible apply st_mv); focus (first | exact ev_c | (apply ev_t; (repeat (first | exact lk_hit | (apply lk_miss; focus exact rfl) | exact lk_nil))))) | ((with_reducible apply st_idxA); (focus (first | exact ev_c | (apply ev_t; (repeat (first | exact lk_hit | (apply lk_miss; focus exact rfl) | exact lk_nil))))); (focus assumption); (focus exact rfl); (focus assumption)) | ((with_reducible apply st_idxS); (focus (first | exact ev_c | (apply ev_t; (repeat (first | exact lk_hit | (apply lk_miss; focus exact rfl) | exact lk_nil))))); (focus assumption); (focus exact rfl); (focus assumption)) | ((with_reducible apply st_loadcA); (focus exact rfl); (focus exact rfl)) | ((with_reducible apply st_lenStr); (focus exact rfl)) | ((with_reducible apply st_lss); (focus exact rfl); (focus exact rfl)) | ((with_reducible apply st_eqi); (focus exact rfl); (focus exact rfl)) | ((with_reducible apply st_field); (focus exact rfl); (focus exact rfl)) | ((with_reducible apply st_extract); (focus exact rfl); (focus exact rfl)) | ((with_reducible apply st_gtr); (focus exact rfl); (focus exact rfl)) | ((with_reducible apply st_leq); (focus exact rfl); (focus exact rfl)) | ((with_reducible apply st_geq); (focus exact rfl); (focus exact rfl)) | ((with_reducible apply st_nei); (focus exact rfl); (focus exact rfl)) | ((with_reducible apply st_eqs); (focus exact rfl); (focus exact rfl)) | ((with_reducible apply st_nes); (focus exact rfl); (focus exact rfl)) | ((with_reducible apply st_lts); (focus exact rfl); (focus exact rfl)) | ((with_reducible apply st_gts); (focus exact rfl); (focus exact rfl)) | ((with_reducible apply st_not); (focus exact rfl)) | ((with_reducible apply st_fieldc); (focus exact rfl); (focus exact rfl)) | ((with_reducible apply st_loadc); (focus exact rfl); (focus exact rfl)) | ((with_reducible apply st_len); (focus (first | exact ev_c | (apply ev_t; (repeat (first | exact lk_hit | (apply lk_miss; focus exact rfl) | exact lk_nil))))); (focus assumption)) | ((with_reducible apply st_idx); (focus (first | exact ev_c | (apply ev_t; (repeat (first | exact lk_hit | (apply lk_miss; focus exact rfl) | exact lk_nil))))); (focus assumption); (focus exact rfl); (focus assumption)) | ((with_reducible apply st_idxStr); (focus exact rfl); (focus exact rfl); (focus assumption)) | ((with_reducible apply st_storeW); (focus exact rfl); (focus exact rfl); (focus exact rfl); (focus exact rfl); (focus exact rfl); (focus (first | exact rfl | exact all_lst)); (focus exact rfl)) | ((with_reducible apply st_loadnA); (focus exact rfl); (focus exact rfl); (focus exact rfl)) | ((with_reducible apply st_loadA); (focus exact rfl); (focus (first | assumption | exact hp_old (by assumption))); (focus exact rfl)) | ((with_reducible apply st_alloc); (focus exact rfl); (focus exact rfl)) | ((with_reducible apply st_storen); (focus exact rfl); (focus (first | exact ev_c | (apply ev_t; (repeat (first | exact lk_hit | (apply lk_miss; focus exact rfl) | exact lk_nil))))); (focus exact rfl); (focus exact rfl); (focus exact rfl); (focus exact rfl)) | ((with_reducible apply st_loadn); (focus exact rfl); (focus exact rfl); (focus exact rfl)) | ((with_reducible apply st_load); (focus exact rfl); (focus (first | assumption | exact hp_old (by assumption))); (focus exact rfl)) | ((with_reducible apply st_box); (focus (first | exact ev_c | (apply ev_t; (repeat (first | exact lk_hit | (apply lk_miss; focus exact rfl) | exact lk_nil))))); (focus exact rfl); (focus exact rfl); (focus exact rfl)) | ((with_reducible apply st_fieldp); (focus exact rfl)) | ((with_reducible apply st_lenSl); (focus exact rfl)) | ((with_reducible apply st_idxSl); (focus exact rfl); (focus exact rfl); (focus (first | decide | omega))) | ((with_reducible apply st_inc); (focus exact rfl); (focus omega)) | ((with_reducible apply vt_q); (focus exact rfl); (focus exact rfl); (focus (first | exact hr_d | exact hr_l rfl | exact hr_l (hokp _)))) | (with_reducible apply st_finT) | ((with_reducible apply vt_end); focus (repeat (first | exact kp_nil | ((with_reducible apply kp); focus (repeat (first | exact lk_hit | (apply lk_miss; focus exact rfl) | exact lk_nil)))))))); (exact k.h)) : g := h ⟨k⟩
theorem walkN {g n : Prop} (k : n) (h : Hide n → g := by (intro k); (repeat (first | ((with_reducible apply st_mv); focus (first | exact ev_c | (apply ev_t; (repeat (first | exact lk_hit | (apply lk_miss; focus exact rfl) | exact lk_nil))))) | ((with_reducible apply st_idxA); (focus (first | exact ev_c | (apply ev_t; (repeat (first | exact lk_hit | (apply lk_miss; focus exact rfl) | exact lk_nil))))); (focus assumption); (focus exact rfl); (focus assumption)) | ((with_reducible apply st_idxS); (focus (first | exact ev_c | (apply ev_t; (repeat (first | exact lk_hit | (apply lk_miss; focus exact rfl) | exact lk_nil))))); (focus assumption); (focus exact rfl); (focus assumption)) | ((with_reducible apply st_loadcA); (focus exact rfl); (focus exact rfl)) | ((with_reducible apply st_lenStr); (focus exact rfl)) | ((with_reducible apply st_lss); (focus exact rfl); (focus exact rfl)) | ((with_reducible apply st_eqi); (focus exact rfl); (focus exact rfl)) | ((with_reducible apply st_field); (focus exact rfl); (focus exact rfl)) | ((with_reducible apply st_extract); (focus exact rfl); (focus exact rfl)) | ((with_reducible apply st_gtr); (focus exact rfl); (focus exact rfl)) | ((with_reducible apply st_leq); (focus exact rfl); (focus exact rfl)) | ((with_reducible apply st_geq); (focus exact rfl); (focus exact rfl)) | ((with_reducible apply st_nei); (focus exact rfl); (focus exact rfl)) | ((with_reducible apply st_eqs); (focus exact rfl); (focus exact rfl)) | ((with_reducible apply st_nes); (focus exact rfl); (focus exact rfl)) | ((with_reducible apply st_lts); (focus exact rfl); (focus exact rfl)) | ((with_reducible apply st_gts); (focus exact rfl); (focus exact rfl)) | ((with_reducible apply st_not); (focus exact rfl)) | ((with_reducible apply st_fieldc); (focus exact rfl); (focus exact rfl)) | ((with_reducible apply st_loadc); (focus exact rfl); (focus exact rfl)) | ((with_reducible apply st_len); (focus (first | exact ev_c | (apply ev_t; (repeat (first | exact lk_hit | (apply lk_miss; focus exact rfl) | exact lk_nil))))); (focus assumption)) | ((with_reducible apply st_idx); (focus (first | exact ev_c | (apply ev_t; (repeat (first | exact lk_hit | (apply lk_miss; focus exact rfl) | exact lk_nil))))); (focus assumption); (focus exact rfl); (focus assumption)) | ((with_reducible apply st_idxStr); (focus exact rfl); (focus exact rfl); (focus assumption)) | ((with_reducible apply st_storeW); (focus exact rfl); (focus exact rfl); (focus exact rfl); (focus exact rfl); (focus exact rfl); (focus (first | exact rfl | exact all_lst)); (focus exact rfl)) | ((with_reducible apply st_loadnA); (focus exact rfl); (focus exact rfl); (focus exact rfl)) | ((with_reducible apply st_loadA); (focus exact rfl); (focus (first | assumption | exact hp_old (by assumption))); (focus exact rfl)) | ((with_reducible apply st_alloc); (focus exact rfl); (focus exact rfl)) | ((with_reducible apply st_storen); (focus exact rfl); (focus (first | exact ev_c | (apply ev_t; (repeat (first | exact lk_hit | (apply lk_miss; focus exact rfl) | exact lk_nil))))); (focus exact rfl); (focus exact rfl); (focus exact rfl); (focus exact rfl)) | ((with_reducible apply st_loadn); (focus exact rfl); (focus exact rfl); (focus exact rfl)) | ((with_reducible apply st_load); (focus exact rfl); (focus (first | assumption | exact hp_old (by assumption))); (focus exact rfl)) | ((with_reducible apply st_box); (focus (first | exact ev_c | (apply ev_t; (repeat (first | exact lk_hit | (apply lk_miss; focus exact rfl) | exact lk_nil))))); (focus exact rfl); (focus exact rfl); (focus exact rfl)) | ((with_reducible apply st_fieldp); (focus exact rfl)) | ((with_reducible apply st_lenSl); (focus exact rfl)) | ((with_reducible apply st_idxSl); (focus exact rfl); (focus exact rfl); (focus (first | decide | omega))) | ((with_reducible apply st_inc); (focus exact rfl); (focus omega)) | ((with_reducible apply st_end); focus (repeat (first | exact kp_nil | ((with_reducible apply kp); focus (repeat (first | exact lk_hit | (apply lk_miss; focus exact rfl) | exact lk_nil)))))) | ((with_reducible apply vs_end); focus (repeat (first | exact kp_nil | ((with_reducible apply kp); focus (repeat (first | exact lk_hit | (apply lk_miss; focus exact rfl) | exact lk_nil)))))) | ((with_reducible apply vs_q); (focus exact rfl); (focus exact rfl)) | ((with_reducible apply vs_b); (focus exact rfl); (focus exact rfl); (focus exact Nat.le_refl _)) | ((with_reducible apply st_finB)) | (with_reducible apply st_finQ) | ((with_reducible apply st_pickT); (focus (first | exact rfl | exact congrArg AV.bool (by assumption))); (focus (first | exact ev_c | (apply ev_t; (repeat (first | exact lk_hit | (apply lk_miss; focus exact rfl) | exact lk_nil)))))) | ((with_reducible apply st_pickF); (focus (first | exact rfl | exact congrArg AV.bool (by assumption))); (focus (first | exact ev_c | (apply ev_t; (repeat (first | exact lk_hit | (apply lk_miss; focus exact rfl) | exact lk_nil)))))) | ((with_reducible apply st_yes); (focus (first | exact rfl | exact congrArg AV.bool (by assumption)))) | ((with_reducible apply st_noT); (focus (first | exact rfl | exact congrArg AV.bool (by assumption)))) | ((with_reducible apply st_noF); (focus (first | exact rfl | exact congrArg AV.bool (by assumption)))) | ((with_reducible apply st_no'); (focus exact rfl)) | with_reducible refine iw_seq ?_ | with_reducible refine iw_region ?_ | with_reducible refine nx_n ?_ | with_reducible refine iw_skip ?_ | with_reducible refine iw_block ?_ | with_reducible refine iw_ret ?_ | with_reducible refine iw_exit ?_ | with_reducible refine nx_x ?_ | with_reducible refine nx_r ?_ | with_reducible refine bk_n ?_ | with_reducible refine bk_r ?_ | with_reducible refine bk_x ?_ | with_reducible refine bk_y rfl ?_ | ((with_reducible apply iw_yes); (focus (first | exact rfl | exact congrArg AV.bool (by assumption)))) | ((with_reducible apply iw_no); (focus (first | exact rfl | exact congrArg AV.bool (by assumption)))) | refine iw_seq ?_)); (exact k.h)) : g := h ⟨k⟩
theorem c29 (r : Ru) (hr : okR r) (hb : (occR r).length ≤ 1000000000) (H : Heap) : ACall PP 29 [encR r] H (Just H (encW ⟨true, occR r⟩)) := by
  obtain ⟨kind, pn, pairs, ln, places, below⟩ := r
  obtain ⟨hnp, hnl, hps, hls⟩ := hr
  simp only at hnp hnl hps hls
  have hsp := sl_Ps pn pairs
  have hsl := sl_Ls ln places
  have hlp : (pairs.map encP).length = pairs.length := List.length_map _
  have hll : (places.map encPl).length = places.length := List.length_map _
  have hocc : occR ⟨kind, pn, pairs, ln, places, below⟩ = occP pairs ++ occL places := rfl
  rw [hocc] at hb ⊢
  rw [List.length_append] at hb
  unfold encR
  refine ACall.gives (is29.c1 nonum mixed rfl ?_)
  refine walk ?_
  have hB0 : (H ++ [.cells [.int .i64 kind, encPs pn pairs, encLs ln places, .bool below]])[H.length + 0]? = some (.cells [.int .i64 kind, encPs pn pairs, encLs ln places, .bool below]) := hp_new
  have hend : ∀ {H' v l'}, OwnS (H ++ [.cells [.int .i64 kind, encPs pn pairs, encLs ln places, .bool below]]) H' v l' → Gives H (encW ⟨true, l'⟩) (.ret v) H' := fun h => h.ends
  have hO0 : OwnS (H ++ [.cells [.int .i64 kind, encPs pn pairs, encLs ln places, .bool below]]) (H ++ [.cells [.int .i64 kind, encPs pn pairs, encLs ln places, .bool below]]) .nilslice [] := .nil (.refl _)
  refine iw_loop pairs.length (fun i al H' => ∃ ov, al = [(1, .ptr (H.length + 0) 0), (3, ov), (4, .int .i64 i)] ∧ OwnS (H ++ [.cells [.int .i64 kind, encPs pn pairs, encLs ln places, .bool below]]) H' ov (occP (pairs.take i))) ⟨_, rfl, hO0⟩ ?_
  have hlt0 : H.length + 0 < (H ++ [Blk.cells [.int .i64 kind, encPs pn pairs, encLs ln places, .bool below]] : Heap).length := by simp
  generalize (H ++ [.cells [.int .i64 kind, encPs pn pairs, encLs ln places, .bool below]] : Heap) = H0 at *
  clear hO0
  rintro i _ H1 hi ⟨ov, rfl, hO⟩
  have hB := hO.1.get hB0
  refine walk ?_
  refine iw_cond _ rfl ?_ ?_ <;> intro hc
  · simp only [decide_eq_true_eq] at hc
    obtain ⟨c, hc⟩ := get_ex (l := pairs) (i := i) (by omega)
    have hu : (pairs.map encP)[i]? = some (.agg [encW c.a, encW c.b]) := getmap (f := encP) hc
    have ht : occP (pairs.take (i + 1)) = occP (pairs.take i) ++ c.a.l ++ c.b.l := by
      rw [take_succ_get hc, occP, List.flatMap_append]
      simp [occP]
    have hle : (occP (pairs.take (i + 1))).length ≤ (occP pairs).length := by
      have : pairs = pairs.take (i + 1) ++ pairs.drop (i + 1) := (List.take_append_drop _ _).symm
      conv => rhs; rw [this]
      rw [occP, occP, List.flatMap_append, List.length_append]; omega
    rw [ht, List.length_append, List.length_append] at hle
    have hokp : ∀ off, okRd H0.length (.ptr (H.length + 0) off) = true := by intro off; simp [okRd, Nat.blt_eq]; simpa using hlt0
    have hsa := srcOf_W c.a
    have hsb := srcOf_W c.b
    refine walkN ?_
    refine iw_drawT H0.length ?_
    refine walkT ?_
    refine vt_b rfl rfl (Nat.le_refl _) ?_
    refine st_appOL rfl hO (hsa _) (by omega) ?_
    intro v1 H2 hO2 hlen2
    refine st_finTB (ext_rd hO.1 hO2.1) ?_
    refine vt_b rfl rfl hlen2 ?_
    refine st_appO rfl hO2 (hsb _) (by rw [List.length_append]; omega) ?_
    intro v2 H3 hO3
    refine st_finTB (ext_rd hO2.1 hO3.1) ?_
    refine walkT ?_
    refine walk ?_
    exact ⟨by omega, _, rfl, by rw [ht]; exact hO3⟩
  simp only [decide_eq_false_iff_not] at hc
  have : i = pairs.length := by omega
  subst this
  rw [List.take_length] at hO
  clear hi hc
  generalize occP pairs = pre at *
  refine walk ?_
  refine iw_loop places.length (fun i al H' => ∃ ov, al = [(1, .ptr (H.length + 0) 0), (3, ov), (5, .int .i64 i)] ∧ OwnS H0 H' ov (pre ++ occL (places.take i))) ⟨ov, rfl, by simpa [occL] using hO⟩ ?_
  clear hO hB H1 ov
  rintro i _ H1 hi ⟨ov, rfl, hO⟩
  have hB := hO.1.get hB0
  refine walk ?_
  refine iw_cond _ rfl ?_ ?_ <;> intro hc
  · simp only [decide_eq_true_eq] at hc
    obtain ⟨c, hc⟩ := get_ex (l := places) (i := i) (by omega)
    have hok := hls _ (List.mem_of_getElem? hc)
    have ht : occL (places.take (i + 1)) = occL (places.take i) ++ symsE c.1 ++ symsE c.2 := by
      rw [take_succ_get hc, occL, List.flatMap_append]
      simp [occL]
    have hle : (occL (places.take (i + 1))).length ≤ (occL places).length := by
      have : places = places.take (i + 1) ++ places.drop (i + 1) := (List.take_append_drop _ _).symm
      conv => rhs; rw [this]
      rw [occL, occL, List.flatMap_append, List.length_append]; omega
    rw [ht, List.length_append, List.length_append] at hle
    have k1 := fun H => c64 c.1 hok.1 (by omega) H
    have k2 := fun H => c64 c.2 hok.2 (by omega) H
    generalize symsE c.1 = y1 at *
    generalize symsE c.2 = y2 at *
    obtain ⟨⟨o1, s1, n1, l1⟩, ⟨o2, s2, n2, l2⟩⟩ := c
    have hu : (places.map encPl)[i]? = some (.agg [.int .i64 o1, .str s1, lst n1 l1, .int .i64 o2, .str s2, lst n2 l2]) := getmap (f := encPl) hc
    simp only [enc_mk] at k1 k2
    refine walk ?_
    refine st_call rfl (k1 _) ?_
    refine st_appO rfl hO (srcOf_W ⟨true, _⟩ _) (by rw [List.length_append]; simp only; omega) ?_
    intro v1 H2 hO2
    have hB2 := hO2.1.get hB0
    refine walk ?_
    refine st_call rfl (k2 _) ?_
    refine st_appO rfl hO2 (srcOf_W ⟨true, _⟩ _) (by rw [List.length_append, List.length_append]; simp only; omega) ?_
    intro v2 H3 hO3
    refine walk ?_
    refine ⟨by omega, _, rfl, ?_⟩
    rw [ht, ← List.append_assoc, ← List.append_assoc]; exact hO3
  simp only [decide_eq_false_iff_not] at hc
  have : i = places.length := by omega
  subst this
  rw [List.take_length] at hO
  refine walk ?_
  exact fp_r rfl (hend hO)
end Go.Ab
namespace Go.Ab
open Go
set_option maxRecDepth 100000
set_option maxHeartbeats 8000000
abbrev Bs := List UInt8
def gtLast (out : List Bs) (x : Bs) : Bool :=
  match out.getLast? with
  | none => true
  | some y => decide (y < x)
def ltBest : Option Bs → Bs → Bool
  | none, _ => true
  | some y, x => decide (x < y)
def stepB (out : List Bs) (b : Option Bs) (x : Bs) : Option Bs := if gtLast out x && ltBest b x then some x else b
def best (l out : List Bs) : Option Bs := l.foldl (stepB out) none
theorem best_spec (out : List Bs) : ∀ (l : List Bs) (b : Option Bs), (match l.foldl (stepB out) b with
    | none => b = none ∧ ∀ x ∈ l, gtLast out x = false
    | some y => (b = some y ∨ (y ∈ l ∧ gtLast out y = true)) ∧ (∀ x ∈ l, gtLast out x = true → ¬ x < y) ∧ (∀ z, b = some z → ¬ z < y))
  | [], b => by
    cases b with
    | none => exact ⟨rfl, by simp⟩
    | some y => exact ⟨.inl rfl, by simp, fun z hz => by injection hz with hz; subst hz; exact List.lt_irrefl _⟩
  | a :: l, b => by
    have ih := best_spec out l (stepB out b a)
    show (match l.foldl (stepB out) (stepB out b a) with | none => _ | some y => _)
    cases hf : l.foldl (stepB out) (stepB out b a) with
    | none =>
      rw [hf] at ih
      obtain ⟨h1, h2⟩ := ih
      unfold stepB at h1
      split at h1
      · cases h1
      · rename_i hc
        subst h1
        refine ⟨rfl, ?_⟩
        intro x hx
        rcases List.mem_cons.1 hx with rfl | hx
        · simpa [ltBest] using hc
        · exact h2 x hx
    | some y =>
      rw [hf] at ih
      obtain ⟨h1, h2, h3⟩ := ih
      unfold stepB at h1 h3
      by_cases hc : (gtLast out a && ltBest b a) = true
      · rw [if_pos hc] at h1 h3
        simp only [Bool.and_eq_true] at hc
        have ha : ¬ a < y := h3 a rfl
        refine ⟨?_, ?_, ?_⟩
        · rcases h1 with h1 | h1
          · injection h1 with h1; subst h1; exact .inr ⟨by simp, hc.1⟩
          · exact .inr ⟨by simp [h1.1], h1.2⟩
        · intro x hx hg
          rcases List.mem_cons.1 hx with rfl | hx
          · exact ha
          · exact h2 x hx hg
        · intro z hz hzy
          subst hz
          have hz2 : a < z := by simpa [ltBest] using hc.2
          exact ha (List.lt_trans hz2 hzy)
      · rw [if_neg hc] at h1 h3
        refine ⟨?_, ?_, h3⟩
        · rcases h1 with h1 | h1
          · exact .inl h1
          · exact .inr ⟨by simp [h1.1], h1.2⟩
        · intro x hx hg
          rcases List.mem_cons.1 hx with rfl | hx
          · intro hlt
            rw [hg, Bool.true_and] at hc
            cases b with
            | none => simp [ltBest] at hc
            | some z =>
              have hnz : ¬ x < z := by simpa [ltBest] using hc
              have hzy := h3 z rfl
              have h4 : z ≤ x := List.not_lt.1 hnz
              exact hzy (List.lt_of_le_of_lt h4 hlt)
          · exact h2 x hx hg
def Asc (l : List Bs) : Prop := l.Pairwise (· < ·)
theorem asc_set {R l : List Bs} (ha : Asc R) (hm : ∀ x, x ∈ R ↔ x ∈ l) : R = setS l := by
  have tr : ∀ x y z : Bs, decide (x ≤ y) = true → decide (y ≤ z) = true → decide (x ≤ z) = true := by
    intro x y z h1 h2
    simp only [decide_eq_true_eq] at *
    exact List.le_trans h1 h2
  have tot : ∀ x y : Bs, (decide (x ≤ y) || decide (y ≤ x)) = true := by
    intro x y
    simp only [Bool.or_eq_true, decide_eq_true_eq]
    exact List.le_total x y
  have hn : R.Nodup := ha.imp fun h => by rintro rfl; exact List.lt_irrefl _ h
  have hp : R.Perm (addAll [] l) := by
    rw [List.perm_ext_iff_of_nodup hn (addAll_nodup l [] (by simp))]
    intro x; rw [hm, addAll_mem]; simp
  refine List.Perm.eq_of_pairwise (le := fun x y => decide (x ≤ y) = true) ?_ (ha.imp fun h => by simpa using List.le_of_lt h) (List.pairwise_mergeSort tr tot _) (hp.trans (List.mergeSort_perm _ _).symm)
  intro x y _ _ h1 h2
  simp only [decide_eq_true_eq] at h1 h2
  exact List.le_antisymm h1 h2
theorem asc_snoc {out : List Bs} {y : Bs} (ha : Asc out) (h : gtLast out y = true) : Asc (out ++ [y]) := by
  unfold Asc at *
  rw [List.pairwise_append]
  refine ⟨ha, by simp, ?_⟩
  intro a haa b hb
  rw [List.mem_singleton] at hb
  subst hb
  cases ho : out.getLast? with
  | none => rw [List.getLast?_eq_none_iff] at ho; subst ho; cases haa
  | some z =>
    have hz : z < b := by simpa [gtLast, ho] using h
    obtain ⟨l', rfl⟩ := List.getLast?_eq_some_iff.1 ho
    rcases List.mem_append.1 haa with h1 | h1
    · have := (List.pairwise_append.1 ha).2.2 a h1 z (by simp)
      exact List.lt_trans this hz
    · rw [List.mem_singleton.1 h1]; exact hz
theorem nodup_sub_le : ∀ {a b : List Bs}, a.Nodup → (∀ x ∈ a, x ∈ b) → a.length ≤ b.length
  | [], _, _, _ => by simp
  | x :: a, b, hn, h => by
    rw [List.nodup_cons] at hn
    have hx : x ∈ b := h x (by simp)
    have := nodup_sub_le (b := b.erase x) hn.2 fun y hy => by
      have hne : y ≠ x := by rintro rfl; exact hn.1 hy
      exact (List.mem_erase_of_ne hne).2 (h y (by simp [hy]))
    rw [List.length_erase_of_mem hx] at this
    have := List.length_pos_of_mem hx
    simp only [List.length_cons]; omega
def encB : Option Bs → Bs × Bool
  | none => ([], false)
  | some y => (y, true)
theorem gt_eq (x z : Bs) : (!(Op.bytesLess x z || x == z)) = decide (z < x) := by
  rw [Go.Proofs.bytesLess_eq]
  by_cases h : z < x
  · have h1 : ¬ x < z := List.lt_asymm h
    have h2 : x ≠ z := by rintro rfl; exact List.lt_irrefl _ h
    simp [h, h1, h2]
  · by_cases h1 : x < z
    · simp [h, h1]
    · have : x = z := List.le_antisymm (List.not_lt.1 h) (List.not_lt.1 h1)
      simp [h, this]
theorem c28 {v : AV} {l : List Bs} (hv : Sl 1 v (l.map .str)) (hln : l.length ≤ 100000000) (H : Heap) : ACall PP 28 [v] H (Just H (encW ⟨true, setS l⟩)) := by
  have hl : (l.map AV.str).length = l.length := List.length_map _
  have hnil : Sl 1 .nilslice [] := .nil
  refine ACall.gives (is28.c1 nonum mixed rfl ?_)
  refine walk ?_
  refine iw_loop l.length (fun i al H' => ∃ ov out, out.length = i ∧ al = [(0, v), (3, ov)] ∧ OwnS (H ++ []) H' ov out ∧ Asc out ∧ (∀ x ∈ out, x ∈ l) ∧ (∀ x ∈ l, gtLast out x = false → x ∈ out)) ⟨_, [], rfl, rfl, .nil (.refl _), .nil, by simp, by simp [gtLast]⟩ ?_
  rintro i _ H1 hi ⟨ov, out, hol, rfl, hO, hasc, hsub, hcomp⟩
  refine walk ?_
  refine iw_loop l.length (fun k al H' => ∃ b, b = (l.take k).foldl (stepB out) none ∧ al = [(0, v), (3, ov), (4, .str (encB b).1), (5, .bool (encB b).2), (6, .int .i64 k)] ∧ H' = H1) ⟨none, rfl, rfl, rfl⟩ ?_
  rintro k _ H2 hk ⟨b, hb, rfl, rfl⟩
  refine walk ?_
  refine iw_cond _ rfl ?_ ?_ <;> intro hc
  · simp only [decide_eq_true_eq] at hc
    obtain ⟨x, hx⟩ := get_ex (l := l) (i := k) (by omega)
    have hu := getmap (f := AV.str) hx
    have hstep : (l.take (k + 1)).foldl (stepB out) none = stepB out b x := by
      rw [take_succ_get hx, List.foldl_append, ← hb]; rfl
    refine walkN ?_
    refine iw_drawq rfl rfl ?_
    refine vv_cut [(0, v), (3, ov), (4, .str (encB b).1), (5, .bool (encB b).2), (6, .int .i64 k), (40, .bool (gtLast out x && ltBest b x))] H2 ?_ ?_
    · rcases hO.2 with ⟨rfl, rfl⟩ | ⟨id, rfl, hid, _, hne⟩
      · have hg : gtLast [] x = true := rfl
        rw [hg]
        cases b with
        | none =>
          refine walk ?_
          exact vv_end rfl rfl
        | some y =>
          refine walk ?_
          rw [Go.Proofs.bytesLess_eq]
          exact vv_end rfl rfl
      · obtain ⟨l', z, rfl⟩ : ∃ l' z, out = l' ++ [z] := ⟨out.dropLast, out.getLast hne, (List.dropLast_concat_getLast hne).symm⟩
        have e0 : (((l' ++ [z]).length : Int) == 0) = false := by simp; omega
        have hlz : (l' ++ [z]).length = l'.length + 1 := by simp
        have hgl : gtLast (l' ++ [z]) x = decide (z < x) := by simp [gtLast]
        rw [hgl]
        refine walk ?_
        refine st_subi rfl rfl (by omega) (by omega) ?_
        refine walk ?_
        refine st_idxSl (i := l'.length) rfl (by show AV.int .i64 _ = _; congr 1; omega) (by omega) ?_
        refine walk ?_
        refine st_load (v := .str z) rfl hid (by simp [dpart]) ?_
        refine walk ?_
        rw [gt_eq]
        cases h5 : decide (z < x)
        · refine walk ?_
          exact vv_end rfl rfl
        · cases b with
          | none =>
            refine walk ?_
            exact vv_end rfl rfl
          | some y =>
            refine walk ?_
            rw [Go.Proofs.bytesLess_eq]
            exact vv_end rfl rfl
    refine iw_cond _ rfl ?_ ?_ <;> intro hq
    · refine walk ?_
      refine ⟨by omega, _, rfl, ?_, rfl⟩
      rw [hstep, stepB, if_pos hq]; rfl
    · refine walk ?_
      refine ⟨by omega, _, rfl, ?_, rfl⟩
      rw [hstep, stepB, if_neg (by rw [hq]; simp)]; rfl
  simp only [decide_eq_false_iff_not] at hc
  have : k = l.length := by omega
  subst this
  rw [List.take_length] at hb
  have hbs := best_spec out l none
  rw [← hb] at hbs
  refine walk ?_
  cases b with
  | none =>
    refine walk ?_
    have hR : out = setS l := asc_set hasc fun x => ⟨hsub x, fun hx => hcomp x hx (hbs.2 x hx)⟩
    rw [← hR]
    exact fp_r rfl hO.ends
  | some y =>
    obtain ⟨h1, h2, _⟩ := hbs
    have h1 : y ∈ l ∧ gtLast out y = true := by rcases h1 with h1 | h1 <;> first | exact h1 | cases h1
    have hasc' := asc_snoc hasc h1.2
    have hsub' : ∀ x ∈ out ++ [y], x ∈ l := by
      intro x hx
      rcases List.mem_append.1 hx with h | h
      · exact hsub x h
      · rw [List.mem_singleton.1 h]; exact h1.1
    have hlen := nodup_sub_le (hasc'.imp fun h => by rintro rfl; exact List.lt_irrefl _ h) hsub'
    rw [List.length_append, List.length_singleton] at hlen
    refine walk ?_
    refine st_sliceG (out := [.str y]) rfl ?_
    refine st_appO (ys := [y]) rfl (hO.app _) (srcOf_last rfl) (by simp; omega) ?_
    intro v' H' hO'
    refine walk ?_
    refine ⟨by omega, _, out ++ [y], by simp [hol], rfl, hO', hasc', hsub', ?_⟩
    intro x hx hg
    by_cases hgx : gtLast out x = true
    · have hnx := h2 x hx hgx
      have hny : ¬ y < x := by simpa [gtLast] using hg
      have : x = y := List.le_antisymm (List.not_lt.1 hny) (List.not_lt.1 hnx)
      rw [this]; simp
    · exact List.mem_append_left _ (hcomp x hx (by simpa using hgx))
end Go.Ab
namespace Go.Ab
open Go
set_option maxRecDepth 100000
set_option maxHeartbeats 8000000
theorem setS_length (l : List Bs) : (setS l).length = (addAll [] l).length := by simp [setS, sorted]
theorem c12 (r : Ru) (hr : okR r) (hb : (occR r).length ≤ 100000000) (H : Heap) : ACall PP 12 [encR r] H (Just H (.tuple [encW ⟨true, if vrule2 r != 0 then [] else if decide (((setS (occR r)).length : Int) > 40) then [] else setS (occR r)⟩,
    .int .i64 (if vrule2 r != 0 then vrule2 r else if decide (((setS (occR r)).length : Int) > 40) then 3 else 0)])) := by
  have k16 := fun H => c16 r hr H
  have k29 := fun H => c29 r hr (by omega) H
  have k28 := fun H => c28 (sl_W ⟨true, occR r⟩) hb H
  have sv := sl_W ⟨true, setS (occR r)⟩
  have hsl : ((setS (occR r)).map AV.str).length = (setS (occR r)).length := List.length_map _
  simp only at sv k28
  generalize vrule2 r = ve at *
  generalize setS (occR r) = se at *
  generalize encW ⟨true, occR r⟩ = vo at *
  have e1 : decide (((se.map AV.str).length : Int) > 40) = decide ((se.length : Int) > 40) := by rw [hsl]
  obtain ⟨kind, pn, pairs, ln, places, below⟩ := r
  unfold encR at *
  refine ACall.gives (is12.c1 nonum mixed rfl ?_)
  refine walk ?_
  refine st_call rfl (k16 _) ?_
  refine walk ?_
  refine iw_cond _ rfl ?_ ?_ <;> intro h1
  · simp only [h1, if_true]
    refine walk ?_
    exact fr (hp := plain_ans ⟨true, []⟩ _)
  simp only [h1, Bool.false_eq_true, if_false]
  refine walk ?_
  refine st_call rfl (k29 _) ?_
  refine st_call rfl (k28 _) ?_
  refine walk ?_
  rw [e1]
  refine iw_cond _ rfl ?_ ?_ <;> intro h2
  · simp only [h2, if_true]
    refine walk ?_
    exact fr (hp := plain_ans ⟨true, []⟩ _)
  simp only [h2, Bool.false_eq_true, if_false]
  refine walk ?_
  exact fr (hp := plain_ans ⟨true, se⟩ _)
theorem kids_eq (op : Int) (n : Nat) (h : n ≤ 39) (s : List UInt8) : (outOp op || badNode2 (kids2 op) op s n) = (badNode (kidsS op) op s n || badSym op s) := by
  unfold badNode2 badNode badSym
  rcases ops_all op with h1 | h1
  · rcases h1 with rfl | rfl | rfl | rfl | rfl | rfl | rfl | rfl | rfl | rfl | rfl | rfl | rfl | rfl | rfl | rfl
    all_goals simp [outOp, kidsS, kids2, show ¬ (40 : Int) < (n : Int) by omega]
  · have e1 : outOp op = true := by
      unfold outOp
      rcases h1 with h1 | h1
      · simp [h1]
      · simp; right; omega
    have e : kidsS op = (0, 0, false) := by
      unfold kidsS
      rw [if_neg (by omega), if_neg (by omega), if_neg (by omega), if_neg (by omega), if_neg (by omega)]
    rw [e1, e]
    simp
mutual
theorem right_eq : ∀ e : Ex, e.size ≤ 40 → e.right2 = e.right
  | .mk op s nl l, h => by
    simp only [Ex.size] at h
    have hl := length_sizes l
    have h1 := rights_eq l (by omega)
    have h2 := kids_eq op l.length (by omega) s
    simp only [Ex.right2, Ex.right, h1]
    rw [← Bool.not_or, ← Bool.not_or, h2]
theorem rights_eq : ∀ l : List Ex, sizes l ≤ 40 → rights2 l = rights l
  | [], _ => rfl
  | x :: xs, h => by
    simp only [sizes] at h
    simp only [rights2, rights, right_eq x (by omega), rights_eq xs (by omega)]
end
theorem vexpr_eq (e : Ex) : vexpr2 e = vexpr e := by
  unfold vexpr2 vexpr
  by_cases h : (decide ((e.size : Int) > 40) || decide ((e.deep : Int) > 12)) = true
  · rw [if_pos h, if_pos h]
  · rw [if_neg h, if_neg h]
    simp only [Bool.or_eq_true, decide_eq_true_eq, not_or] at h
    rw [right_eq e (by omega)]
theorem vrule_eq (r : Ru) : vrule2 r = vrule r := by
  have hv : vexpr2 = vexpr := funext vexpr_eq
  unfold vrule2 vrule
  rw [hv]
  have hf : formR r = (formR2 r || twice r.pairs) := by
    unfold formR formR2
    congr 1
    rcases r with ⟨kind, pn, pairs, ln, places, below⟩
    simp only
    by_cases h0 : kind < 0
    · simp [h0]
    · by_cases h3 : kind > 3
      · simp [h3]
      · have : (decide (kind < 2)) = ((kind != 2) && (kind != 3)) := by
          have : kind = 0 ∨ kind = 1 ∨ kind = 2 ∨ kind = 3 := by omega
          rcases this with rfl | rfl | rfl | rfl <;> rfl
        rw [this, Bool.and_assoc]
  rw [hf]
  cases formR2 r <;> cases twice r.pairs <;> simp
end Go.Ab
