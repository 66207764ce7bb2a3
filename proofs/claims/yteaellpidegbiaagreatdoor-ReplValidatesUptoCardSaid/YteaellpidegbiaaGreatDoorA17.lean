/- Part 17 of the proof. -/
import Derived.Test.YteaellpidegbiaaGreatDoorA16
set_option linter.unusedVariables false
set_option linter.unusedSimpArgs false
namespace Go.Ab
variable {P : Program} {H H' K : Heap}
def nthN : List Nat → Nat → Nat
  | [], _ => 0
  | x :: _, 0 => x
  | _ :: l, n + 1 => nthN l n
def kap (n m big : Nat) (js : List Nat) (id : Nat) : Nat :=
  bif Nat.blt id n then id else bif Nat.blt id m then nthN js (id - n) else big + id
def sameB (a b : Blk) : Bool :=
  match a, b with
  | .dead, .dead => true
  | .resv, .resv => true
  | .cells x, .cells y => sameL sameV x y
  | .map x c, .map y d => Nat.beq c d && sameE x y
  | .iter m s l c, .iter m' s' l' c' => m == m' && Nat.beq s s' && l == l' && Nat.beq c c'
  | _, _ => false
where sameE : List (AV × AV × Nat) → List (AV × AV × Nat) → Bool
  | [], [] => true
  | x :: xs, y :: ys => sameV x.1 y.1 && sameV x.2.1 y.2.1 && Nat.beq x.2.2 y.2.2 && sameE xs ys
  | _, _ => false
theorem sameE_eq : ∀ {x y : List (AV × AV × Nat)}, sameB.sameE x y = true → x = y
  | [], [], _ => rfl
  | [], _ :: _, h => by cases h
  | _ :: _, [], h => by cases h
  | (a, b, c) :: xs, (a', b', c') :: ys, h => by
    simp only [sameB.sameE, Bool.and_eq_true] at h
    rw [sameV_eq h.1.1.1, sameV_eq h.1.1.2, Nat.eq_of_beq_eq_true h.1.2, sameE_eq h.2]
theorem sameB_eq {a b : Blk} (h : sameB a b = true) : a = b := by
  unfold sameB at h
  split at h
  · rfl
  · rfl
  · rw [sameL_eq (fun x y q => sameV_eq q) h]
  · rw [Bool.and_eq_true] at h; rw [Nat.eq_of_beq_eq_true h.1, sameE_eq h.2]
  · simp only [Bool.and_eq_true] at h
    rw [eq_of_beq h.1.1.1, Nat.eq_of_beq_eq_true h.1.1.2, eq_of_beq h.1.2, Nat.eq_of_beq_eq_true h.2]
  · cases h
def isDead : Blk → Bool
  | .dead => true
  | _ => false
def blksOk (κ : Nat → Nat) (H' : Heap) : Nat → List Blk → Bool
  | _, [] => true
  | i, b :: l => (isDead b || (match H'[κ i]? with | some b' => sameB b' (mapB κ b) | none => false)) && blksOk κ H' (i + 1) l
theorem blksOk_spec {κ : Nat → Nat} : ∀ {l : List Blk} {i : Nat}, blksOk κ H' i l = true → ∀ (j : Nat) b, l[j]? = some b → b = .dead ∨ H'[κ (i + j)]? = some (mapB κ b)
  | [], i, _, j, b, h => by simp at h
  | x :: l, i, hk, j, b, h => by
    simp only [blksOk, Bool.and_eq_true, Bool.or_eq_true] at hk
    cases j with
    | zero =>
      simp at h; subst h
      rcases hk.1 with e | e
      · left; cases x <;> first | rfl | cases e
      · right
        split at e
        · rename_i b' hb; rw [Nat.add_zero, hb, sameB_eq e]
        · cases e
    | succ j =>
      have := blksOk_spec hk.2 j b (by simpa using h)
      rw [show i + (j + 1) = i + 1 + j by omega]; exact this
def resvOk : List Blk → List Blk → Bool
  | [], _ => true
  | .resv :: l, .resv :: k => resvOk l k
  | .resv :: _, _ => false
  | _ :: l, _ :: k => resvOk l k
  | _ :: _, [] => false
theorem resvOk_spec : ∀ {l k : List Blk}, resvOk l k = true → l.length ≤ k.length ∧ ∀ i : Nat, l[i]? = some .resv → k[i]? = some .resv
  | [], k, _ => ⟨Nat.zero_le _, fun i h => by simp at h⟩
  | a :: l, [], h => by cases a <;> cases h
  | a :: l, b :: k, h => by
    have key : resvOk l k = true ∧ (a = .resv → b = .resv) := by
      cases a <;> cases b <;> first | (cases h; done) | exact ⟨h, fun _ => rfl⟩ | exact ⟨h, fun e => by cases e⟩
    obtain ⟨h1, h2⟩ := resvOk_spec key.1
    refine ⟨by simp; omega, fun i hi => ?_⟩
    cases i with
    | zero => simp at hi ⊢; exact key.2 hi
    | succ i => simpa using h2 i (by simpa using hi)
def nodupN : List Nat → Bool
  | [] => true
  | x :: l => l.all (fun y => !Nat.beq x y) && nodupN l
theorem nodupN_inj : ∀ {l : List Nat}, nodupN l = true → ∀ i j, i < l.length → j < l.length → nthN l i = nthN l j → i = j
  | [], _, i, j, h, _, _ => by simp at h
  | x :: l, hn, i, j, hi, hj, e => by
    simp only [nodupN, Bool.and_eq_true] at hn
    have ne : ∀ k, k < l.length → x ≠ nthN l k := by
      intro k hk hx
      have hm : nthN l k ∈ l := by
        clear hn hi hj e hx
        induction l generalizing k with
        | nil => simp at hk
        | cons y l ih =>
          cases k with
          | zero => simp [nthN]
          | succ k => simp only [nthN, List.mem_cons]; exact .inr (ih k (by simpa using hk))
      have := List.all_eq_true.1 hn.1 _ hm
      rw [← hx] at this
      simp at this
    cases i with
    | zero => cases j with
      | zero => rfl
      | succ j => exact absurd e (ne j (by simpa using hj))
    | succ i => cases j with
      | zero => exact absurd e.symm (ne i (by simpa using hi))
      | succ j => rw [nodupN_inj hn.2 i j (by simpa using hi) (by simpa using hj) e]
theorem nthN_ge {n : Nat} : ∀ {l : List Nat}, l.all (fun j => Nat.ble n j) = true → ∀ i, i < l.length → n ≤ nthN l i
  | [], _, i, h => by simp at h
  | x :: l, ha, i, h => by
    simp only [List.all_cons, Bool.and_eq_true] at ha
    cases i with
    | zero => exact Nat.le_of_ble_eq_true ha.1
    | succ i => exact nthN_ge ha.2 i (by simpa using h)
def renB (js : List Nat) (H H' K : Heap) : Bool :=
  Nat.beq K.length (H.length + js.length) && resvOk H K && nodupN js && js.all (fun j => Nat.ble H.length j) && blksOk (kap H.length (H.length + js.length) H'.length js) H' 0 K
theorem kap_old {n m big id : Nat} {js : List Nat} (h : id < n) : kap n m big js id = id := by
  unfold kap; rw [show Nat.blt id n = true by rw [Nat.blt_eq]; exact h]; rfl
theorem kap_new {n m big id : Nat} {js : List Nat} (h : n ≤ id) (h' : id < m) : kap n m big js id = nthN js (id - n) := by
  unfold kap
  rw [show Nat.blt id n = false by rw [← Bool.not_eq_true, Nat.blt_eq]; omega, show Nat.blt id m = true by rw [Nat.blt_eq]; exact h']; rfl
theorem kap_out {n m big id : Nat} {js : List Nat} (h : n ≤ id) (h' : m ≤ id) : kap n m big js id = big + id := by
  unfold kap
  rw [show Nat.blt id n = false by rw [← Bool.not_eq_true, Nat.blt_eq]; omega, show Nat.blt id m = false by rw [← Bool.not_eq_true, Nat.blt_eq]; omega]; rfl
theorem renB_spec {js : List Nat} (h : renB js H H' K = true) : Ren (kap H.length (H.length + js.length) H'.length js) H H' K := by
  unfold renB at h
  simp only [Bool.and_eq_true] at h
  obtain ⟨⟨⟨⟨h1, h2⟩, h3⟩, h4⟩, h5⟩ := h
  have hl := Nat.eq_of_beq_eq_true h1
  obtain ⟨r1, r2⟩ := resvOk_spec h2
  refine ⟨fun id hid => kap_old hid, r1, r2, fun id hid => ?_, fun id b hb => ?_, fun i j hi hj e => ?_⟩
  · rw [kap_out (by omega) (by omega)]; omega
  · have := blksOk_spec h5 id b hb
    rw [Nat.zero_add] at this; exact this
  · rcases Nat.lt_or_ge i H.length with a | a <;> rcases Nat.lt_or_ge j H.length with b | b
    · rw [kap_old a, kap_old b] at e; exact e
    · rw [kap_old a, kap_new b (by omega)] at e
      have := nthN_ge h4 (j - H.length) (by omega); omega
    · rw [kap_new a (by omega), kap_old b] at e
      have := nthN_ge h4 (i - H.length) (by omega); omega
    · rw [kap_new a (by omega), kap_new b (by omega)] at e
      have := nodupN_inj h3 _ _ (by omega) (by omega) e
      omega
def sameR (a b : ARes) : Bool :=
  match a, b with
  | .ret x, .ret y => sameV x y
  | .panic x, .panic y => sameV x y
  | _, _ => false
theorem sameR_eq {a b : ARes} (h : sameR a b = true) : a = b := by
  unfold sameR at h
  split at h
  · rw [sameV_eq h]
  · rw [sameV_eq h]
  · cases h
def endOk (js : List Nat) (r : ARes) (H K : Heap) (r' : ARes) (H' : Heap) : Bool :=
  sameR r' (mapR (kap H.length (H.length + js.length) H'.length js) r) && renB js H H' K
theorem acall_of_run {call : BCall} (hc : CallOk P call) {f : FuncId} {args : List AV} {r : ARes} (js : List Nat) (h : call f args H (endOk js r H K) = true) :
    hasBody P f = true ∧ ACall P f args H (fun r' H' => r' = r ∧ H' = K) := by
  have := hc f args H (endOk js r H K) (fun r' H' => ∃ κ, Ren κ H H' K ∧ r' = mapR κ r) h (by
    intro r' H' q
    unfold endOk at q
    rw [Bool.and_eq_true] at q
    exact ⟨_, renB_spec q.2, sameR_eq q.1⟩)
  exact ⟨this.1, this.2.ren⟩
end Go.Ab
