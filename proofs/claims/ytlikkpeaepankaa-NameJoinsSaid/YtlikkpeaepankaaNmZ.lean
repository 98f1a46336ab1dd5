/- Texts, labels and letters of names, as lists of labels. -/
import Derived.Test.YtlikkpeaepankaaNmY
namespace Go.Proofs.Ytlikkpeaepankaa.Nm
open Go.RowKit

/-! ### Of -/
theorem labOk_mk (x : List UInt8) : labOk (mk x) = true ↔ okL x := by
  unfold labOk okL; rw [mk_size]; simp only [Bool.and_eq_true, decide_eq_true_eq]
theorem ofBytes_mk (a : List (List UInt8)) : ofBytes (a.map mk) = flat a := by
  induction a with
  | nil => rfl
  | cons x a ih =>
    have : ofBytes ((x :: a).map mk) = (UInt8.ofNat x.length :: x) ++ ofBytes (a.map mk) := by simp [ofBytes]
    rw [this, ih, flat_cons]
theorem ofSize_mk (a : List (List UInt8)) : ofSize (a.map mk) = (enc a).length := by
  rw [← ofSize_len, ofBytes_mk, enc_length]
theorem ofW_mk (a : List (List UInt8)) (h : ∀ x ∈ a, okL x) : ofW (a.map mk) = if (enc a).length ≤ 255 then (mk (enc a), 0) else (⟨#[]⟩, 3) := by
  unfold ofW
  have hall : (a.map mk).all labOk = true := by
    rw [List.all_eq_true]
    intro s hs
    obtain ⟨x, hx, rfl⟩ := List.mem_map.1 hs
    exact (labOk_mk x).2 (h x hx)
  rw [if_pos hall, ofSize_mk, ofBytes_mk]; rfl
theorem ofW_bad (l : List ByteArray) (h : ¬ ∀ s ∈ l, okL s.data.toList) : ofW l = (⟨#[]⟩, 2) := by
  unfold ofW
  rw [if_neg]
  intro h2
  rw [List.all_eq_true] at h2
  exact h fun s hs => (labOk_mk _).1 (by rw [mk_toList]; exact h2 s hs)

/-! ### Text -/
theorem textAll_pos : ∀ (a : List (List UInt8)) (k : Nat), textAll (posL k a) = a.flatMap (fun x => textBs x ++ [46]) := by
  intro a
  induction a with
  | nil => intro k; rfl
  | cons x a ih =>
    intro k
    have : textAll (posL k (x :: a)) = (textBs x ++ [46]) ++ textAll (posL (k + 1 + x.length) a) := by simp [posL, textAll, textL]
    rw [this, ih]; simp
theorem IsN.text {a : List (List UInt8)} (ha : IsN a) : textW (mk (enc a)) = if a = [] then (⟨#[46]⟩, 0) else (mk (a.flatMap (fun x => textBs x ++ [46])), 0) := by
  unfold textW
  rw [ha.right, if_pos rfl, mk_list, labs_enc a ha.ok, textAll_pos]
  by_cases h : a = []
  · subst h; rfl
  · have : enc a ≠ [0] := fun e => h (enc_inj ha.ok (by simp : ∀ x ∈ ([] : List (List UInt8)), okL x) (by rw [e]; rfl))
    rw [if_neg this, if_neg h]; rfl

/-! ### Cased -/
def caseW (bits : Nat) : Nat → List UInt8 → List UInt8 × Nat
  | k, [] => ([], k)
  | k, c :: x => if isLow c then (caseB bits k c :: (caseW bits (k + 1) x).1, (caseW bits (k + 1) x).2) else (c :: (caseW bits k x).1, (caseW bits k x).2)
theorem caseW_length (bits : Nat) : ∀ (x : List UInt8) (k : Nat), (caseW bits k x).1.length = x.length := by
  intro x
  induction x with
  | nil => intro k; rfl
  | cons c x ih => intro k; unfold caseW; split <;> simp [ih]

theorem caseStep_at (bits k : Nat) (p r : List UInt8) (c : UInt8) : caseStep bits (p ++ c :: r, k) p.length = if isLow c then (p ++ caseB bits k c :: r, k + 1) else (p ++ c :: r, k) := by
  unfold caseStep
  have h : (p ++ c :: r).getD p.length 0 = c := by simp [List.getD]
  simp only [h]
  split
  · simp
  · rfl
theorem caseRange_succ' (bits : Nat) (q : List UInt8 × Nat) (a m : Nat) : caseRange bits q a (m + 1) = caseRange bits (caseStep bits q a) (a + 1) m := by
  induction m with
  | zero => rfl
  | succ m ih =>
    rw [caseRange, ih, caseRange, show a + (m + 1) = a + 1 + m by omega]
theorem caseRange_at (bits : Nat) : ∀ (x p r : List UInt8) (k : Nat), caseRange bits (p ++ (x ++ r), k) p.length x.length = (p ++ ((caseW bits k x).1 ++ r), (caseW bits k x).2) := by
  intro x
  induction x with
  | nil => intro p r k; rfl
  | cons c x ih =>
    intro p r k
    rw [List.length_cons, caseRange_succ', List.cons_append, caseStep_at]
    unfold caseW
    split
    · have h := ih (p ++ [caseB bits k c]) r (k + 1)
      have h2 : (p ++ [caseB bits k c]).length = p.length + 1 := by simp
      rw [h2] at h
      simp only [List.append_assoc, List.cons_append, List.nil_append] at h ⊢
      exact h
    · have h := ih (p ++ [c]) r k
      have h2 : (p ++ [c]).length = p.length + 1 := by simp
      rw [h2] at h
      simp only [List.append_assoc, List.cons_append, List.nil_append] at h ⊢
      exact h
/-- The labels with letters as the bits say. -/
def casL (bits : Nat) : Nat → List (List UInt8) → List (List UInt8)
  | _, [] => []
  | k, x :: a => (caseW bits k x).1 :: casL bits (caseW bits k x).2 a
/-- caseAll over the labels' places: what stands there are the labels b, as long as those. -/
theorem caseAll_at (bits : Nat) : ∀ (a b : List (List UInt8)) (p r : List UInt8) (k : Nat), a.map List.length = b.map List.length → (caseAll bits (p ++ (flat b ++ r), k) (posL p.length a)).1 = p ++ (flat (casL bits k b) ++ r) := by
  intro a
  induction a with
  | nil =>
    intro b p r k h
    cases b with
    | nil => rfl
    | cons y b => simp at h
  | cons x a ih =>
    intro b p r k h
    cases b with
    | nil => simp at h
    | cons y b =>
      simp only [List.map_cons, List.cons.injEq] at h
      have h1 : p ++ (flat (y :: b) ++ r) = (p ++ [UInt8.ofNat y.length]) ++ (y ++ (flat b ++ r)) := by simp
      have h2 := caseRange_at bits y (p ++ [UInt8.ofNat y.length]) (flat b ++ r) k
      have h3 : (p ++ [UInt8.ofNat y.length]).length = p.length + 1 := by simp
      rw [h3] at h2
      rw [posL, caseAll, List.foldl_cons, ← caseAll]
      show (caseAll bits (caseRange bits _ (p.length + 1) (mk x).size) _).1 = _
      rw [mk_size, h.1, h1, h2]
      have h4 := ih b (p ++ [UInt8.ofNat y.length] ++ (caseW bits k y).1) r (caseW bits k y).2 h.2
      have h5 : (p ++ [UInt8.ofNat y.length] ++ (caseW bits k y).1).length = p.length + 1 + y.length := by simp [caseW_length]; omega
      rw [h5, List.append_assoc _ (caseW bits k y).1] at h4
      rw [h4, casL, flat_cons, caseW_length]
      simp
theorem low_len (a : List (List UInt8)) : a.map List.length = (a.map lowL).map List.length := by
  rw [List.map_map]
  apply List.map_congr_left
  intro x _
  simp
theorem lowU_fin : ∀ k : Fin 256, lowU (lowU (UInt8.ofNat k.val)) = lowU (UInt8.ofNat k.val) := by decide +kernel
theorem lowU_idem (c : UInt8) : lowU (lowU c) = lowU c := by
  have := lowU_fin ⟨c.toNat, UInt8.toNat_lt c⟩; simpa using this
theorem caseB_fin : ∀ k : Fin 256, isLow (UInt8.ofNat k.val) = true → lowU (UInt8.ofNat (k.val - 32 * 1)) = lowU (UInt8.ofNat k.val) ∧ lowU (UInt8.ofNat (k.val - 32 * 0)) = lowU (UInt8.ofNat k.val) := by decide +kernel
theorem caseB_low (bits k : Nat) (c : UInt8) (h : isLow c = true) : lowU (caseB bits k c) = lowU c := by
  have h1 := caseB_fin ⟨c.toNat, UInt8.toNat_lt c⟩ (by simpa using h)
  unfold caseB
  rcases Nat.mod_two_eq_zero_or_one (bits >>> (k % 64)) with e | e
  · rw [e]; simp
  · rw [e]; simpa using h1.1
theorem caseW_low (bits : Nat) : ∀ (x : List UInt8) (k : Nat), lowL (caseW bits k x).1 = lowL x := by
  intro x
  induction x with
  | nil => intro k; rfl
  | cons c x ih =>
    intro k
    unfold caseW
    split
    · rename_i h
      show lowU (caseB bits k c) :: lowL (caseW bits (k + 1) x).1 = lowU c :: lowL x
      rw [caseB_low bits k c h, ih]
    · show lowU c :: lowL (caseW bits k x).1 = lowU c :: lowL x
      rw [ih]
theorem casL_low (bits : Nat) : ∀ (a : List (List UInt8)) (k : Nat), (casL bits k a).map lowL = a.map lowL := by
  intro a
  induction a with
  | nil => intro k; rfl
  | cons x a ih => intro k; simp [casL, caseW_low, ih]
theorem casL_len (bits : Nat) : ∀ (a : List (List UInt8)) (k : Nat), (casL bits k a).map List.length = a.map List.length := by
  intro a
  induction a with
  | nil => intro k; rfl
  | cons x a ih => intro k; simp [casL, caseW_length, ih]
theorem ok_len {a b : List (List UInt8)} (h : a.map List.length = b.map List.length) (hb : ∀ x ∈ b, okL x) : ∀ x ∈ a, okL x := by
  intro x hx
  have : x.length ∈ b.map List.length := by rw [← h]; exact List.mem_map_of_mem hx
  obtain ⟨y, hy, e⟩ := List.mem_map.1 this
  unfold okL; rw [← e]; exact hb y hy
theorem flat_len {a b : List (List UInt8)} (h : a.map List.length = b.map List.length) : (flat a).length = (flat b).length := by
  induction a generalizing b with
  | nil => cases b with
    | nil => rfl
    | cons y b => simp at h
  | cons x a ih => cases b with
    | nil => simp at h
    | cons y b => simp only [List.map_cons, List.cons.injEq] at h; simp [h.1, ih h.2]
theorem IsN.casd {a : List (List UInt8)} (ha : IsN a) (bits : Nat) : casedW (mk (enc a)) bits = (mk (enc (casL bits 0 (a.map lowL))), 0) := by
  unfold casedW
  rw [ha.right, if_pos rfl, ha.lower, labs_enc a ha.ok]
  have h := caseAll_at bits a (a.map lowL) [] [0] 0 (low_len a)
  simp only [List.nil_append, List.length_nil] at h
  show (mk (caseAll bits (enc (a.map lowL), 0) (posL 0 a)).1, (0 : Int)) = _
  rw [enc, h]; rfl
theorem IsN.cas {a : List (List UInt8)} (ha : IsN a) (bits : Nat) : IsN (casL bits 0 (a.map lowL)) ∧ (casL bits 0 (a.map lowL)).map lowL = a.map lowL := by
  have h1 := casL_len bits (a.map lowL) 0
  refine ⟨⟨ok_len h1 ha.low.ok, ?_⟩, ?_⟩
  · rw [enc_length, flat_len h1, ← enc_length]; exact ha.low.le
  · rw [casL_low, List.map_map]
    apply List.map_congr_left
    intro x _
    show lowL (lowL x) = lowL x
    unfold lowL
    rw [List.map_map]
    apply List.map_congr_left
    intro c _
    exact lowU_idem c
end Go.Proofs.Ytlikkpeaepankaa.Nm
