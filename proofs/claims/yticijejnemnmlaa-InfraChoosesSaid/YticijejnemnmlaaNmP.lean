/- Names as lists of labels. -/
import Derived.Test.YticijejnemnmlaaNmK
namespace Go.Proofs.Yticijejnemnmlaa.Nm
open Go.RowKit

def mk (L : List UInt8) : ByteArray := ⟨L.toArray⟩
theorem mk_toList (s : ByteArray) : mk s.data.toList = s := by cases s; rfl
@[simp] theorem mk_data (L : List UInt8) : (mk L).data.toList = L := rfl
@[simp] theorem mk_size (L : List UInt8) : (mk L).size = L.length := rfl
@[simp] theorem mk_list (L : List UInt8) : (mk L).toList = L := by rw [ByteArray.toList_eq]; rfl
theorem mk_inj {A B : List UInt8} (h : mk A = mk B) : A = B := by have := congrArg (fun s => s.data.toList) h; exact this
theorem mk_get (L : List UInt8) (k : Nat) (h : k < (mk L).size) : (mk L)[k] = L[k]'h := rfl
theorem mk_extract (L : List UInt8) (a b : Nat) : (mk L).extract a b = mk ((L.drop a).take (b - a)) := by
  rw [← mk_toList ((mk L).extract a b), ByteArray.data_extract, Array.toList_extract, List.extract_eq_take_drop]; rfl

def okL (x : List UInt8) : Prop := 1 ≤ x.length ∧ x.length ≤ 63
def flat (ls : List (List UInt8)) : List UInt8 := ls.flatMap (fun x => UInt8.ofNat x.length :: x)
def enc (ls : List (List UInt8)) : List UInt8 := flat ls ++ [0]
def posL : Nat → List (List UInt8) → List (Nat × ByteArray)
  | _, [] => []
  | k, x :: ls => (k, mk x) :: posL (k + 1 + x.length) ls

@[simp] theorem flat_nil : flat [] = [] := rfl
@[simp] theorem flat_cons (x : List UInt8) (ls : List (List UInt8)) : flat (x :: ls) = UInt8.ofNat x.length :: x ++ flat ls := by simp [flat]
theorem flat_append (a b : List (List UInt8)) : flat (a ++ b) = flat a ++ flat b := by simp [flat]

theorem lab1_here (p x r : List UInt8) (hx : okL x) : lab1 (mk (p ++ (UInt8.ofNat x.length :: x ++ r))) p.length = some (p.length + 1 + x.length) := by
  obtain ⟨h1, h2⟩ := hx
  unfold lab1
  rw [dif_pos (by simp)]
  have hg : (mk (p ++ (UInt8.ofNat x.length :: x ++ r)))[p.length]'(by simp) = UInt8.ofNat x.length := by rw [mk_get]; simp
  have hn : (UInt8.ofNat x.length).toNat = x.length := by simp; omega
  rw [hg, hn, if_neg (by omega), if_neg (by omega), if_neg (by simp; omega)]

theorem lab1_end (p r : List UInt8) : lab1 (mk (p ++ 0 :: r)) p.length = none := by
  unfold lab1
  have hlt : p.length < (mk (p ++ 0 :: r)).size := by show p.length < (p ++ 0 :: r).length; simp
  rw [dif_pos hlt]
  have hg : (mk (p ++ 0 :: r))[p.length]'hlt = 0 := by show (p ++ 0 :: r)[p.length]'(by simp) = 0; simp
  rw [hg]; rfl

theorem labs_at : ∀ (ls : List (List UInt8)) (p r : List UInt8), (∀ x ∈ ls, okL x) → labs (mk (p ++ (flat ls ++ 0 :: r))) p.length = posL p.length ls := by
  intro ls
  induction ls with
  | nil => intro p r _; rw [labs_none]; rfl; exact lab1_end p r
  | cons x ls ih =>
    intro p r hx
    have h1 := lab1_here p x (flat ls ++ 0 :: r) (hx x (by simp))
    have he : p ++ (flat (x :: ls) ++ 0 :: r) = p ++ (UInt8.ofNat x.length :: x ++ (flat ls ++ 0 :: r)) := by simp
    rw [he, labs_some h1]
    have h2 := ih (p ++ (UInt8.ofNat x.length :: x)) r (fun y hy => hx y (by simp [hy]))
    have he2 : p ++ (UInt8.ofNat x.length :: x) ++ (flat ls ++ 0 :: r) = p ++ (UInt8.ofNat x.length :: x ++ (flat ls ++ 0 :: r)) := by simp
    have hl : (p ++ (UInt8.ofNat x.length :: x)).length = p.length + 1 + x.length := by simp; omega
    rw [he2, hl] at h2
    rw [h2, posL, mk_extract]
    congr 3
    have h3 : p ++ (UInt8.ofNat x.length :: x ++ (flat ls ++ 0 :: r)) = (p ++ [UInt8.ofNat x.length]) ++ (x ++ (flat ls ++ 0 :: r)) := by simp
    have hl2 : (p ++ [UInt8.ofNat x.length]).length = p.length + 1 := by simp
    rw [h3, ← hl2, List.drop_left, show (p ++ [UInt8.ofNat x.length]).length + x.length - (p ++ [UInt8.ofNat x.length]).length = x.length by omega, List.take_left]

theorem endOf_posL : ∀ (ls : List (List UInt8)) (k : Nat) (pre : List (Nat × ByteArray)), endOf (pre ++ posL k ls) = if ls = [] then endOf pre else k + (flat ls).length := by
  intro ls
  induction ls with
  | nil => intro k pre; simp [posL]
  | cons x ls ih =>
    intro k pre
    have h := ih (k + 1 + x.length) (pre ++ [(k, mk x)])
    rw [posL, show pre ++ (k, mk x) :: posL (k + 1 + x.length) ls = (pre ++ [(k, mk x)]) ++ posL (k + 1 + x.length) ls by simp, h, if_neg (List.cons_ne_nil x ls)]
    split
    · rename_i h0; subst h0; rw [endOf_snoc]; simp; omega
    · simp; omega
theorem endOf_posL0 (ls : List (List UInt8)) : endOf (posL 0 ls) = (flat ls).length := by
  have := endOf_posL ls 0 []
  rw [List.nil_append] at this
  rw [this]; split
  · rename_i h; subst h; rfl
  · omega

theorem posL_snd : ∀ (ls : List (List UInt8)) (k : Nat), (posL k ls).map (·.2) = ls.map mk := by
  intro ls
  induction ls with
  | nil => intro k; rfl
  | cons x ls ih => intro k; simp [posL, ih]

theorem labs_enc (ls : List (List UInt8)) (h : ∀ x ∈ ls, okL x) : labs (mk (enc ls)) 0 = posL 0 ls := labs_at ls [] [] h

theorem right_enc (ls : List (List UInt8)) (h : ∀ x ∈ ls, okL x) (hl : (enc ls).length ≤ 255) : rightB (mk (enc ls)) = true := by
  unfold rightB
  rw [labs_enc ls h, endOf_posL0]
  have h1 : (mk (enc ls)).size = (flat ls).length + 1 := by simp [enc]
  have h2 : zeroAt (mk (enc ls)) (flat ls).length = true := by
    unfold zeroAt
    rw [dif_pos (by rw [h1]; omega), mk_get]; simp [enc]
  have h3 : (enc ls).length = (flat ls).length + 1 := by simp [enc]
  rw [h2, h1]
  simp only [Bool.and_true, Bool.and_eq_true, decide_eq_true_eq]
  exact ⟨⟨by omega, by omega⟩, trivial⟩

theorem labs_inv (s : ByteArray) : ∀ (d k : Nat), s.size - k = d → ∃ ls, (∀ x ∈ ls, okL x) ∧ labs s k = posL k ls ∧ s.data.toList.drop k = flat ls ++ s.data.toList.drop (k + (flat ls).length) := by
  intro d
  induction d using Nat.strongRecOn with
  | _ d ih =>
    intro k hd
    cases hl : lab1 s k with
    | none => exact ⟨[], by simp, labs_none hl, by simp⟩
    | some e =>
      have h := lab1_some hl
      obtain ⟨ls, h1, h2, h3⟩ := ih (s.size - e) (by omega) e rfl
      have hse := extract_size s (k + 1) e h.2.1
      have hk : k < s.data.toList.length := h.2.2.2
      have hb : s.data.toList[k].toNat = e - (k + 1) := by
        unfold lab1 at hl
        rw [dif_pos h.2.2.2] at hl
        split at hl
        · cases hl
        · split at hl
          · cases hl
          · split at hl
            · cases hl
            · have h4 := Option.some.inj hl
              have : s.data.toList[k] = s[k]'h.2.2.2 := rfl
              rw [this]; omega
      have hxl : (s.extract (k + 1) e).data.toList.length = e - (k + 1) := hse
      have hxe : (s.extract (k + 1) e).data.toList = (s.data.toList.drop (k + 1)).take (e - (k + 1)) := by
        rw [ByteArray.data_extract, Array.toList_extract, List.extract_eq_take_drop]
      refine ⟨(s.extract (k + 1) e).data.toList :: ls, ?_, ?_, ?_⟩
      · intro x hx
        rcases List.mem_cons.1 hx with rfl | hx
        · exact ⟨by rw [hxl]; omega, by rw [hxl]; omega⟩
        · exact h1 x hx
      · rw [labs_some hl, h2, posL, mk_toList, hxl, show k + 1 + (e - (k + 1)) = e by omega]
      · rw [flat_cons, List.drop_eq_getElem_cons hk]
        have h5 : UInt8.ofNat (s.extract (k + 1) e).data.toList.length = s.data.toList[k] := by rw [hxl, ← hb]; simp
        rw [h5]
        simp only [List.cons_append, List.length_cons, List.length_append, hxl]
        congr 1
        have h6 : s.data.toList.drop (k + 1) = (s.extract (k + 1) e).data.toList ++ s.data.toList.drop e := by
          rw [hxe]
          have h7 := List.take_append_drop (e - (k + 1)) (s.data.toList.drop (k + 1))
          rw [List.drop_drop, show k + 1 + (e - (k + 1)) = e by omega] at h7
          exact h7.symm
        rw [h6, h3, List.append_assoc]
        congr 3
        omega

theorem right_inv {s : ByteArray} (h : rightB s = true) : ∃ ls, (∀ x ∈ ls, okL x) ∧ s = mk (enc ls) ∧ (enc ls).length ≤ 255 := by
  obtain ⟨ls, h1, h2, h3⟩ := labs_inv s _ 0 rfl
  unfold rightB at h
  rw [h2, endOf_posL0] at h
  simp only [Bool.and_eq_true, decide_eq_true_eq] at h
  obtain ⟨⟨⟨h4, h5⟩, h6⟩, h7⟩ := h
  have h8 : s.data.toList = enc ls := by
    unfold enc
    rw [List.drop_zero] at h3
    rw [h3, Nat.zero_add]
    congr 1
    unfold zeroAt at h7
    split at h7
    · rename_i h9
      have hl : s.data.toList.length = s.size := rfl
      rw [List.drop_eq_getElem_cons (by omega), List.drop_eq_nil_of_le (by omega)]
      congr 1
      have : s.data.toList[(flat ls).length]'(by omega) = s[(flat ls).length]'h9 := rfl
      rw [this]
      exact UInt8.toNat_inj.1 (by simpa using h7)
    · cases h7
  refine ⟨ls, h1, ?_, ?_⟩
  · rw [← h8, mk_toList]
  · rw [← h8]; exact h5

/-! ### small letters -/
def lowL (x : List UInt8) : List UInt8 := x.map lowU
@[simp] theorem lowL_length (x : List UInt8) : (lowL x).length = x.length := by simp [lowL]
theorem loRange_at (p x r : List UInt8) : loRange (p ++ (x ++ r)) p.length x.length = p ++ (lowL x ++ r) := by
  apply List.ext_getElem
  · simp [loRange]
  · intro i h1 h2
    simp only [loRange, List.getElem_mapIdx]
    simp only [List.getElem_append]
    by_cases ha : i < p.length
    · simp [ha]; intro h; omega
    · by_cases hb : i - p.length < x.length
      · simp [ha, hb, lowL]; intro h; omega
      · simp [ha, hb]; intro h; omega
theorem loAll_pos : ∀ (ls : List (List UInt8)) (p r : List UInt8), loAll (p ++ (flat ls ++ r)) (posL p.length ls) = p ++ (flat (ls.map lowL) ++ r) := by
  intro ls
  induction ls with
  | nil => intro p r; rfl
  | cons x ls ih =>
    intro p r
    rw [posL, loAll, List.foldl_cons, ← loAll]
    have h1 : p ++ (flat (x :: ls) ++ r) = (p ++ [UInt8.ofNat x.length]) ++ (x ++ (flat ls ++ r)) := by simp
    have h2 := loRange_at (p ++ [UInt8.ofNat x.length]) x (flat ls ++ r)
    have h3 : (p ++ [UInt8.ofNat x.length]).length = p.length + 1 := by simp
    rw [h3] at h2
    rw [h1]
    show loAll (loRange _ (p.length + 1) x.length) _ = _
    rw [h2]
    have h4 := ih (p ++ [UInt8.ofNat x.length] ++ lowL x) r
    have h5 : (p ++ [UInt8.ofNat x.length] ++ lowL x).length = p.length + 1 + x.length := by simp; omega
    rw [h5, List.append_assoc _ (lowL x)] at h4
    rw [h4]; simp

theorem lower_enc (ls : List (List UInt8)) (h : ∀ x ∈ ls, okL x) (hl : (enc ls).length ≤ 255) : lowerW (mk (enc ls)) = mk (enc (ls.map lowL)) := by
  unfold lowerW
  rw [if_pos (right_enc ls h hl), labs_enc ls h]
  have := loAll_pos ls [] [0]
  simp only [List.nil_append, List.length_nil] at this
  show mk (loAll (enc ls) _) = _
  rw [enc, this]; rfl
theorem flat_lowL (ls : List (List UInt8)) : (flat (ls.map lowL)).length = (flat ls).length := by
  induction ls with
  | nil => rfl
  | cons x ls ih => simp [ih]
theorem enc_lowL (ls : List (List UInt8)) : (enc (ls.map lowL)).length = (enc ls).length := by simp [enc, flat_lowL]
theorem ok_lowL {ls : List (List UInt8)} (h : ∀ x ∈ ls, okL x) : ∀ x ∈ ls.map lowL, okL x := by
  intro x hx
  obtain ⟨y, hy, rfl⟩ := List.mem_map.1 hx
  exact ⟨by rw [lowL_length]; exact (h y hy).1, by rw [lowL_length]; exact (h y hy).2⟩

theorem enc_inj {a b : List (List UInt8)} (ha : ∀ x ∈ a, okL x) (hb : ∀ x ∈ b, okL x) (h : enc a = enc b) : a = b := by
  have h1 := labs_enc a ha
  have h2 := labs_enc b hb
  rw [h] at h1
  have h3 := posL_snd a 0
  rw [← h1, h2, posL_snd] at h3
  have : ∀ {a b : List (List UInt8)}, b.map mk = a.map mk → b = a := by
    intro a b h
    have := congrArg (fun l => l.map (fun (s : ByteArray) => s.data.toList)) h
    simpa [Function.comp_def] using this
  exact (this h3).symm
theorem enc_length (ls : List (List UInt8)) : (enc ls).length = (flat ls).length + 1 := by simp [enc]
/-- These labels make a name. -/
structure IsN (a : List (List UInt8)) : Prop where made ::
  ok : ∀ x ∈ a, okL x
  le : (enc a).length ≤ 255
theorem IsN.right {a : List (List UInt8)} (h : IsN a) : rightB (mk (enc a)) = true := right_enc a h.ok h.le
theorem IsN.low {a : List (List UInt8)} (h : IsN a) : IsN (a.map lowL) := ⟨ok_lowL h.ok, by rw [enc_lowL]; exact h.le⟩
theorem IsN.lower {a : List (List UInt8)} (h : IsN a) : lowerW (mk (enc a)) = mk (enc (a.map lowL)) := lower_enc a h.ok h.le
theorem IsN.size {a : List (List UInt8)} (h : IsN a) : (mk (enc a)).size ≤ 255 := h.le
theorem right_isN {s : ByteArray} (h : rightB s = true) : ∃ a, IsN a ∧ s = mk (enc a) := by
  obtain ⟨ls, h1, h2, h3⟩ := right_inv h; exact ⟨ls, ⟨h1, h3⟩, h2⟩

def caseW (bits : Nat) : Nat → List UInt8 → List UInt8 × Nat
  | k, [] => ([], k)
  | k, c :: x => if isLow c then (caseB bits k c :: (caseW bits (k + 1) x).1, (caseW bits (k + 1) x).2) else (c :: (caseW bits k x).1, (caseW bits k x).2)
theorem caseW_length (bits : Nat) : ∀ (x : List UInt8) (k : Nat), (caseW bits k x).1.length = x.length := by
  intro x
  induction x with
  | nil => intro k; rfl
  | cons c x ih => intro k; unfold caseW; split <;> simp [ih]

theorem caseStep_at (bits k : Nat) (p r : List UInt8) (c : UInt8) : caseStep bits (p ++ c :: r, k) p.length = if isLow c then (p ++ caseB bits k c :: r, k + 1) else (p ++ c :: r, k) := by
  unfold caseStep
  have h : (p ++ c :: r).getD p.length 0 = c := by simp [List.getD]
  simp only [h]
  split
  · simp
  · rfl
theorem caseRange_succ' (bits : Nat) (q : List UInt8 × Nat) (a m : Nat) : caseRange bits q a (m + 1) = caseRange bits (caseStep bits q a) (a + 1) m := by
  induction m with
  | zero => rfl
  | succ m ih =>
    rw [caseRange, ih, caseRange, show a + (m + 1) = a + 1 + m by omega]
theorem caseRange_at (bits : Nat) : ∀ (x p r : List UInt8) (k : Nat), caseRange bits (p ++ (x ++ r), k) p.length x.length = (p ++ ((caseW bits k x).1 ++ r), (caseW bits k x).2) := by
  intro x
  induction x with
  | nil => intro p r k; rfl
  | cons c x ih =>
    intro p r k
    rw [List.length_cons, caseRange_succ', List.cons_append, caseStep_at]
    unfold caseW
    split
    · have h := ih (p ++ [caseB bits k c]) r (k + 1)
      have h2 : (p ++ [caseB bits k c]).length = p.length + 1 := by simp
      rw [h2] at h
      simp only [List.append_assoc, List.cons_append, List.nil_append] at h ⊢
      exact h
    · have h := ih (p ++ [c]) r k
      have h2 : (p ++ [c]).length = p.length + 1 := by simp
      rw [h2] at h
      simp only [List.append_assoc, List.cons_append, List.nil_append] at h ⊢
      exact h
/-- The labels with letters as the bits say. -/
def casL (bits : Nat) : Nat → List (List UInt8) → List (List UInt8)
  | _, [] => []
  | k, x :: a => (caseW bits k x).1 :: casL bits (caseW bits k x).2 a
/-- caseAll over the labels' places: what stands there are the labels b, as long as those. -/
theorem caseAll_at (bits : Nat) : ∀ (a b : List (List UInt8)) (p r : List UInt8) (k : Nat), a.map List.length = b.map List.length → (caseAll bits (p ++ (flat b ++ r), k) (posL p.length a)).1 = p ++ (flat (casL bits k b) ++ r) := by
  intro a
  induction a with
  | nil =>
    intro b p r k h
    cases b with
    | nil => rfl
    | cons y b => simp at h
  | cons x a ih =>
    intro b p r k h
    cases b with
    | nil => simp at h
    | cons y b =>
      simp only [List.map_cons, List.cons.injEq] at h
      have h1 : p ++ (flat (y :: b) ++ r) = (p ++ [UInt8.ofNat y.length]) ++ (y ++ (flat b ++ r)) := by simp
      have h2 := caseRange_at bits y (p ++ [UInt8.ofNat y.length]) (flat b ++ r) k
      have h3 : (p ++ [UInt8.ofNat y.length]).length = p.length + 1 := by simp
      rw [h3] at h2
      rw [posL, caseAll, List.foldl_cons, ← caseAll]
      show (caseAll bits (caseRange bits _ (p.length + 1) (mk x).size) _).1 = _
      rw [mk_size, h.1, h1, h2]
      have h4 := ih b (p ++ [UInt8.ofNat y.length] ++ (caseW bits k y).1) r (caseW bits k y).2 h.2
      have h5 : (p ++ [UInt8.ofNat y.length] ++ (caseW bits k y).1).length = p.length + 1 + y.length := by simp [caseW_length]; omega
      rw [h5, List.append_assoc _ (caseW bits k y).1] at h4
      rw [h4, casL, flat_cons, caseW_length]
      simp
theorem low_len (a : List (List UInt8)) : a.map List.length = (a.map lowL).map List.length := by
  rw [List.map_map]
  apply List.map_congr_left
  intro x _
  simp
theorem lowU_fin : ∀ k : Fin 256, lowU (lowU (UInt8.ofNat k.val)) = lowU (UInt8.ofNat k.val) := by decide +kernel
theorem lowU_idem (c : UInt8) : lowU (lowU c) = lowU c := by
  have := lowU_fin ⟨c.toNat, UInt8.toNat_lt c⟩; simpa using this
theorem caseB_fin : ∀ k : Fin 256, isLow (UInt8.ofNat k.val) = true → lowU (UInt8.ofNat (k.val - 32 * 1)) = lowU (UInt8.ofNat k.val) ∧ lowU (UInt8.ofNat (k.val - 32 * 0)) = lowU (UInt8.ofNat k.val) := by decide +kernel
theorem caseB_low (bits k : Nat) (c : UInt8) (h : isLow c = true) : lowU (caseB bits k c) = lowU c := by
  have h1 := caseB_fin ⟨c.toNat, UInt8.toNat_lt c⟩ (by simpa using h)
  unfold caseB
  rcases Nat.mod_two_eq_zero_or_one (bits >>> (k % 64)) with e | e
  · rw [e]; simp
  · rw [e]; simpa using h1.1
theorem caseW_low (bits : Nat) : ∀ (x : List UInt8) (k : Nat), lowL (caseW bits k x).1 = lowL x := by
  intro x
  induction x with
  | nil => intro k; rfl
  | cons c x ih =>
    intro k
    unfold caseW
    split
    · rename_i h
      show lowU (caseB bits k c) :: lowL (caseW bits (k + 1) x).1 = lowU c :: lowL x
      rw [caseB_low bits k c h, ih]
    · show lowU c :: lowL (caseW bits k x).1 = lowU c :: lowL x
      rw [ih]
theorem casL_low (bits : Nat) : ∀ (a : List (List UInt8)) (k : Nat), (casL bits k a).map lowL = a.map lowL := by
  intro a
  induction a with
  | nil => intro k; rfl
  | cons x a ih => intro k; simp [casL, caseW_low, ih]
theorem casL_len (bits : Nat) : ∀ (a : List (List UInt8)) (k : Nat), (casL bits k a).map List.length = a.map List.length := by
  intro a
  induction a with
  | nil => intro k; rfl
  | cons x a ih => intro k; simp [casL, caseW_length, ih]
theorem ok_len {a b : List (List UInt8)} (h : a.map List.length = b.map List.length) (hb : ∀ x ∈ b, okL x) : ∀ x ∈ a, okL x := by
  intro x hx
  have : x.length ∈ b.map List.length := by rw [← h]; exact List.mem_map_of_mem hx
  obtain ⟨y, hy, e⟩ := List.mem_map.1 this
  unfold okL; rw [← e]; exact hb y hy
theorem flat_len {a b : List (List UInt8)} (h : a.map List.length = b.map List.length) : (flat a).length = (flat b).length := by
  induction a generalizing b with
  | nil => cases b with
    | nil => rfl
    | cons y b => simp at h
  | cons x a ih => cases b with
    | nil => simp at h
    | cons y b => simp only [List.map_cons, List.cons.injEq] at h; simp [h.1, ih h.2]
theorem IsN.casd {a : List (List UInt8)} (ha : IsN a) (bits : Nat) : casedW (mk (enc a)) bits = (mk (enc (casL bits 0 (a.map lowL))), 0) := by
  unfold casedW
  rw [ha.right, if_pos rfl, ha.lower, labs_enc a ha.ok]
  have h := caseAll_at bits a (a.map lowL) [] [0] 0 (low_len a)
  simp only [List.nil_append, List.length_nil] at h
  show (mk (caseAll bits (enc (a.map lowL), 0) (posL 0 a)).1, (0 : Int)) = _
  rw [enc, h]; rfl
theorem IsN.cas {a : List (List UInt8)} (ha : IsN a) (bits : Nat) : IsN (casL bits 0 (a.map lowL)) ∧ (casL bits 0 (a.map lowL)).map lowL = a.map lowL := by
  have h1 := casL_len bits (a.map lowL) 0
  refine ⟨⟨ok_len h1 ha.low.ok, ?_⟩, ?_⟩
  · rw [enc_length, flat_len h1, ← enc_length]; exact ha.low.le
  · rw [casL_low, List.map_map]
    apply List.map_congr_left
    intro x _
    show lowL (lowL x) = lowL x
    unfold lowL
    rw [List.map_map]
    apply List.map_congr_left
    intro c _
    exact lowU_idem c
/-- A name in any letters is the same name. -/
theorem cased_right {s : ByteArray} (h : rightB s = true) (bits : Nat) : (casedW s bits).2 = 0 ∧ rightB (casedW s bits).1 = true ∧ lowerW (casedW s bits).1 = lowerW s ∧ (casedW s bits).1.size ≤ 255 := by
  obtain ⟨a, ha, rfl⟩ := right_isN h
  obtain ⟨hc, hl⟩ := ha.cas bits
  rw [ha.casd]
  exact ⟨rfl, hc.right, by rw [hc.lower, ha.lower, hl], hc.size⟩
theorem cased_wrong {s : ByteArray} (h : rightB s = false) (bits : Nat) : (casedW s bits).2 = 2 := by unfold casedW; rw [h]; rfl
theorem lower_idem (s : ByteArray) : lowerW (lowerW s) = lowerW s := by
  cases h : rightB s with
  | true =>
    obtain ⟨a, ha, rfl⟩ := right_isN h
    rw [ha.lower, ha.low.lower, List.map_map]
    congr 3
    funext x
    show lowL (lowL x) = lowL x
    unfold lowL
    rw [List.map_map]
    apply List.map_congr_left
    intro c _
    exact lowU_idem c
  | false => have : lowerW s = s := by unfold lowerW; rw [h]; rfl
             rw [this, this]
end Go.Proofs.Yticijejnemnmlaa.Nm

