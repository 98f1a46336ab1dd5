/- Names held against each other, as lists of labels. -/
import Derived.Test.YtlikkpeaepankaaNmP
namespace Go.Proofs.Ytlikkpeaepankaa.Nm
open Go.RowKit

def tailsL : List (List UInt8) → List (List (List UInt8))
  | [] => []
  | x :: l => (x :: l) :: tailsL l
theorem mem_tailsL : ∀ (A t : List (List UInt8)), t ∈ tailsL A ↔ t ≠ [] ∧ t <:+ A := by
  intro A
  induction A with
  | nil => intro t; simp [tailsL]
  | cons x l ih =>
    intro t
    rw [tailsL, List.mem_cons, ih, List.suffix_cons_iff]
    constructor
    · rintro (rfl | ⟨h1, h2⟩)
      · exact ⟨by simp, .inl rfl⟩
      · exact ⟨h1, .inr h2⟩
    · rintro ⟨h1, rfl | h2⟩
      · exact .inl rfl
      · exact .inr ⟨h1, h2⟩

theorem posL_ext : ∀ (ls : List (List UInt8)) (p : List UInt8), (posL p.length ls).map (fun x => (mk (p ++ enc ls)).extract x.1 (mk (p ++ enc ls)).size) = (tailsL ls).map (fun t => mk (enc t)) := by
  intro ls
  induction ls with
  | nil => intro p; rfl
  | cons x ls ih =>
    intro p
    have h := ih (p ++ (UInt8.ofNat x.length :: x))
    have he : p ++ (UInt8.ofNat x.length :: x) ++ enc ls = p ++ enc (x :: ls) := by simp [enc]
    have hl : (p ++ (UInt8.ofNat x.length :: x)).length = p.length + 1 + x.length := by simp; omega
    rw [he, hl] at h
    rw [posL, tailsL, List.map_cons, List.map_cons, h]
    congr 1
    rw [mk_extract, List.drop_left]
    show mk (List.take ((p ++ enc (x :: ls)).length - p.length) _) = _
    rw [List.length_append, Nat.add_sub_cancel_left, List.take_length]

theorem posL_ext0 (ls : List (List UInt8)) : (posL 0 ls).map (fun x => (mk (enc ls)).extract x.1 (mk (enc ls)).size) = (tailsL ls).map (fun t => mk (enc t)) := posL_ext ls []

theorem ok_suffix {A t : List (List UInt8)} (h : ∀ x ∈ A, okL x) (ht : t <:+ A) : ∀ x ∈ t, okL x := fun x hx => h x (ht.subset hx)
theorem flat_suffix {A t : List (List UInt8)} (ht : t <:+ A) : (flat t).length ≤ (flat A).length := by
  obtain ⟨u, rfl⟩ := ht
  rw [flat_append, List.length_append]; omega
theorem enc_suffix {A t : List (List UInt8)} (ht : t <:+ A) : (enc t).length ≤ (enc A).length := by
  have := flat_suffix ht; simp [enc]; omega

theorem underL_enc {A B : List (List UInt8)} (hA : ∀ x ∈ A, okL x) (hB : ∀ x ∈ B, okL x) : underL (mk (enc A)) (mk (enc B)) = decide (B <:+ A) := by
  have hany : ((labs (mk (enc A)) 0).any fun x => decide (((mk (enc A)).extract x.1 (mk (enc A)).size).toList = (mk (enc B)).toList)) = (tailsL A).any fun t => decide (t = B) := by
    rw [labs_enc A hA]
    have h1 : (posL 0 A).any (fun x => decide (((mk (enc A)).extract x.1 (mk (enc A)).size).toList = (mk (enc B)).toList)) = ((posL 0 A).map (fun x => (mk (enc A)).extract x.1 (mk (enc A)).size)).any (fun s => decide (s.toList = (mk (enc B)).toList)) := by
      rw [List.any_map]; rfl
    rw [h1, posL_ext0, List.any_map]
    have hi : ∀ t ∈ tailsL A, ((fun s : ByteArray => decide (s.toList = (mk (enc B)).toList)) ∘ fun t => mk (enc t)) t = decide (t = B) := fun t ht => by
      have h2 := (mem_tailsL A t).1 ht
      simp only [Function.comp, mk_list]
      by_cases h : t = B
      · subst h; simp
      · have : enc t ≠ enc B := fun e => h (enc_inj (ok_suffix hA h2.2) hB e)
        simp [h, this]
    rw [Bool.eq_iff_iff, List.any_eq_true, List.any_eq_true]
    constructor
    · rintro ⟨t, ht, h⟩; exact ⟨t, ht, by rw [← hi t ht]; exact h⟩
    · rintro ⟨t, ht, h⟩; exact ⟨t, ht, by rw [hi t ht]; exact h⟩
  unfold underL
  rw [hany]
  simp only [mk_list]
  by_cases hs : B <:+ A
  · rw [decide_eq_true hs]
    by_cases h0 : B = []
    · subst h0; simp [enc]
    · have : (tailsL A).any (fun t => decide (t = B)) = true := List.any_eq_true.2 ⟨B, (mem_tailsL A B).2 ⟨h0, hs⟩, by simp⟩
      rw [this]; simp
  · rw [decide_eq_false hs]
    have h1 : enc A ≠ enc B := fun e => hs (by rw [enc_inj hA hB e]; exact List.suffix_refl _)
    have h2 : enc B ≠ [0] := fun e => hs (by
      have : B = [] := enc_inj hB (by simp : ∀ x ∈ ([] : List (List UInt8)), okL x) (by rw [e]; rfl)
      rw [this]; exact List.nil_suffix)
    have h3 : (tailsL A).any (fun t => decide (t = B)) = false := by
      rw [List.any_eq_false]
      intro t ht h
      have := (mem_tailsL A t).1 ht
      rw [decide_eq_true_eq] at h
      subst h; exact hs this.2
    rw [h3]; simp [h1, h2]

/-- Is a name of these labels under one of those? -/
def undL (a b : List (List UInt8)) : Bool := decide (b.map lowL <:+ a.map lowL)

/-- These labels make a name. -/
structure IsN (a : List (List UInt8)) : Prop where made ::
  ok : ∀ x ∈ a, okL x
  le : (enc a).length ≤ 255
theorem IsN.right {a : List (List UInt8)} (h : IsN a) : rightB (mk (enc a)) = true := right_enc a h.ok h.le
theorem IsN.labels {a : List (List UInt8)} (h : IsN a) : labelsL (mk (enc a)) = a.map mk := labels_enc a h.ok h.le
theorem IsN.low {a : List (List UInt8)} (h : IsN a) : IsN (a.map lowL) := ⟨ok_lowL h.ok, by rw [enc_lowL]; exact h.le⟩
theorem IsN.lower {a : List (List UInt8)} (h : IsN a) : lowerW (mk (enc a)) = mk (enc (a.map lowL)) := lower_enc a h.ok h.le
theorem IsN.suffix {a t : List (List UInt8)} (h : IsN a) (ht : t <:+ a) : IsN t := ⟨ok_suffix h.ok ht, Nat.le_trans (enc_suffix ht) h.le⟩
theorem IsN.size {a : List (List UInt8)} (h : IsN a) : (mk (enc a)).size ≤ 255 := h.le
theorem isN_nil : IsN [] := ⟨by simp, by decide⟩
theorem right_isN {s : ByteArray} (h : rightB s = true) : ∃ a, IsN a ∧ s = mk (enc a) := by
  obtain ⟨ls, h1, h2, h3⟩ := right_inv h; exact ⟨ls, ⟨h1, h3⟩, h2⟩

theorem IsN.under {a b : List (List UInt8)} (ha : IsN a) (hb : IsN b) : underW (mk (enc a)) (mk (enc b)) = undL a b := by
  unfold underW undL
  rw [ha.right, hb.right, ha.lower, hb.lower, underL_enc ha.low.ok hb.low.ok]; simp

/-- The longest name under which both are. -/
def comL (a b : List (List UInt8)) : List (List UInt8) := ((tailsL a).find? fun t => undL b t).getD []

theorem IsN.common {a b : List (List UInt8)} (ha : IsN a) (hb : IsN b) : commonW (mk (enc a)) (mk (enc b)) = (mk (enc (comL a b)), 0) := by
  have hf : ((labs (mk (enc a)) 0).find? (comP (mk (enc a)) (mk (enc b)))).map (fun x => (mk (enc a)).extract x.1 (mk (enc a)).size) = ((tailsL a).find? fun t => undL b t).map (fun t => mk (enc t)) := by
    rw [labs_enc a ha.ok]
    have h1 : (comP (mk (enc a)) (mk (enc b))) = (fun s => underW (mk (enc b)) s) ∘ (fun x : Nat × ByteArray => (mk (enc a)).extract x.1 (mk (enc a)).size) := rfl
    rw [h1, ← List.find?_map, posL_ext0, List.find?_map]
    congr 1
    have : ∀ (T : List (List (List UInt8))), (∀ t ∈ T, IsN t) → T.find? ((fun s => underW (mk (enc b)) s) ∘ fun t => mk (enc t)) = T.find? fun t => undL b t := by
      intro T hT
      induction T with
      | nil => rfl
      | cons t T ih =>
        have h2 : ((fun s => underW (mk (enc b)) s) ∘ fun t => mk (enc t)) t = undL b t := hb.under (hT t (by simp))
        rw [List.find?_cons, List.find?_cons, h2, ih (fun u hu => hT u (by simp [hu]))]
    exact this _ (fun t ht => ha.suffix ((mem_tailsL a t).1 ht).2)
  unfold commonW comL
  rw [ha.right, hb.right]
  simp only [Bool.and_self, if_true]
  cases h1 : (labs (mk (enc a)) 0).find? (comP (mk (enc a)) (mk (enc b))) with
  | none =>
    rw [h1] at hf
    cases h2 : (tailsL a).find? fun t => undL b t with
    | none => rfl
    | some t => rw [h2] at hf; cases hf
  | some x =>
    rw [h1] at hf
    cases h2 : (tailsL a).find? fun t => undL b t with
    | none => rw [h2] at hf; cases hf
    | some t => rw [h2] at hf; have h3 : (mk (enc a)).extract x.1 (mk (enc a)).size = mk (enc t) := Option.some.inj hf; show ((mk (enc a)).extract x.1 (mk (enc a)).size, (0 : Int)) = (mk (enc t), 0); rw [h3]

theorem comL_suffix (a b : List (List UInt8)) : comL a b <:+ a := by
  unfold comL
  cases h : (tailsL a).find? fun t => undL b t with
  | none => exact List.nil_suffix
  | some t => exact ((mem_tailsL a t).1 (List.mem_of_find?_eq_some h)).2
theorem comL_under (a b : List (List UInt8)) : undL b (comL a b) = true := by
  unfold comL
  cases h : (tailsL a).find? fun t => undL b t with
  | none => simp [undL]
  | some t => have := List.find?_some h; exact this

theorem suffix_len_unique {α : Type} {s t A : List α} (hs : s <:+ A) (ht : t <:+ A) (h : s.length ≤ t.length) : s <:+ t := by
  obtain ⟨u, hu⟩ := hs
  obtain ⟨v, hv⟩ := ht
  have h1 : u.length + s.length = v.length + t.length := by rw [← List.length_append, ← List.length_append, hu, hv]
  exact List.suffix_of_suffix_length_le ⟨u, hu⟩ ⟨v, hv⟩ h

/-- Any name under which both are has what both have in common under it. -/
theorem comL_long (a b c : List (List UInt8)) (ha : undL a c = true) (hb : undL b c = true) : undL (comL a b) c = true := by
  unfold undL at ha hb ⊢
  rw [decide_eq_true_eq] at ha hb ⊢
  -- the suffix of a that reads as c
  have hlen : c.length ≤ a.length := by have := ha.length_le; simpa using this
  have hd : (a.drop (a.length - c.length)).map lowL = c.map lowL := by
    rw [List.map_drop]
    have h1 := List.suffix_iff_eq_drop.1 ha
    rw [List.length_map, List.length_map] at h1
    exact h1.symm
  unfold comL
  by_cases h0 : c = []
  · subst h0; exact List.nil_suffix
  have ht : a.drop (a.length - c.length) ∈ tailsL a := (mem_tailsL _ _).2 ⟨by {
    intro e
    have e2 : c.length ≠ 0 := fun h => h0 (List.length_eq_zero_iff.1 h)
    have e3 : a.length - (a.length - c.length) = 0 := by rw [← List.length_drop, e]; rfl
    omega }, List.drop_suffix _ _⟩
  have hu : undL b (a.drop (a.length - c.length)) = true := by unfold undL; rw [hd, decide_eq_true_eq]; exact hb
  cases hf : (tailsL a).find? fun t => undL b t with
  | none => have := List.find?_eq_none.1 hf _ ht; simp [hu] at this
  | some t =>
    have hts := ((mem_tailsL a t).1 (List.mem_of_find?_eq_some hf)).2
    show c.map lowL <:+ t.map lowL
    have hle : c.length ≤ t.length := by
      -- the tails come longest first
      have : ∀ (A : List (List UInt8)) (u t : List (List UInt8)), u ∈ tailsL A → undL b u = true → ((tailsL A).find? fun t => undL b t) = some t → u.length ≤ t.length := by
        intro A
        induction A with
        | nil => intro u t hu; simp [tailsL] at hu
        | cons x l ih =>
          intro u t hu hb1 hf
          rw [tailsL, List.find?_cons] at hf
          cases hx : undL b (x :: l) with
          | true =>
            rw [hx] at hf
            obtain rfl := Option.some.inj hf
            exact ((mem_tailsL (x :: l) u).1 hu).2.length_le
          | false =>
            rw [hx] at hf
            rw [tailsL, List.mem_cons] at hu
            rcases hu with rfl | hu
            · rw [hx] at hb1; cases hb1
            · exact ih u t hu hb1 hf
      have := this a _ t ht hu hf
      rw [List.length_drop] at this; omega
    refine suffix_len_unique ha ?_ (by simpa using hle)
    obtain ⟨p, hp⟩ := hts
    exact ⟨p.map lowL, by rw [← hp]; simp⟩
end Go.Proofs.Ytlikkpeaepankaa.Nm
