/- Plain: the labels of a string of bytes, one behind the other, with the place of each. -/
namespace Go.Proofs.Yticijejnemnmlaa.Nm

/-- The end of the label that begins at a place, if one does. -/
def lab1 (s : ByteArray) (k : Nat) : Option Nat :=
  if h : k < s.size then
    if s[k].toNat = 0 then none
    else if 63 < s[k].toNat then none
    else if s.size < k + 1 + s[k].toNat then none
    else some (k + 1 + s[k].toNat)
  else none

def labsF : Nat → ByteArray → Nat → List (Nat × ByteArray)
  | 0, _, _ => []
  | f + 1, s, k => match lab1 s k with
    | none => []
    | some e => (k, s.extract (k + 1) e) :: labsF f s e

theorem lab1_some {s : ByteArray} {k e : Nat} (h : lab1 s k = some e) : k + 2 ≤ e ∧ e ≤ s.size ∧ e ≤ k + 64 ∧ k < s.size := by
  unfold lab1 at h
  split at h
  · rename_i hk
    split at h
    · cases h
    · split at h
      · cases h
      · split at h
        · cases h
        · cases h; omega
  · cases h

theorem labsF_more (s : ByteArray) : ∀ (f g k : Nat), s.size - k ≤ f → s.size - k ≤ g → labsF f s k = labsF g s k := by
  intro f
  induction f with
  | zero =>
    intro g k hf hg
    cases g with
    | zero => rfl
    | succ g =>
      have : lab1 s k = none := by unfold lab1; rw [dif_neg (by omega)]
      simp [labsF, this]
  | succ f ih =>
    intro g k hf hg
    cases hl : lab1 s k with
    | none => cases g <;> simp [labsF, hl]
    | some e =>
      have h := lab1_some hl
      cases g with
      | zero => omega
      | succ g =>
        simp only [labsF, hl]
        rw [ih g e (by omega) (by omega)]

def labs (s : ByteArray) (k : Nat) : List (Nat × ByteArray) := labsF (s.size - k) s k

theorem labs_none {s : ByteArray} {k : Nat} (h : lab1 s k = none) : labs s k = [] := by
  unfold labs
  cases s.size - k <;> simp [labsF, h]

theorem labs_some {s : ByteArray} {k e : Nat} (h : lab1 s k = some e) : labs s k = (k, s.extract (k + 1) e) :: labs s e := by
  have h1 := lab1_some h
  unfold labs
  obtain ⟨f, hf⟩ : ∃ f, s.size - k = f + 1 := ⟨s.size - k - 1, by omega⟩
  rw [hf]
  simp only [labsF, h]
  rw [labsF_more s f (s.size - e) e (by omega) (by omega)]

theorem labs_length (s : ByteArray) : ∀ (d k : Nat), s.size - k = d → (labs s k).length * 2 ≤ d := by
  intro d
  induction d using Nat.strongRecOn with
  | _ d ih =>
    intro k hd
    cases hl : lab1 s k with
    | none => simp [labs_none hl]
    | some e =>
      have h := lab1_some hl
      have := ih (s.size - e) (by omega) e rfl
      rw [labs_some hl, List.length_cons]; omega

theorem extract_size (s : ByteArray) (a b : Nat) (h : b ≤ s.size) : (s.extract a b).size = b - a := by
  rw [ByteArray.size_extract]; omega

theorem labs_mem (s : ByteArray) : ∀ (d k : Nat), s.size - k = d → ∀ x ∈ labs s k,
    k ≤ x.1 ∧ x.1 + 1 + x.2.size ≤ s.size ∧ 1 ≤ x.2.size ∧ x.2.size ≤ 63 ∧ x.2 = s.extract (x.1 + 1) (x.1 + 1 + x.2.size) ∧ lab1 s x.1 = some (x.1 + 1 + x.2.size) := by
  intro d
  induction d using Nat.strongRecOn with
  | _ d ih =>
    intro k hd x hx
    cases hl : lab1 s k with
    | none => rw [labs_none hl] at hx; cases hx
    | some e =>
      have h := lab1_some hl
      rw [labs_some hl] at hx
      rcases List.mem_cons.1 hx with rfl | hx
      · have hsz := extract_size s (k + 1) e h.2.1
        have h2 : k + 1 + (s.extract (k + 1) e).size = e := by rw [hsz]; omega
        dsimp only
        rw [h2]
        refine ⟨Nat.le_refl _, h.2.1, by rw [hsz]; omega, by rw [hsz]; omega, rfl, hl⟩
      · have := ih (s.size - e) (by omega) e rfl x hx
        exact ⟨by omega, this.2⟩

/-- A label of s, with its place. -/
def isLab (s : ByteArray) (x : Nat × ByteArray) : Prop := x ∈ labs s 0
abbrev Lb (s : ByteArray) : Type := { x : Nat × ByteArray // isLab s x }
theorem Lb.spec {s : ByteArray} (x : Lb s) : x.1.1 + 1 + x.1.2.size ≤ s.size ∧ 1 ≤ x.1.2.size ∧ x.1.2.size ≤ 63 ∧ x.1.2 = s.extract (x.1.1 + 1) (x.1.1 + 1 + x.1.2.size) ∧ lab1 s x.1.1 = some (x.1.1 + 1 + x.1.2.size) :=
  (labs_mem s _ 0 rfl x.1 x.2).2

end Go.Proofs.Yticijejnemnmlaa.Nm
