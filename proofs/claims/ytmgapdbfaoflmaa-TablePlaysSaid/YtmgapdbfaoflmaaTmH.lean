/- Heaps of what is due, as plain lists: the plain law of chapter 12's timer, no program in sight. -/
namespace Go.Proofs.Ytmgapdbfaoflmaa.Tm

abbrev It := Int × Int

def lt (a b : It) : Prop := a.2 < b.2 ∨ (a.2 = b.2 ∧ a.1 < b.1)
instance (a b : It) : Decidable (lt a b) := by unfold lt; infer_instance
theorem lt_irrefl (a : It) : ¬ lt a a := by unfold lt; omega
theorem lt_trans {a b c : It} (h : lt a b) (k : lt b c) : lt a c := by unfold lt at *; omega
theorem lt_asymm {a b : It} (h : lt a b) : ¬ lt b a := by unfold lt at *; omega
theorem le_trans' {a b c : It} (h : ¬ lt b a) (k : ¬ lt c b) : ¬ lt c a := by unfold lt at *; omega
theorem le_lt {a b c : It} (h : ¬ lt b a) (k : lt b c) : lt a c := by unfold lt at *; omega
theorem lt_le {a b c : It} (h : lt a b) (k : ¬ lt c b) : lt a c := by unfold lt at *; omega
theorem lt_tri {a b : It} (h : ¬ lt a b) (k : a.1 ≠ b.1) : lt b a := by unfold lt at *; omega

def g (l : List It) (i : Nat) : It := l.getD i (0, 0)
theorem g_eq {l : List It} {i : Nat} (h : i < l.length) : g l i = l[i] := by simp [g, h]

def swapL (l : List It) (i k : Nat) : List It := (l.set i (g l k)).set k (g l i)
@[simp] theorem swapL_length (l : List It) (i k : Nat) : (swapL l i k).length = l.length := by simp [swapL]
theorem g_swapL {l : List It} {i k : Nat} (hi : i < l.length) (hk : k < l.length) (j : Nat) : g (swapL l i k) j = if j = k then g l i else if j = i then g l k else g l j := by
  unfold swapL
  by_cases h1 : j = k
  · subst h1; rw [if_pos rfl]; simp [g, hk]
  · rw [if_neg h1]
    by_cases h2 : j = i
    · subst h2; rw [if_pos rfl]; simp [g, List.getElem?_set, Ne.symm h1, hi]
    · rw [if_neg h2]; simp [g, List.getElem?_set, Ne.symm h1, Ne.symm h2]
theorem swapL_perm {l : List It} {i k : Nat} (hi : i < l.length) (hk : k < l.length) : (swapL l i k).Perm l := by
  rw [List.perm_iff_count]
  intro a
  unfold swapL
  rw [List.count_set (by simpa using hk), List.count_set hi]
  rw [g_eq hi, g_eq hk, List.getElem_set]
  have c1 : l[i] = a → 0 < List.count a l := fun e => List.count_pos_iff.2 (e ▸ List.getElem_mem hi)
  by_cases h1 : i = k
  · subst h1
    simp only [if_true]
    by_cases h2 : (l[i] == a) = true
    · have := c1 (by simpa using h2); simp only [h2, if_true]; omega
    · simp [h2]
  · rw [if_neg h1]
    by_cases h2 : (l[i] == a) = true <;> by_cases h3 : (l[k] == a) = true
    · have := c1 (by simpa using h2); simp only [h2, h3, if_true]; omega
    · have := c1 (by simpa using h2); simp only [h2, h3]; simp; omega
    · have : 0 < List.count a l := List.count_pos_iff.2 ((by simpa using h3 : l[k] = a) ▸ List.getElem_mem hk)
      simp only [h2, h3]; simp
    · simp [h2, h3]

/-- up and down, as the program does. -/
def upF (l : List It) (i : Nat) : List It := if 0 < i ∧ lt (g l i) (g l ((i - 1) / 2)) then upF (swapL l i ((i - 1) / 2)) ((i - 1) / 2) else l
termination_by i
decreasing_by omega
def kid (l : List It) (i : Nat) : Nat := if 2 * i + 2 < l.length ∧ lt (g l (2 * i + 2)) (g l (2 * i + 1)) then 2 * i + 2 else 2 * i + 1
theorem kid_gt (l : List It) (i : Nat) : i < kid l i := by unfold kid; split <;> omega
def downF (l : List It) (i : Nat) : List It := if kid l i < l.length ∧ lt (g l (kid l i)) (g l i) then downF (swapL l i (kid l i)) (kid l i) else l
termination_by l.length - i
decreasing_by have := kid_gt l i; simp; omega

/-- What is not out of order. -/
def Heap (l : List It) : Prop := ∀ j, 0 < j → j < l.length → ¬ lt (g l j) (g l ((j - 1) / 2))
/-- All but i above. -/
def UpInv (l : List It) (i : Nat) : Prop := (∀ j, 0 < j → j < l.length → j ≠ i → ¬ lt (g l j) (g l ((j - 1) / 2))) ∧ (∀ j, 0 < j → j < l.length → (j - 1) / 2 = i → 0 < i → ¬ lt (g l j) (g l ((i - 1) / 2)))
/-- All but i below. -/
def DownInv (l : List It) (i : Nat) : Prop := (∀ j, 0 < j → j < l.length → (j - 1) / 2 ≠ i → ¬ lt (g l j) (g l ((j - 1) / 2))) ∧ (∀ j, 0 < j → j < l.length → (j - 1) / 2 = i → 0 < i → ¬ lt (g l j) (g l ((i - 1) / 2)))

theorem upF_spec (i : Nat) : ∀ (l : List It), i < l.length → UpInv l i → Heap (upF l i) ∧ (upF l i).Perm l := by
  induction i using Nat.strongRecOn with
  | ind i ih =>
    intro l hi hu
    rw [upF]
    by_cases h : 0 < i ∧ lt (g l i) (g l ((i - 1) / 2))
    · rw [if_pos h]
      have hp : (i - 1) / 2 < i := by omega
      have hpl : (i - 1) / 2 < l.length := by omega
      have := ih ((i - 1) / 2) hp (swapL l i ((i - 1) / 2)) (by simpa using hpl) ?_
      · exact ⟨this.1, this.2.trans (swapL_perm hi hpl)⟩
      · refine ⟨fun j h0 hj hne => ?_, fun j h0 hj hpar hp0 => ?_⟩
        · rw [swapL_length] at hj
          rw [g_swapL hi hpl, g_swapL hi hpl, if_neg hne]
          by_cases e1 : j = i
          · subst e1
            rw [if_pos rfl, if_pos rfl]
            exact lt_asymm h.2
          · rw [if_neg e1]
            by_cases e2 : (j - 1) / 2 = (i - 1) / 2
            · rw [if_pos e2]
              have := hu.1 j h0 hj e1
              rw [e2] at this
              exact fun hh => this (lt_trans hh h.2)
            · rw [if_neg e2]
              by_cases e3 : (j - 1) / 2 = i
              · rw [if_pos e3]
                exact hu.2 j h0 hj e3 h.1
              · rw [if_neg e3]
                exact hu.1 j h0 hj e1
        · rw [swapL_length] at hj
          have hpp : ((i - 1) / 2 - 1) / 2 < (i - 1) / 2 := by omega
          have hb := hu.1 ((i - 1) / 2) hp0 hpl (by omega)
          rw [g_swapL hi hpl, g_swapL hi hpl, if_neg (show ¬ j = (i - 1) / 2 by omega), if_neg (show ¬ ((i - 1) / 2 - 1) / 2 = (i - 1) / 2 by omega), if_neg (show ¬ ((i - 1) / 2 - 1) / 2 = i by omega)]
          by_cases e1 : j = i
          · rw [if_pos e1]; exact hb
          · rw [if_neg e1]
            have := hu.1 j h0 hj e1
            rw [hpar] at this
            exact le_trans' hb this
    · rw [if_neg h]
      refine ⟨fun j h0 hj => ?_, List.Perm.refl _⟩
      by_cases e : j = i
      · subst e; exact fun hh => h ⟨h0, hh⟩
      · exact hu.1 j h0 hj e

theorem downF_spec (d : Nat) : ∀ (l : List It) (i : Nat), l.length - i ≤ d → i < l.length → DownInv l i → Heap (downF l i) ∧ (downF l i).Perm l := by
  induction d with
  | zero => intro l i hd hi; omega
  | succ d ih =>
    intro l i hd hi hu
    rw [downF]
    have hki := kid_gt l i
    have hkv : kid l i = 2 * i + 1 ∨ kid l i = 2 * i + 2 := by unfold kid; split <;> simp
    have hkp : (kid l i - 1) / 2 = i := by omega
    by_cases h : kid l i < l.length ∧ lt (g l (kid l i)) (g l i)
    · rw [if_pos h]
      have hmin : ∀ j, 0 < j → j < l.length → (j - 1) / 2 = i → ¬ lt (g l j) (g l (kid l i)) := by
        intro j h0 hj hp
        have hj2 : j = 2 * i + 1 ∨ j = 2 * i + 2 := by omega
        unfold kid
        split
        · rename_i hc
          rcases hj2 with rfl | rfl
          · exact lt_asymm hc.2
          · exact lt_irrefl _
        · rename_i hc
          rcases hj2 with rfl | rfl
          · exact lt_irrefl _
          · exact fun hh => hc ⟨hj, hh⟩
      generalize kid l i = k at *
      have := ih (swapL l i k) k (by simp; omega) (by simpa using h.1) ?_
      · exact ⟨this.1, this.2.trans (swapL_perm hi h.1)⟩
      · refine ⟨fun j h0 hj hne => ?_, fun j h0 hj hpar hp0 => ?_⟩
        · rw [swapL_length] at hj
          rw [g_swapL hi h.1, g_swapL hi h.1, if_neg hne]
          by_cases e0 : j = k
          · rw [if_pos e0, if_pos (show (j - 1) / 2 = i by omega)]
            exact lt_asymm h.2
          · rw [if_neg e0]
            by_cases e1 : j = i
            · subst e1
              rw [if_pos rfl, if_neg (show ¬ (j - 1) / 2 = j by omega)]
              exact hu.2 k (by omega) h.1 hkp h0
            · rw [if_neg e1]
              by_cases e2 : (j - 1) / 2 = i
              · rw [if_pos e2]; exact hmin j h0 hj e2
              · rw [if_neg e2]; exact hu.1 j h0 hj e2
        · rw [swapL_length] at hj
          rw [hkp, g_swapL hi h.1, g_swapL hi h.1, if_neg (show ¬ j = k by omega), if_neg (show ¬ j = i by omega), if_neg (show ¬ i = k by omega), if_pos rfl]
          have := hu.1 j h0 hj (by omega)
          rw [hpar] at this
          exact this
    · rw [if_neg h]
      refine ⟨fun j h0 hj => ?_, List.Perm.refl _⟩
      by_cases e : (j - 1) / 2 = i
      · rw [e]
        intro hh
        apply h
        have hj2 : j = 2 * i + 1 ∨ j = 2 * i + 2 := by omega
        unfold kid
        split
        · rename_i hc
          refine ⟨hc.1, ?_⟩
          rcases hj2 with rfl | rfl
          · exact lt_trans hc.2 hh
          · exact hh
        · rename_i hc
          rcases hj2 with rfl | rfl
          · exact ⟨hj, hh⟩
          · refine ⟨by omega, le_lt ?_ hh⟩
            exact fun h3 => hc ⟨hj, h3⟩
      · exact hu.1 j h0 hj e
theorem Heap.down {l : List It} (h : Heap l) (i : Nat) : DownInv l i := by
  refine ⟨fun j h0 hj _ => h j h0 hj, fun j h0 hj hp hi => ?_⟩
  have h1 := h j h0 hj
  rw [hp] at h1
  exact le_trans' (h i hi (by omega)) h1
theorem Heap.min {l : List It} (h : Heap l) (j : Nat) (hj : j < l.length) : ¬ lt (g l j) (g l 0) := by
  induction j using Nat.strongRecOn with
  | ind j ih =>
    by_cases h0 : j = 0
    · subst h0; exact lt_irrefl _
    · exact le_trans' (ih ((j - 1) / 2) (by omega) (by omega)) (h j (by omega) hj)

@[simp] theorem upF_length (i : Nat) : ∀ l : List It, i < l.length → (upF l i).length = l.length := by
  induction i using Nat.strongRecOn with
  | ind i ih =>
    intro l hi
    rw [upF]
    split
    · rename_i h
      rw [ih ((i - 1) / 2) (by omega) _ (by simp; omega), swapL_length]
    · rfl

/-- Where each stands. -/
def PL (f : Int → Option Nat) (l : List It) : Prop := ∀ id k, f id = some k ↔ k < l.length ∧ (g l k).1 = id
def upd (f : Int → Option Nat) (id : Int) (v : Option Nat) : Int → Option Nat := fun x => if x = id then v else f x
theorem PL.apart {f : Int → Option Nat} {l : List It} (h : PL f l) {i k : Nat} (hi : i < l.length) (hk : k < l.length) (e : (g l i).1 = (g l k).1) : i = k := by
  have h1 := (h (g l i).1 i).2 ⟨hi, rfl⟩
  have h2 := (h (g l i).1 k).2 ⟨hk, e.symm⟩
  rw [h1] at h2
  exact Option.some.inj h2
theorem PL.swap {f : Int → Option Nat} {l : List It} (h : PL f l) {i k : Nat} (hi : i < l.length) (hk : k < l.length) : PL (upd (upd f (g (swapL l i k) i).1 (some i)) (g (swapL l i k) k).1 (some k)) (swapL l i k) := by
  intro id m
  have ei : g (swapL l i k) i = g l k := by rw [g_swapL hi hk]; split <;> simp_all
  have ek : g (swapL l i k) k = g l i := by rw [g_swapL hi hk, if_pos rfl]
  rw [ei, ek, swapL_length]
  unfold upd
  by_cases h1 : id = (g l i).1
  · rw [if_pos h1]
    constructor
    · intro e; obtain rfl := Option.some.inj e; exact ⟨hk, by rw [ek, h1]⟩
    · rintro ⟨hm, e⟩
      rw [g_swapL hi hk] at e
      by_cases e1 : m = k
      · rw [e1]
      · rw [if_neg e1] at e
        by_cases e2 : m = i
        · rw [if_pos e2] at e
          have := h.apart hk hi (by rw [e, h1]); omega
        · rw [if_neg e2] at e
          have := h.apart hm hi (by rw [e, h1]); omega
  · rw [if_neg h1]
    by_cases h2 : id = (g l k).1
    · rw [if_pos h2]
      constructor
      · intro e; obtain rfl := Option.some.inj e; exact ⟨hi, by rw [ei, h2]⟩
      · rintro ⟨hm, e⟩
        rw [g_swapL hi hk] at e
        by_cases e1 : m = k
        · rw [if_pos e1] at e; exact (h1 e.symm).elim
        · rw [if_neg e1] at e
          by_cases e2 : m = i
          · rw [e2]
          · rw [if_neg e2] at e
            have := h.apart hm hk (by rw [e, h2]); omega
    · rw [if_neg h2, h id m]
      rw [g_swapL hi hk]
      constructor
      · rintro ⟨hm, e⟩
        refine ⟨hm, ?_⟩
        rw [if_neg (fun e1 => by subst e1; exact h2 e.symm), if_neg (fun e1 => by subst e1; exact h1 e.symm)]; exact e
      · rintro ⟨hm, e⟩
        refine ⟨hm, ?_⟩
        by_cases e1 : m = k
        · rw [if_pos e1] at e; exact (h1 e.symm).elim
        · rw [if_neg e1] at e
          by_cases e2 : m = i
          · rw [if_pos e2] at e; exact (h2 e.symm).elim
          · rw [if_neg e2] at e; exact e
theorem g_dropLast {l : List It} {k : Nat} (hk : k < l.length - 1) : g l.dropLast k = g l k := by
  have h2 : k < l.length := by omega
  simp [g, hk, h2]
theorem PL.drop {f : Int → Option Nat} {l : List It} (h : PL f l) (h0 : 0 < l.length) : PL (upd f (g l (l.length - 1)).1 none) l.dropLast := by
  intro id k
  unfold upd
  rw [List.length_dropLast]
  by_cases e : id = (g l (l.length - 1)).1
  · rw [if_pos e]
    constructor
    · intro e2; cases e2
    · rintro ⟨hk, e2⟩
      rw [g_dropLast hk, e] at e2
      have := h.apart (by omega) (by omega) e2; omega
  · rw [if_neg e, h id k]
    constructor
    · rintro ⟨hk, e2⟩
      have : k ≠ l.length - 1 := fun e3 => by subst e3; exact e e2.symm
      exact ⟨by omega, by rw [g_dropLast (by omega)]; exact e2⟩
    · rintro ⟨hk, e2⟩
      rw [g_dropLast hk] at e2
      exact ⟨by omega, e2⟩
theorem g_append {l : List It} {x : It} {k : Nat} : g (l ++ [x]) k = if k < l.length then g l k else if k = l.length then x else (0, 0) := by
  unfold g
  by_cases h : k < l.length
  · rw [if_pos h]; simp [List.getElem?_append, h]
  · rw [if_neg h]
    by_cases h2 : k = l.length
    · subst h2; simp
    · rw [if_neg h2, List.getD_eq_getElem?_getD, List.getElem?_eq_none (by simp; omega)]; rfl
theorem PL.snoc {f : Int → Option Nat} {l : List It} (h : PL f l) {id at' : Int} (hn : f id = none) : PL (upd f id (some l.length)) (l ++ [(id, at')]) := by
  intro x k
  unfold upd
  rw [List.length_append, g_append]
  by_cases e : x = id
  · rw [if_pos e]
    constructor
    · intro e2; obtain rfl := Option.some.inj e2; exact ⟨by simp, by simp [e]⟩
    · rintro ⟨hk, e2⟩
      by_cases h1 : k < l.length
      · rw [if_pos h1] at e2
        have := (h x k).2 ⟨h1, e2⟩
        rw [e, hn] at this; cases this
      · have : k = l.length := by simp at hk; omega
        rw [this]
  · rw [if_neg e, h x k]
    constructor
    · rintro ⟨hk, e2⟩; exact ⟨by simp; omega, by rw [if_pos hk]; exact e2⟩
    · rintro ⟨hk, e2⟩
      by_cases h1 : k < l.length
      · rw [if_pos h1] at e2; exact ⟨h1, e2⟩
      · rw [if_neg h1] at e2
        have : k = l.length := by simp at hk; omega
        rw [if_pos this] at e2; exact (e e2.symm).elim
theorem PL.nil : PL (fun _ => none) [] := by intro id k; simp

end Go.Proofs.Ytmgapdbfaoflmaa.Tm
