/- TableKeeps, plainly: which keys are there after all were put. -/
import Derived.Test.YtmgapdbfaoflmaaTbX
namespace Go.Proofs.Ytmgapdbfaoflmaa.Tb
set_option linter.unusedSimpArgs false
set_option linter.unusedVariables false
/-- All that was put last, the last first. -/
def R (f : Nat → ByteArray) : Nat → List KV
  | 0 => []
  | n + 1 => (f n, (n : Int)) :: delK (R f n) (f n)
section
variable {f : Nat → ByteArray} {n : Nat}
theorem mem_delK {l : List KV} {k : ByteArray} {p : KV} : p ∈ delK l k ↔ p ∈ l ∧ p.1 ≠ k := by unfold delK; simp [List.mem_filter]
theorem R_mem {n : Nat} {p : KV} : p ∈ R f n ↔ ∃ i, i < n ∧ p = (f i, (i : Int)) ∧ ∀ i', i < i' → i' < n → f i' ≠ f i := by
  induction n with
  | zero => simp [R]
  | succ n ih =>
    unfold R
    rw [List.mem_cons, mem_delK, ih]
    constructor
    · rintro (rfl | ⟨⟨i, hi, rfl, hl⟩, hne⟩)
      · exact ⟨n, by omega, rfl, fun i' h1 h2 => by omega⟩
      · refine ⟨i, by omega, rfl, fun i' h1 h2 => ?_⟩
        by_cases e : i' = n
        · subst e; exact fun e2 => hne e2.symm
        · exact hl i' h1 (by omega)
    · rintro ⟨i, hi, rfl, hl⟩
      by_cases e : i = n
      · subst e; exact .inl rfl
      · exact .inr ⟨⟨i, by omega, rfl, fun i' h1 h2 => hl i' h1 (by omega)⟩, fun e2 => hl n (by omega) (by omega) e2.symm⟩
theorem R_sorted : ∀ n, (R f n).Pairwise (fun a b => b.2 < a.2)
  | 0 => List.Pairwise.nil
  | n + 1 => by
    unfold R
    refine List.Pairwise.cons (fun p hp => ?_) ((R_sorted n).sublist List.filter_sublist)
    obtain ⟨i, hi, rfl, _⟩ := R_mem.1 (mem_delK.1 hp).1
    show (i : Int) < n
    omega
theorem R_keys : ∀ n, (R f n).Pairwise (fun a b => a.1 ≠ b.1)
  | 0 => List.Pairwise.nil
  | n + 1 => by
    unfold R
    exact List.Pairwise.cons (fun p hp => Ne.symm (mem_delK.1 hp).2) ((R_keys n).sublist List.filter_sublist)
theorem delK_take_no {l : List KV} {k : ByteArray} : ∀ {m : Nat}, (∀ p ∈ l.take m, p.1 ≠ k) → (delK l k).take m = l.take m := by
  induction l with
  | nil => intro m _; simp [delK]
  | cons a l ih =>
    intro m h
    cases m with
    | zero => simp
    | succ m =>
      have ha : a.1 ≠ k := h a (by simp)
      have e : delK (a :: l) k = a :: delK l k := by unfold delK; rw [List.filter_cons, if_pos (by simpa using ha)]
      rw [e, List.take_succ_cons, List.take_succ_cons, ih (m := m) fun p hp => h p (by rw [List.take_succ_cons]; exact List.mem_cons_of_mem _ hp)]
theorem delK_take_yes {l : List KV} {k : ByteArray} (hd : l.Pairwise (fun a b => a.1 ≠ b.1)) : ∀ {m : Nat}, (∃ p ∈ l.take (m + 1), p.1 = k) → delK (l.take (m + 1)) k = (delK l k).take m := by
  induction l with
  | nil => intro m h; simp at h
  | cons a l ih =>
    intro m h
    obtain ⟨h1, h2⟩ := List.pairwise_cons.1 hd
    rw [List.take_succ_cons]
    by_cases e : a.1 = k
    · have hno : ∀ p ∈ l, p.1 ≠ k := fun p hp => e ▸ Ne.symm (h1 p hp)
      have e1 : delK (a :: l.take m) k = delK (l.take m) k := by unfold delK; rw [List.filter_cons, if_neg (by simpa using e)]
      have e2 : delK (a :: l) k = delK l k := by unfold delK; rw [List.filter_cons, if_neg (by simpa using e)]
      rw [e1, e2, delK_no hno, delK_no fun p hp => hno p (List.mem_of_mem_take hp)]
    · have e1 : delK (a :: l.take m) k = a :: delK (l.take m) k := by unfold delK; rw [List.filter_cons, if_pos (by simpa using e)]
      have e2 : delK (a :: l) k = a :: delK l k := by unfold delK; rw [List.filter_cons, if_pos (by simpa using e)]
      rw [List.take_succ_cons] at h
      obtain ⟨p, hp, hpk⟩ := h
      rcases List.mem_cons.1 hp with rfl | hp
      · exact absurd hpk e
      · cases m with
        | zero => simp at hp
        | succ m => rw [e1, e2, List.take_succ_cons, ih h2 ⟨p, hp, hpk⟩]
theorem putK_take {l : List KV} (hd : l.Pairwise (fun a b => a.1 ≠ b.1)) (m : Nat) (k : ByteArray) (v : Int) : putK m (l.take m) k v = ((k, v) :: delK l k).take m := by
  unfold putK
  cases m with
  | zero => rfl
  | succ m =>
    rw [List.take_succ_cons, List.take_succ_cons]
    congr 1
    by_cases h : ∃ p ∈ l.take (m + 1), p.1 = k
    · rw [delK_take_yes hd h, List.take_take, Nat.min_self]
    · have hno : ∀ p ∈ l.take (m + 1), p.1 ≠ k := fun p hp e => h ⟨p, hp, e⟩
      have hno' : ∀ p ∈ l.take m, p.1 ≠ k := fun p hp => hno p (by
        have e : l.take m = (l.take (m + 1)).take m := by rw [List.take_take, Nat.min_eq_left (by omega)]
        rw [e] at hp; exact List.mem_of_mem_take hp)
      rw [delK_no hno, List.take_take, Nat.min_eq_left (by omega), delK_take_no hno']
theorem R_put (m n : Nat) : putK m ((R f n).take m) (f n) (n : Int) = (R f (n + 1)).take m := putK_take (R_keys n) m _ _
/-- How many of them are from i on. -/
def cnt (f : Nat → ByteArray) (n i : Nat) : Nat := ((R f n).filter (fun p => decide ((i : Int) ≤ p.2))).length
theorem cnt_le (i : Nat) : cnt f n i ≤ (R f n).length := List.length_filter_le _ _
theorem cnt_zero : cnt f n 0 = (R f n).length := by
  unfold cnt
  rw [List.filter_eq_self.2]
  intro p hp
  obtain ⟨i, _, rfl, _⟩ := R_mem.1 hp
  simp
theorem cnt_top : cnt f n n = 0 := by
  unfold cnt
  rw [List.length_eq_zero_iff, List.filter_eq_nil_iff]
  intro p hp
  obtain ⟨i, hi, rfl, _⟩ := R_mem.1 hp
  simp; omega
theorem cnt_no {i : Nat} (hl : ∃ i', i < i' ∧ i' < n ∧ f i' = f i) : cnt f n i = cnt f n (i + 1) := by
  unfold cnt
  congr 1
  apply List.filter_congr
  intro p hp
  obtain ⟨j, hj, rfl, h⟩ := R_mem.1 hp
  obtain ⟨i', h1, h2, h3⟩ := hl
  have : j ≠ i := by rintro rfl; exact h i' h1 h2 h3
  simp only [decide_eq_decide]
  omega
theorem cnt_yes {i : Nat} (hi : i < n) (hl : ∀ i', i < i' → i' < n → f i' ≠ f i) : cnt f n i = cnt f n (i + 1) + 1 ∧ ∀ m, cnt f n (i + 1) < m → lookV ((R f n).take m) (f i) = some (i : Int) := by
  have hm : (f i, (i : Int)) ∈ R f n := R_mem.2 ⟨i, hi, rfl, hl⟩
  obtain ⟨A, B, hAB⟩ := List.append_of_mem hm
  have hs := R_sorted (f := f) n
  have hk := R_keys (f := f) n
  rw [hAB] at hs hk
  obtain ⟨s1, s2, s3⟩ := List.pairwise_append.1 hs
  obtain ⟨k1, k2, k3⟩ := List.pairwise_append.1 hk
  have hA : ∀ p ∈ A, (i : Int) < p.2 := fun p hp => s3 p hp (f i, (i : Int)) (by simp)
  have hB : ∀ p ∈ B, p.2 < (i : Int) := fun p hp => (List.pairwise_cons.1 s2).1 p hp
  have c1 : cnt f n (i + 1) = A.length := by
    unfold cnt
    rw [hAB, List.filter_append, List.filter_cons, if_neg (by simp; omega), List.filter_eq_self.2 (fun p hp => by have := hA p hp; simp; omega), List.filter_eq_nil_iff.2 (fun p hp => by have := hB p hp; simp; omega)]
    simp
  have c2 : cnt f n i = A.length + 1 := by
    unfold cnt
    rw [hAB, List.filter_append, List.filter_cons, if_pos (by simp), List.filter_eq_self.2 (fun p hp => by have := hA p hp; simp; omega), List.filter_eq_nil_iff.2 (fun p hp => by have := hB p hp; simp; omega)]
    simp
  refine ⟨by rw [c1, c2], fun m hm => ?_⟩
  rw [c1] at hm
  obtain ⟨d, rfl⟩ : ∃ d, m = A.length + (d + 1) := ⟨m - A.length - 1, by omega⟩
  rw [hAB, List.take_length_add_append, List.take_succ_cons]
  refine lookV_yes (p := (f i, (i : Int))) fun q hq => ?_
  rcases List.mem_append.1 hq with e | e
  · exact k3 q e (f i, (i : Int)) (by simp)
  · exact Ne.symm ((List.pairwise_cons.1 k2).1 q (List.mem_of_mem_take e))
end
end Go.Proofs.Ytmgapdbfaoflmaa.Tb
