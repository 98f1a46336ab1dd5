/- Ro's check of an order, reckoned with a mask of bits, and looking for who waits for whom upwards alone: for regions of 40 operations and more. -/
import Derived.Test.YticijejnemnmlaaRo
namespace Go.Proofs.Yticijejnemnmlaa.Rt
open Go Go.RowKit
set_option linter.unusedSectionVars false
set_option linter.unusedVariables false
section
variable {P : Program} {ops : Array Oper} {md : Region.Mode}
def waitsUp (md : Region.Mode) (ops : Array Oper) : Nat → Nat → Nat → Bool
  | 0, _, _ => false
  | f + 1, j, i => match ops[j]? with
    | some oj => oj.after.any fun e => Region.binds md e && (e.on == i || (Nat.blt i e.on && waitsUp md ops f e.on i))
    | none => false
theorem waitsUp_spec : ∀ (f j i : Nat), waitsUp md ops f j i = true → waits md ops f j i = true
  | 0, _, _, h => by cases h
  | f + 1, j, i, h => by
    unfold waitsUp at h
    unfold waits
    cases ho : ops[j]? with
    | none => rw [ho] at h; cases h
    | some o =>
      rw [ho] at h
      simp only [Array.any_eq_true, Bool.and_eq_true, Bool.or_eq_true] at h ⊢
      obtain ⟨q, hq, hb, hh⟩ := h
      exact ⟨q, hq, hb, hh.imp id fun hh => waitsUp_spec f _ _ hh.2⟩
def freeM (md : Region.Mode) (ops : Array Oper) (fl : Nat → Nat) (m k : Nat) (oi : Oper) : List Oper → Nat → Bool
  | [], _ => true
  | oj :: r, j => (j == k || m.testBit j || (suitsO fl k j && oi.apart ops oj) || waitsUp md ops ops.size j k) && freeM md ops fl m k oi r (j + 1)
theorem freeM_spec {fl : Nat → Nat} {m k : Nat} {oi : Oper} : ∀ (l : List Oper) (s : Nat), freeM md ops fl m k oi l s = true → ∀ j oj, l[j]? = some oj → (s + j == k || m.testBit (s + j) || (suitsO fl k (s + j) && oi.apart ops oj) || waitsUp md ops ops.size (s + j) k) = true
  | [], _, _, j, oj, hj => by simp at hj
  | o :: r, s, h, j, oj, hj => by
    simp only [freeM, Bool.and_eq_true] at h
    cases j with
    | zero => simp at hj; subst hj; exact h.1
    | succ j =>
      have := freeM_spec r (s + 1) h.2 j oj (by simpa using hj)
      rw [show s + (j + 1) = s + 1 + j by omega]
      exact this
def chk (md : Region.Mode) (ops : Array Oper) (fl : Nat → Nat) : List Nat → Nat → Bool
  | [], m => (List.range ops.size).all fun j => m.testBit j
  | k :: ks, m => !m.testBit k && (match ops[k]? with
      | none => false
      | some oi => (oi.after.all fun e => !Region.binds md e || m.testBit e.on) && freeM md ops fl m k oi ops.toList 0) && chk md ops fl ks (m ||| 2 ^ k)
theorem chk_spec {fl : Nat → Nat} : ∀ (l : List Nat) (m : Nat) (listed : Array Bool), listed.size = ops.size → (∀ j, m.testBit j = listed.getD j false) → chk md ops fl l m = true → ordFrom md ops fl l listed = true
  | [], m, listed, hs, hm, h => by
    simp only [chk, List.all_eq_true, List.mem_range] at h
    simp only [ordFrom, List.isEmpty_iff, Region.ready, List.filter_eq_nil_iff, List.mem_range]
    intro i hi hh
    have h1 := h i hi
    rw [hm] at h1
    have h2 : i < listed.size := by omega
    simp [Array.getD, h2] at h1 hh
    rw [h1] at hh
    cases hh.1
  | k :: ks, m, listed, hs, hm, h => by
    simp only [chk, Bool.and_eq_true] at h
    obtain ⟨⟨h1, h2⟩, h3⟩ := h
    cases ho : ops[k]? with
    | none => rw [ho] at h2; cases h2
    | some oi =>
      rw [ho] at h2
      simp only [Bool.and_eq_true] at h2
      obtain ⟨h2, h4⟩ := h2
      have hk : k < ops.size := (Array.getElem?_eq_some_iff.1 ho).1
      have hks : k < listed.size := by omega
      have hkf : listed.getD k true = false := by
        have : m.testBit k = false := by simpa using h1
        rw [hm] at this
        simp [Array.getD, hks] at this ⊢
        exact this
      simp only [ordFrom, Bool.and_eq_true, List.contains_iff_mem]
      refine ⟨⟨mem_ready.2 ⟨hkf, oi, ho, fun e he hb => ?_⟩, ?_⟩, chk_spec ks (m ||| 2 ^ k) _ (by simpa using hs) (fun j => ?_) h3⟩
      · rw [Array.all_eq_true] at h2
        obtain ⟨q, hq, rfl⟩ := Array.mem_iff_getElem.1 he
        have := h2 q hq
        rw [hb, hm] at this
        simpa using this
      · simp only [freeO, ho, List.all_eq_true, List.mem_range]
        intro j hj
        have hoj : ops.toList[j]? = some ops[j] := by simp [hj]
        have h5 := freeM_spec ops.toList 0 h4 j ops[j] hoj
        rw [Nat.zero_add] at h5
        have hjl : j < listed.size := by omega
        rw [Array.getElem?_eq_getElem hj]
        simp only [Bool.or_eq_true, Bool.and_eq_true] at h5 ⊢
        rcases h5 with ((h5 | h5) | h5) | h5
        · exact .inl (.inl h5)
        · rw [hm] at h5
          refine .inl (.inr ?_)
          simp [Array.getD, hjl] at h5 ⊢
          exact h5
        · exact .inr (.inr ⟨h5.2, h5.1⟩)
        · exact .inr (.inl (waitsUp_spec _ _ _ h5))
      · rw [Nat.testBit_or, Nat.testBit_two_pow, hm]
        by_cases e : k = j
        · subst e; simp [Array.getD, hks]
        · by_cases hj : j < listed.size
          · simp [Array.getD, hj, e, Array.getElem_setIfInBounds]
          · simp [Array.getD, hj, e]
def ordM (md : Region.Mode) (ops : Array Oper) (l ord : List Nat) : Bool := Region.noSelect ops && noDefer ops && ord.length == ops.size && chk md ops (flOf l) ord 0
theorem ordM_spec {l ord : List Nat} (h : ordM md ops l ord = true) : ordB md ops l ord = true := by
  simp only [ordM, ordB, Bool.and_eq_true] at h ⊢
  refine ⟨h.1, chk_spec ord 0 _ (by simp) (fun j => ?_) h.2⟩
  rw [getD_replicate_false', Nat.zero_testBit]
theorem wp_region_ordM {id : Nat} {Q : Exit → Act → World → Prop} {a : Act} {w : World} {l : List Oper} (fl ord : List Nat) (hm : P.follows .mixedOrders = true) (hB : ordM .any l.toArray fl ord = true)
    (h : wpOrd P l.toArray (flOf fl) (fun a' w' => Q .normal a' w') ord a w.drew) : (Code.region id l.toArray true).wp P Q a w :=
  wp_region_ord fl ord hm (ordM_spec hB) h
end
end Go.Proofs.Yticijejnemnmlaa.Rt
