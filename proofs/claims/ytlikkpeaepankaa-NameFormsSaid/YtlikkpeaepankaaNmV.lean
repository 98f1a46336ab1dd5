/- The order of names. -/
import Derived.Test.YtlikkpeaepankaaNmQ
import Derived.Lib.Bytealg
namespace Go.Proofs.Ytlikkpeaepankaa.Nm
open Go.RowKit

abbrev cB (x y : List UInt8) : Int := Lib.compareBytes x y

theorem cB_vals : ∀ x y, cB x y = -1 ∨ cB x y = 0 ∨ cB x y = 1
  | [], [] => by simp [cB, Lib.compareBytes]
  | [], _ :: _ => by simp [cB, Lib.compareBytes]
  | _ :: _, [] => by simp [cB, Lib.compareBytes]
  | a :: x, b :: y => by
    have := cB_vals x y
    simp only [cB, Lib.compareBytes] at *
    split
    · simp
    · split
      · simp
      · exact this
theorem cB_zero : ∀ x y, cB x y = 0 ↔ x = y
  | [], [] => by simp [cB, Lib.compareBytes]
  | [], _ :: _ => by simp [cB, Lib.compareBytes]
  | _ :: _, [] => by simp [cB, Lib.compareBytes]
  | a :: x, b :: y => by
    have h := cB_zero x y
    simp only [cB, Lib.compareBytes] at *
    split
    · rename_i h1
      constructor
      · intro h; cases h
      · intro h; cases h; exact absurd h1 (by simp)
    · split
      · rename_i h1 h2
        constructor
        · intro h; cases h
        · intro h; cases h; exact absurd h2 (by simp)
      · rename_i h1 h2
        have hab : a = b := by
          apply UInt8.toNat_inj.1
          rw [UInt8.lt_iff_toNat_lt] at h1 h2
          omega
        rw [h, hab]; simp
theorem cB_anti : ∀ x y, cB y x = - cB x y
  | [], [] => by simp [cB, Lib.compareBytes]
  | [], _ :: _ => by simp [cB, Lib.compareBytes]
  | _ :: _, [] => by simp [cB, Lib.compareBytes]
  | a :: x, b :: y => by
    have h := cB_anti x y
    simp only [cB, Lib.compareBytes] at *
    by_cases h1 : a < b
    · have h2 : ¬ b < a := by rw [UInt8.lt_iff_toNat_lt] at *; omega
      simp [h1, h2]
    · by_cases h2 : b < a
      · simp [h1, h2]
      · simp [h1, h2, h]
theorem cB_trans : ∀ x y z, cB x y ≤ 0 → cB y z ≤ 0 → cB x z ≤ 0
  | [], _, [] => by simp [cB, Lib.compareBytes]
  | [], _, _ :: _ => by simp [cB, Lib.compareBytes]
  | _ :: _, [], _ => by simp [cB, Lib.compareBytes]
  | _ :: _, _ :: _, [] => by simp [cB, Lib.compareBytes]
  | a :: x, b :: y, c :: z => by
    have h := cB_trans x y z
    simp only [cB, Lib.compareBytes] at *
    intro h1 h2
    by_cases g1 : a < b
    · by_cases g2 : b < c
      · have : a < c := by rw [UInt8.lt_iff_toNat_lt] at *; omega
        simp [this]
      · by_cases g3 : c < b
        · simp [g2, g3] at h2
        · have : a < c := by rw [UInt8.lt_iff_toNat_lt] at *; omega
          simp [this]
    · by_cases g1' : b < a
      · simp [g1, g1'] at h1
      · simp only [if_neg g1, if_neg g1'] at h1
        have hab : a = b := by apply UInt8.toNat_inj.1; rw [UInt8.lt_iff_toNat_lt] at *; omega
        subst hab
        by_cases g2 : a < c
        · simp [g2]
        · by_cases g3 : c < a
          · simp [g2, g3] at h2
          · simp only [if_neg g2, if_neg g3] at h2 ⊢
            exact h h1 h2

/-- Two names' labels, the last ones first. -/
def cmpR : List ByteArray → List ByteArray → Int
  | [], [] => 0
  | [], _ :: _ => -1
  | _ :: _, [] => 1
  | x :: xs, y :: ys => if cB x.data.toList y.data.toList = 0 then cmpR xs ys else cB x.data.toList y.data.toList

theorem cmpR_vals : ∀ x y, cmpR x y = -1 ∨ cmpR x y = 0 ∨ cmpR x y = 1
  | [], [] => by simp [cmpR]
  | [], _ :: _ => by simp [cmpR]
  | _ :: _, [] => by simp [cmpR]
  | a :: x, b :: y => by
    have h1 := cmpR_vals x y
    have h2 := cB_vals a.data.toList b.data.toList
    unfold cmpR
    split <;> assumption
theorem bytes_eq {a b : ByteArray} (h : a.data.toList = b.data.toList) : a = b := by rw [← mk_toList a, ← mk_toList b, h]
theorem cmpR_zero : ∀ x y, cmpR x y = 0 ↔ x = y
  | [], [] => by simp [cmpR]
  | [], _ :: _ => by simp [cmpR]
  | _ :: _, [] => by simp [cmpR]
  | a :: x, b :: y => by
    have h1 := cmpR_zero x y
    have h2 := cB_zero a.data.toList b.data.toList
    unfold cmpR
    split
    · rename_i h
      rw [h1, bytes_eq (h2.1 h)]; simp
    · rename_i h
      constructor
      · intro e; exact absurd e h
      · intro e; cases e; exact absurd (h2.2 rfl) h
theorem cmpR_anti : ∀ x y, cmpR y x = - cmpR x y
  | [], [] => by simp [cmpR]
  | [], _ :: _ => by simp [cmpR]
  | _ :: _, [] => by simp [cmpR]
  | a :: x, b :: y => by
    have h1 := cmpR_anti x y
    have h2 := cB_anti a.data.toList b.data.toList
    unfold cmpR
    by_cases h : cB a.data.toList b.data.toList = 0
    · rw [if_pos h, if_pos (by rw [h2, h]; rfl), h1]
    · rw [if_neg h, if_neg (by omega), h2]
theorem cmpR_trans : ∀ x y z, cmpR x y ≤ 0 → cmpR y z ≤ 0 → cmpR x z ≤ 0
  | [], _, [] => by simp [cmpR]
  | [], _, _ :: _ => by simp [cmpR]
  | _ :: _, [], _ => by simp [cmpR]
  | _ :: _, _ :: _, [] => by simp [cmpR]
  | a :: x, b :: y, c :: z => by
    have h := cmpR_trans x y z
    have t1 := cB_trans a.data.toList b.data.toList c.data.toList
    have z1 := cB_zero a.data.toList b.data.toList
    have z2 := cB_zero b.data.toList c.data.toList
    have z3 := cB_zero a.data.toList c.data.toList
    have n2 := cB_anti b.data.toList c.data.toList
    intro h1 h2
    unfold cmpR at h1 h2 ⊢
    by_cases e1 : cB a.data.toList b.data.toList = 0
    · rw [if_pos e1] at h1
      rw [z1.1 e1]
      by_cases e2 : cB b.data.toList c.data.toList = 0
      · rw [if_pos e2] at h2 ⊢; exact h h1 h2
      · rw [if_neg e2] at h2 ⊢; exact h2
    · rw [if_neg e1] at h1
      by_cases e2 : cB b.data.toList c.data.toList = 0
      · rw [← z2.1 e2, if_neg e1]; exact h1
      · rw [if_neg e2] at h2
        have h3 := t1 h1 h2
        by_cases e3 : cB a.data.toList c.data.toList = 0
        · exfalso
          have e4 := z3.1 e3
          rw [← e4, cB_anti] at h2
          omega
        · rw [if_neg e3]; exact h3

/-- How any two texts are held as names. -/
def cmpN (s t : ByteArray) : Int :=
  if rightB s then if rightB t then cmpR (labelsL (lowerW s)).reverse (labelsL (lowerW t)).reverse else 1
  else if rightB t then -1 else cB s.data.toList t.data.toList

theorem cmpN_vals (s t : ByteArray) : cmpN s t = -1 ∨ cmpN s t = 0 ∨ cmpN s t = 1 := by
  unfold cmpN
  split
  · split
    · exact cmpR_vals _ _
    · simp
  · split
    · simp
    · exact cB_vals _ _
theorem cmpN_anti (s t : ByteArray) : cmpN t s = - cmpN s t := by
  have k1 := cmpR_anti (labelsL (lowerW s)).reverse (labelsL (lowerW t)).reverse
  have k2 := cB_anti s.data.toList t.data.toList
  unfold cmpN
  cases hs : rightB s <;> cases ht : rightB t <;> simp only [if_true, Bool.false_eq_true, if_false] <;> first | exact k1 | exact k2 | rfl
theorem cmpN_self (s : ByteArray) : cmpN s s = 0 := by
  have := cmpN_anti s s; omega
theorem cmpN_trans (s t u : ByteArray) (h1 : cmpN s t ≤ 0) (h2 : cmpN t u ≤ 0) : cmpN s u ≤ 0 := by
  have k1 := cmpR_trans (labelsL (lowerW s)).reverse (labelsL (lowerW t)).reverse (labelsL (lowerW u)).reverse
  have k2 := cB_trans s.data.toList t.data.toList u.data.toList
  unfold cmpN at h1 h2 ⊢
  cases hs : rightB s <;> cases ht : rightB t <;> cases hu : rightB u <;> simp only [hs, ht, hu, if_true, Bool.false_eq_true, if_false] at h1 h2 ⊢ <;> first | exact k1 h1 h2 | exact k2 h1 h2 | omega
theorem lower_inj {s t : ByteArray} (hs : rightB s = true) (ht : rightB t = true) : labelsL (lowerW s) = labelsL (lowerW t) ↔ lowerW s = lowerW t := by
  obtain ⟨a, ha, rfl⟩ := right_isN hs
  obtain ⟨b, hb, rfl⟩ := right_isN ht
  rw [ha.lower, hb.lower, ha.low.labels, hb.low.labels]
  constructor
  · intro h
    have := congrArg (fun l => l.map (fun (s : ByteArray) => s.data.toList)) h
    simp only [List.map_map] at this
    have h2 : a.map lowL = b.map lowL := by simpa [Function.comp_def] using this
    rw [h2]
  · intro h
    have := enc_inj ha.low.ok hb.low.ok (mk_inj h)
    rw [this]
/-- Two that are in no order are the same. -/
def eqN (s t : ByteArray) : Bool := rightB s && (rightB t && (lowerW s).toList == (lowerW t).toList)
theorem toList_inj {s t : ByteArray} (h : s.toList = t.toList) : s = t := by rw [ByteArray.toList_eq, ByteArray.toList_eq] at h; exact bytes_eq h
theorem cmpN_zero (s t : ByteArray) : cmpN s t = 0 ↔ (eqN s t = true ∨ s = t) := by
  have k := cB_zero s.data.toList t.data.toList
  by_cases hs : rightB s = true
  · by_cases ht : rightB t = true
    · have h1 := lower_inj hs ht
      unfold cmpN eqN
      rw [hs, ht]
      simp only [if_true, Bool.true_and, beq_iff_eq]
      rw [cmpR_zero, List.reverse_inj, h1]
      constructor
      · intro h; rw [h]; exact .inl rfl
      · rintro (h | rfl)
        · exact toList_inj h
        · rfl
    · have ht' : rightB t = false := by simpa using ht
      unfold cmpN eqN
      rw [hs, ht']
      simp only [if_true, Bool.false_and, Bool.and_false]
      constructor
      · intro h; simp at h
      · rintro (h | rfl)
        · cases h
        · rw [hs] at ht'; cases ht'
  · have hs' : rightB s = false := by simpa using hs
    by_cases ht : rightB t = true
    · unfold cmpN eqN
      rw [hs', ht]
      constructor
      · intro h; simp at h
      · rintro (h | rfl)
        · simp at h
        · rw [ht] at hs'; cases hs'
    · have ht' : rightB t = false := by simpa using ht
      unfold cmpN eqN
      rw [hs', ht']
      simp only [Bool.false_and, Bool.false_eq_true, if_false, false_or]
      rw [k]
      exact ⟨fun h => bytes_eq h, fun h => by rw [h]⟩
end Go.Proofs.Ytlikkpeaepankaa.Nm
