/- More of names as lists of labels. -/
import Derived.Test.YtlikkpeaepankaaNmV
namespace Go.Proofs.Ytlikkpeaepankaa.Nm
open Go.RowKit

theorem IsN.eqn {a b : List (List UInt8)} (ha : IsN a) (hb : IsN b) : eqN (mk (enc a)) (mk (enc b)) = decide (a.map lowL = b.map lowL) := by
  unfold eqN
  rw [ha.right, hb.right, ha.lower, hb.lower, mk_list, mk_list]
  simp only [Bool.true_and]
  by_cases h : a.map lowL = b.map lowL
  · rw [h]; simp
  · have : enc (a.map lowL) ≠ enc (b.map lowL) := fun e => h (enc_inj ha.low.ok hb.low.ok e)
    simp [h, this]

theorem undL_suffix {a t : List (List UInt8)} (h : t <:+ a) : undL a t = true := by
  unfold undL
  rw [decide_eq_true_eq]
  obtain ⟨p, rfl⟩ := h
  exact ⟨p.map lowL, by simp⟩
theorem undL_anti {a b : List (List UInt8)} (h1 : undL a b = true) (h2 : undL b a = true) : a.map lowL = b.map lowL := by
  unfold undL at h1 h2
  rw [decide_eq_true_eq] at h1 h2
  exact (h1.eq_of_length (by have := h1.length_le; have := h2.length_le; omega)).symm
theorem undL_trans {a b c : List (List UInt8)} (h1 : undL a b = true) (h2 : undL b c = true) : undL a c = true := by
  unfold undL at *
  rw [decide_eq_true_eq] at *
  exact h2.trans h1
theorem comL_comm (a b : List (List UInt8)) : (comL a b).map lowL = (comL b a).map lowL := by
  apply undL_anti
  · exact comL_long a b (comL b a) (comL_under b a) (undL_suffix (comL_suffix b a))
  · exact comL_long b a (comL a b) (comL_under a b) (undL_suffix (comL_suffix a b))
theorem IsN.com {a b : List (List UInt8)} (ha : IsN a) : IsN (comL a b) := ha.suffix (comL_suffix a b)

theorem under_right {s t : ByteArray} (h : underW s t = true) : rightB s = true ∧ rightB t = true := by
  unfold underW at h; simp at h; exact ⟨h.1, h.2.1⟩
theorem under_not {s t : ByteArray} (h : rightB s = false ∨ rightB t = false) : underW s t = false := by
  unfold underW; rcases h with h | h <;> simp [h]
theorem common_not {s t : ByteArray} (h : rightB s = false ∨ rightB t = false) : commonW s t = (⟨#[]⟩, 2) := by
  unfold commonW; rcases h with h | h <;> simp [h]

/-- The order goes by the small letters' labels. -/
theorem IsN.cmp {a b : List (List UInt8)} (ha : IsN a) (hb : IsN b) : cmpN (mk (enc a)) (mk (enc b)) = cmpR ((a.map lowL).map mk).reverse ((b.map lowL).map mk).reverse := by
  unfold cmpN
  rw [ha.right, hb.right, ha.lower, hb.lower, ha.low.labels, hb.low.labels]; rfl
theorem cmpR_ext : ∀ (x y : List ByteArray), y ≠ [] → cmpR (x ++ y) x = 1
  | [], [], h => absurd rfl h
  | [], _ :: _, _ => rfl
  | a :: x, y, h => by
    rw [List.cons_append, cmpR, if_pos ((cB_zero _ _).2 rfl)]
    exact cmpR_ext x y h
/-- What is under a name comes behind it, or is the same. -/
theorem cmp_under {a b : List (List UInt8)} (ha : IsN a) (hb : IsN b) (h : undL a b = true) : cmpN (mk (enc a)) (mk (enc b)) = if a.length = b.length then 0 else 1 := by
  rw [ha.cmp hb]
  unfold undL at h
  rw [decide_eq_true_eq] at h
  obtain ⟨p, hp⟩ := h
  have hl : a.length = p.length + b.length := by have := congrArg List.length hp; simp at this; omega
  rw [← hp, List.map_append, List.reverse_append]
  by_cases h0 : p = []
  · subst h0
    rw [if_pos (by simpa using hl)]
    simp only [List.map_nil, List.reverse_nil, List.append_nil]
    rw [cmpR_zero]
  · have : p.length ≠ 0 := fun e => h0 (List.length_eq_zero_iff.1 e)
    rw [if_neg (by omega)]
    exact cmpR_ext _ _ (by simp [h0])
end Go.Proofs.Ytlikkpeaepankaa.Nm
