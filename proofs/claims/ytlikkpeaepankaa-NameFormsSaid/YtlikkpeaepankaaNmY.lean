/- Names made of names, as lists of labels. -/
import Derived.Test.YtlikkpeaepankaaNmX
namespace Go.Proofs.Ytlikkpeaepankaa.Nm
open Go.RowKit

theorem undL_split {a b : List (List UInt8)} (h : undL a b = true) : ∃ p q, a = p ++ q ∧ q.map lowL = b.map lowL := by
  unfold undL at h
  rw [decide_eq_true_eq] at h
  have hl : b.length ≤ a.length := by have := h.length_le; simpa using this
  refine ⟨a.take (a.length - b.length), a.drop (a.length - b.length), (List.take_append_drop _ _).symm, ?_⟩
  rw [List.map_drop]
  have h1 := List.suffix_iff_eq_drop.1 h
  rw [List.length_map, List.length_map] at h1
  exact h1.symm
theorem flat_low_eq {q b : List (List UInt8)} (h : q.map lowL = b.map lowL) : (flat q).length = (flat b).length := by
  rw [← flat_lowL q, h, flat_lowL]
theorem enc_length (a : List (List UInt8)) : (enc a).length = (flat a).length + 1 := by simp [enc]
theorem enc_append (p q : List (List UInt8)) : enc (p ++ q) = flat p ++ enc q := by simp [enc, flat_append]
theorem flat_pos {p : List (List UInt8)} (h : p ≠ []) : 0 < (flat p).length := by
  cases p with
  | nil => exact absurd rfl h
  | cons x p => simp
theorem mk_append (a b : List UInt8) : mk a ++ mk b = mk (a ++ b) := by
  apply bytes_eq
  rw [ByteArray.data_append]; simp [mk]
theorem IsN.app {p q c : List (List UInt8)} (ha : IsN (p ++ q)) (hc : IsN c) (hl : (enc (p ++ c)).length ≤ 255) : IsN (p ++ c) :=
  ⟨fun x hx => by rcases List.mem_append.1 hx with h | h; exact ha.ok x (by simp [h]); exact hc.ok x h, hl⟩
theorem mk_size' (L : List UInt8) : ((mk L).size : Int) = (L.length : Int) := rfl
end Go.Proofs.Ytlikkpeaepankaa.Nm
