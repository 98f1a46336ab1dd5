/- The plain law of NameLongest: no program in sight. -/
import Derived.Test.YtlikkpeaepankaaPNameLongestx3
import Derived.Test.YtlikkpeaepankaaNmX
namespace Go.Proofs.Ytlikkpeaepankaa.Pure
open Go.RowKit Go.Proofs.Ytlikkpeaepankaa.PNameLongest Go.Proofs.YtlikkpeaepankaaW.PrintWords Go.Proofs.YtlikkpeaepankaaW.PrintLast Go.Proofs.YtlikkpeaepankaaW.PrintMore Go.Proofs.Ytlikkpeaepankaa.Nm
set_option linter.unusedSimpArgs false
set_option linter.unusedVariables false

theorem w64 (n : Int) (h0 : -9223372036854775808 ≤ n) (h1 : n < 9223372036854775808) : wrap64 n = n := by unfold wrap64; omega
theorem right_f {s : ByteArray} (h : s.size ≤ 140737488351232) : name_Right.f s = some (rightB s) := if_pos h
theorem lower_f {s : ByteArray} (h : s.size ≤ 140737488351232) : name_Lower.f s = some (lowerW s) := if_pos h
theorem labels_f {s : ByteArray} (h : s.size ≤ 140737488351232) : name_Labels.f s = some (labelsL s) := if_pos h
theorem under_f {s t : ByteArray} (h : s.size ≤ 140737488351232) (h2 : t.size ≤ 140737488351232) : name_Under.f s t = some (underW s t) := if_pos ⟨h, h2⟩

theorem cmp_l0 : ∀ (n : Nat) (X Y : List ByteArray) (k : Nat), X.length = n → 2 * n + 2 ≤ k → n < 4611686018427387904 → Y.length < 4611686018427387904 → name_Compare.l0 k X Y = some (cmpR X.reverse Y.reverse) := by
  intro n
  induction n with
  | zero =>
    intro X Y k hX hk _ hY
    obtain rfl := List.length_eq_zero_iff.1 hX
    obtain ⟨k, rfl⟩ : ∃ j, k = j + 2 := ⟨k - 2, by omega⟩
    rw [name_Compare.l0, if_neg (by simp), name_Compare.j2, if_neg (by simp)]
    rcases List.eq_nil_or_concat Y with rfl | ⟨Y', y, rfl⟩
    · rfl
    · have : ((Y'.concat y).length : Int) ≥ 1 := by simp; omega
      rw [List.concat_eq_append, List.reverse_append]
      simp [cmpR, mn]
      omega
  | succ n ih =>
    intro X Y k hX hk hn hY
    rcases List.eq_nil_or_concat X with rfl | ⟨X', x, rfl⟩
    · cases hX
    rw [List.concat_eq_append] at hX ⊢
    have hX' : X'.length = n := by simpa using hX
    obtain ⟨k, rfl⟩ : ∃ j, k = j + 2 := ⟨k - 2, by omega⟩
    rw [name_Compare.l0, if_pos (by simp), name_Compare.j2]
    rcases List.eq_nil_or_concat Y with rfl | ⟨Y', y, rfl⟩
    · rw [if_neg (by simp), List.reverse_append]
      simp [cmpR, mn]
      omega
    rw [List.concat_eq_append] at hY ⊢
    have e1 : ((X' ++ [x]).length : Int) = X'.length + 1 := by simp
    have e2 : ((Y' ++ [y]).length : Int) = Y'.length + 1 := by simp
    have hY' : Y'.length < 4611686018427387904 := by simp at hY; omega
    rw [if_pos (by rw [decide_eq_true_eq, e2]; omega), e1, e2, w64 _ (by omega) (by omega), w64 _ (by omega) (by omega),
      show (X'.length : Int) + 1 - 1 = X'.length by omega, show (Y'.length : Int) + 1 - 1 = Y'.length by omega,
      if_pos (by omega), if_pos (by omega), if_pos (by omega), if_pos (by omega)]
    have g1 : rdOf ByteArray.empty (X' ++ [x]) (X'.length : Int) = x := by simp [rdOf]
    have g2 : rdOf ByteArray.empty (Y' ++ [y]) (Y'.length : Int) = y := by simp [rdOf]
    rw [g1, g2, Int.toNat_natCast, Int.toNat_natCast, List.take_left, List.take_left, List.reverse_append, List.reverse_append]
    show (if cB x.data.toList y.data.toList = 0 then _ else _) = _
    simp only [List.reverse_cons, List.reverse_nil, List.nil_append, List.cons_append, cmpR]
    by_cases hc : cB x.data.toList y.data.toList = 0
    · rw [if_pos hc, if_pos hc, if_pos (by omega), if_pos (by omega)]
      exact ih X' Y' k hX' (by omega) (by omega) hY'
    · rw [if_neg hc, if_neg hc]

theorem labelsL_len (s : ByteArray) : (labelsL s).length ≤ 128 := by
  unfold labelsL
  split
  · rename_i h
    have h1 := labs_length s _ 0 rfl
    have h2 : s.size ≤ 255 := by unfold rightB at h; simp at h; omega
    rw [List.length_map]; omega
  · simp

theorem cmp_f (k : Nat) (hk : 300 ≤ k) (s t : ByteArray) (hs : s.size ≤ 140737488351232) (ht : t.size ≤ 140737488351232) : name_Compare.f k s t = some (cmpN s t) := by
  unfold name_Compare.f cmpN
  rw [right_f hs, right_f ht]
  obtain ⟨k, rfl⟩ : ∃ j, k = j + 1 := ⟨k - 1, by omega⟩
  have hls : (lowerW s).size ≤ 140737488351232 := by rw [lowerW_size]; exact hs
  have hlt : (lowerW t).size ≤ 140737488351232 := by rw [lowerW_size]; exact ht
  have n1 := labelsL_len (lowerW s)
  have n2 := labelsL_len (lowerW t)
  have hl := cmp_l0 _ (labelsL (lowerW s)) (labelsL (lowerW t)) k rfl (by omega) (by omega) (by omega)
  cases h1 : rightB s <;> cases h2 : rightB t <;> simp [name_Compare.j0, strings_Compare.f, lower_f hs, lower_f ht, labels_f hls, labels_f hlt, hl, cB]

theorem equal_f (s t : ByteArray) (hs : s.size ≤ 140737488351232) (ht : t.size ≤ 140737488351232) : name_Equal.f s t = some (eqN s t) := by
  unfold name_Equal.f eqN
  rw [right_f hs, right_f ht, lower_f hs, lower_f ht]
  cases h1 : rightB s <;> cases h2 : rightB t <;> simp

theorem common_f {s t : ByteArray} (h : s.size ≤ 140737488351232) (h2 : t.size ≤ 140737488351232) : name_Common.f s t = some (commonW s t) := if_pos ⟨h, h2⟩

theorem examples_f (k : Nat) (hk : 40 ≤ k) : guidepostlaw01_examples.f k = some true := by
  obtain ⟨j, rfl⟩ : ∃ j, k = 40 + j := ⟨k - 40, by omega⟩
  have h : guidepostlaw01_examples.f 40 = some true := by decide +kernel
  clear hk
  induction j with
  | zero => exact h
  | succ j ih => exact guidepostlaw01_examples.mono _ _ ih

theorem NameLongest : guidepostlaw01_NameLongest.Pure := by
  intro s t u hs ht hu
  refine ⟨400, ?_⟩
  unfold guidepostlaw01_NameLongest.f
  rw [examples_f 400 (by omega), common_f hs ht, common_f ht hs]
  simp only [Option.bind_some]
  rw [show (400 : Nat) = 399 + 1 from rfl]
  by_cases h1 : rightB s = true
  · by_cases h2 : rightB t = true
    · obtain ⟨a, ha, rfl⟩ := right_isN h1
      obtain ⟨b, hb, rfl⟩ := right_isN h2
      rw [ha.common hb, hb.common ha]
      simp only [if_true, bne_self_eq_false]
      rw [guidepostlaw01_NameLongest.j0, if_neg (by simp)]
      have hx := ha.com (b := b)
      have hy := hb.com (b := a)
      have sx : (mk (enc (comL a b))).size ≤ 140737488351232 := Nat.le_trans hx.size (by decide)
      have sy : (mk (enc (comL b a))).size ≤ 140737488351232 := Nat.le_trans hy.size (by decide)
      rw [under_f hs hu, under_f ht hu, under_f sx hu, equal_f _ _ sx sy, hx.eqn hy, decide_eq_true (comL_comm a b)]
      simp only [Option.bind_some, if_true]
      by_cases g1 : underW (mk (enc a)) u = true
      · by_cases g2 : underW (mk (enc b)) u = true
        · obtain ⟨c, hc, rfl⟩ := right_isN (under_right g1).2
          rw [ha.under hc] at g1
          rw [hb.under hc] at g2
          have g3 : underW (mk (enc (comL a b))) (mk (enc c)) = true := by rw [hx.under hc]; exact comL_long a b c g1 g2
          simp [g3]
        · simp [g1, g2]
      · simp [g1]
    · have h2' : rightB t = false := by simpa using h2
      rw [common_not (.inr h2'), common_not (.inl h2')]
      simp [guidepostlaw01_NameLongest.j0]
  · have h1' : rightB s = false := by simpa using h1
    rw [common_not (.inl h1'), common_not (.inr h1')]
    simp [guidepostlaw01_NameLongest.j0]

end Go.Proofs.Ytlikkpeaepankaa.Pure
