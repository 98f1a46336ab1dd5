/- The plain law of NameMoves: no program in sight. -/
import Derived.Test.YtlikkpeaepankaaPNameMovesx2
import Derived.Test.YtlikkpeaepankaaNmY
namespace Go.Proofs.Ytlikkpeaepankaa.Pure
open Go.RowKit Go.Proofs.Ytlikkpeaepankaa.PNameMoves Go.Proofs.YtlikkpeaepankaaW.PrintWords Go.Proofs.YtlikkpeaepankaaW.PrintLast Go.Proofs.YtlikkpeaepankaaW.PrintMore Go.Proofs.Ytlikkpeaepankaa.Nm
set_option linter.unusedSimpArgs false
set_option linter.unusedVariables false

theorem w64 (n : Int) (h0 : -9223372036854775808 ≤ n) (h1 : n < 9223372036854775808) : wrap64 n = n := by unfold wrap64; omega
theorem right_f {s : ByteArray} (h : s.size ≤ 140737488351232) : name_Right.f s = some (rightB s) := if_pos h
theorem lower_f {s : ByteArray} (h : s.size ≤ 140737488351232) : name_Lower.f s = some (lowerW s) := if_pos h
theorem labels_f {s : ByteArray} (h : s.size ≤ 140737488351232) : name_Labels.f s = some (labelsL s) := if_pos h
theorem under_f {s t : ByteArray} (h : s.size ≤ 140737488351232) (h2 : t.size ≤ 140737488351232) : name_Under.f s t = some (underW s t) := if_pos ⟨h, h2⟩

theorem cmp_l0 : ∀ (n : Nat) (X Y : List ByteArray) (k : Nat), X.length = n → 2 * n + 2 ≤ k → n < 4611686018427387904 → Y.length < 4611686018427387904 → name_Compare.l0 k X Y = some (cmpR X.reverse Y.reverse) := by
  intro n
  induction n with
  | zero =>
    intro X Y k hX hk _ hY
    obtain rfl := List.length_eq_zero_iff.1 hX
    obtain ⟨k, rfl⟩ : ∃ j, k = j + 2 := ⟨k - 2, by omega⟩
    rw [name_Compare.l0, if_neg (by simp), name_Compare.j2, if_neg (by simp)]
    rcases List.eq_nil_or_concat Y with rfl | ⟨Y', y, rfl⟩
    · rfl
    · have : ((Y'.concat y).length : Int) ≥ 1 := by simp; omega
      rw [List.concat_eq_append, List.reverse_append]
      simp [cmpR, mn]
      omega
  | succ n ih =>
    intro X Y k hX hk hn hY
    rcases List.eq_nil_or_concat X with rfl | ⟨X', x, rfl⟩
    · cases hX
    rw [List.concat_eq_append] at hX ⊢
    have hX' : X'.length = n := by simpa using hX
    obtain ⟨k, rfl⟩ : ∃ j, k = j + 2 := ⟨k - 2, by omega⟩
    rw [name_Compare.l0, if_pos (by simp), name_Compare.j2]
    rcases List.eq_nil_or_concat Y with rfl | ⟨Y', y, rfl⟩
    · rw [if_neg (by simp), List.reverse_append]
      simp [cmpR, mn]
      omega
    rw [List.concat_eq_append] at hY ⊢
    have e1 : ((X' ++ [x]).length : Int) = X'.length + 1 := by simp
    have e2 : ((Y' ++ [y]).length : Int) = Y'.length + 1 := by simp
    have hY' : Y'.length < 4611686018427387904 := by simp at hY; omega
    rw [if_pos (by rw [decide_eq_true_eq, e2]; omega), e1, e2, w64 _ (by omega) (by omega), w64 _ (by omega) (by omega),
      show (X'.length : Int) + 1 - 1 = X'.length by omega, show (Y'.length : Int) + 1 - 1 = Y'.length by omega,
      if_pos (by omega), if_pos (by omega), if_pos (by omega), if_pos (by omega)]
    have g1 : rdOf ByteArray.empty (X' ++ [x]) (X'.length : Int) = x := by simp [rdOf]
    have g2 : rdOf ByteArray.empty (Y' ++ [y]) (Y'.length : Int) = y := by simp [rdOf]
    rw [g1, g2, Int.toNat_natCast, Int.toNat_natCast, List.take_left, List.take_left, List.reverse_append, List.reverse_append]
    show (if cB x.data.toList y.data.toList = 0 then _ else _) = _
    simp only [List.reverse_cons, List.reverse_nil, List.nil_append, List.cons_append, cmpR]
    by_cases hc : cB x.data.toList y.data.toList = 0
    · rw [if_pos hc, if_pos hc, if_pos (by omega), if_pos (by omega)]
      exact ih X' Y' k hX' (by omega) (by omega) hY'
    · rw [if_neg hc, if_neg hc]

theorem labelsL_len (s : ByteArray) : (labelsL s).length ≤ 128 := by
  unfold labelsL
  split
  · rename_i h
    have h1 := labs_length s _ 0 rfl
    have h2 : s.size ≤ 255 := by unfold rightB at h; simp at h; omega
    rw [List.length_map]; omega
  · simp

theorem cmp_f (k : Nat) (hk : 300 ≤ k) (s t : ByteArray) (hs : s.size ≤ 140737488351232) (ht : t.size ≤ 140737488351232) : name_Compare.f k s t = some (cmpN s t) := by
  unfold name_Compare.f cmpN
  rw [right_f hs, right_f ht]
  obtain ⟨k, rfl⟩ : ∃ j, k = j + 1 := ⟨k - 1, by omega⟩
  have hls : (lowerW s).size ≤ 140737488351232 := by rw [lowerW_size]; exact hs
  have hlt : (lowerW t).size ≤ 140737488351232 := by rw [lowerW_size]; exact ht
  have n1 := labelsL_len (lowerW s)
  have n2 := labelsL_len (lowerW t)
  have hl := cmp_l0 _ (labelsL (lowerW s)) (labelsL (lowerW t)) k rfl (by omega) (by omega) (by omega)
  cases h1 : rightB s <;> cases h2 : rightB t <;> simp [name_Compare.j0, strings_Compare.f, lower_f hs, lower_f ht, labels_f hls, labels_f hlt, hl, cB]

theorem equal_f (s t : ByteArray) (hs : s.size ≤ 140737488351232) (ht : t.size ≤ 140737488351232) : name_Equal.f s t = some (eqN s t) := by
  unfold name_Equal.f eqN
  rw [right_f hs, right_f ht, lower_f hs, lower_f ht]
  cases h1 : rightB s <;> cases h2 : rightB t <;> simp

theorem examples_f (k : Nat) (hk : 40 ≤ k) : guidepostlaw01_examples.f k = some true := by
  obtain ⟨j, rfl⟩ : ∃ j, k = 40 + j := ⟨k - 40, by omega⟩
  have h : guidepostlaw01_examples.f 40 = some true := by decide +kernel
  clear hk
  induction j with
  | zero => exact h
  | succ j ih => exact guidepostlaw01_examples.mono _ _ ih

theorem moved_not (k : Nat) (hk : 2 ≤ k) (n f t : ByteArray) (hn : n.size ≤ 140737488351232) (hf : f.size ≤ 140737488351232) (ht : t.size ≤ 140737488351232) (h : rightB n = false ∨ rightB f = false ∨ rightB t = false) : name_Moved.f k n f t = some (⟨#[]⟩, 2) := by
  obtain ⟨k, rfl⟩ : ∃ j, k = j + 1 := ⟨k - 1, by omega⟩
  unfold name_Moved.f
  rw [right_f hn, right_f hf, right_f ht]
  cases h1 : rightB n
  · simp [name_Moved.j0]
  cases h2 : rightB f
  · simp [name_Moved.j0]
  cases h3 : rightB t
  · simp [name_Moved.j0]
  rw [h1, h2, h3] at h
  simp at h

theorem moved_far (k : Nat) (hk : 2 ≤ k) (n f t : ByteArray) (hn : n.size ≤ 140737488351232) (hf : f.size ≤ 140737488351232) (ht : t.size ≤ 140737488351232) (h1 : rightB n = true) (h2 : rightB f = true) (h3 : rightB t = true) (h : underW n f = false) : name_Moved.f k n f t = some (⟨#[]⟩, 1) := by
  obtain ⟨k, rfl⟩ : ∃ j, k = j + 2 := ⟨k - 2, by omega⟩
  unfold name_Moved.f
  rw [right_f hn, right_f hf, right_f ht]
  simp [h1, h2, h3, name_Moved.j0, under_f hn hf, h, name_Moved.j1]

theorem moved_f (k : Nat) (hk : 2 ≤ k) (p q b c : List (List UInt8)) (ha : IsN (p ++ q)) (hb : IsN b) (hc : IsN c) (hq : q.map lowL = b.map lowL) :
    name_Moved.f k (mk (enc (p ++ q))) (mk (enc b)) (mk (enc c)) = some (if p = [] then (⟨#[]⟩, 1) else if (enc (p ++ c)).length ≤ 255 then (mk (enc (p ++ c)), 0) else (⟨#[]⟩, 3)) := by
  obtain ⟨k, rfl⟩ : ∃ j, k = j + 2 := ⟨k - 2, by omega⟩
  have sa : (mk (enc (p ++ q))).size ≤ 140737488351232 := Nat.le_trans ha.size (by decide)
  have sb : (mk (enc b)).size ≤ 140737488351232 := Nat.le_trans hb.size (by decide)
  have sc : (mk (enc c)).size ≤ 140737488351232 := Nat.le_trans hc.size (by decide)
  have hu : undL (p ++ q) b = true := by
    unfold undL; rw [decide_eq_true_eq, List.map_append, hq]; exact List.suffix_append _ _
  have la : (mk (enc (p ++ q))).size = (flat p).length + (flat b).length + 1 := by
    show (enc (p ++ q)).length = _
    rw [enc_length, flat_append, List.length_append, flat_low_eq hq]
  have lb : (mk (enc b)).size = (flat b).length + 1 := enc_length b
  have lc : (mk (enc c)).size = (flat c).length + 1 := enc_length c
  have l1 := ha.size
  have l2 := hb.size
  have l3 := hc.size
  have lpc : (enc (p ++ c)).length = (flat p).length + (flat c).length + 1 := by rw [enc_length, flat_append, List.length_append]
  unfold name_Moved.f
  rw [right_f sa, right_f sb, right_f sc, ha.right, hb.right, hc.right]
  simp only [Option.bind_some, if_true, Bool.not_true]
  rw [name_Moved.j0, if_neg (by simp), under_f sa sb, ha.under hb, hu]
  simp only [Option.bind_some, if_true]
  rw [name_Moved.j1]
  by_cases hp : p = []
  · subst hp
    have : (((mk (enc ([] ++ q))).size : Int) == ((mk (enc b)).size : Int)) = true := by rw [beq_iff_eq, la, lb]; simp
    rw [if_pos this, if_pos rfl]
  · have hpos := flat_pos hp
    have : (((mk (enc (p ++ q))).size : Int) == ((mk (enc b)).size : Int)) = false := by rw [beq_eq_false_iff_ne, la, lb]; omega
    rw [if_neg (by rw [this]; simp), if_neg hp, w64 (((mk (enc (p ++ q))).size : Int) - ((mk (enc b)).size : Int)) (by omega) (by omega), w64 _ (by omega) (by omega)]
    have hd : ((mk (enc (p ++ q))).size : Int) - ((mk (enc b)).size : Int) = ((flat p).length : Int) := by rw [la, lb]; omega
    rw [hd]
    by_cases hlong : (enc (p ++ c)).length ≤ 255
    · rw [if_pos hlong, if_neg (by omega), if_pos (by omega), if_pos (by omega), Int.toNat_natCast]
      have he : (mk (enc (p ++ q))).extract 0 (flat p).length = mk (flat p) := by
        rw [mk_extract, enc_append]; simp
      rw [he]
      have hsz : (mk (flat p)).size + (mk (enc c)).size ≤ 9223372036854775807 := by
        show (flat p).length + _ ≤ _
        omega
      rw [if_pos hsz, mk_append, ← enc_append]
    · rw [if_neg hlong, if_pos (by omega)]

theorem NameMoves : guidepostlaw01_NameMoves.Pure := by
  intro n f t hn hf ht
  refine ⟨400, ?_⟩
  unfold guidepostlaw01_NameMoves.f
  rw [examples_f 400 (by omega)]
  simp only [Option.bind_some, if_true]
  by_cases h1 : rightB n = true
  · by_cases h2 : rightB f = true
    · by_cases h3 : rightB t = true
      · by_cases hu : underW n f = true
        · obtain ⟨a, ha, rfl⟩ := right_isN h1
          obtain ⟨b, hb, rfl⟩ := right_isN h2
          obtain ⟨c, hc, rfl⟩ := right_isN h3
          rw [ha.under hb] at hu
          obtain ⟨p, q, rfl, hq⟩ := undL_split hu
          rw [moved_f 400 (by omega) p q b c ha hb hc hq]
          simp only [Option.bind_some]
          by_cases hp : p = []
          · rw [if_pos hp]; simp
          · rw [if_neg hp]
            by_cases hl : (enc (p ++ c)).length ≤ 255
            · rw [if_pos hl]
              have hm : IsN (p ++ c) := ha.app hc hl
              have hlb : (enc (p ++ b)).length ≤ 255 := by
                have h5 := ha.le
                rw [enc_length, flat_append, List.length_append] at h5 ⊢
                rw [flat_low_eq hq] at h5
                exact h5
              have hback : IsN (p ++ b) := ha.app hb hlb
              simp only [if_true]
              rw [moved_f 400 (by omega) p c c b hm hc hb rfl, if_neg hp, if_pos hlb]
              have sm : (mk (enc (p ++ c))).size ≤ 140737488351232 := Nat.le_trans hm.size (by decide)
              have sb : (mk (enc (p ++ b))).size ≤ 140737488351232 := Nat.le_trans hback.size (by decide)
              simp only [Option.bind_some, if_true]
              rw [under_f sm ht, hm.under hc, undL_suffix (List.suffix_append p c), equal_f _ _ sb hn, hback.eqn ha]
              simp [hq]
            · rw [if_neg hl]; simp
        · rw [moved_far 400 (by omega) n f t hn hf ht h1 h2 h3 (by simpa using hu)]
          simp
      · rw [moved_not 400 (by omega) n f t hn hf ht (.inr (.inr (by simpa using h3)))]
        simp
    · rw [moved_not 400 (by omega) n f t hn hf ht (.inr (.inl (by simpa using h2)))]
      simp
  · rw [moved_not 400 (by omega) n f t hn hf ht (.inl (by simpa using h1))]
    simp

end Go.Proofs.Ytlikkpeaepankaa.Pure
