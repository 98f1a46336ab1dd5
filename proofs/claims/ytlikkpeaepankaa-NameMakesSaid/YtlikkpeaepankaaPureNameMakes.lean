/- The plain law of NameMakes: no program in sight. -/
import Derived.Test.YtlikkpeaepankaaPNameMakesx3
import Derived.Test.YtlikkpeaepankaaNmZ
namespace Go.Proofs.Ytlikkpeaepankaa.Pure
open Go.RowKit Go.Proofs.Ytlikkpeaepankaa.PNameMakes Go.Proofs.YtlikkpeaepankaaW.PrintWords Go.Proofs.YtlikkpeaepankaaW.PrintLast Go.Proofs.YtlikkpeaepankaaW.PrintMore Go.Proofs.Ytlikkpeaepankaa.Nm
set_option linter.unusedSimpArgs false
set_option linter.unusedVariables false

theorem w64 (n : Int) (h0 : -9223372036854775808 ≤ n) (h1 : n < 9223372036854775808) : wrap64 n = n := by unfold wrap64; omega
theorem right_f {s : ByteArray} (h : s.size ≤ 140737488351232) : name_Right.f s = some (rightB s) := if_pos h
theorem lower_f {s : ByteArray} (h : s.size ≤ 140737488351232) : name_Lower.f s = some (lowerW s) := if_pos h
theorem labels_f {s : ByteArray} (h : s.size ≤ 140737488351232) : name_Labels.f s = some (labelsL s) := if_pos h
theorem under_f {s t : ByteArray} (h : s.size ≤ 140737488351232) (h2 : t.size ≤ 140737488351232) : name_Under.f s t = some (underW s t) := if_pos ⟨h, h2⟩

theorem cmp_l0 : ∀ (n : Nat) (X Y : List ByteArray) (k : Nat), X.length = n → 2 * n + 2 ≤ k → n < 4611686018427387904 → Y.length < 4611686018427387904 → name_Compare.l0 k X Y = some (cmpR X.reverse Y.reverse) := by
  intro n
  induction n with
  | zero =>
    intro X Y k hX hk _ hY
    obtain rfl := List.length_eq_zero_iff.1 hX
    obtain ⟨k, rfl⟩ : ∃ j, k = j + 2 := ⟨k - 2, by omega⟩
    rw [name_Compare.l0, if_neg (by simp), name_Compare.j2, if_neg (by simp)]
    rcases List.eq_nil_or_concat Y with rfl | ⟨Y', y, rfl⟩
    · rfl
    · have : ((Y'.concat y).length : Int) ≥ 1 := by simp; omega
      rw [List.concat_eq_append, List.reverse_append]
      simp [cmpR, mn]
      omega
  | succ n ih =>
    intro X Y k hX hk hn hY
    rcases List.eq_nil_or_concat X with rfl | ⟨X', x, rfl⟩
    · cases hX
    rw [List.concat_eq_append] at hX ⊢
    have hX' : X'.length = n := by simpa using hX
    obtain ⟨k, rfl⟩ : ∃ j, k = j + 2 := ⟨k - 2, by omega⟩
    rw [name_Compare.l0, if_pos (by simp), name_Compare.j2]
    rcases List.eq_nil_or_concat Y with rfl | ⟨Y', y, rfl⟩
    · rw [if_neg (by simp), List.reverse_append]
      simp [cmpR, mn]
      omega
    rw [List.concat_eq_append] at hY ⊢
    have e1 : ((X' ++ [x]).length : Int) = X'.length + 1 := by simp
    have e2 : ((Y' ++ [y]).length : Int) = Y'.length + 1 := by simp
    have hY' : Y'.length < 4611686018427387904 := by simp at hY; omega
    rw [if_pos (by rw [decide_eq_true_eq, e2]; omega), e1, e2, w64 _ (by omega) (by omega), w64 _ (by omega) (by omega),
      show (X'.length : Int) + 1 - 1 = X'.length by omega, show (Y'.length : Int) + 1 - 1 = Y'.length by omega,
      if_pos (by omega), if_pos (by omega), if_pos (by omega), if_pos (by omega)]
    have g1 : rdOf ByteArray.empty (X' ++ [x]) (X'.length : Int) = x := by simp [rdOf]
    have g2 : rdOf ByteArray.empty (Y' ++ [y]) (Y'.length : Int) = y := by simp [rdOf]
    rw [g1, g2, Int.toNat_natCast, Int.toNat_natCast, List.take_left, List.take_left, List.reverse_append, List.reverse_append]
    show (if cB x.data.toList y.data.toList = 0 then _ else _) = _
    simp only [List.reverse_cons, List.reverse_nil, List.nil_append, List.cons_append, cmpR]
    by_cases hc : cB x.data.toList y.data.toList = 0
    · rw [if_pos hc, if_pos hc, if_pos (by omega), if_pos (by omega)]
      exact ih X' Y' k hX' (by omega) (by omega) hY'
    · rw [if_neg hc, if_neg hc]

theorem labelsL_len (s : ByteArray) : (labelsL s).length ≤ 128 := by
  unfold labelsL
  split
  · rename_i h
    have h1 := labs_length s _ 0 rfl
    have h2 : s.size ≤ 255 := by unfold rightB at h; simp at h; omega
    rw [List.length_map]; omega
  · simp

theorem cmp_f (k : Nat) (hk : 300 ≤ k) (s t : ByteArray) (hs : s.size ≤ 140737488351232) (ht : t.size ≤ 140737488351232) : name_Compare.f k s t = some (cmpN s t) := by
  unfold name_Compare.f cmpN
  rw [right_f hs, right_f ht]
  obtain ⟨k, rfl⟩ : ∃ j, k = j + 1 := ⟨k - 1, by omega⟩
  have hls : (lowerW s).size ≤ 140737488351232 := by rw [lowerW_size]; exact hs
  have hlt : (lowerW t).size ≤ 140737488351232 := by rw [lowerW_size]; exact ht
  have n1 := labelsL_len (lowerW s)
  have n2 := labelsL_len (lowerW t)
  have hl := cmp_l0 _ (labelsL (lowerW s)) (labelsL (lowerW t)) k rfl (by omega) (by omega) (by omega)
  cases h1 : rightB s <;> cases h2 : rightB t <;> simp [name_Compare.j0, strings_Compare.f, lower_f hs, lower_f ht, labels_f hls, labels_f hlt, hl, cB]

theorem examples_f (k : Nat) (hk : 40 ≤ k) : guidepostlaw01_examples.f k = some true := by
  obtain ⟨j, rfl⟩ : ∃ j, k = 40 + j := ⟨k - 40, by omega⟩
  have h : guidepostlaw01_examples.f 40 = some true := by decide +kernel
  clear hk
  induction j with
  | zero => exact h
  | succ j ih => exact guidepostlaw01_examples.mono _ _ ih

theorem child_bad (k : Nat) (hk : 1 ≤ k) (x n : ByteArray) (hx : x.size ≤ 140737488351232) (hn : n.size ≤ 140737488351232) (h : rightB n = false ∨ ¬ okL x.data.toList) : name_Child.f k x n = some (⟨#[]⟩, 2) := by
  obtain ⟨k, rfl⟩ : ∃ j, k = j + 1 := ⟨k - 1, by omega⟩
  unfold name_Child.f
  rw [right_f hn]
  simp only [Option.bind_some]
  by_cases h1 : rightB n = true
  · rw [if_pos h1]
    have h2 : ¬ (1 ≤ x.size ∧ x.size ≤ 63) := by
      rcases h with h | h
      · rw [h1] at h; cases h
      · exact h
    by_cases h3 : (x.size : Int) < 1
    · rw [if_pos h3, name_Child.j0, if_pos rfl]
    · have h4 : (x.size : Int) > 63 := by omega
      rw [if_neg h3, decide_eq_true h4, name_Child.j0, if_pos rfl]
  · rw [if_neg h1, name_Child.j0, if_pos rfl]

theorem child_f (k : Nat) (hk : 1 ≤ k) (l : List UInt8) (a : List (List UInt8)) (ha : IsN a) (hl : okL l) : name_Child.f k (mk l) (mk (enc a)) = some (if (enc (l :: a)).length ≤ 255 then (mk (enc (l :: a)), 0) else (⟨#[]⟩, 3)) := by
  obtain ⟨k, rfl⟩ : ∃ j, k = j + 1 := ⟨k - 1, by omega⟩
  have sa : (mk (enc a)).size ≤ 140737488351232 := Nat.le_trans ha.size (by decide)
  have l1 := ha.size
  have hs : (mk l).size = l.length := rfl
  have hsa : (mk (enc a)).size = (enc a).length := rfl
  have hlen : (enc (l :: a)).length = l.length + 1 + (enc a).length := by simp [enc]; omega
  obtain ⟨h1, h2⟩ := hl
  unfold name_Child.f
  rw [right_f sa, ha.right]
  simp only [Option.bind_some, if_true]
  rw [if_neg (by rw [hs]; omega), decide_eq_false (by rw [hs]; omega), name_Child.j0, if_neg (by simp), w64 (((mk (enc a)).size : Int) + 1) (by omega) (by omega), w64 _ (by rw [hs]; omega) (by rw [hs]; omega)]
  by_cases hlong : (enc (l :: a)).length ≤ 255
  · rw [if_pos hlong, if_neg (by rw [hs, hsa]; omega)]
    have e1 : strOfNums [((mk l).size : Int) % 256] = mk [UInt8.ofNat l.length] := by
      rw [hs, show ((l.length : Int) % 256) = (l.length : Int) by omega]; rfl
    simp only [Option.bind_some]
    rw [e1, mk_append, mk_append]
    have e2 : [UInt8.ofNat l.length] ++ l ++ enc a = enc (l :: a) := by simp [enc]
    rw [if_pos (by show 1 + l.length ≤ _; omega), if_pos (by rw [mk_size, mk_size]; simp; omega), e2]
  · rw [if_neg hlong, if_pos (by rw [hs, hsa]; omega)]

theorem moved_not (k : Nat) (hk : 2 ≤ k) (n f t : ByteArray) (hn : n.size ≤ 140737488351232) (hf : f.size ≤ 140737488351232) (ht : t.size ≤ 140737488351232) (h : rightB n = false ∨ rightB f = false ∨ rightB t = false) : name_Moved.f k n f t = some (⟨#[]⟩, 2) := by
  obtain ⟨k, rfl⟩ : ∃ j, k = j + 1 := ⟨k - 1, by omega⟩
  unfold name_Moved.f
  rw [right_f hn, right_f hf, right_f ht]
  cases h1 : rightB n
  · simp [name_Moved.j0]
  cases h2 : rightB f
  · simp [name_Moved.j0]
  cases h3 : rightB t
  · simp [name_Moved.j0]
  rw [h1, h2, h3] at h
  simp at h

theorem moved_far (k : Nat) (hk : 2 ≤ k) (n f t : ByteArray) (hn : n.size ≤ 140737488351232) (hf : f.size ≤ 140737488351232) (ht : t.size ≤ 140737488351232) (h1 : rightB n = true) (h2 : rightB f = true) (h3 : rightB t = true) (h : underW n f = false) : name_Moved.f k n f t = some (⟨#[]⟩, 1) := by
  obtain ⟨k, rfl⟩ : ∃ j, k = j + 2 := ⟨k - 2, by omega⟩
  unfold name_Moved.f
  rw [right_f hn, right_f hf, right_f ht]
  simp [h1, h2, h3, name_Moved.j0, under_f hn hf, h, name_Moved.j1]

theorem moved_f (k : Nat) (hk : 2 ≤ k) (p q b c : List (List UInt8)) (ha : IsN (p ++ q)) (hb : IsN b) (hc : IsN c) (hq : q.map lowL = b.map lowL) :
    name_Moved.f k (mk (enc (p ++ q))) (mk (enc b)) (mk (enc c)) = some (if p = [] then (⟨#[]⟩, 1) else if (enc (p ++ c)).length ≤ 255 then (mk (enc (p ++ c)), 0) else (⟨#[]⟩, 3)) := by
  obtain ⟨k, rfl⟩ : ∃ j, k = j + 2 := ⟨k - 2, by omega⟩
  have sa : (mk (enc (p ++ q))).size ≤ 140737488351232 := Nat.le_trans ha.size (by decide)
  have sb : (mk (enc b)).size ≤ 140737488351232 := Nat.le_trans hb.size (by decide)
  have sc : (mk (enc c)).size ≤ 140737488351232 := Nat.le_trans hc.size (by decide)
  have hu : undL (p ++ q) b = true := by
    unfold undL; rw [decide_eq_true_eq, List.map_append, hq]; exact List.suffix_append _ _
  have la : (mk (enc (p ++ q))).size = (flat p).length + (flat b).length + 1 := by
    show (enc (p ++ q)).length = _
    rw [enc_length, flat_append, List.length_append, flat_low_eq hq]
  have lb : (mk (enc b)).size = (flat b).length + 1 := enc_length b
  have lc : (mk (enc c)).size = (flat c).length + 1 := enc_length c
  have l1 := ha.size
  have l2 := hb.size
  have l3 := hc.size
  have lpc : (enc (p ++ c)).length = (flat p).length + (flat c).length + 1 := by rw [enc_length, flat_append, List.length_append]
  unfold name_Moved.f
  rw [right_f sa, right_f sb, right_f sc, ha.right, hb.right, hc.right]
  simp only [Option.bind_some, if_true, Bool.not_true]
  rw [name_Moved.j0, if_neg (by simp), under_f sa sb, ha.under hb, hu]
  simp only [Option.bind_some, if_true]
  rw [name_Moved.j1]
  by_cases hp : p = []
  · subst hp
    have : (((mk (enc ([] ++ q))).size : Int) == ((mk (enc b)).size : Int)) = true := by rw [beq_iff_eq, la, lb]; simp
    rw [if_pos this, if_pos rfl]
  · have hpos := flat_pos hp
    have : (((mk (enc (p ++ q))).size : Int) == ((mk (enc b)).size : Int)) = false := by rw [beq_eq_false_iff_ne, la, lb]; omega
    rw [if_neg (by rw [this]; simp), if_neg hp, w64 (((mk (enc (p ++ q))).size : Int) - ((mk (enc b)).size : Int)) (by omega) (by omega), w64 _ (by omega) (by omega)]
    have hd : ((mk (enc (p ++ q))).size : Int) - ((mk (enc b)).size : Int) = ((flat p).length : Int) := by rw [la, lb]; omega
    rw [hd]
    by_cases hlong : (enc (p ++ c)).length ≤ 255
    · rw [if_pos hlong, if_neg (by omega), if_pos (by omega), if_pos (by omega), Int.toNat_natCast]
      have he : (mk (enc (p ++ q))).extract 0 (flat p).length = mk (flat p) := by
        rw [mk_extract, enc_append]; simp
      rw [he]
      have hsz : (mk (flat p)).size + (mk (enc c)).size ≤ 9223372036854775807 := by
        show (flat p).length + _ ≤ _
        omega
      rw [if_pos hsz, mk_append, ← enc_append]
    · rw [if_neg hlong, if_pos (by omega)]

theorem reflabels_f {s : ByteArray} (h : s.size ≤ 140737488351232) : guidepostref01_Labels.f s = some (labelsL s, rightB s) := if_pos h

theorem rd_at {l : List ByteArray} (i : Nat) (h : i < l.length) : rdOf ByteArray.empty l (i : Int) = l[i] := by
  simp [rdOf, h]

theorem refof_f (l : List ByteArray) (hlen : l.length ≤ 8796093021952) : guidepostref01_Of.f l = some (ofW l) := if_pos (by omega)

theorem reflower_f {s : ByteArray} (h : s.size ≤ 140737488351232) : guidepostref01_Lower.f s = some (lowerW s) := if_pos h

theorem und_l0 : ∀ (d : Nat) (X Y : List ByteArray) (i k : Nat), Y.length - i = d → i ≤ Y.length → Y.length ≤ X.length → X.length ≤ 1000000 → d + 1 ≤ k →
    guidepostref01_Under.l0 k X Y (i : Int) = some (decide (X.drop (X.length - Y.length + i) = Y.drop i)) := by
  intro d
  induction d with
  | zero =>
    intro X Y i k hd hi hle hX hk
    obtain rfl : i = Y.length := by omega
    obtain ⟨k, rfl⟩ : ∃ j, k = j + 1 := ⟨k - 1, by omega⟩
    rw [guidepostref01_Under.l0, if_neg (by omega), List.drop_eq_nil_of_le (by omega), List.drop_eq_nil_of_le (Nat.le_refl _)]; simp
  | succ d ih =>
    intro X Y i k hd hi hle hX hk
    obtain ⟨k, rfl⟩ : ∃ j, k = j + 1 := ⟨k - 1, by omega⟩
    have hlt : i < Y.length := by omega
    have hltX : X.length - Y.length + i < X.length := by omega
    have ew : wrap64 (wrap64 ((X.length : Int) - (Y.length : Int)) + (i : Int)) = ((X.length - Y.length + i : Nat) : Int) := by
      rw [w64 ((X.length : Int) - (Y.length : Int)) (by omega) (by omega), w64 _ (by omega) (by omega)]; omega
    rw [guidepostref01_Under.l0, if_pos (by omega), ew, if_pos (by omega), if_pos (by omega), if_pos (by omega), rd_at _ hltX, rd_at i hlt, w64 ((i : Int) + 1) (by omega) (by omega)]
    rw [List.drop_eq_getElem_cons hltX, List.drop_eq_getElem_cons hlt]
    by_cases he : X[X.length - Y.length + i].toList = Y[i].toList
    · rw [if_pos he, show ((i : Int) + 1) = ((i + 1 : Nat) : Int) by omega, ih X Y (i + 1) k (by omega) (by omega) hle hX (by omega), toList_inj he]
      simp only [List.cons.injEq, true_and, Nat.add_assoc]
    · rw [if_neg he]
      have : ¬ X[X.length - Y.length + i] = Y[i] := fun e => he (by rw [e])
      simp only [List.cons.injEq, this, false_and, decide_false]

theorem map_mk_inj {a b : List (List UInt8)} (h : a.map mk = b.map mk) : a = b := by
  have := congrArg (fun l => l.map (fun (s : ByteArray) => s.data.toList)) h
  simpa [Function.comp_def] using this

theorem refunder_f (k : Nat) (hk : 400 ≤ k) {s t : ByteArray} (hs : s.size ≤ 140737488351232) (ht : t.size ≤ 140737488351232) : guidepostref01_Under.f k s t = some (underW s t) := by
  obtain ⟨k, rfl⟩ : ∃ j, k = j + 1 := ⟨k - 1, by omega⟩
  have hls : (lowerW s).size ≤ 140737488351232 := by rw [lowerW_size]; exact hs
  have hlt : (lowerW t).size ≤ 140737488351232 := by rw [lowerW_size]; exact ht
  unfold guidepostref01_Under.f
  rw [reflower_f hs, reflower_f ht]
  simp only [Option.bind_some]
  rw [reflabels_f hls, reflabels_f hlt]
  simp only [Option.bind_some]
  by_cases h1 : rightB s = true
  · obtain ⟨a, ha, rfl⟩ := right_isN h1
    rw [ha.lower, ha.low.labels, ha.low.right, if_pos rfl]
    by_cases h2 : rightB t = true
    · obtain ⟨b, hb, rfl⟩ := right_isN h2
      rw [hb.lower, hb.low.labels, hb.low.right, if_pos rfl, ha.under hb]
      have n1 := labelsL_len (mk (enc (a.map lowL)))
      rw [ha.low.labels, List.length_map] at n1
      have n2 := labelsL_len (mk (enc (b.map lowL)))
      rw [hb.low.labels, List.length_map] at n2
      rw [guidepostref01_Under.j0]
      unfold undL
      by_cases hlen : (a.map lowL).length < (b.map lowL).length
      · rw [if_pos (by rw [decide_eq_true_eq, List.length_map, List.length_map (f := mk)]; omega), decide_eq_false]
        intro h; have := h.length_le; omega
      · rw [if_neg (by rw [decide_eq_true_eq, List.length_map, List.length_map (f := mk)]; omega)]
        have h := und_l0 ((b.map lowL).map mk).length ((a.map lowL).map mk) ((b.map lowL).map mk) 0 k rfl (Nat.zero_le _) (by rw [List.length_map, List.length_map (f := mk)]; omega) (by rw [List.length_map]; omega) (by rw [List.length_map]; omega)
        rw [show (0 : Int) = ((0 : Nat) : Int) from rfl, h]
        congr 1
        rw [decide_eq_decide, List.drop_zero, Nat.add_zero, List.suffix_iff_eq_drop, ← List.map_drop, List.length_map (f := mk), List.length_map (f := mk)]
        constructor
        · intro e; exact (map_mk_inj e).symm
        · intro e; rw [← e]
    · have h2' : rightB t = false := by simpa using h2
      have hlw : lowerW t = t := by unfold lowerW; rw [if_neg h2]
      rw [hlw, h2', under_not (.inr h2'), guidepostref01_Under.j0]; simp [guidepostref01_Under.j0]
  · have h1' : rightB s = false := by simpa using h1
    have hlw : lowerW s = s := by unfold lowerW; rw [if_neg h1]
    rw [hlw, h1', under_not (.inl h1'), guidepostref01_Under.j0]; simp [guidepostref01_Under.j0]

theorem names_short {a : List (List UInt8)} (ha : IsN a) : a.length ≤ 300 := by
  have n1 := labelsL_len (mk (enc a))
  rw [ha.labels, List.length_map] at n1
  omega
theorem refmoved_not (k : Nat) (hk : 1 ≤ k) (n f t : ByteArray) (hn : n.size ≤ 140737488351232) (hf : f.size ≤ 140737488351232) (ht : t.size ≤ 140737488351232) (h : rightB n = false ∨ rightB f = false ∨ rightB t = false) : guidepostref01_Moved.f k n f t = some (⟨#[]⟩, 2) := by
  obtain ⟨k, rfl⟩ : ∃ j, k = j + 1 := ⟨k - 1, by omega⟩
  unfold guidepostref01_Moved.f
  rw [reflabels_f hn, reflabels_f hf, reflabels_f ht]
  cases h1 : rightB n
  · simp [guidepostref01_Moved.j0]
  cases h2 : rightB f
  · simp [guidepostref01_Moved.j0]
  cases h3 : rightB t
  · simp [guidepostref01_Moved.j0]
  rw [h1, h2, h3] at h
  simp at h
theorem refmoved_far (k : Nat) (hk : 401 ≤ k) (n f t : ByteArray) (hn : n.size ≤ 140737488351232) (hf : f.size ≤ 140737488351232) (ht : t.size ≤ 140737488351232) (h1 : rightB n = true) (h2 : rightB f = true) (h3 : rightB t = true) (h : underW n f = false) : guidepostref01_Moved.f k n f t = some (⟨#[]⟩, 1) := by
  obtain ⟨k, rfl⟩ : ∃ j, k = j + 1 := ⟨k - 1, by omega⟩
  unfold guidepostref01_Moved.f
  rw [reflabels_f hn, reflabels_f hf, reflabels_f ht, h1, h2, h3]
  simp only [Option.bind_some, if_true, Bool.not_true]
  rw [guidepostref01_Moved.j0, if_neg (by simp), refunder_f k (by omega) hn hf, h]
  simp
theorem refmoved_f (k : Nat) (hk : 401 ≤ k) (p q b c : List (List UInt8)) (ha : IsN (p ++ q)) (hb : IsN b) (hc : IsN c) (hq : q.map lowL = b.map lowL) :
    guidepostref01_Moved.f k (mk (enc (p ++ q))) (mk (enc b)) (mk (enc c)) = some (if p = [] then (⟨#[]⟩, 1) else if (enc (p ++ c)).length ≤ 255 then (mk (enc (p ++ c)), 0) else (⟨#[]⟩, 3)) := by
  obtain ⟨k, rfl⟩ : ∃ j, k = j + 1 := ⟨k - 1, by omega⟩
  have sa : (mk (enc (p ++ q))).size ≤ 140737488351232 := Nat.le_trans ha.size (by decide)
  have sb : (mk (enc b)).size ≤ 140737488351232 := Nat.le_trans hb.size (by decide)
  have sc : (mk (enc c)).size ≤ 140737488351232 := Nat.le_trans hc.size (by decide)
  have hu : undL (p ++ q) b = true := by
    unfold undL; rw [decide_eq_true_eq, List.map_append, hq]; exact List.suffix_append _ _
  have n1 := names_short ha
  have n2 := names_short hb
  have n3 := names_short hc
  have hlq : q.length = b.length := by have := congrArg List.length hq; simpa using this
  rw [List.length_append] at n1
  have hok : ∀ x ∈ p ++ c, okL x := fun x hx => by
    rcases List.mem_append.1 hx with h | h
    · exact ha.ok x (List.mem_append_left _ h)
    · exact hc.ok x h
  unfold guidepostref01_Moved.f
  rw [reflabels_f sa, reflabels_f sb, reflabels_f sc, ha.right, hb.right, hc.right, ha.labels, hb.labels, hc.labels]
  simp only [Option.bind_some, if_true, Bool.not_true]
  rw [guidepostref01_Moved.j0, if_neg (by simp), refunder_f k (by omega) sa sb, ha.under hb, hu]
  simp only [Option.bind_some, if_true]
  by_cases hp : p = []
  · subst hp
    rw [if_pos (by simp [hlq]), if_pos rfl]
  · have hpl : p.length ≠ 0 := fun e => hp (List.length_eq_zero_iff.1 e)
    have e1 : wrap64 ((((p ++ q).map mk).length : Int) - ((b.map mk).length : Int)) = (p.length : Int) := by
      rw [List.length_map, List.length_map, List.length_append, w64 _ (by omega) (by omega)]; omega
    rw [if_neg (by rw [List.length_map, List.length_map, List.length_append]; omega), if_neg hp, e1, if_pos (by omega), if_pos (by rw [List.length_map, List.length_append]; omega), Int.toNat_natCast, ← List.map_take, List.take_left]
    rw [if_pos (by rw [List.length_map, List.length_nil]; omega), List.nil_append, if_pos (by rw [List.length_map, List.length_map]; omega), ← List.map_append, refof_f _ (by rw [List.length_map, List.length_append]; omega), ofW_mk _ hok]
    rfl
theorem refchild_f (x n : ByteArray) (hn : n.size ≤ 140737488351232) : guidepostref01_Child.f x n = some (if rightB n = true then ofW (x :: labelsL n) else (⟨#[]⟩, 2)) := by
  unfold guidepostref01_Child.f
  rw [reflabels_f hn]
  simp only [Option.bind_some]
  have hl := labelsL_len n
  by_cases h : rightB n = true
  · rw [if_pos h, if_pos h, if_pos (by simp; omega), refof_f _ (by simp; omega)]
    rfl
  · rw [if_neg h, if_neg h]

theorem refcased_f {s : ByteArray} {b : Int} (h : s.size ≤ 140737488351232) (h0 : 0 ≤ b) (h1 : b < 2 ^ 64) : guidepostref01_Cased.f s b = some (casedW s b.toNat) := if_pos ⟨h, h0, h1⟩
theorem NameMakes : guidepostlaw01_NameMakes.Pure := by
  intro n f t x bits hn hf ht hx hb
  have hb0 : 0 ≤ bits ∧ bits < 2 ^ 64 := by
    simp [Lit.wf, IntKind.min, IntKind.max, IntKind.bits, IntKind.signed] at hb
    omega
  refine ⟨900, ?_⟩
  have hm : ∃ r, name_Moved.f 900 n f t = some r ∧ guidepostref01_Moved.f 900 n f t = some r := by
    by_cases hr : rightB n = true ∧ rightB f = true ∧ rightB t = true
    · obtain ⟨h1, h2, h3⟩ := hr
      by_cases hu : underW n f = true
      · obtain ⟨a, ha, rfl⟩ := right_isN h1
        obtain ⟨b, hb, rfl⟩ := right_isN h2
        obtain ⟨c, hc, rfl⟩ := right_isN h3
        rw [ha.under hb] at hu
        obtain ⟨p, q, rfl, hq⟩ := undL_split hu
        exact ⟨_, moved_f 900 (by omega) p q b c ha hb hc hq, refmoved_f 900 (by omega) p q b c ha hb hc hq⟩
      · have hu' : underW n f = false := by simpa using hu
        exact ⟨_, moved_far 900 (by omega) n f t hn hf ht h1 h2 h3 hu', refmoved_far 900 (by omega) n f t hn hf ht h1 h2 h3 hu'⟩
    · have hr' : rightB n = false ∨ rightB f = false ∨ rightB t = false := by
        cases h1 : rightB n <;> cases h2 : rightB f <;> cases h3 : rightB t <;> simp_all
      exact ⟨_, moved_not 900 (by omega) n f t hn hf ht hr', refmoved_not 900 (by omega) n f t hn hf ht hr'⟩
  have hc : ∃ r, name_Child.f 900 x n = some r ∧ guidepostref01_Child.f x n = some r := by
    rw [refchild_f x n hn]
    by_cases h1 : rightB n = true
    · rw [if_pos h1]
      obtain ⟨a, ha, rfl⟩ := right_isN h1
      rw [ha.labels]
      by_cases hxk : okL x.data.toList
      · refine ⟨_, ?_, rfl⟩
        have e := child_f 900 (by omega) x.data.toList a ha hxk
        rw [mk_toList] at e
        rw [e, show x :: a.map mk = (x.data.toList :: a).map mk by rw [List.map_cons, mk_toList], ofW_mk _ (by intro y hy; rcases List.mem_cons.1 hy with rfl | hy; exact hxk; exact ha.ok y hy)]
      · refine ⟨_, child_bad 900 (by omega) x _ hx hn (.inr hxk), ?_⟩
        rw [ofW_bad _ (fun h => hxk (h x (by simp)))]
    · have h1' : rightB n = false := by simpa using h1
      rw [if_neg h1]
      exact ⟨_, child_bad 900 (by omega) x n hx hn (.inl h1'), rfl⟩
  obtain ⟨r1, m1, m2⟩ := hm
  obtain ⟨r2, c1, c2⟩ := hc
  unfold guidepostlaw01_NameMakes.f
  rw [examples_f 900 (by omega), m1, m2, c1, c2, refcased_f hn hb0.1 hb0.2]
  have hca : name_Cased.f n bits = some (casedW n bits.toNat) := if_pos ⟨hn, hb0.1, hb0.2⟩
  rw [hca]
  simp

end Go.Proofs.Ytlikkpeaepankaa.Pure
