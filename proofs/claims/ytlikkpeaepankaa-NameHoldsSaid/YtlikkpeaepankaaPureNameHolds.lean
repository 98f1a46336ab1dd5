/- The plain law of NameHolds: no program in sight. -/
import Derived.Test.YtlikkpeaepankaaPNameHoldsx4
import Derived.Test.YtlikkpeaepankaaNmZ
namespace Go.Proofs.Ytlikkpeaepankaa.Pure
open Go.RowKit Go.Proofs.Ytlikkpeaepankaa.PNameHolds Go.Proofs.YtlikkpeaepankaaW.PrintWords Go.Proofs.YtlikkpeaepankaaW.PrintLast Go.Proofs.YtlikkpeaepankaaW.PrintMore Go.Proofs.Ytlikkpeaepankaa.Nm
set_option linter.unusedSimpArgs false
set_option linter.unusedVariables false

theorem w64 (n : Int) (h0 : -9223372036854775808 ≤ n) (h1 : n < 9223372036854775808) : wrap64 n = n := by unfold wrap64; omega
theorem right_f {s : ByteArray} (h : s.size ≤ 140737488351232) : name_Right.f s = some (rightB s) := if_pos h
theorem lower_f {s : ByteArray} (h : s.size ≤ 140737488351232) : name_Lower.f s = some (lowerW s) := if_pos h
theorem labels_f {s : ByteArray} (h : s.size ≤ 140737488351232) : name_Labels.f s = some (labelsL s) := if_pos h
theorem under_f {s t : ByteArray} (h : s.size ≤ 140737488351232) (h2 : t.size ≤ 140737488351232) : name_Under.f s t = some (underW s t) := if_pos ⟨h, h2⟩

theorem cmp_l0 : ∀ (n : Nat) (X Y : List ByteArray) (k : Nat), X.length = n → 2 * n + 2 ≤ k → n < 4611686018427387904 → Y.length < 4611686018427387904 → name_Compare.l0 k X Y = some (cmpR X.reverse Y.reverse) := by
  intro n
  induction n with
  | zero =>
    intro X Y k hX hk _ hY
    obtain rfl := List.length_eq_zero_iff.1 hX
    obtain ⟨k, rfl⟩ : ∃ j, k = j + 2 := ⟨k - 2, by omega⟩
    rw [name_Compare.l0, if_neg (by simp), name_Compare.j2, if_neg (by simp)]
    rcases List.eq_nil_or_concat Y with rfl | ⟨Y', y, rfl⟩
    · rfl
    · have : ((Y'.concat y).length : Int) ≥ 1 := by simp; omega
      rw [List.concat_eq_append, List.reverse_append]
      simp [cmpR, mn]
      omega
  | succ n ih =>
    intro X Y k hX hk hn hY
    rcases List.eq_nil_or_concat X with rfl | ⟨X', x, rfl⟩
    · cases hX
    rw [List.concat_eq_append] at hX ⊢
    have hX' : X'.length = n := by simpa using hX
    obtain ⟨k, rfl⟩ : ∃ j, k = j + 2 := ⟨k - 2, by omega⟩
    rw [name_Compare.l0, if_pos (by simp), name_Compare.j2]
    rcases List.eq_nil_or_concat Y with rfl | ⟨Y', y, rfl⟩
    · rw [if_neg (by simp), List.reverse_append]
      simp [cmpR, mn]
      omega
    rw [List.concat_eq_append] at hY ⊢
    have e1 : ((X' ++ [x]).length : Int) = X'.length + 1 := by simp
    have e2 : ((Y' ++ [y]).length : Int) = Y'.length + 1 := by simp
    have hY' : Y'.length < 4611686018427387904 := by simp at hY; omega
    rw [if_pos (by rw [decide_eq_true_eq, e2]; omega), e1, e2, w64 _ (by omega) (by omega), w64 _ (by omega) (by omega),
      show (X'.length : Int) + 1 - 1 = X'.length by omega, show (Y'.length : Int) + 1 - 1 = Y'.length by omega,
      if_pos (by omega), if_pos (by omega), if_pos (by omega), if_pos (by omega)]
    have g1 : rdOf ByteArray.empty (X' ++ [x]) (X'.length : Int) = x := by simp [rdOf]
    have g2 : rdOf ByteArray.empty (Y' ++ [y]) (Y'.length : Int) = y := by simp [rdOf]
    rw [g1, g2, Int.toNat_natCast, Int.toNat_natCast, List.take_left, List.take_left, List.reverse_append, List.reverse_append]
    show (if cB x.data.toList y.data.toList = 0 then _ else _) = _
    simp only [List.reverse_cons, List.reverse_nil, List.nil_append, List.cons_append, cmpR]
    by_cases hc : cB x.data.toList y.data.toList = 0
    · rw [if_pos hc, if_pos hc, if_pos (by omega), if_pos (by omega)]
      exact ih X' Y' k hX' (by omega) (by omega) hY'
    · rw [if_neg hc, if_neg hc]

theorem labelsL_len (s : ByteArray) : (labelsL s).length ≤ 128 := by
  unfold labelsL
  split
  · rename_i h
    have h1 := labs_length s _ 0 rfl
    have h2 : s.size ≤ 255 := by unfold rightB at h; simp at h; omega
    rw [List.length_map]; omega
  · simp

theorem cmp_f (k : Nat) (hk : 300 ≤ k) (s t : ByteArray) (hs : s.size ≤ 140737488351232) (ht : t.size ≤ 140737488351232) : name_Compare.f k s t = some (cmpN s t) := by
  unfold name_Compare.f cmpN
  rw [right_f hs, right_f ht]
  obtain ⟨k, rfl⟩ : ∃ j, k = j + 1 := ⟨k - 1, by omega⟩
  have hls : (lowerW s).size ≤ 140737488351232 := by rw [lowerW_size]; exact hs
  have hlt : (lowerW t).size ≤ 140737488351232 := by rw [lowerW_size]; exact ht
  have n1 := labelsL_len (lowerW s)
  have n2 := labelsL_len (lowerW t)
  have hl := cmp_l0 _ (labelsL (lowerW s)) (labelsL (lowerW t)) k rfl (by omega) (by omega) (by omega)
  cases h1 : rightB s <;> cases h2 : rightB t <;> simp [name_Compare.j0, strings_Compare.f, lower_f hs, lower_f ht, labels_f hls, labels_f hlt, hl, cB]

theorem equal_f (s t : ByteArray) (hs : s.size ≤ 140737488351232) (ht : t.size ≤ 140737488351232) : name_Equal.f s t = some (eqN s t) := by
  unfold name_Equal.f eqN
  rw [right_f hs, right_f ht, lower_f hs, lower_f ht]
  cases h1 : rightB s <;> cases h2 : rightB t <;> simp

theorem common_f {s t : ByteArray} (h : s.size ≤ 140737488351232) (h2 : t.size ≤ 140737488351232) : name_Common.f s t = some (commonW s t) := if_pos ⟨h, h2⟩

theorem examples_f (k : Nat) (hk : 40 ≤ k) : guidepostlaw01_examples.f k = some true := by
  obtain ⟨j, rfl⟩ : ∃ j, k = 40 + j := ⟨k - 40, by omega⟩
  have h : guidepostlaw01_examples.f 40 = some true := by decide +kernel
  clear hk
  induction j with
  | zero => exact h
  | succ j ih => exact guidepostlaw01_examples.mono _ _ ih

theorem bt_head (l : List UInt8) (a : List (List UInt8)) (hl : okL l) : bt (mk (enc (l :: a))) 0 = (l.length : Int) := by
  unfold bt
  have h : (0 : Int).toNat < (mk (enc (l :: a))).size := by show 0 < (enc (l :: a)).length; simp [enc]
  rw [dif_pos h]
  have h1 : (mk (enc (l :: a)))[(0 : Int).toNat]'h = UInt8.ofNat l.length := by
    show (enc (l :: a))[0]'h = _
    simp [enc]
  rw [h1]
  obtain ⟨h2, h3⟩ := hl
  simp; omega
theorem parent_f (l : List UInt8) (a : List (List UInt8)) (ha : IsN (l :: a)) : name_Parent.f (mk (enc (l :: a))) = some (mk (enc a), 0) := by
  have hl := ha.ok l (by simp)
  have sa : (mk (enc (l :: a))).size ≤ 140737488351232 := Nat.le_trans ha.size (by decide)
  have hlen : (enc (l :: a)).length = l.length + 1 + (enc a).length := by simp [enc]; omega
  have hsa : (mk (enc (l :: a))).size = (enc (l :: a)).length := rfl
  have hb := bt_head l a hl
  obtain ⟨h1, h2⟩ := hl
  unfold name_Parent.f
  rw [right_f sa, ha.right]
  simp only [Option.bind_some, if_true]
  rw [if_neg (by rw [mk_list]; intro e; have := congrArg List.length e; rw [hlen] at this; simp at this; omega), if_pos (by rw [hsa]; omega), hb, show ((1 + (l.length : Int)) % 256) = ((1 + l.length : Nat) : Int) by omega, if_pos (by omega), if_pos (by rw [hsa]; omega), Int.toNat_natCast]
  have : (mk (enc (l :: a))).extract (1 + l.length) (mk (enc (l :: a))).size = mk (enc a) := by
    rw [mk_extract]
    have e : enc (l :: a) = (UInt8.ofNat l.length :: l) ++ enc a := by simp [enc]
    have e2 : (UInt8.ofNat l.length :: l).length = 1 + l.length := by simp; omega
    rw [e, ← e2, List.drop_left, mk_size, List.length_append, Nat.add_sub_cancel_left, List.take_length]
  rw [this]
theorem parent_root : name_Parent.f (mk (enc [])) = some (⟨#[]⟩, 1) := by
  have sa : (mk (enc [])).size ≤ 140737488351232 := by decide
  unfold name_Parent.f
  rw [right_f sa, isN_nil.right]
  simp only [Option.bind_some, if_true]
  rw [if_pos (by rw [mk_list]; rfl)]
theorem parent_not (n : ByteArray) (hn : n.size ≤ 140737488351232) (h : rightB n = false) : name_Parent.f n = some (⟨#[]⟩, 2) := by
  unfold name_Parent.f
  rw [right_f hn, h]
  simp

theorem reflabels_f {s : ByteArray} (h : s.size ≤ 140737488351232) : guidepostref01_Labels.f s = some (labelsL s, rightB s) := if_pos h

theorem rd_at {l : List ByteArray} (i : Nat) (h : i < l.length) : rdOf ByteArray.empty l (i : Int) = l[i] := by
  simp [rdOf, h]

theorem refof_f (l : List ByteArray) (hlen : l.length ≤ 8796093021952) : guidepostref01_Of.f l = some (ofW l) := if_pos (by omega)

theorem reflower_f {s : ByteArray} (h : s.size ≤ 140737488351232) : guidepostref01_Lower.f s = some (lowerW s) := if_pos h

theorem und_l0 : ∀ (d : Nat) (X Y : List ByteArray) (i k : Nat), Y.length - i = d → i ≤ Y.length → Y.length ≤ X.length → X.length ≤ 1000000 → d + 1 ≤ k →
    guidepostref01_Under.l0 k X Y (i : Int) = some (decide (X.drop (X.length - Y.length + i) = Y.drop i)) := by
  intro d
  induction d with
  | zero =>
    intro X Y i k hd hi hle hX hk
    obtain rfl : i = Y.length := by omega
    obtain ⟨k, rfl⟩ : ∃ j, k = j + 1 := ⟨k - 1, by omega⟩
    rw [guidepostref01_Under.l0, if_neg (by omega), List.drop_eq_nil_of_le (by omega), List.drop_eq_nil_of_le (Nat.le_refl _)]; simp
  | succ d ih =>
    intro X Y i k hd hi hle hX hk
    obtain ⟨k, rfl⟩ : ∃ j, k = j + 1 := ⟨k - 1, by omega⟩
    have hlt : i < Y.length := by omega
    have hltX : X.length - Y.length + i < X.length := by omega
    have ew : wrap64 (wrap64 ((X.length : Int) - (Y.length : Int)) + (i : Int)) = ((X.length - Y.length + i : Nat) : Int) := by
      rw [w64 ((X.length : Int) - (Y.length : Int)) (by omega) (by omega), w64 _ (by omega) (by omega)]; omega
    rw [guidepostref01_Under.l0, if_pos (by omega), ew, if_pos (by omega), if_pos (by omega), if_pos (by omega), rd_at _ hltX, rd_at i hlt, w64 ((i : Int) + 1) (by omega) (by omega)]
    rw [List.drop_eq_getElem_cons hltX, List.drop_eq_getElem_cons hlt]
    by_cases he : X[X.length - Y.length + i].toList = Y[i].toList
    · rw [if_pos he, show ((i : Int) + 1) = ((i + 1 : Nat) : Int) by omega, ih X Y (i + 1) k (by omega) (by omega) hle hX (by omega), toList_inj he]
      simp only [List.cons.injEq, true_and, Nat.add_assoc]
    · rw [if_neg he]
      have : ¬ X[X.length - Y.length + i] = Y[i] := fun e => he (by rw [e])
      simp only [List.cons.injEq, this, false_and, decide_false]

theorem map_mk_inj {a b : List (List UInt8)} (h : a.map mk = b.map mk) : a = b := by
  have := congrArg (fun l => l.map (fun (s : ByteArray) => s.data.toList)) h
  simpa [Function.comp_def] using this

theorem refunder_f (k : Nat) (hk : 400 ≤ k) {s t : ByteArray} (hs : s.size ≤ 140737488351232) (ht : t.size ≤ 140737488351232) : guidepostref01_Under.f k s t = some (underW s t) := by
  obtain ⟨k, rfl⟩ : ∃ j, k = j + 1 := ⟨k - 1, by omega⟩
  have hls : (lowerW s).size ≤ 140737488351232 := by rw [lowerW_size]; exact hs
  have hlt : (lowerW t).size ≤ 140737488351232 := by rw [lowerW_size]; exact ht
  unfold guidepostref01_Under.f
  rw [reflower_f hs, reflower_f ht]
  simp only [Option.bind_some]
  rw [reflabels_f hls, reflabels_f hlt]
  simp only [Option.bind_some]
  by_cases h1 : rightB s = true
  · obtain ⟨a, ha, rfl⟩ := right_isN h1
    rw [ha.lower, ha.low.labels, ha.low.right, if_pos rfl]
    by_cases h2 : rightB t = true
    · obtain ⟨b, hb, rfl⟩ := right_isN h2
      rw [hb.lower, hb.low.labels, hb.low.right, if_pos rfl, ha.under hb]
      have n1 := labelsL_len (mk (enc (a.map lowL)))
      rw [ha.low.labels, List.length_map] at n1
      have n2 := labelsL_len (mk (enc (b.map lowL)))
      rw [hb.low.labels, List.length_map] at n2
      rw [guidepostref01_Under.j0]
      unfold undL
      by_cases hlen : (a.map lowL).length < (b.map lowL).length
      · rw [if_pos (by rw [decide_eq_true_eq, List.length_map, List.length_map (f := mk)]; omega), decide_eq_false]
        intro h; have := h.length_le; omega
      · rw [if_neg (by rw [decide_eq_true_eq, List.length_map, List.length_map (f := mk)]; omega)]
        have h := und_l0 ((b.map lowL).map mk).length ((a.map lowL).map mk) ((b.map lowL).map mk) 0 k rfl (Nat.zero_le _) (by rw [List.length_map, List.length_map (f := mk)]; omega) (by rw [List.length_map]; omega) (by rw [List.length_map]; omega)
        rw [show (0 : Int) = ((0 : Nat) : Int) from rfl, h]
        congr 1
        rw [decide_eq_decide, List.drop_zero, Nat.add_zero, List.suffix_iff_eq_drop, ← List.map_drop, List.length_map (f := mk), List.length_map (f := mk)]
        constructor
        · intro e; exact (map_mk_inj e).symm
        · intro e; rw [← e]
    · have h2' : rightB t = false := by simpa using h2
      have hlw : lowerW t = t := by unfold lowerW; rw [if_neg h2]
      rw [hlw, h2', under_not (.inr h2'), guidepostref01_Under.j0]; simp [guidepostref01_Under.j0]
  · have h1' : rightB s = false := by simpa using h1
    have hlw : lowerW s = s := by unfold lowerW; rw [if_neg h1]
    rw [hlw, h1', under_not (.inl h1'), guidepostref01_Under.j0]; simp [guidepostref01_Under.j0]

theorem reflast_f {a : List (List UInt8)} (ha : IsN a) (m : Nat) (hm : m ≤ a.length) : guidepostref01_Last.f (mk (enc a)) (m : Int) = some (mk (enc (a.drop (a.length - m)))) := by
  have sa : (mk (enc a)).size ≤ 140737488351232 := Nat.le_trans ha.size (by decide)
  have n1 := labelsL_len (mk (enc a))
  rw [ha.labels, List.length_map] at n1
  unfold guidepostref01_Last.f
  rw [reflabels_f sa, ha.labels]
  simp only [Option.bind_some]
  have ew : wrap64 (((a.map mk).length : Int) - (m : Int)) = ((a.length - m : Nat) : Int) := by rw [List.length_map, w64 _ (by omega) (by omega)]; omega
  have hd := ha.suffix (List.drop_suffix (a.length - m) a)
  rw [ew, if_pos (by omega), if_pos (by rw [List.length_map]; omega), Int.toNat_natCast, ← List.map_drop, refof_f _ (by rw [List.length_map, List.length_drop]; omega), ofW_mk _ hd.ok, if_pos hd.le]
  rfl
theorem refparent_f {a : List (List UInt8)} (ha : IsN a) : guidepostref01_Parent.f (mk (enc a)) = some (if a = [] then (⟨#[]⟩, 1) else (mk (enc (a.drop 1)), 0)) := by
  have sa : (mk (enc a)).size ≤ 140737488351232 := Nat.le_trans ha.size (by decide)
  have n1 := labelsL_len (mk (enc a))
  rw [ha.labels, List.length_map] at n1
  unfold guidepostref01_Parent.f
  rw [reflabels_f sa, ha.labels, ha.right]
  simp only [Option.bind_some, if_true]
  by_cases h0 : a = []
  · subst h0; simp
  · have hl : a.length ≠ 0 := fun e => h0 (List.length_eq_zero_iff.1 e)
    rw [if_neg (by rw [List.length_map]; omega), if_neg h0, List.length_map, w64 _ (by omega) (by omega), show ((a.length : Int) - 1) = ((a.length - 1 : Nat) : Int) by omega, reflast_f ha _ (by omega), show a.length - (a.length - 1) = 1 by omega]
    rfl

theorem com_l0 (a b : List (List UInt8)) (ha : IsN a) (hb : IsN b) : ∀ (i k : Nat), i ≤ a.length → 500 + i ≤ k →
    guidepostref01_Common.l0 k (mk (enc a)) (mk (enc b)) (i : Int) = some (mk (enc (((tailsL (a.drop (a.length - i))).find? fun t => undL b t).getD [])), 0) := by
  have n1 := labelsL_len (mk (enc a))
  rw [ha.labels, List.length_map] at n1
  have sb : (mk (enc b)).size ≤ 140737488351232 := Nat.le_trans hb.size (by decide)
  intro i
  induction i with
  | zero =>
    intro k hi hk
    obtain ⟨k, rfl⟩ : ∃ j, k = j + 1 := ⟨k - 1, by omega⟩
    rw [guidepostref01_Common.l0, if_neg (by omega), List.drop_eq_nil_of_le (by omega)]; rfl
  | succ i ih =>
    intro k hi hk
    obtain ⟨k, rfl⟩ : ∃ j, k = j + 1 := ⟨k - 1, by omega⟩
    have hs := ha.suffix (List.drop_suffix (a.length - (i + 1)) a)
    have sn : (mk (enc (a.drop (a.length - (i + 1))))).size ≤ 140737488351232 := Nat.le_trans hs.size (by decide)
    rw [guidepostref01_Common.l0, if_pos (by omega), reflast_f ha (i + 1) hi]
    simp only [Option.bind_some]
    rw [refunder_f k (by omega) sb sn, hb.under hs]
    simp only [Option.bind_some]
    have hlt : a.length - (i + 1) < a.length := by omega
    have hd : a.drop (a.length - (i + 1)) = a[a.length - (i + 1)] :: a.drop (a.length - i) := by
      rw [List.drop_eq_getElem_cons hlt, show a.length - (i + 1) + 1 = a.length - i by omega]
    rw [w64 (((i + 1 : Nat) : Int) - 1) (by omega) (by omega), show ((i + 1 : Nat) : Int) - 1 = (i : Int) by omega, ih k (by omega) (by omega)]
    have ht : tailsL (a.drop (a.length - (i + 1))) = a.drop (a.length - (i + 1)) :: tailsL (a.drop (a.length - i)) := by
      rw [hd]; rfl
    rw [ht, List.find?_cons]
    cases undL b (a.drop (a.length - (i + 1))) <;> simp

theorem refright_f {s : ByteArray} (h : s.size ≤ 140737488351232) : guidepostref01_Right.f s = some (rightB s) := by
  unfold guidepostref01_Right.f; rw [reflabels_f h]; rfl
theorem refcommon_f (k : Nat) (hk : 800 ≤ k) {s t : ByteArray} (hs : s.size ≤ 140737488351232) (ht : t.size ≤ 140737488351232) : guidepostref01_Common.f k s t = some (commonW s t) := by
  obtain ⟨k, rfl⟩ : ∃ j, k = j + 1 := ⟨k - 1, by omega⟩
  unfold guidepostref01_Common.f
  rw [reflabels_f hs, refright_f ht]
  simp only [Option.bind_some]
  by_cases h1 : rightB s = true
  · by_cases h2 : rightB t = true
    · obtain ⟨a, ha, rfl⟩ := right_isN h1
      obtain ⟨b, hb, rfl⟩ := right_isN h2
      have n1 := labelsL_len (mk (enc a))
      rw [ha.labels, List.length_map] at n1
      rw [ha.right, hb.right, if_pos rfl, guidepostref01_Common.j0, if_neg (by simp), ha.labels, List.length_map, com_l0 a b ha hb a.length k (Nat.le_refl _) (by omega), ha.common hb, Nat.sub_self, List.drop_zero]
      rfl
    · have h2' : rightB t = false := by simpa using h2
      rw [h1, h2', common_not (.inr h2'), if_pos rfl, guidepostref01_Common.j0]; simp [guidepostref01_Common.j0]
  · have h1' : rightB s = false := by simpa using h1
    rw [h1', common_not (.inl h1'), if_neg (by simp), guidepostref01_Common.j0]; simp [guidepostref01_Common.j0]

theorem refbytes_f (s t : ByteArray) : guidepostref01_bytes.f s t = some (cB s.data.toList t.data.toList) := rfl

theorem take_rev {X : List ByteArray} {i : Nat} (h : i < X.length) : (X.take (X.length - i)).reverse = X[X.length - i - 1] :: (X.take (X.length - (i + 1))).reverse := by
  have e : X.length - i = (X.length - (i + 1)) + 1 := by omega
  have e2 : X.take (X.length - i) = X.take (X.length - (i + 1)) ++ [X[X.length - i - 1]] := by
    have e3 : X.length - i - 1 = X.length - (i + 1) := by omega
    have := List.take_succ_eq_append_getElem (l := X) (i := X.length - (i + 1)) (by omega)
    rw [← e] at this
    simp only [e3]; exact this
  rw [e2, List.reverse_append]; rfl
theorem cmpref_l0 : ∀ (d : Nat) (X Y : List ByteArray) (i k : Nat), X.length - i = d → i ≤ X.length → i ≤ Y.length → X.length ≤ 1000 → Y.length ≤ 1000 → 2 * d + 2 ≤ k →
    guidepostref01_Compare.l0 k X Y ((i : Int) + 1) = some (cmpR (X.take (X.length - i)).reverse (Y.take (Y.length - i)).reverse) := by
  intro d
  induction d with
  | zero =>
    intro X Y i k hd hi hiY hX hY hk
    obtain rfl : i = X.length := by omega
    obtain ⟨k, rfl⟩ : ∃ j, k = j + 2 := ⟨k - 2, by omega⟩
    rw [guidepostref01_Compare.l0, if_neg (by omega), guidepostref01_Compare.j2, if_neg (by simp), Nat.sub_self, List.take_zero]
    by_cases h : X.length < Y.length
    · rw [if_pos (by omega), take_rev h]; rfl
    · rw [if_neg (by omega), if_neg (by omega), show Y.length - X.length = 0 by omega, List.take_zero]; rfl
  | succ d ih =>
    intro X Y i k hd hi hiY hX hY hk
    obtain ⟨k, rfl⟩ : ∃ j, k = j + 2 := ⟨k - 2, by omega⟩
    have hltX : i < X.length := by omega
    rw [guidepostref01_Compare.l0, if_pos (by omega), guidepostref01_Compare.j2, take_rev hltX]
    by_cases hltY : i < Y.length
    · have eX : wrap64 ((X.length : Int) - ((i : Int) + 1)) = ((X.length - i - 1 : Nat) : Int) := by rw [w64 _ (by omega) (by omega)]; omega
      have eY : wrap64 ((Y.length : Int) - ((i : Int) + 1)) = ((Y.length - i - 1 : Nat) : Int) := by rw [w64 _ (by omega) (by omega)]; omega
      rw [if_pos (by rw [decide_eq_true_eq]; omega), eX, eY, if_pos (by omega), if_pos (by omega), if_pos (by omega), if_pos (by omega), rd_at _ (by omega : X.length - i - 1 < X.length), rd_at _ (by omega : Y.length - i - 1 < Y.length), refbytes_f, take_rev hltY, cmpR]
      simp only [Option.bind_some]
      by_cases hc : cB X[X.length - i - 1].data.toList Y[Y.length - i - 1].data.toList = 0
      · rw [if_pos hc, if_pos hc, w64 _ (by omega) (by omega)]
        exact ih X Y (i + 1) k (by omega) (by omega) (by omega) hX hY (by omega)
      · rw [if_neg hc, if_neg hc]
    · rw [if_neg (by rw [decide_eq_true_eq]; omega), if_neg (by omega), if_pos (by omega), show Y.length - i = 0 by omega, List.take_zero]; rfl

theorem refcompare_f (k : Nat) (hk : 400 ≤ k) {s t : ByteArray} (hs : s.size ≤ 140737488351232) (ht : t.size ≤ 140737488351232) : guidepostref01_Compare.f k s t = some (cmpN s t) := by
  obtain ⟨k, rfl⟩ : ∃ j, k = j + 1 := ⟨k - 1, by omega⟩
  have hls : (lowerW s).size ≤ 140737488351232 := by rw [lowerW_size]; exact hs
  have hlt : (lowerW t).size ≤ 140737488351232 := by rw [lowerW_size]; exact ht
  have n1 := labelsL_len (lowerW s)
  have n2 := labelsL_len (lowerW t)
  have hl := cmpref_l0 _ (labelsL (lowerW s)) (labelsL (lowerW t)) 0 k rfl (Nat.zero_le _) (Nat.zero_le _) (by omega) (by omega) (by omega)
  simp only [Nat.sub_zero, List.take_length] at hl
  have hr : ∀ u : ByteArray, rightB (lowerW u) = rightB u := fun u => by
    by_cases h : rightB u = true
    · obtain ⟨a, ha, rfl⟩ := right_isN h
      rw [ha.lower, ha.low.right, ha.right]
    · have : lowerW u = u := by unfold lowerW; rw [if_neg h]
      rw [this]
  unfold guidepostref01_Compare.f cmpN
  rw [reflower_f hs, reflower_f ht]
  simp only [Option.bind_some]
  rw [reflabels_f hls, reflabels_f hlt, hr, hr]
  simp only [Option.bind_some]
  rw [guidepostref01_Compare.j0, guidepostref01_Compare.j0, refbytes_f]
  cases h1 : rightB s <;> cases h2 : rightB t <;> simp
  exact hl

theorem refequal_f {s t : ByteArray} (hs : s.size ≤ 140737488351232) (ht : t.size ≤ 140737488351232) : guidepostref01_Equal.f s t = some (eqN s t) := by
  unfold guidepostref01_Equal.f eqN
  rw [refright_f hs, refright_f ht, reflower_f hs, reflower_f ht]
  cases h1 : rightB s <;> cases h2 : rightB t <;> simp

theorem NameHolds : guidepostlaw01_NameHolds.Pure := by
  intro s t hs ht
  refine ⟨900, ?_⟩
  unfold guidepostlaw01_NameHolds.f
  rw [examples_f 900 (by omega), refequal_f hs ht, refunder_f 900 (by omega) hs ht, common_f hs ht, refcommon_f 900 (by omega) hs ht]
  simp only [Option.bind_some]
  have hp : ∃ r, name_Parent.f s = some r ∧ guidepostref01_Parent.f s = some r := by
    by_cases h1 : rightB s = true
    · obtain ⟨a, ha, rfl⟩ := right_isN h1
      rw [refparent_f ha]
      cases a with
      | nil => exact ⟨_, parent_root, by rw [if_pos rfl]⟩
      | cons l a => exact ⟨_, parent_f l a ha, by rw [if_neg (by simp)]; rfl⟩
    · have h1' : rightB s = false := by simpa using h1
      refine ⟨_, parent_not s hs h1', ?_⟩
      unfold guidepostref01_Parent.f
      rw [reflabels_f hs, h1']; simp
  obtain ⟨r, hp1, hp2⟩ := hp
  rw [hp1, hp2]
  simp only [Option.bind_some, if_true]
  rw [equal_f s t hs ht, under_f hs ht, cmp_f 900 (by omega) s t hs ht, refcompare_f 900 (by omega) hs ht]
  simp

end Go.Proofs.Ytlikkpeaepankaa.Pure
