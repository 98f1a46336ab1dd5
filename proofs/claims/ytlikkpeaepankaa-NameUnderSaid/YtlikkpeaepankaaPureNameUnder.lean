/- The plain law of NameUnder: no program in sight. -/
import Derived.Test.YtlikkpeaepankaaPNameUnderx3
import Derived.Test.YtlikkpeaepankaaNmY
namespace Go.Proofs.Ytlikkpeaepankaa.Pure
open Go.RowKit Go.Proofs.Ytlikkpeaepankaa.PNameUnder Go.Proofs.YtlikkpeaepankaaW.PrintWords Go.Proofs.YtlikkpeaepankaaW.PrintLast Go.Proofs.YtlikkpeaepankaaW.PrintMore Go.Proofs.Ytlikkpeaepankaa.Nm
set_option linter.unusedSimpArgs false
set_option linter.unusedVariables false

theorem w64 (n : Int) (h0 : -9223372036854775808 ≤ n) (h1 : n < 9223372036854775808) : wrap64 n = n := by unfold wrap64; omega
theorem right_f {s : ByteArray} (h : s.size ≤ 140737488351232) : name_Right.f s = some (rightB s) := if_pos h
theorem lower_f {s : ByteArray} (h : s.size ≤ 140737488351232) : name_Lower.f s = some (lowerW s) := if_pos h
theorem labels_f {s : ByteArray} (h : s.size ≤ 140737488351232) : name_Labels.f s = some (labelsL s) := if_pos h
theorem under_f {s t : ByteArray} (h : s.size ≤ 140737488351232) (h2 : t.size ≤ 140737488351232) : name_Under.f s t = some (underW s t) := if_pos ⟨h, h2⟩

theorem cmp_l0 : ∀ (n : Nat) (X Y : List ByteArray) (k : Nat), X.length = n → 2 * n + 2 ≤ k → n < 4611686018427387904 → Y.length < 4611686018427387904 → name_Compare.l0 k X Y = some (cmpR X.reverse Y.reverse) := by
  intro n
  induction n with
  | zero =>
    intro X Y k hX hk _ hY
    obtain rfl := List.length_eq_zero_iff.1 hX
    obtain ⟨k, rfl⟩ : ∃ j, k = j + 2 := ⟨k - 2, by omega⟩
    rw [name_Compare.l0, if_neg (by simp), name_Compare.j2, if_neg (by simp)]
    rcases List.eq_nil_or_concat Y with rfl | ⟨Y', y, rfl⟩
    · rfl
    · have : ((Y'.concat y).length : Int) ≥ 1 := by simp; omega
      rw [List.concat_eq_append, List.reverse_append]
      simp [cmpR, mn]
      omega
  | succ n ih =>
    intro X Y k hX hk hn hY
    rcases List.eq_nil_or_concat X with rfl | ⟨X', x, rfl⟩
    · cases hX
    rw [List.concat_eq_append] at hX ⊢
    have hX' : X'.length = n := by simpa using hX
    obtain ⟨k, rfl⟩ : ∃ j, k = j + 2 := ⟨k - 2, by omega⟩
    rw [name_Compare.l0, if_pos (by simp), name_Compare.j2]
    rcases List.eq_nil_or_concat Y with rfl | ⟨Y', y, rfl⟩
    · rw [if_neg (by simp), List.reverse_append]
      simp [cmpR, mn]
      omega
    rw [List.concat_eq_append] at hY ⊢
    have e1 : ((X' ++ [x]).length : Int) = X'.length + 1 := by simp
    have e2 : ((Y' ++ [y]).length : Int) = Y'.length + 1 := by simp
    have hY' : Y'.length < 4611686018427387904 := by simp at hY; omega
    rw [if_pos (by rw [decide_eq_true_eq, e2]; omega), e1, e2, w64 _ (by omega) (by omega), w64 _ (by omega) (by omega),
      show (X'.length : Int) + 1 - 1 = X'.length by omega, show (Y'.length : Int) + 1 - 1 = Y'.length by omega,
      if_pos (by omega), if_pos (by omega), if_pos (by omega), if_pos (by omega)]
    have g1 : rdOf ByteArray.empty (X' ++ [x]) (X'.length : Int) = x := by simp [rdOf]
    have g2 : rdOf ByteArray.empty (Y' ++ [y]) (Y'.length : Int) = y := by simp [rdOf]
    rw [g1, g2, Int.toNat_natCast, Int.toNat_natCast, List.take_left, List.take_left, List.reverse_append, List.reverse_append]
    show (if cB x.data.toList y.data.toList = 0 then _ else _) = _
    simp only [List.reverse_cons, List.reverse_nil, List.nil_append, List.cons_append, cmpR]
    by_cases hc : cB x.data.toList y.data.toList = 0
    · rw [if_pos hc, if_pos hc, if_pos (by omega), if_pos (by omega)]
      exact ih X' Y' k hX' (by omega) (by omega) hY'
    · rw [if_neg hc, if_neg hc]

theorem labelsL_len (s : ByteArray) : (labelsL s).length ≤ 128 := by
  unfold labelsL
  split
  · rename_i h
    have h1 := labs_length s _ 0 rfl
    have h2 : s.size ≤ 255 := by unfold rightB at h; simp at h; omega
    rw [List.length_map]; omega
  · simp

theorem cmp_f (k : Nat) (hk : 300 ≤ k) (s t : ByteArray) (hs : s.size ≤ 140737488351232) (ht : t.size ≤ 140737488351232) : name_Compare.f k s t = some (cmpN s t) := by
  unfold name_Compare.f cmpN
  rw [right_f hs, right_f ht]
  obtain ⟨k, rfl⟩ : ∃ j, k = j + 1 := ⟨k - 1, by omega⟩
  have hls : (lowerW s).size ≤ 140737488351232 := by rw [lowerW_size]; exact hs
  have hlt : (lowerW t).size ≤ 140737488351232 := by rw [lowerW_size]; exact ht
  have n1 := labelsL_len (lowerW s)
  have n2 := labelsL_len (lowerW t)
  have hl := cmp_l0 _ (labelsL (lowerW s)) (labelsL (lowerW t)) k rfl (by omega) (by omega) (by omega)
  cases h1 : rightB s <;> cases h2 : rightB t <;> simp [name_Compare.j0, strings_Compare.f, lower_f hs, lower_f ht, labels_f hls, labels_f hlt, hl, cB]

theorem equal_f (s t : ByteArray) (hs : s.size ≤ 140737488351232) (ht : t.size ≤ 140737488351232) : name_Equal.f s t = some (eqN s t) := by
  unfold name_Equal.f eqN
  rw [right_f hs, right_f ht, lower_f hs, lower_f ht]
  cases h1 : rightB s <;> cases h2 : rightB t <;> simp

theorem common_f {s t : ByteArray} (h : s.size ≤ 140737488351232) (h2 : t.size ≤ 140737488351232) : name_Common.f s t = some (commonW s t) := if_pos ⟨h, h2⟩

theorem examples_f (k : Nat) (hk : 40 ≤ k) : guidepostlaw01_examples.f k = some true := by
  obtain ⟨j, rfl⟩ : ∃ j, k = 40 + j := ⟨k - 40, by omega⟩
  have h : guidepostlaw01_examples.f 40 = some true := by decide +kernel
  clear hk
  induction j with
  | zero => exact h
  | succ j ih => exact guidepostlaw01_examples.mono _ _ ih

theorem child_bad (k : Nat) (hk : 1 ≤ k) (x n : ByteArray) (hx : x.size ≤ 140737488351232) (hn : n.size ≤ 140737488351232) (h : rightB n = false ∨ ¬ okL x.data.toList) : name_Child.f k x n = some (⟨#[]⟩, 2) := by
  obtain ⟨k, rfl⟩ : ∃ j, k = j + 1 := ⟨k - 1, by omega⟩
  unfold name_Child.f
  rw [right_f hn]
  simp only [Option.bind_some]
  by_cases h1 : rightB n = true
  · rw [if_pos h1]
    have h2 : ¬ (1 ≤ x.size ∧ x.size ≤ 63) := by
      rcases h with h | h
      · rw [h1] at h; cases h
      · exact h
    by_cases h3 : (x.size : Int) < 1
    · rw [if_pos h3, name_Child.j0, if_pos rfl]
    · have h4 : (x.size : Int) > 63 := by omega
      rw [if_neg h3, decide_eq_true h4, name_Child.j0, if_pos rfl]
  · rw [if_neg h1, name_Child.j0, if_pos rfl]

theorem child_f (k : Nat) (hk : 1 ≤ k) (l : List UInt8) (a : List (List UInt8)) (ha : IsN a) (hl : okL l) : name_Child.f k (mk l) (mk (enc a)) = some (if (enc (l :: a)).length ≤ 255 then (mk (enc (l :: a)), 0) else (⟨#[]⟩, 3)) := by
  obtain ⟨k, rfl⟩ : ∃ j, k = j + 1 := ⟨k - 1, by omega⟩
  have sa : (mk (enc a)).size ≤ 140737488351232 := Nat.le_trans ha.size (by decide)
  have l1 := ha.size
  have hs : (mk l).size = l.length := rfl
  have hsa : (mk (enc a)).size = (enc a).length := rfl
  have hlen : (enc (l :: a)).length = l.length + 1 + (enc a).length := by simp [enc]; omega
  obtain ⟨h1, h2⟩ := hl
  unfold name_Child.f
  rw [right_f sa, ha.right]
  simp only [Option.bind_some, if_true]
  rw [if_neg (by rw [hs]; omega), decide_eq_false (by rw [hs]; omega), name_Child.j0, if_neg (by simp), w64 (((mk (enc a)).size : Int) + 1) (by omega) (by omega), w64 _ (by rw [hs]; omega) (by rw [hs]; omega)]
  by_cases hlong : (enc (l :: a)).length ≤ 255
  · rw [if_pos hlong, if_neg (by rw [hs, hsa]; omega)]
    have e1 : strOfNums [((mk l).size : Int) % 256] = mk [UInt8.ofNat l.length] := by
      rw [hs, show ((l.length : Int) % 256) = (l.length : Int) by omega]; rfl
    simp only [Option.bind_some]
    rw [e1, mk_append, mk_append]
    have e2 : [UInt8.ofNat l.length] ++ l ++ enc a = enc (l :: a) := by simp [enc]
    rw [if_pos (by show 1 + l.length ≤ _; omega), if_pos (by rw [mk_size, mk_size]; simp; omega), e2]
  · rw [if_neg hlong, if_pos (by rw [hs, hsa]; omega)]

theorem bt_head (l : List UInt8) (a : List (List UInt8)) (hl : okL l) : bt (mk (enc (l :: a))) 0 = (l.length : Int) := by
  unfold bt
  have h : (0 : Int).toNat < (mk (enc (l :: a))).size := by show 0 < (enc (l :: a)).length; simp [enc]
  rw [dif_pos h]
  have h1 : (mk (enc (l :: a)))[(0 : Int).toNat]'h = UInt8.ofNat l.length := by
    show (enc (l :: a))[0]'h = _
    simp [enc]
  rw [h1]
  obtain ⟨h2, h3⟩ := hl
  simp; omega
theorem parent_f (l : List UInt8) (a : List (List UInt8)) (ha : IsN (l :: a)) : name_Parent.f (mk (enc (l :: a))) = some (mk (enc a), 0) := by
  have hl := ha.ok l (by simp)
  have sa : (mk (enc (l :: a))).size ≤ 140737488351232 := Nat.le_trans ha.size (by decide)
  have hlen : (enc (l :: a)).length = l.length + 1 + (enc a).length := by simp [enc]; omega
  have hsa : (mk (enc (l :: a))).size = (enc (l :: a)).length := rfl
  have hb := bt_head l a hl
  obtain ⟨h1, h2⟩ := hl
  unfold name_Parent.f
  rw [right_f sa, ha.right]
  simp only [Option.bind_some, if_true]
  rw [if_neg (by rw [mk_list]; intro e; have := congrArg List.length e; rw [hlen] at this; simp at this; omega), if_pos (by rw [hsa]; omega), hb, show ((1 + (l.length : Int)) % 256) = ((1 + l.length : Nat) : Int) by omega, if_pos (by omega), if_pos (by rw [hsa]; omega), Int.toNat_natCast]
  have : (mk (enc (l :: a))).extract (1 + l.length) (mk (enc (l :: a))).size = mk (enc a) := by
    rw [mk_extract]
    have e : enc (l :: a) = (UInt8.ofNat l.length :: l) ++ enc a := by simp [enc]
    have e2 : (UInt8.ofNat l.length :: l).length = 1 + l.length := by simp; omega
    rw [e, ← e2, List.drop_left, mk_size, List.length_append, Nat.add_sub_cancel_left, List.take_length]
  rw [this]
theorem parent_root : name_Parent.f (mk (enc [])) = some (⟨#[]⟩, 1) := by
  have sa : (mk (enc [])).size ≤ 140737488351232 := by decide
  unfold name_Parent.f
  rw [right_f sa, isN_nil.right]
  simp only [Option.bind_some, if_true]
  rw [if_pos (by rw [mk_list]; rfl)]
theorem parent_not (n : ByteArray) (hn : n.size ≤ 140737488351232) (h : rightB n = false) : name_Parent.f n = some (⟨#[]⟩, 2) := by
  unfold name_Parent.f
  rw [right_f hn, h]
  simp

theorem under_cons (l : List UInt8) (a : List (List UInt8)) : undL a (l :: a) = false := by
  unfold undL
  rw [decide_eq_false_iff_not]
  intro h
  have := h.length_le
  rw [List.length_map, List.length_map, List.length_cons] at this
  omega

theorem j0_f (k : Nat) (hk : 300 ≤ k) (n x : ByteArray) (hn : n.size ≤ 140737488351232) (hx : x.size ≤ 140737488351232) : guidepostlaw01_NameUnder.j0 (k + 1) n x true false = some true := by
  rw [guidepostlaw01_NameUnder.j0, if_neg (by simp)]
  by_cases h : rightB n = true ∧ okL x.data.toList
  · obtain ⟨h1, h2⟩ := h
    obtain ⟨a, ha, rfl⟩ := right_isN h1
    rw [← mk_toList x, child_f k (by omega) _ a ha h2]
    simp only [Option.bind_some]
    by_cases hl : (enc (x.data.toList :: a)).length ≤ 255
    · rw [if_pos hl]
      have hd : IsN (x.data.toList :: a) := ⟨fun y hy => by rcases List.mem_cons.1 hy with rfl | hy; exact h2; exact ha.ok y hy, hl⟩
      have sd : (mk (enc (x.data.toList :: a))).size ≤ 140737488351232 := Nat.le_trans hd.size (by decide)
      simp only [if_true]
      rw [parent_f _ a hd, under_f sd hn, hd.under ha, undL_suffix (List.suffix_cons _ _), under_f hn sd, ha.under hd, under_cons, cmp_f k (by omega) _ _ sd hn, cmp_under hd ha (undL_suffix (List.suffix_cons _ _))]
      simp
    · rw [if_neg hl]; simp
  · rw [child_bad k (by omega) x n hx hn (by
      by_cases h1 : rightB n = true
      · exact .inr (fun h2 => h ⟨h1, h2⟩)
      · exact .inl (by simpa using h1))]
    simp

theorem NameUnder : guidepostlaw01_NameUnder.Pure := by
  intro s t x hs ht hx
  refine ⟨400, ?_⟩
  have hj := j0_f 399 (by omega) s x hs hx
  unfold guidepostlaw01_NameUnder.f
  rw [examples_f 400 (by omega), common_f hs ht]
  simp only [Option.bind_some]
  by_cases h1 : rightB s = true
  · by_cases h2 : rightB t = true
    · obtain ⟨a, ha, rfl⟩ := right_isN h1
      obtain ⟨b, hb, rfl⟩ := right_isN h2
      have hc := ha.com (b := b)
      have sc : (mk (enc (comL a b))).size ≤ 140737488351232 := Nat.le_trans hc.size (by decide)
      rw [ha.common hb]
      simp only [if_true]
      rw [under_f hs sc, ha.under hc, undL_suffix (comL_suffix a b), under_f ht sc, hb.under hc, comL_under a b, under_f hs ht, ha.under hb, equal_f _ _ ht sc, hb.eqn hc, cmp_f 400 (by omega) _ _ hs ht]
      simp only [Option.bind_some, if_true]
      by_cases hu : undL a b = true
      · have he : b.map lowL = (comL a b).map lowL := undL_anti (comL_under a b) (comL_long a b b hu (undL_suffix (List.suffix_refl b)))
        rw [hu, decide_eq_true he, cmp_under ha hb hu]
        simp only [bne_self_eq_false, Bool.false_eq_true, if_false, if_true]
        have : decide ((if a.length = b.length then (0 : Int) else 1) < 0) = false := by rw [decide_eq_false_iff_not]; split <;> omega
        rw [this]; exact hj
      · have hu' : undL a b = false := by simpa using hu
        have he : ¬ b.map lowL = (comL a b).map lowL := fun e => hu (by
          have := undL_suffix (comL_suffix a b)
          unfold undL at this ⊢
          rw [e]; exact this)
        rw [hu', decide_eq_false he]
        simp only [bne_self_eq_false, Bool.false_eq_true, if_false]
        exact hj
    · rw [common_not (.inr (by simpa using h2))]
      simp only [show ¬ ((2 : Int) = 0) by omega, if_false]
      exact hj
  · rw [common_not (.inl (by simpa using h1))]
    simp only [show ¬ ((2 : Int) = 0) by omega, if_false]
    exact hj

end Go.Proofs.Ytlikkpeaepankaa.Pure
