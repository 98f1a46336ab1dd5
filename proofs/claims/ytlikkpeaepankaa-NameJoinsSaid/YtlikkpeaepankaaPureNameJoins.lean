/- The plain law of NameJoins: no program in sight. -/
import Derived.Test.YtlikkpeaepankaaPNameJoinsx2
import Derived.Test.YtlikkpeaepankaaNmZ
import Derived.Test.YtlikkpeaepankaaNmW
namespace Go.Proofs.Ytlikkpeaepankaa.Pure
open Go.RowKit Go.Proofs.Ytlikkpeaepankaa.PNameJoins Go.Proofs.YtlikkpeaepankaaW.PrintWords Go.Proofs.YtlikkpeaepankaaW.PrintLast Go.Proofs.YtlikkpeaepankaaW.PrintMore Go.Proofs.Ytlikkpeaepankaa.Nm
set_option linter.unusedSimpArgs false
set_option linter.unusedVariables false

theorem w64 (n : Int) (h0 : -9223372036854775808 ≤ n) (h1 : n < 9223372036854775808) : wrap64 n = n := by unfold wrap64; omega
theorem right_f {s : ByteArray} (h : s.size ≤ 140737488351232) : name_Right.f s = some (rightB s) := if_pos h
theorem lower_f {s : ByteArray} (h : s.size ≤ 140737488351232) : name_Lower.f s = some (lowerW s) := if_pos h
theorem labels_f {s : ByteArray} (h : s.size ≤ 140737488351232) : name_Labels.f s = some (labelsL s) := if_pos h
theorem under_f {s t : ByteArray} (h : s.size ≤ 140737488351232) (h2 : t.size ≤ 140737488351232) : name_Under.f s t = some (underW s t) := if_pos ⟨h, h2⟩

theorem cmp_l0 : ∀ (n : Nat) (X Y : List ByteArray) (k : Nat), X.length = n → 2 * n + 2 ≤ k → n < 4611686018427387904 → Y.length < 4611686018427387904 → name_Compare.l0 k X Y = some (cmpR X.reverse Y.reverse) := by
  intro n
  induction n with
  | zero =>
    intro X Y k hX hk _ hY
    obtain rfl := List.length_eq_zero_iff.1 hX
    obtain ⟨k, rfl⟩ : ∃ j, k = j + 2 := ⟨k - 2, by omega⟩
    rw [name_Compare.l0, if_neg (by simp), name_Compare.j2, if_neg (by simp)]
    rcases List.eq_nil_or_concat Y with rfl | ⟨Y', y, rfl⟩
    · rfl
    · have : ((Y'.concat y).length : Int) ≥ 1 := by simp; omega
      rw [List.concat_eq_append, List.reverse_append]
      simp [cmpR, mn]
      omega
  | succ n ih =>
    intro X Y k hX hk hn hY
    rcases List.eq_nil_or_concat X with rfl | ⟨X', x, rfl⟩
    · cases hX
    rw [List.concat_eq_append] at hX ⊢
    have hX' : X'.length = n := by simpa using hX
    obtain ⟨k, rfl⟩ : ∃ j, k = j + 2 := ⟨k - 2, by omega⟩
    rw [name_Compare.l0, if_pos (by simp), name_Compare.j2]
    rcases List.eq_nil_or_concat Y with rfl | ⟨Y', y, rfl⟩
    · rw [if_neg (by simp), List.reverse_append]
      simp [cmpR, mn]
      omega
    rw [List.concat_eq_append] at hY ⊢
    have e1 : ((X' ++ [x]).length : Int) = X'.length + 1 := by simp
    have e2 : ((Y' ++ [y]).length : Int) = Y'.length + 1 := by simp
    have hY' : Y'.length < 4611686018427387904 := by simp at hY; omega
    rw [if_pos (by rw [decide_eq_true_eq, e2]; omega), e1, e2, w64 _ (by omega) (by omega), w64 _ (by omega) (by omega),
      show (X'.length : Int) + 1 - 1 = X'.length by omega, show (Y'.length : Int) + 1 - 1 = Y'.length by omega,
      if_pos (by omega), if_pos (by omega), if_pos (by omega), if_pos (by omega)]
    have g1 : rdOf ByteArray.empty (X' ++ [x]) (X'.length : Int) = x := by simp [rdOf]
    have g2 : rdOf ByteArray.empty (Y' ++ [y]) (Y'.length : Int) = y := by simp [rdOf]
    rw [g1, g2, Int.toNat_natCast, Int.toNat_natCast, List.take_left, List.take_left, List.reverse_append, List.reverse_append]
    show (if cB x.data.toList y.data.toList = 0 then _ else _) = _
    simp only [List.reverse_cons, List.reverse_nil, List.nil_append, List.cons_append, cmpR]
    by_cases hc : cB x.data.toList y.data.toList = 0
    · rw [if_pos hc, if_pos hc, if_pos (by omega), if_pos (by omega)]
      exact ih X' Y' k hX' (by omega) (by omega) hY'
    · rw [if_neg hc, if_neg hc]

theorem labelsL_len (s : ByteArray) : (labelsL s).length ≤ 128 := by
  unfold labelsL
  split
  · rename_i h
    have h1 := labs_length s _ 0 rfl
    have h2 : s.size ≤ 255 := by unfold rightB at h; simp at h; omega
    rw [List.length_map]; omega
  · simp

theorem cmp_f (k : Nat) (hk : 300 ≤ k) (s t : ByteArray) (hs : s.size ≤ 140737488351232) (ht : t.size ≤ 140737488351232) : name_Compare.f k s t = some (cmpN s t) := by
  unfold name_Compare.f cmpN
  rw [right_f hs, right_f ht]
  obtain ⟨k, rfl⟩ : ∃ j, k = j + 1 := ⟨k - 1, by omega⟩
  have hls : (lowerW s).size ≤ 140737488351232 := by rw [lowerW_size]; exact hs
  have hlt : (lowerW t).size ≤ 140737488351232 := by rw [lowerW_size]; exact ht
  have n1 := labelsL_len (lowerW s)
  have n2 := labelsL_len (lowerW t)
  have hl := cmp_l0 _ (labelsL (lowerW s)) (labelsL (lowerW t)) k rfl (by omega) (by omega) (by omega)
  cases h1 : rightB s <;> cases h2 : rightB t <;> simp [name_Compare.j0, strings_Compare.f, lower_f hs, lower_f ht, labels_f hls, labels_f hlt, hl, cB]

theorem equal_f (s t : ByteArray) (hs : s.size ≤ 140737488351232) (ht : t.size ≤ 140737488351232) : name_Equal.f s t = some (eqN s t) := by
  unfold name_Equal.f eqN
  rw [right_f hs, right_f ht, lower_f hs, lower_f ht]
  cases h1 : rightB s <;> cases h2 : rightB t <;> simp

theorem common_f {s t : ByteArray} (h : s.size ≤ 140737488351232) (h2 : t.size ≤ 140737488351232) : name_Common.f s t = some (commonW s t) := if_pos ⟨h, h2⟩

theorem examples_f (k : Nat) (hk : 40 ≤ k) : guidepostlaw01_examples.f k = some true := by
  obtain ⟨j, rfl⟩ : ∃ j, k = 40 + j := ⟨k - 40, by omega⟩
  have h : guidepostlaw01_examples.f 40 = some true := by decide +kernel
  clear hk
  induction j with
  | zero => exact h
  | succ j ih => exact guidepostlaw01_examples.mono _ _ ih

theorem child_bad (k : Nat) (hk : 1 ≤ k) (x n : ByteArray) (hx : x.size ≤ 140737488351232) (hn : n.size ≤ 140737488351232) (h : rightB n = false ∨ ¬ okL x.data.toList) : name_Child.f k x n = some (⟨#[]⟩, 2) := by
  obtain ⟨k, rfl⟩ : ∃ j, k = j + 1 := ⟨k - 1, by omega⟩
  unfold name_Child.f
  rw [right_f hn]
  simp only [Option.bind_some]
  by_cases h1 : rightB n = true
  · rw [if_pos h1]
    have h2 : ¬ (1 ≤ x.size ∧ x.size ≤ 63) := by
      rcases h with h | h
      · rw [h1] at h; cases h
      · exact h
    by_cases h3 : (x.size : Int) < 1
    · rw [if_pos h3, name_Child.j0, if_pos rfl]
    · have h4 : (x.size : Int) > 63 := by omega
      rw [if_neg h3, decide_eq_true h4, name_Child.j0, if_pos rfl]
  · rw [if_neg h1, name_Child.j0, if_pos rfl]

theorem child_f (k : Nat) (hk : 1 ≤ k) (l : List UInt8) (a : List (List UInt8)) (ha : IsN a) (hl : okL l) : name_Child.f k (mk l) (mk (enc a)) = some (if (enc (l :: a)).length ≤ 255 then (mk (enc (l :: a)), 0) else (⟨#[]⟩, 3)) := by
  obtain ⟨k, rfl⟩ : ∃ j, k = j + 1 := ⟨k - 1, by omega⟩
  have sa : (mk (enc a)).size ≤ 140737488351232 := Nat.le_trans ha.size (by decide)
  have l1 := ha.size
  have hs : (mk l).size = l.length := rfl
  have hsa : (mk (enc a)).size = (enc a).length := rfl
  have hlen : (enc (l :: a)).length = l.length + 1 + (enc a).length := by simp [enc]; omega
  obtain ⟨h1, h2⟩ := hl
  unfold name_Child.f
  rw [right_f sa, ha.right]
  simp only [Option.bind_some, if_true]
  rw [if_neg (by rw [hs]; omega), decide_eq_false (by rw [hs]; omega), name_Child.j0, if_neg (by simp), w64 (((mk (enc a)).size : Int) + 1) (by omega) (by omega), w64 _ (by rw [hs]; omega) (by rw [hs]; omega)]
  by_cases hlong : (enc (l :: a)).length ≤ 255
  · rw [if_pos hlong, if_neg (by rw [hs, hsa]; omega)]
    have e1 : strOfNums [((mk l).size : Int) % 256] = mk [UInt8.ofNat l.length] := by
      rw [hs, show ((l.length : Int) % 256) = (l.length : Int) by omega]; rfl
    simp only [Option.bind_some]
    rw [e1, mk_append, mk_append]
    have e2 : [UInt8.ofNat l.length] ++ l ++ enc a = enc (l :: a) := by simp [enc]
    rw [if_pos (by show 1 + l.length ≤ _; omega), if_pos (by rw [mk_size, mk_size]; simp; omega), e2]
  · rw [if_neg hlong, if_pos (by rw [hs, hsa]; omega)]

theorem append_both {A B : List (List UInt8)} (hA : IsN A) (hB : IsN B) : ∀ x ∈ A ++ B, okL x := fun x hx => by
  rcases List.mem_append.1 hx with h | h
  · exact hA.ok x h
  · exact hB.ok x h
theorem comL_eq {C B : List (List UInt8)} (h : B <:+ C) : (comL C B).map lowL = B.map lowL := by
  have h1 : undL C B = true := undL_suffix h
  have h2 : undL B B = true := undL_suffix (List.suffix_refl _)
  exact undL_anti (comL_long C B B h1 h2) (comL_under C B)

set_option maxRecDepth 100000 in
set_option maxHeartbeats 8000000 in
theorem NameJoins_walk (a0 a1 : ByteArray) (w : World) (w0 : a0.size ≤ 140737488351232) (w1 : a1.size ≤ 140737488351232) :
    Calls Try.prog 9 #[.string a0, .string a1] w fun e w' => e = .returned (.bool true) ∧ Below w.heap.size w w' := by
  obtain ⟨i0, hi, hz0, hz1, hz2⟩ := info_parts Nm.info9
  by_cases hRa : rightB a0 = true
  · by_cases hRb : rightB a1 = true
    · obtain ⟨a, ha, rfl⟩ := right_isN hRa
      obtain ⟨b, hb, rfl⟩ := right_isN hRb
      have n1 := labelsL_len (mk (enc a))
      rw [ha.labels] at n1
      have n2 := labelsL_len (mk (enc b))
      rw [hb.labels] at n2
      have lab1 := ha.labels
      have lab2 := hb.labels
      have hOf := ofW_mk (a ++ b) (append_both ha hb)
      rw [List.map_append] at hOf
      obtain ⟨la, hla⟩ : ∃ q, a.map mk = q := ⟨_, rfl⟩
      obtain ⟨lb, hlb⟩ : ∃ q, b.map mk = q := ⟨_, rfl⟩
      have hal : Hid (la.length = a.length) := Lib.hid (by rw [← hla, List.length_map])
      rw [hla] at n1 lab1 hOf
      rw [hlb] at n2 lab2 hOf
      have hlen : (enc (a ++ b)).length + 1 = (enc a).length + (enc b).length := by
        rw [enc_length, enc_length, enc_length, flat_append, List.length_append]; omega
      have s1 := ha.le
      have s2 := hb.le
      have hok := Lib.hid (append_both ha hb)
      have hHA := Lib.hid ha
      have hHB := Lib.hid hb
      have hLA : Hid (∀ j (h : j < la.length) (h2 : j < a.length), la[j] = mk a[j]) := Lib.hid (fun j h h2 => by subst hla; simp)
      have hBw := Lib.hid (Below.refl w.heap.size w)
      obtain ⟨lc, hlc⟩ : ∃ q, la ++ lb = q := ⟨_, rfl⟩
      have hcl : Hid (la ++ lb = lc ∧ la.length + lb.length = lc.length ∧ lc.length * 16 ≤ 140737488351232) := Lib.hid ⟨hlc, by rw [← hlc, List.length_append], by rw [← hlc, List.length_append]; omega⟩
      rw [hlc] at hOf
      clear ha hb hla hlb hlc
      by_cases hshort : (enc (a ++ b)).length ≤ 255
      · rw [if_pos hshort] at hOf
        have hC : Hid (IsN (a ++ b)) := Lib.hid ⟨hok.out, hshort⟩
        have hOfH := Lib.hid hOf
        clear hOf
        go_enter Try.func9, Try.ntmps9
        go_wp2_with (first
          | (go_at_call 13; refine (guidepostlaw01_examples.calls 40 true _ (examples_f 40 (Nat.le_refl _))).mono ?_; rintro e w2 ⟨rfl, hb2⟩; have hBw := Lib.hid (hBw.out.trans (hb2.mono hBw.out.size)); clear hb2)
          | (go_at_call_of 19 (mk (enc a)); refine (Right_any (mk (enc a)) w0 _).mono ?_; rintro e w2 ⟨rfl, hb2⟩; have hBw := Lib.hid (hBw.out.trans (hb2.mono hBw.out.size)); clear hb2; rw [hRa])
          | (go_at_call_of 19 (mk (enc b)); refine (Right_any (mk (enc b)) w1 _).mono ?_; rintro e w3 ⟨rfl, hb2⟩; have hBw := Lib.hid (hBw.out.trans (hb2.mono hBw.out.size)); clear hb2; rw [hRb])
          | (go_at_call_of 18 (mk (enc a)); refine (Labels_any (mk (enc a)) w0 _).mono ?_; rintro e w4 ⟨v, rfl, hrow, hb2⟩; have hBw := Lib.hid (hBw.out.trans (hb2.mono hBw.out.size)); rw [lab1] at hrow; obtain ⟨A, ca, rfl, hRA, hNA, hgA⟩ := own_slice2 hrow; have hRowA := Lib.hid hRA; clear hb2 hrow)
          | (at_builtin; go_loud (refine wpList_append_str rfl _ _ 22 rfl w4.heap.size 9 i0 Try.underlying22 hi hz0 hz1 hz2 v5 _ _ rfl hown6 B lb cb rfl hRowB.out hNB (by omega) hB4.out.size ?_); intro v7 w7 hown7 hgrow7; have hB4 := Lib.hid (hB4.out.grown hgrow7 hB4.out.size (fun k hk => (hown6.lt k hk).1)); clear hgrow7; rw [List.nil_append, ← List.map_append, Nat.zero_add, hcl.out.1, hcl.out.2.1] at hown7; obtain ⟨D, cd, rfl, hRD, hND, hgD⟩ := own_slice2 hown7; have hRowD := Lib.hid hRD)
          | (go_at_call_of 18 (mk (enc b)); refine (Labels_any (mk (enc b)) w1 _).mono ?_; rintro e w6 ⟨v, rfl, hrow, hb2⟩; have hB4 := Lib.hid (hB4.out.trans (hb2.mono hB4.out.size)); rw [lab2] at hrow; obtain ⟨B, cb, rfl, hRB, hNB, hgB⟩ := own_slice2 hrow; have hown6 := own_below hown5 hb2; have hRowB := Lib.hid hRB; clear hb2 hrow)
          | (at_builtin; go_loud (refine wpList_append_str rfl _ _ 22 rfl w4.heap.size 9 i0 Try.underlying22 hi hz0 hz1 hz2 _ 0 [] rfl (World.ownsRow_nil _ _ _ _) A la ca rfl hRowA.out hNA (by omega) (Nat.le_refl _) ?_); intro v5 w5 hown5 hgrow5; have hB4 : Hid (Below w4.heap.size w4 w5) := Lib.hid ((Below.refl _ _).grown hgrow5 (Nat.le_refl _) (fun k hk => by cases hk)); clear hgrow5)
          | (go_at_call 15; refine (Of_any D cd lc _ hRowD.out hcl.out.2.2).mono ?_; rintro e w8 ⟨rfl, hb2⟩; have hB4 := Lib.hid (hB4.out.trans (hb2.mono hB4.out.size)); clear hb2; rw [hOfH.out]))
        go_loopw [9, 10] (fun m i wr => ∃ j : Nat, j ≤ la.length ∧ i = .int .i64 ((j : Int) - 1) ∧ m = .string (mk (enc ((a ++ b).drop j))) ∧ Hid (Below w4.heap.size w4 wr)) (fun _ i _ => (intOf i + 1).toNat)
        case atStart => exact ⟨la.length, Nat.le_refl _, rfl, by rw [hal.out, List.drop_left], hB4⟩
        case round =>
          obtain ⟨j, hj, rfl, rfl, hb⟩ := hrel
          by_cases h0 : j = 0
          · subst h0
            have hBend := Lib.hid (hBw.out.trans (hb.out.mono hBw.out.size))
            have c1 := hC.out.size
            have c1' : (mk (enc (a ++ b))).size ≤ 140737488351232 := Nat.le_trans c1 (by decide)
            have hCm : Hid (commonW (mk (enc (a ++ b))) (mk (enc b)) = (mk (enc (comL (a ++ b) b)), 0)) := Lib.hid (hC.out.common hHB.out)
            have hUn : Hid (underW (mk (enc (a ++ b))) (mk (enc b)) = true) := Lib.hid (by rw [hC.out.under hHB.out]; exact undL_suffix (List.suffix_append _ _))
            have hEq : Hid (eqN (mk (enc (comL (a ++ b) b))) (mk (enc b)) = true) := Lib.hid (by
              rw [(hC.out.com (b := b)).eqn hHB.out, decide_eq_true_eq]; exact comL_eq (List.suffix_append _ _))
            have hcs : (mk (enc (comL (a ++ b) b))).size ≤ 140737488351232 := Nat.le_trans (hC.out.com (b := b)).size (by decide)
            have hsz : ((enc (a ++ b)).length : Int) = ((enc a).length : Int) + ((enc b).length : Int) - 1 := by omega
            have hszb : (((enc (a ++ b)).length : Int) == ((enc a).length : Int) + ((enc b).length : Int) - 1) = true := by rw [beq_iff_eq]; exact hsz
            have s3 := hC.out.le
            rw [List.drop_zero]
            clear hshort hlen
            go_wp2_with (first
              | (go_at_call 31; refine (Common_any _ _ c1' w1 _).mono ?_; rintro e w9 ⟨rfl, hb2⟩; rw [hCm.out]; have hBend := Lib.hid (hBend.out.trans (hb2.mono hBend.out.size)); clear hb2)
              | (go_at_call 25; refine (Under_any _ _ c1' w1 _).mono ?_; rintro e w9 ⟨rfl, hb2⟩; rw [hUn.out]; have hBend := Lib.hid (hBend.out.trans (hb2.mono hBend.out.size)); clear hb2)
              | (go_at_call 23; refine (name_Equal.calls _ _ true _ (by rw [equal_f _ _ hcs w1, hEq.out])).mono ?_; rintro e w9 ⟨rfl, hb2⟩; have hBend := Lib.hid (hBend.out.trans (hb2.mono hBend.out.size)); clear hb2))
            go_ret
            exact ⟨rfl, hBend.out⟩
          · obtain ⟨i, rfl⟩ : ∃ i, j = i + 1 := ⟨j - 1, by omega⟩
            have hlt : i < la.length := by omega
            have hlt2 : i < a.length := by have := hal.out; omega
            obtain ⟨ad, rfl, hc0⟩ := hRowA.out i hlt
            have hc := (World.cell?_of_block (w := w4) (w' := wr) (hb.out.block _ (World.block_lt_of_cell? w4 _ hc0))).trans hc0
            rw [hLA.out i hlt hlt2] at hc
            have hdrop : (a ++ b).drop i = a[i] :: (a ++ b).drop (i + 1) := by
              rw [List.drop_eq_getElem_cons (by rw [List.length_append]; omega), List.getElem_append_left hlt2]
            have hsfx := hC.out.suffix (List.drop_suffix (i + 1) (a ++ b))
            have hsfx2 := hC.out.suffix (List.drop_suffix i (a ++ b))
            have hch := child_f 1 (Nat.le_refl _) a[i] ((a ++ b).drop (i + 1)) hsfx (hok.out _ (List.mem_append_left _ (List.getElem_mem hlt2)))
            rw [← hdrop, if_pos hsfx2.le] at hch
            have hchH := Lib.hid hch
            obtain ⟨x, hx⟩ : ∃ x, a[i] = x := ⟨_, rfl⟩
            rw [hx] at hc hchH
            have e1 : (((i + 1 : Nat) : Int) - 1) = (i : Int) := by omega
            rw [e1]
            clear hdrop hsfx hsfx2 hch hx e1 hshort hlen hc0
            go_wp2_with (go_at_call 27; refine (name_Child.calls 1 _ _ _ _ _ hchH.out).mono ?_; rintro e w9 ⟨rfl, hb2⟩)
            go_roundw
            case rel => exact ⟨i, by omega, by first | rfl | go_num, rfl, Lib.hid (hb.out.trans (hb2.mono hb.out.size))⟩
            case measure => first | (simp [intOf]; done) | (simp [intOf]; omega)
      · rw [if_neg hshort] at hOf
        have hOfH := Lib.hid hOf
        have hgt : 255 < ((enc a).length : Int) + ((enc b).length : Int) - 1 := by omega
        clear hOf
        go_enter Try.func9, Try.ntmps9
        go_wp2_with (first
          | (go_at_call 13; refine (guidepostlaw01_examples.calls 40 true _ (examples_f 40 (Nat.le_refl _))).mono ?_; rintro e w2 ⟨rfl, hb2⟩; have hBw := Lib.hid (hBw.out.trans (hb2.mono hBw.out.size)); clear hb2)
          | (go_at_call_of 19 (mk (enc a)); refine (Right_any (mk (enc a)) w0 _).mono ?_; rintro e w2 ⟨rfl, hb2⟩; have hBw := Lib.hid (hBw.out.trans (hb2.mono hBw.out.size)); clear hb2; rw [hRa])
          | (go_at_call_of 19 (mk (enc b)); refine (Right_any (mk (enc b)) w1 _).mono ?_; rintro e w3 ⟨rfl, hb2⟩; have hBw := Lib.hid (hBw.out.trans (hb2.mono hBw.out.size)); clear hb2; rw [hRb])
          | (go_at_call_of 18 (mk (enc a)); refine (Labels_any (mk (enc a)) w0 _).mono ?_; rintro e w4 ⟨v, rfl, hrow, hb2⟩; have hBw := Lib.hid (hBw.out.trans (hb2.mono hBw.out.size)); rw [lab1] at hrow; obtain ⟨A, ca, rfl, hRA, hNA, hgA⟩ := own_slice2 hrow; have hRowA := Lib.hid hRA; clear hb2 hrow)
          | (at_builtin; go_loud (refine wpList_append_str rfl _ _ 22 rfl w4.heap.size 9 i0 Try.underlying22 hi hz0 hz1 hz2 v5 _ _ rfl hown6 B lb cb rfl hRowB.out hNB (by omega) hB4.out.size ?_); intro v7 w7 hown7 hgrow7; have hB4 := Lib.hid (hB4.out.grown hgrow7 hB4.out.size (fun k hk => (hown6.lt k hk).1)); clear hgrow7; rw [List.nil_append, ← List.map_append, Nat.zero_add, hcl.out.1, hcl.out.2.1] at hown7; obtain ⟨D, cd, rfl, hRD, hND, hgD⟩ := own_slice2 hown7; have hRowD := Lib.hid hRD)
          | (go_at_call_of 18 (mk (enc b)); refine (Labels_any (mk (enc b)) w1 _).mono ?_; rintro e w6 ⟨v, rfl, hrow, hb2⟩; have hB4 := Lib.hid (hB4.out.trans (hb2.mono hB4.out.size)); rw [lab2] at hrow; obtain ⟨B, cb, rfl, hRB, hNB, hgB⟩ := own_slice2 hrow; have hown6 := own_below hown5 hb2; have hRowB := Lib.hid hRB; clear hb2 hrow)
          | (at_builtin; go_loud (refine wpList_append_str rfl _ _ 22 rfl w4.heap.size 9 i0 Try.underlying22 hi hz0 hz1 hz2 _ 0 [] rfl (World.ownsRow_nil _ _ _ _) A la ca rfl hRowA.out hNA (by omega) (Nat.le_refl _) ?_); intro v5 w5 hown5 hgrow5; have hB4 : Hid (Below w4.heap.size w4 w5) := Lib.hid ((Below.refl _ _).grown hgrow5 (Nat.le_refl _) (fun k hk => by cases hk)); clear hgrow5)
          | (go_at_call 15; refine (Of_any D cd lc _ hRowD.out hcl.out.2.2).mono ?_; rintro e w8 ⟨rfl, hb2⟩; have hB4 := Lib.hid (hB4.out.trans (hb2.mono hB4.out.size)); clear hb2; rw [hOfH.out]))
        go_ret
        exact ⟨rfl, hBw.out.trans (hB4.out.mono hBw.out.size)⟩
    · have hRb' : rightB a1 = false := by simpa using hRb
      have hBw := Lib.hid (Below.refl w.heap.size w)
      go_enter Try.func9, Try.ntmps9
      go_wp2_with (first
        | (go_at_call 13; refine (guidepostlaw01_examples.calls 40 true _ (examples_f 40 (Nat.le_refl _))).mono ?_; rintro e w2 ⟨rfl, hb2⟩; have hBw := Lib.hid (hBw.out.trans (hb2.mono hBw.out.size)); clear hb2)
        | (go_at_call_of 19 a0; refine (Right_any a0 w0 _).mono ?_; rintro e w2 ⟨rfl, hb2⟩; have hBw := Lib.hid (hBw.out.trans (hb2.mono hBw.out.size)); clear hb2; rw [hRa])
        | (go_at_call_of 19 a1; refine (Right_any a1 w1 _).mono ?_; rintro e w3 ⟨rfl, hb2⟩; have hBw := Lib.hid (hBw.out.trans (hb2.mono hBw.out.size)); clear hb2; rw [hRb']))
      go_ret
      exact ⟨rfl, hBw.out⟩
  · have hRa' : rightB a0 = false := by simpa using hRa
    have hBw := Lib.hid (Below.refl w.heap.size w)
    go_enter Try.func9, Try.ntmps9
    go_wp2_with (first
      | (go_at_call 13; refine (guidepostlaw01_examples.calls 40 true _ (examples_f 40 (Nat.le_refl _))).mono ?_; rintro e w2 ⟨rfl, hb2⟩; have hBw := Lib.hid (hBw.out.trans (hb2.mono hBw.out.size)); clear hb2)
      | (go_at_call_of 19 a0; refine (Right_any a0 w0 _).mono ?_; rintro e w2 ⟨rfl, hb2⟩; have hBw := Lib.hid (hBw.out.trans (hb2.mono hBw.out.size)); clear hb2; rw [hRa']))
    go_ret
    exact ⟨rfl, hBw.out⟩

end Go.Proofs.Ytlikkpeaepankaa.Pure
