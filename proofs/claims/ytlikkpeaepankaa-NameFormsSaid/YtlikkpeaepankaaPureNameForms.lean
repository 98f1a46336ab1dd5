/- The plain law of NameForms: no program in sight. -/
import Derived.Test.YtlikkpeaepankaaPNameFormsx2
import Derived.Test.YtlikkpeaepankaaNmZ
import Derived.Test.YtlikkpeaepankaaNmW
namespace Go.Proofs.Ytlikkpeaepankaa.Pure
open Go.RowKit Go.Proofs.Ytlikkpeaepankaa.PNameForms Go.Proofs.YtlikkpeaepankaaW.PrintWords Go.Proofs.YtlikkpeaepankaaW.PrintLast Go.Proofs.YtlikkpeaepankaaW.PrintMore Go.Proofs.Ytlikkpeaepankaa.Nm
set_option linter.unusedSimpArgs false
set_option linter.unusedVariables false

theorem w64 (n : Int) (h0 : -9223372036854775808 ≤ n) (h1 : n < 9223372036854775808) : wrap64 n = n := by unfold wrap64; omega
theorem right_f {s : ByteArray} (h : s.size ≤ 140737488351232) : name_Right.f s = some (rightB s) := if_pos h
theorem lower_f {s : ByteArray} (h : s.size ≤ 140737488351232) : name_Lower.f s = some (lowerW s) := if_pos h
theorem labels_f {s : ByteArray} (h : s.size ≤ 140737488351232) : name_Labels.f s = some (labelsL s) := if_pos h
theorem under_f {s t : ByteArray} (h : s.size ≤ 140737488351232) (h2 : t.size ≤ 140737488351232) : name_Under.f s t = some (underW s t) := if_pos ⟨h, h2⟩

theorem cmp_l0 : ∀ (n : Nat) (X Y : List ByteArray) (k : Nat), X.length = n → 2 * n + 2 ≤ k → n < 4611686018427387904 → Y.length < 4611686018427387904 → name_Compare.l0 k X Y = some (cmpR X.reverse Y.reverse) := by
  intro n
  induction n with
  | zero =>
    intro X Y k hX hk _ hY
    obtain rfl := List.length_eq_zero_iff.1 hX
    obtain ⟨k, rfl⟩ : ∃ j, k = j + 2 := ⟨k - 2, by omega⟩
    rw [name_Compare.l0, if_neg (by simp), name_Compare.j2, if_neg (by simp)]
    rcases List.eq_nil_or_concat Y with rfl | ⟨Y', y, rfl⟩
    · rfl
    · have : ((Y'.concat y).length : Int) ≥ 1 := by simp; omega
      rw [List.concat_eq_append, List.reverse_append]
      simp [cmpR, mn]
      omega
  | succ n ih =>
    intro X Y k hX hk hn hY
    rcases List.eq_nil_or_concat X with rfl | ⟨X', x, rfl⟩
    · cases hX
    rw [List.concat_eq_append] at hX ⊢
    have hX' : X'.length = n := by simpa using hX
    obtain ⟨k, rfl⟩ : ∃ j, k = j + 2 := ⟨k - 2, by omega⟩
    rw [name_Compare.l0, if_pos (by simp), name_Compare.j2]
    rcases List.eq_nil_or_concat Y with rfl | ⟨Y', y, rfl⟩
    · rw [if_neg (by simp), List.reverse_append]
      simp [cmpR, mn]
      omega
    rw [List.concat_eq_append] at hY ⊢
    have e1 : ((X' ++ [x]).length : Int) = X'.length + 1 := by simp
    have e2 : ((Y' ++ [y]).length : Int) = Y'.length + 1 := by simp
    have hY' : Y'.length < 4611686018427387904 := by simp at hY; omega
    rw [if_pos (by rw [decide_eq_true_eq, e2]; omega), e1, e2, w64 _ (by omega) (by omega), w64 _ (by omega) (by omega),
      show (X'.length : Int) + 1 - 1 = X'.length by omega, show (Y'.length : Int) + 1 - 1 = Y'.length by omega,
      if_pos (by omega), if_pos (by omega), if_pos (by omega), if_pos (by omega)]
    have g1 : rdOf ByteArray.empty (X' ++ [x]) (X'.length : Int) = x := by simp [rdOf]
    have g2 : rdOf ByteArray.empty (Y' ++ [y]) (Y'.length : Int) = y := by simp [rdOf]
    rw [g1, g2, Int.toNat_natCast, Int.toNat_natCast, List.take_left, List.take_left, List.reverse_append, List.reverse_append]
    show (if cB x.data.toList y.data.toList = 0 then _ else _) = _
    simp only [List.reverse_cons, List.reverse_nil, List.nil_append, List.cons_append, cmpR]
    by_cases hc : cB x.data.toList y.data.toList = 0
    · rw [if_pos hc, if_pos hc, if_pos (by omega), if_pos (by omega)]
      exact ih X' Y' k hX' (by omega) (by omega) hY'
    · rw [if_neg hc, if_neg hc]

theorem labelsL_len (s : ByteArray) : (labelsL s).length ≤ 128 := by
  unfold labelsL
  split
  · rename_i h
    have h1 := labs_length s _ 0 rfl
    have h2 : s.size ≤ 255 := by unfold rightB at h; simp at h; omega
    rw [List.length_map]; omega
  · simp

theorem cmp_f (k : Nat) (hk : 300 ≤ k) (s t : ByteArray) (hs : s.size ≤ 140737488351232) (ht : t.size ≤ 140737488351232) : name_Compare.f k s t = some (cmpN s t) := by
  unfold name_Compare.f cmpN
  rw [right_f hs, right_f ht]
  obtain ⟨k, rfl⟩ : ∃ j, k = j + 1 := ⟨k - 1, by omega⟩
  have hls : (lowerW s).size ≤ 140737488351232 := by rw [lowerW_size]; exact hs
  have hlt : (lowerW t).size ≤ 140737488351232 := by rw [lowerW_size]; exact ht
  have n1 := labelsL_len (lowerW s)
  have n2 := labelsL_len (lowerW t)
  have hl := cmp_l0 _ (labelsL (lowerW s)) (labelsL (lowerW t)) k rfl (by omega) (by omega) (by omega)
  cases h1 : rightB s <;> cases h2 : rightB t <;> simp [name_Compare.j0, strings_Compare.f, lower_f hs, lower_f ht, labels_f hls, labels_f hlt, hl, cB]

theorem examples_f (k : Nat) (hk : 40 ≤ k) : guidepostlaw01_examples.f k = some true := by
  obtain ⟨j, rfl⟩ : ∃ j, k = 40 + j := ⟨k - 40, by omega⟩
  have h : guidepostlaw01_examples.f 40 = some true := by decide +kernel
  clear hk
  induction j with
  | zero => exact h
  | succ j ih => exact guidepostlaw01_examples.mono _ _ ih

set_option maxRecDepth 100000 in
set_option maxHeartbeats 8000000 in
theorem NameForms_walk (a0 : ByteArray) (A1 : Option Addr) (c1 : Nat) (l1 : List ByteArray) (w : World) (w0 : a0.size ≤ 140737488351232) (hr1 : StrRow w A1 l1) (hA1 : A1 = none → c1 = 0 ∧ l1 = []) (hn1 : l1.length * 16 ≤ 140737488351232) :
    Calls Try.prog 3 #[.string a0, .slice A1 l1.length c1] w fun e w' => e = .returned (.bool true) ∧ Below w.heap.size w w' := by
  obtain ⟨i0, hi, hz0, hz1, hz2⟩ := info_parts Nm.info9
  have hl := labelsL_len a0
  obtain ⟨L, hL⟩ : ∃ L, labelsL a0 = L := ⟨_, rfl⟩
  obtain ⟨R, hR⟩ : ∃ R, rightB a0 = R := ⟨_, rfl⟩
  obtain ⟨o1, o2, hO⟩ : ∃ o1 o2, ofW l1 = (o1, o2) := ⟨_, _, rfl⟩
  rw [hL] at hl
  have hln : L.length * 16 ≤ 140737488351232 := by omega
  have hRow1 := Lib.hid hr1
  have hLH := Lib.hid hL
  have hRH := Lib.hid hR
  have hOH := Lib.hid hO
  have hBw := Lib.hid (Below.refl w.heap.size w)
  clear hr1 hL hR hO
  go_enter Try.func3, Try.ntmps3
  go_wp2_with (first
    | (go_at_call 13; refine (guidepostlaw01_examples.calls 40 true _ (examples_f 40 (Nat.le_refl _))).mono ?_; rintro e w2 ⟨rfl, hb2⟩; have hBw := Lib.hid (hBw.out.trans (hb2.mono hBw.out.size)); clear hb2)
    | (go_at_call 14; refine (Labels_ref _ w0 _).mono ?_; rintro e w3 ⟨v, rfl, hrow, hb2⟩; have hBw := Lib.hid (hBw.out.trans (hb2.mono hBw.out.size)); rw [hLH.out] at hrow; rw [hRH.out]; obtain ⟨Aw, cw, rfl, hRW, hNW, hgW⟩ := own_slice2 hrow; have hRowW := Lib.hid hRW; clear hb2 hrow)
    | (at_builtin; go_loud (refine wpList_append_str rfl _ _ 22 rfl w3.heap.size 9 i0 Try.underlying22 hi hz0 hz1 hz2 _ 0 [] rfl (World.ownsRow_nil _ _ _ _) A1 l1 c1 rfl (hRow1.out.below hBw.out) hA1 (by omega) (Nat.le_refl _) ?_); intro v4 w4 hown4 hgrow4; have hB3 : Hid (Below w3.heap.size w3 w4) := Lib.hid ((Below.refl _ _).grown hgrow4 (Nat.le_refl _) (fun k hk => by cases hk)); have hBw := Lib.hid (hBw.out.trans (hB3.out.mono hBw.out.size)); clear hgrow4; rw [List.nil_append, Nat.zero_add] at hown4; obtain ⟨Ao, co, rfl, hRO, hNO, hgO⟩ := own_slice2 hown4; have hRowO := Lib.hid hRO)
    | (go_at_call 15; refine (Of_any Ao co l1 _ hRowO.out hn1).mono ?_; rintro e w5 ⟨rfl, hb2⟩; rw [hOH.out]; have hB4 := Lib.hid hb2; clear hb2)
    | (go_at_call 16; refine (Of_ref A1 c1 l1 _ (hRow1.out.below (hBw.out.trans (hB4.out.mono hBw.out.size))) hn1).mono ?_; rintro e w6 ⟨rfl, hb2⟩; rw [hOH.out]; have hB4 := Lib.hid (hB4.out.trans (hb2.mono hB4.out.size)); clear hb2)
    | (go_at_call 17; refine (texts_same Ao A1 co c1 l1 _ (hRowO.out.below hB4.out) (hRow1.out.below (hBw.out.trans (hB4.out.mono hBw.out.size))) hn1).mono ?_; rintro e w7 ⟨rfl, hb2⟩; have hB4 := Lib.hid (hB4.out.trans (hb2.mono hB4.out.size)); clear hb2))
  have hB37 : Hid (Below w3.heap.size w3 w7) := Lib.hid (hB3.out.trans (hB4.out.mono hB3.out.size))
  have hBw3 : Hid (Below w.heap.size w w7) := Lib.hid (hBw.out.trans (hB4.out.mono hBw.out.size))
  clear hB3 hB4 hBw hRowO hown4 hNO hgO hRow1 hRO hNW hgW hRW hOH hA1
  go_loopw [14] (fun v wr => ∃ t : Nat, t ≤ 2 ∧ v = .int .i64 t ∧ Hid (Below w7.heap.size w7 wr)) (fun v _ => 2 - (intOf v).toNat)
  case atStart => exact ⟨0, by omega, rfl, Lib.hid (Below.refl _ _)⟩
  case round =>
    obtain ⟨t, ht, rfl, hb⟩ := hrel
    have hB3 : Hid (Below w3.heap.size w3 wr) := Lib.hid (hB37.out.trans (hb.out.mono hB37.out.size))
    by_cases hlt : t < 2
    · have hlt' : (t : Int) < 2 := by omega
      go_wp2_with (first
        | (go_at_call 18; refine (Labels_any _ w0 _).mono ?_; rintro e w8 ⟨v, rfl, hrow, hb2⟩; have hB8 := Lib.hid hb2; rw [hLH.out] at hrow; obtain ⟨Al, cl, rfl, hRL, hNL, hgL⟩ := own_slice2 hrow; have hRowL := Lib.hid hRL; clear hb2)
        | (go_at_call 17; refine (texts_same Al Aw cl cw L _ hRowL.out (hRowW.out.below (hB3.out.trans (hB8.out.mono hB3.out.size))) hln).mono ?_; rintro e w9 ⟨rfl, hb2⟩; have hrow9 := own_below hrow hb2; have hB8 := Lib.hid (hB8.out.trans (hb2.mono hB8.out.size)); clear hb2))
      clear hRowL hRL hNL hgL hrow
      have hst : Hid (∃ xs, w9.ownsRow wr.heap.size 9 1 (.slice Al L.length cl) L.length xs) := Lib.hid ⟨_, hrow9⟩
      clear hrow9
      go_loopw [17] (fun v wq => ∃ i : Nat, i ≤ L.length ∧ v = .int .i64 i ∧ Hid (∃ xs, wq.ownsRow wr.heap.size 9 1 (.slice Al L.length cl) L.length xs) ∧ Hid (Below wr.heap.size wr wq)) (fun v _ => L.length - (intOf v).toNat)
      case atStart => exact ⟨0, Nat.zero_le _, rfl, hst, hB8⟩
      case round =>
        obtain ⟨i, hi2, rfl, hxs, hb5⟩ := hrel
        by_cases hli : i < L.length
        · have hli' : (i : Int) < L.length := by omega
          obtain ⟨xs, hx⟩ := hxs.out
          obtain ⟨g, cap, hv, hg1, hg2⟩ := hx.form (by omega)
          cases hv
          obtain ⟨u, hc⟩ : ∃ u, wr.cell? ⟨g, i, none⟩ = some u := ⟨_, by rw [hx.cellAt i (by omega), List.getElem?_eq_getElem (by have := hx.1; omega)]⟩
          have hf := hx.frozenAt i
          have hset := (hx.stored i (.string ⟨#[63]⟩)).1
          have hsetH := Lib.hid hset
          clear hset hx hxs hst
          go_wp2
          go_roundw
          case rel => exact ⟨i + 1, by omega, by go_num, Lib.hid ⟨_, hsetH.out⟩, Lib.hid (hb5.out.setCell (p := ⟨g, i, none⟩) hg1 _)⟩
          case measure => simp [intOf]; omega
        · have hli' : ¬ (i : Int) < L.length := by omega
          go_wp2
          go_roundw
          case rel => exact ⟨t + 1, by omega, by go_num, Lib.hid (hb.out.trans (hb5.out.mono hb.out.size))⟩
          case measure => simp [intOf]; omega
    · obtain rfl : t = 2 := by omega
      have hBend := Lib.hid (hBw3.out.trans (hb.out.mono hBw3.out.size))
      clear hB3 hb
      go_wp2_with (first
        | (go_at_call 19; refine (Right_any _ w0 _).mono ?_; rintro e w8 ⟨rfl, hb2⟩; rw [hRH.out]; have hBend := Lib.hid (hBend.out.trans (hb2.mono hBend.out.size)); clear hb2)
        | (go_at_call 20; refine (Lower_any _ w0 _).mono ?_; rintro e w8 ⟨rfl, hb2⟩; have hBend := Lib.hid (hBend.out.trans (hb2.mono hBend.out.size)); clear hb2)
        | (go_at_call 21; refine (Lower_ref _ w0 _).mono ?_; rintro e w8 ⟨rfl, hb2⟩; have hBend := Lib.hid (hBend.out.trans (hb2.mono hBend.out.size)); clear hb2))
      go_ret
      exact ⟨by simp, hBend.out⟩

end Go.Proofs.Ytlikkpeaepankaa.Pure
