-- WRITTEN BY hprint (a program of this session) over the kit's print
import Derived.Test.YtlikkpeaepankaaPNameOrderx0
import Derived.Test.YtlikkpeaepankaaPNameOrderx1
import Derived.Test.YtlikkpeaepankaaPNameOrderx2
namespace Go.Proofs.Ytlikkpeaepankaa.PNameOrder
open Go.RowKit Go.Proofs.YtlikkpeaepankaaW.PrintWords Go.Proofs.YtlikkpeaepankaaW.PrintLast Go.Proofs.YtlikkpeaepankaaW.PrintMore
attribute [local go_sem] max2_int min2_int max_two min_two max_three min_three max_four min_four   -- for this text's walks alone
set_option linter.unusedVariables false
set_option linter.unusedSimpArgs false

/-! ### guidepostlaw01_NameOrder: function 4 -/
mutual
def guidepostlaw01_NameOrder.j0 : Nat → ByteArray → ByteArray → Bool → Int → Int → Int → Bool → Option (Bool)
  | 0, _, _, _, _, _, _, _ => none
  | k + 1, x0, x1, x7, x8, x9, x10, x32 => if x32 = true then (some false) else (if x8 ≤ 0 then (if x9 ≤ 0 then (if x10 > 0 then (guidepostlaw01_NameOrder.j1 k x0 x1 x7 x8 true) else (if x8 ≥ 0 then (if x9 ≥ 0 then (guidepostlaw01_NameOrder.j1 k x0 x1 x7 x8 (decide (x10 < 0))) else (guidepostlaw01_NameOrder.j1 k x0 x1 x7 x8 false)) else (guidepostlaw01_NameOrder.j1 k x0 x1 x7 x8 false))) else (if x8 ≥ 0 then (if x9 ≥ 0 then (guidepostlaw01_NameOrder.j1 k x0 x1 x7 x8 (decide (x10 < 0))) else (guidepostlaw01_NameOrder.j1 k x0 x1 x7 x8 false)) else (guidepostlaw01_NameOrder.j1 k x0 x1 x7 x8 false))) else (if x8 ≥ 0 then (if x9 ≥ 0 then (guidepostlaw01_NameOrder.j1 k x0 x1 x7 x8 (decide (x10 < 0))) else (guidepostlaw01_NameOrder.j1 k x0 x1 x7 x8 false)) else (guidepostlaw01_NameOrder.j1 k x0 x1 x7 x8 false)))
def guidepostlaw01_NameOrder.j1 : Nat → ByteArray → ByteArray → Bool → Int → Bool → Option (Bool)
  | 0, _, _, _, _, _ => none
  | k + 1, x0, x1, x7, x8, x54 => if x54 = true then (some false) else (if x7 = true then (if x8 = 0 then (if x0.toList = x1.toList then ((name_Equal.f x0 x1).bind fun t168 => (if t168 = true then (some (x8 == 0)) else (some true))) else ((name_Equal.f x0 x1).bind fun t169 => (if t169 = true then ((name_Equal.f x0 x1).bind fun t170 => (if t170 = true then (some (x8 == 0)) else (some true))) else (some false)))) else ((name_Equal.f x0 x1).bind fun t171 => (if t171 = true then (some (x8 == 0)) else (some true)))) else (some false))
end
def guidepostlaw01_NameOrder.f (k : Nat) (a0 : ByteArray) (a1 : ByteArray) (a2 : ByteArray) : Option (Bool) := (guidepostlaw01_examples.f k).bind fun t162 => ((name_Compare.f k a0 a1).bind fun t163 => ((name_Compare.f k a1 a2).bind fun t164 => ((name_Compare.f k a0 a2).bind fun t165 => ((name_Compare.f k a1 a0).bind fun t166 => (if t163 = (wrap64 (-t166)) then ((name_Compare.f k a0 a0).bind fun t167 => (guidepostlaw01_NameOrder.j0 k a0 a1 t162 t163 t164 t165 (t167 != 0))) else (guidepostlaw01_NameOrder.j0 k a0 a1 t162 t163 t164 t165 true))))))
theorem guidepostlaw01_NameOrder.mono_l : ∀ k, (∀ y0 y1 y2 y3 y4 y5 y6, LeO (guidepostlaw01_NameOrder.j0 k y0 y1 y2 y3 y4 y5 y6) (guidepostlaw01_NameOrder.j0 (k + 1) y0 y1 y2 y3 y4 y5 y6)) ∧ (∀ y0 y1 y2 y3 y4, LeO (guidepostlaw01_NameOrder.j1 k y0 y1 y2 y3 y4) (guidepostlaw01_NameOrder.j1 (k + 1) y0 y1 y2 y3 y4))
  | 0 => ⟨fun _ _ _ _ _ _ _ r h => by simp [guidepostlaw01_NameOrder.j0] at h, fun _ _ _ _ _ r h => by simp [guidepostlaw01_NameOrder.j1] at h⟩
  | k + 1 => by
    obtain ⟨ih0, ih1⟩ := guidepostlaw01_NameOrder.mono_l k
    refine ⟨?_, ?_⟩
    · intro y0 y1 y2 y3 y4 y5 y6
      unfold guidepostlaw01_NameOrder.j0
      repeat' first
      | (with_reducible exact ih0 _ _ _ _ _ _ _)
      | (with_reducible exact ih1 _ _ _ _ _)
      | (with_reducible exact guidepostlaw01_examples.mono _)
      | (with_reducible exact name_Compare.mono _ _ _)
      | (with_reducible exact LeO.refl _)
      | (with_reducible exact LeO.none _)
      | (with_reducible refine LeO.ite ?_ ?_)
      | (with_reducible refine LeO.bind ?_ (fun _ => ?_))
      | exact ih0 _ _ _ _ _ _ _
      | exact ih1 _ _ _ _ _
      | exact guidepostlaw01_examples.mono _
      | exact name_Compare.mono _ _ _
      | exact LeO.none _
      | refine LeO.ite ?_ ?_
      | refine LeO.bind ?_ (fun _ => ?_)
    · intro y0 y1 y2 y3 y4
      unfold guidepostlaw01_NameOrder.j1
      repeat' first
      | (with_reducible exact ih0 _ _ _ _ _ _ _)
      | (with_reducible exact ih1 _ _ _ _ _)
      | (with_reducible exact guidepostlaw01_examples.mono _)
      | (with_reducible exact name_Compare.mono _ _ _)
      | (with_reducible exact LeO.refl _)
      | (with_reducible exact LeO.none _)
      | (with_reducible refine LeO.ite ?_ ?_)
      | (with_reducible refine LeO.bind ?_ (fun _ => ?_))
      | exact ih0 _ _ _ _ _ _ _
      | exact ih1 _ _ _ _ _
      | exact guidepostlaw01_examples.mono _
      | exact name_Compare.mono _ _ _
      | exact LeO.none _
      | refine LeO.ite ?_ ?_
      | refine LeO.bind ?_ (fun _ => ?_)
theorem guidepostlaw01_NameOrder.mono : ∀ a0 a1 a2 k, LeO (guidepostlaw01_NameOrder.f k a0 a1 a2) (guidepostlaw01_NameOrder.f (k + 1) a0 a1 a2) := by
  intro a0 a1 a2 k
  obtain ⟨ih0, ih1⟩ := guidepostlaw01_NameOrder.mono_l k
  unfold guidepostlaw01_NameOrder.f
  repeat' first
      | (with_reducible exact ih0 _ _ _ _ _ _ _)
      | (with_reducible exact ih1 _ _ _ _ _)
      | (with_reducible exact guidepostlaw01_examples.mono _)
      | (with_reducible exact name_Compare.mono _ _ _)
      | (with_reducible exact LeO.refl _)
      | (with_reducible exact LeO.none _)
      | (with_reducible refine LeO.ite ?_ ?_)
      | (with_reducible refine LeO.bind ?_ (fun _ => ?_))
      | exact ih0 _ _ _ _ _ _ _
      | exact ih1 _ _ _ _ _
      | exact guidepostlaw01_examples.mono _
      | exact name_Compare.mono _ _ _
      | exact LeO.none _
      | refine LeO.ite ?_ ?_
      | refine LeO.bind ?_ (fun _ => ?_)
set_option maxHeartbeats 8000000 in
set_option maxRecDepth 100000 in
theorem guidepostlaw01_NameOrder.calls (k : Nat) (a0 : ByteArray) (a1 : ByteArray) (a2 : ByteArray) (r : Bool) (w : World) (h : guidepostlaw01_NameOrder.f k a0 a1 a2 = some r) :
    Calls Try.prog 4 #[.string a0, .string a1, .string a2] w fun e w' => e = .returned (.bool r) ∧ Below w.heap.size w w' := by
  have HB := Aside0.mk (Below.refl w.heap.size w)
  have H : ((guidepostlaw01_examples.f k).bind fun t162 => ((name_Compare.f k a0 a1).bind fun t163 => ((name_Compare.f k a1 a2).bind fun t164 => ((name_Compare.f k a0 a2).bind fun t165 => ((name_Compare.f k a1 a0).bind fun t166 => (if t163 = (wrap64 (-t166)) then ((name_Compare.f k a0 a0).bind fun t167 => (guidepostlaw01_NameOrder.j0 k a0 a1 t162 t163 t164 t165 (t167 != 0))) else (guidepostlaw01_NameOrder.j0 k a0 a1 t162 t163 t164 t165 true))))))) = some r := h
  clear h
  replace H := Option.bind_eq_some_iff.mp H
  obtain ⟨t162, A40, H⟩ := H
  replace H : ((name_Compare.f k a0 a1).bind fun t163 => ((name_Compare.f k a1 a2).bind fun t164 => ((name_Compare.f k a0 a2).bind fun t165 => ((name_Compare.f k a1 a0).bind fun t166 => (if t163 = (wrap64 (-t166)) then ((name_Compare.f k a0 a0).bind fun t167 => (guidepostlaw01_NameOrder.j0 k a0 a1 t162 t163 t164 t165 (t167 != 0))) else (guidepostlaw01_NameOrder.j0 k a0 a1 t162 t163 t164 t165 true)))))) = some r := H
  have A4 := Aside0.mk A40
  clear A40
  replace H := Option.bind_eq_some_iff.mp H
  obtain ⟨t163, A50, H⟩ := H
  replace H : ((name_Compare.f k a1 a2).bind fun t164 => ((name_Compare.f k a0 a2).bind fun t165 => ((name_Compare.f k a1 a0).bind fun t166 => (if t163 = (wrap64 (-t166)) then ((name_Compare.f k a0 a0).bind fun t167 => (guidepostlaw01_NameOrder.j0 k a0 a1 t162 t163 t164 t165 (t167 != 0))) else (guidepostlaw01_NameOrder.j0 k a0 a1 t162 t163 t164 t165 true))))) = some r := H
  have A5 := Aside0.mk A50
  clear A50
  replace H := Option.bind_eq_some_iff.mp H
  obtain ⟨t164, A60, H⟩ := H
  replace H : ((name_Compare.f k a0 a2).bind fun t165 => ((name_Compare.f k a1 a0).bind fun t166 => (if t163 = (wrap64 (-t166)) then ((name_Compare.f k a0 a0).bind fun t167 => (guidepostlaw01_NameOrder.j0 k a0 a1 t162 t163 t164 t165 (t167 != 0))) else (guidepostlaw01_NameOrder.j0 k a0 a1 t162 t163 t164 t165 true)))) = some r := H
  have A6 := Aside0.mk A60
  clear A60
  replace H := Option.bind_eq_some_iff.mp H
  obtain ⟨t165, A70, H⟩ := H
  replace H : ((name_Compare.f k a1 a0).bind fun t166 => (if t163 = (wrap64 (-t166)) then ((name_Compare.f k a0 a0).bind fun t167 => (guidepostlaw01_NameOrder.j0 k a0 a1 t162 t163 t164 t165 (t167 != 0))) else (guidepostlaw01_NameOrder.j0 k a0 a1 t162 t163 t164 t165 true))) = some r := H
  have A7 := Aside0.mk A70
  clear A70
  have HC8 := Aside0.mk H
  clear H
  go_enter Try.func4, Try.ntmps4
  go_upto_region 5 with (first | ((with_reducible refine gate_callee (f := 13) rfl ?_); refine goesL_ (some 11) rfl rfl Try.func13 (by kernel_rfl) rfl #[] rfl (by (try simp only [List.map_toArray, List.map_cons, List.map_nil]); first | done | rfl | (simp only [List.length_drop, List.length_take]; rfl)) ?_; (with_reducible refine (guidepostlaw01_examples.calls k  t162 _ A4.out).mono ?_); rintro e w9 ⟨rfl, hb⟩; refine ⟨_, rfl, ?_⟩; have n0_ := Aside0.mk (below_step (by repeat (first | (with_reducible first | exact HB.out | apply below_alloc | apply pw_below_drewN | apply below_drew1) | exact HB.out)) hb); clear HB; have HB := n0_; clear n0_; (try clear hb); (try clear hb2); (try clear hk); (try clear hi)) | ((with_reducible refine gate_callee (f := 22) rfl ?_); refine goesL_ (some 14) rfl rfl Try.func22 (by kernel_rfl) rfl #[.string a0, .string a1] rfl (by (try simp only [List.map_toArray, List.map_cons, List.map_nil]); first | done | rfl | (simp only [List.length_drop, List.length_take]; rfl)) ?_; (with_reducible refine (name_Compare.calls k a0 a1 t163 _ A5.out).mono ?_); rintro e w10 ⟨rfl, hb⟩; refine ⟨_, rfl, ?_⟩; have n0_ := Aside0.mk (below_step (by repeat (first | (with_reducible first | exact HB.out | apply below_alloc | apply pw_below_drewN | apply below_drew1) | exact HB.out)) hb); clear HB; have HB := n0_; clear n0_; (try clear hb); (try clear hb2); (try clear hk); (try clear hi)) | ((with_reducible refine gate_callee (f := 22) rfl ?_); refine goesL_ (some 17) rfl rfl Try.func22 (by kernel_rfl) rfl #[.string a1, .string a2] rfl (by (try simp only [List.map_toArray, List.map_cons, List.map_nil]); first | done | rfl | (simp only [List.length_drop, List.length_take]; rfl)) ?_; (with_reducible refine (name_Compare.calls k a1 a2 t164 _ A6.out).mono ?_); rintro e w11 ⟨rfl, hb⟩; refine ⟨_, rfl, ?_⟩; have n0_ := Aside0.mk (below_step (by repeat (first | (with_reducible first | exact HB.out | apply below_alloc | apply pw_below_drewN | apply below_drew1) | exact HB.out)) hb); clear HB; have HB := n0_; clear n0_; (try clear hb); (try clear hb2); (try clear hk); (try clear hi)) | ((with_reducible refine gate_callee (f := 22) rfl ?_); refine goesL_ (some 20) rfl rfl Try.func22 (by kernel_rfl) rfl #[.string a0, .string a2] rfl (by (try simp only [List.map_toArray, List.map_cons, List.map_nil]); first | done | rfl | (simp only [List.length_drop, List.length_take]; rfl)) ?_; (with_reducible refine (name_Compare.calls k a0 a2 t165 _ A7.out).mono ?_); rintro e w12 ⟨rfl, hb⟩; refine ⟨_, rfl, ?_⟩; have n0_ := Aside0.mk (below_step (by repeat (first | (with_reducible first | exact HB.out | apply below_alloc | apply pw_below_drewN | apply below_drew1) | exact HB.out)) hb); clear HB; have HB := n0_; clear n0_; (try clear hb); (try clear hb2); (try clear hk); (try clear hi)))
  (try simp only [Act.put, List.setIfInBounds_toArray, List.set_cons_zero, List.set_cons_succ])
  go_cut [32] (fun v32 wc => ∃ (kq : Nat) (x32_7 : Bool), v32 = .bool x32_7 ∧ Aside0 (guidepostlaw01_NameOrder.j0 kq a0 a1 t162 t163 t164 t165 x32_7 = some r) ∧ Aside0 (kq ≤ k) ∧ Aside0 (Below w.heap.size w wc))
  case first =>
    have H := HC8.out
    clear HC8
    replace H := Option.bind_eq_some_iff.mp H
    obtain ⟨t166, A130, H⟩ := H
    replace H : (if t163 = (wrap64 (-t166)) then ((name_Compare.f k a0 a0).bind fun t167 => (guidepostlaw01_NameOrder.j0 k a0 a1 t162 t163 t164 t165 (t167 != 0))) else (guidepostlaw01_NameOrder.j0 k a0 a1 t162 t163 t164 t165 true)) = some r := H
    have A13 := Aside0.mk A130
    clear A130
    by_cases c14 : t163 = (wrap64 (-t166))
    · rw [if_pos c14] at H
      have c14b0 : (t163 == (wrap64 (-t166))) = true := beq_iff_eq.mpr c14
      have c14b1 : (t163 != (wrap64 (-t166))) = false := bne_eq_false_iff_eq.mpr c14
      clear c14
      (first | rw [c14b0] | (simp only [i64_w, i32_w]; rw [c14b0]) | skip)
      replace H := Option.bind_eq_some_iff.mp H
      obtain ⟨t167, A150, H⟩ := H
      replace H : (guidepostlaw01_NameOrder.j0 k a0 a1 t162 t163 t164 t165 (t167 != 0)) = some r := H
      have A15 := Aside0.mk A150
      clear A150
      have H' := Aside0.mk H
      clear H
      go_wp2_with (first | ((with_reducible refine gate_callee (f := 22) rfl ?_); refine goesL_ (some 24) rfl rfl Try.func22 (by kernel_rfl) rfl #[.string a1, .string a0] rfl (by (try simp only [List.map_toArray, List.map_cons, List.map_nil]); first | done | rfl | (simp only [List.length_drop, List.length_take]; rfl)) ?_; (with_reducible refine (name_Compare.calls k a1 a0 t166 _ A13.out).mono ?_); rintro e w16 ⟨rfl, hb⟩; refine ⟨_, rfl, ?_⟩; have n0_ := Aside0.mk (below_step (by repeat (first | (with_reducible first | exact HB.out | apply below_alloc | apply pw_below_drewN | apply below_drew1) | exact HB.out)) hb); clear HB; have HB := n0_; clear n0_; (try clear hb); (try clear hb2); (try clear hk); (try clear hi)) | (go_at_call 22; (with_reducible refine (name_Compare.calls k a0 a0 t167 _ A15.out).mono ?_); rintro e w17 ⟨rfl, hb⟩; have n0_ := Aside0.mk (below_step (by repeat (first | (with_reducible first | exact HB.out | apply below_alloc | apply pw_below_drewN | apply below_drew1) | exact HB.out)) hb); clear HB; have HB := n0_; clear n0_; (try clear hb); (try clear hb2); (try clear hk); (try clear hi)))
      go_meet
      case rel => exact ⟨_, ((t167 != 0)), (by first | rfl | (simp; done) | (simp [*]; done)), H', ⟨by first | omega | exact Nat.le_refl _⟩, ⟨by repeat (first | (with_reducible first | exact HB.out | apply below_alloc | apply pw_below_drewN | apply below_drew1) | exact HB.out)⟩⟩
    · rw [if_neg c14] at H
      have c14b0 : (t163 == (wrap64 (-t166))) = false := beq_eq_false_iff_ne.mpr c14
      have c14b1 : (t163 != (wrap64 (-t166))) = true := bne_iff_ne.mpr c14
      (first | rw [c14b0] | (simp only [i64_w, i32_w]; rw [c14b0]) | skip)
      have H' := Aside0.mk H
      clear H
      go_wp2_with (first | ((with_reducible refine gate_callee (f := 22) rfl ?_); refine goesL_ (some 24) rfl rfl Try.func22 (by kernel_rfl) rfl #[.string a1, .string a0] rfl (by (try simp only [List.map_toArray, List.map_cons, List.map_nil]); first | done | rfl | (simp only [List.length_drop, List.length_take]; rfl)) ?_; (with_reducible refine (name_Compare.calls k a1 a0 t166 _ A13.out).mono ?_); rintro e w18 ⟨rfl, hb⟩; refine ⟨_, rfl, ?_⟩; have n0_ := Aside0.mk (below_step (by repeat (first | (with_reducible first | exact HB.out | apply below_alloc | apply pw_below_drewN | apply below_drew1) | exact HB.out)) hb); clear HB; have HB := n0_; clear n0_; (try clear hb); (try clear hb2); (try clear hk); (try clear hi)))
      go_meet
      case rel => exact ⟨_, (true), (by first | rfl | (simp; done) | (simp [*]; done)), H', ⟨by first | omega | exact Nat.le_refl _⟩, ⟨by repeat (first | (with_reducible first | exact HB.out | apply below_alloc | apply pw_below_drewN | apply below_drew1) | exact HB.out)⟩⟩
  case rest =>
    clear HC8
    try clear c1
    try clear c2
    try clear p2
    try clear c4
    try clear p6
    try clear c13
    try clear c14
    try clear c14b0
    try clear c14b1
    obtain ⟨kq, x32_7, rfl, HA, HJ7, HB⟩ := hcut
    cases kq with
    | zero => exact absurd HA.out (by simp [guidepostlaw01_NameOrder.j0])
    | succ kj7 =>
      have H := HA.out
      clear HA
      simp only [guidepostlaw01_NameOrder.j0] at H
      by_cases c19 : x32_7 = true
      · subst c19
        have H1 : (some false) = some r := by rw [if_pos rfl] at H; exact H
        clear H
        have H := H1
        clear H1
        obtain rfl := Option.some.inj H
        go_wp2
        go_ret
        exact ⟨by first | rfl | (simp [errW_none, errW_some] <;> rfl) | (simp [*, errW_none, errW_some] <;> rfl), by repeat (first | (with_reducible first | exact HB.out | apply below_alloc | apply pw_below_drewN | apply below_drew1) | exact HB.out)⟩
      · replace c19 := Bool.eq_false_iff.mpr c19
        subst c19
        have H1 : (if t163 ≤ 0 then (if t164 ≤ 0 then (if t165 > 0 then (guidepostlaw01_NameOrder.j1 kj7 a0 a1 t162 t163 true) else (if t163 ≥ 0 then (if t164 ≥ 0 then (guidepostlaw01_NameOrder.j1 kj7 a0 a1 t162 t163 (decide (t165 < 0))) else (guidepostlaw01_NameOrder.j1 kj7 a0 a1 t162 t163 false)) else (guidepostlaw01_NameOrder.j1 kj7 a0 a1 t162 t163 false))) else (if t163 ≥ 0 then (if t164 ≥ 0 then (guidepostlaw01_NameOrder.j1 kj7 a0 a1 t162 t163 (decide (t165 < 0))) else (guidepostlaw01_NameOrder.j1 kj7 a0 a1 t162 t163 false)) else (guidepostlaw01_NameOrder.j1 kj7 a0 a1 t162 t163 false))) else (if t163 ≥ 0 then (if t164 ≥ 0 then (guidepostlaw01_NameOrder.j1 kj7 a0 a1 t162 t163 (decide (t165 < 0))) else (guidepostlaw01_NameOrder.j1 kj7 a0 a1 t162 t163 false)) else (guidepostlaw01_NameOrder.j1 kj7 a0 a1 t162 t163 false))) = some r := by rw [if_neg (show ¬ (false = true) by decide)] at H; exact H
        clear H
        have H := H1
        clear H1
        have HC20 := Aside0.mk H
        clear H
        go_upto_region 7 with (fail)
        go_cut [54] (fun v54 wc => ∃ (kq : Nat) (x54_19 : Bool), v54 = .bool x54_19 ∧ Aside0 (guidepostlaw01_NameOrder.j1 kq a0 a1 t162 t163 x54_19 = some r) ∧ Aside0 (kq ≤ kj7) ∧ Aside0 (Below w.heap.size w wc))
        case first =>
          have H := HC20.out
          clear HC20
          by_cases c21 : t163 ≤ 0
          · rw [if_pos c21] at H
            have c21b0 : decide (t163 ≤ 0) = true := decide_eq_true c21
            clear c21
            (first | rw [c21b0] | (simp only [i64_w, i32_w]; rw [c21b0]) | skip)
            by_cases c22 : t164 ≤ 0
            · rw [if_pos c22] at H
              have c22b0 : decide (t164 ≤ 0) = true := decide_eq_true c22
              clear c22
              by_cases c23 : t165 > 0
              · rw [if_pos c23] at H
                have c23b0 : decide (0 < t165) = true := decide_eq_true c23
                clear c23
                have H' := Aside0.mk H
                clear H
                go_wp2
                go_meet
                case rel => exact ⟨_, (true), (by first | rfl | (simp; done) | (simp [*]; done)), H', ⟨by have := HJ7.out; first | omega | exact Nat.le_refl _⟩, ⟨by repeat (first | (with_reducible first | exact HB.out | apply below_alloc | apply pw_below_drewN | apply below_drew1) | exact HB.out)⟩⟩
              · rw [if_neg c23] at H
                have c23b0 : decide (0 < t165) = false := decide_eq_false c23
                clear c23
                by_cases c24 : t163 ≥ 0
                · rw [if_pos c24] at H
                  have c24b0 : decide (0 ≤ t163) = true := decide_eq_true c24
                  clear c24
                  by_cases c25 : t164 ≥ 0
                  · rw [if_pos c25] at H
                    have c25b0 : decide (0 ≤ t164) = true := decide_eq_true c25
                    clear c25
                    have H' := Aside0.mk H
                    clear H
                    go_wp2
                    go_meet
                    case rel => exact ⟨_, (decide (t165 < 0)), (by first | rfl | (simp; done) | (simp [*]; done)), H', ⟨by have := HJ7.out; first | omega | exact Nat.le_refl _⟩, ⟨by repeat (first | (with_reducible first | exact HB.out | apply below_alloc | apply pw_below_drewN | apply below_drew1) | exact HB.out)⟩⟩
                  · rw [if_neg c25] at H
                    have c25b0 : decide (0 ≤ t164) = false := decide_eq_false c25
                    clear c25
                    have H' := Aside0.mk H
                    clear H
                    go_wp2
                    go_meet
                    case rel => exact ⟨_, (false), (by first | rfl | (simp; done) | (simp [*]; done)), H', ⟨by have := HJ7.out; first | omega | exact Nat.le_refl _⟩, ⟨by repeat (first | (with_reducible first | exact HB.out | apply below_alloc | apply pw_below_drewN | apply below_drew1) | exact HB.out)⟩⟩
                · rw [if_neg c24] at H
                  have c24b0 : decide (0 ≤ t163) = false := decide_eq_false c24
                  clear c24
                  have H' := Aside0.mk H
                  clear H
                  go_wp2
                  go_meet
                  case rel => exact ⟨_, (false), (by first | rfl | (simp; done) | (simp [*]; done)), H', ⟨by have := HJ7.out; first | omega | exact Nat.le_refl _⟩, ⟨by repeat (first | (with_reducible first | exact HB.out | apply below_alloc | apply pw_below_drewN | apply below_drew1) | exact HB.out)⟩⟩
            · rw [if_neg c22] at H
              have c22b0 : decide (t164 ≤ 0) = false := decide_eq_false c22
              clear c22
              by_cases c26 : t163 ≥ 0
              · rw [if_pos c26] at H
                have c26b0 : decide (0 ≤ t163) = true := decide_eq_true c26
                clear c26
                by_cases c27 : t164 ≥ 0
                · rw [if_pos c27] at H
                  have c27b0 : decide (0 ≤ t164) = true := decide_eq_true c27
                  clear c27
                  have H' := Aside0.mk H
                  clear H
                  go_wp2
                  go_meet
                  case rel => exact ⟨_, (decide (t165 < 0)), (by first | rfl | (simp; done) | (simp [*]; done)), H', ⟨by have := HJ7.out; first | omega | exact Nat.le_refl _⟩, ⟨by repeat (first | (with_reducible first | exact HB.out | apply below_alloc | apply pw_below_drewN | apply below_drew1) | exact HB.out)⟩⟩
                · rw [if_neg c27] at H
                  have c27b0 : decide (0 ≤ t164) = false := decide_eq_false c27
                  clear c27
                  have H' := Aside0.mk H
                  clear H
                  go_wp2
                  go_meet
                  case rel => exact ⟨_, (false), (by first | rfl | (simp; done) | (simp [*]; done)), H', ⟨by have := HJ7.out; first | omega | exact Nat.le_refl _⟩, ⟨by repeat (first | (with_reducible first | exact HB.out | apply below_alloc | apply pw_below_drewN | apply below_drew1) | exact HB.out)⟩⟩
              · rw [if_neg c26] at H
                have c26b0 : decide (0 ≤ t163) = false := decide_eq_false c26
                clear c26
                have H' := Aside0.mk H
                clear H
                go_wp2
                go_meet
                case rel => exact ⟨_, (false), (by first | rfl | (simp; done) | (simp [*]; done)), H', ⟨by have := HJ7.out; first | omega | exact Nat.le_refl _⟩, ⟨by repeat (first | (with_reducible first | exact HB.out | apply below_alloc | apply pw_below_drewN | apply below_drew1) | exact HB.out)⟩⟩
          · rw [if_neg c21] at H
            have c21b0 : decide (t163 ≤ 0) = false := decide_eq_false c21
            clear c21
            (first | rw [c21b0] | (simp only [i64_w, i32_w]; rw [c21b0]) | skip)
            by_cases c28 : t163 ≥ 0
            · rw [if_pos c28] at H
              have c28b0 : decide (0 ≤ t163) = true := decide_eq_true c28
              clear c28
              by_cases c29 : t164 ≥ 0
              · rw [if_pos c29] at H
                have c29b0 : decide (0 ≤ t164) = true := decide_eq_true c29
                clear c29
                have H' := Aside0.mk H
                clear H
                go_wp2
                go_meet
                case rel => exact ⟨_, (decide (t165 < 0)), (by first | rfl | (simp; done) | (simp [*]; done)), H', ⟨by have := HJ7.out; first | omega | exact Nat.le_refl _⟩, ⟨by repeat (first | (with_reducible first | exact HB.out | apply below_alloc | apply pw_below_drewN | apply below_drew1) | exact HB.out)⟩⟩
              · rw [if_neg c29] at H
                have c29b0 : decide (0 ≤ t164) = false := decide_eq_false c29
                clear c29
                have H' := Aside0.mk H
                clear H
                go_wp2
                go_meet
                case rel => exact ⟨_, (false), (by first | rfl | (simp; done) | (simp [*]; done)), H', ⟨by have := HJ7.out; first | omega | exact Nat.le_refl _⟩, ⟨by repeat (first | (with_reducible first | exact HB.out | apply below_alloc | apply pw_below_drewN | apply below_drew1) | exact HB.out)⟩⟩
            · rw [if_neg c28] at H
              have c28b0 : decide (0 ≤ t163) = false := decide_eq_false c28
              clear c28
              have H' := Aside0.mk H
              clear H
              go_wp2
              go_meet
              case rel => exact ⟨_, (false), (by first | rfl | (simp; done) | (simp [*]; done)), H', ⟨by have := HJ7.out; first | omega | exact Nat.le_refl _⟩, ⟨by repeat (first | (with_reducible first | exact HB.out | apply below_alloc | apply pw_below_drewN | apply below_drew1) | exact HB.out)⟩⟩
        case rest =>
          clear HC20
          try clear c1
          try clear c2
          try clear p2
          try clear c4
          try clear p6
          try clear c13
          try clear c14
          try clear c14b0
          try clear c14b1
          try clear c19
          try clear c21
          try clear c21b0
          try clear c22
          try clear c22b0
          try clear c23
          try clear c23b0
          try clear c24
          try clear c24b0
          try clear c25
          try clear c25b0
          try clear c26
          try clear c26b0
          try clear c27
          try clear c27b0
          try clear c28
          try clear c28b0
          try clear c29
          try clear c29b0
          try clear p2
          try clear p6
          obtain ⟨kq, x54_19, rfl, HA, HJ19, HB⟩ := hcut
          cases kq with
          | zero => exact absurd HA.out (by simp [guidepostlaw01_NameOrder.j1])
          | succ kj19 =>
            have H := HA.out
            clear HA
            simp only [guidepostlaw01_NameOrder.j1] at H
            by_cases c30 : x54_19 = true
            · subst c30
              have H1 : (some false) = some r := by rw [if_pos rfl] at H; exact H
              clear H
              have H := H1
              clear H1
              obtain rfl := Option.some.inj H
              go_wp2
              go_ret
              exact ⟨by first | rfl | (simp [errW_none, errW_some] <;> rfl) | (simp [*, errW_none, errW_some] <;> rfl), by repeat (first | (with_reducible first | exact HB.out | apply below_alloc | apply pw_below_drewN | apply below_drew1) | exact HB.out)⟩
            · replace c30 := Bool.eq_false_iff.mpr c30
              subst c30
              have H1 : (if t162 = true then (if t163 = 0 then (if a0.toList = a1.toList then ((name_Equal.f a0 a1).bind fun t168 => (if t168 = true then (some (t163 == 0)) else (some true))) else ((name_Equal.f a0 a1).bind fun t169 => (if t169 = true then ((name_Equal.f a0 a1).bind fun t170 => (if t170 = true then (some (t163 == 0)) else (some true))) else (some false)))) else ((name_Equal.f a0 a1).bind fun t171 => (if t171 = true then (some (t163 == 0)) else (some true)))) else (some false)) = some r := by rw [if_neg (show ¬ (false = true) by decide)] at H; exact H
              clear H
              have H := H1
              clear H1
              by_cases c31 : t162 = true
              · subst c31
                have H1 : (if t163 = 0 then (if a0.toList = a1.toList then ((name_Equal.f a0 a1).bind fun t168 => (if t168 = true then (some (t163 == 0)) else (some true))) else ((name_Equal.f a0 a1).bind fun t169 => (if t169 = true then ((name_Equal.f a0 a1).bind fun t170 => (if t170 = true then (some (t163 == 0)) else (some true))) else (some false)))) else ((name_Equal.f a0 a1).bind fun t171 => (if t171 = true then (some (t163 == 0)) else (some true)))) = some r := by rw [if_pos rfl] at H; exact H
                clear H
                have H := H1
                clear H1
                by_cases c32 : t163 = 0
                · rw [if_pos c32] at H
                  have c32b0 : (t163 == 0) = true := beq_iff_eq.mpr c32
                  have c32b1 : (t163 != 0) = false := bne_eq_false_iff_eq.mpr c32
                  clear c32
                  by_cases c33 : a0.toList = a1.toList
                  · rw [if_pos c33] at H
                    have c33b0 : (a0.toList == a1.toList) = true := beq_iff_eq.mpr c33
                    have c33b1 : (a0.toList != a1.toList) = false := bne_eq_false_iff_eq.mpr c33
                    clear c33
                    replace H := Option.bind_eq_some_iff.mp H
                    obtain ⟨t168, A340, H⟩ := H
                    replace H : (if t168 = true then (some (t163 == 0)) else (some true)) = some r := H
                    have A34 := Aside0.mk A340
                    clear A340
                    by_cases c35 : t168 = true
                    · subst c35
                      have H1 : (some (t163 == 0)) = some r := by rw [if_pos rfl] at H; exact H
                      clear H
                      have H := H1
                      clear H1
                      obtain rfl := Option.some.inj H
                      go_wp2_with (first | (go_at_call 23; (with_reducible refine (name_Equal.calls a0 a1 true _ A34.out).mono ?_); rintro e w36 ⟨rfl, hb⟩; have n0_ := Aside0.mk (below_step (by repeat (first | (with_reducible first | exact HB.out | apply below_alloc | apply pw_below_drewN | apply below_drew1) | exact HB.out)) hb); clear HB; have HB := n0_; clear n0_; (try clear hb); (try clear hb2); (try clear hk); (try clear hi)))
                      go_ret
                      exact ⟨by first | rfl | (simp [errW_none, errW_some] <;> rfl) | (simp [*, errW_none, errW_some] <;> rfl), by repeat (first | (with_reducible first | exact HB.out | apply below_alloc | apply pw_below_drewN | apply below_drew1) | exact HB.out)⟩
                    · replace c35 := Bool.eq_false_iff.mpr c35
                      subst c35
                      have H1 : (some true) = some r := by rw [if_neg (show ¬ (false = true) by decide)] at H; exact H
                      clear H
                      have H := H1
                      clear H1
                      obtain rfl := Option.some.inj H
                      go_wp2_with (first | (go_at_call 23; (with_reducible refine (name_Equal.calls a0 a1 false _ A34.out).mono ?_); rintro e w37 ⟨rfl, hb⟩; have n0_ := Aside0.mk (below_step (by repeat (first | (with_reducible first | exact HB.out | apply below_alloc | apply pw_below_drewN | apply below_drew1) | exact HB.out)) hb); clear HB; have HB := n0_; clear n0_; (try clear hb); (try clear hb2); (try clear hk); (try clear hi)))
                      go_ret
                      exact ⟨by first | rfl | (simp [errW_none, errW_some] <;> rfl) | (simp [*, errW_none, errW_some] <;> rfl), by repeat (first | (with_reducible first | exact HB.out | apply below_alloc | apply pw_below_drewN | apply below_drew1) | exact HB.out)⟩
                  · rw [if_neg c33] at H
                    have c33b0 : (a0.toList == a1.toList) = false := beq_eq_false_iff_ne.mpr c33
                    have c33b1 : (a0.toList != a1.toList) = true := bne_iff_ne.mpr c33
                    replace H := Option.bind_eq_some_iff.mp H
                    obtain ⟨t169, A380, H⟩ := H
                    replace H : (if t169 = true then ((name_Equal.f a0 a1).bind fun t170 => (if t170 = true then (some (t163 == 0)) else (some true))) else (some false)) = some r := H
                    have A38 := Aside0.mk A380
                    clear A380
                    by_cases c39 : t169 = true
                    · subst c39
                      have H1 : ((name_Equal.f a0 a1).bind fun t170 => (if t170 = true then (some (t163 == 0)) else (some true))) = some r := by rw [if_pos rfl] at H; exact H
                      clear H
                      have H := H1
                      clear H1
                      replace H := Option.bind_eq_some_iff.mp H
                      obtain ⟨t170, A400, H⟩ := H
                      replace H : (if t170 = true then (some (t163 == 0)) else (some true)) = some r := H
                      have A40 := Aside0.mk A400
                      clear A400
                      by_cases c41 : t170 = true
                      · subst c41
                        have H1 : (some (t163 == 0)) = some r := by rw [if_pos rfl] at H; exact H
                        clear H
                        have H := H1
                        clear H1
                        obtain rfl := Option.some.inj H
                        go_wp2_with (first | (go_at_call 23; (with_reducible refine (name_Equal.calls a0 a1 true _ A38.out).mono ?_); rintro e w42 ⟨rfl, hb⟩; have n0_ := Aside0.mk (below_step (by repeat (first | (with_reducible first | exact HB.out | apply below_alloc | apply pw_below_drewN | apply below_drew1) | exact HB.out)) hb); clear HB; have HB := n0_; clear n0_; (try clear hb); (try clear hb2); (try clear hk); (try clear hi)) | (go_at_call 23; (with_reducible refine (name_Equal.calls a0 a1 true _ A40.out).mono ?_); rintro e w43 ⟨rfl, hb⟩; have n0_ := Aside0.mk (below_step (by repeat (first | (with_reducible first | exact HB.out | apply below_alloc | apply pw_below_drewN | apply below_drew1) | exact HB.out)) hb); clear HB; have HB := n0_; clear n0_; (try clear hb); (try clear hb2); (try clear hk); (try clear hi)))
                        go_ret
                        exact ⟨by first | rfl | (simp [errW_none, errW_some] <;> rfl) | (simp [*, errW_none, errW_some] <;> rfl), by repeat (first | (with_reducible first | exact HB.out | apply below_alloc | apply pw_below_drewN | apply below_drew1) | exact HB.out)⟩
                      · replace c41 := Bool.eq_false_iff.mpr c41
                        subst c41
                        have H1 : (some true) = some r := by rw [if_neg (show ¬ (false = true) by decide)] at H; exact H
                        clear H
                        have H := H1
                        clear H1
                        obtain rfl := Option.some.inj H
                        go_wp2_with (first | (go_at_call 23; (with_reducible refine (name_Equal.calls a0 a1 true _ A38.out).mono ?_); rintro e w44 ⟨rfl, hb⟩; have n0_ := Aside0.mk (below_step (by repeat (first | (with_reducible first | exact HB.out | apply below_alloc | apply pw_below_drewN | apply below_drew1) | exact HB.out)) hb); clear HB; have HB := n0_; clear n0_; (try clear hb); (try clear hb2); (try clear hk); (try clear hi)) | (go_at_call 23; (with_reducible refine (name_Equal.calls a0 a1 false _ A40.out).mono ?_); rintro e w45 ⟨rfl, hb⟩; have n0_ := Aside0.mk (below_step (by repeat (first | (with_reducible first | exact HB.out | apply below_alloc | apply pw_below_drewN | apply below_drew1) | exact HB.out)) hb); clear HB; have HB := n0_; clear n0_; (try clear hb); (try clear hb2); (try clear hk); (try clear hi)))
                        go_ret
                        exact ⟨by first | rfl | (simp [errW_none, errW_some] <;> rfl) | (simp [*, errW_none, errW_some] <;> rfl), by repeat (first | (with_reducible first | exact HB.out | apply below_alloc | apply pw_below_drewN | apply below_drew1) | exact HB.out)⟩
                    · replace c39 := Bool.eq_false_iff.mpr c39
                      subst c39
                      have H1 : (some false) = some r := by rw [if_neg (show ¬ (false = true) by decide)] at H; exact H
                      clear H
                      have H := H1
                      clear H1
                      obtain rfl := Option.some.inj H
                      go_wp2_with (first | (go_at_call 23; (with_reducible refine (name_Equal.calls a0 a1 false _ A38.out).mono ?_); rintro e w46 ⟨rfl, hb⟩; have n0_ := Aside0.mk (below_step (by repeat (first | (with_reducible first | exact HB.out | apply below_alloc | apply pw_below_drewN | apply below_drew1) | exact HB.out)) hb); clear HB; have HB := n0_; clear n0_; (try clear hb); (try clear hb2); (try clear hk); (try clear hi)))
                      go_ret
                      exact ⟨by first | rfl | (simp [errW_none, errW_some] <;> rfl) | (simp [*, errW_none, errW_some] <;> rfl), by repeat (first | (with_reducible first | exact HB.out | apply below_alloc | apply pw_below_drewN | apply below_drew1) | exact HB.out)⟩
                · rw [if_neg c32] at H
                  have c32b0 : (t163 == 0) = false := beq_eq_false_iff_ne.mpr c32
                  have c32b1 : (t163 != 0) = true := bne_iff_ne.mpr c32
                  replace H := Option.bind_eq_some_iff.mp H
                  obtain ⟨t171, A470, H⟩ := H
                  replace H : (if t171 = true then (some (t163 == 0)) else (some true)) = some r := H
                  have A47 := Aside0.mk A470
                  clear A470
                  by_cases c48 : t171 = true
                  · subst c48
                    have H1 : (some (t163 == 0)) = some r := by rw [if_pos rfl] at H; exact H
                    clear H
                    have H := H1
                    clear H1
                    obtain rfl := Option.some.inj H
                    go_wp2_with (first | (go_at_call 23; (with_reducible refine (name_Equal.calls a0 a1 true _ A47.out).mono ?_); rintro e w49 ⟨rfl, hb⟩; have n0_ := Aside0.mk (below_step (by repeat (first | (with_reducible first | exact HB.out | apply below_alloc | apply pw_below_drewN | apply below_drew1) | exact HB.out)) hb); clear HB; have HB := n0_; clear n0_; (try clear hb); (try clear hb2); (try clear hk); (try clear hi)))
                    go_ret
                    exact ⟨by first | rfl | (simp [errW_none, errW_some] <;> rfl) | (simp [*, errW_none, errW_some] <;> rfl), by repeat (first | (with_reducible first | exact HB.out | apply below_alloc | apply pw_below_drewN | apply below_drew1) | exact HB.out)⟩
                  · replace c48 := Bool.eq_false_iff.mpr c48
                    subst c48
                    have H1 : (some true) = some r := by rw [if_neg (show ¬ (false = true) by decide)] at H; exact H
                    clear H
                    have H := H1
                    clear H1
                    obtain rfl := Option.some.inj H
                    go_wp2_with (first | (go_at_call 23; (with_reducible refine (name_Equal.calls a0 a1 false _ A47.out).mono ?_); rintro e w50 ⟨rfl, hb⟩; have n0_ := Aside0.mk (below_step (by repeat (first | (with_reducible first | exact HB.out | apply below_alloc | apply pw_below_drewN | apply below_drew1) | exact HB.out)) hb); clear HB; have HB := n0_; clear n0_; (try clear hb); (try clear hb2); (try clear hk); (try clear hi)))
                    go_ret
                    exact ⟨by first | rfl | (simp [errW_none, errW_some] <;> rfl) | (simp [*, errW_none, errW_some] <;> rfl), by repeat (first | (with_reducible first | exact HB.out | apply below_alloc | apply pw_below_drewN | apply below_drew1) | exact HB.out)⟩
              · replace c31 := Bool.eq_false_iff.mpr c31
                subst c31
                have H1 : (some false) = some r := by rw [if_neg (show ¬ (false = true) by decide)] at H; exact H
                clear H
                have H := H1
                clear H1
                obtain rfl := Option.some.inj H
                go_wp2
                go_ret
                exact ⟨by first | rfl | (simp [errW_none, errW_some] <;> rfl) | (simp [*, errW_none, errW_some] <;> rfl), by repeat (first | (with_reducible first | exact HB.out | apply below_alloc | apply pw_below_drewN | apply below_drew1) | exact HB.out)⟩

/-- THE ONE PURE STATEMENT of guidepostlaw01_NameOrder: yours. -/
def guidepostlaw01_NameOrder.Pure : Prop := ∀ (a0 : ByteArray) (a1 : ByteArray) (a2 : ByteArray), a0.size ≤ 140737488351232 → a1.size ≤ 140737488351232 → a2.size ≤ 140737488351232 → ∃ k, guidepostlaw01_NameOrder.f k a0 a1 a2 = some true
theorem guidepostlaw01_NameOrder.walk (P : guidepostlaw01_NameOrder.Pure) (a0 : ByteArray) (a1 : ByteArray) (a2 : ByteArray) (w : World) (w0 : a0.size ≤ 140737488351232) (w1 : a1.size ≤ 140737488351232) (w2 : a2.size ≤ 140737488351232) :
    Calls Try.prog 4 #[.string a0, .string a1, .string a2] w fun e w' => e = .returned (.bool true) ∧ Below w.heap.size w w' := by
  obtain ⟨k, h⟩ := P a0 a1 a2 w0 w1 w2
  refine (guidepostlaw01_NameOrder.calls k a0 a1 a2 true w h).mono ?_
  rintro e w' ⟨rfl, hd⟩
  exact ⟨rfl, hd⟩

end Go.Proofs.Ytlikkpeaepankaa.PNameOrder
