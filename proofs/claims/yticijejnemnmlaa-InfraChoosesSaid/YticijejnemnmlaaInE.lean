/- Timeout, Plain. -/
import Derived.Test.YticijejnemnmlaaInD
namespace Go.Proofs.Yticijejnemnmlaa.If
open Go.RowKit Rt
set_option linter.unusedSimpArgs false
set_option linter.unusedVariables false
def toP (p : Sp) : Int := tmR (wi p.x0 1000000) (wi p.x1 1000000) (wi p.x2 10)
section
variable {w : World} {U : Nat → Prop} {xb most n : Nat} {st : Ad → Option Sp} {a : Ad}
set_option maxHeartbeats 2000000 in
set_option maxRecDepth 100000 in
theorem Timeout_I (h : InfS w U xb most st n) (ha : a.ok) :
    Calls Try.prog 16 #[.pointer (some ⟨xb, 0, none⟩), a.val] w fun e w' => e = .returned (.int .i64 (toP ((st a).getD zeroP))) ∧ Below w.heap.size w w' := by
  obtain ⟨tb, s, hx, hrel, hown, hlook⟩ := h.look ha
  obtain ⟨w1, hw1⟩ : ∃ w1, w.alloc (.cells #[.bool a.v6, .int .u64 a.hi, .int .u64 a.lo] 31) = w1 := ⟨_, rfl⟩
  have hb1 : Below w.heap.size w w1 := by rw [← hw1]; exact (Below.refl _ w).alloc (Nat.le_refl _) _
  obtain ⟨ab, hab⟩ : ∃ x, w.heap.size = x := ⟨_, rfl⟩
  have hs1 : ab + 1 ≤ w1.heap.size := by rw [← hw1, ← hab]; simp [World.size_alloc]
  obtain ⟨k0, k1, k2⟩ := (cellsNew w a.cs 31 rfl).1.three
  simp only [Nat.zero_add] at k1 k2
  have hA0 : Below (w.heap.size + 1) (w.alloc (.cells #[.bool a.v6, .int .u64 a.hi, .int .u64 a.lo] 31)) w1 := by rw [← hw1]; exact Below.refl _ _
  have q0 := (hA0.cell (p := ⟨w.heap.size, 0, none⟩) (Nat.lt_succ_self _)).trans k0
  have q1 := (hA0.cell (p := ⟨w.heap.size, 1, none⟩) (Nat.lt_succ_self _)).trans k1
  have q2 := (hA0.cell (p := ⟨w.heap.size, 2, none⟩) (Nat.lt_succ_self _)).trans k2
  have cx := (hb1.cell (p := ⟨xb, 0, none⟩) (World.block_lt_of_cell? w _ hx)).trans hx
  have hLook := Lib.hid (hlook w1.drew hb1.drew)
  have hL2 := Lib.hid (hlook (w1.alloc (.cells #[.int .i64 0, .int .i64 0, .int .i64 0, .slice none 0 0, .int .i64 0] 59)).drew (hb1.alloc hb1.size _).drew)
  obtain ⟨ok, hok⟩ : ∃ b, (st a).isSome = b := ⟨_, rfl⟩
  rw [hok] at hLook hL2
  obtain ⟨p, hp⟩ : ∃ p, (st a).getD zeroP = p := ⟨_, rfl⟩
  rw [hp] at hrel ⊢
  rw [hab] at q0 q1 q2
  have habH := Lib.hid hab
  have hw1H := Lib.hid hw1
  have hb1H := Lib.hid hb1
  have hrelH := Lib.hid hrel
  clear h ha hx hlook k0 k1 k2 hA0 hab hw1 hb1 hp hrel hown
  clear hok
  unfold Ad.val
  have hTo := Lib.hid (fun w => Timeout_any s.x0 s.x1 s.x2 w)
  unfold agg3 at hTo
  rw [hrelH.out.e0, hrelH.out.e1, hrelH.out.e2] at hTo
  have e0 := Lib.hid hrelH.out.e0
  have e1 := Lib.hid hrelH.out.e1
  have e2 := Lib.hid hrelH.out.e2
  go_enter Try.func16, Try.ntmps16
  go_upto_region 1 with (fail)
  rw [hw1H.out, habH.out]
  have hz0 := Lib.hid (World.alloc_heap_new w1 (.cells #[.int .i64 0, .int .i64 0, .int .i64 0, .slice none 0 0, .int .i64 0] 59))
  go_cut [5, 6] from 7 to 15 (fun p q wx => ∃ kb, p = .pointer (some ⟨kb, 0, none⟩) ∧ q = .bool ok ∧ (ab + 1) ≤ kb ∧ Box5 wx kb s ∧ Below (ab + 1) w1 wx)
  case first =>
    refine Rt.wp_region_split [0, 0, 0, 1, 1, 2, 0, 0, 0, 2, 3, 0] [0, 1, 2, 3, 4] [5, 6, 7, 8, 9, 10, 11] [9, 5, 6, 7, 8, 10, 11] (by kernel_rfl) (by kernel_rfl) ?_
    apply ord_move rfl rfl rfl rfl; (· (simp only [Act.put, Act.eval, List.setIfInBounds_toArray, List.set_cons_zero, List.set_cons_succ, Array.getD_eq_getD_getElem?, List.getElem?_toArray, List.getElem?_cons_zero, List.getElem?_cons_succ, Option.getD_some, List.getElem_toArray, List.getElem_cons_succ, List.getElem_cons_zero]; with_reducible rfl))
    apply ord_pure rfl rfl rfl; (· (intro w; go_simp; with_reducible rfl)); (· (simp only [Act.put, Act.eval, List.setIfInBounds_toArray, List.set_cons_zero, List.set_cons_succ, Array.getD_eq_getD_getElem?, List.getElem?_toArray, List.getElem?_cons_zero, List.getElem?_cons_succ, Option.getD_some, List.getElem_toArray, List.getElem_cons_succ, List.getElem_cons_zero]; with_reducible rfl))
    apply ord_pure rfl rfl rfl; (· (intro w; go_simp; with_reducible rfl)); (· (simp only [Act.put, Act.eval, List.setIfInBounds_toArray, List.set_cons_zero, List.set_cons_succ, Array.getD_eq_getD_getElem?, List.getElem?_toArray, List.getElem?_cons_zero, List.getElem?_cons_succ, Option.getD_some, List.getElem_toArray, List.getElem_cons_succ, List.getElem_cons_zero]; with_reducible rfl))
    apply ord_read rfl rfl rfl; (· (intro W hW; have g0 := cell_up hW cx; have g1 := cell_up hW q0; have g2 := cell_up hW q1; have g3 := cell_up hW q2; go_simp; with_reducible rfl)); (· (simp only [Act.put, Act.eval, List.setIfInBounds_toArray, List.set_cons_zero, List.set_cons_succ, Array.getD_eq_getD_getElem?, List.getElem?_toArray, List.getElem?_cons_zero, List.getElem?_cons_succ, Option.getD_some, List.getElem_toArray, List.getElem_cons_succ, List.getElem_cons_zero]; with_reducible rfl))
    apply ord_read rfl rfl rfl; (· (intro W hW; have g0 := cell_up hW cx; have g1 := cell_up hW q0; have g2 := cell_up hW q1; have g3 := cell_up hW q2; go_simp; with_reducible rfl)); (· (simp only [Act.put, Act.eval, List.setIfInBounds_toArray, List.set_cons_zero, List.set_cons_succ, Array.getD_eq_getD_getElem?, List.getElem?_toArray, List.getElem?_cons_zero, List.getElem?_cons_succ, Option.getD_some, List.getElem_toArray, List.getElem_cons_succ, List.getElem_cons_zero]; with_reducible rfl))
    with_reducible refine ord_nil ?_
    refine ⟨?_, ?_⟩
    · skip
      refine ord_call rfl rfl rfl (by go_simp; first | exact ⟨rfl, rfl⟩ | exact ⟨⟨rfl, rfl⟩, rfl⟩ | (refine ⟨?_, ?_⟩; rfl; rfl)) ?_
      refine hLook.out.mono ?_
      rintro e w2 ⟨rfl, hb2⟩
      refine ⟨_, rfl, hb2, ?_⟩
      simp only [Act.put, Act.eval, List.setIfInBounds_toArray, List.set_cons_zero, List.set_cons_succ, Array.getD_eq_getD_getElem?, List.getElem?_toArray, List.getElem?_cons_zero, List.getElem?_cons_succ, Option.getD_some, List.getElem_toArray, List.getElem_cons_succ, List.getElem_cons_zero]
      apply ord_move rfl rfl rfl rfl; (· (simp only [Act.put, Act.eval, List.setIfInBounds_toArray, List.set_cons_zero, List.set_cons_succ, Array.getD_eq_getD_getElem?, List.getElem?_toArray, List.getElem?_cons_zero, List.getElem?_cons_succ, Option.getD_some, List.getElem_toArray, List.getElem_cons_succ, List.getElem_cons_zero]; with_reducible rfl))
      apply ord_pure rfl rfl rfl; (· (intro w; go_simp; with_reducible rfl)); (· (simp only [Act.put, Act.eval, List.setIfInBounds_toArray, List.set_cons_zero, List.set_cons_succ, Array.getD_eq_getD_getElem?, List.getElem?_toArray, List.getElem?_cons_zero, List.getElem?_cons_succ, Option.getD_some, List.getElem_toArray, List.getElem_cons_succ, List.getElem_cons_zero]; with_reducible rfl))
      apply ord_pure rfl rfl rfl; (· (intro w; go_simp; with_reducible rfl)); (· (simp only [Act.put, Act.eval, List.setIfInBounds_toArray, List.set_cons_zero, List.set_cons_succ, Array.getD_eq_getD_getElem?, List.getElem?_toArray, List.getElem?_cons_zero, List.getElem?_cons_succ, Option.getD_some, List.getElem_toArray, List.getElem_cons_succ, List.getElem_cons_zero]; with_reducible rfl))
      apply ord_new rfl rfl rfl; (· (go_simp; exact ⟨rfl, rfl⟩)); (· (exact (Below.refl _ _).alloc (Nat.le_refl _) _)); (· (simp only [Act.put, Act.eval, List.setIfInBounds_toArray, List.set_cons_zero, List.set_cons_succ, Array.getD_eq_getD_getElem?, List.getElem?_toArray, List.getElem?_cons_zero, List.getElem?_cons_succ, Option.getD_some, List.getElem_toArray, List.getElem_cons_succ, List.getElem_cons_zero]; with_reducible rfl))
      apply ord_do rfl rfl rfl; (· (go_simp; with_reducible rfl)); (· (simp only [Act.put, Act.eval, List.setIfInBounds_toArray, List.set_cons_zero, List.set_cons_succ, Array.getD_eq_getD_getElem?, List.getElem?_toArray, List.getElem?_cons_zero, List.getElem?_cons_succ, Option.getD_some, List.getElem_toArray, List.getElem_cons_succ, List.getElem_cons_zero]; with_reducible rfl))
      apply ord_pure rfl rfl rfl; (· (intro w; go_simp; with_reducible rfl)); (· (simp only [Act.put, Act.eval, List.setIfInBounds_toArray, List.set_cons_zero, List.set_cons_succ, Array.getD_eq_getD_getElem?, List.getElem?_toArray, List.getElem?_cons_zero, List.getElem?_cons_succ, Option.getD_some, List.getElem_toArray, List.getElem_cons_succ, List.getElem_cons_zero]; with_reducible rfl))
      with_reducible refine ord_nil ?_
      go_wp2_with fail
      go_meet
      case rel => exact ⟨_, rfl, rfl, by have := hb2.size; have h9 : w1.heap.size ≤ w2.heap.size := this; omega, box5_new w2 s, ((Below.refl _ w1).drew.trans (hb2.mono (by show _ ≤ w1.heap.size; omega))).alloc (by have := hb2.size; have h9 : w1.heap.size ≤ w2.heap.size := this; omega) _⟩
    · skip
      apply ord_new rfl rfl rfl; (· (go_simp; exact ⟨rfl, rfl⟩)); (· (exact (Below.refl _ _).alloc (Nat.le_refl _) _)); (· (simp only [Act.put, Act.eval, List.setIfInBounds_toArray, List.set_cons_zero, List.set_cons_succ, Array.getD_eq_getD_getElem?, List.getElem?_toArray, List.getElem?_cons_zero, List.getElem?_cons_succ, Option.getD_some, List.getElem_toArray, List.getElem_cons_succ, List.getElem_cons_zero]; with_reducible rfl))
      refine ord_call rfl rfl rfl (by go_simp; first | exact ⟨rfl, rfl⟩ | exact ⟨⟨rfl, rfl⟩, rfl⟩ | (refine ⟨?_, ?_⟩; rfl; rfl)) ?_
      refine hL2.out.mono ?_
      rintro e w2 ⟨rfl, hb2⟩
      refine ⟨_, rfl, hb2, ?_⟩
      have hz1 := (hb2.block w1.heap.size (by simp)).trans hz0.out
      have z0 : w2.cell? ⟨w1.heap.size, 0, none⟩ = some (.int .i64 0) := by { unfold World.cell?; simp only [hz1]; rfl }
      have z1 : w2.cell? ⟨w1.heap.size, 1, none⟩ = some (.int .i64 0) := by { unfold World.cell?; simp only [hz1]; rfl }
      have z2 : w2.cell? ⟨w1.heap.size, 2, none⟩ = some (.int .i64 0) := by { unfold World.cell?; simp only [hz1]; rfl }
      have z3 : w2.cell? ⟨w1.heap.size, 3, none⟩ = some (.slice none 0 0) := by { unfold World.cell?; simp only [hz1]; rfl }
      have z4 : w2.cell? ⟨w1.heap.size, 4, none⟩ = some (.int .i64 0) := by { unfold World.cell?; simp only [hz1]; rfl }
      have y : ∀ j, w2.frozen? ⟨w1.heap.size, j, none⟩ = false := fun j => by { unfold World.frozen?; simp only [hz1]; simp }
      have hz1H := Lib.hid hz1
      clear hz1
      simp only [Act.put, Act.eval, List.setIfInBounds_toArray, List.set_cons_zero, List.set_cons_succ, Array.getD_eq_getD_getElem?, List.getElem?_toArray, List.getElem?_cons_zero, List.getElem?_cons_succ, Option.getD_some, List.getElem_toArray, List.getElem_cons_succ, List.getElem_cons_zero]
      apply ord_move rfl rfl rfl rfl; (· (simp only [Act.put, Act.eval, List.setIfInBounds_toArray, List.set_cons_zero, List.set_cons_succ, Array.getD_eq_getD_getElem?, List.getElem?_toArray, List.getElem?_cons_zero, List.getElem?_cons_succ, Option.getD_some, List.getElem_toArray, List.getElem_cons_succ, List.getElem_cons_zero]; with_reducible rfl))
      apply ord_pure rfl rfl rfl; (· (intro w; go_simp; with_reducible rfl)); (· (simp only [Act.put, Act.eval, List.setIfInBounds_toArray, List.set_cons_zero, List.set_cons_succ, Array.getD_eq_getD_getElem?, List.getElem?_toArray, List.getElem?_cons_zero, List.getElem?_cons_succ, Option.getD_some, List.getElem_toArray, List.getElem_cons_succ, List.getElem_cons_zero]; with_reducible rfl))
      apply ord_pure rfl rfl rfl; (· (intro w; go_simp; with_reducible rfl)); (· (simp only [Act.put, Act.eval, List.setIfInBounds_toArray, List.set_cons_zero, List.set_cons_succ, Array.getD_eq_getD_getElem?, List.getElem?_toArray, List.getElem?_cons_zero, List.getElem?_cons_succ, Option.getD_some, List.getElem_toArray, List.getElem_cons_succ, List.getElem_cons_zero]; with_reducible rfl))
      apply ord_do rfl rfl rfl; (· (go_simp; with_reducible rfl)); (· (simp only [Act.put, Act.eval, List.setIfInBounds_toArray, List.set_cons_zero, List.set_cons_succ, Array.getD_eq_getD_getElem?, List.getElem?_toArray, List.getElem?_cons_zero, List.getElem?_cons_succ, Option.getD_some, List.getElem_toArray, List.getElem_cons_succ, List.getElem_cons_zero]; with_reducible rfl))
      apply ord_pure rfl rfl rfl; (· (intro w; go_simp; with_reducible rfl)); (· (simp only [Act.put, Act.eval, List.setIfInBounds_toArray, List.set_cons_zero, List.set_cons_succ, Array.getD_eq_getD_getElem?, List.getElem?_toArray, List.getElem?_cons_zero, List.getElem?_cons_succ, Option.getD_some, List.getElem_toArray, List.getElem_cons_succ, List.getElem_cons_zero]; with_reducible rfl))
      with_reducible refine ord_nil ?_
      go_wp2_with fail
      go_meet
      case rel => exact ⟨_, rfl, rfl, by omega, box5_put s hz1H.out, below_put s ((((Below.refl _ w1).alloc (by omega) _).drew).trans (hb2.mono (by show _ ≤ (w1.alloc _).heap.size; rw [World.size_alloc]; omega))) (by omega)⟩
  case rest =>
    obtain ⟨kb, rfl, rfl, hkge, hBx, hbAW1⟩ := hcut
    obtain ⟨d0, d1, d2, d3, d4⟩ := hBx.cells
    rw [e0.out] at d0
    rw [e1.out] at d1
    rw [e2.out] at d2
    clear hBx
    go_wp2_with (go_at_call 41; refine (hTo.out _).mono ?_; rintro e w3 ⟨rfl, hb3⟩)
    go_ret
    have hbW : Below w.heap.size w wc := hb1H.out.trans (hbAW1.mono (by rw [habH.out]; exact Nat.le_succ _))
    exact ⟨rfl, hbW.trans (hb3.mono hbW.size)⟩
set_option maxHeartbeats 2000000 in
set_option maxRecDepth 100000 in
theorem Plain_I (h : InfS w U xb most st n) (ha : a.ok) (now : Int) :
    Calls Try.prog 18 #[.pointer (some ⟨xb, 0, none⟩), a.val, .int .i64 now] w fun e w' => e = .returned (.bool ((st a).isSome && (isT now && decide (now < ((st a).getD zeroP).pl)))) ∧ Below w.heap.size w w' := by
  obtain ⟨tb, s, hx, hrel, hown, hlook⟩ := h.look ha
  obtain ⟨w1, hw1⟩ : ∃ w1, w.alloc (.cells #[.bool a.v6, .int .u64 a.hi, .int .u64 a.lo] 31) = w1 := ⟨_, rfl⟩
  have hb1 : Below w.heap.size w w1 := by rw [← hw1]; exact (Below.refl _ w).alloc (Nat.le_refl _) _
  obtain ⟨ab, hab⟩ : ∃ x, w.heap.size = x := ⟨_, rfl⟩
  have hs1 : ab + 1 ≤ w1.heap.size := by rw [← hw1, ← hab]; simp [World.size_alloc]
  obtain ⟨k0, k1, k2⟩ := (cellsNew w a.cs 31 rfl).1.three
  simp only [Nat.zero_add] at k1 k2
  have hA0 : Below (w.heap.size + 1) (w.alloc (.cells #[.bool a.v6, .int .u64 a.hi, .int .u64 a.lo] 31)) w1 := by rw [← hw1]; exact Below.refl _ _
  have q0 := (hA0.cell (p := ⟨w.heap.size, 0, none⟩) (Nat.lt_succ_self _)).trans k0
  have q1 := (hA0.cell (p := ⟨w.heap.size, 1, none⟩) (Nat.lt_succ_self _)).trans k1
  have q2 := (hA0.cell (p := ⟨w.heap.size, 2, none⟩) (Nat.lt_succ_self _)).trans k2
  have cx := (hb1.cell (p := ⟨xb, 0, none⟩) (World.block_lt_of_cell? w _ hx)).trans hx
  have hLook := Lib.hid (hlook w1.drew hb1.drew)
  have hL2 := Lib.hid (hlook (w1.alloc (.cells #[.int .i64 0, .int .i64 0, .int .i64 0, .slice none 0 0, .int .i64 0] 59)).drew (hb1.alloc hb1.size _).drew)
  obtain ⟨ok, hok⟩ : ∃ b, (st a).isSome = b := ⟨_, rfl⟩
  rw [hok] at hLook hL2
  obtain ⟨p, hp⟩ : ∃ p, (st a).getD zeroP = p := ⟨_, rfl⟩
  rw [hp] at hrel ⊢
  rw [hab] at q0 q1 q2
  have habH := Lib.hid hab
  have hw1H := Lib.hid hw1
  have hb1H := Lib.hid hb1
  have hrelH := Lib.hid hrel
  clear h ha hx hlook k0 k1 k2 hA0 hab hw1 hb1 hp hrel hown
  rw [hok]
  clear hok
  unfold Ad.val
  have hT := Lib.hid (fun w => isTime_any w now)
  have e4 := Lib.hid hrelH.out.e4
  obtain ⟨res, hres⟩ : ∃ r, (ok && (isT now && decide (now < p.pl))) = r := ⟨_, rfl⟩
  rw [hres]
  have hresH := Lib.hid hres
  clear hres
  go_enter Try.func18, Try.ntmps18
  go_upto_region 1 with (fail)
  rw [hw1H.out, habH.out]
  have hz0 := Lib.hid (World.alloc_heap_new w1 (.cells #[.int .i64 0, .int .i64 0, .int .i64 0, .slice none 0 0, .int .i64 0] 59))
  go_cut [7, 8] from 9 to 17 (fun p q wx => ∃ kb, p = .pointer (some ⟨kb, 0, none⟩) ∧ q = .bool ok ∧ (ab + 1) ≤ kb ∧ Box5 wx kb s ∧ Below (ab + 1) w1 wx)
  case first =>
    refine Rt.wp_region_split [0, 0, 0, 1, 1, 2, 0, 0, 0, 2, 3, 0] [0, 1, 2, 3, 4] [5, 6, 7, 8, 9, 10, 11] [9, 5, 6, 7, 8, 10, 11] (by kernel_rfl) (by kernel_rfl) ?_
    apply ord_move rfl rfl rfl rfl; (· (simp only [Act.put, Act.eval, List.setIfInBounds_toArray, List.set_cons_zero, List.set_cons_succ, Array.getD_eq_getD_getElem?, List.getElem?_toArray, List.getElem?_cons_zero, List.getElem?_cons_succ, Option.getD_some, List.getElem_toArray, List.getElem_cons_succ, List.getElem_cons_zero]; with_reducible rfl))
    apply ord_pure rfl rfl rfl; (· (intro w; go_simp; with_reducible rfl)); (· (simp only [Act.put, Act.eval, List.setIfInBounds_toArray, List.set_cons_zero, List.set_cons_succ, Array.getD_eq_getD_getElem?, List.getElem?_toArray, List.getElem?_cons_zero, List.getElem?_cons_succ, Option.getD_some, List.getElem_toArray, List.getElem_cons_succ, List.getElem_cons_zero]; with_reducible rfl))
    apply ord_pure rfl rfl rfl; (· (intro w; go_simp; with_reducible rfl)); (· (simp only [Act.put, Act.eval, List.setIfInBounds_toArray, List.set_cons_zero, List.set_cons_succ, Array.getD_eq_getD_getElem?, List.getElem?_toArray, List.getElem?_cons_zero, List.getElem?_cons_succ, Option.getD_some, List.getElem_toArray, List.getElem_cons_succ, List.getElem_cons_zero]; with_reducible rfl))
    apply ord_read rfl rfl rfl; (· (intro W hW; have g0 := cell_up hW cx; have g1 := cell_up hW q0; have g2 := cell_up hW q1; have g3 := cell_up hW q2; go_simp; with_reducible rfl)); (· (simp only [Act.put, Act.eval, List.setIfInBounds_toArray, List.set_cons_zero, List.set_cons_succ, Array.getD_eq_getD_getElem?, List.getElem?_toArray, List.getElem?_cons_zero, List.getElem?_cons_succ, Option.getD_some, List.getElem_toArray, List.getElem_cons_succ, List.getElem_cons_zero]; with_reducible rfl))
    apply ord_read rfl rfl rfl; (· (intro W hW; have g0 := cell_up hW cx; have g1 := cell_up hW q0; have g2 := cell_up hW q1; have g3 := cell_up hW q2; go_simp; with_reducible rfl)); (· (simp only [Act.put, Act.eval, List.setIfInBounds_toArray, List.set_cons_zero, List.set_cons_succ, Array.getD_eq_getD_getElem?, List.getElem?_toArray, List.getElem?_cons_zero, List.getElem?_cons_succ, Option.getD_some, List.getElem_toArray, List.getElem_cons_succ, List.getElem_cons_zero]; with_reducible rfl))
    with_reducible refine ord_nil ?_
    refine ⟨?_, ?_⟩
    · skip
      refine ord_call rfl rfl rfl (by go_simp; first | exact ⟨rfl, rfl⟩ | exact ⟨⟨rfl, rfl⟩, rfl⟩ | (refine ⟨?_, ?_⟩; rfl; rfl)) ?_
      refine hLook.out.mono ?_
      rintro e w2 ⟨rfl, hb2⟩
      refine ⟨_, rfl, hb2, ?_⟩
      simp only [Act.put, Act.eval, List.setIfInBounds_toArray, List.set_cons_zero, List.set_cons_succ, Array.getD_eq_getD_getElem?, List.getElem?_toArray, List.getElem?_cons_zero, List.getElem?_cons_succ, Option.getD_some, List.getElem_toArray, List.getElem_cons_succ, List.getElem_cons_zero]
      apply ord_move rfl rfl rfl rfl; (· (simp only [Act.put, Act.eval, List.setIfInBounds_toArray, List.set_cons_zero, List.set_cons_succ, Array.getD_eq_getD_getElem?, List.getElem?_toArray, List.getElem?_cons_zero, List.getElem?_cons_succ, Option.getD_some, List.getElem_toArray, List.getElem_cons_succ, List.getElem_cons_zero]; with_reducible rfl))
      apply ord_pure rfl rfl rfl; (· (intro w; go_simp; with_reducible rfl)); (· (simp only [Act.put, Act.eval, List.setIfInBounds_toArray, List.set_cons_zero, List.set_cons_succ, Array.getD_eq_getD_getElem?, List.getElem?_toArray, List.getElem?_cons_zero, List.getElem?_cons_succ, Option.getD_some, List.getElem_toArray, List.getElem_cons_succ, List.getElem_cons_zero]; with_reducible rfl))
      apply ord_pure rfl rfl rfl; (· (intro w; go_simp; with_reducible rfl)); (· (simp only [Act.put, Act.eval, List.setIfInBounds_toArray, List.set_cons_zero, List.set_cons_succ, Array.getD_eq_getD_getElem?, List.getElem?_toArray, List.getElem?_cons_zero, List.getElem?_cons_succ, Option.getD_some, List.getElem_toArray, List.getElem_cons_succ, List.getElem_cons_zero]; with_reducible rfl))
      apply ord_new rfl rfl rfl; (· (go_simp; exact ⟨rfl, rfl⟩)); (· (exact (Below.refl _ _).alloc (Nat.le_refl _) _)); (· (simp only [Act.put, Act.eval, List.setIfInBounds_toArray, List.set_cons_zero, List.set_cons_succ, Array.getD_eq_getD_getElem?, List.getElem?_toArray, List.getElem?_cons_zero, List.getElem?_cons_succ, Option.getD_some, List.getElem_toArray, List.getElem_cons_succ, List.getElem_cons_zero]; with_reducible rfl))
      apply ord_do rfl rfl rfl; (· (go_simp; with_reducible rfl)); (· (simp only [Act.put, Act.eval, List.setIfInBounds_toArray, List.set_cons_zero, List.set_cons_succ, Array.getD_eq_getD_getElem?, List.getElem?_toArray, List.getElem?_cons_zero, List.getElem?_cons_succ, Option.getD_some, List.getElem_toArray, List.getElem_cons_succ, List.getElem_cons_zero]; with_reducible rfl))
      apply ord_pure rfl rfl rfl; (· (intro w; go_simp; with_reducible rfl)); (· (simp only [Act.put, Act.eval, List.setIfInBounds_toArray, List.set_cons_zero, List.set_cons_succ, Array.getD_eq_getD_getElem?, List.getElem?_toArray, List.getElem?_cons_zero, List.getElem?_cons_succ, Option.getD_some, List.getElem_toArray, List.getElem_cons_succ, List.getElem_cons_zero]; with_reducible rfl))
      with_reducible refine ord_nil ?_
      go_wp2_with fail
      go_meet
      case rel => exact ⟨_, rfl, rfl, by have := hb2.size; have h9 : w1.heap.size ≤ w2.heap.size := this; omega, box5_new w2 s, ((Below.refl _ w1).drew.trans (hb2.mono (by show _ ≤ w1.heap.size; omega))).alloc (by have := hb2.size; have h9 : w1.heap.size ≤ w2.heap.size := this; omega) _⟩
    · skip
      apply ord_new rfl rfl rfl; (· (go_simp; exact ⟨rfl, rfl⟩)); (· (exact (Below.refl _ _).alloc (Nat.le_refl _) _)); (· (simp only [Act.put, Act.eval, List.setIfInBounds_toArray, List.set_cons_zero, List.set_cons_succ, Array.getD_eq_getD_getElem?, List.getElem?_toArray, List.getElem?_cons_zero, List.getElem?_cons_succ, Option.getD_some, List.getElem_toArray, List.getElem_cons_succ, List.getElem_cons_zero]; with_reducible rfl))
      refine ord_call rfl rfl rfl (by go_simp; first | exact ⟨rfl, rfl⟩ | exact ⟨⟨rfl, rfl⟩, rfl⟩ | (refine ⟨?_, ?_⟩; rfl; rfl)) ?_
      refine hL2.out.mono ?_
      rintro e w2 ⟨rfl, hb2⟩
      refine ⟨_, rfl, hb2, ?_⟩
      have hz1 := (hb2.block w1.heap.size (by simp)).trans hz0.out
      have z0 : w2.cell? ⟨w1.heap.size, 0, none⟩ = some (.int .i64 0) := by { unfold World.cell?; simp only [hz1]; rfl }
      have z1 : w2.cell? ⟨w1.heap.size, 1, none⟩ = some (.int .i64 0) := by { unfold World.cell?; simp only [hz1]; rfl }
      have z2 : w2.cell? ⟨w1.heap.size, 2, none⟩ = some (.int .i64 0) := by { unfold World.cell?; simp only [hz1]; rfl }
      have z3 : w2.cell? ⟨w1.heap.size, 3, none⟩ = some (.slice none 0 0) := by { unfold World.cell?; simp only [hz1]; rfl }
      have z4 : w2.cell? ⟨w1.heap.size, 4, none⟩ = some (.int .i64 0) := by { unfold World.cell?; simp only [hz1]; rfl }
      have y : ∀ j, w2.frozen? ⟨w1.heap.size, j, none⟩ = false := fun j => by { unfold World.frozen?; simp only [hz1]; simp }
      have hz1H := Lib.hid hz1
      clear hz1
      simp only [Act.put, Act.eval, List.setIfInBounds_toArray, List.set_cons_zero, List.set_cons_succ, Array.getD_eq_getD_getElem?, List.getElem?_toArray, List.getElem?_cons_zero, List.getElem?_cons_succ, Option.getD_some, List.getElem_toArray, List.getElem_cons_succ, List.getElem_cons_zero]
      apply ord_move rfl rfl rfl rfl; (· (simp only [Act.put, Act.eval, List.setIfInBounds_toArray, List.set_cons_zero, List.set_cons_succ, Array.getD_eq_getD_getElem?, List.getElem?_toArray, List.getElem?_cons_zero, List.getElem?_cons_succ, Option.getD_some, List.getElem_toArray, List.getElem_cons_succ, List.getElem_cons_zero]; with_reducible rfl))
      apply ord_pure rfl rfl rfl; (· (intro w; go_simp; with_reducible rfl)); (· (simp only [Act.put, Act.eval, List.setIfInBounds_toArray, List.set_cons_zero, List.set_cons_succ, Array.getD_eq_getD_getElem?, List.getElem?_toArray, List.getElem?_cons_zero, List.getElem?_cons_succ, Option.getD_some, List.getElem_toArray, List.getElem_cons_succ, List.getElem_cons_zero]; with_reducible rfl))
      apply ord_pure rfl rfl rfl; (· (intro w; go_simp; with_reducible rfl)); (· (simp only [Act.put, Act.eval, List.setIfInBounds_toArray, List.set_cons_zero, List.set_cons_succ, Array.getD_eq_getD_getElem?, List.getElem?_toArray, List.getElem?_cons_zero, List.getElem?_cons_succ, Option.getD_some, List.getElem_toArray, List.getElem_cons_succ, List.getElem_cons_zero]; with_reducible rfl))
      apply ord_do rfl rfl rfl; (· (go_simp; with_reducible rfl)); (· (simp only [Act.put, Act.eval, List.setIfInBounds_toArray, List.set_cons_zero, List.set_cons_succ, Array.getD_eq_getD_getElem?, List.getElem?_toArray, List.getElem?_cons_zero, List.getElem?_cons_succ, Option.getD_some, List.getElem_toArray, List.getElem_cons_succ, List.getElem_cons_zero]; with_reducible rfl))
      apply ord_pure rfl rfl rfl; (· (intro w; go_simp; with_reducible rfl)); (· (simp only [Act.put, Act.eval, List.setIfInBounds_toArray, List.set_cons_zero, List.set_cons_succ, Array.getD_eq_getD_getElem?, List.getElem?_toArray, List.getElem?_cons_zero, List.getElem?_cons_succ, Option.getD_some, List.getElem_toArray, List.getElem_cons_succ, List.getElem_cons_zero]; with_reducible rfl))
      with_reducible refine ord_nil ?_
      go_wp2_with fail
      go_meet
      case rel => exact ⟨_, rfl, rfl, by omega, box5_put s hz1H.out, below_put s ((((Below.refl _ w1).alloc (by omega) _).drew).trans (hb2.mono (by show _ ≤ (w1.alloc _).heap.size; rw [World.size_alloc]; omega))) (by omega)⟩
  case rest =>
    obtain ⟨kb, rfl, rfl, hkge, hBx, hbAW1⟩ := hcut
    obtain ⟨d0, d1, d2, d3, d4⟩ := hBx.cells
    rw [e4.out] at d4
    clear hBx
    have hbW : Below w.heap.size w wc := hb1H.out.trans (hbAW1.mono (by rw [habH.out]; exact Nat.le_succ _))
    cases ok with
    | false =>
      have hr : res = false := hresH.out.symm
      subst hr
      go_wp2_with (go_at_call 29; refine (hT.out _).mono ?_; rintro e w3 ⟨rfl, rfl⟩)
      go_ret
      exact ⟨rfl, hbW⟩
    | true =>
      cases ht : isT now with
      | false =>
        have hr : res = false := by rw [← hresH.out, ht]; rfl
        subst hr
        rw [ht] at hT
        go_wp2_with (go_at_call 29; refine (hT.out _).mono ?_; rintro e w3 ⟨rfl, rfl⟩)
        go_ret
        exact ⟨rfl, hbW⟩
      | true =>
        rw [ht] at hT
        by_cases hlt : now < p.pl
        · have hr : res = true := by rw [← hresH.out, ht]; simp [hlt]
          subst hr
          go_wp2_with (go_at_call 29; refine (hT.out _).mono ?_; rintro e w3 ⟨rfl, rfl⟩)
          go_ret
          exact ⟨by first | rfl | simp [hlt], hbW⟩
        · have hr : res = false := by rw [← hresH.out, ht]; simp [hlt]
          subst hr
          go_wp2_with (go_at_call 29; refine (hT.out _).mono ?_; rintro e w3 ⟨rfl, rfl⟩)
          go_ret
          exact ⟨by first | rfl | simp [hlt], hbW⟩
end
end Go.Proofs.Yticijejnemnmlaa.If
