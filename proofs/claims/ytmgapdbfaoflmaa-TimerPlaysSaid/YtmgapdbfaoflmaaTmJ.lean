/- The reference's timer: Set, Due. -/
import Derived.Test.YtmgapdbfaoflmaaTmI
namespace Go.Proofs.Ytmgapdbfaoflmaa.Tm
open Go.RowKit Rt
set_option linter.unusedSimpArgs false
set_option linter.unusedVariables false
theorem RSet_neg (w : World) (p : Nat) (id at' : Int) (h : at' < 0) : Calls Try.prog 33 #[.pointer (some ⟨p, 0, none⟩), .int .i64 id, .int .i64 at'] w fun e w' => e = .returned (.bool false) ∧ w' = w := by
  go_enter Try.func33, Try.ntmps33
  go_wp2
  go_ret
  exact ⟨rfl, rfl⟩
theorem ins_at {S : List It} {x : It} {k : Nat} (hk : k ≤ S.length) (h1 : ∀ j, j < k → lt (g S j) x) (h2 : k < S.length → ¬ lt (g S k) x) : insS S x = S.take k ++ x :: S.drop k := by
  induction S generalizing k with
  | nil => simp [insS]
  | cons a S ih =>
    cases k with
    | zero =>
      have e : ¬ lt a x := by have := h2 (by simp); simpa [g] using this
      unfold insS
      rw [List.takeWhile_cons_of_neg (by simpa using e), List.dropWhile_cons_of_neg (by simpa using e)]
      rfl
    | succ k =>
      have e : lt a x := by have := h1 0 (by omega); simpa [g] using this
      have := ih (k := k) (by simpa using hk) (fun j hj => by have := h1 (j + 1) (by omega); simpa [g] using this) (fun hj => by have := h2 (by simpa using hj); simpa [g] using this)
      unfold insS at *
      rw [List.takeWhile_cons_of_pos (by simpa using e), List.dropWhile_cons_of_pos (by simpa using e)]
      simp only [List.cons_append, List.take_succ_cons, List.drop_succ_cons, this]
theorem two_new (w : World) (x y : Value) (t : TypeId) (j : Nat) (u : Value) (hj : [x, y][j]? = some u) : (w.alloc (.cells #[x, y] t)).cell? ⟨w.heap.size, 0 + j, none⟩ = some u := by
  have hh : (w.alloc (.cells #[x, y] t)).heap[w.heap.size]? = some (.cells #[x, y] t (0, 0)) := Array.getElem?_push_size
  match j with
  | 0 => simp at hj; subst hj; unfold World.cell?; rw [hh]; rfl
  | 1 => simp at hj; subst hj; unfold World.cell?; rw [hh]; rfl
  | j + 2 => simp at hj
theorem RowT.cells2 {w : World} {b off n c : Nat} {sp : Option Nat} {S : List It} (h : RowT w (.slice (some ⟨b, off, sp⟩) n c) S) (h0 : 0 < S.length) : sp = none ∧ b < w.heap.size ∧ ∀ j u, (itCells S)[j]? = some u → w.cell? ⟨b, off + j, none⟩ = some u := by
  obtain ⟨a', c', h1, h2, hc, hnn, h3⟩ := h
  cases h1
  obtain ⟨b', off', e, hb, hcell⟩ := h3 h0
  cases e
  exact ⟨rfl, hb, hcell⟩
theorem cut_cells2 {S : List It} {k : Nat} (hk : k ≤ S.length) : (S.take k).length = k ∧ (S.drop k).length + k = S.length ∧ (∀ (j : Nat) (u : Value), (itCells (S.take k))[j]? = some u → (itCells S)[j]? = some u) ∧ (∀ (j : Nat) (u : Value), (itCells (S.drop k))[j]? = some u → (itCells S)[k * 2 + j]? = some u) := by
  have e : S = S.take k ++ S.drop k := (List.take_append_drop k S).symm
  have hl : (itCells (S.take k)).length = k * 2 := by rw [itCells_length, List.length_take]; omega
  refine ⟨by simp; omega, by simp; omega, fun j u hj => ?_, fun j u hj => ?_⟩
  · rw [e, itCells_append, List.getElem?_append_left (List.getElem?_eq_some_iff.1 hj).1]
    exact hj
  · rw [e, itCells_append, List.getElem?_append_right (by omega), hl, show k * 2 + j - k * 2 = j by omega]
    exact hj
section
variable {w w' : World} {p : Nat} {v : Value} {S : List It}
set_option maxRecDepth 100000 in
set_option maxHeartbeats 2000000 in
theorem RSet_any (h : RefT w p v S) (id at' : Int) (hid : wf id) (hat : wf at') (hat0 : 0 ≤ at') (hn : S.length < 1099511627775) :
    Calls Try.prog 33 #[.pointer (some ⟨p, 0, none⟩), .int .i64 id, .int .i64 at'] w fun e w' => e = .returned (.bool true) ∧ ∃ v', RefT w' p v' (insS (eraseS S id) (id, at')) ∧ (v'.ownBlock = none ∨ ∃ g, v'.ownBlock = some g ∧ w.heap.size ≤ g) ∧ Kept (fun k => k = p) w w' := by
  have hno : ¬ at' < 0 := by omega
  go_enter Try.func33, Try.ntmps33
  go_wp2_with fail
  refine (RCancel_any h id hid (by omega)).mono ?_
  rintro e w1 ⟨rfl, v1, h1, hv1, hk1⟩
  have hle := eraseS_length_le S id
  obtain ⟨S1, hS1⟩ : ∃ S1, eraseS S id = S1 := ⟨_, rfl⟩
  rw [hS1] at h1 hle
  have hS1H := Lib.hid hS1
  have hw1s := hk1.size
  obtain ⟨a, c, rfl, hlc, hcm, hnn, _⟩ := h1.row
  have hcm' : (c : Int) ≤ 9223372036854775807 := by unfold maxLen at hcm; omega
  have hb2 : Below w1.heap.size w1 (w1.alloc (.cells #[.int .i64 id, .int .i64 at'] 67)) := (Below.refl _ _).alloc (Nat.le_refl _) _
  have hx2 : (w1.alloc (.cells #[.int .i64 id, .int .i64 at'] 67)).heap[w1.heap.size]? = some (.cells #[.int .i64 id, .int .i64 at'] 67 (0, 0)) := Array.getElem?_push_size
  have h2 := h1.below hb2
  obtain ⟨W2, hW2⟩ : ∃ W, w1.alloc (.cells #[.int .i64 id, .int .i64 at'] 67) = W := ⟨_, rfl⟩
  have hW2H := Lib.hid hW2
  obtain ⟨xb, hxb⟩ : ∃ b, w1.heap.size = b := ⟨_, rfl⟩
  have hxbH := Lib.hid hxb
  obtain ⟨n, hnS⟩ : ∃ n, S1.length = n := ⟨_, rfl⟩
  have hnH := Lib.hid hnS
  have hb2s : w.heap.size ≤ W2.heap.size := by rw [← hW2]; exact Nat.le_trans hw1s hb2.size
  have hx0 : xb < w1.heap.size + 1 := by omega
  rw [hW2] at hb2 hx2 h2
  rw [hxb] at hx2 hb2
  rw [hnS] at hlc
  have hnb : n < 1099511627776 := by omega
  have hv1H := Lib.hid hv1
  have hk2 : Kept (fun k => k = p) w W2 := hk1.trans (Kept.of_below (S := fun k => k = p) (by rw [hxb]; exact hb2))
  have hplt := h1.lt
  clear h hS1 hle hW2 hxb hv1 hn hnS hk1 hb2 hw1s hx0 h1
  go_wp2_with fail
  rw [hW2H.out, hxbH.out]
  go_loopw [8] (fun i wr => ∃ k : Nat, i = .int .i64 k ∧ k ≤ n ∧ (∀ j, j < k → lt (g S1 j) (id, at')) ∧ Below W2.heap.size W2 wr) (fun i _ => n - (intOf i).toNat)
  case atStart => exact ⟨0, rfl, Nat.zero_le _, fun j hj => by omega, Below.refl _ _⟩
  case round =>
    obtain ⟨k, rfl, hk, hpre, hbr⟩ := hrel
    have hR := h2.below hbr
    have c0 := hR.c0
    rw [hnH.out] at c0
    have hxr := (hbr.block xb (Array.getElem?_eq_some_iff.1 hx2).1).trans hx2
    have x0 : wr.cell? ⟨xb, 0, none⟩ = some (.int .i64 id) := by simp [World.cell?, hxr]
    have x1 : wr.cell? ⟨xb, 1, none⟩ = some (.int .i64 at') := by simp [World.cell?, hxr]
    by_cases hkn : k < n
    · have hkn' : (k : Int) < n := by omega
      obtain ⟨b, off, hba, q0, q1⟩ := (by have := hR.row; rw [hnH.out] at this; exact this : RowT wr (.slice a n c) S1).at k (by rw [hnH.out]; exact hkn)
      by_cases hlt : lt (g S1 k) (id, at')
      · have hd : decide (lt (g S1 k) (id, at')) = true := decide_eq_true hlt
        have hnx := Lib.hid (show ∀ j, j < k + 1 → lt (g S1 j) (id, at') from fun j hj => by
          by_cases e : j < k
          · exact hpre j e
          · rw [show j = k by omega]; exact hlt)
        subst hba
        clear hR hlt hpre hxr
        go_upto_region 6 with (fail)
        refine Rt.wp_region_text [0, 0, 0, 0, 1, 0, 0, 0, 0, 0, 0, 1, 0, 0, 1, 1, 2, 0] (by kernel_rfl) (by kernel_rfl) ?_
        apply txt_move rfl rfl; (· (simp only [Act.put, Act.eval, List.setIfInBounds_toArray, List.set_cons_zero, List.set_cons_succ, Array.getD_eq_getD_getElem?, List.getElem?_toArray, List.getElem?_cons_zero, List.getElem?_cons_succ, Option.getD_some, List.getElem_toArray, List.getElem_cons_succ, List.getElem_cons_zero]; with_reducible rfl))
        apply txt_move rfl rfl; (· (simp only [Act.put, Act.eval, List.setIfInBounds_toArray, List.set_cons_zero, List.set_cons_succ, Array.getD_eq_getD_getElem?, List.getElem?_toArray, List.getElem?_cons_zero, List.getElem?_cons_succ, Option.getD_some, List.getElem_toArray, List.getElem_cons_succ, List.getElem_cons_zero]; with_reducible rfl))
        apply txt_pure rfl rfl rfl; (· (intro w; go_simp; with_reducible rfl)); (· (simp only [Act.put, Act.eval, List.setIfInBounds_toArray, List.set_cons_zero, List.set_cons_succ, Array.getD_eq_getD_getElem?, List.getElem?_toArray, List.getElem?_cons_zero, List.getElem?_cons_succ, Option.getD_some, List.getElem_toArray, List.getElem_cons_succ, List.getElem_cons_zero]; with_reducible rfl))
        apply txt_pure rfl rfl rfl; (· (intro w; go_simp; with_reducible rfl)); (· (simp only [Act.put, Act.eval, List.setIfInBounds_toArray, List.set_cons_zero, List.set_cons_succ, Array.getD_eq_getD_getElem?, List.getElem?_toArray, List.getElem?_cons_zero, List.getElem?_cons_succ, Option.getD_some, List.getElem_toArray, List.getElem_cons_succ, List.getElem_cons_zero]; with_reducible rfl))
        apply txt_read rfl rfl rfl; (· (go_simp; with_reducible rfl)); (· (simp only [Act.put, Act.eval, List.setIfInBounds_toArray, List.set_cons_zero, List.set_cons_succ, Array.getD_eq_getD_getElem?, List.getElem?_toArray, List.getElem?_cons_zero, List.getElem?_cons_succ, Option.getD_some, List.getElem_toArray, List.getElem_cons_succ, List.getElem_cons_zero]; with_reducible rfl))
        apply txt_pure rfl rfl rfl; (· (intro w; go_simp; with_reducible rfl)); (· (simp only [Act.put, Act.eval, List.setIfInBounds_toArray, List.set_cons_zero, List.set_cons_succ, Array.getD_eq_getD_getElem?, List.getElem?_toArray, List.getElem?_cons_zero, List.getElem?_cons_succ, Option.getD_some, List.getElem_toArray, List.getElem_cons_succ, List.getElem_cons_zero]; with_reducible rfl))
        apply txt_pure rfl rfl rfl; (· (intro w; go_simp; with_reducible rfl)); (· (simp only [Act.put, Act.eval, List.setIfInBounds_toArray, List.set_cons_zero, List.set_cons_succ, Array.getD_eq_getD_getElem?, List.getElem?_toArray, List.getElem?_cons_zero, List.getElem?_cons_succ, Option.getD_some, List.getElem_toArray, List.getElem_cons_succ, List.getElem_cons_zero]; with_reducible rfl))
        apply txt_move rfl rfl; (· (simp only [Act.put, Act.eval, List.setIfInBounds_toArray, List.set_cons_zero, List.set_cons_succ, Array.getD_eq_getD_getElem?, List.getElem?_toArray, List.getElem?_cons_zero, List.getElem?_cons_succ, Option.getD_some, List.getElem_toArray, List.getElem_cons_succ, List.getElem_cons_zero]; with_reducible rfl))
        apply txt_pure rfl rfl rfl; (· (intro w; go_simp; with_reducible rfl)); (· (simp only [Act.put, Act.eval, List.setIfInBounds_toArray, List.set_cons_zero, List.set_cons_succ, Array.getD_eq_getD_getElem?, List.getElem?_toArray, List.getElem?_cons_zero, List.getElem?_cons_succ, Option.getD_some, List.getElem_toArray, List.getElem_cons_succ, List.getElem_cons_zero]; with_reducible rfl))
        apply txt_pure rfl rfl rfl; (· (intro w; go_simp; with_reducible rfl)); (· (simp only [Act.put, Act.eval, List.setIfInBounds_toArray, List.set_cons_zero, List.set_cons_succ, Array.getD_eq_getD_getElem?, List.getElem?_toArray, List.getElem?_cons_zero, List.getElem?_cons_succ, Option.getD_some, List.getElem_toArray, List.getElem_cons_succ, List.getElem_cons_zero]; with_reducible rfl))
        apply txt_pure rfl rfl rfl; (· (intro w; go_simp; with_reducible rfl)); (· (simp only [Act.put, Act.eval, List.setIfInBounds_toArray, List.set_cons_zero, List.set_cons_succ, Array.getD_eq_getD_getElem?, List.getElem?_toArray, List.getElem?_cons_zero, List.getElem?_cons_succ, Option.getD_some, List.getElem_toArray, List.getElem_cons_succ, List.getElem_cons_zero]; with_reducible rfl))
        apply txt_read rfl rfl rfl; (· (go_simp; with_reducible rfl)); (· (simp only [Act.put, Act.eval, List.setIfInBounds_toArray, List.set_cons_zero, List.set_cons_succ, Array.getD_eq_getD_getElem?, List.getElem?_toArray, List.getElem?_cons_zero, List.getElem?_cons_succ, Option.getD_some, List.getElem_toArray, List.getElem_cons_succ, List.getElem_cons_zero]; with_reducible rfl))
        apply txt_pure rfl rfl rfl; (· (intro w; go_simp; with_reducible rfl)); (· (simp only [Act.put, Act.eval, List.setIfInBounds_toArray, List.set_cons_zero, List.set_cons_succ, Array.getD_eq_getD_getElem?, List.getElem?_toArray, List.getElem?_cons_zero, List.getElem?_cons_succ, Option.getD_some, List.getElem_toArray, List.getElem_cons_succ, List.getElem_cons_zero]; with_reducible rfl))
        apply txt_pure rfl rfl rfl; (· (intro w; go_simp; with_reducible rfl)); (· (simp only [Act.put, Act.eval, List.setIfInBounds_toArray, List.set_cons_zero, List.set_cons_succ, Array.getD_eq_getD_getElem?, List.getElem?_toArray, List.getElem?_cons_zero, List.getElem?_cons_succ, Option.getD_some, List.getElem_toArray, List.getElem_cons_succ, List.getElem_cons_zero]; with_reducible rfl))
        apply txt_read rfl rfl rfl; (· (go_simp; with_reducible rfl)); (· (simp only [Act.put, Act.eval, List.setIfInBounds_toArray, List.set_cons_zero, List.set_cons_succ, Array.getD_eq_getD_getElem?, List.getElem?_toArray, List.getElem?_cons_zero, List.getElem?_cons_succ, Option.getD_some, List.getElem_toArray, List.getElem_cons_succ, List.getElem_cons_zero]; with_reducible rfl))
        apply txt_read rfl rfl rfl; (· (go_simp; with_reducible rfl)); (· (simp only [Act.put, Act.eval, List.setIfInBounds_toArray, List.set_cons_zero, List.set_cons_succ, Array.getD_eq_getD_getElem?, List.getElem?_toArray, List.getElem?_cons_zero, List.getElem?_cons_succ, Option.getD_some, List.getElem_toArray, List.getElem_cons_succ, List.getElem_cons_zero]; with_reducible rfl))
        refine txt_call rfl rfl rfl (by go_simp; exact ⟨⟨rfl, rfl⟩, rfl⟩) ?_
        refine (before_ref (g S1 k) (id, at') _).mono ?_
        rintro e w3 ⟨rfl, hb3⟩
        refine ⟨_, rfl, ?_⟩
        simp only [Act.put, Act.eval, List.setIfInBounds_toArray, List.set_cons_zero, List.set_cons_succ, Array.getD_eq_getD_getElem?, List.getElem?_toArray, List.getElem?_cons_zero, List.getElem?_cons_succ, Option.getD_some, List.getElem_toArray, List.getElem_cons_succ, List.getElem_cons_zero]
        apply txt_pure rfl rfl rfl; (· (intro w; go_simp; with_reducible rfl)); (· (simp only [Act.put, Act.eval, List.setIfInBounds_toArray, List.set_cons_zero, List.set_cons_succ, Array.getD_eq_getD_getElem?, List.getElem?_toArray, List.getElem?_cons_zero, List.getElem?_cons_succ, Option.getD_some, List.getElem_toArray, List.getElem_cons_succ, List.getElem_cons_zero]; with_reducible rfl))
        with_reducible refine txt_nil ?_
        go_wp2
        go_roundw
        case rel => exact ⟨k + 1, by go_num, by omega, hnx.out, hbr.drew.trans (hb3.mono hbr.size)⟩
        case measure => simp [intOf]; omega
      · have hd : decide (lt (g S1 k) (id, at')) = false := decide_eq_false hlt
        have e1 := ins_at (S := S1) (x := (id, at')) (k := k) (by rw [hnH.out]; exact hk) hpre (fun _ => hlt)
        subst hba
        clear hR hlt hpre hxr
        go_upto_region 6 with (fail)
        refine Rt.wp_region_text [0, 0, 0, 0, 1, 0, 0, 0, 0, 0, 0, 1, 0, 0, 1, 1, 2, 0] (by kernel_rfl) (by kernel_rfl) ?_
        apply txt_move rfl rfl; (· (simp only [Act.put, Act.eval, List.setIfInBounds_toArray, List.set_cons_zero, List.set_cons_succ, Array.getD_eq_getD_getElem?, List.getElem?_toArray, List.getElem?_cons_zero, List.getElem?_cons_succ, Option.getD_some, List.getElem_toArray, List.getElem_cons_succ, List.getElem_cons_zero]; with_reducible rfl))
        apply txt_move rfl rfl; (· (simp only [Act.put, Act.eval, List.setIfInBounds_toArray, List.set_cons_zero, List.set_cons_succ, Array.getD_eq_getD_getElem?, List.getElem?_toArray, List.getElem?_cons_zero, List.getElem?_cons_succ, Option.getD_some, List.getElem_toArray, List.getElem_cons_succ, List.getElem_cons_zero]; with_reducible rfl))
        apply txt_pure rfl rfl rfl; (· (intro w; go_simp; with_reducible rfl)); (· (simp only [Act.put, Act.eval, List.setIfInBounds_toArray, List.set_cons_zero, List.set_cons_succ, Array.getD_eq_getD_getElem?, List.getElem?_toArray, List.getElem?_cons_zero, List.getElem?_cons_succ, Option.getD_some, List.getElem_toArray, List.getElem_cons_succ, List.getElem_cons_zero]; with_reducible rfl))
        apply txt_pure rfl rfl rfl; (· (intro w; go_simp; with_reducible rfl)); (· (simp only [Act.put, Act.eval, List.setIfInBounds_toArray, List.set_cons_zero, List.set_cons_succ, Array.getD_eq_getD_getElem?, List.getElem?_toArray, List.getElem?_cons_zero, List.getElem?_cons_succ, Option.getD_some, List.getElem_toArray, List.getElem_cons_succ, List.getElem_cons_zero]; with_reducible rfl))
        apply txt_read rfl rfl rfl; (· (go_simp; with_reducible rfl)); (· (simp only [Act.put, Act.eval, List.setIfInBounds_toArray, List.set_cons_zero, List.set_cons_succ, Array.getD_eq_getD_getElem?, List.getElem?_toArray, List.getElem?_cons_zero, List.getElem?_cons_succ, Option.getD_some, List.getElem_toArray, List.getElem_cons_succ, List.getElem_cons_zero]; with_reducible rfl))
        apply txt_pure rfl rfl rfl; (· (intro w; go_simp; with_reducible rfl)); (· (simp only [Act.put, Act.eval, List.setIfInBounds_toArray, List.set_cons_zero, List.set_cons_succ, Array.getD_eq_getD_getElem?, List.getElem?_toArray, List.getElem?_cons_zero, List.getElem?_cons_succ, Option.getD_some, List.getElem_toArray, List.getElem_cons_succ, List.getElem_cons_zero]; with_reducible rfl))
        apply txt_pure rfl rfl rfl; (· (intro w; go_simp; with_reducible rfl)); (· (simp only [Act.put, Act.eval, List.setIfInBounds_toArray, List.set_cons_zero, List.set_cons_succ, Array.getD_eq_getD_getElem?, List.getElem?_toArray, List.getElem?_cons_zero, List.getElem?_cons_succ, Option.getD_some, List.getElem_toArray, List.getElem_cons_succ, List.getElem_cons_zero]; with_reducible rfl))
        apply txt_move rfl rfl; (· (simp only [Act.put, Act.eval, List.setIfInBounds_toArray, List.set_cons_zero, List.set_cons_succ, Array.getD_eq_getD_getElem?, List.getElem?_toArray, List.getElem?_cons_zero, List.getElem?_cons_succ, Option.getD_some, List.getElem_toArray, List.getElem_cons_succ, List.getElem_cons_zero]; with_reducible rfl))
        apply txt_pure rfl rfl rfl; (· (intro w; go_simp; with_reducible rfl)); (· (simp only [Act.put, Act.eval, List.setIfInBounds_toArray, List.set_cons_zero, List.set_cons_succ, Array.getD_eq_getD_getElem?, List.getElem?_toArray, List.getElem?_cons_zero, List.getElem?_cons_succ, Option.getD_some, List.getElem_toArray, List.getElem_cons_succ, List.getElem_cons_zero]; with_reducible rfl))
        apply txt_pure rfl rfl rfl; (· (intro w; go_simp; with_reducible rfl)); (· (simp only [Act.put, Act.eval, List.setIfInBounds_toArray, List.set_cons_zero, List.set_cons_succ, Array.getD_eq_getD_getElem?, List.getElem?_toArray, List.getElem?_cons_zero, List.getElem?_cons_succ, Option.getD_some, List.getElem_toArray, List.getElem_cons_succ, List.getElem_cons_zero]; with_reducible rfl))
        apply txt_pure rfl rfl rfl; (· (intro w; go_simp; with_reducible rfl)); (· (simp only [Act.put, Act.eval, List.setIfInBounds_toArray, List.set_cons_zero, List.set_cons_succ, Array.getD_eq_getD_getElem?, List.getElem?_toArray, List.getElem?_cons_zero, List.getElem?_cons_succ, Option.getD_some, List.getElem_toArray, List.getElem_cons_succ, List.getElem_cons_zero]; with_reducible rfl))
        apply txt_read rfl rfl rfl; (· (go_simp; with_reducible rfl)); (· (simp only [Act.put, Act.eval, List.setIfInBounds_toArray, List.set_cons_zero, List.set_cons_succ, Array.getD_eq_getD_getElem?, List.getElem?_toArray, List.getElem?_cons_zero, List.getElem?_cons_succ, Option.getD_some, List.getElem_toArray, List.getElem_cons_succ, List.getElem_cons_zero]; with_reducible rfl))
        apply txt_pure rfl rfl rfl; (· (intro w; go_simp; with_reducible rfl)); (· (simp only [Act.put, Act.eval, List.setIfInBounds_toArray, List.set_cons_zero, List.set_cons_succ, Array.getD_eq_getD_getElem?, List.getElem?_toArray, List.getElem?_cons_zero, List.getElem?_cons_succ, Option.getD_some, List.getElem_toArray, List.getElem_cons_succ, List.getElem_cons_zero]; with_reducible rfl))
        apply txt_pure rfl rfl rfl; (· (intro w; go_simp; with_reducible rfl)); (· (simp only [Act.put, Act.eval, List.setIfInBounds_toArray, List.set_cons_zero, List.set_cons_succ, Array.getD_eq_getD_getElem?, List.getElem?_toArray, List.getElem?_cons_zero, List.getElem?_cons_succ, Option.getD_some, List.getElem_toArray, List.getElem_cons_succ, List.getElem_cons_zero]; with_reducible rfl))
        apply txt_read rfl rfl rfl; (· (go_simp; with_reducible rfl)); (· (simp only [Act.put, Act.eval, List.setIfInBounds_toArray, List.set_cons_zero, List.set_cons_succ, Array.getD_eq_getD_getElem?, List.getElem?_toArray, List.getElem?_cons_zero, List.getElem?_cons_succ, Option.getD_some, List.getElem_toArray, List.getElem_cons_succ, List.getElem_cons_zero]; with_reducible rfl))
        apply txt_read rfl rfl rfl; (· (go_simp; with_reducible rfl)); (· (simp only [Act.put, Act.eval, List.setIfInBounds_toArray, List.set_cons_zero, List.set_cons_succ, Array.getD_eq_getD_getElem?, List.getElem?_toArray, List.getElem?_cons_zero, List.getElem?_cons_succ, Option.getD_some, List.getElem_toArray, List.getElem_cons_succ, List.getElem_cons_zero]; with_reducible rfl))
        refine txt_call rfl rfl rfl (by go_simp; exact ⟨⟨rfl, rfl⟩, rfl⟩) ?_
        refine (before_ref (g S1 k) (id, at') _).mono ?_
        rintro e w3 ⟨rfl, hb3⟩
        refine ⟨_, rfl, ?_⟩
        simp only [Act.put, Act.eval, List.setIfInBounds_toArray, List.set_cons_zero, List.set_cons_succ, Array.getD_eq_getD_getElem?, List.getElem?_toArray, List.getElem?_cons_zero, List.getElem?_cons_succ, Option.getD_some, List.getElem_toArray, List.getElem_cons_succ, List.getElem_cons_zero]
        apply txt_pure rfl rfl rfl; (· (intro w; go_simp; with_reducible rfl)); (· (simp only [Act.put, Act.eval, List.setIfInBounds_toArray, List.set_cons_zero, List.set_cons_succ, Array.getD_eq_getD_getElem?, List.getElem?_toArray, List.getElem?_cons_zero, List.getElem?_cons_succ, Option.getD_some, List.getElem_toArray, List.getElem_cons_succ, List.getElem_cons_zero]; with_reducible rfl))
        with_reducible refine txt_nil ?_
        have hbT := hbr.drew.trans (hb3.mono hbr.size)
        clear c0 x0 x1 q0 q1
        obtain ⟨wT, hwT⟩ : ∃ W, w3 = W := ⟨_, rfl⟩
        rw [hwT] at hbT ⊢
        clear hwT
        have hT := h2.below hbT
        have c0 := hT.c0
        rw [hnH.out] at c0
        have f0 := hT.fr
        have hxT := (hbT.block xb (Array.getElem?_eq_some_iff.1 hx2).1).trans hx2
        have hrow := hT.row
        have hTlt := hT.lt
        obtain ⟨hl1, hl2, hs1, hs2⟩ := cut_cells2 (S := S1) (k := k) (by rw [hnH.out]; exact hk)
        rw [hnH.out] at hl2
        have hkT : Kept (fun k => k = p) w wT := hk2.trans (Kept.of_below (S := fun k => k = p) hbT)
        obtain ⟨T1, hT1⟩ : ∃ T, S1.take k = T := ⟨_, rfl⟩
        obtain ⟨T2, hT2⟩ : ∃ T, S1.drop k = T := ⟨_, rfl⟩
        rw [hT1, hT2] at e1
        rw [hT1] at hl1 hs1
        rw [hT2] at hl2 hs2
        have hs1H := Lib.hid hs1
        have hs2H := Lib.hid hs2
        have e1H := Lib.hid e1
        have hl1H := Lib.hid hl1
        have hl2H := Lib.hid hl2
        have hTH := Lib.hid hT
        have c0H := Lib.hid c0
        have f0H := Lib.hid f0
        have hxH := Lib.hid hxT
        have hxbl : xb < wT.heap.size := (Array.getElem?_eq_some_iff.1 hxT).1
        have hsT : w.heap.size ≤ wT.heap.size := hkT.size
        have hkw : (k : Int) ≤ n := by omega
        have hkc : (k : Int) ≤ c := by omega
        have hB0 : Hid (Below wT.heap.size wT wT) := Lib.hid (Below.refl _ _)
        clear hs1 hs2 e1 hl1 hl2 hT1 hT2 hT f0 hxT hbT
        have hcell : 0 < n → True ∧ b < wT.heap.size ∧ ∀ j u, (itCells S1)[j]? = some u → wT.cell? ⟨b, off + j, none⟩ = some u := fun h0 => ⟨trivial, (hrow.cells2 (by rw [hnH.out]; exact h0)).2⟩
        have hcH := Lib.hid hcell
        clear hcell hrow
        have hck : ¬ c = k := by omega
        have hck2 : ¬ c - k = 0 := by omega
        have hck3 : ¬ c ≤ k := by omega
        go_wp2_with (at_builtin; first
          | (refine wpList_app_it rfl (.tmp 38) (.tmp 44) rfl rfl (World.ownsRow_nil wT wT.heap.size 67 2) (Nat.le_refl _) (T := T1) rfl hl1H.out.symm (fun e => by cases e) (fun hpos => by
                obtain ⟨e, _, hc⟩ := hcH.out (by have := hl1H.out; omega)
                exact ⟨b, off, rfl, fun j u hj => hc j u (hs1H.out j u hj)⟩) (by rw [hl1H.out]; omega) ?_
             intro va wa howna hgrowa hata
             rw [Nat.zero_add, List.nil_append] at howna
             have hba : Below wT.heap.size wT wa := hB0.out.grown hgrowa (Nat.le_refl _) (fun k hk => by cases hk)
             have hxa := (hba.block xb hxbl).trans hxH.out
             have xa0 : wa.cell? ⟨xb, 0, none⟩ = some (.int .i64 id) := by simp [World.cell?, hxa]
             have xa1 : wa.cell? ⟨xb, 1, none⟩ = some (.int .i64 at') := by simp [World.cell?, hxa]
             clear hxa hgrowa hata)
          | (refine wpList_app_it rfl (.tmp 46) (.tmp 48) rfl rfl (howna.alloc _) (Nat.le_trans hba.size (by simp)) (T := [(id, at')]) rfl rfl (fun e => by cases e) (fun _ => ⟨_, 0, rfl, two_new wa _ _ _⟩) (by simp; have := hl1H.out; omega) ?_
             intro vb wb hownb hgrowb hatb
             have hbb : Below wT.heap.size wT wb := (hba.alloc hba.size _).grown hgrowb (Nat.le_trans hba.size (by simp)) (fun k hk => (howna.lt k hk).1)
             have cb := (hbb.cell (p := ⟨p, 0, none⟩) hTlt).trans c0H.out
             clear hgrowb hatb xa0 xa1)
          | (refine wpList_app_it rfl (.tmp 51) (.tmp 57) rfl rfl hownb hbb.size (T := T2) rfl (by have := hl2H.out; omega) (fun e => by cases e) (fun hpos => by
                obtain ⟨e, hbl, hc⟩ := hcH.out (by have := hl2H.out; omega)
                exact ⟨b, off + k * 2, rfl, fun j u hj => by rw [Nat.add_assoc]; exact (hbb.cell (p := ⟨b, off + (k * 2 + j), none⟩) hbl).trans (hc _ _ (hs2H.out j u hj))⟩) (by simp; have := hl2H.out; have := hl1H.out; omega) ?_
             intro vc wc hownc hgrowc hatc
             have hbc : Below wT.heap.size wT wc := hbb.grown hgrowc hbb.size (fun k hk => (hownb.lt k hk).1)
             have cc := (hbc.cell (p := ⟨p, 0, none⟩) hTlt).trans c0H.out
             have fc := (hbc.frozen (p := ⟨p, 0, none⟩) hTlt).trans f0H.out
             obtain ⟨a3, cc3, rfl⟩ := own_slice hownc
             clear hgrowc hatc))
        have hsep : (Value.slice a3 (T1.length + [(id, at')].length + T2.length) cc3).ownBlock ≠ some p := fun e => by have := (hownc.lt p e).1; omega
        obtain ⟨r1, r2⟩ := hTH.out.put hbc (RowT.of_row (S := T1 ++ (id, at') :: T2) hownc (by simp; omega) (by rw [show T1 ++ (id, at') :: T2 = (T1 ++ [(id, at')]) ++ T2 by simp, itCells_append, itCells_append])) hsep
        go_ret
        refine ⟨rfl, _, by rw [hS1H.out, e1H.out]; exact r1, ?_, hkT.trans r2⟩
        rcases hq : (Value.slice a3 (T1.length + [(id, at')].length + T2.length) cc3).ownBlock with _ | q
        · exact .inl rfl
        · exact .inr ⟨q, rfl, by have := (hownc.lt q hq).1; omega⟩
    · have hkn' : ¬ (k : Int) < n := by omega
      have e1 := ins_at (S := S1) (x := (id, at')) (k := k) (by rw [hnH.out]; exact hk) hpre (fun e => (hkn (by rw [← hnH.out]; exact e)).elim)
      clear hR hpre hxr x0 x1
      go_upto_region 6 with (fail)
      refine Rt.wp_region_text [0, 0, 0, 0, 1, 0, 0, 0, 0, 0, 0, 1, 0, 0, 1, 1, 2, 0] (by kernel_rfl) (by kernel_rfl) ?_
      apply txt_move rfl rfl; (· (simp only [Act.put, Act.eval, List.setIfInBounds_toArray, List.set_cons_zero, List.set_cons_succ, Array.getD_eq_getD_getElem?, List.getElem?_toArray, List.getElem?_cons_zero, List.getElem?_cons_succ, Option.getD_some, List.getElem_toArray, List.getElem_cons_succ, List.getElem_cons_zero]; with_reducible rfl))
      apply txt_move rfl rfl; (· (simp only [Act.put, Act.eval, List.setIfInBounds_toArray, List.set_cons_zero, List.set_cons_succ, Array.getD_eq_getD_getElem?, List.getElem?_toArray, List.getElem?_cons_zero, List.getElem?_cons_succ, Option.getD_some, List.getElem_toArray, List.getElem_cons_succ, List.getElem_cons_zero]; with_reducible rfl))
      apply txt_pure rfl rfl rfl; (· (intro w; go_simp; with_reducible rfl)); (· (simp only [Act.put, Act.eval, List.setIfInBounds_toArray, List.set_cons_zero, List.set_cons_succ, Array.getD_eq_getD_getElem?, List.getElem?_toArray, List.getElem?_cons_zero, List.getElem?_cons_succ, Option.getD_some, List.getElem_toArray, List.getElem_cons_succ, List.getElem_cons_zero]; with_reducible rfl))
      apply txt_pure rfl rfl rfl; (· (intro w; go_simp; with_reducible rfl)); (· (simp only [Act.put, Act.eval, List.setIfInBounds_toArray, List.set_cons_zero, List.set_cons_succ, Array.getD_eq_getD_getElem?, List.getElem?_toArray, List.getElem?_cons_zero, List.getElem?_cons_succ, Option.getD_some, List.getElem_toArray, List.getElem_cons_succ, List.getElem_cons_zero]; with_reducible rfl))
      apply txt_read rfl rfl rfl; (· (go_simp; with_reducible rfl)); (· (simp only [Act.put, Act.eval, List.setIfInBounds_toArray, List.set_cons_zero, List.set_cons_succ, Array.getD_eq_getD_getElem?, List.getElem?_toArray, List.getElem?_cons_zero, List.getElem?_cons_succ, Option.getD_some, List.getElem_toArray, List.getElem_cons_succ, List.getElem_cons_zero]; with_reducible rfl))
      apply txt_pure rfl rfl rfl; (· (intro w; go_simp; with_reducible rfl)); (· (simp only [Act.put, Act.eval, List.setIfInBounds_toArray, List.set_cons_zero, List.set_cons_succ, Array.getD_eq_getD_getElem?, List.getElem?_toArray, List.getElem?_cons_zero, List.getElem?_cons_succ, Option.getD_some, List.getElem_toArray, List.getElem_cons_succ, List.getElem_cons_zero]; with_reducible rfl))
      apply txt_pure rfl rfl rfl; (· (intro w; go_simp; with_reducible rfl)); (· (simp only [Act.put, Act.eval, List.setIfInBounds_toArray, List.set_cons_zero, List.set_cons_succ, Array.getD_eq_getD_getElem?, List.getElem?_toArray, List.getElem?_cons_zero, List.getElem?_cons_succ, Option.getD_some, List.getElem_toArray, List.getElem_cons_succ, List.getElem_cons_zero]; with_reducible rfl))
      apply txt_move rfl rfl; (· (simp only [Act.put, Act.eval, List.setIfInBounds_toArray, List.set_cons_zero, List.set_cons_succ, Array.getD_eq_getD_getElem?, List.getElem?_toArray, List.getElem?_cons_zero, List.getElem?_cons_succ, Option.getD_some, List.getElem_toArray, List.getElem_cons_succ, List.getElem_cons_zero]; with_reducible rfl))
      apply txt_skip rfl rfl; (· (simp only [Act.put, Act.eval, List.setIfInBounds_toArray, List.set_cons_zero, List.set_cons_succ, Array.getD_eq_getD_getElem?, List.getElem?_toArray, List.getElem?_cons_zero, List.getElem?_cons_succ, Option.getD_some, List.getElem_toArray, List.getElem_cons_succ, List.getElem_cons_zero]; with_reducible rfl))
      apply txt_skip rfl rfl; (· (simp only [Act.put, Act.eval, List.setIfInBounds_toArray, List.set_cons_zero, List.set_cons_succ, Array.getD_eq_getD_getElem?, List.getElem?_toArray, List.getElem?_cons_zero, List.getElem?_cons_succ, Option.getD_some, List.getElem_toArray, List.getElem_cons_succ, List.getElem_cons_zero]; with_reducible rfl))
      apply txt_skip rfl rfl; (· (simp only [Act.put, Act.eval, List.setIfInBounds_toArray, List.set_cons_zero, List.set_cons_succ, Array.getD_eq_getD_getElem?, List.getElem?_toArray, List.getElem?_cons_zero, List.getElem?_cons_succ, Option.getD_some, List.getElem_toArray, List.getElem_cons_succ, List.getElem_cons_zero]; with_reducible rfl))
      apply txt_skip rfl rfl; (· (simp only [Act.put, Act.eval, List.setIfInBounds_toArray, List.set_cons_zero, List.set_cons_succ, Array.getD_eq_getD_getElem?, List.getElem?_toArray, List.getElem?_cons_zero, List.getElem?_cons_succ, Option.getD_some, List.getElem_toArray, List.getElem_cons_succ, List.getElem_cons_zero]; with_reducible rfl))
      apply txt_skip rfl rfl; (· (simp only [Act.put, Act.eval, List.setIfInBounds_toArray, List.set_cons_zero, List.set_cons_succ, Array.getD_eq_getD_getElem?, List.getElem?_toArray, List.getElem?_cons_zero, List.getElem?_cons_succ, Option.getD_some, List.getElem_toArray, List.getElem_cons_succ, List.getElem_cons_zero]; with_reducible rfl))
      apply txt_skip rfl rfl; (· (simp only [Act.put, Act.eval, List.setIfInBounds_toArray, List.set_cons_zero, List.set_cons_succ, Array.getD_eq_getD_getElem?, List.getElem?_toArray, List.getElem?_cons_zero, List.getElem?_cons_succ, Option.getD_some, List.getElem_toArray, List.getElem_cons_succ, List.getElem_cons_zero]; with_reducible rfl))
      apply txt_skip rfl rfl; (· (simp only [Act.put, Act.eval, List.setIfInBounds_toArray, List.set_cons_zero, List.set_cons_succ, Array.getD_eq_getD_getElem?, List.getElem?_toArray, List.getElem?_cons_zero, List.getElem?_cons_succ, Option.getD_some, List.getElem_toArray, List.getElem_cons_succ, List.getElem_cons_zero]; with_reducible rfl))
      apply txt_skip rfl rfl; (· (simp only [Act.put, Act.eval, List.setIfInBounds_toArray, List.set_cons_zero, List.set_cons_succ, Array.getD_eq_getD_getElem?, List.getElem?_toArray, List.getElem?_cons_zero, List.getElem?_cons_succ, Option.getD_some, List.getElem_toArray, List.getElem_cons_succ, List.getElem_cons_zero]; with_reducible rfl))
      apply txt_skip rfl rfl; (· (simp only [Act.put, Act.eval, List.setIfInBounds_toArray, List.set_cons_zero, List.set_cons_succ, Array.getD_eq_getD_getElem?, List.getElem?_toArray, List.getElem?_cons_zero, List.getElem?_cons_succ, Option.getD_some, List.getElem_toArray, List.getElem_cons_succ, List.getElem_cons_zero]; with_reducible rfl))
      apply txt_pure rfl rfl rfl; (· (intro w; go_simp; with_reducible rfl)); (· (simp only [Act.put, Act.eval, List.setIfInBounds_toArray, List.set_cons_zero, List.set_cons_succ, Array.getD_eq_getD_getElem?, List.getElem?_toArray, List.getElem?_cons_zero, List.getElem?_cons_succ, Option.getD_some, List.getElem_toArray, List.getElem_cons_succ, List.getElem_cons_zero]; with_reducible rfl))
      with_reducible refine txt_nil ?_
      have hbT := hbr.drew
      clear c0
      obtain ⟨wT, hwT⟩ : ∃ W, wr.drew = W := ⟨_, rfl⟩
      rw [hwT] at hbT ⊢
      clear hwT
      have hT := h2.below hbT
      have c0 := hT.c0
      rw [hnH.out] at c0
      have f0 := hT.fr
      have hxT := (hbT.block xb (Array.getElem?_eq_some_iff.1 hx2).1).trans hx2
      have hrow := hT.row
      have hTlt := hT.lt
      obtain ⟨hl1, hl2, hs1, hs2⟩ := cut_cells2 (S := S1) (k := k) (by rw [hnH.out]; exact hk)
      rw [hnH.out] at hl2
      have hkT : Kept (fun k => k = p) w wT := hk2.trans (Kept.of_below (S := fun k => k = p) hbT)
      obtain ⟨T1, hT1⟩ : ∃ T, S1.take k = T := ⟨_, rfl⟩
      obtain ⟨T2, hT2⟩ : ∃ T, S1.drop k = T := ⟨_, rfl⟩
      rw [hT1, hT2] at e1
      rw [hT1] at hl1 hs1
      rw [hT2] at hl2 hs2
      have hs1H := Lib.hid hs1
      have hs2H := Lib.hid hs2
      have e1H := Lib.hid e1
      have hl1H := Lib.hid hl1
      have hl2H := Lib.hid hl2
      have hTH := Lib.hid hT
      have c0H := Lib.hid c0
      have f0H := Lib.hid f0
      have hxH := Lib.hid hxT
      have hxbl : xb < wT.heap.size := (Array.getElem?_eq_some_iff.1 hxT).1
      have hsT : w.heap.size ≤ wT.heap.size := hkT.size
      have hkw : (k : Int) ≤ n := by omega
      have hkc : (k : Int) ≤ c := by omega
      have hB0 : Hid (Below wT.heap.size wT wT) := Lib.hid (Below.refl _ _)
      clear hs1 hs2 e1 hl1 hl2 hT1 hT2 hT f0 hxT hbT
      cases a with
      | none =>
        obtain rfl := hnn rfl
        have hn0 : n = 0 := by omega
        have hk0 : k = 0 := by omega
        subst hn0 hk0
        have hT1e : T1 = [] := List.length_eq_zero_iff.1 hl1H.out
        have hT2e : T2 = [] := List.length_eq_zero_iff.1 (by have := hl2H.out; omega)
        clear hrow
        subst hT1e hT2e
        go_wp2_with (at_builtin; first
          | (refine wpList_app_it rfl (.tmp 38) (.tmp 44) rfl rfl (World.ownsRow_nil wT wT.heap.size 67 2) (Nat.le_refl _) (T := []) rfl rfl (fun e => ⟨rfl, rfl⟩) (fun hpos => by simp at hpos) (by simp) ?_
             intro va wa howna hgrowa hata
             rw [Nat.zero_add, List.nil_append] at howna
             have hba : Below wT.heap.size wT wa := hB0.out.grown hgrowa (Nat.le_refl _) (fun k hk => by cases hk)
             have hxa := (hba.block xb hxbl).trans hxH.out
             have xa0 : wa.cell? ⟨xb, 0, none⟩ = some (.int .i64 id) := by simp [World.cell?, hxa]
             have xa1 : wa.cell? ⟨xb, 1, none⟩ = some (.int .i64 at') := by simp [World.cell?, hxa]
             clear hxa hgrowa hata)
          | (refine wpList_app_it rfl (.tmp 46) (.tmp 48) rfl rfl (howna.alloc _) (Nat.le_trans hba.size (by simp)) (T := [(id, at')]) rfl rfl (fun e => by cases e) (fun _ => ⟨_, 0, rfl, two_new wa _ _ _⟩) (by simp) ?_
             intro vb wb hownb hgrowb hatb
             have hbb : Below wT.heap.size wT wb := (hba.alloc hba.size _).grown hgrowb (Nat.le_trans hba.size (by simp)) (fun k hk => (howna.lt k hk).1)
             have cb := (hbb.cell (p := ⟨p, 0, none⟩) hTlt).trans c0H.out
             clear hgrowb hatb xa0 xa1)
          | (refine wpList_app_it rfl (.tmp 51) (.tmp 57) rfl rfl hownb hbb.size (T := []) rfl rfl (fun e => ⟨rfl, rfl⟩) (fun hpos => by simp at hpos) (by simp) ?_
             intro vc wc hownc hgrowc hatc
             have hbc : Below wT.heap.size wT wc := hbb.grown hgrowc hbb.size (fun k hk => (hownb.lt k hk).1)
             have cc := (hbc.cell (p := ⟨p, 0, none⟩) hTlt).trans c0H.out
             have fc := (hbc.frozen (p := ⟨p, 0, none⟩) hTlt).trans f0H.out
             obtain ⟨a3, cc3, rfl⟩ := own_slice hownc
             clear hgrowc hatc))
        have hsep : (Value.slice a3 (([] : List It).length + [(id, at')].length + ([] : List It).length) cc3).ownBlock ≠ some p := fun e => by have := (hownc.lt p e).1; omega
        obtain ⟨r1, r2⟩ := hTH.out.put hbc (RowT.of_row (S := [] ++ (id, at') :: []) hownc (by simp) (by rw [show ([] : List It) ++ (id, at') :: [] = ([] ++ [(id, at')]) ++ [] by simp, itCells_append, itCells_append])) hsep
        go_ret
        refine ⟨rfl, _, by rw [hS1H.out, e1H.out]; exact r1, ?_, hkT.trans r2⟩
        rcases hq : (Value.slice a3 (([] : List It).length + [(id, at')].length + ([] : List It).length) cc3).ownBlock with _ | q
        · exact .inl rfl
        · exact .inr ⟨q, rfl, by have := (hownc.lt q hq).1; omega⟩
      | some A =>
        obtain ⟨b, off, sp⟩ := A
        have hcell : 0 < n → sp = none ∧ b < wT.heap.size ∧ ∀ j u, (itCells S1)[j]? = some u → wT.cell? ⟨b, off + j, none⟩ = some u := fun h0 => hrow.cells2 (by rw [hnH.out]; exact h0)
        have hcH := Lib.hid hcell
        clear hcell hrow
        by_cases hck : c = k
        · have hck2 : c - k = 0 := by omega
          have hck3 : (c : Int) ≤ k := by omega
          have hckH := Lib.hid hck
          clear hck
          go_wp2_with (at_builtin; first
            | (refine wpList_app_it rfl (.tmp 38) (.tmp 44) rfl rfl (World.ownsRow_nil wT wT.heap.size 67 2) (Nat.le_refl _) (T := T1) rfl hl1H.out.symm (fun e => by cases e) (fun hpos => by
                  obtain ⟨e, _, hc⟩ := hcH.out (by have := hl1H.out; omega)
                  exact ⟨b, off, by first | rfl | (rw [e]; done), fun j u hj => hc j u (hs1H.out j u hj)⟩) (by rw [hl1H.out]; omega) ?_
               intro va wa howna hgrowa hata
               rw [Nat.zero_add, List.nil_append] at howna
               have hba : Below wT.heap.size wT wa := hB0.out.grown hgrowa (Nat.le_refl _) (fun k hk => by cases hk)
               have hxa := (hba.block xb hxbl).trans hxH.out
               have xa0 : wa.cell? ⟨xb, 0, none⟩ = some (.int .i64 id) := by simp [World.cell?, hxa]
               have xa1 : wa.cell? ⟨xb, 1, none⟩ = some (.int .i64 at') := by simp [World.cell?, hxa]
               clear hxa hgrowa hata)
            | (refine wpList_app_it rfl (.tmp 46) (.tmp 48) rfl rfl (howna.alloc _) (Nat.le_trans hba.size (by simp)) (T := [(id, at')]) rfl rfl (fun e => by cases e) (fun _ => ⟨_, 0, rfl, two_new wa _ _ _⟩) (by simp; have := hl1H.out; omega) ?_
               intro vb wb hownb hgrowb hatb
               have hbb : Below wT.heap.size wT wb := (hba.alloc hba.size _).grown hgrowb (Nat.le_trans hba.size (by simp)) (fun k hk => (howna.lt k hk).1)
               have cb := (hbb.cell (p := ⟨p, 0, none⟩) hTlt).trans c0H.out
               clear hgrowb hatb xa0 xa1)
            | (refine wpList_app_it rfl (.tmp 51) (.tmp 57) rfl rfl hownb hbb.size (T := T2) rfl (by have := hl2H.out; omega) (fun e => by cases e) (fun hpos => by exfalso; have := hl2H.out; omega) (by simp; have := hl2H.out; have := hl1H.out; omega) ?_
               intro vc wc hownc hgrowc hatc
               have hbc : Below wT.heap.size wT wc := hbb.grown hgrowc hbb.size (fun k hk => (hownb.lt k hk).1)
               have cc := (hbc.cell (p := ⟨p, 0, none⟩) hTlt).trans c0H.out
               have fc := (hbc.frozen (p := ⟨p, 0, none⟩) hTlt).trans f0H.out
               obtain ⟨a3, cc3, rfl⟩ := own_slice hownc
               clear hgrowc hatc))
          have hsep : (Value.slice a3 (T1.length + [(id, at')].length + T2.length) cc3).ownBlock ≠ some p := fun e => by have := (hownc.lt p e).1; omega
          obtain ⟨r1, r2⟩ := hTH.out.put hbc (RowT.of_row (S := T1 ++ (id, at') :: T2) hownc (by simp; omega) (by rw [show T1 ++ (id, at') :: T2 = (T1 ++ [(id, at')]) ++ T2 by simp, itCells_append, itCells_append])) hsep
          go_ret
          refine ⟨rfl, _, by rw [hS1H.out, e1H.out]; exact r1, ?_, hkT.trans r2⟩
          rcases hq : (Value.slice a3 (T1.length + [(id, at')].length + T2.length) cc3).ownBlock with _ | q
          · exact .inl rfl
          · exact .inr ⟨q, rfl, by have := (hownc.lt q hq).1; omega⟩
        · have hck2 : ¬ c - k = 0 := by omega
          have hck3 : ¬ c ≤ k := by omega
          go_wp2_with (at_builtin; first
            | (refine wpList_app_it rfl (.tmp 38) (.tmp 44) rfl rfl (World.ownsRow_nil wT wT.heap.size 67 2) (Nat.le_refl _) (T := T1) rfl hl1H.out.symm (fun e => by cases e) (fun hpos => by
                  obtain ⟨e, _, hc⟩ := hcH.out (by have := hl1H.out; omega)
                  exact ⟨b, off, by first | rfl | (rw [e]; done), fun j u hj => hc j u (hs1H.out j u hj)⟩) (by rw [hl1H.out]; omega) ?_
               intro va wa howna hgrowa hata
               rw [Nat.zero_add, List.nil_append] at howna
               have hba : Below wT.heap.size wT wa := hB0.out.grown hgrowa (Nat.le_refl _) (fun k hk => by cases hk)
               have hxa := (hba.block xb hxbl).trans hxH.out
               have xa0 : wa.cell? ⟨xb, 0, none⟩ = some (.int .i64 id) := by simp [World.cell?, hxa]
               have xa1 : wa.cell? ⟨xb, 1, none⟩ = some (.int .i64 at') := by simp [World.cell?, hxa]
               clear hxa hgrowa hata)
            | (refine wpList_app_it rfl (.tmp 46) (.tmp 48) rfl rfl (howna.alloc _) (Nat.le_trans hba.size (by simp)) (T := [(id, at')]) rfl rfl (fun e => by cases e) (fun _ => ⟨_, 0, rfl, two_new wa _ _ _⟩) (by simp; have := hl1H.out; omega) ?_
               intro vb wb hownb hgrowb hatb
               have hbb : Below wT.heap.size wT wb := (hba.alloc hba.size _).grown hgrowb (Nat.le_trans hba.size (by simp)) (fun k hk => (howna.lt k hk).1)
               have cb := (hbb.cell (p := ⟨p, 0, none⟩) hTlt).trans c0H.out
               clear hgrowb hatb xa0 xa1)
            | (refine wpList_app_it rfl (.tmp 51) (.tmp 57) rfl rfl hownb hbb.size (T := T2) rfl (by have := hl2H.out; omega) (fun e => by cases e) (fun hpos => by exfalso; have := hl2H.out; omega) (by simp; have := hl2H.out; have := hl1H.out; omega) ?_
               intro vc wc hownc hgrowc hatc
               have hbc : Below wT.heap.size wT wc := hbb.grown hgrowc hbb.size (fun k hk => (hownb.lt k hk).1)
               have cc := (hbc.cell (p := ⟨p, 0, none⟩) hTlt).trans c0H.out
               have fc := (hbc.frozen (p := ⟨p, 0, none⟩) hTlt).trans f0H.out
               obtain ⟨a3, cc3, rfl⟩ := own_slice hownc
               clear hgrowc hatc))
          have hsep : (Value.slice a3 (T1.length + [(id, at')].length + T2.length) cc3).ownBlock ≠ some p := fun e => by have := (hownc.lt p e).1; omega
          obtain ⟨r1, r2⟩ := hTH.out.put hbc (RowT.of_row (S := T1 ++ (id, at') :: T2) hownc (by simp; omega) (by rw [show T1 ++ (id, at') :: T2 = (T1 ++ [(id, at')]) ++ T2 by simp, itCells_append, itCells_append])) hsep
          go_ret
          refine ⟨rfl, _, by rw [hS1H.out, e1H.out]; exact r1, ?_, hkT.trans r2⟩
          rcases hq : (Value.slice a3 (T1.length + [(id, at')].length + T2.length) cc3).ownBlock with _ | q
          · exact .inl rfl
          · exact .inr ⟨q, rfl, by have := (hownc.lt q hq).1; omega⟩
end
end Go.Proofs.Ytmgapdbfaoflmaa.Tm
