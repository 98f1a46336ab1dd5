/- The reference's Timeout. -/
import Derived.Test.YtmgapdbfaoflmaaTmQ
namespace Go.Proofs.Ytmgapdbfaoflmaa.Tr
open Go.RowKit Rt Go.Proofs.Ytmgapdbfaoflmaa.Tm
set_option linter.unusedSimpArgs false
set_option linter.unusedVariables false
def lim (x : Int) : Int := if 12000 < x then 12000 else x
theorem lim_step (n : Int) (j : Nat) (hn : 0 ≤ n) : lim (lim (2 * n) * 2 ^ j) = lim (n * 2 ^ (j + 1)) := by
  have e : n * 2 ^ (j + 1) = 2 * n * 2 ^ j := by rw [Int.pow_succ, ← Int.mul_assoc, Int.mul_comm (n * 2 ^ j) 2, ← Int.mul_assoc]
  have hp : 1 ≤ (2 : Int) ^ j := by
    have h2 : 1 ≤ (2 : Nat) ^ j := Nat.one_le_two_pow
    have e : ((2 : Nat) ^ j : Nat) = (2 : Int) ^ j := by simp
    omega
  rw [e]
  by_cases h : 12000 < 2 * n
  · have e2 : lim (2 * n) = 12000 := by unfold lim; rw [if_pos h]
    rw [e2]
    have h1 : 12000 ≤ 12000 * (2 : Int) ^ j := by have := Int.mul_le_mul_of_nonneg_left hp (show (0 : Int) ≤ 12000 by omega); omega
    have h2 : 2 * n ≤ 2 * n * 2 ^ j := by have := Int.mul_le_mul_of_nonneg_left hp (show (0 : Int) ≤ 2 * n by omega); omega
    generalize (12000 : Int) * 2 ^ j = X at *
    generalize 2 * n * 2 ^ j = Y at *
    unfold lim
    rw [if_pos (show 12000 < Y by omega)]
    split <;> omega
  · have e2 : lim (2 * n) = 2 * n := by unfold lim; rw [if_neg h]
    rw [e2]
set_option maxHeartbeats 4000000 in
theorem Timeout_ref (a b c : Int) (w : World) : Calls Try.prog 45 #[agg3 a b c] w fun e w' => e = .returned (.int .i64 (tmR (wi a 1000000) (wi b 1000000) (wi c 10))) ∧ Below w.heap.size w w' := by
  have hA := wi_bd a 1000000 (by decide)
  have hB := wi_bd b 1000000 (by decide)
  have hC := wi_bd c 10 (by decide)
  obtain ⟨a', ha'⟩ : ∃ x, wi a 1000000 = x := ⟨_, rfl⟩
  obtain ⟨b', hb'⟩ : ∃ x, wi b 1000000 = x := ⟨_, rfl⟩
  obtain ⟨c', hc'⟩ : ∃ x, wi c 10 = x := ⟨_, rfl⟩
  have h := fun w => counted_any a b c w
  rw [ha', hb', hc'] at h ⊢
  rw [ha'] at hA
  rw [hb'] at hB
  rw [hc'] at hC
  unfold agg3 at h ⊢
  obtain ⟨hA1, hA2⟩ := hA
  obtain ⟨hB1, hB2⟩ := hB
  obtain ⟨hC1, hC2⟩ := hC
  have hH := Lib.hid h
  clear h ha' hb' hc'
  obtain ⟨n, hn⟩ : ∃ n, a' + 4 * b' = n := ⟨_, rfl⟩
  obtain ⟨cn, hcn⟩ : ∃ k : Nat, c' = k := ⟨c'.toNat, by omega⟩
  have hw1 := wr (show -9223372036854775808 ≤ 4 * b' by omega) (by omega)
  have hw2 := wr (show -9223372036854775808 ≤ n by omega) (by omega)
  have hn1 : 0 ≤ n ∧ n ≤ 5000000 := by omega
  have hz : n = 0 ↔ (a' = 0 ∧ b' = 0) := by omega
  subst hcn
  obtain ⟨B, hB⟩ : ∃ B, (if (if a' = 0 ∧ b' = 0 then 376 else a' + 4 * b') < 50 then 50 else if a' = 0 ∧ b' = 0 then 376 else a' + 4 * b') = B := ⟨_, rfl⟩
  have hr : tmR a' b' (cn : Int) = lim (B * 2 ^ cn) := by unfold tmR lim; rw [hB]; rfl
  rw [hr]
  have hrH := Lib.hid hr
  have hnH := Lib.hid hn
  clear hr
  have hC2' : cn ≤ 10 := by omega
  by_cases h0 : n = 0
  · have hBv : B = 376 := by rw [← hB, if_pos (hz.1 h0)]; rfl
    have hne : (n == 0) = true := beq_iff_eq.2 h0
    clear h0 hz hB
    have hB50 : 0 ≤ B ∧ B ≤ 5000000 := by omega
    have hBvH := Lib.hid hBv
    clear hBv
    go_enter Try.func45, Try.ntmps45
    go_upto_region 1 with (fail)
    refine Rt.wp_region_seq [1, 2, 2] ?_
    apply txt_read rfl rfl rfl; (· (go_simp; with_reducible rfl)); (· (simp only [Act.put, Act.eval, List.setIfInBounds_toArray, List.set_cons_zero, List.set_cons_succ, Array.getD_eq_getD_getElem?, List.getElem?_toArray, List.getElem?_cons_zero, List.getElem?_cons_succ, Option.getD_some]; with_reducible rfl))
    refine txt_call rfl rfl rfl (by go_simp; exact ⟨⟨rfl, rfl⟩, rfl⟩) ?_
    refine (hH.out _).mono ?_
    rintro e w3 ⟨rfl, hb3⟩
    refine ⟨_, rfl, ?_⟩
    simp only [Act.put, Act.eval, List.setIfInBounds_toArray, List.set_cons_zero, List.set_cons_succ, Array.getD_eq_getD_getElem?, List.getElem?_toArray, List.getElem?_cons_zero, List.getElem?_cons_succ, Option.getD_some]
    have hT := One.start hb3
    obtain ⟨g0, hg0⟩ : ∃ g, w.heap.size = g := ⟨_, rfl⟩
    rw [hg0] at hT
    rw [hg0]
    clear hg0 hb3
    obtain ⟨x0, x1, x2, x3, x4, x5⟩ := cells3 hT.b0
    apply txt_doF (fun W => One w W g0 #[.int .i64 a', .int .i64 b', .int .i64 cn]) rfl rfl rfl
    · (go_simp; with_reducible rfl)
    · exact ((hT.set0 0 _).set0 1 _).set0 2 _
    · (simp only [Act.put, Act.eval, List.setIfInBounds_toArray, List.set_cons_zero, List.set_cons_succ, Array.getD_eq_getD_getElem?, List.getElem?_toArray, List.getElem?_cons_zero, List.getElem?_cons_succ, Option.getD_some]; with_reducible rfl)
    clear x0 x1 x2 x3 x4 x5 hT
    intro W4 hT
    obtain ⟨x0, x1, x2, x3, x4, x5⟩ := cells3 hT.b0
    with_reducible refine txt_nil ?_
    have hbw := hT.below
    clear hT
    have hbwH := Lib.hid hbw
    clear hbw
    go_wp2
    go_loop [3, 4] (fun n' k' => ∃ (N : Int) (k : Nat), n' = .int .i64 N ∧ k' = .int .i64 k ∧ k ≤ cn ∧ 0 ≤ N ∧ N ≤ 5000000 ∧ Hid (lim (N * 2 ^ (cn - k)) = lim (B * 2 ^ cn))) (fun _ k' => cn - (intOf k').toNat)
    case atStart => exact ⟨B, 0, by rw [hBvH.out], rfl, Nat.zero_le _, by omega, by omega, Lib.hid rfl⟩
    case round =>
      obtain ⟨N, k, rfl, rfl, hk, hN0, hN1, hI⟩ := hrel
      have hN2 := wr (show -9223372036854775808 ≤ 2 * N by omega) (by omega)
      have hN3 := wr (show -9223372036854775808 ≤ N by omega) (by omega)
      by_cases hlt : k < cn
      · have hst := lim_step N (cn - (k + 1)) hN0
        rw [show cn - (k + 1) + 1 = cn - k by omega] at hst
        have hstH := Lib.hid hst
        clear hst
        by_cases hbig : 12000 < 2 * N
        · go_wp2
          go_round
          case rel => exact ⟨12000, k + 1, rfl, by go_num, by omega, by omega, by omega, Lib.hid (by have := hstH.out; rw [show lim (2 * N) = 12000 by unfold lim; rw [if_pos hbig]] at this; rw [this]; exact hI.out)⟩
          case measure => simp [intOf]; omega
        · go_wp2
          go_round
          case rel => exact ⟨2 * N, k + 1, rfl, by go_num, by omega, by omega, by omega, Lib.hid (by have := hstH.out; rw [show lim (2 * N) = 2 * N by unfold lim; rw [if_neg hbig]] at this; rw [this]; exact hI.out)⟩
          case measure => simp [intOf]; omega
      · obtain rfl : k = cn := by omega
        have hI2 : Hid (lim N = lim (B * 2 ^ k)) := Lib.hid (by have := hI.out; rw [Nat.sub_self, Int.pow_zero, Int.mul_one] at this; exact this)
        clear hI
        by_cases hbig : 12000 < N
        · go_wp2
          go_ret
          exact ⟨by rw [← hI2.out]; unfold lim; rw [if_pos hbig]; rfl, hbwH.out⟩
        · go_wp2
          go_ret
          exact ⟨by rw [← hI2.out]; unfold lim; rw [if_neg (show ¬ 12000 < N by omega)]; rfl, hbwH.out⟩
  · have hne : (n == 0) = false := beq_eq_false_iff_ne.2 h0
    rw [if_neg (fun e => h0 (hz.2 e)), hn] at hB
    clear hz
    by_cases h50 : n < 50
    · have hBv : B = 50 := by rw [← hB, if_pos h50]
      clear hB
      have hB50 : 0 ≤ B ∧ B ≤ 5000000 := by omega
      have hBvH := Lib.hid hBv
      clear hBv
      go_enter Try.func45, Try.ntmps45
      go_upto_region 1 with (fail)
      refine Rt.wp_region_seq [1, 2, 2] ?_
      apply txt_read rfl rfl rfl; (· (go_simp; with_reducible rfl)); (· (simp only [Act.put, Act.eval, List.setIfInBounds_toArray, List.set_cons_zero, List.set_cons_succ, Array.getD_eq_getD_getElem?, List.getElem?_toArray, List.getElem?_cons_zero, List.getElem?_cons_succ, Option.getD_some]; with_reducible rfl))
      refine txt_call rfl rfl rfl (by go_simp; exact ⟨⟨rfl, rfl⟩, rfl⟩) ?_
      refine (hH.out _).mono ?_
      rintro e w3 ⟨rfl, hb3⟩
      refine ⟨_, rfl, ?_⟩
      simp only [Act.put, Act.eval, List.setIfInBounds_toArray, List.set_cons_zero, List.set_cons_succ, Array.getD_eq_getD_getElem?, List.getElem?_toArray, List.getElem?_cons_zero, List.getElem?_cons_succ, Option.getD_some]
      have hT := One.start hb3
      obtain ⟨g0, hg0⟩ : ∃ g, w.heap.size = g := ⟨_, rfl⟩
      rw [hg0] at hT
      rw [hg0]
      clear hg0 hb3
      obtain ⟨x0, x1, x2, x3, x4, x5⟩ := cells3 hT.b0
      apply txt_doF (fun W => One w W g0 #[.int .i64 a', .int .i64 b', .int .i64 cn]) rfl rfl rfl
      · (go_simp; with_reducible rfl)
      · exact ((hT.set0 0 _).set0 1 _).set0 2 _
      · (simp only [Act.put, Act.eval, List.setIfInBounds_toArray, List.set_cons_zero, List.set_cons_succ, Array.getD_eq_getD_getElem?, List.getElem?_toArray, List.getElem?_cons_zero, List.getElem?_cons_succ, Option.getD_some]; with_reducible rfl)
      clear x0 x1 x2 x3 x4 x5 hT
      intro W4 hT
      obtain ⟨x0, x1, x2, x3, x4, x5⟩ := cells3 hT.b0
      with_reducible refine txt_nil ?_
      have hbw := hT.below
      clear hT
      have hbwH := Lib.hid hbw
      clear hbw
      go_wp2
      go_loop [3, 4] (fun n' k' => ∃ (N : Int) (k : Nat), n' = .int .i64 N ∧ k' = .int .i64 k ∧ k ≤ cn ∧ 0 ≤ N ∧ N ≤ 5000000 ∧ Hid (lim (N * 2 ^ (cn - k)) = lim (B * 2 ^ cn))) (fun _ k' => cn - (intOf k').toNat)
      case atStart => exact ⟨B, 0, by rw [hBvH.out], rfl, Nat.zero_le _, by omega, by omega, Lib.hid rfl⟩
      case round =>
        obtain ⟨N, k, rfl, rfl, hk, hN0, hN1, hI⟩ := hrel
        have hN2 := wr (show -9223372036854775808 ≤ 2 * N by omega) (by omega)
        have hN3 := wr (show -9223372036854775808 ≤ N by omega) (by omega)
        by_cases hlt : k < cn
        · have hst := lim_step N (cn - (k + 1)) hN0
          rw [show cn - (k + 1) + 1 = cn - k by omega] at hst
          have hstH := Lib.hid hst
          clear hst
          by_cases hbig : 12000 < 2 * N
          · go_wp2
            go_round
            case rel => exact ⟨12000, k + 1, rfl, by go_num, by omega, by omega, by omega, Lib.hid (by have := hstH.out; rw [show lim (2 * N) = 12000 by unfold lim; rw [if_pos hbig]] at this; rw [this]; exact hI.out)⟩
            case measure => simp [intOf]; omega
          · go_wp2
            go_round
            case rel => exact ⟨2 * N, k + 1, rfl, by go_num, by omega, by omega, by omega, Lib.hid (by have := hstH.out; rw [show lim (2 * N) = 2 * N by unfold lim; rw [if_neg hbig]] at this; rw [this]; exact hI.out)⟩
            case measure => simp [intOf]; omega
        · obtain rfl : k = cn := by omega
          have hI2 : Hid (lim N = lim (B * 2 ^ k)) := Lib.hid (by have := hI.out; rw [Nat.sub_self, Int.pow_zero, Int.mul_one] at this; exact this)
          clear hI
          by_cases hbig : 12000 < N
          · go_wp2
            go_ret
            exact ⟨by rw [← hI2.out]; unfold lim; rw [if_pos hbig]; rfl, hbwH.out⟩
          · go_wp2
            go_ret
            exact ⟨by rw [← hI2.out]; unfold lim; rw [if_neg (show ¬ 12000 < N by omega)]; rfl, hbwH.out⟩
    · have hBv : B = n := by rw [← hB, if_neg h50]
      clear hB
      have hB50 : 0 ≤ B ∧ B ≤ 5000000 := by omega
      have hBvH := Lib.hid hBv
      clear hBv
      go_enter Try.func45, Try.ntmps45
      go_upto_region 1 with (fail)
      refine Rt.wp_region_seq [1, 2, 2] ?_
      apply txt_read rfl rfl rfl; (· (go_simp; with_reducible rfl)); (· (simp only [Act.put, Act.eval, List.setIfInBounds_toArray, List.set_cons_zero, List.set_cons_succ, Array.getD_eq_getD_getElem?, List.getElem?_toArray, List.getElem?_cons_zero, List.getElem?_cons_succ, Option.getD_some]; with_reducible rfl))
      refine txt_call rfl rfl rfl (by go_simp; exact ⟨⟨rfl, rfl⟩, rfl⟩) ?_
      refine (hH.out _).mono ?_
      rintro e w3 ⟨rfl, hb3⟩
      refine ⟨_, rfl, ?_⟩
      simp only [Act.put, Act.eval, List.setIfInBounds_toArray, List.set_cons_zero, List.set_cons_succ, Array.getD_eq_getD_getElem?, List.getElem?_toArray, List.getElem?_cons_zero, List.getElem?_cons_succ, Option.getD_some]
      have hT := One.start hb3
      obtain ⟨g0, hg0⟩ : ∃ g, w.heap.size = g := ⟨_, rfl⟩
      rw [hg0] at hT
      rw [hg0]
      clear hg0 hb3
      obtain ⟨x0, x1, x2, x3, x4, x5⟩ := cells3 hT.b0
      apply txt_doF (fun W => One w W g0 #[.int .i64 a', .int .i64 b', .int .i64 cn]) rfl rfl rfl
      · (go_simp; with_reducible rfl)
      · exact ((hT.set0 0 _).set0 1 _).set0 2 _
      · (simp only [Act.put, Act.eval, List.setIfInBounds_toArray, List.set_cons_zero, List.set_cons_succ, Array.getD_eq_getD_getElem?, List.getElem?_toArray, List.getElem?_cons_zero, List.getElem?_cons_succ, Option.getD_some]; with_reducible rfl)
      clear x0 x1 x2 x3 x4 x5 hT
      intro W4 hT
      obtain ⟨x0, x1, x2, x3, x4, x5⟩ := cells3 hT.b0
      with_reducible refine txt_nil ?_
      have hbw := hT.below
      clear hT
      have hbwH := Lib.hid hbw
      clear hbw
      go_wp2
      go_loop [3, 4] (fun n' k' => ∃ (N : Int) (k : Nat), n' = .int .i64 N ∧ k' = .int .i64 k ∧ k ≤ cn ∧ 0 ≤ N ∧ N ≤ 5000000 ∧ Hid (lim (N * 2 ^ (cn - k)) = lim (B * 2 ^ cn))) (fun _ k' => cn - (intOf k').toNat)
      case atStart => exact ⟨B, 0, by rw [hBvH.out], rfl, Nat.zero_le _, by omega, by omega, Lib.hid rfl⟩
      case round =>
        obtain ⟨N, k, rfl, rfl, hk, hN0, hN1, hI⟩ := hrel
        have hN2 := wr (show -9223372036854775808 ≤ 2 * N by omega) (by omega)
        have hN3 := wr (show -9223372036854775808 ≤ N by omega) (by omega)
        by_cases hlt : k < cn
        · have hst := lim_step N (cn - (k + 1)) hN0
          rw [show cn - (k + 1) + 1 = cn - k by omega] at hst
          have hstH := Lib.hid hst
          clear hst
          by_cases hbig : 12000 < 2 * N
          · go_wp2
            go_round
            case rel => exact ⟨12000, k + 1, rfl, by go_num, by omega, by omega, by omega, Lib.hid (by have := hstH.out; rw [show lim (2 * N) = 12000 by unfold lim; rw [if_pos hbig]] at this; rw [this]; exact hI.out)⟩
            case measure => simp [intOf]; omega
          · go_wp2
            go_round
            case rel => exact ⟨2 * N, k + 1, rfl, by go_num, by omega, by omega, by omega, Lib.hid (by have := hstH.out; rw [show lim (2 * N) = 2 * N by unfold lim; rw [if_neg hbig]] at this; rw [this]; exact hI.out)⟩
            case measure => simp [intOf]; omega
        · obtain rfl : k = cn := by omega
          have hI2 : Hid (lim N = lim (B * 2 ^ k)) := Lib.hid (by have := hI.out; rw [Nat.sub_self, Int.pow_zero, Int.mul_one] at this; exact this)
          clear hI
          by_cases hbig : 12000 < N
          · go_wp2
            go_ret
            exact ⟨by rw [← hI2.out]; unfold lim; rw [if_pos hbig]; rfl, hbwH.out⟩
          · go_wp2
            go_ret
            exact ⟨by rw [← hI2.out]; unfold lim; rw [if_neg (show ¬ 12000 < N by omega)]; rfl, hbwH.out⟩
end Go.Proofs.Ytmgapdbfaoflmaa.Tr
