/- TableKeeps walked. -/
import Derived.Test.YtmgapdbfaoflmaaTbG
import Derived.BigQuiet
import Derived.ProofKit
import Derived.OpenShut
import Derived.ShutString
import Derived.ChangeOld
import Derived.SizedLaws
import Derived.Deep.SlicePairs
namespace Go.Proofs.Ytmgapdbfaoflmaa.Tb
open Go.RowKit Go.Shelf Rt Tm
set_option linter.unusedSimpArgs false
set_option linter.unusedVariables false
theorem wr {x : Int} (h1 : -9223372036854775808 ≤ x) (h2 : x ≤ 9223372036854775807) : IntKind.i64.wrap x = x := by simp [IntKind.wrap, IntKind.bits, IntKind.signed]; omega
def pk (x n : Int) : Int := if x < 0 then (-(x + 1)) % n else x % n
theorem pk_bd (x n : Int) (hn : 0 < n) : 0 ≤ pk x n ∧ pk x n < n := by
  unfold pk; split <;> exact ⟨Int.emod_nonneg _ (by omega), Int.emod_lt_of_pos _ hn⟩
theorem pick_any (x n : Int) (w : World) (hx : wf x) (hn : 0 < n) (hn2 : n ≤ 1000001) : Calls Try.prog 14 #[.int .i64 x, .int .i64 n] w fun e w' => e = .returned (.int .i64 (pk x n)) ∧ w' = w := by
  obtain ⟨hx1, hx2⟩ := hx
  by_cases h : x < 0
  · have e1 : Hid (pk x n = (-(x + 1)) % n) := Lib.hid (by unfold pk; rw [if_pos h])
    obtain ⟨y, hy⟩ : ∃ y, x + 1 = y := ⟨_, rfl⟩
    obtain ⟨z, hz⟩ : ∃ z, -y = z := ⟨_, rfl⟩
    have hw1 := Tb.wr (show -9223372036854775808 ≤ y by omega) (by omega)
    have hw2 := Tb.wr (show -9223372036854775808 ≤ z by omega) (by omega)
    have hw3 : wrap64 y = y := by unfold wrap64; omega
    have hw4 : wrap64 z = z := by unfold wrap64; omega
    have hz0 : 0 ≤ z := by omega
    have htm : z.tmod n = z % n := Int.tmod_eq_emod_of_nonneg hz0
    have hn0 : (n == 0) = false := beq_eq_false_iff_ne.2 (by omega)
    have hn1 : n ≠ 0 := by omega
    rw [hy, hz] at e1
    go_enter Try.func14, Try.ntmps14
    go_wp2
    go_ret
    exact ⟨by rw [e1.out]; rfl, rfl⟩
  · have e1 : Hid (pk x n = x % n) := Lib.hid (by unfold pk; rw [if_neg h])
    have hx0 : 0 ≤ x := by omega
    have htm : x.tmod n = x % n := Int.tmod_eq_emod_of_nonneg hx0
    have hn0 : (n == 0) = false := beq_eq_false_iff_ne.2 (by omega)
    have hn1 : n ≠ 0 := by omega
    go_enter Try.func14, Try.ntmps14
    go_wp2
    go_ret
    exact ⟨by rw [e1.out]; rfl, rfl⟩

/-- Texts that lie in a row. -/
def RowB (w : World) (a : Option Addr) (n : Nat) (f : Nat → ByteArray) : Prop := ∀ j, j < n → (f j).size ≤ maxLen ∧ ∃ b off, a = some ⟨b, off, none⟩ ∧ ∀ w', Below w.heap.size w w' → w'.cell? ⟨b, off + j, none⟩ = some (.string (f j))
theorem toList_inj {a b : ByteArray} (h : a.toList = b.toList) : a = b := by
  rw [ByteArray.toList_eq, ByteArray.toList_eq] at h
  cases a; cases b
  simp at h
  simp [h]
theorem tl_beq (a b : ByteArray) : (a.toList == b.toList) = true ↔ a = b := by
  rw [beq_iff_eq]; exact ⟨toList_inj, fun h => by rw [h]⟩
set_option maxRecDepth 100000 in
set_option maxHeartbeats 8000000 in
theorem TableKeeps_any {w : World} {most0 : Int} (hm0 : wf most0) {a : Option Addr} {n c : Nat} (hnc : n ≤ c) (hcm : c ≤ maxLen) {f : Nat → ByteArray} (hD : RowB w a n f) :
    Calls Try.prog 3 #[.int .i64 most0, .slice a n c] w fun e w' => e = .returned (.bool true) ∧ Below w.heap.size w w' := by
  have hcm' : (c : Int) ≤ 9223372036854775807 := by unfold maxLen at hcm; omega
  have hDH := Lib.hid hD
  have hpk := pk_bd most0 50 (by omega)
  have hpick := fun w => pick_any most0 50 w hm0 (by omega) (by omega)
  obtain ⟨q, hq⟩ : ∃ q, pk most0 50 = q := ⟨_, rfl⟩
  rw [hq] at hpk hpick
  obtain ⟨m, hm⟩ : ∃ m : Nat, 1 + q = (m : Int) := ⟨(1 + q).toNat, by omega⟩
  have hmq : q = (m : Int) - 1 := by omega
  have hm1 : 1 ≤ m := by omega
  have hm2 : m ≤ 50 := by omega
  have hpH := Lib.hid hpick
  have hmw : (1 : Int) + ((m : Int) - 1) = (m : Int) := by omega
  clear hD hq hpick hpk hm
  subst hmq
  go_enter Try.func3, Try.ntmps3
  go_wp2_with fail
  refine (examples_any w).mono ?_
  rintro e w1 ⟨rfl, hb1⟩
  go_wp2_with fail
  refine (hpH.out w1).mono ?_
  rintro e w2 ⟨rfl, rfl⟩
  go_wp2_with fail
  refine (New_T w2 w hb1 m hm1 (by omega)).mono ?_
  rintro e w3 ⟨tb, rfl, hT3⟩
  have hT3H := Lib.hid hT3
  clear hT3 hb1 hpH
  go_wp2_with fail
  go_loopw [8] (fun i wr => ∃ k : Nat, i = .int .i64 k ∧ k ≤ n ∧ Hid (TS w wr tb m ((R f k).take m))) (fun i _ => n - (intOf i).toNat)
  case atStart => exact ⟨0, rfl, Nat.zero_le _, Lib.hid (by simpa [R] using hT3H.out)⟩
  case round =>
    clear hT3H
    obtain ⟨k, rfl, hk, hT⟩ := hrel
    by_cases hkn : k < n
    · have hkn' : (k : Int) < n := by omega
      obtain ⟨hsz, b, off, rfl, hcell⟩ := hDH.out k hkn
      have q0 := hcell wr hT.out.below
      have hput := Lib.hid (Put_T hT.out hsz (k : Int))
      clear hcell hT
      go_wp2_with fail
      refine hput.out.mono ?_
      rintro e w4 ⟨rfl, hT4⟩
      rw [R_put] at hT4
      have hT4H := Lib.hid hT4
      clear hT4 hput q0
      go_wp2_with fail
      refine (Len_T hT4H.out).mono ?_
      rintro e w5 ⟨rfl, rfl⟩
      obtain ⟨ln, hln⟩ : ∃ ln, ((R f (k + 1)).take m).length = ln := ⟨_, rfl⟩
      have hle : ¬ (m : Int) < (ln : Int) := by rw [← hln, List.length_take]; omega
      rw [hln]
      clear hln
      go_wp2
      go_roundw
      case rel => exact ⟨k + 1, by go_num, by omega, hT4H⟩
      case measure => first | (simp [intOf]; done) | (simp [intOf]; omega)
    · obtain rfl : k = n := by omega
      have hkn' : ¬ (k : Int) < k := by omega
      have hTn := hT
      clear hT hkn hk
      go_wp2
      have hnw := Tb.wr (show -9223372036854775808 ≤ (k : Int) - 1 by omega) (by omega)
      go_loopw [9, 10] (fun s i wr => ∃ j : Nat, i = .int .i64 ((j : Int) - 1) ∧ s = .int .i64 (cnt f k j : Nat) ∧ j ≤ k ∧ cnt f k j ≤ m ∧ Hid (TS w wr tb m ((R f k).take m))) (fun s i _ => (intOf i + 1).toNat)
      case atStart => exact ⟨k, rfl, by rw [cnt_top]; rfl, Nat.le_refl _, by rw [cnt_top]; omega, hTn⟩
      case round =>
        clear hTn
        obtain ⟨j, rfl, rfl, hj, hcm2, hT⟩ := hrel
        obtain ⟨sn, hsn⟩ : ∃ sn, cnt f k j = sn := ⟨_, rfl⟩
        rw [hsn] at hcm2 ⊢
        by_cases hj0 : j = 0
        · subst hj0
          have hge : ¬ (0 : Int) ≤ ((0 : Nat) : Int) - 1 := by omega
          have hRl : Hid (((R f k).take m).length = sn) := Lib.hid (by rw [cnt_zero] at hsn; rw [List.length_take]; omega)
          clear hsn
          go_wp2_with fail
          refine (Len_T hT.out).mono ?_
          rintro e w6 ⟨rfl, rfl⟩
          rw [hRl.out]
          have hss : ((sn : Int) == (sn : Int)) = true := by simp
          go_wp2
          go_ret
          exact ⟨rfl, hT.out.below⟩
        · obtain ⟨i, hij⟩ : ∃ i, j = i + 1 := ⟨j - 1, by omega⟩
          subst hij
          have hi1 : (((i + 1 : Nat) : Int) - 1) = (i : Int) := by omega
          rw [hi1]
          have hge : (0 : Int) ≤ (i : Int) := by omega
          by_cases hsm : sn < m
          · have hsm' : (sn : Int) < (m : Int) := by omega
            have hsnH := Lib.hid hsn
            have hiw := Tb.wr (show -9223372036854775808 ≤ (i : Int) + 1 by omega) (by omega)
            clear hsn
            have hik : i < k := by omega
            have hik' : (i : Int) < k := by omega
            obtain ⟨hszi, b, off, rfl, hcelli⟩ := hDH.out i hik
            have hcH := Lib.hid hcelli
            clear hcelli
            go_wp2_with fail
            go_loopw [11, 12] (fun lt kk w7 => ∃ (L : Bool) (x : Nat), lt = .bool L ∧ kk = .int .i64 (x : Int) ∧ i < x ∧ x ≤ k ∧ Hid (L = true ↔ ∃ i', i < i' ∧ i' < x ∧ f i' = f i) ∧ Hid (TS w w7 tb m ((R f k).take m))) (fun lt kk w7 => k - (intOf kk).toNat)
            case atStart => exact ⟨false, i + 1, rfl, by go_num, by omega, by omega, Lib.hid ⟨fun h => (by cases h), fun ⟨i', h1, h2, _⟩ => (by omega)⟩, hT⟩
            case round =>
              clear hT
              obtain ⟨L, x, rfl, rfl, hix, hxk, hL, hT⟩ := hrel
              by_cases hxk2 : x < k
              · have hxk' : (x : Int) < k := by omega
                obtain ⟨hszx, b', off', hbe, hcellx⟩ := hDH.out x hxk2
                cases hbe
                have qx := hcellx wr hT.out.below
                have qi := hcH.out wr hT.out.below
                have hxw := Tb.wr (show -9223372036854775808 ≤ (x : Int) + 1 by omega) (by omega)
                clear hcellx
                cases L with
                | true =>
                  have hL2 : Hid (true = true ↔ ∃ i', i < i' ∧ i' < x + 1 ∧ f i' = f i) := Lib.hid ⟨fun _ => by obtain ⟨i', h1, h2, h3⟩ := hL.out.1 rfl; exact ⟨i', h1, by omega, h3⟩, fun _ => rfl⟩
                  go_upto_region 20 with (fail)
                  refine Rt.wp_region_text [0, 0, 0, 0, 0, 1, 0, 0, 0, 1, 0, 0, 0] (by kernel_rfl) (by kernel_rfl) ?_
                  apply txt_move rfl rfl; (· (simp only [Act.put, Act.eval, List.setIfInBounds_toArray, List.set_cons_zero, List.set_cons_succ, Array.getD_eq_getD_getElem?, List.getElem?_toArray, List.getElem?_cons_zero, List.getElem?_cons_succ, Option.getD_some, List.getElem_toArray, List.getElem_cons_succ, List.getElem_cons_zero]; with_reducible rfl))
                  apply txt_move rfl rfl; (· (simp only [Act.put, Act.eval, List.setIfInBounds_toArray, List.set_cons_zero, List.set_cons_succ, Array.getD_eq_getD_getElem?, List.getElem?_toArray, List.getElem?_cons_zero, List.getElem?_cons_succ, Option.getD_some, List.getElem_toArray, List.getElem_cons_succ, List.getElem_cons_zero]; with_reducible rfl))
                  apply txt_skip rfl rfl; (· (simp only [Act.put, Act.eval, List.setIfInBounds_toArray, List.set_cons_zero, List.set_cons_succ, Array.getD_eq_getD_getElem?, List.getElem?_toArray, List.getElem?_cons_zero, List.getElem?_cons_succ, Option.getD_some, List.getElem_toArray, List.getElem_cons_succ, List.getElem_cons_zero]; with_reducible rfl))
                  apply txt_skip rfl rfl; (· (simp only [Act.put, Act.eval, List.setIfInBounds_toArray, List.set_cons_zero, List.set_cons_succ, Array.getD_eq_getD_getElem?, List.getElem?_toArray, List.getElem?_cons_zero, List.getElem?_cons_succ, Option.getD_some, List.getElem_toArray, List.getElem_cons_succ, List.getElem_cons_zero]; with_reducible rfl))
                  apply txt_skip rfl rfl; (· (simp only [Act.put, Act.eval, List.setIfInBounds_toArray, List.set_cons_zero, List.set_cons_succ, Array.getD_eq_getD_getElem?, List.getElem?_toArray, List.getElem?_cons_zero, List.getElem?_cons_succ, Option.getD_some, List.getElem_toArray, List.getElem_cons_succ, List.getElem_cons_zero]; with_reducible rfl))
                  apply txt_skip rfl rfl; (· (simp only [Act.put, Act.eval, List.setIfInBounds_toArray, List.set_cons_zero, List.set_cons_succ, Array.getD_eq_getD_getElem?, List.getElem?_toArray, List.getElem?_cons_zero, List.getElem?_cons_succ, Option.getD_some, List.getElem_toArray, List.getElem_cons_succ, List.getElem_cons_zero]; with_reducible rfl))
                  apply txt_skip rfl rfl; (· (simp only [Act.put, Act.eval, List.setIfInBounds_toArray, List.set_cons_zero, List.set_cons_succ, Array.getD_eq_getD_getElem?, List.getElem?_toArray, List.getElem?_cons_zero, List.getElem?_cons_succ, Option.getD_some, List.getElem_toArray, List.getElem_cons_succ, List.getElem_cons_zero]; with_reducible rfl))
                  apply txt_skip rfl rfl; (· (simp only [Act.put, Act.eval, List.setIfInBounds_toArray, List.set_cons_zero, List.set_cons_succ, Array.getD_eq_getD_getElem?, List.getElem?_toArray, List.getElem?_cons_zero, List.getElem?_cons_succ, Option.getD_some, List.getElem_toArray, List.getElem_cons_succ, List.getElem_cons_zero]; with_reducible rfl))
                  apply txt_skip rfl rfl; (· (simp only [Act.put, Act.eval, List.setIfInBounds_toArray, List.set_cons_zero, List.set_cons_succ, Array.getD_eq_getD_getElem?, List.getElem?_toArray, List.getElem?_cons_zero, List.getElem?_cons_succ, Option.getD_some, List.getElem_toArray, List.getElem_cons_succ, List.getElem_cons_zero]; with_reducible rfl))
                  apply txt_skip rfl rfl; (· (simp only [Act.put, Act.eval, List.setIfInBounds_toArray, List.set_cons_zero, List.set_cons_succ, Array.getD_eq_getD_getElem?, List.getElem?_toArray, List.getElem?_cons_zero, List.getElem?_cons_succ, Option.getD_some, List.getElem_toArray, List.getElem_cons_succ, List.getElem_cons_zero]; with_reducible rfl))
                  apply txt_skip rfl rfl; (· (simp only [Act.put, Act.eval, List.setIfInBounds_toArray, List.set_cons_zero, List.set_cons_succ, Array.getD_eq_getD_getElem?, List.getElem?_toArray, List.getElem?_cons_zero, List.getElem?_cons_succ, Option.getD_some, List.getElem_toArray, List.getElem_cons_succ, List.getElem_cons_zero]; with_reducible rfl))
                  apply txt_pure rfl rfl rfl; (· (intro w; go_simp; with_reducible rfl)); (· (simp only [Act.put, Act.eval, List.setIfInBounds_toArray, List.set_cons_zero, List.set_cons_succ, Array.getD_eq_getD_getElem?, List.getElem?_toArray, List.getElem?_cons_zero, List.getElem?_cons_succ, Option.getD_some, List.getElem_toArray, List.getElem_cons_succ, List.getElem_cons_zero]; with_reducible rfl))
                  apply txt_assign rfl rfl; (· (simp only [Act.put, Act.eval, List.setIfInBounds_toArray, List.set_cons_zero, List.set_cons_succ, Array.getD_eq_getD_getElem?, List.getElem?_toArray, List.getElem?_cons_zero, List.getElem?_cons_succ, Option.getD_some, List.getElem_toArray, List.getElem_cons_succ, List.getElem_cons_zero]; with_reducible rfl))
                  with_reducible refine txt_nil ?_
                  go_wp2
                  go_roundw
                  case rel => exact ⟨true, x + 1, rfl, by go_num, by omega, by omega, hL2, Lib.hid hT.out.drew⟩
                  case measure => first | (simp [intOf]; done) | (simp [intOf]; omega)
                | false =>
                  have hL2 : Hid (((f x).toList == (f i).toList) = true ↔ ∃ i', i < i' ∧ i' < x + 1 ∧ f i' = f i) := Lib.hid (by
                    rw [tl_beq]
                    refine ⟨fun e => ⟨x, hix, by omega, e⟩, fun ⟨i', h1, h2, h3⟩ => ?_⟩
                    by_cases e : i' = x
                    · subst e; exact h3
                    · have := hL.out.2 ⟨i', h1, by omega, h3⟩
                      cases this)
                  go_upto_region 20 with (fail)
                  refine Rt.wp_region_text [0, 0, 0, 0, 0, 1, 0, 0, 0, 1, 0, 0, 0] (by kernel_rfl) (by kernel_rfl) ?_
                  apply txt_move rfl rfl; (· (simp only [Act.put, Act.eval, List.setIfInBounds_toArray, List.set_cons_zero, List.set_cons_succ, Array.getD_eq_getD_getElem?, List.getElem?_toArray, List.getElem?_cons_zero, List.getElem?_cons_succ, Option.getD_some, List.getElem_toArray, List.getElem_cons_succ, List.getElem_cons_zero]; with_reducible rfl))
                  apply txt_move rfl rfl; (· (simp only [Act.put, Act.eval, List.setIfInBounds_toArray, List.set_cons_zero, List.set_cons_succ, Array.getD_eq_getD_getElem?, List.getElem?_toArray, List.getElem?_cons_zero, List.getElem?_cons_succ, Option.getD_some, List.getElem_toArray, List.getElem_cons_succ, List.getElem_cons_zero]; with_reducible rfl))
                  apply txt_pure rfl rfl rfl; (· (intro w; go_simp; with_reducible rfl)); (· (simp only [Act.put, Act.eval, List.setIfInBounds_toArray, List.set_cons_zero, List.set_cons_succ, Array.getD_eq_getD_getElem?, List.getElem?_toArray, List.getElem?_cons_zero, List.getElem?_cons_succ, Option.getD_some, List.getElem_toArray, List.getElem_cons_succ, List.getElem_cons_zero]; with_reducible rfl))
                  apply txt_pure rfl rfl rfl; (· (intro w; go_simp; with_reducible rfl)); (· (simp only [Act.put, Act.eval, List.setIfInBounds_toArray, List.set_cons_zero, List.set_cons_succ, Array.getD_eq_getD_getElem?, List.getElem?_toArray, List.getElem?_cons_zero, List.getElem?_cons_succ, Option.getD_some, List.getElem_toArray, List.getElem_cons_succ, List.getElem_cons_zero]; with_reducible rfl))
                  apply txt_pure rfl rfl rfl; (· (intro w; go_simp; with_reducible rfl)); (· (simp only [Act.put, Act.eval, List.setIfInBounds_toArray, List.set_cons_zero, List.set_cons_succ, Array.getD_eq_getD_getElem?, List.getElem?_toArray, List.getElem?_cons_zero, List.getElem?_cons_succ, Option.getD_some, List.getElem_toArray, List.getElem_cons_succ, List.getElem_cons_zero]; with_reducible rfl))
                  apply txt_read rfl rfl rfl; (· (go_simp; with_reducible rfl)); (· (simp only [Act.put, Act.eval, List.setIfInBounds_toArray, List.set_cons_zero, List.set_cons_succ, Array.getD_eq_getD_getElem?, List.getElem?_toArray, List.getElem?_cons_zero, List.getElem?_cons_succ, Option.getD_some, List.getElem_toArray, List.getElem_cons_succ, List.getElem_cons_zero]; with_reducible rfl))
                  apply txt_pure rfl rfl rfl; (· (intro w; go_simp; with_reducible rfl)); (· (simp only [Act.put, Act.eval, List.setIfInBounds_toArray, List.set_cons_zero, List.set_cons_succ, Array.getD_eq_getD_getElem?, List.getElem?_toArray, List.getElem?_cons_zero, List.getElem?_cons_succ, Option.getD_some, List.getElem_toArray, List.getElem_cons_succ, List.getElem_cons_zero]; with_reducible rfl))
                  apply txt_pure rfl rfl rfl; (· (intro w; go_simp; with_reducible rfl)); (· (simp only [Act.put, Act.eval, List.setIfInBounds_toArray, List.set_cons_zero, List.set_cons_succ, Array.getD_eq_getD_getElem?, List.getElem?_toArray, List.getElem?_cons_zero, List.getElem?_cons_succ, Option.getD_some, List.getElem_toArray, List.getElem_cons_succ, List.getElem_cons_zero]; with_reducible rfl))
                  apply txt_pure rfl rfl rfl; (· (intro w; go_simp; with_reducible rfl)); (· (simp only [Act.put, Act.eval, List.setIfInBounds_toArray, List.set_cons_zero, List.set_cons_succ, Array.getD_eq_getD_getElem?, List.getElem?_toArray, List.getElem?_cons_zero, List.getElem?_cons_succ, Option.getD_some, List.getElem_toArray, List.getElem_cons_succ, List.getElem_cons_zero]; with_reducible rfl))
                  apply txt_read rfl rfl rfl; (· (go_simp; with_reducible rfl)); (· (simp only [Act.put, Act.eval, List.setIfInBounds_toArray, List.set_cons_zero, List.set_cons_succ, Array.getD_eq_getD_getElem?, List.getElem?_toArray, List.getElem?_cons_zero, List.getElem?_cons_succ, Option.getD_some, List.getElem_toArray, List.getElem_cons_succ, List.getElem_cons_zero]; with_reducible rfl))
                  apply txt_pure rfl rfl rfl; (· (intro w; go_simp; with_reducible rfl)); (· (simp only [Act.put, Act.eval, List.setIfInBounds_toArray, List.set_cons_zero, List.set_cons_succ, Array.getD_eq_getD_getElem?, List.getElem?_toArray, List.getElem?_cons_zero, List.getElem?_cons_succ, Option.getD_some, List.getElem_toArray, List.getElem_cons_succ, List.getElem_cons_zero]; with_reducible rfl))
                  apply txt_pure rfl rfl rfl; (· (intro w; go_simp; with_reducible rfl)); (· (simp only [Act.put, Act.eval, List.setIfInBounds_toArray, List.set_cons_zero, List.set_cons_succ, Array.getD_eq_getD_getElem?, List.getElem?_toArray, List.getElem?_cons_zero, List.getElem?_cons_succ, Option.getD_some, List.getElem_toArray, List.getElem_cons_succ, List.getElem_cons_zero]; with_reducible rfl))
                  apply txt_assign rfl rfl; (· (simp only [Act.put, Act.eval, List.setIfInBounds_toArray, List.set_cons_zero, List.set_cons_succ, Array.getD_eq_getD_getElem?, List.getElem?_toArray, List.getElem?_cons_zero, List.getElem?_cons_succ, Option.getD_some, List.getElem_toArray, List.getElem_cons_succ, List.getElem_cons_zero]; with_reducible rfl))
                  with_reducible refine txt_nil ?_
                  go_wp2
                  go_roundw
                  case rel => exact ⟨((f x).toList == (f i).toList), x + 1, rfl, by go_num, by omega, by omega, hL2, Lib.hid hT.out.drew⟩
                  case measure => first | (simp [intOf]; done) | (simp [intOf]; omega)
              · obtain rfl : x = k := by omega
                have hxk' : ¬ (x : Int) < x := by omega
                cases L with
                | true =>
                  have hc2 : Hid (cnt f x i = sn) := Lib.hid (by rw [cnt_no (hL.out.1 rfl)]; exact hsnH.out)
                  go_wp2
                  go_roundw
                  case rel => exact ⟨i, by first | rfl | go_num, by rw [hc2.out], by omega, by rw [hc2.out]; exact hcm2, hT⟩
                  case measure => first | (simp [intOf]; done) | (simp [intOf]; omega)
                | false =>
                  have hcy := cnt_yes (f := f) hik (fun i' h1 h2 h3 => by have := hL.out.2 ⟨i', h1, h2, h3⟩; cases this)
                  rw [hsnH.out] at hcy
                  have hlk := hcy.2 m hsm
                  have hc2 : Hid (cnt f x i = sn + 1) := Lib.hid hcy.1
                  have qi := hcH.out wr hT.out.below
                  have hlook := Lib.hid (Look_T hT.out hszi)
                  rw [hlk] at hlook
                  have hsw := Tb.wr (show -9223372036854775808 ≤ (sn : Int) + 1 by omega) (by omega)
                  clear hcy hlk
                  go_wp2_with fail
                  refine hlook.out.mono ?_
                  rintro e w8 ⟨rfl, rfl⟩
                  simp only [Option.getD_some, Option.isSome_some]
                  have hii : ((i : Int) != (i : Int)) = false := by simp
                  clear hlook
                  go_wp2
                  go_roundw
                  case rel => exact ⟨i, by first | rfl | go_num, by rw [hc2.out]; go_num, by omega, by rw [hc2.out]; omega, hT⟩
                  case measure => first | (simp [intOf]; done) | (simp [intOf]; omega)
          · have hsm' : ¬ (sn : Int) < (m : Int) := by omega
            have hRl : Hid (((R f k).take m).length = sn) := Lib.hid (by have := cnt_le (f := f) (n := k) (i + 1); rw [List.length_take]; omega)
            clear hsn
            go_wp2_with fail
            refine (Len_T hT.out).mono ?_
            rintro e w6 ⟨rfl, rfl⟩
            rw [hRl.out]
            have hss : ((sn : Int) == (sn : Int)) = true := by simp
            go_wp2
            go_ret
            exact ⟨rfl, hT.out.below⟩
end Go.Proofs.Ytmgapdbfaoflmaa.Tb
