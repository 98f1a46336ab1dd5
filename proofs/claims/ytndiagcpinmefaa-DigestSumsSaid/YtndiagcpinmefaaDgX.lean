/- Sum1$1: a block of SHA-1. -/
import Derived.Test.YtndiagcpinmefaaDgT
namespace Go.Proofs.Ytndiagcpinmefaa.Dg
open Go.RowKit Rt Go.Proofs.YtndiagcpinmefaaW.PrintWords
set_option linter.unusedSimpArgs false
attribute [local go_sem] u32_xor u32_and u32_or u32_add u32_add2 u32_k1 u32_k2 u32_k3 u32_k4 u32_w1 u32_w2 u32_w3 u32_w4

set_option maxRecDepth 100000 in
set_option maxHeartbeats 4000000 in
theorem c22 (h : S5) (ws : List UInt32) (wl : ws.length = 16) (g : Nat) (w : World) (hh : C32 w g 33 h.l) : Calls Try.prog 22 #[.agg (ws.map W32).toArray, .pointer (some ⟨g, 0, none⟩)] w fun e W' => e = .returned (.tuple #[]) ∧ C32 W' g 33 (comp1 h ws).l ∧ Kept (· = g) w W' := by
  have hlt := hh.lt
  have c0 := hh.cell 0 (by simp [S5.l])
  have c1 := hh.cell 1 (by simp [S5.l])
  have c2 := hh.cell 2 (by simp [S5.l])
  have c3 := hh.cell 3 (by simp [S5.l])
  have c4 := hh.cell 4 (by simp [S5.l])
  simp only [S5.l, List.getD_cons_zero, List.getD_cons_succ] at c0 c1 c2 c3 c4
  go_enter Try.func22, Try.ntmps22
  go_wp2
  go_loopw [12] (fun i wr => ∃ k : Nat, i = .int .i64 k ∧ k ≤ 80 ∧ C32 wr w.heap.size 36 (buf1 ws k) ∧ C32 wr (w.heap.size + 1) 33 (st1 h ws k).l ∧ Below w.heap.size w wr) (fun i _ => 80 - (intOf i).toNat)
  case atStart =>
    refine ⟨0, rfl, by omega, ?_, ?_, ?_⟩
    · exact C32.alloc (T := 36) (L := ws) (heap_new _ _) _
    · have := heap_new (w.alloc (.cells (ws.map W32).toArray 36)) (.cells (h.l.map W32).toArray 33)
      rw [World.size_alloc] at this
      exact this
    · exact ((Below.refl _ _).alloc (by simp) _).alloc (by simp) _
  case round =>
    clear c0 c1 c2 c3 c4
    obtain ⟨k, rfl, hk, hB, hV, hb⟩ := hrel
    have hbs := hb.size
    by_cases hlk : k < 80
    · have hlt' : (k : Int) < 80 := by omega
      by_cases hc16 : k < 16
      · skip
        have e16 : (k : Int) < 16 := by omega
        have e16b : decide (16 ≤ (k : Int)) = false := by simp; omega
        have e20 : (k : Int) / 20 = 0 := by omega
        have eq0 : k / 20 = 0 := by omega
        go_wp2
        have hB0 : C32 wr w.heap.size 36 (buf1 ws (k + 1)) := by simp only [buf1]; rw [if_pos hc16]; exact hB
        have hV0 := hV
        have hb0 := hb
        obtain ⟨w2, hw2⟩ : ∃ x, x = wr := ⟨_, rfl⟩
        rw [← hw2] at hB0 hV0 hb0 ⊢
        clear hw2 hB hV hb hbs
        have hbs := hb0.size
        have d1 := hV0.cell 1 (by simp [S5.l])
        have d2 := hV0.cell 2 (by simp [S5.l])
        have d3 := hV0.cell 3 (by simp [S5.l])
        simp only [S5.l, List.getD_cons_zero, List.getD_cons_succ] at d1 d2 d3
        refine Rt.wp_region_text [0, 1, 0, 1, 0, 1, 0, 0, 0] (by kernel_rfl) (by kernel_rfl) ?_
        apply txt_pure rfl rfl rfl; (· (intro w; go_simp; (try go_bits); with_reducible rfl)); (· (simp only [Act.put, Act.eval, List.setIfInBounds_toArray, List.set_cons_zero, List.set_cons_succ, Array.getD_eq_getD_getElem?, List.getElem?_toArray, List.getElem?_cons_zero, List.getElem?_cons_succ, Option.getD_some]; with_reducible rfl))
        apply txt_read rfl rfl rfl; (· (go_simp; with_reducible rfl)); (· (simp only [Act.put, Act.eval, List.setIfInBounds_toArray, List.set_cons_zero, List.set_cons_succ, Array.getD_eq_getD_getElem?, List.getElem?_toArray, List.getElem?_cons_zero, List.getElem?_cons_succ, Option.getD_some]; with_reducible rfl))
        apply txt_pure rfl rfl rfl; (· (intro w; go_simp; (try go_bits); with_reducible rfl)); (· (simp only [Act.put, Act.eval, List.setIfInBounds_toArray, List.set_cons_zero, List.set_cons_succ, Array.getD_eq_getD_getElem?, List.getElem?_toArray, List.getElem?_cons_zero, List.getElem?_cons_succ, Option.getD_some]; with_reducible rfl))
        apply txt_read rfl rfl rfl; (· (go_simp; with_reducible rfl)); (· (simp only [Act.put, Act.eval, List.setIfInBounds_toArray, List.set_cons_zero, List.set_cons_succ, Array.getD_eq_getD_getElem?, List.getElem?_toArray, List.getElem?_cons_zero, List.getElem?_cons_succ, Option.getD_some]; with_reducible rfl))
        apply txt_pure rfl rfl rfl; (· (intro w; go_simp; (try go_bits); with_reducible rfl)); (· (simp only [Act.put, Act.eval, List.setIfInBounds_toArray, List.set_cons_zero, List.set_cons_succ, Array.getD_eq_getD_getElem?, List.getElem?_toArray, List.getElem?_cons_zero, List.getElem?_cons_succ, Option.getD_some]; with_reducible rfl))
        apply txt_read rfl rfl rfl; (· (go_simp; with_reducible rfl)); (· (simp only [Act.put, Act.eval, List.setIfInBounds_toArray, List.set_cons_zero, List.set_cons_succ, Array.getD_eq_getD_getElem?, List.getElem?_toArray, List.getElem?_cons_zero, List.getElem?_cons_succ, Option.getD_some]; with_reducible rfl))
        apply txt_assign rfl rfl; (· (simp only [Act.put, Act.eval, List.setIfInBounds_toArray, List.set_cons_zero, List.set_cons_succ, Array.getD_eq_getD_getElem?, List.getElem?_toArray, List.getElem?_cons_zero, List.getElem?_cons_succ, Option.getD_some]; with_reducible rfl))
        apply txt_assign rfl rfl; (· (simp only [Act.put, Act.eval, List.setIfInBounds_toArray, List.set_cons_zero, List.set_cons_succ, Array.getD_eq_getD_getElem?, List.getElem?_toArray, List.getElem?_cons_zero, List.getElem?_cons_succ, Option.getD_some]; with_reducible rfl))
        apply txt_assign rfl rfl; (· (simp only [Act.put, Act.eval, List.setIfInBounds_toArray, List.set_cons_zero, List.set_cons_succ, Array.getD_eq_getD_getElem?, List.getElem?_toArray, List.getElem?_cons_zero, List.getElem?_cons_succ, Option.getD_some]; with_reducible rfl))
        with_reducible refine txt_nil ?_
        go_wp2
        have hB1 := hB0.drew
        have hV1 := hV0.drew
        have hb1 := hb0.drew
        obtain ⟨w1, hw1⟩ : ∃ x, x = w2.drew := ⟨_, rfl⟩
        rw [← hw1] at hB1 hV1 hb1 ⊢
        clear hw1 d1 d2 d3 hB0 hV0 hb0 hbs
        have hbs := hb1.size
        have d0 := hV1.cell 0 (by simp [S5.l])
        have d4 := hV1.cell 4 (by simp [S5.l])
        simp only [S5.l, List.getD_cons_zero, List.getD_cons_succ] at d0 d4
        have a0 := and15_i64 k (by omega)
        have m0 : k % 16 < 16 := by omega
        have e0 := hB1.cell (k % 16) (by rw [buf1_length, wl]; omega)
        obtain ⟨q0, hq0⟩ : ∃ q, k % 16 = q := ⟨_, rfl⟩
        rw [hq0] at a0 m0 e0
        have l0 : (q0 : Int) < 16 := by omega
        obtain ⟨y0, hy0⟩ : ∃ y, (buf1 ws (k + 1)).getD q0 0 = y := ⟨_, rfl⟩
        rw [hy0] at e0
        have hS : Hid (st1 h ws (k + 1) = rd1 (st1 h ws k) y0 k) := Lib.hid (by rw [← hy0, ← hq0]; rfl)
        clear hy0 hq0
        refine Rt.wp_region_text [0, 1, 1, 0, 0, 0, 1, 0, 0, 0, 0, 1, 0, 0] (by kernel_rfl) (by kernel_rfl) ?_
        apply txt_pure rfl rfl rfl; (· (intro w; go_simp; (try go_bits); with_reducible rfl)); (· (simp only [Act.put, Act.eval, List.setIfInBounds_toArray, List.set_cons_zero, List.set_cons_succ, Array.getD_eq_getD_getElem?, List.getElem?_toArray, List.getElem?_cons_zero, List.getElem?_cons_succ, Option.getD_some]; with_reducible rfl))
        apply txt_read rfl rfl rfl; (· (go_simp; with_reducible rfl)); (· (simp only [Act.put, Act.eval, List.setIfInBounds_toArray, List.set_cons_zero, List.set_cons_succ, Array.getD_eq_getD_getElem?, List.getElem?_toArray, List.getElem?_cons_zero, List.getElem?_cons_succ, Option.getD_some]; with_reducible rfl))
        (apply txt_quiet rfl rfl rfl; (· (go_simp; exact ⟨rfl, rfl⟩)); (· (exact Rot_5 _ _)); (· (simp only [Act.put, Act.eval, List.setIfInBounds_toArray, List.set_cons_zero, List.set_cons_succ, Array.getD_eq_getD_getElem?, List.getElem?_toArray, List.getElem?_cons_zero, List.getElem?_cons_succ, Option.getD_some]; with_reducible rfl)))
        apply txt_move rfl rfl; (· (simp only [Act.put, Act.eval, List.setIfInBounds_toArray, List.set_cons_zero, List.set_cons_succ, Array.getD_eq_getD_getElem?, List.getElem?_toArray, List.getElem?_cons_zero, List.getElem?_cons_succ, Option.getD_some]; with_reducible rfl))
        apply txt_pure rfl rfl rfl; (· (intro w; go_simp; (try go_bits); with_reducible rfl)); (· (simp only [Act.put, Act.eval, List.setIfInBounds_toArray, List.set_cons_zero, List.set_cons_succ, Array.getD_eq_getD_getElem?, List.getElem?_toArray, List.getElem?_cons_zero, List.getElem?_cons_succ, Option.getD_some]; with_reducible rfl))
        apply txt_pure rfl rfl rfl; (· (intro w; go_simp; (try go_bits); with_reducible rfl)); (· (simp only [Act.put, Act.eval, List.setIfInBounds_toArray, List.set_cons_zero, List.set_cons_succ, Array.getD_eq_getD_getElem?, List.getElem?_toArray, List.getElem?_cons_zero, List.getElem?_cons_succ, Option.getD_some]; with_reducible rfl))
        apply txt_read rfl rfl rfl; (· (go_simp; with_reducible rfl)); (· (simp only [Act.put, Act.eval, List.setIfInBounds_toArray, List.set_cons_zero, List.set_cons_succ, Array.getD_eq_getD_getElem?, List.getElem?_toArray, List.getElem?_cons_zero, List.getElem?_cons_succ, Option.getD_some]; with_reducible rfl))
        apply txt_pure rfl rfl rfl; (· (intro w; go_simp; (try go_bits); with_reducible rfl)); (· (simp only [Act.put, Act.eval, List.setIfInBounds_toArray, List.set_cons_zero, List.set_cons_succ, Array.getD_eq_getD_getElem?, List.getElem?_toArray, List.getElem?_cons_zero, List.getElem?_cons_succ, Option.getD_some]; with_reducible rfl))
        apply txt_move rfl rfl; (· (simp only [Act.put, Act.eval, List.setIfInBounds_toArray, List.set_cons_zero, List.set_cons_succ, Array.getD_eq_getD_getElem?, List.getElem?_toArray, List.getElem?_cons_zero, List.getElem?_cons_succ, Option.getD_some]; with_reducible rfl))
        apply txt_pure rfl rfl rfl; (· (intro w; go_simp; (try go_bits); with_reducible rfl)); (· (simp only [Act.put, Act.eval, List.setIfInBounds_toArray, List.set_cons_zero, List.set_cons_succ, Array.getD_eq_getD_getElem?, List.getElem?_toArray, List.getElem?_cons_zero, List.getElem?_cons_succ, Option.getD_some]; with_reducible rfl))
        apply txt_pure rfl rfl rfl; (· (intro w; go_simp; (try go_bits); with_reducible rfl)); (· (simp only [Act.put, Act.eval, List.setIfInBounds_toArray, List.set_cons_zero, List.set_cons_succ, Array.getD_eq_getD_getElem?, List.getElem?_toArray, List.getElem?_cons_zero, List.getElem?_cons_succ, Option.getD_some]; with_reducible rfl))
        apply txt_read rfl rfl rfl; (· (go_simp; with_reducible rfl)); (· (simp only [Act.put, Act.eval, List.setIfInBounds_toArray, List.set_cons_zero, List.set_cons_succ, Array.getD_eq_getD_getElem?, List.getElem?_toArray, List.getElem?_cons_zero, List.getElem?_cons_succ, Option.getD_some]; with_reducible rfl))
        apply txt_pure rfl rfl rfl; (· (intro w; go_simp; (try go_bits); with_reducible rfl)); (· (simp only [Act.put, Act.eval, List.setIfInBounds_toArray, List.set_cons_zero, List.set_cons_succ, Array.getD_eq_getD_getElem?, List.getElem?_toArray, List.getElem?_cons_zero, List.getElem?_cons_succ, Option.getD_some]; with_reducible rfl))
        apply txt_assign rfl rfl; (· (simp only [Act.put, Act.eval, List.setIfInBounds_toArray, List.set_cons_zero, List.set_cons_succ, Array.getD_eq_getD_getElem?, List.getElem?_toArray, List.getElem?_cons_zero, List.getElem?_cons_succ, Option.getD_some]; with_reducible rfl))
        with_reducible refine txt_nil ?_
        go_wp2
        refine Rt.wp_region_text [0, 0, 1, 0, 1, 0, 0, 0, 2] (by kernel_rfl) (by kernel_rfl) ?_
        apply txt_move rfl rfl; (· (simp only [Act.put, Act.eval, List.setIfInBounds_toArray, List.set_cons_zero, List.set_cons_succ, Array.getD_eq_getD_getElem?, List.getElem?_toArray, List.getElem?_cons_zero, List.getElem?_cons_succ, Option.getD_some]; with_reducible rfl))
        apply txt_pure rfl rfl rfl; (· (intro w; go_simp; (try go_bits); with_reducible rfl)); (· (simp only [Act.put, Act.eval, List.setIfInBounds_toArray, List.set_cons_zero, List.set_cons_succ, Array.getD_eq_getD_getElem?, List.getElem?_toArray, List.getElem?_cons_zero, List.getElem?_cons_succ, Option.getD_some]; with_reducible rfl))
        apply txt_read rfl rfl rfl; (· (go_simp; with_reducible rfl)); (· (simp only [Act.put, Act.eval, List.setIfInBounds_toArray, List.set_cons_zero, List.set_cons_succ, Array.getD_eq_getD_getElem?, List.getElem?_toArray, List.getElem?_cons_zero, List.getElem?_cons_succ, Option.getD_some]; with_reducible rfl))
        apply txt_move rfl rfl; (· (simp only [Act.put, Act.eval, List.setIfInBounds_toArray, List.set_cons_zero, List.set_cons_succ, Array.getD_eq_getD_getElem?, List.getElem?_toArray, List.getElem?_cons_zero, List.getElem?_cons_succ, Option.getD_some]; with_reducible rfl))
        (apply txt_quiet rfl rfl rfl; (· (go_simp; exact ⟨rfl, rfl⟩)); (· (exact Rot_30 _ _)); (· (simp only [Act.put, Act.eval, List.setIfInBounds_toArray, List.set_cons_zero, List.set_cons_succ, Array.getD_eq_getD_getElem?, List.getElem?_toArray, List.getElem?_cons_zero, List.getElem?_cons_succ, Option.getD_some]; with_reducible rfl)))
        apply txt_move rfl rfl; (· (simp only [Act.put, Act.eval, List.setIfInBounds_toArray, List.set_cons_zero, List.set_cons_succ, Array.getD_eq_getD_getElem?, List.getElem?_toArray, List.getElem?_cons_zero, List.getElem?_cons_succ, Option.getD_some]; with_reducible rfl))
        apply txt_move rfl rfl; (· (simp only [Act.put, Act.eval, List.setIfInBounds_toArray, List.set_cons_zero, List.set_cons_succ, Array.getD_eq_getD_getElem?, List.getElem?_toArray, List.getElem?_cons_zero, List.getElem?_cons_succ, Option.getD_some]; with_reducible rfl))
        apply txt_pure rfl rfl rfl; (· (intro w; go_simp; (try go_bits); with_reducible rfl)); (· (simp only [Act.put, Act.eval, List.setIfInBounds_toArray, List.set_cons_zero, List.set_cons_succ, Array.getD_eq_getD_getElem?, List.getElem?_toArray, List.getElem?_cons_zero, List.getElem?_cons_succ, Option.getD_some]; with_reducible rfl))
        refine txt_act rfl rfl rfl fun K hK => wp_store_row 33 (.tmp 3) (.tmp 113) rfl (w.heap.size + 1) _ rfl rfl 33 _ hV1.drew.drew (by kernel_rfl) (by simp [S5.l]) (by simp [Value.oneCell']) (hK _ _ ?_)
        clear K hK
        with_reducible refine txt_nil ?_
        go_wp2
        go_roundw
        case rel =>
          refine ⟨k + 1, by go_num, by omega, ?_, ?_, ?_⟩
          · exact row32_other hB1.drew.drew (by omega) [_, _, _, _, _]
          · rw [hS.out]; simp only [rd1, fn1]; rw [if_pos (by omega)]; exact row32_own hV1.drew.drew [_, _, _, _, _]
          · exact row32_below hb1.drew.drew (by omega) [_, _, _, _, _]
        case measure => simp [intOf]; omega
      by_cases hc20 : k < 20
      · skip
        have e16 : ¬ (k : Int) < 16 := by omega
        have e16b : decide (16 ≤ (k : Int)) = true := by simp; omega
        have e20 : (k : Int) / 20 = 0 := by omega
        have eq0 : k / 20 = 0 := by omega
        go_wp2
        have a0 := and15_i64 k (by omega)
        have a3 := and15_sub k 3 (by omega) (by omega) (by omega)
        rw [show (((3 : Nat) : Int)) = 3 by rfl, show 16 - 3 = 13 by rfl] at a3
        have a8 := and15_sub k 8 (by omega) (by omega) (by omega)
        rw [show (((8 : Nat) : Int)) = 8 by rfl, show 16 - 8 = 8 by rfl] at a8
        have a14 := and15_sub k 14 (by omega) (by omega) (by omega)
        rw [show (((14 : Nat) : Int)) = 14 by rfl, show 16 - 14 = 2 by rfl] at a14
        have e0 := hB.cell ((k) % 16) (by rw [buf1_length, wl]; omega)
        have m0 : (k) % 16 < 16 := by omega
        have e3 := hB.cell ((k + 13) % 16) (by rw [buf1_length, wl]; omega)
        have m3 : (k + 13) % 16 < 16 := by omega
        have e8 := hB.cell ((k + 8) % 16) (by rw [buf1_length, wl]; omega)
        have m8 : (k + 8) % 16 < 16 := by omega
        have e14 := hB.cell ((k + 2) % 16) (by rw [buf1_length, wl]; omega)
        have m14 : (k + 2) % 16 < 16 := by omega
        have hN : Hid (buf1 ws (k + 1) = (buf1 ws k).set (k % 16) (new1 (buf1 ws k) k)) := Lib.hid (by simp only [buf1]; rw [if_neg (by omega)])
        unfold new1 at hN
        obtain ⟨q0, hq0⟩ : ∃ q, (k) % 16 = q := ⟨_, rfl⟩
        rw [hq0] at a0 e0 m0 hN
        have l0 : (q0 : Int) < 16 := by omega
        obtain ⟨q3, hq3⟩ : ∃ q, (k + 13) % 16 = q := ⟨_, rfl⟩
        rw [hq3] at a3 e3 m3 hN
        have l3 : (q3 : Int) < 16 := by omega
        obtain ⟨q8, hq8⟩ : ∃ q, (k + 8) % 16 = q := ⟨_, rfl⟩
        rw [hq8] at a8 e8 m8 hN
        have l8 : (q8 : Int) < 16 := by omega
        obtain ⟨q14, hq14⟩ : ∃ q, (k + 2) % 16 = q := ⟨_, rfl⟩
        rw [hq14] at a14 e14 m14 hN
        have l14 : (q14 : Int) < 16 := by omega
        obtain ⟨y0, hy0⟩ : ∃ y, (buf1 ws k).getD q0 0 = y := ⟨_, rfl⟩
        rw [hy0] at e0 hN
        clear hy0
        obtain ⟨y3, hy3⟩ : ∃ y, (buf1 ws k).getD q3 0 = y := ⟨_, rfl⟩
        rw [hy3] at e3 hN
        clear hy3
        obtain ⟨y8, hy8⟩ : ∃ y, (buf1 ws k).getD q8 0 = y := ⟨_, rfl⟩
        rw [hy8] at e8 hN
        clear hy8
        obtain ⟨y14, hy14⟩ : ∃ y, (buf1 ws k).getD q14 0 = y := ⟨_, rfl⟩
        rw [hy14] at e14 hN
        clear hy14
        clear hq3 hq8 hq14
        have f0 := hB.frozen q0
        refine Rt.wp_region_text [0, 0, 0, 0, 0, 0, 1, 0, 0, 0, 0, 1, 0, 0, 0, 0, 0, 1, 0, 0, 0, 0, 1, 0, 1, 0, 2] (by kernel_rfl) (by kernel_rfl) ?_
        apply txt_move rfl rfl; (· (simp only [Act.put, Act.eval, List.setIfInBounds_toArray, List.set_cons_zero, List.set_cons_succ, Array.getD_eq_getD_getElem?, List.getElem?_toArray, List.getElem?_cons_zero, List.getElem?_cons_succ, Option.getD_some]; with_reducible rfl))
        apply txt_pure rfl rfl rfl; (· (intro w; go_simp; (try go_bits); with_reducible rfl)); (· (simp only [Act.put, Act.eval, List.setIfInBounds_toArray, List.set_cons_zero, List.set_cons_succ, Array.getD_eq_getD_getElem?, List.getElem?_toArray, List.getElem?_cons_zero, List.getElem?_cons_succ, Option.getD_some]; with_reducible rfl))
        apply txt_move rfl rfl; (· (simp only [Act.put, Act.eval, List.setIfInBounds_toArray, List.set_cons_zero, List.set_cons_succ, Array.getD_eq_getD_getElem?, List.getElem?_toArray, List.getElem?_cons_zero, List.getElem?_cons_succ, Option.getD_some]; with_reducible rfl))
        apply txt_pure rfl rfl rfl; (· (intro w; go_simp; (try go_bits); with_reducible rfl)); (· (simp only [Act.put, Act.eval, List.setIfInBounds_toArray, List.set_cons_zero, List.set_cons_succ, Array.getD_eq_getD_getElem?, List.getElem?_toArray, List.getElem?_cons_zero, List.getElem?_cons_succ, Option.getD_some]; with_reducible rfl))
        apply txt_pure rfl rfl rfl; (· (intro w; go_simp; (try go_bits); with_reducible rfl)); (· (simp only [Act.put, Act.eval, List.setIfInBounds_toArray, List.set_cons_zero, List.set_cons_succ, Array.getD_eq_getD_getElem?, List.getElem?_toArray, List.getElem?_cons_zero, List.getElem?_cons_succ, Option.getD_some]; with_reducible rfl))
        apply txt_pure rfl rfl rfl; (· (intro w; go_simp; (try go_bits); with_reducible rfl)); (· (simp only [Act.put, Act.eval, List.setIfInBounds_toArray, List.set_cons_zero, List.set_cons_succ, Array.getD_eq_getD_getElem?, List.getElem?_toArray, List.getElem?_cons_zero, List.getElem?_cons_succ, Option.getD_some]; with_reducible rfl))
        apply txt_read rfl rfl rfl; (· (go_simp; with_reducible rfl)); (· (simp only [Act.put, Act.eval, List.setIfInBounds_toArray, List.set_cons_zero, List.set_cons_succ, Array.getD_eq_getD_getElem?, List.getElem?_toArray, List.getElem?_cons_zero, List.getElem?_cons_succ, Option.getD_some]; with_reducible rfl))
        apply txt_move rfl rfl; (· (simp only [Act.put, Act.eval, List.setIfInBounds_toArray, List.set_cons_zero, List.set_cons_succ, Array.getD_eq_getD_getElem?, List.getElem?_toArray, List.getElem?_cons_zero, List.getElem?_cons_succ, Option.getD_some]; with_reducible rfl))
        apply txt_pure rfl rfl rfl; (· (intro w; go_simp; (try go_bits); with_reducible rfl)); (· (simp only [Act.put, Act.eval, List.setIfInBounds_toArray, List.set_cons_zero, List.set_cons_succ, Array.getD_eq_getD_getElem?, List.getElem?_toArray, List.getElem?_cons_zero, List.getElem?_cons_succ, Option.getD_some]; with_reducible rfl))
        apply txt_pure rfl rfl rfl; (· (intro w; go_simp; (try go_bits); with_reducible rfl)); (· (simp only [Act.put, Act.eval, List.setIfInBounds_toArray, List.set_cons_zero, List.set_cons_succ, Array.getD_eq_getD_getElem?, List.getElem?_toArray, List.getElem?_cons_zero, List.getElem?_cons_succ, Option.getD_some]; with_reducible rfl))
        apply txt_pure rfl rfl rfl; (· (intro w; go_simp; (try go_bits); with_reducible rfl)); (· (simp only [Act.put, Act.eval, List.setIfInBounds_toArray, List.set_cons_zero, List.set_cons_succ, Array.getD_eq_getD_getElem?, List.getElem?_toArray, List.getElem?_cons_zero, List.getElem?_cons_succ, Option.getD_some]; with_reducible rfl))
        apply txt_read rfl rfl rfl; (· (go_simp; with_reducible rfl)); (· (simp only [Act.put, Act.eval, List.setIfInBounds_toArray, List.set_cons_zero, List.set_cons_succ, Array.getD_eq_getD_getElem?, List.getElem?_toArray, List.getElem?_cons_zero, List.getElem?_cons_succ, Option.getD_some]; with_reducible rfl))
        apply txt_pure rfl rfl rfl; (· (intro w; go_simp; (try go_bits); with_reducible rfl)); (· (simp only [Act.put, Act.eval, List.setIfInBounds_toArray, List.set_cons_zero, List.set_cons_succ, Array.getD_eq_getD_getElem?, List.getElem?_toArray, List.getElem?_cons_zero, List.getElem?_cons_succ, Option.getD_some]; with_reducible rfl))
        apply txt_move rfl rfl; (· (simp only [Act.put, Act.eval, List.setIfInBounds_toArray, List.set_cons_zero, List.set_cons_succ, Array.getD_eq_getD_getElem?, List.getElem?_toArray, List.getElem?_cons_zero, List.getElem?_cons_succ, Option.getD_some]; with_reducible rfl))
        apply txt_pure rfl rfl rfl; (· (intro w; go_simp; (try go_bits); with_reducible rfl)); (· (simp only [Act.put, Act.eval, List.setIfInBounds_toArray, List.set_cons_zero, List.set_cons_succ, Array.getD_eq_getD_getElem?, List.getElem?_toArray, List.getElem?_cons_zero, List.getElem?_cons_succ, Option.getD_some]; with_reducible rfl))
        apply txt_pure rfl rfl rfl; (· (intro w; go_simp; (try go_bits); with_reducible rfl)); (· (simp only [Act.put, Act.eval, List.setIfInBounds_toArray, List.set_cons_zero, List.set_cons_succ, Array.getD_eq_getD_getElem?, List.getElem?_toArray, List.getElem?_cons_zero, List.getElem?_cons_succ, Option.getD_some]; with_reducible rfl))
        apply txt_pure rfl rfl rfl; (· (intro w; go_simp; (try go_bits); with_reducible rfl)); (· (simp only [Act.put, Act.eval, List.setIfInBounds_toArray, List.set_cons_zero, List.set_cons_succ, Array.getD_eq_getD_getElem?, List.getElem?_toArray, List.getElem?_cons_zero, List.getElem?_cons_succ, Option.getD_some]; with_reducible rfl))
        apply txt_read rfl rfl rfl; (· (go_simp; with_reducible rfl)); (· (simp only [Act.put, Act.eval, List.setIfInBounds_toArray, List.set_cons_zero, List.set_cons_succ, Array.getD_eq_getD_getElem?, List.getElem?_toArray, List.getElem?_cons_zero, List.getElem?_cons_succ, Option.getD_some]; with_reducible rfl))
        apply txt_pure rfl rfl rfl; (· (intro w; go_simp; (try go_bits); with_reducible rfl)); (· (simp only [Act.put, Act.eval, List.setIfInBounds_toArray, List.set_cons_zero, List.set_cons_succ, Array.getD_eq_getD_getElem?, List.getElem?_toArray, List.getElem?_cons_zero, List.getElem?_cons_succ, Option.getD_some]; with_reducible rfl))
        apply txt_move rfl rfl; (· (simp only [Act.put, Act.eval, List.setIfInBounds_toArray, List.set_cons_zero, List.set_cons_succ, Array.getD_eq_getD_getElem?, List.getElem?_toArray, List.getElem?_cons_zero, List.getElem?_cons_succ, Option.getD_some]; with_reducible rfl))
        apply txt_pure rfl rfl rfl; (· (intro w; go_simp; (try go_bits); with_reducible rfl)); (· (simp only [Act.put, Act.eval, List.setIfInBounds_toArray, List.set_cons_zero, List.set_cons_succ, Array.getD_eq_getD_getElem?, List.getElem?_toArray, List.getElem?_cons_zero, List.getElem?_cons_succ, Option.getD_some]; with_reducible rfl))
        apply txt_pure rfl rfl rfl; (· (intro w; go_simp; (try go_bits); with_reducible rfl)); (· (simp only [Act.put, Act.eval, List.setIfInBounds_toArray, List.set_cons_zero, List.set_cons_succ, Array.getD_eq_getD_getElem?, List.getElem?_toArray, List.getElem?_cons_zero, List.getElem?_cons_succ, Option.getD_some]; with_reducible rfl))
        apply txt_read rfl rfl rfl; (· (go_simp; with_reducible rfl)); (· (simp only [Act.put, Act.eval, List.setIfInBounds_toArray, List.set_cons_zero, List.set_cons_succ, Array.getD_eq_getD_getElem?, List.getElem?_toArray, List.getElem?_cons_zero, List.getElem?_cons_succ, Option.getD_some]; with_reducible rfl))
        apply txt_pure rfl rfl rfl; (· (intro w; go_simp; (try go_bits); with_reducible rfl)); (· (simp only [Act.put, Act.eval, List.setIfInBounds_toArray, List.set_cons_zero, List.set_cons_succ, Array.getD_eq_getD_getElem?, List.getElem?_toArray, List.getElem?_cons_zero, List.getElem?_cons_succ, Option.getD_some]; with_reducible rfl))
        (apply txt_quiet rfl rfl rfl; (· (go_simp; exact ⟨rfl, rfl⟩)); (· (exact Rot_1 _ _)); (· (simp only [Act.put, Act.eval, List.setIfInBounds_toArray, List.set_cons_zero, List.set_cons_succ, Array.getD_eq_getD_getElem?, List.getElem?_toArray, List.getElem?_cons_zero, List.getElem?_cons_succ, Option.getD_some]; with_reducible rfl)))
        apply txt_pure rfl rfl rfl; (· (intro w; go_simp; (try go_bits); with_reducible rfl)); (· (simp only [Act.put, Act.eval, List.setIfInBounds_toArray, List.set_cons_zero, List.set_cons_succ, Array.getD_eq_getD_getElem?, List.getElem?_toArray, List.getElem?_cons_zero, List.getElem?_cons_succ, Option.getD_some]; with_reducible rfl))
        apply txt_do rfl rfl rfl; (· (go_simp; with_reducible rfl)); (· (simp only [Act.put, Act.eval, List.setIfInBounds_toArray, List.set_cons_zero, List.set_cons_succ, Array.getD_eq_getD_getElem?, List.getElem?_toArray, List.getElem?_cons_zero, List.getElem?_cons_succ, Option.getD_some]; with_reducible rfl))
        with_reducible refine txt_nil ?_
        go_wp2
        have hB0 := (hB.set q0 (by rw [buf1_length, wl]; omega) (rotl (y3 ^^^ y8 ^^^ y14 ^^^ y0) 1)).drew
        rw [← hN.out] at hB0
        have hV0 := (hV.other (p := ⟨w.heap.size, q0, none⟩) (by simp) (.int .u32 (u (rotl (y3 ^^^ y8 ^^^ y14 ^^^ y0) 1)))).drew
        have hb0 := (hb.setCell (p := ⟨w.heap.size, q0, none⟩) (by simp) (.int .u32 (u (rotl (y3 ^^^ y8 ^^^ y14 ^^^ y0) 1)))).drew
        obtain ⟨w2, hw2⟩ : ∃ x, x = (wr.setCell ⟨w.heap.size, q0, none⟩ (.int .u32 (u (rotl (y3 ^^^ y8 ^^^ y14 ^^^ y0) 1)))).drew := ⟨_, rfl⟩
        rw [← hw2] at hB0 hV0 hb0 ⊢
        clear hw2 hB hV hb hbs e0 e3 e8 e14 a0 a3 a8 a14 m0 m3 m8 m14 l0 l3 l8 l14 f0 hN hq0
        have hbs := hb0.size
        have d1 := hV0.cell 1 (by simp [S5.l])
        have d2 := hV0.cell 2 (by simp [S5.l])
        have d3 := hV0.cell 3 (by simp [S5.l])
        simp only [S5.l, List.getD_cons_zero, List.getD_cons_succ] at d1 d2 d3
        refine Rt.wp_region_text [0, 1, 0, 1, 0, 1, 0, 0, 0] (by kernel_rfl) (by kernel_rfl) ?_
        apply txt_pure rfl rfl rfl; (· (intro w; go_simp; (try go_bits); with_reducible rfl)); (· (simp only [Act.put, Act.eval, List.setIfInBounds_toArray, List.set_cons_zero, List.set_cons_succ, Array.getD_eq_getD_getElem?, List.getElem?_toArray, List.getElem?_cons_zero, List.getElem?_cons_succ, Option.getD_some]; with_reducible rfl))
        apply txt_read rfl rfl rfl; (· (go_simp; with_reducible rfl)); (· (simp only [Act.put, Act.eval, List.setIfInBounds_toArray, List.set_cons_zero, List.set_cons_succ, Array.getD_eq_getD_getElem?, List.getElem?_toArray, List.getElem?_cons_zero, List.getElem?_cons_succ, Option.getD_some]; with_reducible rfl))
        apply txt_pure rfl rfl rfl; (· (intro w; go_simp; (try go_bits); with_reducible rfl)); (· (simp only [Act.put, Act.eval, List.setIfInBounds_toArray, List.set_cons_zero, List.set_cons_succ, Array.getD_eq_getD_getElem?, List.getElem?_toArray, List.getElem?_cons_zero, List.getElem?_cons_succ, Option.getD_some]; with_reducible rfl))
        apply txt_read rfl rfl rfl; (· (go_simp; with_reducible rfl)); (· (simp only [Act.put, Act.eval, List.setIfInBounds_toArray, List.set_cons_zero, List.set_cons_succ, Array.getD_eq_getD_getElem?, List.getElem?_toArray, List.getElem?_cons_zero, List.getElem?_cons_succ, Option.getD_some]; with_reducible rfl))
        apply txt_pure rfl rfl rfl; (· (intro w; go_simp; (try go_bits); with_reducible rfl)); (· (simp only [Act.put, Act.eval, List.setIfInBounds_toArray, List.set_cons_zero, List.set_cons_succ, Array.getD_eq_getD_getElem?, List.getElem?_toArray, List.getElem?_cons_zero, List.getElem?_cons_succ, Option.getD_some]; with_reducible rfl))
        apply txt_read rfl rfl rfl; (· (go_simp; with_reducible rfl)); (· (simp only [Act.put, Act.eval, List.setIfInBounds_toArray, List.set_cons_zero, List.set_cons_succ, Array.getD_eq_getD_getElem?, List.getElem?_toArray, List.getElem?_cons_zero, List.getElem?_cons_succ, Option.getD_some]; with_reducible rfl))
        apply txt_assign rfl rfl; (· (simp only [Act.put, Act.eval, List.setIfInBounds_toArray, List.set_cons_zero, List.set_cons_succ, Array.getD_eq_getD_getElem?, List.getElem?_toArray, List.getElem?_cons_zero, List.getElem?_cons_succ, Option.getD_some]; with_reducible rfl))
        apply txt_assign rfl rfl; (· (simp only [Act.put, Act.eval, List.setIfInBounds_toArray, List.set_cons_zero, List.set_cons_succ, Array.getD_eq_getD_getElem?, List.getElem?_toArray, List.getElem?_cons_zero, List.getElem?_cons_succ, Option.getD_some]; with_reducible rfl))
        apply txt_assign rfl rfl; (· (simp only [Act.put, Act.eval, List.setIfInBounds_toArray, List.set_cons_zero, List.set_cons_succ, Array.getD_eq_getD_getElem?, List.getElem?_toArray, List.getElem?_cons_zero, List.getElem?_cons_succ, Option.getD_some]; with_reducible rfl))
        with_reducible refine txt_nil ?_
        go_wp2
        have hB1 := hB0.drew
        have hV1 := hV0.drew
        have hb1 := hb0.drew
        obtain ⟨w1, hw1⟩ : ∃ x, x = w2.drew := ⟨_, rfl⟩
        rw [← hw1] at hB1 hV1 hb1 ⊢
        clear hw1 d1 d2 d3 hB0 hV0 hb0 hbs
        have hbs := hb1.size
        have d0 := hV1.cell 0 (by simp [S5.l])
        have d4 := hV1.cell 4 (by simp [S5.l])
        simp only [S5.l, List.getD_cons_zero, List.getD_cons_succ] at d0 d4
        have a0 := and15_i64 k (by omega)
        have m0 : k % 16 < 16 := by omega
        have e0 := hB1.cell (k % 16) (by rw [buf1_length, wl]; omega)
        obtain ⟨q0, hq0⟩ : ∃ q, k % 16 = q := ⟨_, rfl⟩
        rw [hq0] at a0 m0 e0
        have l0 : (q0 : Int) < 16 := by omega
        obtain ⟨y0, hy0⟩ : ∃ y, (buf1 ws (k + 1)).getD q0 0 = y := ⟨_, rfl⟩
        rw [hy0] at e0
        have hS : Hid (st1 h ws (k + 1) = rd1 (st1 h ws k) y0 k) := Lib.hid (by rw [← hy0, ← hq0]; rfl)
        clear hy0 hq0
        refine Rt.wp_region_text [0, 1, 1, 0, 0, 0, 1, 0, 0, 0, 0, 1, 0, 0] (by kernel_rfl) (by kernel_rfl) ?_
        apply txt_pure rfl rfl rfl; (· (intro w; go_simp; (try go_bits); with_reducible rfl)); (· (simp only [Act.put, Act.eval, List.setIfInBounds_toArray, List.set_cons_zero, List.set_cons_succ, Array.getD_eq_getD_getElem?, List.getElem?_toArray, List.getElem?_cons_zero, List.getElem?_cons_succ, Option.getD_some]; with_reducible rfl))
        apply txt_read rfl rfl rfl; (· (go_simp; with_reducible rfl)); (· (simp only [Act.put, Act.eval, List.setIfInBounds_toArray, List.set_cons_zero, List.set_cons_succ, Array.getD_eq_getD_getElem?, List.getElem?_toArray, List.getElem?_cons_zero, List.getElem?_cons_succ, Option.getD_some]; with_reducible rfl))
        (apply txt_quiet rfl rfl rfl; (· (go_simp; exact ⟨rfl, rfl⟩)); (· (exact Rot_5 _ _)); (· (simp only [Act.put, Act.eval, List.setIfInBounds_toArray, List.set_cons_zero, List.set_cons_succ, Array.getD_eq_getD_getElem?, List.getElem?_toArray, List.getElem?_cons_zero, List.getElem?_cons_succ, Option.getD_some]; with_reducible rfl)))
        apply txt_move rfl rfl; (· (simp only [Act.put, Act.eval, List.setIfInBounds_toArray, List.set_cons_zero, List.set_cons_succ, Array.getD_eq_getD_getElem?, List.getElem?_toArray, List.getElem?_cons_zero, List.getElem?_cons_succ, Option.getD_some]; with_reducible rfl))
        apply txt_pure rfl rfl rfl; (· (intro w; go_simp; (try go_bits); with_reducible rfl)); (· (simp only [Act.put, Act.eval, List.setIfInBounds_toArray, List.set_cons_zero, List.set_cons_succ, Array.getD_eq_getD_getElem?, List.getElem?_toArray, List.getElem?_cons_zero, List.getElem?_cons_succ, Option.getD_some]; with_reducible rfl))
        apply txt_pure rfl rfl rfl; (· (intro w; go_simp; (try go_bits); with_reducible rfl)); (· (simp only [Act.put, Act.eval, List.setIfInBounds_toArray, List.set_cons_zero, List.set_cons_succ, Array.getD_eq_getD_getElem?, List.getElem?_toArray, List.getElem?_cons_zero, List.getElem?_cons_succ, Option.getD_some]; with_reducible rfl))
        apply txt_read rfl rfl rfl; (· (go_simp; with_reducible rfl)); (· (simp only [Act.put, Act.eval, List.setIfInBounds_toArray, List.set_cons_zero, List.set_cons_succ, Array.getD_eq_getD_getElem?, List.getElem?_toArray, List.getElem?_cons_zero, List.getElem?_cons_succ, Option.getD_some]; with_reducible rfl))
        apply txt_pure rfl rfl rfl; (· (intro w; go_simp; (try go_bits); with_reducible rfl)); (· (simp only [Act.put, Act.eval, List.setIfInBounds_toArray, List.set_cons_zero, List.set_cons_succ, Array.getD_eq_getD_getElem?, List.getElem?_toArray, List.getElem?_cons_zero, List.getElem?_cons_succ, Option.getD_some]; with_reducible rfl))
        apply txt_move rfl rfl; (· (simp only [Act.put, Act.eval, List.setIfInBounds_toArray, List.set_cons_zero, List.set_cons_succ, Array.getD_eq_getD_getElem?, List.getElem?_toArray, List.getElem?_cons_zero, List.getElem?_cons_succ, Option.getD_some]; with_reducible rfl))
        apply txt_pure rfl rfl rfl; (· (intro w; go_simp; (try go_bits); with_reducible rfl)); (· (simp only [Act.put, Act.eval, List.setIfInBounds_toArray, List.set_cons_zero, List.set_cons_succ, Array.getD_eq_getD_getElem?, List.getElem?_toArray, List.getElem?_cons_zero, List.getElem?_cons_succ, Option.getD_some]; with_reducible rfl))
        apply txt_pure rfl rfl rfl; (· (intro w; go_simp; (try go_bits); with_reducible rfl)); (· (simp only [Act.put, Act.eval, List.setIfInBounds_toArray, List.set_cons_zero, List.set_cons_succ, Array.getD_eq_getD_getElem?, List.getElem?_toArray, List.getElem?_cons_zero, List.getElem?_cons_succ, Option.getD_some]; with_reducible rfl))
        apply txt_read rfl rfl rfl; (· (go_simp; with_reducible rfl)); (· (simp only [Act.put, Act.eval, List.setIfInBounds_toArray, List.set_cons_zero, List.set_cons_succ, Array.getD_eq_getD_getElem?, List.getElem?_toArray, List.getElem?_cons_zero, List.getElem?_cons_succ, Option.getD_some]; with_reducible rfl))
        apply txt_pure rfl rfl rfl; (· (intro w; go_simp; (try go_bits); with_reducible rfl)); (· (simp only [Act.put, Act.eval, List.setIfInBounds_toArray, List.set_cons_zero, List.set_cons_succ, Array.getD_eq_getD_getElem?, List.getElem?_toArray, List.getElem?_cons_zero, List.getElem?_cons_succ, Option.getD_some]; with_reducible rfl))
        apply txt_assign rfl rfl; (· (simp only [Act.put, Act.eval, List.setIfInBounds_toArray, List.set_cons_zero, List.set_cons_succ, Array.getD_eq_getD_getElem?, List.getElem?_toArray, List.getElem?_cons_zero, List.getElem?_cons_succ, Option.getD_some]; with_reducible rfl))
        with_reducible refine txt_nil ?_
        go_wp2
        refine Rt.wp_region_text [0, 0, 1, 0, 1, 0, 0, 0, 2] (by kernel_rfl) (by kernel_rfl) ?_
        apply txt_move rfl rfl; (· (simp only [Act.put, Act.eval, List.setIfInBounds_toArray, List.set_cons_zero, List.set_cons_succ, Array.getD_eq_getD_getElem?, List.getElem?_toArray, List.getElem?_cons_zero, List.getElem?_cons_succ, Option.getD_some]; with_reducible rfl))
        apply txt_pure rfl rfl rfl; (· (intro w; go_simp; (try go_bits); with_reducible rfl)); (· (simp only [Act.put, Act.eval, List.setIfInBounds_toArray, List.set_cons_zero, List.set_cons_succ, Array.getD_eq_getD_getElem?, List.getElem?_toArray, List.getElem?_cons_zero, List.getElem?_cons_succ, Option.getD_some]; with_reducible rfl))
        apply txt_read rfl rfl rfl; (· (go_simp; with_reducible rfl)); (· (simp only [Act.put, Act.eval, List.setIfInBounds_toArray, List.set_cons_zero, List.set_cons_succ, Array.getD_eq_getD_getElem?, List.getElem?_toArray, List.getElem?_cons_zero, List.getElem?_cons_succ, Option.getD_some]; with_reducible rfl))
        apply txt_move rfl rfl; (· (simp only [Act.put, Act.eval, List.setIfInBounds_toArray, List.set_cons_zero, List.set_cons_succ, Array.getD_eq_getD_getElem?, List.getElem?_toArray, List.getElem?_cons_zero, List.getElem?_cons_succ, Option.getD_some]; with_reducible rfl))
        (apply txt_quiet rfl rfl rfl; (· (go_simp; exact ⟨rfl, rfl⟩)); (· (exact Rot_30 _ _)); (· (simp only [Act.put, Act.eval, List.setIfInBounds_toArray, List.set_cons_zero, List.set_cons_succ, Array.getD_eq_getD_getElem?, List.getElem?_toArray, List.getElem?_cons_zero, List.getElem?_cons_succ, Option.getD_some]; with_reducible rfl)))
        apply txt_move rfl rfl; (· (simp only [Act.put, Act.eval, List.setIfInBounds_toArray, List.set_cons_zero, List.set_cons_succ, Array.getD_eq_getD_getElem?, List.getElem?_toArray, List.getElem?_cons_zero, List.getElem?_cons_succ, Option.getD_some]; with_reducible rfl))
        apply txt_move rfl rfl; (· (simp only [Act.put, Act.eval, List.setIfInBounds_toArray, List.set_cons_zero, List.set_cons_succ, Array.getD_eq_getD_getElem?, List.getElem?_toArray, List.getElem?_cons_zero, List.getElem?_cons_succ, Option.getD_some]; with_reducible rfl))
        apply txt_pure rfl rfl rfl; (· (intro w; go_simp; (try go_bits); with_reducible rfl)); (· (simp only [Act.put, Act.eval, List.setIfInBounds_toArray, List.set_cons_zero, List.set_cons_succ, Array.getD_eq_getD_getElem?, List.getElem?_toArray, List.getElem?_cons_zero, List.getElem?_cons_succ, Option.getD_some]; with_reducible rfl))
        refine txt_act rfl rfl rfl fun K hK => wp_store_row 33 (.tmp 3) (.tmp 113) rfl (w.heap.size + 1) _ rfl rfl 33 _ hV1.drew.drew (by kernel_rfl) (by simp [S5.l]) (by simp [Value.oneCell']) (hK _ _ ?_)
        clear K hK
        with_reducible refine txt_nil ?_
        go_wp2
        go_roundw
        case rel =>
          refine ⟨k + 1, by go_num, by omega, ?_, ?_, ?_⟩
          · exact row32_other hB1.drew.drew (by omega) [_, _, _, _, _]
          · rw [hS.out]; simp only [rd1, fn1]; rw [if_pos (by omega)]; exact row32_own hV1.drew.drew [_, _, _, _, _]
          · exact row32_below hb1.drew.drew (by omega) [_, _, _, _, _]
        case measure => simp [intOf]; omega
      by_cases hc40 : k < 40
      · skip
        have e16 : ¬ (k : Int) < 16 := by omega
        have e16b : decide (16 ≤ (k : Int)) = true := by simp; omega
        have e20 : (k : Int) / 20 = 1 := by omega
        have eq1 : k / 20 = 1 := by omega
        go_wp2
        have a0 := and15_i64 k (by omega)
        have a3 := and15_sub k 3 (by omega) (by omega) (by omega)
        rw [show (((3 : Nat) : Int)) = 3 by rfl, show 16 - 3 = 13 by rfl] at a3
        have a8 := and15_sub k 8 (by omega) (by omega) (by omega)
        rw [show (((8 : Nat) : Int)) = 8 by rfl, show 16 - 8 = 8 by rfl] at a8
        have a14 := and15_sub k 14 (by omega) (by omega) (by omega)
        rw [show (((14 : Nat) : Int)) = 14 by rfl, show 16 - 14 = 2 by rfl] at a14
        have e0 := hB.cell ((k) % 16) (by rw [buf1_length, wl]; omega)
        have m0 : (k) % 16 < 16 := by omega
        have e3 := hB.cell ((k + 13) % 16) (by rw [buf1_length, wl]; omega)
        have m3 : (k + 13) % 16 < 16 := by omega
        have e8 := hB.cell ((k + 8) % 16) (by rw [buf1_length, wl]; omega)
        have m8 : (k + 8) % 16 < 16 := by omega
        have e14 := hB.cell ((k + 2) % 16) (by rw [buf1_length, wl]; omega)
        have m14 : (k + 2) % 16 < 16 := by omega
        have hN : Hid (buf1 ws (k + 1) = (buf1 ws k).set (k % 16) (new1 (buf1 ws k) k)) := Lib.hid (by simp only [buf1]; rw [if_neg (by omega)])
        unfold new1 at hN
        obtain ⟨q0, hq0⟩ : ∃ q, (k) % 16 = q := ⟨_, rfl⟩
        rw [hq0] at a0 e0 m0 hN
        have l0 : (q0 : Int) < 16 := by omega
        obtain ⟨q3, hq3⟩ : ∃ q, (k + 13) % 16 = q := ⟨_, rfl⟩
        rw [hq3] at a3 e3 m3 hN
        have l3 : (q3 : Int) < 16 := by omega
        obtain ⟨q8, hq8⟩ : ∃ q, (k + 8) % 16 = q := ⟨_, rfl⟩
        rw [hq8] at a8 e8 m8 hN
        have l8 : (q8 : Int) < 16 := by omega
        obtain ⟨q14, hq14⟩ : ∃ q, (k + 2) % 16 = q := ⟨_, rfl⟩
        rw [hq14] at a14 e14 m14 hN
        have l14 : (q14 : Int) < 16 := by omega
        obtain ⟨y0, hy0⟩ : ∃ y, (buf1 ws k).getD q0 0 = y := ⟨_, rfl⟩
        rw [hy0] at e0 hN
        clear hy0
        obtain ⟨y3, hy3⟩ : ∃ y, (buf1 ws k).getD q3 0 = y := ⟨_, rfl⟩
        rw [hy3] at e3 hN
        clear hy3
        obtain ⟨y8, hy8⟩ : ∃ y, (buf1 ws k).getD q8 0 = y := ⟨_, rfl⟩
        rw [hy8] at e8 hN
        clear hy8
        obtain ⟨y14, hy14⟩ : ∃ y, (buf1 ws k).getD q14 0 = y := ⟨_, rfl⟩
        rw [hy14] at e14 hN
        clear hy14
        clear hq3 hq8 hq14
        have f0 := hB.frozen q0
        refine Rt.wp_region_text [0, 0, 0, 0, 0, 0, 1, 0, 0, 0, 0, 1, 0, 0, 0, 0, 0, 1, 0, 0, 0, 0, 1, 0, 1, 0, 2] (by kernel_rfl) (by kernel_rfl) ?_
        apply txt_move rfl rfl; (· (simp only [Act.put, Act.eval, List.setIfInBounds_toArray, List.set_cons_zero, List.set_cons_succ, Array.getD_eq_getD_getElem?, List.getElem?_toArray, List.getElem?_cons_zero, List.getElem?_cons_succ, Option.getD_some]; with_reducible rfl))
        apply txt_pure rfl rfl rfl; (· (intro w; go_simp; (try go_bits); with_reducible rfl)); (· (simp only [Act.put, Act.eval, List.setIfInBounds_toArray, List.set_cons_zero, List.set_cons_succ, Array.getD_eq_getD_getElem?, List.getElem?_toArray, List.getElem?_cons_zero, List.getElem?_cons_succ, Option.getD_some]; with_reducible rfl))
        apply txt_move rfl rfl; (· (simp only [Act.put, Act.eval, List.setIfInBounds_toArray, List.set_cons_zero, List.set_cons_succ, Array.getD_eq_getD_getElem?, List.getElem?_toArray, List.getElem?_cons_zero, List.getElem?_cons_succ, Option.getD_some]; with_reducible rfl))
        apply txt_pure rfl rfl rfl; (· (intro w; go_simp; (try go_bits); with_reducible rfl)); (· (simp only [Act.put, Act.eval, List.setIfInBounds_toArray, List.set_cons_zero, List.set_cons_succ, Array.getD_eq_getD_getElem?, List.getElem?_toArray, List.getElem?_cons_zero, List.getElem?_cons_succ, Option.getD_some]; with_reducible rfl))
        apply txt_pure rfl rfl rfl; (· (intro w; go_simp; (try go_bits); with_reducible rfl)); (· (simp only [Act.put, Act.eval, List.setIfInBounds_toArray, List.set_cons_zero, List.set_cons_succ, Array.getD_eq_getD_getElem?, List.getElem?_toArray, List.getElem?_cons_zero, List.getElem?_cons_succ, Option.getD_some]; with_reducible rfl))
        apply txt_pure rfl rfl rfl; (· (intro w; go_simp; (try go_bits); with_reducible rfl)); (· (simp only [Act.put, Act.eval, List.setIfInBounds_toArray, List.set_cons_zero, List.set_cons_succ, Array.getD_eq_getD_getElem?, List.getElem?_toArray, List.getElem?_cons_zero, List.getElem?_cons_succ, Option.getD_some]; with_reducible rfl))
        apply txt_read rfl rfl rfl; (· (go_simp; with_reducible rfl)); (· (simp only [Act.put, Act.eval, List.setIfInBounds_toArray, List.set_cons_zero, List.set_cons_succ, Array.getD_eq_getD_getElem?, List.getElem?_toArray, List.getElem?_cons_zero, List.getElem?_cons_succ, Option.getD_some]; with_reducible rfl))
        apply txt_move rfl rfl; (· (simp only [Act.put, Act.eval, List.setIfInBounds_toArray, List.set_cons_zero, List.set_cons_succ, Array.getD_eq_getD_getElem?, List.getElem?_toArray, List.getElem?_cons_zero, List.getElem?_cons_succ, Option.getD_some]; with_reducible rfl))
        apply txt_pure rfl rfl rfl; (· (intro w; go_simp; (try go_bits); with_reducible rfl)); (· (simp only [Act.put, Act.eval, List.setIfInBounds_toArray, List.set_cons_zero, List.set_cons_succ, Array.getD_eq_getD_getElem?, List.getElem?_toArray, List.getElem?_cons_zero, List.getElem?_cons_succ, Option.getD_some]; with_reducible rfl))
        apply txt_pure rfl rfl rfl; (· (intro w; go_simp; (try go_bits); with_reducible rfl)); (· (simp only [Act.put, Act.eval, List.setIfInBounds_toArray, List.set_cons_zero, List.set_cons_succ, Array.getD_eq_getD_getElem?, List.getElem?_toArray, List.getElem?_cons_zero, List.getElem?_cons_succ, Option.getD_some]; with_reducible rfl))
        apply txt_pure rfl rfl rfl; (· (intro w; go_simp; (try go_bits); with_reducible rfl)); (· (simp only [Act.put, Act.eval, List.setIfInBounds_toArray, List.set_cons_zero, List.set_cons_succ, Array.getD_eq_getD_getElem?, List.getElem?_toArray, List.getElem?_cons_zero, List.getElem?_cons_succ, Option.getD_some]; with_reducible rfl))
        apply txt_read rfl rfl rfl; (· (go_simp; with_reducible rfl)); (· (simp only [Act.put, Act.eval, List.setIfInBounds_toArray, List.set_cons_zero, List.set_cons_succ, Array.getD_eq_getD_getElem?, List.getElem?_toArray, List.getElem?_cons_zero, List.getElem?_cons_succ, Option.getD_some]; with_reducible rfl))
        apply txt_pure rfl rfl rfl; (· (intro w; go_simp; (try go_bits); with_reducible rfl)); (· (simp only [Act.put, Act.eval, List.setIfInBounds_toArray, List.set_cons_zero, List.set_cons_succ, Array.getD_eq_getD_getElem?, List.getElem?_toArray, List.getElem?_cons_zero, List.getElem?_cons_succ, Option.getD_some]; with_reducible rfl))
        apply txt_move rfl rfl; (· (simp only [Act.put, Act.eval, List.setIfInBounds_toArray, List.set_cons_zero, List.set_cons_succ, Array.getD_eq_getD_getElem?, List.getElem?_toArray, List.getElem?_cons_zero, List.getElem?_cons_succ, Option.getD_some]; with_reducible rfl))
        apply txt_pure rfl rfl rfl; (· (intro w; go_simp; (try go_bits); with_reducible rfl)); (· (simp only [Act.put, Act.eval, List.setIfInBounds_toArray, List.set_cons_zero, List.set_cons_succ, Array.getD_eq_getD_getElem?, List.getElem?_toArray, List.getElem?_cons_zero, List.getElem?_cons_succ, Option.getD_some]; with_reducible rfl))
        apply txt_pure rfl rfl rfl; (· (intro w; go_simp; (try go_bits); with_reducible rfl)); (· (simp only [Act.put, Act.eval, List.setIfInBounds_toArray, List.set_cons_zero, List.set_cons_succ, Array.getD_eq_getD_getElem?, List.getElem?_toArray, List.getElem?_cons_zero, List.getElem?_cons_succ, Option.getD_some]; with_reducible rfl))
        apply txt_pure rfl rfl rfl; (· (intro w; go_simp; (try go_bits); with_reducible rfl)); (· (simp only [Act.put, Act.eval, List.setIfInBounds_toArray, List.set_cons_zero, List.set_cons_succ, Array.getD_eq_getD_getElem?, List.getElem?_toArray, List.getElem?_cons_zero, List.getElem?_cons_succ, Option.getD_some]; with_reducible rfl))
        apply txt_read rfl rfl rfl; (· (go_simp; with_reducible rfl)); (· (simp only [Act.put, Act.eval, List.setIfInBounds_toArray, List.set_cons_zero, List.set_cons_succ, Array.getD_eq_getD_getElem?, List.getElem?_toArray, List.getElem?_cons_zero, List.getElem?_cons_succ, Option.getD_some]; with_reducible rfl))
        apply txt_pure rfl rfl rfl; (· (intro w; go_simp; (try go_bits); with_reducible rfl)); (· (simp only [Act.put, Act.eval, List.setIfInBounds_toArray, List.set_cons_zero, List.set_cons_succ, Array.getD_eq_getD_getElem?, List.getElem?_toArray, List.getElem?_cons_zero, List.getElem?_cons_succ, Option.getD_some]; with_reducible rfl))
        apply txt_move rfl rfl; (· (simp only [Act.put, Act.eval, List.setIfInBounds_toArray, List.set_cons_zero, List.set_cons_succ, Array.getD_eq_getD_getElem?, List.getElem?_toArray, List.getElem?_cons_zero, List.getElem?_cons_succ, Option.getD_some]; with_reducible rfl))
        apply txt_pure rfl rfl rfl; (· (intro w; go_simp; (try go_bits); with_reducible rfl)); (· (simp only [Act.put, Act.eval, List.setIfInBounds_toArray, List.set_cons_zero, List.set_cons_succ, Array.getD_eq_getD_getElem?, List.getElem?_toArray, List.getElem?_cons_zero, List.getElem?_cons_succ, Option.getD_some]; with_reducible rfl))
        apply txt_pure rfl rfl rfl; (· (intro w; go_simp; (try go_bits); with_reducible rfl)); (· (simp only [Act.put, Act.eval, List.setIfInBounds_toArray, List.set_cons_zero, List.set_cons_succ, Array.getD_eq_getD_getElem?, List.getElem?_toArray, List.getElem?_cons_zero, List.getElem?_cons_succ, Option.getD_some]; with_reducible rfl))
        apply txt_read rfl rfl rfl; (· (go_simp; with_reducible rfl)); (· (simp only [Act.put, Act.eval, List.setIfInBounds_toArray, List.set_cons_zero, List.set_cons_succ, Array.getD_eq_getD_getElem?, List.getElem?_toArray, List.getElem?_cons_zero, List.getElem?_cons_succ, Option.getD_some]; with_reducible rfl))
        apply txt_pure rfl rfl rfl; (· (intro w; go_simp; (try go_bits); with_reducible rfl)); (· (simp only [Act.put, Act.eval, List.setIfInBounds_toArray, List.set_cons_zero, List.set_cons_succ, Array.getD_eq_getD_getElem?, List.getElem?_toArray, List.getElem?_cons_zero, List.getElem?_cons_succ, Option.getD_some]; with_reducible rfl))
        (apply txt_quiet rfl rfl rfl; (· (go_simp; exact ⟨rfl, rfl⟩)); (· (exact Rot_1 _ _)); (· (simp only [Act.put, Act.eval, List.setIfInBounds_toArray, List.set_cons_zero, List.set_cons_succ, Array.getD_eq_getD_getElem?, List.getElem?_toArray, List.getElem?_cons_zero, List.getElem?_cons_succ, Option.getD_some]; with_reducible rfl)))
        apply txt_pure rfl rfl rfl; (· (intro w; go_simp; (try go_bits); with_reducible rfl)); (· (simp only [Act.put, Act.eval, List.setIfInBounds_toArray, List.set_cons_zero, List.set_cons_succ, Array.getD_eq_getD_getElem?, List.getElem?_toArray, List.getElem?_cons_zero, List.getElem?_cons_succ, Option.getD_some]; with_reducible rfl))
        apply txt_do rfl rfl rfl; (· (go_simp; with_reducible rfl)); (· (simp only [Act.put, Act.eval, List.setIfInBounds_toArray, List.set_cons_zero, List.set_cons_succ, Array.getD_eq_getD_getElem?, List.getElem?_toArray, List.getElem?_cons_zero, List.getElem?_cons_succ, Option.getD_some]; with_reducible rfl))
        with_reducible refine txt_nil ?_
        go_wp2
        have hB0 := (hB.set q0 (by rw [buf1_length, wl]; omega) (rotl (y3 ^^^ y8 ^^^ y14 ^^^ y0) 1)).drew
        rw [← hN.out] at hB0
        have hV0 := (hV.other (p := ⟨w.heap.size, q0, none⟩) (by simp) (.int .u32 (u (rotl (y3 ^^^ y8 ^^^ y14 ^^^ y0) 1)))).drew
        have hb0 := (hb.setCell (p := ⟨w.heap.size, q0, none⟩) (by simp) (.int .u32 (u (rotl (y3 ^^^ y8 ^^^ y14 ^^^ y0) 1)))).drew
        obtain ⟨w2, hw2⟩ : ∃ x, x = (wr.setCell ⟨w.heap.size, q0, none⟩ (.int .u32 (u (rotl (y3 ^^^ y8 ^^^ y14 ^^^ y0) 1)))).drew := ⟨_, rfl⟩
        rw [← hw2] at hB0 hV0 hb0 ⊢
        clear hw2 hB hV hb hbs e0 e3 e8 e14 a0 a3 a8 a14 m0 m3 m8 m14 l0 l3 l8 l14 f0 hN hq0
        have hbs := hb0.size
        have d1 := hV0.cell 1 (by simp [S5.l])
        have d2 := hV0.cell 2 (by simp [S5.l])
        have d3 := hV0.cell 3 (by simp [S5.l])
        simp only [S5.l, List.getD_cons_zero, List.getD_cons_succ] at d1 d2 d3
        refine Rt.wp_region_text [0, 1, 0, 1, 0, 1, 0, 0, 0] (by kernel_rfl) (by kernel_rfl) ?_
        apply txt_pure rfl rfl rfl; (· (intro w; go_simp; (try go_bits); with_reducible rfl)); (· (simp only [Act.put, Act.eval, List.setIfInBounds_toArray, List.set_cons_zero, List.set_cons_succ, Array.getD_eq_getD_getElem?, List.getElem?_toArray, List.getElem?_cons_zero, List.getElem?_cons_succ, Option.getD_some]; with_reducible rfl))
        apply txt_read rfl rfl rfl; (· (go_simp; with_reducible rfl)); (· (simp only [Act.put, Act.eval, List.setIfInBounds_toArray, List.set_cons_zero, List.set_cons_succ, Array.getD_eq_getD_getElem?, List.getElem?_toArray, List.getElem?_cons_zero, List.getElem?_cons_succ, Option.getD_some]; with_reducible rfl))
        apply txt_pure rfl rfl rfl; (· (intro w; go_simp; (try go_bits); with_reducible rfl)); (· (simp only [Act.put, Act.eval, List.setIfInBounds_toArray, List.set_cons_zero, List.set_cons_succ, Array.getD_eq_getD_getElem?, List.getElem?_toArray, List.getElem?_cons_zero, List.getElem?_cons_succ, Option.getD_some]; with_reducible rfl))
        apply txt_read rfl rfl rfl; (· (go_simp; with_reducible rfl)); (· (simp only [Act.put, Act.eval, List.setIfInBounds_toArray, List.set_cons_zero, List.set_cons_succ, Array.getD_eq_getD_getElem?, List.getElem?_toArray, List.getElem?_cons_zero, List.getElem?_cons_succ, Option.getD_some]; with_reducible rfl))
        apply txt_pure rfl rfl rfl; (· (intro w; go_simp; (try go_bits); with_reducible rfl)); (· (simp only [Act.put, Act.eval, List.setIfInBounds_toArray, List.set_cons_zero, List.set_cons_succ, Array.getD_eq_getD_getElem?, List.getElem?_toArray, List.getElem?_cons_zero, List.getElem?_cons_succ, Option.getD_some]; with_reducible rfl))
        apply txt_read rfl rfl rfl; (· (go_simp; with_reducible rfl)); (· (simp only [Act.put, Act.eval, List.setIfInBounds_toArray, List.set_cons_zero, List.set_cons_succ, Array.getD_eq_getD_getElem?, List.getElem?_toArray, List.getElem?_cons_zero, List.getElem?_cons_succ, Option.getD_some]; with_reducible rfl))
        apply txt_assign rfl rfl; (· (simp only [Act.put, Act.eval, List.setIfInBounds_toArray, List.set_cons_zero, List.set_cons_succ, Array.getD_eq_getD_getElem?, List.getElem?_toArray, List.getElem?_cons_zero, List.getElem?_cons_succ, Option.getD_some]; with_reducible rfl))
        apply txt_assign rfl rfl; (· (simp only [Act.put, Act.eval, List.setIfInBounds_toArray, List.set_cons_zero, List.set_cons_succ, Array.getD_eq_getD_getElem?, List.getElem?_toArray, List.getElem?_cons_zero, List.getElem?_cons_succ, Option.getD_some]; with_reducible rfl))
        apply txt_assign rfl rfl; (· (simp only [Act.put, Act.eval, List.setIfInBounds_toArray, List.set_cons_zero, List.set_cons_succ, Array.getD_eq_getD_getElem?, List.getElem?_toArray, List.getElem?_cons_zero, List.getElem?_cons_succ, Option.getD_some]; with_reducible rfl))
        with_reducible refine txt_nil ?_
        go_wp2
        have hB1 := hB0.drew
        have hV1 := hV0.drew
        have hb1 := hb0.drew
        obtain ⟨w1, hw1⟩ : ∃ x, x = w2.drew := ⟨_, rfl⟩
        rw [← hw1] at hB1 hV1 hb1 ⊢
        clear hw1 d1 d2 d3 hB0 hV0 hb0 hbs
        have hbs := hb1.size
        have d0 := hV1.cell 0 (by simp [S5.l])
        have d4 := hV1.cell 4 (by simp [S5.l])
        simp only [S5.l, List.getD_cons_zero, List.getD_cons_succ] at d0 d4
        have a0 := and15_i64 k (by omega)
        have m0 : k % 16 < 16 := by omega
        have e0 := hB1.cell (k % 16) (by rw [buf1_length, wl]; omega)
        obtain ⟨q0, hq0⟩ : ∃ q, k % 16 = q := ⟨_, rfl⟩
        rw [hq0] at a0 m0 e0
        have l0 : (q0 : Int) < 16 := by omega
        obtain ⟨y0, hy0⟩ : ∃ y, (buf1 ws (k + 1)).getD q0 0 = y := ⟨_, rfl⟩
        rw [hy0] at e0
        have hS : Hid (st1 h ws (k + 1) = rd1 (st1 h ws k) y0 k) := Lib.hid (by rw [← hy0, ← hq0]; rfl)
        clear hy0 hq0
        refine Rt.wp_region_text [0, 1, 1, 0, 0, 0, 1, 0, 0, 0, 0, 1, 0, 0] (by kernel_rfl) (by kernel_rfl) ?_
        apply txt_pure rfl rfl rfl; (· (intro w; go_simp; (try go_bits); with_reducible rfl)); (· (simp only [Act.put, Act.eval, List.setIfInBounds_toArray, List.set_cons_zero, List.set_cons_succ, Array.getD_eq_getD_getElem?, List.getElem?_toArray, List.getElem?_cons_zero, List.getElem?_cons_succ, Option.getD_some]; with_reducible rfl))
        apply txt_read rfl rfl rfl; (· (go_simp; with_reducible rfl)); (· (simp only [Act.put, Act.eval, List.setIfInBounds_toArray, List.set_cons_zero, List.set_cons_succ, Array.getD_eq_getD_getElem?, List.getElem?_toArray, List.getElem?_cons_zero, List.getElem?_cons_succ, Option.getD_some]; with_reducible rfl))
        (apply txt_quiet rfl rfl rfl; (· (go_simp; exact ⟨rfl, rfl⟩)); (· (exact Rot_5 _ _)); (· (simp only [Act.put, Act.eval, List.setIfInBounds_toArray, List.set_cons_zero, List.set_cons_succ, Array.getD_eq_getD_getElem?, List.getElem?_toArray, List.getElem?_cons_zero, List.getElem?_cons_succ, Option.getD_some]; with_reducible rfl)))
        apply txt_move rfl rfl; (· (simp only [Act.put, Act.eval, List.setIfInBounds_toArray, List.set_cons_zero, List.set_cons_succ, Array.getD_eq_getD_getElem?, List.getElem?_toArray, List.getElem?_cons_zero, List.getElem?_cons_succ, Option.getD_some]; with_reducible rfl))
        apply txt_pure rfl rfl rfl; (· (intro w; go_simp; (try go_bits); with_reducible rfl)); (· (simp only [Act.put, Act.eval, List.setIfInBounds_toArray, List.set_cons_zero, List.set_cons_succ, Array.getD_eq_getD_getElem?, List.getElem?_toArray, List.getElem?_cons_zero, List.getElem?_cons_succ, Option.getD_some]; with_reducible rfl))
        apply txt_pure rfl rfl rfl; (· (intro w; go_simp; (try go_bits); with_reducible rfl)); (· (simp only [Act.put, Act.eval, List.setIfInBounds_toArray, List.set_cons_zero, List.set_cons_succ, Array.getD_eq_getD_getElem?, List.getElem?_toArray, List.getElem?_cons_zero, List.getElem?_cons_succ, Option.getD_some]; with_reducible rfl))
        apply txt_read rfl rfl rfl; (· (go_simp; with_reducible rfl)); (· (simp only [Act.put, Act.eval, List.setIfInBounds_toArray, List.set_cons_zero, List.set_cons_succ, Array.getD_eq_getD_getElem?, List.getElem?_toArray, List.getElem?_cons_zero, List.getElem?_cons_succ, Option.getD_some]; with_reducible rfl))
        apply txt_pure rfl rfl rfl; (· (intro w; go_simp; (try go_bits); with_reducible rfl)); (· (simp only [Act.put, Act.eval, List.setIfInBounds_toArray, List.set_cons_zero, List.set_cons_succ, Array.getD_eq_getD_getElem?, List.getElem?_toArray, List.getElem?_cons_zero, List.getElem?_cons_succ, Option.getD_some]; with_reducible rfl))
        apply txt_move rfl rfl; (· (simp only [Act.put, Act.eval, List.setIfInBounds_toArray, List.set_cons_zero, List.set_cons_succ, Array.getD_eq_getD_getElem?, List.getElem?_toArray, List.getElem?_cons_zero, List.getElem?_cons_succ, Option.getD_some]; with_reducible rfl))
        apply txt_pure rfl rfl rfl; (· (intro w; go_simp; (try go_bits); with_reducible rfl)); (· (simp only [Act.put, Act.eval, List.setIfInBounds_toArray, List.set_cons_zero, List.set_cons_succ, Array.getD_eq_getD_getElem?, List.getElem?_toArray, List.getElem?_cons_zero, List.getElem?_cons_succ, Option.getD_some]; with_reducible rfl))
        apply txt_pure rfl rfl rfl; (· (intro w; go_simp; (try go_bits); with_reducible rfl)); (· (simp only [Act.put, Act.eval, List.setIfInBounds_toArray, List.set_cons_zero, List.set_cons_succ, Array.getD_eq_getD_getElem?, List.getElem?_toArray, List.getElem?_cons_zero, List.getElem?_cons_succ, Option.getD_some]; with_reducible rfl))
        apply txt_read rfl rfl rfl; (· (go_simp; with_reducible rfl)); (· (simp only [Act.put, Act.eval, List.setIfInBounds_toArray, List.set_cons_zero, List.set_cons_succ, Array.getD_eq_getD_getElem?, List.getElem?_toArray, List.getElem?_cons_zero, List.getElem?_cons_succ, Option.getD_some]; with_reducible rfl))
        apply txt_pure rfl rfl rfl; (· (intro w; go_simp; (try go_bits); with_reducible rfl)); (· (simp only [Act.put, Act.eval, List.setIfInBounds_toArray, List.set_cons_zero, List.set_cons_succ, Array.getD_eq_getD_getElem?, List.getElem?_toArray, List.getElem?_cons_zero, List.getElem?_cons_succ, Option.getD_some]; with_reducible rfl))
        apply txt_assign rfl rfl; (· (simp only [Act.put, Act.eval, List.setIfInBounds_toArray, List.set_cons_zero, List.set_cons_succ, Array.getD_eq_getD_getElem?, List.getElem?_toArray, List.getElem?_cons_zero, List.getElem?_cons_succ, Option.getD_some]; with_reducible rfl))
        with_reducible refine txt_nil ?_
        go_wp2
        refine Rt.wp_region_text [0, 0, 1, 0, 1, 0, 0, 0, 2] (by kernel_rfl) (by kernel_rfl) ?_
        apply txt_move rfl rfl; (· (simp only [Act.put, Act.eval, List.setIfInBounds_toArray, List.set_cons_zero, List.set_cons_succ, Array.getD_eq_getD_getElem?, List.getElem?_toArray, List.getElem?_cons_zero, List.getElem?_cons_succ, Option.getD_some]; with_reducible rfl))
        apply txt_pure rfl rfl rfl; (· (intro w; go_simp; (try go_bits); with_reducible rfl)); (· (simp only [Act.put, Act.eval, List.setIfInBounds_toArray, List.set_cons_zero, List.set_cons_succ, Array.getD_eq_getD_getElem?, List.getElem?_toArray, List.getElem?_cons_zero, List.getElem?_cons_succ, Option.getD_some]; with_reducible rfl))
        apply txt_read rfl rfl rfl; (· (go_simp; with_reducible rfl)); (· (simp only [Act.put, Act.eval, List.setIfInBounds_toArray, List.set_cons_zero, List.set_cons_succ, Array.getD_eq_getD_getElem?, List.getElem?_toArray, List.getElem?_cons_zero, List.getElem?_cons_succ, Option.getD_some]; with_reducible rfl))
        apply txt_move rfl rfl; (· (simp only [Act.put, Act.eval, List.setIfInBounds_toArray, List.set_cons_zero, List.set_cons_succ, Array.getD_eq_getD_getElem?, List.getElem?_toArray, List.getElem?_cons_zero, List.getElem?_cons_succ, Option.getD_some]; with_reducible rfl))
        (apply txt_quiet rfl rfl rfl; (· (go_simp; exact ⟨rfl, rfl⟩)); (· (exact Rot_30 _ _)); (· (simp only [Act.put, Act.eval, List.setIfInBounds_toArray, List.set_cons_zero, List.set_cons_succ, Array.getD_eq_getD_getElem?, List.getElem?_toArray, List.getElem?_cons_zero, List.getElem?_cons_succ, Option.getD_some]; with_reducible rfl)))
        apply txt_move rfl rfl; (· (simp only [Act.put, Act.eval, List.setIfInBounds_toArray, List.set_cons_zero, List.set_cons_succ, Array.getD_eq_getD_getElem?, List.getElem?_toArray, List.getElem?_cons_zero, List.getElem?_cons_succ, Option.getD_some]; with_reducible rfl))
        apply txt_move rfl rfl; (· (simp only [Act.put, Act.eval, List.setIfInBounds_toArray, List.set_cons_zero, List.set_cons_succ, Array.getD_eq_getD_getElem?, List.getElem?_toArray, List.getElem?_cons_zero, List.getElem?_cons_succ, Option.getD_some]; with_reducible rfl))
        apply txt_pure rfl rfl rfl; (· (intro w; go_simp; (try go_bits); with_reducible rfl)); (· (simp only [Act.put, Act.eval, List.setIfInBounds_toArray, List.set_cons_zero, List.set_cons_succ, Array.getD_eq_getD_getElem?, List.getElem?_toArray, List.getElem?_cons_zero, List.getElem?_cons_succ, Option.getD_some]; with_reducible rfl))
        refine txt_act rfl rfl rfl fun K hK => wp_store_row 33 (.tmp 3) (.tmp 113) rfl (w.heap.size + 1) _ rfl rfl 33 _ hV1.drew.drew (by kernel_rfl) (by simp [S5.l]) (by simp [Value.oneCell']) (hK _ _ ?_)
        clear K hK
        with_reducible refine txt_nil ?_
        go_wp2
        go_roundw
        case rel =>
          refine ⟨k + 1, by go_num, by omega, ?_, ?_, ?_⟩
          · exact row32_other hB1.drew.drew (by omega) [_, _, _, _, _]
          · rw [hS.out]; simp only [rd1, fn1]; rw [if_neg (by omega), if_pos (by omega)]; exact row32_own hV1.drew.drew [_, _, _, _, _]
          · exact row32_below hb1.drew.drew (by omega) [_, _, _, _, _]
        case measure => simp [intOf]; omega
      by_cases hc60 : k < 60
      · skip
        have e16 : ¬ (k : Int) < 16 := by omega
        have e16b : decide (16 ≤ (k : Int)) = true := by simp; omega
        have e20 : (k : Int) / 20 = 2 := by omega
        have eq2 : k / 20 = 2 := by omega
        go_wp2
        have a0 := and15_i64 k (by omega)
        have a3 := and15_sub k 3 (by omega) (by omega) (by omega)
        rw [show (((3 : Nat) : Int)) = 3 by rfl, show 16 - 3 = 13 by rfl] at a3
        have a8 := and15_sub k 8 (by omega) (by omega) (by omega)
        rw [show (((8 : Nat) : Int)) = 8 by rfl, show 16 - 8 = 8 by rfl] at a8
        have a14 := and15_sub k 14 (by omega) (by omega) (by omega)
        rw [show (((14 : Nat) : Int)) = 14 by rfl, show 16 - 14 = 2 by rfl] at a14
        have e0 := hB.cell ((k) % 16) (by rw [buf1_length, wl]; omega)
        have m0 : (k) % 16 < 16 := by omega
        have e3 := hB.cell ((k + 13) % 16) (by rw [buf1_length, wl]; omega)
        have m3 : (k + 13) % 16 < 16 := by omega
        have e8 := hB.cell ((k + 8) % 16) (by rw [buf1_length, wl]; omega)
        have m8 : (k + 8) % 16 < 16 := by omega
        have e14 := hB.cell ((k + 2) % 16) (by rw [buf1_length, wl]; omega)
        have m14 : (k + 2) % 16 < 16 := by omega
        have hN : Hid (buf1 ws (k + 1) = (buf1 ws k).set (k % 16) (new1 (buf1 ws k) k)) := Lib.hid (by simp only [buf1]; rw [if_neg (by omega)])
        unfold new1 at hN
        obtain ⟨q0, hq0⟩ : ∃ q, (k) % 16 = q := ⟨_, rfl⟩
        rw [hq0] at a0 e0 m0 hN
        have l0 : (q0 : Int) < 16 := by omega
        obtain ⟨q3, hq3⟩ : ∃ q, (k + 13) % 16 = q := ⟨_, rfl⟩
        rw [hq3] at a3 e3 m3 hN
        have l3 : (q3 : Int) < 16 := by omega
        obtain ⟨q8, hq8⟩ : ∃ q, (k + 8) % 16 = q := ⟨_, rfl⟩
        rw [hq8] at a8 e8 m8 hN
        have l8 : (q8 : Int) < 16 := by omega
        obtain ⟨q14, hq14⟩ : ∃ q, (k + 2) % 16 = q := ⟨_, rfl⟩
        rw [hq14] at a14 e14 m14 hN
        have l14 : (q14 : Int) < 16 := by omega
        obtain ⟨y0, hy0⟩ : ∃ y, (buf1 ws k).getD q0 0 = y := ⟨_, rfl⟩
        rw [hy0] at e0 hN
        clear hy0
        obtain ⟨y3, hy3⟩ : ∃ y, (buf1 ws k).getD q3 0 = y := ⟨_, rfl⟩
        rw [hy3] at e3 hN
        clear hy3
        obtain ⟨y8, hy8⟩ : ∃ y, (buf1 ws k).getD q8 0 = y := ⟨_, rfl⟩
        rw [hy8] at e8 hN
        clear hy8
        obtain ⟨y14, hy14⟩ : ∃ y, (buf1 ws k).getD q14 0 = y := ⟨_, rfl⟩
        rw [hy14] at e14 hN
        clear hy14
        clear hq3 hq8 hq14
        have f0 := hB.frozen q0
        refine Rt.wp_region_text [0, 0, 0, 0, 0, 0, 1, 0, 0, 0, 0, 1, 0, 0, 0, 0, 0, 1, 0, 0, 0, 0, 1, 0, 1, 0, 2] (by kernel_rfl) (by kernel_rfl) ?_
        apply txt_move rfl rfl; (· (simp only [Act.put, Act.eval, List.setIfInBounds_toArray, List.set_cons_zero, List.set_cons_succ, Array.getD_eq_getD_getElem?, List.getElem?_toArray, List.getElem?_cons_zero, List.getElem?_cons_succ, Option.getD_some]; with_reducible rfl))
        apply txt_pure rfl rfl rfl; (· (intro w; go_simp; (try go_bits); with_reducible rfl)); (· (simp only [Act.put, Act.eval, List.setIfInBounds_toArray, List.set_cons_zero, List.set_cons_succ, Array.getD_eq_getD_getElem?, List.getElem?_toArray, List.getElem?_cons_zero, List.getElem?_cons_succ, Option.getD_some]; with_reducible rfl))
        apply txt_move rfl rfl; (· (simp only [Act.put, Act.eval, List.setIfInBounds_toArray, List.set_cons_zero, List.set_cons_succ, Array.getD_eq_getD_getElem?, List.getElem?_toArray, List.getElem?_cons_zero, List.getElem?_cons_succ, Option.getD_some]; with_reducible rfl))
        apply txt_pure rfl rfl rfl; (· (intro w; go_simp; (try go_bits); with_reducible rfl)); (· (simp only [Act.put, Act.eval, List.setIfInBounds_toArray, List.set_cons_zero, List.set_cons_succ, Array.getD_eq_getD_getElem?, List.getElem?_toArray, List.getElem?_cons_zero, List.getElem?_cons_succ, Option.getD_some]; with_reducible rfl))
        apply txt_pure rfl rfl rfl; (· (intro w; go_simp; (try go_bits); with_reducible rfl)); (· (simp only [Act.put, Act.eval, List.setIfInBounds_toArray, List.set_cons_zero, List.set_cons_succ, Array.getD_eq_getD_getElem?, List.getElem?_toArray, List.getElem?_cons_zero, List.getElem?_cons_succ, Option.getD_some]; with_reducible rfl))
        apply txt_pure rfl rfl rfl; (· (intro w; go_simp; (try go_bits); with_reducible rfl)); (· (simp only [Act.put, Act.eval, List.setIfInBounds_toArray, List.set_cons_zero, List.set_cons_succ, Array.getD_eq_getD_getElem?, List.getElem?_toArray, List.getElem?_cons_zero, List.getElem?_cons_succ, Option.getD_some]; with_reducible rfl))
        apply txt_read rfl rfl rfl; (· (go_simp; with_reducible rfl)); (· (simp only [Act.put, Act.eval, List.setIfInBounds_toArray, List.set_cons_zero, List.set_cons_succ, Array.getD_eq_getD_getElem?, List.getElem?_toArray, List.getElem?_cons_zero, List.getElem?_cons_succ, Option.getD_some]; with_reducible rfl))
        apply txt_move rfl rfl; (· (simp only [Act.put, Act.eval, List.setIfInBounds_toArray, List.set_cons_zero, List.set_cons_succ, Array.getD_eq_getD_getElem?, List.getElem?_toArray, List.getElem?_cons_zero, List.getElem?_cons_succ, Option.getD_some]; with_reducible rfl))
        apply txt_pure rfl rfl rfl; (· (intro w; go_simp; (try go_bits); with_reducible rfl)); (· (simp only [Act.put, Act.eval, List.setIfInBounds_toArray, List.set_cons_zero, List.set_cons_succ, Array.getD_eq_getD_getElem?, List.getElem?_toArray, List.getElem?_cons_zero, List.getElem?_cons_succ, Option.getD_some]; with_reducible rfl))
        apply txt_pure rfl rfl rfl; (· (intro w; go_simp; (try go_bits); with_reducible rfl)); (· (simp only [Act.put, Act.eval, List.setIfInBounds_toArray, List.set_cons_zero, List.set_cons_succ, Array.getD_eq_getD_getElem?, List.getElem?_toArray, List.getElem?_cons_zero, List.getElem?_cons_succ, Option.getD_some]; with_reducible rfl))
        apply txt_pure rfl rfl rfl; (· (intro w; go_simp; (try go_bits); with_reducible rfl)); (· (simp only [Act.put, Act.eval, List.setIfInBounds_toArray, List.set_cons_zero, List.set_cons_succ, Array.getD_eq_getD_getElem?, List.getElem?_toArray, List.getElem?_cons_zero, List.getElem?_cons_succ, Option.getD_some]; with_reducible rfl))
        apply txt_read rfl rfl rfl; (· (go_simp; with_reducible rfl)); (· (simp only [Act.put, Act.eval, List.setIfInBounds_toArray, List.set_cons_zero, List.set_cons_succ, Array.getD_eq_getD_getElem?, List.getElem?_toArray, List.getElem?_cons_zero, List.getElem?_cons_succ, Option.getD_some]; with_reducible rfl))
        apply txt_pure rfl rfl rfl; (· (intro w; go_simp; (try go_bits); with_reducible rfl)); (· (simp only [Act.put, Act.eval, List.setIfInBounds_toArray, List.set_cons_zero, List.set_cons_succ, Array.getD_eq_getD_getElem?, List.getElem?_toArray, List.getElem?_cons_zero, List.getElem?_cons_succ, Option.getD_some]; with_reducible rfl))
        apply txt_move rfl rfl; (· (simp only [Act.put, Act.eval, List.setIfInBounds_toArray, List.set_cons_zero, List.set_cons_succ, Array.getD_eq_getD_getElem?, List.getElem?_toArray, List.getElem?_cons_zero, List.getElem?_cons_succ, Option.getD_some]; with_reducible rfl))
        apply txt_pure rfl rfl rfl; (· (intro w; go_simp; (try go_bits); with_reducible rfl)); (· (simp only [Act.put, Act.eval, List.setIfInBounds_toArray, List.set_cons_zero, List.set_cons_succ, Array.getD_eq_getD_getElem?, List.getElem?_toArray, List.getElem?_cons_zero, List.getElem?_cons_succ, Option.getD_some]; with_reducible rfl))
        apply txt_pure rfl rfl rfl; (· (intro w; go_simp; (try go_bits); with_reducible rfl)); (· (simp only [Act.put, Act.eval, List.setIfInBounds_toArray, List.set_cons_zero, List.set_cons_succ, Array.getD_eq_getD_getElem?, List.getElem?_toArray, List.getElem?_cons_zero, List.getElem?_cons_succ, Option.getD_some]; with_reducible rfl))
        apply txt_pure rfl rfl rfl; (· (intro w; go_simp; (try go_bits); with_reducible rfl)); (· (simp only [Act.put, Act.eval, List.setIfInBounds_toArray, List.set_cons_zero, List.set_cons_succ, Array.getD_eq_getD_getElem?, List.getElem?_toArray, List.getElem?_cons_zero, List.getElem?_cons_succ, Option.getD_some]; with_reducible rfl))
        apply txt_read rfl rfl rfl; (· (go_simp; with_reducible rfl)); (· (simp only [Act.put, Act.eval, List.setIfInBounds_toArray, List.set_cons_zero, List.set_cons_succ, Array.getD_eq_getD_getElem?, List.getElem?_toArray, List.getElem?_cons_zero, List.getElem?_cons_succ, Option.getD_some]; with_reducible rfl))
        apply txt_pure rfl rfl rfl; (· (intro w; go_simp; (try go_bits); with_reducible rfl)); (· (simp only [Act.put, Act.eval, List.setIfInBounds_toArray, List.set_cons_zero, List.set_cons_succ, Array.getD_eq_getD_getElem?, List.getElem?_toArray, List.getElem?_cons_zero, List.getElem?_cons_succ, Option.getD_some]; with_reducible rfl))
        apply txt_move rfl rfl; (· (simp only [Act.put, Act.eval, List.setIfInBounds_toArray, List.set_cons_zero, List.set_cons_succ, Array.getD_eq_getD_getElem?, List.getElem?_toArray, List.getElem?_cons_zero, List.getElem?_cons_succ, Option.getD_some]; with_reducible rfl))
        apply txt_pure rfl rfl rfl; (· (intro w; go_simp; (try go_bits); with_reducible rfl)); (· (simp only [Act.put, Act.eval, List.setIfInBounds_toArray, List.set_cons_zero, List.set_cons_succ, Array.getD_eq_getD_getElem?, List.getElem?_toArray, List.getElem?_cons_zero, List.getElem?_cons_succ, Option.getD_some]; with_reducible rfl))
        apply txt_pure rfl rfl rfl; (· (intro w; go_simp; (try go_bits); with_reducible rfl)); (· (simp only [Act.put, Act.eval, List.setIfInBounds_toArray, List.set_cons_zero, List.set_cons_succ, Array.getD_eq_getD_getElem?, List.getElem?_toArray, List.getElem?_cons_zero, List.getElem?_cons_succ, Option.getD_some]; with_reducible rfl))
        apply txt_read rfl rfl rfl; (· (go_simp; with_reducible rfl)); (· (simp only [Act.put, Act.eval, List.setIfInBounds_toArray, List.set_cons_zero, List.set_cons_succ, Array.getD_eq_getD_getElem?, List.getElem?_toArray, List.getElem?_cons_zero, List.getElem?_cons_succ, Option.getD_some]; with_reducible rfl))
        apply txt_pure rfl rfl rfl; (· (intro w; go_simp; (try go_bits); with_reducible rfl)); (· (simp only [Act.put, Act.eval, List.setIfInBounds_toArray, List.set_cons_zero, List.set_cons_succ, Array.getD_eq_getD_getElem?, List.getElem?_toArray, List.getElem?_cons_zero, List.getElem?_cons_succ, Option.getD_some]; with_reducible rfl))
        (apply txt_quiet rfl rfl rfl; (· (go_simp; exact ⟨rfl, rfl⟩)); (· (exact Rot_1 _ _)); (· (simp only [Act.put, Act.eval, List.setIfInBounds_toArray, List.set_cons_zero, List.set_cons_succ, Array.getD_eq_getD_getElem?, List.getElem?_toArray, List.getElem?_cons_zero, List.getElem?_cons_succ, Option.getD_some]; with_reducible rfl)))
        apply txt_pure rfl rfl rfl; (· (intro w; go_simp; (try go_bits); with_reducible rfl)); (· (simp only [Act.put, Act.eval, List.setIfInBounds_toArray, List.set_cons_zero, List.set_cons_succ, Array.getD_eq_getD_getElem?, List.getElem?_toArray, List.getElem?_cons_zero, List.getElem?_cons_succ, Option.getD_some]; with_reducible rfl))
        apply txt_do rfl rfl rfl; (· (go_simp; with_reducible rfl)); (· (simp only [Act.put, Act.eval, List.setIfInBounds_toArray, List.set_cons_zero, List.set_cons_succ, Array.getD_eq_getD_getElem?, List.getElem?_toArray, List.getElem?_cons_zero, List.getElem?_cons_succ, Option.getD_some]; with_reducible rfl))
        with_reducible refine txt_nil ?_
        go_wp2
        have hB0 := (hB.set q0 (by rw [buf1_length, wl]; omega) (rotl (y3 ^^^ y8 ^^^ y14 ^^^ y0) 1)).drew
        rw [← hN.out] at hB0
        have hV0 := (hV.other (p := ⟨w.heap.size, q0, none⟩) (by simp) (.int .u32 (u (rotl (y3 ^^^ y8 ^^^ y14 ^^^ y0) 1)))).drew
        have hb0 := (hb.setCell (p := ⟨w.heap.size, q0, none⟩) (by simp) (.int .u32 (u (rotl (y3 ^^^ y8 ^^^ y14 ^^^ y0) 1)))).drew
        obtain ⟨w2, hw2⟩ : ∃ x, x = (wr.setCell ⟨w.heap.size, q0, none⟩ (.int .u32 (u (rotl (y3 ^^^ y8 ^^^ y14 ^^^ y0) 1)))).drew := ⟨_, rfl⟩
        rw [← hw2] at hB0 hV0 hb0 ⊢
        clear hw2 hB hV hb hbs e0 e3 e8 e14 a0 a3 a8 a14 m0 m3 m8 m14 l0 l3 l8 l14 f0 hN hq0
        have hbs := hb0.size
        have d1 := hV0.cell 1 (by simp [S5.l])
        have d2 := hV0.cell 2 (by simp [S5.l])
        have d3 := hV0.cell 3 (by simp [S5.l])
        simp only [S5.l, List.getD_cons_zero, List.getD_cons_succ] at d1 d2 d3
        refine Rt.wp_region_text [0, 1, 0, 1, 0, 1, 0, 0, 0] (by kernel_rfl) (by kernel_rfl) ?_
        apply txt_pure rfl rfl rfl; (· (intro w; go_simp; (try go_bits); with_reducible rfl)); (· (simp only [Act.put, Act.eval, List.setIfInBounds_toArray, List.set_cons_zero, List.set_cons_succ, Array.getD_eq_getD_getElem?, List.getElem?_toArray, List.getElem?_cons_zero, List.getElem?_cons_succ, Option.getD_some]; with_reducible rfl))
        apply txt_read rfl rfl rfl; (· (go_simp; with_reducible rfl)); (· (simp only [Act.put, Act.eval, List.setIfInBounds_toArray, List.set_cons_zero, List.set_cons_succ, Array.getD_eq_getD_getElem?, List.getElem?_toArray, List.getElem?_cons_zero, List.getElem?_cons_succ, Option.getD_some]; with_reducible rfl))
        apply txt_pure rfl rfl rfl; (· (intro w; go_simp; (try go_bits); with_reducible rfl)); (· (simp only [Act.put, Act.eval, List.setIfInBounds_toArray, List.set_cons_zero, List.set_cons_succ, Array.getD_eq_getD_getElem?, List.getElem?_toArray, List.getElem?_cons_zero, List.getElem?_cons_succ, Option.getD_some]; with_reducible rfl))
        apply txt_read rfl rfl rfl; (· (go_simp; with_reducible rfl)); (· (simp only [Act.put, Act.eval, List.setIfInBounds_toArray, List.set_cons_zero, List.set_cons_succ, Array.getD_eq_getD_getElem?, List.getElem?_toArray, List.getElem?_cons_zero, List.getElem?_cons_succ, Option.getD_some]; with_reducible rfl))
        apply txt_pure rfl rfl rfl; (· (intro w; go_simp; (try go_bits); with_reducible rfl)); (· (simp only [Act.put, Act.eval, List.setIfInBounds_toArray, List.set_cons_zero, List.set_cons_succ, Array.getD_eq_getD_getElem?, List.getElem?_toArray, List.getElem?_cons_zero, List.getElem?_cons_succ, Option.getD_some]; with_reducible rfl))
        apply txt_read rfl rfl rfl; (· (go_simp; with_reducible rfl)); (· (simp only [Act.put, Act.eval, List.setIfInBounds_toArray, List.set_cons_zero, List.set_cons_succ, Array.getD_eq_getD_getElem?, List.getElem?_toArray, List.getElem?_cons_zero, List.getElem?_cons_succ, Option.getD_some]; with_reducible rfl))
        apply txt_assign rfl rfl; (· (simp only [Act.put, Act.eval, List.setIfInBounds_toArray, List.set_cons_zero, List.set_cons_succ, Array.getD_eq_getD_getElem?, List.getElem?_toArray, List.getElem?_cons_zero, List.getElem?_cons_succ, Option.getD_some]; with_reducible rfl))
        apply txt_assign rfl rfl; (· (simp only [Act.put, Act.eval, List.setIfInBounds_toArray, List.set_cons_zero, List.set_cons_succ, Array.getD_eq_getD_getElem?, List.getElem?_toArray, List.getElem?_cons_zero, List.getElem?_cons_succ, Option.getD_some]; with_reducible rfl))
        apply txt_assign rfl rfl; (· (simp only [Act.put, Act.eval, List.setIfInBounds_toArray, List.set_cons_zero, List.set_cons_succ, Array.getD_eq_getD_getElem?, List.getElem?_toArray, List.getElem?_cons_zero, List.getElem?_cons_succ, Option.getD_some]; with_reducible rfl))
        with_reducible refine txt_nil ?_
        go_wp2
        have hB1 := hB0.drew
        have hV1 := hV0.drew
        have hb1 := hb0.drew
        obtain ⟨w1, hw1⟩ : ∃ x, x = w2.drew := ⟨_, rfl⟩
        rw [← hw1] at hB1 hV1 hb1 ⊢
        clear hw1 d1 d2 d3 hB0 hV0 hb0 hbs
        have hbs := hb1.size
        have d0 := hV1.cell 0 (by simp [S5.l])
        have d4 := hV1.cell 4 (by simp [S5.l])
        simp only [S5.l, List.getD_cons_zero, List.getD_cons_succ] at d0 d4
        have a0 := and15_i64 k (by omega)
        have m0 : k % 16 < 16 := by omega
        have e0 := hB1.cell (k % 16) (by rw [buf1_length, wl]; omega)
        obtain ⟨q0, hq0⟩ : ∃ q, k % 16 = q := ⟨_, rfl⟩
        rw [hq0] at a0 m0 e0
        have l0 : (q0 : Int) < 16 := by omega
        obtain ⟨y0, hy0⟩ : ∃ y, (buf1 ws (k + 1)).getD q0 0 = y := ⟨_, rfl⟩
        rw [hy0] at e0
        have hS : Hid (st1 h ws (k + 1) = rd1 (st1 h ws k) y0 k) := Lib.hid (by rw [← hy0, ← hq0]; rfl)
        clear hy0 hq0
        refine Rt.wp_region_text [0, 1, 1, 0, 0, 0, 1, 0, 0, 0, 0, 1, 0, 0] (by kernel_rfl) (by kernel_rfl) ?_
        apply txt_pure rfl rfl rfl; (· (intro w; go_simp; (try go_bits); with_reducible rfl)); (· (simp only [Act.put, Act.eval, List.setIfInBounds_toArray, List.set_cons_zero, List.set_cons_succ, Array.getD_eq_getD_getElem?, List.getElem?_toArray, List.getElem?_cons_zero, List.getElem?_cons_succ, Option.getD_some]; with_reducible rfl))
        apply txt_read rfl rfl rfl; (· (go_simp; with_reducible rfl)); (· (simp only [Act.put, Act.eval, List.setIfInBounds_toArray, List.set_cons_zero, List.set_cons_succ, Array.getD_eq_getD_getElem?, List.getElem?_toArray, List.getElem?_cons_zero, List.getElem?_cons_succ, Option.getD_some]; with_reducible rfl))
        (apply txt_quiet rfl rfl rfl; (· (go_simp; exact ⟨rfl, rfl⟩)); (· (exact Rot_5 _ _)); (· (simp only [Act.put, Act.eval, List.setIfInBounds_toArray, List.set_cons_zero, List.set_cons_succ, Array.getD_eq_getD_getElem?, List.getElem?_toArray, List.getElem?_cons_zero, List.getElem?_cons_succ, Option.getD_some]; with_reducible rfl)))
        apply txt_move rfl rfl; (· (simp only [Act.put, Act.eval, List.setIfInBounds_toArray, List.set_cons_zero, List.set_cons_succ, Array.getD_eq_getD_getElem?, List.getElem?_toArray, List.getElem?_cons_zero, List.getElem?_cons_succ, Option.getD_some]; with_reducible rfl))
        apply txt_pure rfl rfl rfl; (· (intro w; go_simp; (try go_bits); with_reducible rfl)); (· (simp only [Act.put, Act.eval, List.setIfInBounds_toArray, List.set_cons_zero, List.set_cons_succ, Array.getD_eq_getD_getElem?, List.getElem?_toArray, List.getElem?_cons_zero, List.getElem?_cons_succ, Option.getD_some]; with_reducible rfl))
        apply txt_pure rfl rfl rfl; (· (intro w; go_simp; (try go_bits); with_reducible rfl)); (· (simp only [Act.put, Act.eval, List.setIfInBounds_toArray, List.set_cons_zero, List.set_cons_succ, Array.getD_eq_getD_getElem?, List.getElem?_toArray, List.getElem?_cons_zero, List.getElem?_cons_succ, Option.getD_some]; with_reducible rfl))
        apply txt_read rfl rfl rfl; (· (go_simp; with_reducible rfl)); (· (simp only [Act.put, Act.eval, List.setIfInBounds_toArray, List.set_cons_zero, List.set_cons_succ, Array.getD_eq_getD_getElem?, List.getElem?_toArray, List.getElem?_cons_zero, List.getElem?_cons_succ, Option.getD_some]; with_reducible rfl))
        apply txt_pure rfl rfl rfl; (· (intro w; go_simp; (try go_bits); with_reducible rfl)); (· (simp only [Act.put, Act.eval, List.setIfInBounds_toArray, List.set_cons_zero, List.set_cons_succ, Array.getD_eq_getD_getElem?, List.getElem?_toArray, List.getElem?_cons_zero, List.getElem?_cons_succ, Option.getD_some]; with_reducible rfl))
        apply txt_move rfl rfl; (· (simp only [Act.put, Act.eval, List.setIfInBounds_toArray, List.set_cons_zero, List.set_cons_succ, Array.getD_eq_getD_getElem?, List.getElem?_toArray, List.getElem?_cons_zero, List.getElem?_cons_succ, Option.getD_some]; with_reducible rfl))
        apply txt_pure rfl rfl rfl; (· (intro w; go_simp; (try go_bits); with_reducible rfl)); (· (simp only [Act.put, Act.eval, List.setIfInBounds_toArray, List.set_cons_zero, List.set_cons_succ, Array.getD_eq_getD_getElem?, List.getElem?_toArray, List.getElem?_cons_zero, List.getElem?_cons_succ, Option.getD_some]; with_reducible rfl))
        apply txt_pure rfl rfl rfl; (· (intro w; go_simp; (try go_bits); with_reducible rfl)); (· (simp only [Act.put, Act.eval, List.setIfInBounds_toArray, List.set_cons_zero, List.set_cons_succ, Array.getD_eq_getD_getElem?, List.getElem?_toArray, List.getElem?_cons_zero, List.getElem?_cons_succ, Option.getD_some]; with_reducible rfl))
        apply txt_read rfl rfl rfl; (· (go_simp; with_reducible rfl)); (· (simp only [Act.put, Act.eval, List.setIfInBounds_toArray, List.set_cons_zero, List.set_cons_succ, Array.getD_eq_getD_getElem?, List.getElem?_toArray, List.getElem?_cons_zero, List.getElem?_cons_succ, Option.getD_some]; with_reducible rfl))
        apply txt_pure rfl rfl rfl; (· (intro w; go_simp; (try go_bits); with_reducible rfl)); (· (simp only [Act.put, Act.eval, List.setIfInBounds_toArray, List.set_cons_zero, List.set_cons_succ, Array.getD_eq_getD_getElem?, List.getElem?_toArray, List.getElem?_cons_zero, List.getElem?_cons_succ, Option.getD_some]; with_reducible rfl))
        apply txt_assign rfl rfl; (· (simp only [Act.put, Act.eval, List.setIfInBounds_toArray, List.set_cons_zero, List.set_cons_succ, Array.getD_eq_getD_getElem?, List.getElem?_toArray, List.getElem?_cons_zero, List.getElem?_cons_succ, Option.getD_some]; with_reducible rfl))
        with_reducible refine txt_nil ?_
        go_wp2
        refine Rt.wp_region_text [0, 0, 1, 0, 1, 0, 0, 0, 2] (by kernel_rfl) (by kernel_rfl) ?_
        apply txt_move rfl rfl; (· (simp only [Act.put, Act.eval, List.setIfInBounds_toArray, List.set_cons_zero, List.set_cons_succ, Array.getD_eq_getD_getElem?, List.getElem?_toArray, List.getElem?_cons_zero, List.getElem?_cons_succ, Option.getD_some]; with_reducible rfl))
        apply txt_pure rfl rfl rfl; (· (intro w; go_simp; (try go_bits); with_reducible rfl)); (· (simp only [Act.put, Act.eval, List.setIfInBounds_toArray, List.set_cons_zero, List.set_cons_succ, Array.getD_eq_getD_getElem?, List.getElem?_toArray, List.getElem?_cons_zero, List.getElem?_cons_succ, Option.getD_some]; with_reducible rfl))
        apply txt_read rfl rfl rfl; (· (go_simp; with_reducible rfl)); (· (simp only [Act.put, Act.eval, List.setIfInBounds_toArray, List.set_cons_zero, List.set_cons_succ, Array.getD_eq_getD_getElem?, List.getElem?_toArray, List.getElem?_cons_zero, List.getElem?_cons_succ, Option.getD_some]; with_reducible rfl))
        apply txt_move rfl rfl; (· (simp only [Act.put, Act.eval, List.setIfInBounds_toArray, List.set_cons_zero, List.set_cons_succ, Array.getD_eq_getD_getElem?, List.getElem?_toArray, List.getElem?_cons_zero, List.getElem?_cons_succ, Option.getD_some]; with_reducible rfl))
        (apply txt_quiet rfl rfl rfl; (· (go_simp; exact ⟨rfl, rfl⟩)); (· (exact Rot_30 _ _)); (· (simp only [Act.put, Act.eval, List.setIfInBounds_toArray, List.set_cons_zero, List.set_cons_succ, Array.getD_eq_getD_getElem?, List.getElem?_toArray, List.getElem?_cons_zero, List.getElem?_cons_succ, Option.getD_some]; with_reducible rfl)))
        apply txt_move rfl rfl; (· (simp only [Act.put, Act.eval, List.setIfInBounds_toArray, List.set_cons_zero, List.set_cons_succ, Array.getD_eq_getD_getElem?, List.getElem?_toArray, List.getElem?_cons_zero, List.getElem?_cons_succ, Option.getD_some]; with_reducible rfl))
        apply txt_move rfl rfl; (· (simp only [Act.put, Act.eval, List.setIfInBounds_toArray, List.set_cons_zero, List.set_cons_succ, Array.getD_eq_getD_getElem?, List.getElem?_toArray, List.getElem?_cons_zero, List.getElem?_cons_succ, Option.getD_some]; with_reducible rfl))
        apply txt_pure rfl rfl rfl; (· (intro w; go_simp; (try go_bits); with_reducible rfl)); (· (simp only [Act.put, Act.eval, List.setIfInBounds_toArray, List.set_cons_zero, List.set_cons_succ, Array.getD_eq_getD_getElem?, List.getElem?_toArray, List.getElem?_cons_zero, List.getElem?_cons_succ, Option.getD_some]; with_reducible rfl))
        refine txt_act rfl rfl rfl fun K hK => wp_store_row 33 (.tmp 3) (.tmp 113) rfl (w.heap.size + 1) _ rfl rfl 33 _ hV1.drew.drew (by kernel_rfl) (by simp [S5.l]) (by simp [Value.oneCell']) (hK _ _ ?_)
        clear K hK
        with_reducible refine txt_nil ?_
        go_wp2
        go_roundw
        case rel =>
          refine ⟨k + 1, by go_num, by omega, ?_, ?_, ?_⟩
          · exact row32_other hB1.drew.drew (by omega) [_, _, _, _, _]
          · rw [hS.out]; simp only [rd1, fn1]; rw [if_neg (by omega), if_neg (by omega), if_pos (by omega)]; exact row32_own hV1.drew.drew [_, _, _, _, _]
          · exact row32_below hb1.drew.drew (by omega) [_, _, _, _, _]
        case measure => simp [intOf]; omega
      · skip
        have e16 : ¬ (k : Int) < 16 := by omega
        have e16b : decide (16 ≤ (k : Int)) = true := by simp; omega
        have e20 : (k : Int) / 20 = 3 := by omega
        have eq3 : k / 20 = 3 := by omega
        go_wp2
        have a0 := and15_i64 k (by omega)
        have a3 := and15_sub k 3 (by omega) (by omega) (by omega)
        rw [show (((3 : Nat) : Int)) = 3 by rfl, show 16 - 3 = 13 by rfl] at a3
        have a8 := and15_sub k 8 (by omega) (by omega) (by omega)
        rw [show (((8 : Nat) : Int)) = 8 by rfl, show 16 - 8 = 8 by rfl] at a8
        have a14 := and15_sub k 14 (by omega) (by omega) (by omega)
        rw [show (((14 : Nat) : Int)) = 14 by rfl, show 16 - 14 = 2 by rfl] at a14
        have e0 := hB.cell ((k) % 16) (by rw [buf1_length, wl]; omega)
        have m0 : (k) % 16 < 16 := by omega
        have e3 := hB.cell ((k + 13) % 16) (by rw [buf1_length, wl]; omega)
        have m3 : (k + 13) % 16 < 16 := by omega
        have e8 := hB.cell ((k + 8) % 16) (by rw [buf1_length, wl]; omega)
        have m8 : (k + 8) % 16 < 16 := by omega
        have e14 := hB.cell ((k + 2) % 16) (by rw [buf1_length, wl]; omega)
        have m14 : (k + 2) % 16 < 16 := by omega
        have hN : Hid (buf1 ws (k + 1) = (buf1 ws k).set (k % 16) (new1 (buf1 ws k) k)) := Lib.hid (by simp only [buf1]; rw [if_neg (by omega)])
        unfold new1 at hN
        obtain ⟨q0, hq0⟩ : ∃ q, (k) % 16 = q := ⟨_, rfl⟩
        rw [hq0] at a0 e0 m0 hN
        have l0 : (q0 : Int) < 16 := by omega
        obtain ⟨q3, hq3⟩ : ∃ q, (k + 13) % 16 = q := ⟨_, rfl⟩
        rw [hq3] at a3 e3 m3 hN
        have l3 : (q3 : Int) < 16 := by omega
        obtain ⟨q8, hq8⟩ : ∃ q, (k + 8) % 16 = q := ⟨_, rfl⟩
        rw [hq8] at a8 e8 m8 hN
        have l8 : (q8 : Int) < 16 := by omega
        obtain ⟨q14, hq14⟩ : ∃ q, (k + 2) % 16 = q := ⟨_, rfl⟩
        rw [hq14] at a14 e14 m14 hN
        have l14 : (q14 : Int) < 16 := by omega
        obtain ⟨y0, hy0⟩ : ∃ y, (buf1 ws k).getD q0 0 = y := ⟨_, rfl⟩
        rw [hy0] at e0 hN
        clear hy0
        obtain ⟨y3, hy3⟩ : ∃ y, (buf1 ws k).getD q3 0 = y := ⟨_, rfl⟩
        rw [hy3] at e3 hN
        clear hy3
        obtain ⟨y8, hy8⟩ : ∃ y, (buf1 ws k).getD q8 0 = y := ⟨_, rfl⟩
        rw [hy8] at e8 hN
        clear hy8
        obtain ⟨y14, hy14⟩ : ∃ y, (buf1 ws k).getD q14 0 = y := ⟨_, rfl⟩
        rw [hy14] at e14 hN
        clear hy14
        clear hq3 hq8 hq14
        have f0 := hB.frozen q0
        refine Rt.wp_region_text [0, 0, 0, 0, 0, 0, 1, 0, 0, 0, 0, 1, 0, 0, 0, 0, 0, 1, 0, 0, 0, 0, 1, 0, 1, 0, 2] (by kernel_rfl) (by kernel_rfl) ?_
        apply txt_move rfl rfl; (· (simp only [Act.put, Act.eval, List.setIfInBounds_toArray, List.set_cons_zero, List.set_cons_succ, Array.getD_eq_getD_getElem?, List.getElem?_toArray, List.getElem?_cons_zero, List.getElem?_cons_succ, Option.getD_some]; with_reducible rfl))
        apply txt_pure rfl rfl rfl; (· (intro w; go_simp; (try go_bits); with_reducible rfl)); (· (simp only [Act.put, Act.eval, List.setIfInBounds_toArray, List.set_cons_zero, List.set_cons_succ, Array.getD_eq_getD_getElem?, List.getElem?_toArray, List.getElem?_cons_zero, List.getElem?_cons_succ, Option.getD_some]; with_reducible rfl))
        apply txt_move rfl rfl; (· (simp only [Act.put, Act.eval, List.setIfInBounds_toArray, List.set_cons_zero, List.set_cons_succ, Array.getD_eq_getD_getElem?, List.getElem?_toArray, List.getElem?_cons_zero, List.getElem?_cons_succ, Option.getD_some]; with_reducible rfl))
        apply txt_pure rfl rfl rfl; (· (intro w; go_simp; (try go_bits); with_reducible rfl)); (· (simp only [Act.put, Act.eval, List.setIfInBounds_toArray, List.set_cons_zero, List.set_cons_succ, Array.getD_eq_getD_getElem?, List.getElem?_toArray, List.getElem?_cons_zero, List.getElem?_cons_succ, Option.getD_some]; with_reducible rfl))
        apply txt_pure rfl rfl rfl; (· (intro w; go_simp; (try go_bits); with_reducible rfl)); (· (simp only [Act.put, Act.eval, List.setIfInBounds_toArray, List.set_cons_zero, List.set_cons_succ, Array.getD_eq_getD_getElem?, List.getElem?_toArray, List.getElem?_cons_zero, List.getElem?_cons_succ, Option.getD_some]; with_reducible rfl))
        apply txt_pure rfl rfl rfl; (· (intro w; go_simp; (try go_bits); with_reducible rfl)); (· (simp only [Act.put, Act.eval, List.setIfInBounds_toArray, List.set_cons_zero, List.set_cons_succ, Array.getD_eq_getD_getElem?, List.getElem?_toArray, List.getElem?_cons_zero, List.getElem?_cons_succ, Option.getD_some]; with_reducible rfl))
        apply txt_read rfl rfl rfl; (· (go_simp; with_reducible rfl)); (· (simp only [Act.put, Act.eval, List.setIfInBounds_toArray, List.set_cons_zero, List.set_cons_succ, Array.getD_eq_getD_getElem?, List.getElem?_toArray, List.getElem?_cons_zero, List.getElem?_cons_succ, Option.getD_some]; with_reducible rfl))
        apply txt_move rfl rfl; (· (simp only [Act.put, Act.eval, List.setIfInBounds_toArray, List.set_cons_zero, List.set_cons_succ, Array.getD_eq_getD_getElem?, List.getElem?_toArray, List.getElem?_cons_zero, List.getElem?_cons_succ, Option.getD_some]; with_reducible rfl))
        apply txt_pure rfl rfl rfl; (· (intro w; go_simp; (try go_bits); with_reducible rfl)); (· (simp only [Act.put, Act.eval, List.setIfInBounds_toArray, List.set_cons_zero, List.set_cons_succ, Array.getD_eq_getD_getElem?, List.getElem?_toArray, List.getElem?_cons_zero, List.getElem?_cons_succ, Option.getD_some]; with_reducible rfl))
        apply txt_pure rfl rfl rfl; (· (intro w; go_simp; (try go_bits); with_reducible rfl)); (· (simp only [Act.put, Act.eval, List.setIfInBounds_toArray, List.set_cons_zero, List.set_cons_succ, Array.getD_eq_getD_getElem?, List.getElem?_toArray, List.getElem?_cons_zero, List.getElem?_cons_succ, Option.getD_some]; with_reducible rfl))
        apply txt_pure rfl rfl rfl; (· (intro w; go_simp; (try go_bits); with_reducible rfl)); (· (simp only [Act.put, Act.eval, List.setIfInBounds_toArray, List.set_cons_zero, List.set_cons_succ, Array.getD_eq_getD_getElem?, List.getElem?_toArray, List.getElem?_cons_zero, List.getElem?_cons_succ, Option.getD_some]; with_reducible rfl))
        apply txt_read rfl rfl rfl; (· (go_simp; with_reducible rfl)); (· (simp only [Act.put, Act.eval, List.setIfInBounds_toArray, List.set_cons_zero, List.set_cons_succ, Array.getD_eq_getD_getElem?, List.getElem?_toArray, List.getElem?_cons_zero, List.getElem?_cons_succ, Option.getD_some]; with_reducible rfl))
        apply txt_pure rfl rfl rfl; (· (intro w; go_simp; (try go_bits); with_reducible rfl)); (· (simp only [Act.put, Act.eval, List.setIfInBounds_toArray, List.set_cons_zero, List.set_cons_succ, Array.getD_eq_getD_getElem?, List.getElem?_toArray, List.getElem?_cons_zero, List.getElem?_cons_succ, Option.getD_some]; with_reducible rfl))
        apply txt_move rfl rfl; (· (simp only [Act.put, Act.eval, List.setIfInBounds_toArray, List.set_cons_zero, List.set_cons_succ, Array.getD_eq_getD_getElem?, List.getElem?_toArray, List.getElem?_cons_zero, List.getElem?_cons_succ, Option.getD_some]; with_reducible rfl))
        apply txt_pure rfl rfl rfl; (· (intro w; go_simp; (try go_bits); with_reducible rfl)); (· (simp only [Act.put, Act.eval, List.setIfInBounds_toArray, List.set_cons_zero, List.set_cons_succ, Array.getD_eq_getD_getElem?, List.getElem?_toArray, List.getElem?_cons_zero, List.getElem?_cons_succ, Option.getD_some]; with_reducible rfl))
        apply txt_pure rfl rfl rfl; (· (intro w; go_simp; (try go_bits); with_reducible rfl)); (· (simp only [Act.put, Act.eval, List.setIfInBounds_toArray, List.set_cons_zero, List.set_cons_succ, Array.getD_eq_getD_getElem?, List.getElem?_toArray, List.getElem?_cons_zero, List.getElem?_cons_succ, Option.getD_some]; with_reducible rfl))
        apply txt_pure rfl rfl rfl; (· (intro w; go_simp; (try go_bits); with_reducible rfl)); (· (simp only [Act.put, Act.eval, List.setIfInBounds_toArray, List.set_cons_zero, List.set_cons_succ, Array.getD_eq_getD_getElem?, List.getElem?_toArray, List.getElem?_cons_zero, List.getElem?_cons_succ, Option.getD_some]; with_reducible rfl))
        apply txt_read rfl rfl rfl; (· (go_simp; with_reducible rfl)); (· (simp only [Act.put, Act.eval, List.setIfInBounds_toArray, List.set_cons_zero, List.set_cons_succ, Array.getD_eq_getD_getElem?, List.getElem?_toArray, List.getElem?_cons_zero, List.getElem?_cons_succ, Option.getD_some]; with_reducible rfl))
        apply txt_pure rfl rfl rfl; (· (intro w; go_simp; (try go_bits); with_reducible rfl)); (· (simp only [Act.put, Act.eval, List.setIfInBounds_toArray, List.set_cons_zero, List.set_cons_succ, Array.getD_eq_getD_getElem?, List.getElem?_toArray, List.getElem?_cons_zero, List.getElem?_cons_succ, Option.getD_some]; with_reducible rfl))
        apply txt_move rfl rfl; (· (simp only [Act.put, Act.eval, List.setIfInBounds_toArray, List.set_cons_zero, List.set_cons_succ, Array.getD_eq_getD_getElem?, List.getElem?_toArray, List.getElem?_cons_zero, List.getElem?_cons_succ, Option.getD_some]; with_reducible rfl))
        apply txt_pure rfl rfl rfl; (· (intro w; go_simp; (try go_bits); with_reducible rfl)); (· (simp only [Act.put, Act.eval, List.setIfInBounds_toArray, List.set_cons_zero, List.set_cons_succ, Array.getD_eq_getD_getElem?, List.getElem?_toArray, List.getElem?_cons_zero, List.getElem?_cons_succ, Option.getD_some]; with_reducible rfl))
        apply txt_pure rfl rfl rfl; (· (intro w; go_simp; (try go_bits); with_reducible rfl)); (· (simp only [Act.put, Act.eval, List.setIfInBounds_toArray, List.set_cons_zero, List.set_cons_succ, Array.getD_eq_getD_getElem?, List.getElem?_toArray, List.getElem?_cons_zero, List.getElem?_cons_succ, Option.getD_some]; with_reducible rfl))
        apply txt_read rfl rfl rfl; (· (go_simp; with_reducible rfl)); (· (simp only [Act.put, Act.eval, List.setIfInBounds_toArray, List.set_cons_zero, List.set_cons_succ, Array.getD_eq_getD_getElem?, List.getElem?_toArray, List.getElem?_cons_zero, List.getElem?_cons_succ, Option.getD_some]; with_reducible rfl))
        apply txt_pure rfl rfl rfl; (· (intro w; go_simp; (try go_bits); with_reducible rfl)); (· (simp only [Act.put, Act.eval, List.setIfInBounds_toArray, List.set_cons_zero, List.set_cons_succ, Array.getD_eq_getD_getElem?, List.getElem?_toArray, List.getElem?_cons_zero, List.getElem?_cons_succ, Option.getD_some]; with_reducible rfl))
        (apply txt_quiet rfl rfl rfl; (· (go_simp; exact ⟨rfl, rfl⟩)); (· (exact Rot_1 _ _)); (· (simp only [Act.put, Act.eval, List.setIfInBounds_toArray, List.set_cons_zero, List.set_cons_succ, Array.getD_eq_getD_getElem?, List.getElem?_toArray, List.getElem?_cons_zero, List.getElem?_cons_succ, Option.getD_some]; with_reducible rfl)))
        apply txt_pure rfl rfl rfl; (· (intro w; go_simp; (try go_bits); with_reducible rfl)); (· (simp only [Act.put, Act.eval, List.setIfInBounds_toArray, List.set_cons_zero, List.set_cons_succ, Array.getD_eq_getD_getElem?, List.getElem?_toArray, List.getElem?_cons_zero, List.getElem?_cons_succ, Option.getD_some]; with_reducible rfl))
        apply txt_do rfl rfl rfl; (· (go_simp; with_reducible rfl)); (· (simp only [Act.put, Act.eval, List.setIfInBounds_toArray, List.set_cons_zero, List.set_cons_succ, Array.getD_eq_getD_getElem?, List.getElem?_toArray, List.getElem?_cons_zero, List.getElem?_cons_succ, Option.getD_some]; with_reducible rfl))
        with_reducible refine txt_nil ?_
        go_wp2
        have hB0 := (hB.set q0 (by rw [buf1_length, wl]; omega) (rotl (y3 ^^^ y8 ^^^ y14 ^^^ y0) 1)).drew
        rw [← hN.out] at hB0
        have hV0 := (hV.other (p := ⟨w.heap.size, q0, none⟩) (by simp) (.int .u32 (u (rotl (y3 ^^^ y8 ^^^ y14 ^^^ y0) 1)))).drew
        have hb0 := (hb.setCell (p := ⟨w.heap.size, q0, none⟩) (by simp) (.int .u32 (u (rotl (y3 ^^^ y8 ^^^ y14 ^^^ y0) 1)))).drew
        obtain ⟨w2, hw2⟩ : ∃ x, x = (wr.setCell ⟨w.heap.size, q0, none⟩ (.int .u32 (u (rotl (y3 ^^^ y8 ^^^ y14 ^^^ y0) 1)))).drew := ⟨_, rfl⟩
        rw [← hw2] at hB0 hV0 hb0 ⊢
        clear hw2 hB hV hb hbs e0 e3 e8 e14 a0 a3 a8 a14 m0 m3 m8 m14 l0 l3 l8 l14 f0 hN hq0
        have hbs := hb0.size
        have d1 := hV0.cell 1 (by simp [S5.l])
        have d2 := hV0.cell 2 (by simp [S5.l])
        have d3 := hV0.cell 3 (by simp [S5.l])
        simp only [S5.l, List.getD_cons_zero, List.getD_cons_succ] at d1 d2 d3
        refine Rt.wp_region_text [0, 1, 0, 1, 0, 1, 0, 0, 0] (by kernel_rfl) (by kernel_rfl) ?_
        apply txt_pure rfl rfl rfl; (· (intro w; go_simp; (try go_bits); with_reducible rfl)); (· (simp only [Act.put, Act.eval, List.setIfInBounds_toArray, List.set_cons_zero, List.set_cons_succ, Array.getD_eq_getD_getElem?, List.getElem?_toArray, List.getElem?_cons_zero, List.getElem?_cons_succ, Option.getD_some]; with_reducible rfl))
        apply txt_read rfl rfl rfl; (· (go_simp; with_reducible rfl)); (· (simp only [Act.put, Act.eval, List.setIfInBounds_toArray, List.set_cons_zero, List.set_cons_succ, Array.getD_eq_getD_getElem?, List.getElem?_toArray, List.getElem?_cons_zero, List.getElem?_cons_succ, Option.getD_some]; with_reducible rfl))
        apply txt_pure rfl rfl rfl; (· (intro w; go_simp; (try go_bits); with_reducible rfl)); (· (simp only [Act.put, Act.eval, List.setIfInBounds_toArray, List.set_cons_zero, List.set_cons_succ, Array.getD_eq_getD_getElem?, List.getElem?_toArray, List.getElem?_cons_zero, List.getElem?_cons_succ, Option.getD_some]; with_reducible rfl))
        apply txt_read rfl rfl rfl; (· (go_simp; with_reducible rfl)); (· (simp only [Act.put, Act.eval, List.setIfInBounds_toArray, List.set_cons_zero, List.set_cons_succ, Array.getD_eq_getD_getElem?, List.getElem?_toArray, List.getElem?_cons_zero, List.getElem?_cons_succ, Option.getD_some]; with_reducible rfl))
        apply txt_pure rfl rfl rfl; (· (intro w; go_simp; (try go_bits); with_reducible rfl)); (· (simp only [Act.put, Act.eval, List.setIfInBounds_toArray, List.set_cons_zero, List.set_cons_succ, Array.getD_eq_getD_getElem?, List.getElem?_toArray, List.getElem?_cons_zero, List.getElem?_cons_succ, Option.getD_some]; with_reducible rfl))
        apply txt_read rfl rfl rfl; (· (go_simp; with_reducible rfl)); (· (simp only [Act.put, Act.eval, List.setIfInBounds_toArray, List.set_cons_zero, List.set_cons_succ, Array.getD_eq_getD_getElem?, List.getElem?_toArray, List.getElem?_cons_zero, List.getElem?_cons_succ, Option.getD_some]; with_reducible rfl))
        apply txt_assign rfl rfl; (· (simp only [Act.put, Act.eval, List.setIfInBounds_toArray, List.set_cons_zero, List.set_cons_succ, Array.getD_eq_getD_getElem?, List.getElem?_toArray, List.getElem?_cons_zero, List.getElem?_cons_succ, Option.getD_some]; with_reducible rfl))
        apply txt_assign rfl rfl; (· (simp only [Act.put, Act.eval, List.setIfInBounds_toArray, List.set_cons_zero, List.set_cons_succ, Array.getD_eq_getD_getElem?, List.getElem?_toArray, List.getElem?_cons_zero, List.getElem?_cons_succ, Option.getD_some]; with_reducible rfl))
        apply txt_assign rfl rfl; (· (simp only [Act.put, Act.eval, List.setIfInBounds_toArray, List.set_cons_zero, List.set_cons_succ, Array.getD_eq_getD_getElem?, List.getElem?_toArray, List.getElem?_cons_zero, List.getElem?_cons_succ, Option.getD_some]; with_reducible rfl))
        with_reducible refine txt_nil ?_
        go_wp2
        have hB1 := hB0.drew
        have hV1 := hV0.drew
        have hb1 := hb0.drew
        obtain ⟨w1, hw1⟩ : ∃ x, x = w2.drew := ⟨_, rfl⟩
        rw [← hw1] at hB1 hV1 hb1 ⊢
        clear hw1 d1 d2 d3 hB0 hV0 hb0 hbs
        have hbs := hb1.size
        have d0 := hV1.cell 0 (by simp [S5.l])
        have d4 := hV1.cell 4 (by simp [S5.l])
        simp only [S5.l, List.getD_cons_zero, List.getD_cons_succ] at d0 d4
        have a0 := and15_i64 k (by omega)
        have m0 : k % 16 < 16 := by omega
        have e0 := hB1.cell (k % 16) (by rw [buf1_length, wl]; omega)
        obtain ⟨q0, hq0⟩ : ∃ q, k % 16 = q := ⟨_, rfl⟩
        rw [hq0] at a0 m0 e0
        have l0 : (q0 : Int) < 16 := by omega
        obtain ⟨y0, hy0⟩ : ∃ y, (buf1 ws (k + 1)).getD q0 0 = y := ⟨_, rfl⟩
        rw [hy0] at e0
        have hS : Hid (st1 h ws (k + 1) = rd1 (st1 h ws k) y0 k) := Lib.hid (by rw [← hy0, ← hq0]; rfl)
        clear hy0 hq0
        refine Rt.wp_region_text [0, 1, 1, 0, 0, 0, 1, 0, 0, 0, 0, 1, 0, 0] (by kernel_rfl) (by kernel_rfl) ?_
        apply txt_pure rfl rfl rfl; (· (intro w; go_simp; (try go_bits); with_reducible rfl)); (· (simp only [Act.put, Act.eval, List.setIfInBounds_toArray, List.set_cons_zero, List.set_cons_succ, Array.getD_eq_getD_getElem?, List.getElem?_toArray, List.getElem?_cons_zero, List.getElem?_cons_succ, Option.getD_some]; with_reducible rfl))
        apply txt_read rfl rfl rfl; (· (go_simp; with_reducible rfl)); (· (simp only [Act.put, Act.eval, List.setIfInBounds_toArray, List.set_cons_zero, List.set_cons_succ, Array.getD_eq_getD_getElem?, List.getElem?_toArray, List.getElem?_cons_zero, List.getElem?_cons_succ, Option.getD_some]; with_reducible rfl))
        (apply txt_quiet rfl rfl rfl; (· (go_simp; exact ⟨rfl, rfl⟩)); (· (exact Rot_5 _ _)); (· (simp only [Act.put, Act.eval, List.setIfInBounds_toArray, List.set_cons_zero, List.set_cons_succ, Array.getD_eq_getD_getElem?, List.getElem?_toArray, List.getElem?_cons_zero, List.getElem?_cons_succ, Option.getD_some]; with_reducible rfl)))
        apply txt_move rfl rfl; (· (simp only [Act.put, Act.eval, List.setIfInBounds_toArray, List.set_cons_zero, List.set_cons_succ, Array.getD_eq_getD_getElem?, List.getElem?_toArray, List.getElem?_cons_zero, List.getElem?_cons_succ, Option.getD_some]; with_reducible rfl))
        apply txt_pure rfl rfl rfl; (· (intro w; go_simp; (try go_bits); with_reducible rfl)); (· (simp only [Act.put, Act.eval, List.setIfInBounds_toArray, List.set_cons_zero, List.set_cons_succ, Array.getD_eq_getD_getElem?, List.getElem?_toArray, List.getElem?_cons_zero, List.getElem?_cons_succ, Option.getD_some]; with_reducible rfl))
        apply txt_pure rfl rfl rfl; (· (intro w; go_simp; (try go_bits); with_reducible rfl)); (· (simp only [Act.put, Act.eval, List.setIfInBounds_toArray, List.set_cons_zero, List.set_cons_succ, Array.getD_eq_getD_getElem?, List.getElem?_toArray, List.getElem?_cons_zero, List.getElem?_cons_succ, Option.getD_some]; with_reducible rfl))
        apply txt_read rfl rfl rfl; (· (go_simp; with_reducible rfl)); (· (simp only [Act.put, Act.eval, List.setIfInBounds_toArray, List.set_cons_zero, List.set_cons_succ, Array.getD_eq_getD_getElem?, List.getElem?_toArray, List.getElem?_cons_zero, List.getElem?_cons_succ, Option.getD_some]; with_reducible rfl))
        apply txt_pure rfl rfl rfl; (· (intro w; go_simp; (try go_bits); with_reducible rfl)); (· (simp only [Act.put, Act.eval, List.setIfInBounds_toArray, List.set_cons_zero, List.set_cons_succ, Array.getD_eq_getD_getElem?, List.getElem?_toArray, List.getElem?_cons_zero, List.getElem?_cons_succ, Option.getD_some]; with_reducible rfl))
        apply txt_move rfl rfl; (· (simp only [Act.put, Act.eval, List.setIfInBounds_toArray, List.set_cons_zero, List.set_cons_succ, Array.getD_eq_getD_getElem?, List.getElem?_toArray, List.getElem?_cons_zero, List.getElem?_cons_succ, Option.getD_some]; with_reducible rfl))
        apply txt_pure rfl rfl rfl; (· (intro w; go_simp; (try go_bits); with_reducible rfl)); (· (simp only [Act.put, Act.eval, List.setIfInBounds_toArray, List.set_cons_zero, List.set_cons_succ, Array.getD_eq_getD_getElem?, List.getElem?_toArray, List.getElem?_cons_zero, List.getElem?_cons_succ, Option.getD_some]; with_reducible rfl))
        apply txt_pure rfl rfl rfl; (· (intro w; go_simp; (try go_bits); with_reducible rfl)); (· (simp only [Act.put, Act.eval, List.setIfInBounds_toArray, List.set_cons_zero, List.set_cons_succ, Array.getD_eq_getD_getElem?, List.getElem?_toArray, List.getElem?_cons_zero, List.getElem?_cons_succ, Option.getD_some]; with_reducible rfl))
        apply txt_read rfl rfl rfl; (· (go_simp; with_reducible rfl)); (· (simp only [Act.put, Act.eval, List.setIfInBounds_toArray, List.set_cons_zero, List.set_cons_succ, Array.getD_eq_getD_getElem?, List.getElem?_toArray, List.getElem?_cons_zero, List.getElem?_cons_succ, Option.getD_some]; with_reducible rfl))
        apply txt_pure rfl rfl rfl; (· (intro w; go_simp; (try go_bits); with_reducible rfl)); (· (simp only [Act.put, Act.eval, List.setIfInBounds_toArray, List.set_cons_zero, List.set_cons_succ, Array.getD_eq_getD_getElem?, List.getElem?_toArray, List.getElem?_cons_zero, List.getElem?_cons_succ, Option.getD_some]; with_reducible rfl))
        apply txt_assign rfl rfl; (· (simp only [Act.put, Act.eval, List.setIfInBounds_toArray, List.set_cons_zero, List.set_cons_succ, Array.getD_eq_getD_getElem?, List.getElem?_toArray, List.getElem?_cons_zero, List.getElem?_cons_succ, Option.getD_some]; with_reducible rfl))
        with_reducible refine txt_nil ?_
        go_wp2
        refine Rt.wp_region_text [0, 0, 1, 0, 1, 0, 0, 0, 2] (by kernel_rfl) (by kernel_rfl) ?_
        apply txt_move rfl rfl; (· (simp only [Act.put, Act.eval, List.setIfInBounds_toArray, List.set_cons_zero, List.set_cons_succ, Array.getD_eq_getD_getElem?, List.getElem?_toArray, List.getElem?_cons_zero, List.getElem?_cons_succ, Option.getD_some]; with_reducible rfl))
        apply txt_pure rfl rfl rfl; (· (intro w; go_simp; (try go_bits); with_reducible rfl)); (· (simp only [Act.put, Act.eval, List.setIfInBounds_toArray, List.set_cons_zero, List.set_cons_succ, Array.getD_eq_getD_getElem?, List.getElem?_toArray, List.getElem?_cons_zero, List.getElem?_cons_succ, Option.getD_some]; with_reducible rfl))
        apply txt_read rfl rfl rfl; (· (go_simp; with_reducible rfl)); (· (simp only [Act.put, Act.eval, List.setIfInBounds_toArray, List.set_cons_zero, List.set_cons_succ, Array.getD_eq_getD_getElem?, List.getElem?_toArray, List.getElem?_cons_zero, List.getElem?_cons_succ, Option.getD_some]; with_reducible rfl))
        apply txt_move rfl rfl; (· (simp only [Act.put, Act.eval, List.setIfInBounds_toArray, List.set_cons_zero, List.set_cons_succ, Array.getD_eq_getD_getElem?, List.getElem?_toArray, List.getElem?_cons_zero, List.getElem?_cons_succ, Option.getD_some]; with_reducible rfl))
        (apply txt_quiet rfl rfl rfl; (· (go_simp; exact ⟨rfl, rfl⟩)); (· (exact Rot_30 _ _)); (· (simp only [Act.put, Act.eval, List.setIfInBounds_toArray, List.set_cons_zero, List.set_cons_succ, Array.getD_eq_getD_getElem?, List.getElem?_toArray, List.getElem?_cons_zero, List.getElem?_cons_succ, Option.getD_some]; with_reducible rfl)))
        apply txt_move rfl rfl; (· (simp only [Act.put, Act.eval, List.setIfInBounds_toArray, List.set_cons_zero, List.set_cons_succ, Array.getD_eq_getD_getElem?, List.getElem?_toArray, List.getElem?_cons_zero, List.getElem?_cons_succ, Option.getD_some]; with_reducible rfl))
        apply txt_move rfl rfl; (· (simp only [Act.put, Act.eval, List.setIfInBounds_toArray, List.set_cons_zero, List.set_cons_succ, Array.getD_eq_getD_getElem?, List.getElem?_toArray, List.getElem?_cons_zero, List.getElem?_cons_succ, Option.getD_some]; with_reducible rfl))
        apply txt_pure rfl rfl rfl; (· (intro w; go_simp; (try go_bits); with_reducible rfl)); (· (simp only [Act.put, Act.eval, List.setIfInBounds_toArray, List.set_cons_zero, List.set_cons_succ, Array.getD_eq_getD_getElem?, List.getElem?_toArray, List.getElem?_cons_zero, List.getElem?_cons_succ, Option.getD_some]; with_reducible rfl))
        refine txt_act rfl rfl rfl fun K hK => wp_store_row 33 (.tmp 3) (.tmp 113) rfl (w.heap.size + 1) _ rfl rfl 33 _ hV1.drew.drew (by kernel_rfl) (by simp [S5.l]) (by simp [Value.oneCell']) (hK _ _ ?_)
        clear K hK
        with_reducible refine txt_nil ?_
        go_wp2
        go_roundw
        case rel =>
          refine ⟨k + 1, by go_num, by omega, ?_, ?_, ?_⟩
          · exact row32_other hB1.drew.drew (by omega) [_, _, _, _, _]
          · rw [hS.out]; simp only [rd1, fn1]; rw [if_neg (by omega), if_neg (by omega), if_neg (by omega)]; exact row32_own hV1.drew.drew [_, _, _, _, _]
          · exact row32_below hb1.drew.drew (by omega) [_, _, _, _, _]
        case measure => simp [intOf]; omega
    · obtain rfl : k = 80 := by omega
      clear hlk hk
      go_wp2
      go_loopw [115] (fun i wr2 => ∃ k : Nat, i = .int .i64 k ∧ k ≤ 5 ∧ C32 wr2 g 33 (((h.add (st1 h ws 80)).l.take k) ++ h.l.drop k) ∧ C32 wr2 (w.heap.size + 1) 33 (st1 h ws 80).l ∧ Kept (· = g) w wr2) (fun i _ => 5 - (intOf i).toNat)
      case atStart =>
        refine ⟨0, rfl, Nat.zero_le _, ?_, hV, Kept.of_below hb⟩
        have := hh.keep (hb.block g hlt)
        simpa using this
      case round =>
        obtain ⟨k, rfl, hk, hG, hV, hb⟩ := hrel
        have hbs := hb.size
        by_cases hlk : k < 5
        · have hlk' : (k : Int) < 5 := by omega
          have hVl : (st1 h ws 80).l.length = 5 := rfl
          have hGl : (List.take k (h.add (st1 h ws 80)).l ++ List.drop k h.l).length = 5 := by simp [S5.l]; omega
          have e0 := hG.cell k (by omega)
          have e1 := hV.cell k (by omega)
          have f0 := hG.frozen k
          have hsum : Hid ((List.take k (h.add (st1 h ws 80)).l ++ List.drop k h.l).set k ((List.take k (h.add (st1 h ws 80)).l ++ List.drop k h.l).getD k 0 + (st1 h ws 80).l.getD k 0) = List.take (k + 1) (h.add (st1 h ws 80)).l ++ List.drop (k + 1) h.l) := Lib.hid (add_step h _ k hlk)
          obtain ⟨x, hx⟩ : ∃ x, (List.take k (h.add (st1 h ws 80)).l ++ List.drop k h.l).getD k 0 = x := ⟨_, rfl⟩
          obtain ⟨y, hy⟩ : ∃ y, (st1 h ws 80).l.getD k 0 = y := ⟨_, rfl⟩
          rw [hx] at e0 hsum
          rw [hy] at e1 hsum
          clear hx hy hVl
          go_wp2
          refine Rt.wp_region_text [0, 0, 1, 0, 0, 1, 0, 0, 2] (by kernel_rfl) (by kernel_rfl) ?_
          apply txt_move rfl rfl; (· (simp only [Act.put, Act.eval, List.setIfInBounds_toArray, List.set_cons_zero, List.set_cons_succ, Array.getD_eq_getD_getElem?, List.getElem?_toArray, List.getElem?_cons_zero, List.getElem?_cons_succ, Option.getD_some]; with_reducible rfl))
          apply txt_pure rfl rfl rfl; (· (intro w; go_simp; (try go_bits); with_reducible rfl)); (· (simp only [Act.put, Act.eval, List.setIfInBounds_toArray, List.set_cons_zero, List.set_cons_succ, Array.getD_eq_getD_getElem?, List.getElem?_toArray, List.getElem?_cons_zero, List.getElem?_cons_succ, Option.getD_some]; with_reducible rfl))
          apply txt_read rfl rfl rfl; (· (go_simp; with_reducible rfl)); (· (simp only [Act.put, Act.eval, List.setIfInBounds_toArray, List.set_cons_zero, List.set_cons_succ, Array.getD_eq_getD_getElem?, List.getElem?_toArray, List.getElem?_cons_zero, List.getElem?_cons_succ, Option.getD_some]; with_reducible rfl))
          apply txt_move rfl rfl; (· (simp only [Act.put, Act.eval, List.setIfInBounds_toArray, List.set_cons_zero, List.set_cons_succ, Array.getD_eq_getD_getElem?, List.getElem?_toArray, List.getElem?_cons_zero, List.getElem?_cons_succ, Option.getD_some]; with_reducible rfl))
          apply txt_pure rfl rfl rfl; (· (intro w; go_simp; (try go_bits); with_reducible rfl)); (· (simp only [Act.put, Act.eval, List.setIfInBounds_toArray, List.set_cons_zero, List.set_cons_succ, Array.getD_eq_getD_getElem?, List.getElem?_toArray, List.getElem?_cons_zero, List.getElem?_cons_succ, Option.getD_some]; with_reducible rfl))
          apply txt_read rfl rfl rfl; (· (go_simp; with_reducible rfl)); (· (simp only [Act.put, Act.eval, List.setIfInBounds_toArray, List.set_cons_zero, List.set_cons_succ, Array.getD_eq_getD_getElem?, List.getElem?_toArray, List.getElem?_cons_zero, List.getElem?_cons_succ, Option.getD_some]; with_reducible rfl))
          apply txt_pure rfl rfl rfl; (· (intro w; go_simp; (try go_bits); with_reducible rfl)); (· (simp only [Act.put, Act.eval, List.setIfInBounds_toArray, List.set_cons_zero, List.set_cons_succ, Array.getD_eq_getD_getElem?, List.getElem?_toArray, List.getElem?_cons_zero, List.getElem?_cons_succ, Option.getD_some]; with_reducible rfl))
          apply txt_pure rfl rfl rfl; (· (intro w; go_simp; (try go_bits); with_reducible rfl)); (· (simp only [Act.put, Act.eval, List.setIfInBounds_toArray, List.set_cons_zero, List.set_cons_succ, Array.getD_eq_getD_getElem?, List.getElem?_toArray, List.getElem?_cons_zero, List.getElem?_cons_succ, Option.getD_some]; with_reducible rfl))
          apply txt_do rfl rfl rfl; (· (go_simp; with_reducible rfl)); (· (simp only [Act.put, Act.eval, List.setIfInBounds_toArray, List.set_cons_zero, List.set_cons_succ, Array.getD_eq_getD_getElem?, List.getElem?_toArray, List.getElem?_cons_zero, List.getElem?_cons_succ, Option.getD_some]; with_reducible rfl))
          with_reducible refine txt_nil ?_
          go_wp2
          go_roundw
          case rel =>
            refine ⟨k + 1, by go_num, by omega, ?_, ?_, ?_⟩
            · have := (hG.set k (by omega) (x + y)).drew; rw [hsum.out] at this; exact this
            · exact (hV.other (by simp; omega) _).drew
            · exact (hb.setCell (.inl rfl) _).drew
          case measure => simp [intOf]; omega
        · obtain rfl : k = 5 := by omega
          clear hlk hk
          go_wp2
          go_end0
          exact ⟨rfl, hG, hb⟩
end Go.Proofs.Ytndiagcpinmefaa.Dg
