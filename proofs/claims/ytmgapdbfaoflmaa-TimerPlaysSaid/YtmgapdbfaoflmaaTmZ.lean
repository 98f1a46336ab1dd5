/- TimerPlays walked. -/
import Derived.Test.YtmgapdbfaoflmaaTmY
import Derived.Test.YtmgapdbfaoflmaaTmN
namespace Go.Proofs.Ytmgapdbfaoflmaa.Tm
open Go.RowKit Rt
set_option linter.unusedSimpArgs false
set_option linter.unusedVariables false
theorem dueS_rest' (T : List It) (now : Int) : dueS T now ++ restS T now = T := List.takeWhile_append_dropWhile
/-- Deeds that lie in a row. -/
def RowD (w : World) (a : Option Addr) (n : Nat) : Prop := ∀ j, j < n → ∃ b off x y z, a = some ⟨b, off, none⟩ ∧ wf x ∧ wf y ∧ wf z ∧ ∀ w', Below w.heap.size w w' → w'.cell? ⟨b, off + j * 3, none⟩ = some (.int .i64 x) ∧ w'.cell? ⟨b, off + j * 3 + 1, none⟩ = some (.int .i64 y) ∧ w'.cell? ⟨b, off + j * 3 + 2, none⟩ = some (.int .i64 z)
set_option maxRecDepth 100000 in
set_option maxHeartbeats 8000000 in
theorem TimerPlays_any {w : World} {a : Option Addr} {n c : Nat} (hnc : n ≤ c) (hcm : c ≤ maxLen) (hD : RowD w a n) :
    Calls Try.prog 6 #[.slice a n c] w fun e w' => e = .returned (.bool true) ∧ Below w.heap.size w w' := by
  have hcm' : (c : Int) ≤ 9223372036854775807 := by unfold maxLen at hcm; omega
  have hDH := Lib.hid hD
  clear hD
  go_enter Try.func6, Try.ntmps6
  go_wp2_with fail
  refine (examples_any w).mono ?_
  rintro e w1 ⟨rfl, hb1⟩
  go_wp2_with fail
  refine (New_any w1).mono ?_
  rintro e w2 ⟨rfl, h2, hb2⟩
  have hTO := TO.new hb1 h2 hb2
  have hb3 : Below w2.heap.size w2 (w2.alloc (.cells #[.slice none 0 0] 58)) := (Below.refl _ _).alloc (Nat.le_refl _) _
  have hRT : RefT (w2.alloc (.cells #[.slice none 0 0] 58)) w2.heap.size (.slice none 0 0) [] := ⟨Array.getElem?_push_size, ⟨none, 0, rfl, by simp, by simp, by simp, by simp⟩, by simp [Value.ownBlock]⟩
  have hs2 := hTO.below.size
  have hpn : ¬ Mine (w1.heap.size + 1) w1.heap.size (.slice none 0 0) w2.heap.size := fun e => by have := hTO.t.mine_lt e; omega
  have hPI : PI w (w2.alloc (.cells #[.slice none 0 0] 58)) (w1.heap.size + 1) w1.heap.size w2.heap.size (.slice none 0 0) (.slice none 0 0) [] := ⟨hTO.later hb3, hRT, hs2, hpn, fun h0 => by simp at h0⟩
  clear hb1 h2 hb2 hTO hb3 hRT hs2 hpn
  obtain ⟨tb, htb⟩ : ∃ t, w1.heap.size + 1 = t := ⟨_, rfl⟩
  rw [htb] at hPI ⊢
  obtain ⟨bm, hbm⟩ : ∃ t, w1.heap.size = t := ⟨_, rfl⟩
  rw [hbm] at hPI
  obtain ⟨p, hp⟩ : ∃ t, w2.heap.size = t := ⟨_, rfl⟩
  obtain ⟨W3, hW3⟩ : ∃ W, w2.alloc (.cells #[.slice none 0 0] 58) = W := ⟨_, rfl⟩
  rw [hp, hW3] at hPI
  have hpH := Lib.hid hp
  have hW3H := Lib.hid hW3
  clear htb hbm hp hW3
  go_wp2_with fail
  rw [hpH.out, hW3H.out]
  go_loopw [6] (fun i wr => ∃ (k : Nat) (S : List It) (v u : Value), i = .int .i64 k ∧ k ≤ n ∧ k ≤ 200 ∧ S.length ≤ k ∧ PI w wr tb bm p v u S) (fun i _ => n - (intOf i).toNat)
  case atStart => exact ⟨0, [], _, _, rfl, Nat.zero_le _, by omega, by simp, hPI⟩
  case round =>
    clear hPI
    obtain ⟨k, S, v, u, rfl, hk, hk2, hSk, hI⟩ := hrel
    by_cases hkn : k < n
    · have hkn' : (k : Int) < n := by omega
      by_cases hk200 : k < 200
      · have hk200' : (k : Int) < 200 := by omega
        obtain ⟨b, off, x, y, z, hba, hwx, hwy, hwz, hc⟩ := hDH.out k hkn
        obtain ⟨q0, q1, q2⟩ := hc wr hI.to.below
        subst hba
        have hI2 := hI.later (w' := wr.alloc (.cells #[.int .i64 x, .int .i64 y, .int .i64 z] 60)) ((Below.refl _ _).alloc (Nat.le_refl _) _)
        have hd2 : (wr.alloc (.cells #[.int .i64 x, .int .i64 y, .int .i64 z] 60)).heap[wr.heap.size]? = some (.cells #[.int .i64 x, .int .i64 y, .int .i64 z] 60 (0, 0)) := Array.getElem?_push_size
        have hpk := fun w => pick_any x 4 w hwx (by omega) (by omega)
        have hpb := pk_bd x 4 (by omega)
        obtain ⟨kd, hkd⟩ : ∃ t, pk x 4 = t := ⟨_, rfl⟩
        rw [hkd] at hpk hpb
        have hpkH := Lib.hid hpk
        have hI2H := Lib.hid hI2
        have hd2H := Lib.hid hd2
        have hdn0 : ¬ Mine tb bm v wr.heap.size := fun e => by have := hI.to.t.mine_lt e; omega
        have hdp : wr.heap.size ≠ p := by have := hI.ref.lt; omega
        clear hc hI hpk hkd hI2 hd2
        have hvt := Lib.hid (fun k (h : Mine tb bm v k) => hI2H.out.to.t.mine_lt h)
        have hdn : ¬ Mine tb bm v wr.heap.size := hdn0
        go_wp2_with fail
        refine (hpkH.out _).mono ?_
        rintro e w4 ⟨rfl, rfl⟩
        obtain ⟨W4, hW4⟩ : ∃ W, wr.alloc (.cells #[.int .i64 x, .int .i64 y, .int .i64 z] 60) = W := ⟨_, rfl⟩
        have hI4 := hI2H.out
        have hd4 := hd2H.out
        rw [hW4] at hI4 hd4 ⊢
        obtain ⟨db, hdb⟩ : ∃ t, wr.heap.size = t := ⟨_, rfl⟩
        rw [hdb] at hd4 hdn ⊢
        rw [hdb] at hdp
        clear hW4 hdb hI2H hd2H hvt hpkH q0 q1 q2
        have hdl := (Array.getElem?_eq_some_iff.1 hd4).1
        have d0 : W4.cell? ⟨db, 0, none⟩ = some (.int .i64 x) := by simp [World.cell?, hd4]
        have d1 : W4.cell? ⟨db, 1, none⟩ = some (.int .i64 y) := by simp [World.cell?, hd4]
        have d2 : W4.cell? ⟨db, 2, none⟩ = some (.int .i64 z) := by simp [World.cell?, hd4]
        have hd4H := Lib.hid hd4
        have hSb : S.length < 1099511627775 := by omega
        clear hd4
        obtain ⟨hpb0, hpb1⟩ := hpb
        rcases (by omega : kd = 0 ∨ kd = 1 ∨ kd = 2 ∨ kd = 3) with rfl | rfl | rfl | rfl
        · by_cases hz : z < 0
          · go_wp2_with fail
            refine (Set_neg _ tb y z hz).mono ?_
            rintro e w5 ⟨rfl, rfl⟩
            go_wp2_with fail
            refine (RSet_neg _ p y z hz).mono ?_
            rintro e w6 ⟨rfl, rfl⟩
            have hJ := hI4
            have hSn : S.length ≤ k + 1 := by omega
            clear hI4 d0 d1 d2 hd4H
            have hr := hJ.ref
            obtain ⟨a6, c6, hu6e, _⟩ := hr.row
            first | subst hu6e | cases hu6e
            have c60 := hr.c0
            obtain ⟨l6, hl6⟩ : ∃ l, S.length = l := ⟨_, rfl⟩
            have hlen := fun w h => Len_S (w := w) (tb := tb) (bm := bm) (v := v) (S := S) h
            rw [hl6] at c60 hlen
            have htd := hJ.to.t.drew
            have hJH := Lib.hid (hJ.later ((Below.refl _ _).drew))
            have hlenH := Lib.hid hlen
            have hl6H := Lib.hid hl6
            clear hr hJ hl6 hlen
            go_upto_region 33 with (fail)
            refine Rt.wp_region_text [0, 0, 0, 0, 1, 0, 0, 0, 1, 0, 0, 0] (by kernel_rfl) (by kernel_rfl) ?_
            apply txt_move rfl rfl; (· (simp only [Act.put, Act.eval, List.setIfInBounds_toArray, List.set_cons_zero, List.set_cons_succ, Array.getD_eq_getD_getElem?, List.getElem?_toArray, List.getElem?_cons_zero, List.getElem?_cons_succ, Option.getD_some, List.getElem_toArray, List.getElem_cons_succ, List.getElem_cons_zero]; with_reducible rfl))
            apply txt_pure rfl rfl rfl; (· (intro w; go_simp; with_reducible rfl)); (· (simp only [Act.put, Act.eval, List.setIfInBounds_toArray, List.set_cons_zero, List.set_cons_succ, Array.getD_eq_getD_getElem?, List.getElem?_toArray, List.getElem?_cons_zero, List.getElem?_cons_succ, Option.getD_some, List.getElem_toArray, List.getElem_cons_succ, List.getElem_cons_zero]; with_reducible rfl))
            apply txt_move rfl rfl; (· (simp only [Act.put, Act.eval, List.setIfInBounds_toArray, List.set_cons_zero, List.set_cons_succ, Array.getD_eq_getD_getElem?, List.getElem?_toArray, List.getElem?_cons_zero, List.getElem?_cons_succ, Option.getD_some, List.getElem_toArray, List.getElem_cons_succ, List.getElem_cons_zero]; with_reducible rfl))
            apply txt_pure rfl rfl rfl; (· (intro w; go_simp; with_reducible rfl)); (· (simp only [Act.put, Act.eval, List.setIfInBounds_toArray, List.set_cons_zero, List.set_cons_succ, Array.getD_eq_getD_getElem?, List.getElem?_toArray, List.getElem?_cons_zero, List.getElem?_cons_succ, Option.getD_some, List.getElem_toArray, List.getElem_cons_succ, List.getElem_cons_zero]; with_reducible rfl))
            apply txt_quiet rfl rfl rfl; (· (go_simp; exact ⟨rfl, rfl⟩)); (· (exact hlenH.out _ htd)); (· (simp only [Act.put, Act.eval, List.setIfInBounds_toArray, List.set_cons_zero, List.set_cons_succ, Array.getD_eq_getD_getElem?, List.getElem?_toArray, List.getElem?_cons_zero, List.getElem?_cons_succ, Option.getD_some, List.getElem_toArray, List.getElem_cons_succ, List.getElem_cons_zero]; with_reducible rfl))
            apply txt_pure rfl rfl rfl; (· (intro w; go_simp; with_reducible rfl)); (· (simp only [Act.put, Act.eval, List.setIfInBounds_toArray, List.set_cons_zero, List.set_cons_succ, Array.getD_eq_getD_getElem?, List.getElem?_toArray, List.getElem?_cons_zero, List.getElem?_cons_succ, Option.getD_some, List.getElem_toArray, List.getElem_cons_succ, List.getElem_cons_zero]; with_reducible rfl))
            apply txt_pure rfl rfl rfl; (· (intro w; go_simp; with_reducible rfl)); (· (simp only [Act.put, Act.eval, List.setIfInBounds_toArray, List.set_cons_zero, List.set_cons_succ, Array.getD_eq_getD_getElem?, List.getElem?_toArray, List.getElem?_cons_zero, List.getElem?_cons_succ, Option.getD_some, List.getElem_toArray, List.getElem_cons_succ, List.getElem_cons_zero]; with_reducible rfl))
            apply txt_pure rfl rfl rfl; (· (intro w; go_simp; with_reducible rfl)); (· (simp only [Act.put, Act.eval, List.setIfInBounds_toArray, List.set_cons_zero, List.set_cons_succ, Array.getD_eq_getD_getElem?, List.getElem?_toArray, List.getElem?_cons_zero, List.getElem?_cons_succ, Option.getD_some, List.getElem_toArray, List.getElem_cons_succ, List.getElem_cons_zero]; with_reducible rfl))
            apply txt_read rfl rfl rfl; (· (go_simp; with_reducible rfl)); (· (simp only [Act.put, Act.eval, List.setIfInBounds_toArray, List.set_cons_zero, List.set_cons_succ, Array.getD_eq_getD_getElem?, List.getElem?_toArray, List.getElem?_cons_zero, List.getElem?_cons_succ, Option.getD_some, List.getElem_toArray, List.getElem_cons_succ, List.getElem_cons_zero]; with_reducible rfl))
            apply txt_pure rfl rfl rfl; (· (intro w; go_simp; with_reducible rfl)); (· (simp only [Act.put, Act.eval, List.setIfInBounds_toArray, List.set_cons_zero, List.set_cons_succ, Array.getD_eq_getD_getElem?, List.getElem?_toArray, List.getElem?_cons_zero, List.getElem?_cons_succ, Option.getD_some, List.getElem_toArray, List.getElem_cons_succ, List.getElem_cons_zero]; with_reducible rfl))
            apply txt_pure (v := .bool false) rfl rfl rfl; (· (intro w; go_simp; try rfl)); (· (simp only [Act.put, Act.eval, List.setIfInBounds_toArray, List.set_cons_zero, List.set_cons_succ, Array.getD_eq_getD_getElem?, List.getElem?_toArray, List.getElem?_cons_zero, List.getElem?_cons_succ, Option.getD_some, List.getElem_toArray, List.getElem_cons_succ, List.getElem_cons_zero]; with_reducible rfl))
            apply txt_pure rfl rfl rfl; (· (intro w; go_simp; with_reducible rfl)); (· (simp only [Act.put, Act.eval, List.setIfInBounds_toArray, List.set_cons_zero, List.set_cons_succ, Array.getD_eq_getD_getElem?, List.getElem?_toArray, List.getElem?_cons_zero, List.getElem?_cons_succ, Option.getD_some, List.getElem_toArray, List.getElem_cons_succ, List.getElem_cons_zero]; with_reducible rfl))
            with_reducible refine txt_nil ?_
            go_wp2
            go_roundw
            case rel => exact ⟨k + 1, S, v, _, by go_num, by omega, by omega, by omega, hJH.out⟩
            case measure => simp [intOf]; omega
          · have hz0 : 0 ≤ z := by omega
            have ht4 := hI4.to.t
            go_wp2_with fail
            refine (Set_S ht4 y z hwy hwz hz0 hSb).mono ?_
            rintro e w5 ⟨rfl, v5, hT5, hv5, hk5⟩
            have hM := hI4.timer hT5 hv5 hk5
            have hd5 := (hk5.block db hdl hdn).trans hd4H.out
            have d1' : w5.cell? ⟨db, 1, none⟩ = some (.int .i64 y) := by simp [World.cell?, hd5]
            have d2' : w5.cell? ⟨db, 2, none⟩ = some (.int .i64 z) := by simp [World.cell?, hd5]
            clear hT5 hv5 hk5 ht4 d0 d1 d2
            have hr5 := hM.ref
            go_wp2_with fail
            refine (RSet_any hr5 y z hwy hwz hz0 hSb).mono ?_
            rintro e w6 ⟨rfl, u6, hR6, hu6, hk6⟩
            have hJ := hM.other hR6 (.inr (.inr hu6)) hk6
            have hSn : (insS (eraseS S y) (y, z)).length ≤ k + 1 := by
              rw [insS_length]; have := eraseS_length_le S y; omega
            obtain ⟨S6, hS6⟩ : ∃ T, insS (eraseS S y) (y, z) = T := ⟨_, rfl⟩
            rw [hS6] at hJ hSn
            clear hS6 hR6 hu6 hk6 hM hr5 hI4 hd5 d1' d2' hd4H
            have hr := hJ.ref
            obtain ⟨a6, c6, hu6e, _⟩ := hr.row
            first | subst hu6e | cases hu6e
            have c60 := hr.c0
            obtain ⟨l6, hl6⟩ : ∃ l, S6.length = l := ⟨_, rfl⟩
            have hlen := fun w h => Len_S (w := w) (tb := tb) (bm := bm) (v := v5) (S := S6) h
            rw [hl6] at c60 hlen
            have htd := hJ.to.t.drew
            have hJH := Lib.hid (hJ.later ((Below.refl _ _).drew))
            have hlenH := Lib.hid hlen
            have hl6H := Lib.hid hl6
            clear hr hJ hl6 hlen
            go_upto_region 33 with (fail)
            refine Rt.wp_region_text [0, 0, 0, 0, 1, 0, 0, 0, 1, 0, 0, 0] (by kernel_rfl) (by kernel_rfl) ?_
            apply txt_move rfl rfl; (· (simp only [Act.put, Act.eval, List.setIfInBounds_toArray, List.set_cons_zero, List.set_cons_succ, Array.getD_eq_getD_getElem?, List.getElem?_toArray, List.getElem?_cons_zero, List.getElem?_cons_succ, Option.getD_some, List.getElem_toArray, List.getElem_cons_succ, List.getElem_cons_zero]; with_reducible rfl))
            apply txt_pure rfl rfl rfl; (· (intro w; go_simp; with_reducible rfl)); (· (simp only [Act.put, Act.eval, List.setIfInBounds_toArray, List.set_cons_zero, List.set_cons_succ, Array.getD_eq_getD_getElem?, List.getElem?_toArray, List.getElem?_cons_zero, List.getElem?_cons_succ, Option.getD_some, List.getElem_toArray, List.getElem_cons_succ, List.getElem_cons_zero]; with_reducible rfl))
            apply txt_move rfl rfl; (· (simp only [Act.put, Act.eval, List.setIfInBounds_toArray, List.set_cons_zero, List.set_cons_succ, Array.getD_eq_getD_getElem?, List.getElem?_toArray, List.getElem?_cons_zero, List.getElem?_cons_succ, Option.getD_some, List.getElem_toArray, List.getElem_cons_succ, List.getElem_cons_zero]; with_reducible rfl))
            apply txt_pure rfl rfl rfl; (· (intro w; go_simp; with_reducible rfl)); (· (simp only [Act.put, Act.eval, List.setIfInBounds_toArray, List.set_cons_zero, List.set_cons_succ, Array.getD_eq_getD_getElem?, List.getElem?_toArray, List.getElem?_cons_zero, List.getElem?_cons_succ, Option.getD_some, List.getElem_toArray, List.getElem_cons_succ, List.getElem_cons_zero]; with_reducible rfl))
            apply txt_quiet rfl rfl rfl; (· (go_simp; exact ⟨rfl, rfl⟩)); (· (exact hlenH.out _ htd)); (· (simp only [Act.put, Act.eval, List.setIfInBounds_toArray, List.set_cons_zero, List.set_cons_succ, Array.getD_eq_getD_getElem?, List.getElem?_toArray, List.getElem?_cons_zero, List.getElem?_cons_succ, Option.getD_some, List.getElem_toArray, List.getElem_cons_succ, List.getElem_cons_zero]; with_reducible rfl))
            apply txt_pure rfl rfl rfl; (· (intro w; go_simp; with_reducible rfl)); (· (simp only [Act.put, Act.eval, List.setIfInBounds_toArray, List.set_cons_zero, List.set_cons_succ, Array.getD_eq_getD_getElem?, List.getElem?_toArray, List.getElem?_cons_zero, List.getElem?_cons_succ, Option.getD_some, List.getElem_toArray, List.getElem_cons_succ, List.getElem_cons_zero]; with_reducible rfl))
            apply txt_pure rfl rfl rfl; (· (intro w; go_simp; with_reducible rfl)); (· (simp only [Act.put, Act.eval, List.setIfInBounds_toArray, List.set_cons_zero, List.set_cons_succ, Array.getD_eq_getD_getElem?, List.getElem?_toArray, List.getElem?_cons_zero, List.getElem?_cons_succ, Option.getD_some, List.getElem_toArray, List.getElem_cons_succ, List.getElem_cons_zero]; with_reducible rfl))
            apply txt_pure rfl rfl rfl; (· (intro w; go_simp; with_reducible rfl)); (· (simp only [Act.put, Act.eval, List.setIfInBounds_toArray, List.set_cons_zero, List.set_cons_succ, Array.getD_eq_getD_getElem?, List.getElem?_toArray, List.getElem?_cons_zero, List.getElem?_cons_succ, Option.getD_some, List.getElem_toArray, List.getElem_cons_succ, List.getElem_cons_zero]; with_reducible rfl))
            apply txt_read rfl rfl rfl; (· (go_simp; with_reducible rfl)); (· (simp only [Act.put, Act.eval, List.setIfInBounds_toArray, List.set_cons_zero, List.set_cons_succ, Array.getD_eq_getD_getElem?, List.getElem?_toArray, List.getElem?_cons_zero, List.getElem?_cons_succ, Option.getD_some, List.getElem_toArray, List.getElem_cons_succ, List.getElem_cons_zero]; with_reducible rfl))
            apply txt_pure rfl rfl rfl; (· (intro w; go_simp; with_reducible rfl)); (· (simp only [Act.put, Act.eval, List.setIfInBounds_toArray, List.set_cons_zero, List.set_cons_succ, Array.getD_eq_getD_getElem?, List.getElem?_toArray, List.getElem?_cons_zero, List.getElem?_cons_succ, Option.getD_some, List.getElem_toArray, List.getElem_cons_succ, List.getElem_cons_zero]; with_reducible rfl))
            apply txt_pure (v := .bool false) rfl rfl rfl; (· (intro w; go_simp; try rfl)); (· (simp only [Act.put, Act.eval, List.setIfInBounds_toArray, List.set_cons_zero, List.set_cons_succ, Array.getD_eq_getD_getElem?, List.getElem?_toArray, List.getElem?_cons_zero, List.getElem?_cons_succ, Option.getD_some, List.getElem_toArray, List.getElem_cons_succ, List.getElem_cons_zero]; with_reducible rfl))
            apply txt_pure rfl rfl rfl; (· (intro w; go_simp; with_reducible rfl)); (· (simp only [Act.put, Act.eval, List.setIfInBounds_toArray, List.set_cons_zero, List.set_cons_succ, Array.getD_eq_getD_getElem?, List.getElem?_toArray, List.getElem?_cons_zero, List.getElem?_cons_succ, Option.getD_some, List.getElem_toArray, List.getElem_cons_succ, List.getElem_cons_zero]; with_reducible rfl))
            with_reducible refine txt_nil ?_
            go_wp2
            go_roundw
            case rel => exact ⟨k + 1, S6, v5, _, by go_num, by omega, by omega, by omega, hJH.out⟩
            case measure => simp [intOf]; omega
        · have ht4 := hI4.to.t
          go_wp2_with fail
          refine (Cancel_S ht4 y hwy (by omega)).mono ?_
          rintro e w5 ⟨rfl, v5, hT5, hv5, hk5⟩
          have hM := hI4.timer hT5 (.inl hv5) hk5
          have hd5 := (hk5.block db hdl hdn).trans hd4H.out
          have d1' : w5.cell? ⟨db, 1, none⟩ = some (.int .i64 y) := by simp [World.cell?, hd5]
          clear hT5 hv5 hk5 ht4 d0 d1 d2
          have hr5 := hM.ref
          go_wp2_with fail
          refine (RCancel_any hr5 y hwy (by omega)).mono ?_
          rintro e w6 ⟨rfl, u6, hR6, hu6, hk6⟩
          have hle := eraseS_length_le S y
          have hJ := hM.other hR6 (by
            rcases hu6 with e | e | e
            · by_cases h0 : 0 < S.length
              · exact .inl ⟨h0, e⟩
              · exact .inr (.inl (List.length_eq_zero_iff.1 (by omega)))
            · exact .inr (.inr (.inl e))
            · exact .inr (.inr (.inr e))) hk6
          have hSn : (eraseS S y).length ≤ k + 1 := by omega
          obtain ⟨S6, hS6⟩ : ∃ T, eraseS S y = T := ⟨_, rfl⟩
          rw [hS6] at hJ hSn
          obtain ⟨hb, hhb⟩ : ∃ b, hasS S y = b := ⟨_, rfl⟩
          rw [hhb]
          clear hS6 hR6 hu6 hk6 hM hr5 hI4 hd5 d1' hd4H hhb hle
          cases hb with
          | true =>
            have hr := hJ.ref
            obtain ⟨a6, c6, hu6e, _⟩ := hr.row
            first | subst hu6e | cases hu6e
            have c60 := hr.c0
            obtain ⟨l6, hl6⟩ : ∃ l, S6.length = l := ⟨_, rfl⟩
            have hlen := fun w h => Len_S (w := w) (tb := tb) (bm := bm) (v := v5) (S := S6) h
            rw [hl6] at c60 hlen
            have htd := hJ.to.t.drew
            have hJH := Lib.hid (hJ.later ((Below.refl _ _).drew))
            have hlenH := Lib.hid hlen
            have hl6H := Lib.hid hl6
            clear hr hJ hl6 hlen
            go_upto_region 33 with (fail)
            refine Rt.wp_region_text [0, 0, 0, 0, 1, 0, 0, 0, 1, 0, 0, 0] (by kernel_rfl) (by kernel_rfl) ?_
            apply txt_move rfl rfl; (· (simp only [Act.put, Act.eval, List.setIfInBounds_toArray, List.set_cons_zero, List.set_cons_succ, Array.getD_eq_getD_getElem?, List.getElem?_toArray, List.getElem?_cons_zero, List.getElem?_cons_succ, Option.getD_some, List.getElem_toArray, List.getElem_cons_succ, List.getElem_cons_zero]; with_reducible rfl))
            apply txt_pure rfl rfl rfl; (· (intro w; go_simp; with_reducible rfl)); (· (simp only [Act.put, Act.eval, List.setIfInBounds_toArray, List.set_cons_zero, List.set_cons_succ, Array.getD_eq_getD_getElem?, List.getElem?_toArray, List.getElem?_cons_zero, List.getElem?_cons_succ, Option.getD_some, List.getElem_toArray, List.getElem_cons_succ, List.getElem_cons_zero]; with_reducible rfl))
            apply txt_move rfl rfl; (· (simp only [Act.put, Act.eval, List.setIfInBounds_toArray, List.set_cons_zero, List.set_cons_succ, Array.getD_eq_getD_getElem?, List.getElem?_toArray, List.getElem?_cons_zero, List.getElem?_cons_succ, Option.getD_some, List.getElem_toArray, List.getElem_cons_succ, List.getElem_cons_zero]; with_reducible rfl))
            apply txt_pure rfl rfl rfl; (· (intro w; go_simp; with_reducible rfl)); (· (simp only [Act.put, Act.eval, List.setIfInBounds_toArray, List.set_cons_zero, List.set_cons_succ, Array.getD_eq_getD_getElem?, List.getElem?_toArray, List.getElem?_cons_zero, List.getElem?_cons_succ, Option.getD_some, List.getElem_toArray, List.getElem_cons_succ, List.getElem_cons_zero]; with_reducible rfl))
            apply txt_quiet rfl rfl rfl; (· (go_simp; exact ⟨rfl, rfl⟩)); (· (exact hlenH.out _ htd)); (· (simp only [Act.put, Act.eval, List.setIfInBounds_toArray, List.set_cons_zero, List.set_cons_succ, Array.getD_eq_getD_getElem?, List.getElem?_toArray, List.getElem?_cons_zero, List.getElem?_cons_succ, Option.getD_some, List.getElem_toArray, List.getElem_cons_succ, List.getElem_cons_zero]; with_reducible rfl))
            apply txt_pure rfl rfl rfl; (· (intro w; go_simp; with_reducible rfl)); (· (simp only [Act.put, Act.eval, List.setIfInBounds_toArray, List.set_cons_zero, List.set_cons_succ, Array.getD_eq_getD_getElem?, List.getElem?_toArray, List.getElem?_cons_zero, List.getElem?_cons_succ, Option.getD_some, List.getElem_toArray, List.getElem_cons_succ, List.getElem_cons_zero]; with_reducible rfl))
            apply txt_pure rfl rfl rfl; (· (intro w; go_simp; with_reducible rfl)); (· (simp only [Act.put, Act.eval, List.setIfInBounds_toArray, List.set_cons_zero, List.set_cons_succ, Array.getD_eq_getD_getElem?, List.getElem?_toArray, List.getElem?_cons_zero, List.getElem?_cons_succ, Option.getD_some, List.getElem_toArray, List.getElem_cons_succ, List.getElem_cons_zero]; with_reducible rfl))
            apply txt_pure rfl rfl rfl; (· (intro w; go_simp; with_reducible rfl)); (· (simp only [Act.put, Act.eval, List.setIfInBounds_toArray, List.set_cons_zero, List.set_cons_succ, Array.getD_eq_getD_getElem?, List.getElem?_toArray, List.getElem?_cons_zero, List.getElem?_cons_succ, Option.getD_some, List.getElem_toArray, List.getElem_cons_succ, List.getElem_cons_zero]; with_reducible rfl))
            apply txt_read rfl rfl rfl; (· (go_simp; with_reducible rfl)); (· (simp only [Act.put, Act.eval, List.setIfInBounds_toArray, List.set_cons_zero, List.set_cons_succ, Array.getD_eq_getD_getElem?, List.getElem?_toArray, List.getElem?_cons_zero, List.getElem?_cons_succ, Option.getD_some, List.getElem_toArray, List.getElem_cons_succ, List.getElem_cons_zero]; with_reducible rfl))
            apply txt_pure rfl rfl rfl; (· (intro w; go_simp; with_reducible rfl)); (· (simp only [Act.put, Act.eval, List.setIfInBounds_toArray, List.set_cons_zero, List.set_cons_succ, Array.getD_eq_getD_getElem?, List.getElem?_toArray, List.getElem?_cons_zero, List.getElem?_cons_succ, Option.getD_some, List.getElem_toArray, List.getElem_cons_succ, List.getElem_cons_zero]; with_reducible rfl))
            apply txt_pure (v := .bool false) rfl rfl rfl; (· (intro w; go_simp; try rfl)); (· (simp only [Act.put, Act.eval, List.setIfInBounds_toArray, List.set_cons_zero, List.set_cons_succ, Array.getD_eq_getD_getElem?, List.getElem?_toArray, List.getElem?_cons_zero, List.getElem?_cons_succ, Option.getD_some, List.getElem_toArray, List.getElem_cons_succ, List.getElem_cons_zero]; with_reducible rfl))
            apply txt_pure rfl rfl rfl; (· (intro w; go_simp; with_reducible rfl)); (· (simp only [Act.put, Act.eval, List.setIfInBounds_toArray, List.set_cons_zero, List.set_cons_succ, Array.getD_eq_getD_getElem?, List.getElem?_toArray, List.getElem?_cons_zero, List.getElem?_cons_succ, Option.getD_some, List.getElem_toArray, List.getElem_cons_succ, List.getElem_cons_zero]; with_reducible rfl))
            with_reducible refine txt_nil ?_
            go_wp2
            go_roundw
            case rel => exact ⟨k + 1, S6, v5, _, by go_num, by omega, by omega, by omega, hJH.out⟩
            case measure => simp [intOf]; omega
          | false =>
            have hr := hJ.ref
            obtain ⟨a6, c6, hu6e, _⟩ := hr.row
            first | subst hu6e | cases hu6e
            have c60 := hr.c0
            obtain ⟨l6, hl6⟩ : ∃ l, S6.length = l := ⟨_, rfl⟩
            have hlen := fun w h => Len_S (w := w) (tb := tb) (bm := bm) (v := v5) (S := S6) h
            rw [hl6] at c60 hlen
            have htd := hJ.to.t.drew
            have hJH := Lib.hid (hJ.later ((Below.refl _ _).drew))
            have hlenH := Lib.hid hlen
            have hl6H := Lib.hid hl6
            clear hr hJ hl6 hlen
            go_upto_region 33 with (fail)
            refine Rt.wp_region_text [0, 0, 0, 0, 1, 0, 0, 0, 1, 0, 0, 0] (by kernel_rfl) (by kernel_rfl) ?_
            apply txt_move rfl rfl; (· (simp only [Act.put, Act.eval, List.setIfInBounds_toArray, List.set_cons_zero, List.set_cons_succ, Array.getD_eq_getD_getElem?, List.getElem?_toArray, List.getElem?_cons_zero, List.getElem?_cons_succ, Option.getD_some, List.getElem_toArray, List.getElem_cons_succ, List.getElem_cons_zero]; with_reducible rfl))
            apply txt_pure rfl rfl rfl; (· (intro w; go_simp; with_reducible rfl)); (· (simp only [Act.put, Act.eval, List.setIfInBounds_toArray, List.set_cons_zero, List.set_cons_succ, Array.getD_eq_getD_getElem?, List.getElem?_toArray, List.getElem?_cons_zero, List.getElem?_cons_succ, Option.getD_some, List.getElem_toArray, List.getElem_cons_succ, List.getElem_cons_zero]; with_reducible rfl))
            apply txt_move rfl rfl; (· (simp only [Act.put, Act.eval, List.setIfInBounds_toArray, List.set_cons_zero, List.set_cons_succ, Array.getD_eq_getD_getElem?, List.getElem?_toArray, List.getElem?_cons_zero, List.getElem?_cons_succ, Option.getD_some, List.getElem_toArray, List.getElem_cons_succ, List.getElem_cons_zero]; with_reducible rfl))
            apply txt_pure rfl rfl rfl; (· (intro w; go_simp; with_reducible rfl)); (· (simp only [Act.put, Act.eval, List.setIfInBounds_toArray, List.set_cons_zero, List.set_cons_succ, Array.getD_eq_getD_getElem?, List.getElem?_toArray, List.getElem?_cons_zero, List.getElem?_cons_succ, Option.getD_some, List.getElem_toArray, List.getElem_cons_succ, List.getElem_cons_zero]; with_reducible rfl))
            apply txt_quiet rfl rfl rfl; (· (go_simp; exact ⟨rfl, rfl⟩)); (· (exact hlenH.out _ htd)); (· (simp only [Act.put, Act.eval, List.setIfInBounds_toArray, List.set_cons_zero, List.set_cons_succ, Array.getD_eq_getD_getElem?, List.getElem?_toArray, List.getElem?_cons_zero, List.getElem?_cons_succ, Option.getD_some, List.getElem_toArray, List.getElem_cons_succ, List.getElem_cons_zero]; with_reducible rfl))
            apply txt_pure rfl rfl rfl; (· (intro w; go_simp; with_reducible rfl)); (· (simp only [Act.put, Act.eval, List.setIfInBounds_toArray, List.set_cons_zero, List.set_cons_succ, Array.getD_eq_getD_getElem?, List.getElem?_toArray, List.getElem?_cons_zero, List.getElem?_cons_succ, Option.getD_some, List.getElem_toArray, List.getElem_cons_succ, List.getElem_cons_zero]; with_reducible rfl))
            apply txt_pure rfl rfl rfl; (· (intro w; go_simp; with_reducible rfl)); (· (simp only [Act.put, Act.eval, List.setIfInBounds_toArray, List.set_cons_zero, List.set_cons_succ, Array.getD_eq_getD_getElem?, List.getElem?_toArray, List.getElem?_cons_zero, List.getElem?_cons_succ, Option.getD_some, List.getElem_toArray, List.getElem_cons_succ, List.getElem_cons_zero]; with_reducible rfl))
            apply txt_pure rfl rfl rfl; (· (intro w; go_simp; with_reducible rfl)); (· (simp only [Act.put, Act.eval, List.setIfInBounds_toArray, List.set_cons_zero, List.set_cons_succ, Array.getD_eq_getD_getElem?, List.getElem?_toArray, List.getElem?_cons_zero, List.getElem?_cons_succ, Option.getD_some, List.getElem_toArray, List.getElem_cons_succ, List.getElem_cons_zero]; with_reducible rfl))
            apply txt_read rfl rfl rfl; (· (go_simp; with_reducible rfl)); (· (simp only [Act.put, Act.eval, List.setIfInBounds_toArray, List.set_cons_zero, List.set_cons_succ, Array.getD_eq_getD_getElem?, List.getElem?_toArray, List.getElem?_cons_zero, List.getElem?_cons_succ, Option.getD_some, List.getElem_toArray, List.getElem_cons_succ, List.getElem_cons_zero]; with_reducible rfl))
            apply txt_pure rfl rfl rfl; (· (intro w; go_simp; with_reducible rfl)); (· (simp only [Act.put, Act.eval, List.setIfInBounds_toArray, List.set_cons_zero, List.set_cons_succ, Array.getD_eq_getD_getElem?, List.getElem?_toArray, List.getElem?_cons_zero, List.getElem?_cons_succ, Option.getD_some, List.getElem_toArray, List.getElem_cons_succ, List.getElem_cons_zero]; with_reducible rfl))
            apply txt_pure (v := .bool false) rfl rfl rfl; (· (intro w; go_simp; try rfl)); (· (simp only [Act.put, Act.eval, List.setIfInBounds_toArray, List.set_cons_zero, List.set_cons_succ, Array.getD_eq_getD_getElem?, List.getElem?_toArray, List.getElem?_cons_zero, List.getElem?_cons_succ, Option.getD_some, List.getElem_toArray, List.getElem_cons_succ, List.getElem_cons_zero]; with_reducible rfl))
            apply txt_pure rfl rfl rfl; (· (intro w; go_simp; with_reducible rfl)); (· (simp only [Act.put, Act.eval, List.setIfInBounds_toArray, List.set_cons_zero, List.set_cons_succ, Array.getD_eq_getD_getElem?, List.getElem?_toArray, List.getElem?_cons_zero, List.getElem?_cons_succ, Option.getD_some, List.getElem_toArray, List.getElem_cons_succ, List.getElem_cons_zero]; with_reducible rfl))
            with_reducible refine txt_nil ?_
            go_wp2
            go_roundw
            case rel => exact ⟨k + 1, S6, v5, _, by go_num, by omega, by omega, by omega, hJH.out⟩
            case measure => simp [intOf]; omega
        · have ht4 := hI4.to.t
          cases S with
          | nil =>
            go_wp2_with fail
            refine (Next_nil ht4).mono ?_
            rintro e w5 ⟨rfl, hb5⟩
            have hJ := (hI4.later hb5).later (w' := w5.alloc (.cells #[.int .i64 0, .int .i64 0] 67)) ((Below.refl _ _).alloc (Nat.le_refl _) _)
            have hSn : ([] : List It).length ≤ k + 1 := by simp
            have hr := hJ.ref
            obtain ⟨a5, c5, hu5e, _⟩ := hr.row
            subst hu5e
            have c50 : (w5.alloc (.cells #[.int .i64 0, .int .i64 0] 67)).cell? ⟨p, 0, none⟩ = some (.slice a5 0 c5) := hr.c0
            clear hr ht4 hI4 hb5 d0 d1 d2 hd4H
            go_upto_region 33 with (fail)
            clear c50
            obtain ⟨S6, hS6⟩ : ∃ T, ([] : List It) = T := ⟨_, rfl⟩
            rw [hS6] at hJ hSn
            clear hS6
            have hr := hJ.ref
            obtain ⟨a6, c6, hu6e, _⟩ := hr.row
            first | subst hu6e | cases hu6e
            have c60 := hr.c0
            obtain ⟨l6, hl6⟩ : ∃ l, S6.length = l := ⟨_, rfl⟩
            have hlen := fun w h => Len_S (w := w) (tb := tb) (bm := bm) (v := v) (S := S6) h
            rw [hl6] at c60 hlen
            have htd := hJ.to.t.drew
            have hJH := Lib.hid (hJ.later ((Below.refl _ _).drew))
            have hlenH := Lib.hid hlen
            have hl6H := Lib.hid hl6
            clear hr hJ hl6 hlen
            refine Rt.wp_region_text [0, 0, 0, 0, 1, 0, 0, 0, 1, 0, 0, 0] (by kernel_rfl) (by kernel_rfl) ?_
            apply txt_move rfl rfl; (· (simp only [Act.put, Act.eval, List.setIfInBounds_toArray, List.set_cons_zero, List.set_cons_succ, Array.getD_eq_getD_getElem?, List.getElem?_toArray, List.getElem?_cons_zero, List.getElem?_cons_succ, Option.getD_some, List.getElem_toArray, List.getElem_cons_succ, List.getElem_cons_zero]; with_reducible rfl))
            apply txt_pure rfl rfl rfl; (· (intro w; go_simp; with_reducible rfl)); (· (simp only [Act.put, Act.eval, List.setIfInBounds_toArray, List.set_cons_zero, List.set_cons_succ, Array.getD_eq_getD_getElem?, List.getElem?_toArray, List.getElem?_cons_zero, List.getElem?_cons_succ, Option.getD_some, List.getElem_toArray, List.getElem_cons_succ, List.getElem_cons_zero]; with_reducible rfl))
            apply txt_move rfl rfl; (· (simp only [Act.put, Act.eval, List.setIfInBounds_toArray, List.set_cons_zero, List.set_cons_succ, Array.getD_eq_getD_getElem?, List.getElem?_toArray, List.getElem?_cons_zero, List.getElem?_cons_succ, Option.getD_some, List.getElem_toArray, List.getElem_cons_succ, List.getElem_cons_zero]; with_reducible rfl))
            apply txt_pure rfl rfl rfl; (· (intro w; go_simp; with_reducible rfl)); (· (simp only [Act.put, Act.eval, List.setIfInBounds_toArray, List.set_cons_zero, List.set_cons_succ, Array.getD_eq_getD_getElem?, List.getElem?_toArray, List.getElem?_cons_zero, List.getElem?_cons_succ, Option.getD_some, List.getElem_toArray, List.getElem_cons_succ, List.getElem_cons_zero]; with_reducible rfl))
            apply txt_quiet rfl rfl rfl; (· (go_simp; exact ⟨rfl, rfl⟩)); (· (exact hlenH.out _ htd)); (· (simp only [Act.put, Act.eval, List.setIfInBounds_toArray, List.set_cons_zero, List.set_cons_succ, Array.getD_eq_getD_getElem?, List.getElem?_toArray, List.getElem?_cons_zero, List.getElem?_cons_succ, Option.getD_some, List.getElem_toArray, List.getElem_cons_succ, List.getElem_cons_zero]; with_reducible rfl))
            apply txt_pure rfl rfl rfl; (· (intro w; go_simp; with_reducible rfl)); (· (simp only [Act.put, Act.eval, List.setIfInBounds_toArray, List.set_cons_zero, List.set_cons_succ, Array.getD_eq_getD_getElem?, List.getElem?_toArray, List.getElem?_cons_zero, List.getElem?_cons_succ, Option.getD_some, List.getElem_toArray, List.getElem_cons_succ, List.getElem_cons_zero]; with_reducible rfl))
            apply txt_pure rfl rfl rfl; (· (intro w; go_simp; with_reducible rfl)); (· (simp only [Act.put, Act.eval, List.setIfInBounds_toArray, List.set_cons_zero, List.set_cons_succ, Array.getD_eq_getD_getElem?, List.getElem?_toArray, List.getElem?_cons_zero, List.getElem?_cons_succ, Option.getD_some, List.getElem_toArray, List.getElem_cons_succ, List.getElem_cons_zero]; with_reducible rfl))
            apply txt_pure rfl rfl rfl; (· (intro w; go_simp; with_reducible rfl)); (· (simp only [Act.put, Act.eval, List.setIfInBounds_toArray, List.set_cons_zero, List.set_cons_succ, Array.getD_eq_getD_getElem?, List.getElem?_toArray, List.getElem?_cons_zero, List.getElem?_cons_succ, Option.getD_some, List.getElem_toArray, List.getElem_cons_succ, List.getElem_cons_zero]; with_reducible rfl))
            apply txt_read rfl rfl rfl; (· (go_simp; with_reducible rfl)); (· (simp only [Act.put, Act.eval, List.setIfInBounds_toArray, List.set_cons_zero, List.set_cons_succ, Array.getD_eq_getD_getElem?, List.getElem?_toArray, List.getElem?_cons_zero, List.getElem?_cons_succ, Option.getD_some, List.getElem_toArray, List.getElem_cons_succ, List.getElem_cons_zero]; with_reducible rfl))
            apply txt_pure rfl rfl rfl; (· (intro w; go_simp; with_reducible rfl)); (· (simp only [Act.put, Act.eval, List.setIfInBounds_toArray, List.set_cons_zero, List.set_cons_succ, Array.getD_eq_getD_getElem?, List.getElem?_toArray, List.getElem?_cons_zero, List.getElem?_cons_succ, Option.getD_some, List.getElem_toArray, List.getElem_cons_succ, List.getElem_cons_zero]; with_reducible rfl))
            apply txt_pure (v := .bool false) rfl rfl rfl; (· (intro w; go_simp; try rfl)); (· (simp only [Act.put, Act.eval, List.setIfInBounds_toArray, List.set_cons_zero, List.set_cons_succ, Array.getD_eq_getD_getElem?, List.getElem?_toArray, List.getElem?_cons_zero, List.getElem?_cons_succ, Option.getD_some, List.getElem_toArray, List.getElem_cons_succ, List.getElem_cons_zero]; with_reducible rfl))
            apply txt_pure rfl rfl rfl; (· (intro w; go_simp; with_reducible rfl)); (· (simp only [Act.put, Act.eval, List.setIfInBounds_toArray, List.set_cons_zero, List.set_cons_succ, Array.getD_eq_getD_getElem?, List.getElem?_toArray, List.getElem?_cons_zero, List.getElem?_cons_succ, Option.getD_some, List.getElem_toArray, List.getElem_cons_succ, List.getElem_cons_zero]; with_reducible rfl))
            with_reducible refine txt_nil ?_
            go_wp2
            go_roundw
            case rel => exact ⟨k + 1, S6, v, _, by go_num, by omega, by omega, by omega, hJH.out⟩
            case measure => simp [intOf]; omega
          | cons q T =>
            obtain ⟨qi, qa⟩ := q
            go_wp2_with fail
            refine (Next_cons ht4 (by simp at hSb; omega)).mono ?_
            rintro e w5 ⟨rfl, hb5⟩
            have hI5 := hI4.later hb5
            have hI6 := hI5.later (w' := w5.alloc (.cells #[.int .i64 0, .int .i64 0] 67)) ((Below.refl _ _).alloc (Nat.le_refl _) _)
            have hJ := hI5.later (w' := w5.alloc (.cells #[.int .i64 qi, .int .i64 qa] 67)) ((Below.refl _ _).alloc (Nat.le_refl _) _)
            have hr := hI6.ref
            obtain ⟨a5, c5, hu5e, hlc5, _⟩ := hr.row
            subst hu5e
            obtain ⟨b5, off5, hab5, r0', r1'⟩ := hr.row.at 0 (by simp)
            subst hab5
            have r0 : (w5.alloc (.cells #[.int .i64 0, .int .i64 0] 67)).cell? ⟨b5, off5, none⟩ = some (.int .i64 qi) := by have := r0'; rw [Nat.zero_mul, Nat.add_zero] at this; exact this
            have r1 : (w5.alloc (.cells #[.int .i64 0, .int .i64 0] 67)).cell? ⟨b5, off5 + 1, none⟩ = some (.int .i64 qa) := by have := r1'; rw [Nat.zero_mul, Nat.add_zero] at this; exact this
            have c50 := hr.c0
            have c51 := hJ.ref.c0
            obtain ⟨l5, hl5⟩ : ∃ l, ((qi, qa) :: T).length = l := ⟨_, rfl⟩
            rw [hl5] at c50 c51 hlc5 hSk
            have hl50 : (0 : Int) < l5 := by have := hl5; simp only [List.length_cons] at this; omega
            have hl51 : l5 ≤ k := hSk
            have hSn : ((qi, qa) :: T).length ≤ k + 1 := by omega
            clear hr ht4 hI4 hI5 hI6 hb5 d0 d1 d2 hd4H r0' r1' hl5
            go_upto_region 33 with (fail)
            clear c50 c51 r0 r1
            obtain ⟨S6, hS6⟩ : ∃ T', (qi, qa) :: T = T' := ⟨_, rfl⟩
            rw [hS6] at hJ hSn
            clear hS6
            have hr := hJ.ref
            obtain ⟨a6, c6, hu6e, _⟩ := hr.row
            first | subst hu6e | cases hu6e
            have c60 := hr.c0
            obtain ⟨l6, hl6⟩ : ∃ l, S6.length = l := ⟨_, rfl⟩
            have hlen := fun w h => Len_S (w := w) (tb := tb) (bm := bm) (v := v) (S := S6) h
            rw [hl6] at c60 hlen
            have htd := hJ.to.t.drew
            have hJH := Lib.hid (hJ.later ((Below.refl _ _).drew))
            have hlenH := Lib.hid hlen
            have hl6H := Lib.hid hl6
            clear hr hJ hl6 hlen
            refine Rt.wp_region_text [0, 0, 0, 0, 1, 0, 0, 0, 1, 0, 0, 0] (by kernel_rfl) (by kernel_rfl) ?_
            apply txt_move rfl rfl; (· (simp only [Act.put, Act.eval, List.setIfInBounds_toArray, List.set_cons_zero, List.set_cons_succ, Array.getD_eq_getD_getElem?, List.getElem?_toArray, List.getElem?_cons_zero, List.getElem?_cons_succ, Option.getD_some, List.getElem_toArray, List.getElem_cons_succ, List.getElem_cons_zero]; with_reducible rfl))
            apply txt_pure rfl rfl rfl; (· (intro w; go_simp; with_reducible rfl)); (· (simp only [Act.put, Act.eval, List.setIfInBounds_toArray, List.set_cons_zero, List.set_cons_succ, Array.getD_eq_getD_getElem?, List.getElem?_toArray, List.getElem?_cons_zero, List.getElem?_cons_succ, Option.getD_some, List.getElem_toArray, List.getElem_cons_succ, List.getElem_cons_zero]; with_reducible rfl))
            apply txt_move rfl rfl; (· (simp only [Act.put, Act.eval, List.setIfInBounds_toArray, List.set_cons_zero, List.set_cons_succ, Array.getD_eq_getD_getElem?, List.getElem?_toArray, List.getElem?_cons_zero, List.getElem?_cons_succ, Option.getD_some, List.getElem_toArray, List.getElem_cons_succ, List.getElem_cons_zero]; with_reducible rfl))
            apply txt_pure rfl rfl rfl; (· (intro w; go_simp; with_reducible rfl)); (· (simp only [Act.put, Act.eval, List.setIfInBounds_toArray, List.set_cons_zero, List.set_cons_succ, Array.getD_eq_getD_getElem?, List.getElem?_toArray, List.getElem?_cons_zero, List.getElem?_cons_succ, Option.getD_some, List.getElem_toArray, List.getElem_cons_succ, List.getElem_cons_zero]; with_reducible rfl))
            apply txt_quiet rfl rfl rfl; (· (go_simp; exact ⟨rfl, rfl⟩)); (· (exact hlenH.out _ htd)); (· (simp only [Act.put, Act.eval, List.setIfInBounds_toArray, List.set_cons_zero, List.set_cons_succ, Array.getD_eq_getD_getElem?, List.getElem?_toArray, List.getElem?_cons_zero, List.getElem?_cons_succ, Option.getD_some, List.getElem_toArray, List.getElem_cons_succ, List.getElem_cons_zero]; with_reducible rfl))
            apply txt_pure rfl rfl rfl; (· (intro w; go_simp; with_reducible rfl)); (· (simp only [Act.put, Act.eval, List.setIfInBounds_toArray, List.set_cons_zero, List.set_cons_succ, Array.getD_eq_getD_getElem?, List.getElem?_toArray, List.getElem?_cons_zero, List.getElem?_cons_succ, Option.getD_some, List.getElem_toArray, List.getElem_cons_succ, List.getElem_cons_zero]; with_reducible rfl))
            apply txt_pure rfl rfl rfl; (· (intro w; go_simp; with_reducible rfl)); (· (simp only [Act.put, Act.eval, List.setIfInBounds_toArray, List.set_cons_zero, List.set_cons_succ, Array.getD_eq_getD_getElem?, List.getElem?_toArray, List.getElem?_cons_zero, List.getElem?_cons_succ, Option.getD_some, List.getElem_toArray, List.getElem_cons_succ, List.getElem_cons_zero]; with_reducible rfl))
            apply txt_pure rfl rfl rfl; (· (intro w; go_simp; with_reducible rfl)); (· (simp only [Act.put, Act.eval, List.setIfInBounds_toArray, List.set_cons_zero, List.set_cons_succ, Array.getD_eq_getD_getElem?, List.getElem?_toArray, List.getElem?_cons_zero, List.getElem?_cons_succ, Option.getD_some, List.getElem_toArray, List.getElem_cons_succ, List.getElem_cons_zero]; with_reducible rfl))
            apply txt_read rfl rfl rfl; (· (go_simp; with_reducible rfl)); (· (simp only [Act.put, Act.eval, List.setIfInBounds_toArray, List.set_cons_zero, List.set_cons_succ, Array.getD_eq_getD_getElem?, List.getElem?_toArray, List.getElem?_cons_zero, List.getElem?_cons_succ, Option.getD_some, List.getElem_toArray, List.getElem_cons_succ, List.getElem_cons_zero]; with_reducible rfl))
            apply txt_pure rfl rfl rfl; (· (intro w; go_simp; with_reducible rfl)); (· (simp only [Act.put, Act.eval, List.setIfInBounds_toArray, List.set_cons_zero, List.set_cons_succ, Array.getD_eq_getD_getElem?, List.getElem?_toArray, List.getElem?_cons_zero, List.getElem?_cons_succ, Option.getD_some, List.getElem_toArray, List.getElem_cons_succ, List.getElem_cons_zero]; with_reducible rfl))
            apply txt_pure (v := .bool false) rfl rfl rfl; (· (intro w; go_simp; try rfl)); (· (simp only [Act.put, Act.eval, List.setIfInBounds_toArray, List.set_cons_zero, List.set_cons_succ, Array.getD_eq_getD_getElem?, List.getElem?_toArray, List.getElem?_cons_zero, List.getElem?_cons_succ, Option.getD_some, List.getElem_toArray, List.getElem_cons_succ, List.getElem_cons_zero]; with_reducible rfl))
            apply txt_pure rfl rfl rfl; (· (intro w; go_simp; with_reducible rfl)); (· (simp only [Act.put, Act.eval, List.setIfInBounds_toArray, List.set_cons_zero, List.set_cons_succ, Array.getD_eq_getD_getElem?, List.getElem?_toArray, List.getElem?_cons_zero, List.getElem?_cons_succ, Option.getD_some, List.getElem_toArray, List.getElem_cons_succ, List.getElem_cons_zero]; with_reducible rfl))
            with_reducible refine txt_nil ?_
            go_wp2
            go_roundw
            case rel => exact ⟨k + 1, S6, v, _, by go_num, by omega, by omega, by omega, hJH.out⟩
            case measure => simp [intOf]; omega
        · have ht4 := hI4.to.t
          have hpl := hI4.ref.lt
          go_wp2_with fail
          refine (Due_S ht4 z hwz hSb).mono ?_
          rintro e w5 ⟨o1, v5, rfl, ho1, hT5, hv5, hk5⟩
          have hM := hI4.timer hT5 (.inl hv5) hk5
          have hd5 := (hk5.block db hdl hdn).trans hd4H.out
          have d2' : w5.cell? ⟨db, 2, none⟩ = some (.int .i64 z) := by simp [World.cell?, hd5]
          obtain ⟨a7, c7, rfl⟩ := ids_val ho1
          clear hT5 hv5 hk5 ht4 d0 d1 d2
          have hr5 := hM.ref
          go_wp2_with fail
          refine (RDue_any hr5 z hwz hSb).mono ?_
          rintro e w6 ⟨o2, u6, rfl, ho2, hR6, hu6, hk6⟩
          obtain ⟨a8, c8, rfl⟩ := ids_val ho2
          have ho1' := own_kept ho1 hk6 (fun k h1 h2 e => by omega)
          have hSl : (restS S z).length ≤ S.length := by
            have := congrArg List.length (dueS_rest' S z)
            rw [List.length_append] at this; omega
          have hJ0 := hM.other hR6 (by
            by_cases h0 : 0 < S.length
            · exact .inl ⟨h0, hu6⟩
            · exact .inr (.inl (List.length_eq_zero_iff.1 (by omega)))) hk6
          have hSn : (restS S z).length ≤ k + 1 := by omega
          obtain ⟨S6, hS6⟩ : ∃ T, restS S z = T := ⟨_, rfl⟩
          rw [hS6] at hJ0 hSn
          have hR1 := Lib.hid (RowI.ids ho1')
          have hR2 := Lib.hid (RowI.ids ho2)
          have hXl : (dueS S z).length = ((dueS S z).map (·.1)).length := by rw [List.length_map]
          obtain ⟨X, hX⟩ : ∃ X, (dueS S z).map (·.1) = X := ⟨_, rfl⟩
          rw [hX] at hR1 hR2 hXl
          have hXb : X.length ≤ 1099511627775 := by
            have := congrArg List.length (dueS_rest' S z)
            rw [List.length_append] at this; omega
          rw [hXl]
          clear hS6 hR6 hu6 hk6 hM hr5 hI4 hd5 d2' hd4H hSl ho1 ho1' ho2 hX hXl
          go_wp2_with fail
          go_loopw [8, 19] (fun g' i wq => ∃ j : Nat, g' = .bool true ∧ i = .int .i64 j ∧ j ≤ X.length ∧ Below w6.heap.size w6 wq) (fun _ i _ => X.length - (intOf i).toNat)
          case atStart => exact ⟨0, by first | rfl | simp, rfl, Nat.zero_le _, Below.refl _ _⟩
          case round =>
            obtain ⟨j, rfl, rfl, hj, hbj⟩ := hrel
            by_cases hjX : j < X.length
            · have hjX' : (j : Int) < X.length := by omega
              obtain ⟨b7, o7, hb7, hc7⟩ := hR1.out j hjX
              obtain ⟨b8, o8, hb8, hc8⟩ := hR2.out j hjX
              have k7 := hc7 _ hbj
              have k8 := hc8 _ hbj
              subst hb7 hb8
              obtain ⟨x7, hx7⟩ : ∃ x, X.getD j 0 = x := ⟨_, rfl⟩
              rw [hx7] at k7 k8
              clear hc7 hc8 hx7
              go_upto_region 18 with (fail)
              refine Rt.wp_region_text [0, 0, 0, 1, 0, 0, 0, 1, 0, 0] (by kernel_rfl) (by kernel_rfl) ?_
              apply txt_move rfl rfl; (· (simp only [Act.put, Act.eval, List.setIfInBounds_toArray, List.set_cons_zero, List.set_cons_succ, Array.getD_eq_getD_getElem?, List.getElem?_toArray, List.getElem?_cons_zero, List.getElem?_cons_succ, Option.getD_some, List.getElem_toArray, List.getElem_cons_succ, List.getElem_cons_zero]; with_reducible rfl))
              apply txt_move rfl rfl; (· (simp only [Act.put, Act.eval, List.setIfInBounds_toArray, List.set_cons_zero, List.set_cons_succ, Array.getD_eq_getD_getElem?, List.getElem?_toArray, List.getElem?_cons_zero, List.getElem?_cons_succ, Option.getD_some, List.getElem_toArray, List.getElem_cons_succ, List.getElem_cons_zero]; with_reducible rfl))
              apply txt_pure rfl rfl rfl; (· (intro w; go_simp; with_reducible rfl)); (· (simp only [Act.put, Act.eval, List.setIfInBounds_toArray, List.set_cons_zero, List.set_cons_succ, Array.getD_eq_getD_getElem?, List.getElem?_toArray, List.getElem?_cons_zero, List.getElem?_cons_succ, Option.getD_some, List.getElem_toArray, List.getElem_cons_succ, List.getElem_cons_zero]; with_reducible rfl))
              apply txt_read rfl rfl rfl; (· (go_simp; with_reducible rfl)); (· (simp only [Act.put, Act.eval, List.setIfInBounds_toArray, List.set_cons_zero, List.set_cons_succ, Array.getD_eq_getD_getElem?, List.getElem?_toArray, List.getElem?_cons_zero, List.getElem?_cons_succ, Option.getD_some, List.getElem_toArray, List.getElem_cons_succ, List.getElem_cons_zero]; with_reducible rfl))
              apply txt_move rfl rfl; (· (simp only [Act.put, Act.eval, List.setIfInBounds_toArray, List.set_cons_zero, List.set_cons_succ, Array.getD_eq_getD_getElem?, List.getElem?_toArray, List.getElem?_cons_zero, List.getElem?_cons_succ, Option.getD_some, List.getElem_toArray, List.getElem_cons_succ, List.getElem_cons_zero]; with_reducible rfl))
              apply txt_move rfl rfl; (· (simp only [Act.put, Act.eval, List.setIfInBounds_toArray, List.set_cons_zero, List.set_cons_succ, Array.getD_eq_getD_getElem?, List.getElem?_toArray, List.getElem?_cons_zero, List.getElem?_cons_succ, Option.getD_some, List.getElem_toArray, List.getElem_cons_succ, List.getElem_cons_zero]; with_reducible rfl))
              apply txt_pure rfl rfl rfl; (· (intro w; go_simp; with_reducible rfl)); (· (simp only [Act.put, Act.eval, List.setIfInBounds_toArray, List.set_cons_zero, List.set_cons_succ, Array.getD_eq_getD_getElem?, List.getElem?_toArray, List.getElem?_cons_zero, List.getElem?_cons_succ, Option.getD_some, List.getElem_toArray, List.getElem_cons_succ, List.getElem_cons_zero]; with_reducible rfl))
              apply txt_read rfl rfl rfl; (· (go_simp; with_reducible rfl)); (· (simp only [Act.put, Act.eval, List.setIfInBounds_toArray, List.set_cons_zero, List.set_cons_succ, Array.getD_eq_getD_getElem?, List.getElem?_toArray, List.getElem?_cons_zero, List.getElem?_cons_succ, Option.getD_some, List.getElem_toArray, List.getElem_cons_succ, List.getElem_cons_zero]; with_reducible rfl))
              apply txt_pure (v := .bool true) rfl rfl rfl; (· (intro w; go_simp; try simp)); (· (simp only [Act.put, Act.eval, List.setIfInBounds_toArray, List.set_cons_zero, List.set_cons_succ, Array.getD_eq_getD_getElem?, List.getElem?_toArray, List.getElem?_cons_zero, List.getElem?_cons_succ, Option.getD_some, List.getElem_toArray, List.getElem_cons_succ, List.getElem_cons_zero]; with_reducible rfl))
              apply txt_assign rfl rfl; (· (simp only [Act.put, Act.eval, List.setIfInBounds_toArray, List.set_cons_zero, List.set_cons_succ, Array.getD_eq_getD_getElem?, List.getElem?_toArray, List.getElem?_cons_zero, List.getElem?_cons_succ, Option.getD_some, List.getElem_toArray, List.getElem_cons_succ, List.getElem_cons_zero]; with_reducible rfl))
              with_reducible refine txt_nil ?_
              go_wp2
              go_roundw
              case rel => exact ⟨j + 1, rfl, by go_num, by omega, hbj.drew⟩
              case measure => simp [intOf]; omega
            · obtain rfl : j = X.length := by omega
              have hj' : ¬ (X.length : Int) < X.length := by omega
              have hJ := hJ0.later hbj
              clear hJ0 hbj
              have hr := hJ.ref
              obtain ⟨a6, c6, hu6e, _⟩ := hr.row
              first | subst hu6e | cases hu6e
              have c60 := hr.c0
              obtain ⟨l6, hl6⟩ : ∃ l, S6.length = l := ⟨_, rfl⟩
              have hlen := fun w h => Len_S (w := w) (tb := tb) (bm := bm) (v := v5) (S := S6) h
              rw [hl6] at c60 hlen
              have htd := hJ.to.t.drew
              have hJH := Lib.hid (hJ.later ((Below.refl _ _).drew))
              have hlenH := Lib.hid hlen
              have hl6H := Lib.hid hl6
              clear hr hJ hl6 hlen
              go_upto_region 33 with (fail)
              refine Rt.wp_region_text [0, 0, 0, 0, 1, 0, 0, 0, 1, 0, 0, 0] (by kernel_rfl) (by kernel_rfl) ?_
              apply txt_move rfl rfl; (· (simp only [Act.put, Act.eval, List.setIfInBounds_toArray, List.set_cons_zero, List.set_cons_succ, Array.getD_eq_getD_getElem?, List.getElem?_toArray, List.getElem?_cons_zero, List.getElem?_cons_succ, Option.getD_some, List.getElem_toArray, List.getElem_cons_succ, List.getElem_cons_zero]; with_reducible rfl))
              apply txt_pure rfl rfl rfl; (· (intro w; go_simp; with_reducible rfl)); (· (simp only [Act.put, Act.eval, List.setIfInBounds_toArray, List.set_cons_zero, List.set_cons_succ, Array.getD_eq_getD_getElem?, List.getElem?_toArray, List.getElem?_cons_zero, List.getElem?_cons_succ, Option.getD_some, List.getElem_toArray, List.getElem_cons_succ, List.getElem_cons_zero]; with_reducible rfl))
              apply txt_move rfl rfl; (· (simp only [Act.put, Act.eval, List.setIfInBounds_toArray, List.set_cons_zero, List.set_cons_succ, Array.getD_eq_getD_getElem?, List.getElem?_toArray, List.getElem?_cons_zero, List.getElem?_cons_succ, Option.getD_some, List.getElem_toArray, List.getElem_cons_succ, List.getElem_cons_zero]; with_reducible rfl))
              apply txt_pure rfl rfl rfl; (· (intro w; go_simp; with_reducible rfl)); (· (simp only [Act.put, Act.eval, List.setIfInBounds_toArray, List.set_cons_zero, List.set_cons_succ, Array.getD_eq_getD_getElem?, List.getElem?_toArray, List.getElem?_cons_zero, List.getElem?_cons_succ, Option.getD_some, List.getElem_toArray, List.getElem_cons_succ, List.getElem_cons_zero]; with_reducible rfl))
              apply txt_quiet rfl rfl rfl; (· (go_simp; exact ⟨rfl, rfl⟩)); (· (exact hlenH.out _ htd)); (· (simp only [Act.put, Act.eval, List.setIfInBounds_toArray, List.set_cons_zero, List.set_cons_succ, Array.getD_eq_getD_getElem?, List.getElem?_toArray, List.getElem?_cons_zero, List.getElem?_cons_succ, Option.getD_some, List.getElem_toArray, List.getElem_cons_succ, List.getElem_cons_zero]; with_reducible rfl))
              apply txt_pure rfl rfl rfl; (· (intro w; go_simp; with_reducible rfl)); (· (simp only [Act.put, Act.eval, List.setIfInBounds_toArray, List.set_cons_zero, List.set_cons_succ, Array.getD_eq_getD_getElem?, List.getElem?_toArray, List.getElem?_cons_zero, List.getElem?_cons_succ, Option.getD_some, List.getElem_toArray, List.getElem_cons_succ, List.getElem_cons_zero]; with_reducible rfl))
              apply txt_pure rfl rfl rfl; (· (intro w; go_simp; with_reducible rfl)); (· (simp only [Act.put, Act.eval, List.setIfInBounds_toArray, List.set_cons_zero, List.set_cons_succ, Array.getD_eq_getD_getElem?, List.getElem?_toArray, List.getElem?_cons_zero, List.getElem?_cons_succ, Option.getD_some, List.getElem_toArray, List.getElem_cons_succ, List.getElem_cons_zero]; with_reducible rfl))
              apply txt_pure rfl rfl rfl; (· (intro w; go_simp; with_reducible rfl)); (· (simp only [Act.put, Act.eval, List.setIfInBounds_toArray, List.set_cons_zero, List.set_cons_succ, Array.getD_eq_getD_getElem?, List.getElem?_toArray, List.getElem?_cons_zero, List.getElem?_cons_succ, Option.getD_some, List.getElem_toArray, List.getElem_cons_succ, List.getElem_cons_zero]; with_reducible rfl))
              apply txt_read rfl rfl rfl; (· (go_simp; with_reducible rfl)); (· (simp only [Act.put, Act.eval, List.setIfInBounds_toArray, List.set_cons_zero, List.set_cons_succ, Array.getD_eq_getD_getElem?, List.getElem?_toArray, List.getElem?_cons_zero, List.getElem?_cons_succ, Option.getD_some, List.getElem_toArray, List.getElem_cons_succ, List.getElem_cons_zero]; with_reducible rfl))
              apply txt_pure rfl rfl rfl; (· (intro w; go_simp; with_reducible rfl)); (· (simp only [Act.put, Act.eval, List.setIfInBounds_toArray, List.set_cons_zero, List.set_cons_succ, Array.getD_eq_getD_getElem?, List.getElem?_toArray, List.getElem?_cons_zero, List.getElem?_cons_succ, Option.getD_some, List.getElem_toArray, List.getElem_cons_succ, List.getElem_cons_zero]; with_reducible rfl))
              apply txt_pure (v := .bool false) rfl rfl rfl; (· (intro w; go_simp; try rfl)); (· (simp only [Act.put, Act.eval, List.setIfInBounds_toArray, List.set_cons_zero, List.set_cons_succ, Array.getD_eq_getD_getElem?, List.getElem?_toArray, List.getElem?_cons_zero, List.getElem?_cons_succ, Option.getD_some, List.getElem_toArray, List.getElem_cons_succ, List.getElem_cons_zero]; with_reducible rfl))
              apply txt_pure rfl rfl rfl; (· (intro w; go_simp; with_reducible rfl)); (· (simp only [Act.put, Act.eval, List.setIfInBounds_toArray, List.set_cons_zero, List.set_cons_succ, Array.getD_eq_getD_getElem?, List.getElem?_toArray, List.getElem?_cons_zero, List.getElem?_cons_succ, Option.getD_some, List.getElem_toArray, List.getElem_cons_succ, List.getElem_cons_zero]; with_reducible rfl))
              with_reducible refine txt_nil ?_
              go_wp2
              go_roundw
              case rel => exact ⟨k + 1, S6, v5, _, by go_num, by omega, by omega, by omega, hJH.out⟩
              case measure => simp [intOf]; omega
      · have hk200' : ¬ (k : Int) < 200 := by omega
        have hb := hI.to.below
        go_wp2
        go_ret
        exact ⟨rfl, hb⟩
    · have hkn' : ¬ (k : Int) < n := by omega
      have hb := hI.to.below
      go_wp2
      go_ret
      exact ⟨rfl, hb⟩
end Go.Proofs.Ytmgapdbfaoflmaa.Tm
