/- SetLame$1: the closure that adds a lame. -/
import Derived.Test.YticijejnemnmlaaInY
namespace Go.Proofs.Yticijejnemnmlaa.If
open Go.RowKit Rt
set_option linter.unusedSimpArgs false
set_option linter.unusedVariables false
def leastTo (l : List Lm) : Nat → Nat
  | 0 => 0
  | j + 1 => if (gk l j).2 < (gk l (leastTo l j)).2 then j else leastTo l j
theorem leastTo_le (l : List Lm) (j : Nat) : leastTo l j ≤ j - 1 := by
  induction j with
  | zero => exact Nat.le_refl _
  | succ j ih => unfold leastTo; split <;> omega
def addLame (z : ByteArray) (u : Int) (L : List Lm) : List Lm :=
  if 20 < (keepZ z L).length + 1 then (keepZ z L ++ [(z, u)]).take (leastTo (keepZ z L ++ [(z, u)]) ((keepZ z L).length + 1)) ++ (keepZ z L ++ [(z, u)]).drop (leastTo (keepZ z L ++ [(z, u)]) ((keepZ z L).length + 1) + 1)
  else keepZ z L ++ [(z, u)]
theorem keepZ_le (z : ByteArray) (L : List Lm) : (keepZ z L).length ≤ L.length := List.length_filter_le _ _
theorem addLame_len {z : ByteArray} {u : Int} {L : List Lm} (h : L.length ≤ 20) : 0 < (addLame z u L).length ∧ (addLame z u L).length ≤ 20 := by
  have h1 := keepZ_le z L
  have h2 := leastTo_le (keepZ z L ++ [(z, u)]) ((keepZ z L).length + 1)
  unfold addLame
  split
  · simp; omega
  · simp; omega
/-- What is left when the closure is done: the row lies in the call's own memory. -/
def LameEnd (w : World) (kb : Nat) (L' : List Lm) (w' : World) : Prop :=
  ∃ W v', w' = W.setCell ⟨kb, 3, none⟩ v' ∧ Below w.heap.size w W ∧ RowL W v' L' ∧ ∀ g, v'.ownBlock = some g → w.heap.size ≤ g
theorem two_new (w : World) (x y : Value) : (w.alloc (.cells #[x, y] 72)).cell? ⟨w.heap.size, 0, none⟩ = some x ∧ (w.alloc (.cells #[x, y] 72)).cell? ⟨w.heap.size, 1, none⟩ = some y := by
  have h := World.alloc_heap_new w (.cells #[x, y] 72)
  constructor
  · unfold World.cell?; simp only [h]; rfl
  · unfold World.cell?; simp only [h]; rfl
theorem one_new (w : World) (p : Lm) : ∀ j u, (lmC [p])[j]? = some u → (w.alloc (.cells #[.string p.1, .int .i64 p.2] 72)).cell? ⟨w.heap.size, j, none⟩ = some u
  | 0, u, h => by cases h; exact (two_new _ _ _).1
  | 1, u, h => by cases h; exact (two_new _ _ _).2
  | j + 2, u, h => by simp [lmC] at h
set_option maxHeartbeats 4000000 in
set_option maxRecDepth 100000 in
theorem SetLame1_any {w : World} {kb zb ub : Nat} {z : ByteArray} {u : Int} {v : Value} {L : List Lm} (c3 : w.cell? ⟨kb, 3, none⟩ = some v) (f3 : w.frozen? ⟨kb, 3, none⟩ = false) (hz : w.cell? ⟨zb, 0, none⟩ = some (.string z)) (hu : w.cell? ⟨ub, 0, none⟩ = some (.int .i64 u)) (hu0 : 0 ≤ u) (hu1 : u ≤ 4503599627370496)
    (hR : RowL w v L) (hl : L.length ≤ 20) :
    Calls Try.prog 31 #[.pointer (some ⟨kb, 0, none⟩), .pointer (some ⟨zb, 0, none⟩), .pointer (some ⟨ub, 0, none⟩)] w fun e w' => (∃ r, e = .returned r) ∧ LameEnd w kb (addLame z (u + 900000) L) w' := by
  have hClone := Lib.hid (Clone_any hR (by omega))
  have hkl := keepZ_le z L
  have hzl := World.block_lt_of_cell? w _ hz
  have hul := World.block_lt_of_cell? w _ hu
  have hkbl := World.block_lt_of_cell? w _ c3
  have hzH := Lib.hid hz
  have huH := Lib.hid hu
  have f3H := Lib.hid f3
  have hwu := If.wr (show -9223372036854775808 ≤ u + 900000 by omega) (by omega)
  have hLl := Lib.hid hl
  obtain ⟨T, hT⟩ : ∃ T, keepZ z L = T := ⟨_, rfl⟩
  have hTl : T.length ≤ 20 := by rw [← hT]; omega
  have hTH := Lib.hid hT
  clear hR hz hkl hT
  have c3H := Lib.hid c3
  by_cases hbig : (20 : Int) < T.length + 1
  · have hA : Hid (∀ S, T ++ [(z, u + 900000)] = S → S.length = T.length + 1 → addLame z (u + 900000) L = S.take (leastTo S (T.length + 1)) ++ S.drop (leastTo S (T.length + 1) + 1)) := Lib.hid (fun S hS hl => by unfold addLame; rw [hTH.out, hS, if_pos (by omega)])
    go_enter Try.func31, Try.ntmps31
    go_wp2_with (first
      | (go_at_call 33; refine hClone.out.mono ?_; rintro e w1 ⟨v1, rfl, hrow1, hb1⟩; have hz1 := (hb1.cell (p := ⟨zb, 0, none⟩) hzl).trans hzH.out; have hu1' := (hb1.cell (p := ⟨ub, 0, none⟩) hul).trans huH.out)
      | (go_at_call 32; refine (DelF_any (base := w.heap.size) hz1 hrow1 hzl hb1.size (by have := hLl.out; omega)).mono ?_; rintro e w2 ⟨v2, rfl, hrow2, hb2⟩; rw [hTH.out] at hrow2; have hw2 := Nat.le_trans hb1.size hb2.size; have hz2 := (hb2.cell (p := ⟨zb, 0, none⟩) hzl).trans hz1; have hu2 := (hb2.cell (p := ⟨ub, 0, none⟩) hul).trans hu1')
      | (at_builtin; refine wpList_app_lm rfl (.tmp 15) (.tmp 20) rfl rfl (row_below hrow2 ((Below.refl _ _).alloc (Nat.le_refl _) _)) (by rw [World.size_alloc]; omega) (b := w2.heap.size) (off := 0) (m := 1) (T := [(z, u + 900000)]) rfl rfl (fun j r hj => by { rw [Nat.zero_add]; exact one_new w2 (z, u + 900000) j r hj }) (by simp; omega) ?_
         intro v3 w3 hrow3 hgrow3 hat3
         clear hat3
         have hb3 : Below w.heap.size w w3 := by { have h1 := hb1.size; exact (hb1.trans hb2).trans (((Below.refl _ _).alloc hw2 _).grown hgrow3 (by rw [World.size_alloc]; omega) (fun k hk => (hrow2.lt k hk).1)) }
         rw [← lmC_append] at hrow3
         obtain ⟨S, hS⟩ : ∃ S, T ++ [(z, u + 900000)] = S := ⟨_, rfl⟩
         have hSl : S.length = T.length + 1 := by { rw [← hS]; simp }
         rw [hS] at hrow3
         obtain ⟨gb, c, rfl⟩ : ∃ gb c, v3 = .slice (some ⟨gb, 0, none⟩) (T.length + 1) c := by { rcases hrow3.2 with ⟨_, h⟩ | ⟨g, cap, cur, h, _⟩; (exact absurd h (Nat.succ_ne_zero _)); exact ⟨g, cap, h⟩ }
         obtain ⟨hO3, hgb⟩ := OwnL.of hrow3 hSl.symm
         have hSH := Lib.hid hS
         have hO3H := Lib.hid hO3
         have hb3H := Lib.hid hb3
         have f33 := (hb3.frozen (p := ⟨kb, 3, none⟩) hkbl).trans f3H.out
         have c33 := (hb3.cell (p := ⟨kb, 3, none⟩) hkbl).trans c3H.out
         have hRow3 := Lib.hid (RowL.of_row (S := S) hrow3 hSl.symm rfl (by rw [hSl]; exact Nat.succ_pos _))
         have hwsz3 := hb3.size
         clear hS hO3 hb3 hrow3 hgrow3 hrow2 hrow1 hb1 hb2 hz1 hz2 hu1' hu2))
    have hwlt : w3.heap.size = w3.heap.size := rfl
    go_loopw [5, 27] (fun vm vi wr => ∃ j : Nat, j ≤ T.length + 1 ∧ vm = .int .i64 (leastTo S j) ∧ vi = .int .i64 j ∧ Below w3.heap.size w3 wr)
      (fun _ vi _ => T.length + 1 - (intOf vi).toNat)
    case atStart => exact ⟨0, Nat.zero_le _, rfl, rfl, Below.refl _ _⟩
    case round =>
      obtain ⟨j, hj, rfl, rfl, hb⟩ := hrel
      have hm := leastTo_le S j
      obtain ⟨m, hmm⟩ : ∃ m, leastTo S j = m := ⟨_, rfl⟩
      have hstep : leastTo S (j + 1) = if (gk S j).2 < (gk S (leastTo S j)).2 then j else leastTo S j := rfl
      rw [hmm] at hm hstep ⊢
      have hOr := hO3H.out.below hb
      by_cases hlt : j < T.length + 1
      · obtain ⟨d0, d1⟩ := hOr.at j (by omega)
        obtain ⟨e0, e1⟩ := hOr.at m (by omega)
        obtain ⟨p, hp⟩ : ∃ p, gk S j = p := ⟨_, rfl⟩
        obtain ⟨q, hq⟩ : ∃ q, gk S m = q := ⟨_, rfl⟩
        rw [hp] at d0 d1 hstep
        rw [hq] at e0 e1 hstep
        have hji : (j : Int) < T.length + 1 := by omega
        have hmi : (m : Int) < T.length + 1 := by omega
        have hgl := hOr.lt
        have e1' := (((Below.refl wr.heap.size wr).alloc (Nat.le_refl _) (.cells #[.string p.1, .int .i64 p.2] 72)).cell (p := ⟨gb, m * 2 + 1, none⟩) hgl).trans e1
        have k0 := World.alloc_heap_new wr (.cells #[.string p.1, .int .i64 p.2] 72)
        have d1' := (two_new wr (.string p.1) (.int .i64 p.2)).2
        have hbF := Lib.hid ((hb.trans ((Below.refl wr.heap.size wr).alloc (Nat.le_refl _) (.cells #[.string p.1, .int .i64 p.2] 72) |>.mono hb.size)).drew)
        have hH := Lib.hid hstep
        clear hstep hp hq hmm hOr k0 hb
        by_cases hpq : p.2 < q.2
        · have hres : Hid (leastTo S (j + 1) = j) := Lib.hid (by rw [hH.out, if_pos hpq])
          go_wp2
          refine Rt.wp_region_text [0, 1, 0, 0, 0, 0, 1, 0] (by kernel_rfl) (by kernel_rfl) ?_
          apply txt_pure rfl rfl rfl; (· (intro w; go_simp; with_reducible rfl)); (· (simp only [Act.put, Act.eval, List.setIfInBounds_toArray, List.set_cons_zero, List.set_cons_succ, Array.getD_eq_getD_getElem?, List.getElem?_toArray, List.getElem?_cons_zero, List.getElem?_cons_succ, Option.getD_some]; with_reducible rfl))
          apply txt_read rfl rfl rfl; (· (go_simp; with_reducible rfl)); (· (simp only [Act.put, Act.eval, List.setIfInBounds_toArray, List.set_cons_zero, List.set_cons_succ, Array.getD_eq_getD_getElem?, List.getElem?_toArray, List.getElem?_cons_zero, List.getElem?_cons_succ, Option.getD_some]; with_reducible rfl))
          apply txt_move rfl rfl; (· (simp only [Act.put, Act.eval, List.setIfInBounds_toArray, List.set_cons_zero, List.set_cons_succ, Array.getD_eq_getD_getElem?, List.getElem?_toArray, List.getElem?_cons_zero, List.getElem?_cons_succ, Option.getD_some]; with_reducible rfl))
          apply txt_move rfl rfl; (· (simp only [Act.put, Act.eval, List.setIfInBounds_toArray, List.set_cons_zero, List.set_cons_succ, Array.getD_eq_getD_getElem?, List.getElem?_toArray, List.getElem?_cons_zero, List.getElem?_cons_succ, Option.getD_some]; with_reducible rfl))
          apply txt_pure rfl rfl rfl; (· (intro w; go_simp; with_reducible rfl)); (· (simp only [Act.put, Act.eval, List.setIfInBounds_toArray, List.set_cons_zero, List.set_cons_succ, Array.getD_eq_getD_getElem?, List.getElem?_toArray, List.getElem?_cons_zero, List.getElem?_cons_succ, Option.getD_some]; with_reducible rfl))
          apply txt_pure rfl rfl rfl; (· (intro w; go_simp; with_reducible rfl)); (· (simp only [Act.put, Act.eval, List.setIfInBounds_toArray, List.set_cons_zero, List.set_cons_succ, Array.getD_eq_getD_getElem?, List.getElem?_toArray, List.getElem?_cons_zero, List.getElem?_cons_succ, Option.getD_some]; with_reducible rfl))
          apply txt_read rfl rfl rfl; (· (go_simp; with_reducible rfl)); (· (simp only [Act.put, Act.eval, List.setIfInBounds_toArray, List.set_cons_zero, List.set_cons_succ, Array.getD_eq_getD_getElem?, List.getElem?_toArray, List.getElem?_cons_zero, List.getElem?_cons_succ, Option.getD_some]; with_reducible rfl))
          apply txt_pure rfl rfl rfl; (· (intro w; go_simp; with_reducible rfl)); (· (simp only [Act.put, Act.eval, List.setIfInBounds_toArray, List.set_cons_zero, List.set_cons_succ, Array.getD_eq_getD_getElem?, List.getElem?_toArray, List.getElem?_cons_zero, List.getElem?_cons_succ, Option.getD_some]; with_reducible rfl))
          with_reducible refine txt_nil ?_
          go_wp2
          exact ⟨⟨j + 1, by omega, by rw [hres.out], by go_num, hbF.out⟩, by first | (simp [intOf]; done) | (simp [intOf]; omega)⟩
        · have hres : Hid (leastTo S (j + 1) = m) := Lib.hid (by rw [hH.out, if_neg hpq])
          go_wp2
          refine Rt.wp_region_text [0, 1, 0, 0, 0, 0, 1, 0] (by kernel_rfl) (by kernel_rfl) ?_
          apply txt_pure rfl rfl rfl; (· (intro w; go_simp; with_reducible rfl)); (· (simp only [Act.put, Act.eval, List.setIfInBounds_toArray, List.set_cons_zero, List.set_cons_succ, Array.getD_eq_getD_getElem?, List.getElem?_toArray, List.getElem?_cons_zero, List.getElem?_cons_succ, Option.getD_some]; with_reducible rfl))
          apply txt_read rfl rfl rfl; (· (go_simp; with_reducible rfl)); (· (simp only [Act.put, Act.eval, List.setIfInBounds_toArray, List.set_cons_zero, List.set_cons_succ, Array.getD_eq_getD_getElem?, List.getElem?_toArray, List.getElem?_cons_zero, List.getElem?_cons_succ, Option.getD_some]; with_reducible rfl))
          apply txt_move rfl rfl; (· (simp only [Act.put, Act.eval, List.setIfInBounds_toArray, List.set_cons_zero, List.set_cons_succ, Array.getD_eq_getD_getElem?, List.getElem?_toArray, List.getElem?_cons_zero, List.getElem?_cons_succ, Option.getD_some]; with_reducible rfl))
          apply txt_move rfl rfl; (· (simp only [Act.put, Act.eval, List.setIfInBounds_toArray, List.set_cons_zero, List.set_cons_succ, Array.getD_eq_getD_getElem?, List.getElem?_toArray, List.getElem?_cons_zero, List.getElem?_cons_succ, Option.getD_some]; with_reducible rfl))
          apply txt_pure rfl rfl rfl; (· (intro w; go_simp; with_reducible rfl)); (· (simp only [Act.put, Act.eval, List.setIfInBounds_toArray, List.set_cons_zero, List.set_cons_succ, Array.getD_eq_getD_getElem?, List.getElem?_toArray, List.getElem?_cons_zero, List.getElem?_cons_succ, Option.getD_some]; with_reducible rfl))
          apply txt_pure rfl rfl rfl; (· (intro w; go_simp; with_reducible rfl)); (· (simp only [Act.put, Act.eval, List.setIfInBounds_toArray, List.set_cons_zero, List.set_cons_succ, Array.getD_eq_getD_getElem?, List.getElem?_toArray, List.getElem?_cons_zero, List.getElem?_cons_succ, Option.getD_some]; with_reducible rfl))
          apply txt_read rfl rfl rfl; (· (go_simp; with_reducible rfl)); (· (simp only [Act.put, Act.eval, List.setIfInBounds_toArray, List.set_cons_zero, List.set_cons_succ, Array.getD_eq_getD_getElem?, List.getElem?_toArray, List.getElem?_cons_zero, List.getElem?_cons_succ, Option.getD_some]; with_reducible rfl))
          apply txt_pure rfl rfl rfl; (· (intro w; go_simp; with_reducible rfl)); (· (simp only [Act.put, Act.eval, List.setIfInBounds_toArray, List.set_cons_zero, List.set_cons_succ, Array.getD_eq_getD_getElem?, List.getElem?_toArray, List.getElem?_cons_zero, List.getElem?_cons_succ, Option.getD_some]; with_reducible rfl))
          with_reducible refine txt_nil ?_
          go_wp2
          exact ⟨⟨j + 1, by omega, by rw [hres.out], by go_num, hbF.out⟩, by first | (simp [intOf]; done) | (simp [intOf]; omega)⟩
      · obtain rfl : j = T.length + 1 := by omega
        have hAS := hA.out S hSH.out hSl
        rw [hmm] at hAS
        have hDel := Delete_any hOr (k := m) (by omega) (by omega)
        rw [hSl] at hDel
        have hDH := Lib.hid hDel
        have hbH := Lib.hid hb
        have hASH := Lib.hid hAS
        have hcl := hOr.lt
        have hc1 := (hb.cell (p := ⟨kb, 3, none⟩) (show kb < _ by omega)).trans c33
        have hf1 := (hb.frozen (p := ⟨kb, 3, none⟩) (show kb < _ by omega)).trans f33
        have hmw := If.wr (show -9223372036854775808 ≤ (m : Int) + 1 by omega) (by omega)
        clear hDel hAS hmm hstep hOr hb
        go_wp2_with (go_at_call 35; refine hDH.out.mono ?_; rintro e w4 ⟨rfl, hO4, hK4⟩; have c34 := (hK4.cell (p := ⟨kb, 3, none⟩) (show kb < _ by have := hbH.out.size; omega) (by show ¬ kb = gb; omega)).trans hc1; have f34 := (hK4.frozen (p := ⟨kb, 3, none⟩) (show kb < _ by have := hbH.out.size; omega) (by show ¬ kb = gb; omega)).trans hf1)
        go_end0
        refine ⟨⟨_, rfl⟩, ?_⟩
        rw [hASH.out]
        have hRl : (S.take m ++ S.drop (m + 1)).length = T.length := by simp [hSl]; omega
        refine ⟨w4, _, rfl, hb3H.out.trans ((hbH.out.mono hwsz3).trans (hK4.below (Nat.le_trans hwsz3 hbH.out.size) (fun x hx e => by omega))), ?_, fun g hg => by cases hg; exact hgb⟩
        have hrr := RowL.of_row hO4 rfl rfl (by omega)
        rw [hRl] at hrr
        exact hrr
  · have hA : Hid (∀ S, T ++ [(z, u + 900000)] = S → addLame z (u + 900000) L = S) := Lib.hid (fun S hS => by unfold addLame; rw [hTH.out, hS, if_neg (by omega)])
    go_enter Try.func31, Try.ntmps31
    go_wp2_with (first
      | (go_at_call 33; refine hClone.out.mono ?_; rintro e w1 ⟨v1, rfl, hrow1, hb1⟩; have hz1 := (hb1.cell (p := ⟨zb, 0, none⟩) hzl).trans hzH.out; have hu1' := (hb1.cell (p := ⟨ub, 0, none⟩) hul).trans huH.out)
      | (go_at_call 32; refine (DelF_any (base := w.heap.size) hz1 hrow1 hzl hb1.size (by have := hLl.out; omega)).mono ?_; rintro e w2 ⟨v2, rfl, hrow2, hb2⟩; rw [hTH.out] at hrow2; have hw2 := Nat.le_trans hb1.size hb2.size; have hz2 := (hb2.cell (p := ⟨zb, 0, none⟩) hzl).trans hz1; have hu2 := (hb2.cell (p := ⟨ub, 0, none⟩) hul).trans hu1')
      | (at_builtin; refine wpList_app_lm rfl (.tmp 15) (.tmp 20) rfl rfl (row_below hrow2 ((Below.refl _ _).alloc (Nat.le_refl _) _)) (by rw [World.size_alloc]; omega) (b := w2.heap.size) (off := 0) (m := 1) (T := [(z, u + 900000)]) rfl rfl (fun j r hj => by { rw [Nat.zero_add]; exact one_new w2 (z, u + 900000) j r hj }) (by simp; omega) ?_
         intro v3 w3 hrow3 hgrow3 hat3
         clear hat3
         have hb3 : Below w.heap.size w w3 := by { have h1 := hb1.size; exact (hb1.trans hb2).trans (((Below.refl _ _).alloc hw2 _).grown hgrow3 (by rw [World.size_alloc]; omega) (fun k hk => (hrow2.lt k hk).1)) }
         rw [← lmC_append] at hrow3
         obtain ⟨S, hS⟩ : ∃ S, T ++ [(z, u + 900000)] = S := ⟨_, rfl⟩
         have hSl : S.length = T.length + 1 := by { rw [← hS]; simp }
         rw [hS] at hrow3
         obtain ⟨gb, c, rfl⟩ : ∃ gb c, v3 = .slice (some ⟨gb, 0, none⟩) (T.length + 1) c := by { rcases hrow3.2 with ⟨_, h⟩ | ⟨g, cap, cur, h, _⟩; (exact absurd h (Nat.succ_ne_zero _)); exact ⟨g, cap, h⟩ }
         obtain ⟨hO3, hgb⟩ := OwnL.of hrow3 hSl.symm
         have hSH := Lib.hid hS
         have hO3H := Lib.hid hO3
         have hb3H := Lib.hid hb3
         have f33 := (hb3.frozen (p := ⟨kb, 3, none⟩) hkbl).trans f3H.out
         have c33 := (hb3.cell (p := ⟨kb, 3, none⟩) hkbl).trans c3H.out
         have hRow3 := Lib.hid (RowL.of_row (S := S) hrow3 hSl.symm rfl (by rw [hSl]; exact Nat.succ_pos _))
         have hwsz3 := hb3.size
         clear hS hO3 hb3 hrow3 hgrow3 hrow2 hrow1 hb1 hb2 hz1 hz2 hu1' hu2))
    go_end0
    refine ⟨⟨_, rfl⟩, ?_⟩
    rw [hA.out S hSH.out]
    exact ⟨w3, _, rfl, hb3H.out, hRow3.out, fun g hg => by cases hg; exact hgb⟩
end Go.Proofs.Yticijejnemnmlaa.If
