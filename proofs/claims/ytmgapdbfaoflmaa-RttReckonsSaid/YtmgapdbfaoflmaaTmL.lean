/- RttReckons walked. -/
import Derived.Test.YtmgapdbfaoflmaaTmK
import Derived.Test.YtmgapdbfaoflmaaTmX
import Derived.Test.YtmgapdbfaoflmaaRf
namespace Go.Proofs.Ytmgapdbfaoflmaa.Tm
open Go.RowKit Rt
set_option linter.unusedSimpArgs false
set_option linter.unusedVariables false
def Blks (W : World) (L : List (Nat × Array Value × TypeId)) : Prop := ∀ p ∈ L, W.heap[p.1]? = some (.cells p.2.1 p.2.2 (0, 0))
theorem Blks.later {W W' : World} {L : List (Nat × Array Value × TypeId)} (h : Blks W L) (hb : Below W.heap.size W W') : Blks W' L :=
  fun p hp => (hb.block _ (Array.getElem?_eq_some_iff.1 (h p hp)).1).trans (h p hp)
theorem Blks.alloc {W : World} {L : List (Nat × Array Value × TypeId)} (h : Blks W L) (A : Array Value) (T : TypeId) : Blks (W.alloc (.cells A T)) ((W.heap.size, A, T) :: L) := by
  intro p hp
  rcases List.mem_cons.1 hp with rfl | hp
  · show (W.heap.push _)[W.heap.size]? = _
    exact Array.getElem?_push_size
  · exact (h.later ((Below.refl _ _).alloc (Nat.le_refl _) _)) p hp
theorem cellsT {W : World} {g : Nat} {T : TypeId} {x y z : Value} (h : W.heap[g]? = some (.cells #[x, y, z] T (0, 0))) : W.cell? ⟨g, 0, none⟩ = some x ∧ W.cell? ⟨g, 1, none⟩ = some y ∧ W.cell? ⟨g, 2, none⟩ = some z := by
  simp [World.cell?, h]
set_option maxRecDepth 100000 in
set_option maxHeartbeats 8000000 in
theorem RttReckons_any (a b c ms : Int) (w : World) : Calls Try.prog 7 #[.int .i64 a, .int .i64 b, .int .i64 c, .int .i64 ms] w fun e w' => e = .returned (.bool true) ∧ Below w.heap.size w w' := by
  have p1 := fun w => Sample_any a b c ms w
  have q1 := fun w => Tr.Sample_any a b c ms w
  have p2 := fun w => Miss_any a b c w
  have q2 := fun w => Tr.Miss_any a b c w
  have p3 := fun w => Timeout_any a b c w
  have q3 := fun w => Tr.Timeout_ref a b c w
  obtain ⟨s1, h1⟩ : ∃ x, (smpR (wi a 1000000) (wi b 1000000) (wi ms 1000000)).1 = x := ⟨_, rfl⟩
  obtain ⟨s2, h2⟩ : ∃ x, (smpR (wi a 1000000) (wi b 1000000) (wi ms 1000000)).2 = x := ⟨_, rfl⟩
  obtain ⟨m3, h3⟩ : ∃ x, (if wi c 10 < 10 then wi c 10 + 1 else 10) = x := ⟨_, rfl⟩
  obtain ⟨t, h4⟩ : ∃ x, tmR (wi a 1000000) (wi b 1000000) (wi c 10) = x := ⟨_, rfl⟩
  rw [h1, h2] at p1 q1
  rw [h3] at p2 q2
  rw [h4] at p3 q3
  obtain ⟨m1, h5⟩ : ∃ x, wi a 1000000 = x := ⟨_, rfl⟩
  obtain ⟨m2, h6⟩ : ∃ x, wi b 1000000 = x := ⟨_, rfl⟩
  rw [h5, h6] at p2 q2
  have p4 := fun w => Timeout_any s1 s2 0 w
  have q4 := fun w => Tr.Timeout_ref s1 s2 0 w
  have p5 := fun w => Timeout_any m1 m2 m3 w
  have q5 := fun w => Tr.Timeout_ref m1 m2 m3 w
  obtain ⟨t4, h7⟩ : ∃ x, tmR (wi s1 1000000) (wi s2 1000000) (wi 0 10) = x := ⟨_, rfl⟩
  obtain ⟨t5, h8⟩ : ∃ x, tmR (wi m1 1000000) (wi m2 1000000) (wi m3 10) = x := ⟨_, rfl⟩
  rw [h7] at p4 q4
  rw [h8] at p5 q5
  have p1 := Lib.hid p1
  have q1 := Lib.hid q1
  have p2 := Lib.hid p2
  have q2 := Lib.hid q2
  have p3 := Lib.hid p3
  have q3 := Lib.hid q3
  have p4 := Lib.hid p4
  have q4 := Lib.hid q4
  have p5 := Lib.hid p5
  have q5 := Lib.hid q5
  clear h1 h2 h3 h4 h5 h6 h7 h8
  go_enter Try.func7, Try.ntmps7
  go_wp2_with fail
  refine (examples_any w).mono ?_
  rintro e w1 ⟨rfl, hb1⟩
  go_wp2_with fail
  have hB : Blks ((w1.alloc (.cells #[.int .i64 a, .int .i64 b, .int .i64 c] 72)).alloc (.cells #[.int .i64 a, .int .i64 b, .int .i64 c] 73)) [((w1.alloc (.cells #[.int .i64 a, .int .i64 b, .int .i64 c] 72)).heap.size, #[.int .i64 a, .int .i64 b, .int .i64 c], 73), (w1.heap.size, #[.int .i64 a, .int .i64 b, .int .i64 c], 72)] := Blks.alloc (Blks.alloc (L := []) (fun p hp => by cases hp) _ _) _ _
  have hbw := (hb1.alloc hb1.size (.cells #[.int .i64 a, .int .i64 b, .int .i64 c] 72)).alloc (by simp; have := hb1.size; omega) (.cells #[.int .i64 a, .int .i64 b, .int .i64 c] 73)
  obtain ⟨W, hW⟩ : ∃ W, (w1.alloc (.cells #[.int .i64 a, .int .i64 b, .int .i64 c] 72)).alloc (.cells #[.int .i64 a, .int .i64 b, .int .i64 c] 73) = W := ⟨_, rfl⟩
  simp only [World.size_alloc] at hB
  rw [hW] at hB hbw ⊢
  obtain ⟨gx, hgx⟩ : ∃ g, w1.heap.size + 1 = g := ⟨_, rfl⟩
  obtain ⟨ga, hga⟩ : ∃ g, w1.heap.size = g := ⟨_, rfl⟩
  rw [hgx, hga] at hB
  rw [hgx, hga]
  clear hW hgx hga hb1
  refine (p1.out _).mono ?_
  rintro e w2 ⟨rfl, hb⟩
  have hB := hB.later hb
  have hbw := hbw.trans (hb.mono hbw.size)
  clear hb
  unfold agg3
  have hB2 := hB.alloc #[.int .i64 s1, .int .i64 s2, .int .i64 0] 72
  have hbw2 := hbw.alloc hbw.size (.cells #[.int .i64 s1, .int .i64 s2, .int .i64 0] 72)
  obtain ⟨x0, x1, x2⟩ := cellsT (hB2 (gx, #[.int .i64 a, .int .i64 b, .int .i64 c], 73) (by simp))
  go_wp2_with fail
  obtain ⟨W, hW⟩ : ∃ W, w2.alloc (.cells #[.int .i64 s1, .int .i64 s2, .int .i64 0] 72) = W := ⟨_, rfl⟩
  obtain ⟨gb, hg⟩ : ∃ g, w2.heap.size = g := ⟨_, rfl⟩
  rw [hW, hg] at hB2
  rw [hW] at hbw2 ⊢
  rw [hg]
  clear hW hg hB hbw x0 x1 x2
  have hB := hB2
  have hbw := hbw2
  clear hB2 hbw2
  refine (q1.out _).mono ?_
  rintro e w3 ⟨rfl, hb⟩
  have hB := hB.later hb
  have hbw := hbw.trans (hb.mono hbw.size)
  clear hb
  unfold agg3
  have hB2 := hB.alloc #[.int .i64 s1, .int .i64 s2, .int .i64 0] 73
  have hbw2 := hbw.alloc hbw.size (.cells #[.int .i64 s1, .int .i64 s2, .int .i64 0] 73)
  obtain ⟨x0, x1, x2⟩ := cellsT (hB2 (ga, #[.int .i64 a, .int .i64 b, .int .i64 c], 72) (by simp))
  go_wp2_with fail
  obtain ⟨W, hW⟩ : ∃ W, w3.alloc (.cells #[.int .i64 s1, .int .i64 s2, .int .i64 0] 73) = W := ⟨_, rfl⟩
  obtain ⟨gy, hg⟩ : ∃ g, w3.heap.size = g := ⟨_, rfl⟩
  rw [hW, hg] at hB2
  rw [hW] at hbw2 ⊢
  rw [hg]
  clear hW hg hB hbw x0 x1 x2
  have hB := hB2
  have hbw := hbw2
  clear hB2 hbw2
  refine (p2.out _).mono ?_
  rintro e w4 ⟨rfl, hb⟩
  have hB := hB.later hb
  have hbw := hbw.trans (hb.mono hbw.size)
  clear hb
  unfold agg3
  have hB2 := hB.alloc #[.int .i64 m1, .int .i64 m2, .int .i64 m3] 72
  have hbw2 := hbw.alloc hbw.size (.cells #[.int .i64 m1, .int .i64 m2, .int .i64 m3] 72)
  obtain ⟨x0, x1, x2⟩ := cellsT (hB2 (gx, #[.int .i64 a, .int .i64 b, .int .i64 c], 73) (by simp))
  go_wp2_with fail
  obtain ⟨W, hW⟩ : ∃ W, w4.alloc (.cells #[.int .i64 m1, .int .i64 m2, .int .i64 m3] 72) = W := ⟨_, rfl⟩
  obtain ⟨gc, hg⟩ : ∃ g, w4.heap.size = g := ⟨_, rfl⟩
  rw [hW, hg] at hB2
  rw [hW] at hbw2 ⊢
  rw [hg]
  clear hW hg hB hbw x0 x1 x2
  have hB := hB2
  have hbw := hbw2
  clear hB2 hbw2
  refine (q2.out _).mono ?_
  rintro e w5 ⟨rfl, hb⟩
  have hB := hB.later hb
  have hbw := hbw.trans (hb.mono hbw.size)
  clear hb
  unfold agg3
  have hB2 := hB.alloc #[.int .i64 m1, .int .i64 m2, .int .i64 m3] 73
  have hbw2 := hbw.alloc hbw.size (.cells #[.int .i64 m1, .int .i64 m2, .int .i64 m3] 73)
  obtain ⟨x0, x1, x2⟩ := cellsT (hB2 (ga, #[.int .i64 a, .int .i64 b, .int .i64 c], 72) (by simp))
  go_wp2_with fail
  obtain ⟨W, hW⟩ : ∃ W, w5.alloc (.cells #[.int .i64 m1, .int .i64 m2, .int .i64 m3] 73) = W := ⟨_, rfl⟩
  obtain ⟨gz, hg⟩ : ∃ g, w5.heap.size = g := ⟨_, rfl⟩
  rw [hW, hg] at hB2
  rw [hW] at hbw2 ⊢
  rw [hg]
  clear hW hg hB hbw x0 x1 x2
  have hB := hB2
  have hbw := hbw2
  clear hB2 hbw2
  simp only [List.append]
  have hB2 : Blks W.drew _ := hB
  have hbw2 : Below w.heap.size w W.drew := hbw.drew
  clear hB hbw
  have hB := hB2
  have hbw := hbw2
  clear hB2 hbw2
  refine Rt.wp_region_ordM [0, 0, 1, 2, 1, 2, 0, 0, 0, 0, 1, 0, 1, 0, 0, 0, 0, 1, 0, 1, 0, 0, 0, 0, 1, 0, 1, 0, 0, 0, 0, 1, 0, 1, 0, 0, 0, 0, 1, 0, 1, 0, 0, 0, 0, 1, 0, 1, 0, 0, 0, 1, 2, 1, 2, 0, 0, 0, 1, 2, 1, 2, 0, 0, 0] [0, 1, 2, 4, 3, 5, 6, 7, 8, 9, 10, 11, 12, 13, 14, 15, 16, 17, 18, 19, 20, 21, 22, 23, 24, 25, 26, 27, 28, 29, 30, 31, 32, 33, 34, 35, 36, 37, 38, 39, 40, 41, 42, 43, 44, 45, 46, 47, 48, 49, 50, 51, 53, 52, 54, 55, 56, 57, 58, 60, 59, 61, 62, 63, 64] (by kernel_rfl) (by kernel_rfl) ?_
  apply ord_move rfl rfl rfl rfl; (· (simp only [Act.put, Act.eval, List.setIfInBounds_toArray, List.set_cons_zero, List.set_cons_succ, Array.getD_eq_getD_getElem?, List.getElem?_toArray, List.getElem?_cons_zero, List.getElem?_cons_succ, Option.getD_some, List.getElem_toArray, List.getElem_cons_succ, List.getElem_cons_zero]; with_reducible rfl))
  apply ord_move rfl rfl rfl rfl; (· (simp only [Act.put, Act.eval, List.setIfInBounds_toArray, List.set_cons_zero, List.set_cons_succ, Array.getD_eq_getD_getElem?, List.getElem?_toArray, List.getElem?_cons_zero, List.getElem?_cons_succ, Option.getD_some, List.getElem_toArray, List.getElem_cons_succ, List.getElem_cons_zero]; with_reducible rfl))
  apply ord_read rfl rfl rfl; (· (intro V hV; obtain ⟨r0, r1, r2⟩ := cellsT ((hB.later hV) (ga, #[.int .i64 a, .int .i64 b, .int .i64 c], 72) (by simp)); go_simp; with_reducible rfl)); (· (simp only [Act.put, Act.eval, List.setIfInBounds_toArray, List.set_cons_zero, List.set_cons_succ, Array.getD_eq_getD_getElem?, List.getElem?_toArray, List.getElem?_cons_zero, List.getElem?_cons_succ, Option.getD_some, List.getElem_toArray, List.getElem_cons_succ, List.getElem_cons_zero]; with_reducible rfl))
  apply ord_read rfl rfl rfl; (· (intro V hV; obtain ⟨r0, r1, r2⟩ := cellsT ((hB.later hV) (gx, #[.int .i64 a, .int .i64 b, .int .i64 c], 73) (by simp)); go_simp; with_reducible rfl)); (· (simp only [Act.put, Act.eval, List.setIfInBounds_toArray, List.set_cons_zero, List.set_cons_succ, Array.getD_eq_getD_getElem?, List.getElem?_toArray, List.getElem?_cons_zero, List.getElem?_cons_succ, Option.getD_some, List.getElem_toArray, List.getElem_cons_succ, List.getElem_cons_zero]; with_reducible rfl))
  refine ord_call rfl rfl rfl (by go_simp; exact ⟨rfl, rfl⟩) ?_
  refine (p3.out _).mono ?_
  rintro e w6 ⟨rfl, hb⟩
  refine ⟨_, rfl, hb, ?_⟩
  have hB2 := hB.later hb
  clear hB
  have hB := hB2
  clear hB2
  have hbw2 := hbw.trans (hb.mono hbw.size)
  clear hbw hb
  have hbw := hbw2
  clear hbw2
  simp only [Act.put, Act.eval, List.setIfInBounds_toArray, List.set_cons_zero, List.set_cons_succ, Array.getD_eq_getD_getElem?, List.getElem?_toArray, List.getElem?_cons_zero, List.getElem?_cons_succ, Option.getD_some, List.getElem_toArray, List.getElem_cons_succ, List.getElem_cons_zero]
  refine ord_call rfl rfl rfl (by go_simp; exact ⟨rfl, rfl⟩) ?_
  refine (q3.out _).mono ?_
  rintro e w7 ⟨rfl, hb⟩
  refine ⟨_, rfl, hb, ?_⟩
  have hB2 := hB.later hb
  clear hB
  have hB := hB2
  clear hB2
  have hbw2 := hbw.trans (hb.mono hbw.size)
  clear hbw hb
  have hbw := hbw2
  clear hbw2
  simp only [Act.put, Act.eval, List.setIfInBounds_toArray, List.set_cons_zero, List.set_cons_succ, Array.getD_eq_getD_getElem?, List.getElem?_toArray, List.getElem?_cons_zero, List.getElem?_cons_succ, Option.getD_some, List.getElem_toArray, List.getElem_cons_succ, List.getElem_cons_zero]
  apply ord_pure rfl rfl rfl; (· (intro w; go_simp; with_reducible rfl)); (· (simp only [Act.put, Act.eval, List.setIfInBounds_toArray, List.set_cons_zero, List.set_cons_succ, Array.getD_eq_getD_getElem?, List.getElem?_toArray, List.getElem?_cons_zero, List.getElem?_cons_succ, Option.getD_some, List.getElem_toArray, List.getElem_cons_succ, List.getElem_cons_zero]; with_reducible rfl))
  apply ord_pure rfl rfl rfl; (· (intro w; go_simp; with_reducible rfl)); (· (simp only [Act.put, Act.eval, List.setIfInBounds_toArray, List.set_cons_zero, List.set_cons_succ, Array.getD_eq_getD_getElem?, List.getElem?_toArray, List.getElem?_cons_zero, List.getElem?_cons_succ, Option.getD_some, List.getElem_toArray, List.getElem_cons_succ, List.getElem_cons_zero]; with_reducible rfl))
  apply ord_move rfl rfl rfl rfl; (· (simp only [Act.put, Act.eval, List.setIfInBounds_toArray, List.set_cons_zero, List.set_cons_succ, Array.getD_eq_getD_getElem?, List.getElem?_toArray, List.getElem?_cons_zero, List.getElem?_cons_succ, Option.getD_some, List.getElem_toArray, List.getElem_cons_succ, List.getElem_cons_zero]; with_reducible rfl))
  apply ord_pure rfl rfl rfl; (· (intro w; go_simp; with_reducible rfl)); (· (simp only [Act.put, Act.eval, List.setIfInBounds_toArray, List.set_cons_zero, List.set_cons_succ, Array.getD_eq_getD_getElem?, List.getElem?_toArray, List.getElem?_cons_zero, List.getElem?_cons_succ, Option.getD_some, List.getElem_toArray, List.getElem_cons_succ, List.getElem_cons_zero]; with_reducible rfl))
  apply ord_read rfl rfl rfl; (· (intro V hV; obtain ⟨r0, r1, r2⟩ := cellsT ((hB.later hV) (gb, #[.int .i64 s1, .int .i64 s2, .int .i64 0], 72) (by simp)); go_simp; with_reducible rfl)); (· (simp only [Act.put, Act.eval, List.setIfInBounds_toArray, List.set_cons_zero, List.set_cons_succ, Array.getD_eq_getD_getElem?, List.getElem?_toArray, List.getElem?_cons_zero, List.getElem?_cons_succ, Option.getD_some, List.getElem_toArray, List.getElem_cons_succ, List.getElem_cons_zero]; with_reducible rfl))
  apply ord_pure rfl rfl rfl; (· (intro w; go_simp; with_reducible rfl)); (· (simp only [Act.put, Act.eval, List.setIfInBounds_toArray, List.set_cons_zero, List.set_cons_succ, Array.getD_eq_getD_getElem?, List.getElem?_toArray, List.getElem?_cons_zero, List.getElem?_cons_succ, Option.getD_some, List.getElem_toArray, List.getElem_cons_succ, List.getElem_cons_zero]; with_reducible rfl))
  apply ord_read rfl rfl rfl; (· (intro V hV; obtain ⟨r0, r1, r2⟩ := cellsT ((hB.later hV) (gy, #[.int .i64 s1, .int .i64 s2, .int .i64 0], 73) (by simp)); go_simp; with_reducible rfl)); (· (simp only [Act.put, Act.eval, List.setIfInBounds_toArray, List.set_cons_zero, List.set_cons_succ, Array.getD_eq_getD_getElem?, List.getElem?_toArray, List.getElem?_cons_zero, List.getElem?_cons_succ, Option.getD_some, List.getElem_toArray, List.getElem_cons_succ, List.getElem_cons_zero]; with_reducible rfl))
  apply ord_pure rfl rfl rfl; (· (intro w; go_simp; with_reducible rfl)); (· (simp only [Act.put, Act.eval, List.setIfInBounds_toArray, List.set_cons_zero, List.set_cons_succ, Array.getD_eq_getD_getElem?, List.getElem?_toArray, List.getElem?_cons_zero, List.getElem?_cons_succ, Option.getD_some, List.getElem_toArray, List.getElem_cons_succ, List.getElem_cons_zero]; with_reducible rfl))
  apply ord_pure rfl rfl rfl; (· (intro w; go_simp; with_reducible rfl)); (· (simp only [Act.put, Act.eval, List.setIfInBounds_toArray, List.set_cons_zero, List.set_cons_succ, Array.getD_eq_getD_getElem?, List.getElem?_toArray, List.getElem?_cons_zero, List.getElem?_cons_succ, Option.getD_some, List.getElem_toArray, List.getElem_cons_succ, List.getElem_cons_zero]; with_reducible rfl))
  apply ord_move rfl rfl rfl rfl; (· (simp only [Act.put, Act.eval, List.setIfInBounds_toArray, List.set_cons_zero, List.set_cons_succ, Array.getD_eq_getD_getElem?, List.getElem?_toArray, List.getElem?_cons_zero, List.getElem?_cons_succ, Option.getD_some, List.getElem_toArray, List.getElem_cons_succ, List.getElem_cons_zero]; with_reducible rfl))
  apply ord_pure rfl rfl rfl; (· (intro w; go_simp; with_reducible rfl)); (· (simp only [Act.put, Act.eval, List.setIfInBounds_toArray, List.set_cons_zero, List.set_cons_succ, Array.getD_eq_getD_getElem?, List.getElem?_toArray, List.getElem?_cons_zero, List.getElem?_cons_succ, Option.getD_some, List.getElem_toArray, List.getElem_cons_succ, List.getElem_cons_zero]; with_reducible rfl))
  apply ord_read rfl rfl rfl; (· (intro V hV; obtain ⟨r0, r1, r2⟩ := cellsT ((hB.later hV) (gb, #[.int .i64 s1, .int .i64 s2, .int .i64 0], 72) (by simp)); go_simp; with_reducible rfl)); (· (simp only [Act.put, Act.eval, List.setIfInBounds_toArray, List.set_cons_zero, List.set_cons_succ, Array.getD_eq_getD_getElem?, List.getElem?_toArray, List.getElem?_cons_zero, List.getElem?_cons_succ, Option.getD_some, List.getElem_toArray, List.getElem_cons_succ, List.getElem_cons_zero]; with_reducible rfl))
  apply ord_pure rfl rfl rfl; (· (intro w; go_simp; with_reducible rfl)); (· (simp only [Act.put, Act.eval, List.setIfInBounds_toArray, List.set_cons_zero, List.set_cons_succ, Array.getD_eq_getD_getElem?, List.getElem?_toArray, List.getElem?_cons_zero, List.getElem?_cons_succ, Option.getD_some, List.getElem_toArray, List.getElem_cons_succ, List.getElem_cons_zero]; with_reducible rfl))
  apply ord_read rfl rfl rfl; (· (intro V hV; obtain ⟨r0, r1, r2⟩ := cellsT ((hB.later hV) (gy, #[.int .i64 s1, .int .i64 s2, .int .i64 0], 73) (by simp)); go_simp; with_reducible rfl)); (· (simp only [Act.put, Act.eval, List.setIfInBounds_toArray, List.set_cons_zero, List.set_cons_succ, Array.getD_eq_getD_getElem?, List.getElem?_toArray, List.getElem?_cons_zero, List.getElem?_cons_succ, Option.getD_some, List.getElem_toArray, List.getElem_cons_succ, List.getElem_cons_zero]; with_reducible rfl))
  apply ord_pure rfl rfl rfl; (· (intro w; go_simp; with_reducible rfl)); (· (simp only [Act.put, Act.eval, List.setIfInBounds_toArray, List.set_cons_zero, List.set_cons_succ, Array.getD_eq_getD_getElem?, List.getElem?_toArray, List.getElem?_cons_zero, List.getElem?_cons_succ, Option.getD_some, List.getElem_toArray, List.getElem_cons_succ, List.getElem_cons_zero]; with_reducible rfl))
  apply ord_pure rfl rfl rfl; (· (intro w; go_simp; with_reducible rfl)); (· (simp only [Act.put, Act.eval, List.setIfInBounds_toArray, List.set_cons_zero, List.set_cons_succ, Array.getD_eq_getD_getElem?, List.getElem?_toArray, List.getElem?_cons_zero, List.getElem?_cons_succ, Option.getD_some, List.getElem_toArray, List.getElem_cons_succ, List.getElem_cons_zero]; with_reducible rfl))
  apply ord_move rfl rfl rfl rfl; (· (simp only [Act.put, Act.eval, List.setIfInBounds_toArray, List.set_cons_zero, List.set_cons_succ, Array.getD_eq_getD_getElem?, List.getElem?_toArray, List.getElem?_cons_zero, List.getElem?_cons_succ, Option.getD_some, List.getElem_toArray, List.getElem_cons_succ, List.getElem_cons_zero]; with_reducible rfl))
  apply ord_pure rfl rfl rfl; (· (intro w; go_simp; with_reducible rfl)); (· (simp only [Act.put, Act.eval, List.setIfInBounds_toArray, List.set_cons_zero, List.set_cons_succ, Array.getD_eq_getD_getElem?, List.getElem?_toArray, List.getElem?_cons_zero, List.getElem?_cons_succ, Option.getD_some, List.getElem_toArray, List.getElem_cons_succ, List.getElem_cons_zero]; with_reducible rfl))
  apply ord_read rfl rfl rfl; (· (intro V hV; obtain ⟨r0, r1, r2⟩ := cellsT ((hB.later hV) (gb, #[.int .i64 s1, .int .i64 s2, .int .i64 0], 72) (by simp)); go_simp; with_reducible rfl)); (· (simp only [Act.put, Act.eval, List.setIfInBounds_toArray, List.set_cons_zero, List.set_cons_succ, Array.getD_eq_getD_getElem?, List.getElem?_toArray, List.getElem?_cons_zero, List.getElem?_cons_succ, Option.getD_some, List.getElem_toArray, List.getElem_cons_succ, List.getElem_cons_zero]; with_reducible rfl))
  apply ord_pure rfl rfl rfl; (· (intro w; go_simp; with_reducible rfl)); (· (simp only [Act.put, Act.eval, List.setIfInBounds_toArray, List.set_cons_zero, List.set_cons_succ, Array.getD_eq_getD_getElem?, List.getElem?_toArray, List.getElem?_cons_zero, List.getElem?_cons_succ, Option.getD_some, List.getElem_toArray, List.getElem_cons_succ, List.getElem_cons_zero]; with_reducible rfl))
  apply ord_read rfl rfl rfl; (· (intro V hV; obtain ⟨r0, r1, r2⟩ := cellsT ((hB.later hV) (gy, #[.int .i64 s1, .int .i64 s2, .int .i64 0], 73) (by simp)); go_simp; with_reducible rfl)); (· (simp only [Act.put, Act.eval, List.setIfInBounds_toArray, List.set_cons_zero, List.set_cons_succ, Array.getD_eq_getD_getElem?, List.getElem?_toArray, List.getElem?_cons_zero, List.getElem?_cons_succ, Option.getD_some, List.getElem_toArray, List.getElem_cons_succ, List.getElem_cons_zero]; with_reducible rfl))
  apply ord_pure rfl rfl rfl; (· (intro w; go_simp; with_reducible rfl)); (· (simp only [Act.put, Act.eval, List.setIfInBounds_toArray, List.set_cons_zero, List.set_cons_succ, Array.getD_eq_getD_getElem?, List.getElem?_toArray, List.getElem?_cons_zero, List.getElem?_cons_succ, Option.getD_some, List.getElem_toArray, List.getElem_cons_succ, List.getElem_cons_zero]; with_reducible rfl))
  apply ord_pure rfl rfl rfl; (· (intro w; go_simp; with_reducible rfl)); (· (simp only [Act.put, Act.eval, List.setIfInBounds_toArray, List.set_cons_zero, List.set_cons_succ, Array.getD_eq_getD_getElem?, List.getElem?_toArray, List.getElem?_cons_zero, List.getElem?_cons_succ, Option.getD_some, List.getElem_toArray, List.getElem_cons_succ, List.getElem_cons_zero]; with_reducible rfl))
  apply ord_move rfl rfl rfl rfl; (· (simp only [Act.put, Act.eval, List.setIfInBounds_toArray, List.set_cons_zero, List.set_cons_succ, Array.getD_eq_getD_getElem?, List.getElem?_toArray, List.getElem?_cons_zero, List.getElem?_cons_succ, Option.getD_some, List.getElem_toArray, List.getElem_cons_succ, List.getElem_cons_zero]; with_reducible rfl))
  apply ord_pure rfl rfl rfl; (· (intro w; go_simp; with_reducible rfl)); (· (simp only [Act.put, Act.eval, List.setIfInBounds_toArray, List.set_cons_zero, List.set_cons_succ, Array.getD_eq_getD_getElem?, List.getElem?_toArray, List.getElem?_cons_zero, List.getElem?_cons_succ, Option.getD_some, List.getElem_toArray, List.getElem_cons_succ, List.getElem_cons_zero]; with_reducible rfl))
  apply ord_read rfl rfl rfl; (· (intro V hV; obtain ⟨r0, r1, r2⟩ := cellsT ((hB.later hV) (gc, #[.int .i64 m1, .int .i64 m2, .int .i64 m3], 72) (by simp)); go_simp; with_reducible rfl)); (· (simp only [Act.put, Act.eval, List.setIfInBounds_toArray, List.set_cons_zero, List.set_cons_succ, Array.getD_eq_getD_getElem?, List.getElem?_toArray, List.getElem?_cons_zero, List.getElem?_cons_succ, Option.getD_some, List.getElem_toArray, List.getElem_cons_succ, List.getElem_cons_zero]; with_reducible rfl))
  apply ord_pure rfl rfl rfl; (· (intro w; go_simp; with_reducible rfl)); (· (simp only [Act.put, Act.eval, List.setIfInBounds_toArray, List.set_cons_zero, List.set_cons_succ, Array.getD_eq_getD_getElem?, List.getElem?_toArray, List.getElem?_cons_zero, List.getElem?_cons_succ, Option.getD_some, List.getElem_toArray, List.getElem_cons_succ, List.getElem_cons_zero]; with_reducible rfl))
  apply ord_read rfl rfl rfl; (· (intro V hV; obtain ⟨r0, r1, r2⟩ := cellsT ((hB.later hV) (gz, #[.int .i64 m1, .int .i64 m2, .int .i64 m3], 73) (by simp)); go_simp; with_reducible rfl)); (· (simp only [Act.put, Act.eval, List.setIfInBounds_toArray, List.set_cons_zero, List.set_cons_succ, Array.getD_eq_getD_getElem?, List.getElem?_toArray, List.getElem?_cons_zero, List.getElem?_cons_succ, Option.getD_some, List.getElem_toArray, List.getElem_cons_succ, List.getElem_cons_zero]; with_reducible rfl))
  apply ord_pure rfl rfl rfl; (· (intro w; go_simp; with_reducible rfl)); (· (simp only [Act.put, Act.eval, List.setIfInBounds_toArray, List.set_cons_zero, List.set_cons_succ, Array.getD_eq_getD_getElem?, List.getElem?_toArray, List.getElem?_cons_zero, List.getElem?_cons_succ, Option.getD_some, List.getElem_toArray, List.getElem_cons_succ, List.getElem_cons_zero]; with_reducible rfl))
  apply ord_pure rfl rfl rfl; (· (intro w; go_simp; with_reducible rfl)); (· (simp only [Act.put, Act.eval, List.setIfInBounds_toArray, List.set_cons_zero, List.set_cons_succ, Array.getD_eq_getD_getElem?, List.getElem?_toArray, List.getElem?_cons_zero, List.getElem?_cons_succ, Option.getD_some, List.getElem_toArray, List.getElem_cons_succ, List.getElem_cons_zero]; with_reducible rfl))
  apply ord_move rfl rfl rfl rfl; (· (simp only [Act.put, Act.eval, List.setIfInBounds_toArray, List.set_cons_zero, List.set_cons_succ, Array.getD_eq_getD_getElem?, List.getElem?_toArray, List.getElem?_cons_zero, List.getElem?_cons_succ, Option.getD_some, List.getElem_toArray, List.getElem_cons_succ, List.getElem_cons_zero]; with_reducible rfl))
  apply ord_pure rfl rfl rfl; (· (intro w; go_simp; with_reducible rfl)); (· (simp only [Act.put, Act.eval, List.setIfInBounds_toArray, List.set_cons_zero, List.set_cons_succ, Array.getD_eq_getD_getElem?, List.getElem?_toArray, List.getElem?_cons_zero, List.getElem?_cons_succ, Option.getD_some, List.getElem_toArray, List.getElem_cons_succ, List.getElem_cons_zero]; with_reducible rfl))
  apply ord_read rfl rfl rfl; (· (intro V hV; obtain ⟨r0, r1, r2⟩ := cellsT ((hB.later hV) (gc, #[.int .i64 m1, .int .i64 m2, .int .i64 m3], 72) (by simp)); go_simp; with_reducible rfl)); (· (simp only [Act.put, Act.eval, List.setIfInBounds_toArray, List.set_cons_zero, List.set_cons_succ, Array.getD_eq_getD_getElem?, List.getElem?_toArray, List.getElem?_cons_zero, List.getElem?_cons_succ, Option.getD_some, List.getElem_toArray, List.getElem_cons_succ, List.getElem_cons_zero]; with_reducible rfl))
  apply ord_pure rfl rfl rfl; (· (intro w; go_simp; with_reducible rfl)); (· (simp only [Act.put, Act.eval, List.setIfInBounds_toArray, List.set_cons_zero, List.set_cons_succ, Array.getD_eq_getD_getElem?, List.getElem?_toArray, List.getElem?_cons_zero, List.getElem?_cons_succ, Option.getD_some, List.getElem_toArray, List.getElem_cons_succ, List.getElem_cons_zero]; with_reducible rfl))
  apply ord_read rfl rfl rfl; (· (intro V hV; obtain ⟨r0, r1, r2⟩ := cellsT ((hB.later hV) (gz, #[.int .i64 m1, .int .i64 m2, .int .i64 m3], 73) (by simp)); go_simp; with_reducible rfl)); (· (simp only [Act.put, Act.eval, List.setIfInBounds_toArray, List.set_cons_zero, List.set_cons_succ, Array.getD_eq_getD_getElem?, List.getElem?_toArray, List.getElem?_cons_zero, List.getElem?_cons_succ, Option.getD_some, List.getElem_toArray, List.getElem_cons_succ, List.getElem_cons_zero]; with_reducible rfl))
  apply ord_pure rfl rfl rfl; (· (intro w; go_simp; with_reducible rfl)); (· (simp only [Act.put, Act.eval, List.setIfInBounds_toArray, List.set_cons_zero, List.set_cons_succ, Array.getD_eq_getD_getElem?, List.getElem?_toArray, List.getElem?_cons_zero, List.getElem?_cons_succ, Option.getD_some, List.getElem_toArray, List.getElem_cons_succ, List.getElem_cons_zero]; with_reducible rfl))
  apply ord_pure rfl rfl rfl; (· (intro w; go_simp; with_reducible rfl)); (· (simp only [Act.put, Act.eval, List.setIfInBounds_toArray, List.set_cons_zero, List.set_cons_succ, Array.getD_eq_getD_getElem?, List.getElem?_toArray, List.getElem?_cons_zero, List.getElem?_cons_succ, Option.getD_some, List.getElem_toArray, List.getElem_cons_succ, List.getElem_cons_zero]; with_reducible rfl))
  apply ord_move rfl rfl rfl rfl; (· (simp only [Act.put, Act.eval, List.setIfInBounds_toArray, List.set_cons_zero, List.set_cons_succ, Array.getD_eq_getD_getElem?, List.getElem?_toArray, List.getElem?_cons_zero, List.getElem?_cons_succ, Option.getD_some, List.getElem_toArray, List.getElem_cons_succ, List.getElem_cons_zero]; with_reducible rfl))
  apply ord_pure rfl rfl rfl; (· (intro w; go_simp; with_reducible rfl)); (· (simp only [Act.put, Act.eval, List.setIfInBounds_toArray, List.set_cons_zero, List.set_cons_succ, Array.getD_eq_getD_getElem?, List.getElem?_toArray, List.getElem?_cons_zero, List.getElem?_cons_succ, Option.getD_some, List.getElem_toArray, List.getElem_cons_succ, List.getElem_cons_zero]; with_reducible rfl))
  apply ord_read rfl rfl rfl; (· (intro V hV; obtain ⟨r0, r1, r2⟩ := cellsT ((hB.later hV) (gc, #[.int .i64 m1, .int .i64 m2, .int .i64 m3], 72) (by simp)); go_simp; with_reducible rfl)); (· (simp only [Act.put, Act.eval, List.setIfInBounds_toArray, List.set_cons_zero, List.set_cons_succ, Array.getD_eq_getD_getElem?, List.getElem?_toArray, List.getElem?_cons_zero, List.getElem?_cons_succ, Option.getD_some, List.getElem_toArray, List.getElem_cons_succ, List.getElem_cons_zero]; with_reducible rfl))
  apply ord_pure rfl rfl rfl; (· (intro w; go_simp; with_reducible rfl)); (· (simp only [Act.put, Act.eval, List.setIfInBounds_toArray, List.set_cons_zero, List.set_cons_succ, Array.getD_eq_getD_getElem?, List.getElem?_toArray, List.getElem?_cons_zero, List.getElem?_cons_succ, Option.getD_some, List.getElem_toArray, List.getElem_cons_succ, List.getElem_cons_zero]; with_reducible rfl))
  apply ord_read rfl rfl rfl; (· (intro V hV; obtain ⟨r0, r1, r2⟩ := cellsT ((hB.later hV) (gz, #[.int .i64 m1, .int .i64 m2, .int .i64 m3], 73) (by simp)); go_simp; with_reducible rfl)); (· (simp only [Act.put, Act.eval, List.setIfInBounds_toArray, List.set_cons_zero, List.set_cons_succ, Array.getD_eq_getD_getElem?, List.getElem?_toArray, List.getElem?_cons_zero, List.getElem?_cons_succ, Option.getD_some, List.getElem_toArray, List.getElem_cons_succ, List.getElem_cons_zero]; with_reducible rfl))
  apply ord_pure rfl rfl rfl; (· (intro w; go_simp; with_reducible rfl)); (· (simp only [Act.put, Act.eval, List.setIfInBounds_toArray, List.set_cons_zero, List.set_cons_succ, Array.getD_eq_getD_getElem?, List.getElem?_toArray, List.getElem?_cons_zero, List.getElem?_cons_succ, Option.getD_some, List.getElem_toArray, List.getElem_cons_succ, List.getElem_cons_zero]; with_reducible rfl))
  apply ord_pure rfl rfl rfl; (· (intro w; go_simp; with_reducible rfl)); (· (simp only [Act.put, Act.eval, List.setIfInBounds_toArray, List.set_cons_zero, List.set_cons_succ, Array.getD_eq_getD_getElem?, List.getElem?_toArray, List.getElem?_cons_zero, List.getElem?_cons_succ, Option.getD_some, List.getElem_toArray, List.getElem_cons_succ, List.getElem_cons_zero]; with_reducible rfl))
  apply ord_move rfl rfl rfl rfl; (· (simp only [Act.put, Act.eval, List.setIfInBounds_toArray, List.set_cons_zero, List.set_cons_succ, Array.getD_eq_getD_getElem?, List.getElem?_toArray, List.getElem?_cons_zero, List.getElem?_cons_succ, Option.getD_some, List.getElem_toArray, List.getElem_cons_succ, List.getElem_cons_zero]; with_reducible rfl))
  apply ord_read rfl rfl rfl; (· (intro V hV; obtain ⟨r0, r1, r2⟩ := cellsT ((hB.later hV) (gb, #[.int .i64 s1, .int .i64 s2, .int .i64 0], 72) (by simp)); go_simp; with_reducible rfl)); (· (simp only [Act.put, Act.eval, List.setIfInBounds_toArray, List.set_cons_zero, List.set_cons_succ, Array.getD_eq_getD_getElem?, List.getElem?_toArray, List.getElem?_cons_zero, List.getElem?_cons_succ, Option.getD_some, List.getElem_toArray, List.getElem_cons_succ, List.getElem_cons_zero]; with_reducible rfl))
  apply ord_read rfl rfl rfl; (· (intro V hV; obtain ⟨r0, r1, r2⟩ := cellsT ((hB.later hV) (gy, #[.int .i64 s1, .int .i64 s2, .int .i64 0], 73) (by simp)); go_simp; with_reducible rfl)); (· (simp only [Act.put, Act.eval, List.setIfInBounds_toArray, List.set_cons_zero, List.set_cons_succ, Array.getD_eq_getD_getElem?, List.getElem?_toArray, List.getElem?_cons_zero, List.getElem?_cons_succ, Option.getD_some, List.getElem_toArray, List.getElem_cons_succ, List.getElem_cons_zero]; with_reducible rfl))
  refine ord_call rfl rfl rfl (by go_simp; exact ⟨rfl, rfl⟩) ?_
  refine (p4.out _).mono ?_
  rintro e w8 ⟨rfl, hb⟩
  refine ⟨_, rfl, hb, ?_⟩
  have hB2 := hB.later hb
  clear hB
  have hB := hB2
  clear hB2
  have hbw2 := hbw.trans (hb.mono hbw.size)
  clear hbw hb
  have hbw := hbw2
  clear hbw2
  simp only [Act.put, Act.eval, List.setIfInBounds_toArray, List.set_cons_zero, List.set_cons_succ, Array.getD_eq_getD_getElem?, List.getElem?_toArray, List.getElem?_cons_zero, List.getElem?_cons_succ, Option.getD_some, List.getElem_toArray, List.getElem_cons_succ, List.getElem_cons_zero]
  refine ord_call rfl rfl rfl (by go_simp; exact ⟨rfl, rfl⟩) ?_
  refine (q4.out _).mono ?_
  rintro e w9 ⟨rfl, hb⟩
  refine ⟨_, rfl, hb, ?_⟩
  have hB2 := hB.later hb
  clear hB
  have hB := hB2
  clear hB2
  have hbw2 := hbw.trans (hb.mono hbw.size)
  clear hbw hb
  have hbw := hbw2
  clear hbw2
  simp only [Act.put, Act.eval, List.setIfInBounds_toArray, List.set_cons_zero, List.set_cons_succ, Array.getD_eq_getD_getElem?, List.getElem?_toArray, List.getElem?_cons_zero, List.getElem?_cons_succ, Option.getD_some, List.getElem_toArray, List.getElem_cons_succ, List.getElem_cons_zero]
  apply ord_pure rfl rfl rfl; (· (intro w; go_simp; with_reducible rfl)); (· (simp only [Act.put, Act.eval, List.setIfInBounds_toArray, List.set_cons_zero, List.set_cons_succ, Array.getD_eq_getD_getElem?, List.getElem?_toArray, List.getElem?_cons_zero, List.getElem?_cons_succ, Option.getD_some, List.getElem_toArray, List.getElem_cons_succ, List.getElem_cons_zero]; with_reducible rfl))
  apply ord_pure rfl rfl rfl; (· (intro w; go_simp; with_reducible rfl)); (· (simp only [Act.put, Act.eval, List.setIfInBounds_toArray, List.set_cons_zero, List.set_cons_succ, Array.getD_eq_getD_getElem?, List.getElem?_toArray, List.getElem?_cons_zero, List.getElem?_cons_succ, Option.getD_some, List.getElem_toArray, List.getElem_cons_succ, List.getElem_cons_zero]; with_reducible rfl))
  apply ord_move rfl rfl rfl rfl; (· (simp only [Act.put, Act.eval, List.setIfInBounds_toArray, List.set_cons_zero, List.set_cons_succ, Array.getD_eq_getD_getElem?, List.getElem?_toArray, List.getElem?_cons_zero, List.getElem?_cons_succ, Option.getD_some, List.getElem_toArray, List.getElem_cons_succ, List.getElem_cons_zero]; with_reducible rfl))
  apply ord_read rfl rfl rfl; (· (intro V hV; obtain ⟨r0, r1, r2⟩ := cellsT ((hB.later hV) (gc, #[.int .i64 m1, .int .i64 m2, .int .i64 m3], 72) (by simp)); go_simp; with_reducible rfl)); (· (simp only [Act.put, Act.eval, List.setIfInBounds_toArray, List.set_cons_zero, List.set_cons_succ, Array.getD_eq_getD_getElem?, List.getElem?_toArray, List.getElem?_cons_zero, List.getElem?_cons_succ, Option.getD_some, List.getElem_toArray, List.getElem_cons_succ, List.getElem_cons_zero]; with_reducible rfl))
  apply ord_read rfl rfl rfl; (· (intro V hV; obtain ⟨r0, r1, r2⟩ := cellsT ((hB.later hV) (gz, #[.int .i64 m1, .int .i64 m2, .int .i64 m3], 73) (by simp)); go_simp; with_reducible rfl)); (· (simp only [Act.put, Act.eval, List.setIfInBounds_toArray, List.set_cons_zero, List.set_cons_succ, Array.getD_eq_getD_getElem?, List.getElem?_toArray, List.getElem?_cons_zero, List.getElem?_cons_succ, Option.getD_some, List.getElem_toArray, List.getElem_cons_succ, List.getElem_cons_zero]; with_reducible rfl))
  refine ord_call rfl rfl rfl (by go_simp; exact ⟨rfl, rfl⟩) ?_
  refine (p5.out _).mono ?_
  rintro e w10 ⟨rfl, hb⟩
  refine ⟨_, rfl, hb, ?_⟩
  have hB2 := hB.later hb
  clear hB
  have hB := hB2
  clear hB2
  have hbw2 := hbw.trans (hb.mono hbw.size)
  clear hbw hb
  have hbw := hbw2
  clear hbw2
  simp only [Act.put, Act.eval, List.setIfInBounds_toArray, List.set_cons_zero, List.set_cons_succ, Array.getD_eq_getD_getElem?, List.getElem?_toArray, List.getElem?_cons_zero, List.getElem?_cons_succ, Option.getD_some, List.getElem_toArray, List.getElem_cons_succ, List.getElem_cons_zero]
  refine ord_call rfl rfl rfl (by go_simp; exact ⟨rfl, rfl⟩) ?_
  refine (q5.out _).mono ?_
  rintro e w11 ⟨rfl, hb⟩
  refine ⟨_, rfl, hb, ?_⟩
  have hB2 := hB.later hb
  clear hB
  have hB := hB2
  clear hB2
  have hbw2 := hbw.trans (hb.mono hbw.size)
  clear hbw hb
  have hbw := hbw2
  clear hbw2
  simp only [Act.put, Act.eval, List.setIfInBounds_toArray, List.set_cons_zero, List.set_cons_succ, Array.getD_eq_getD_getElem?, List.getElem?_toArray, List.getElem?_cons_zero, List.getElem?_cons_succ, Option.getD_some, List.getElem_toArray, List.getElem_cons_succ, List.getElem_cons_zero]
  apply ord_pure rfl rfl rfl; (· (intro w; go_simp; with_reducible rfl)); (· (simp only [Act.put, Act.eval, List.setIfInBounds_toArray, List.set_cons_zero, List.set_cons_succ, Array.getD_eq_getD_getElem?, List.getElem?_toArray, List.getElem?_cons_zero, List.getElem?_cons_succ, Option.getD_some, List.getElem_toArray, List.getElem_cons_succ, List.getElem_cons_zero]; with_reducible rfl))
  apply ord_pure rfl rfl rfl; (· (intro w; go_simp; with_reducible rfl)); (· (simp only [Act.put, Act.eval, List.setIfInBounds_toArray, List.set_cons_zero, List.set_cons_succ, Array.getD_eq_getD_getElem?, List.getElem?_toArray, List.getElem?_cons_zero, List.getElem?_cons_succ, Option.getD_some, List.getElem_toArray, List.getElem_cons_succ, List.getElem_cons_zero]; with_reducible rfl))
  apply ord_pure rfl rfl rfl; (· (intro w; go_simp; with_reducible rfl)); (· (simp only [Act.put, Act.eval, List.setIfInBounds_toArray, List.set_cons_zero, List.set_cons_succ, Array.getD_eq_getD_getElem?, List.getElem?_toArray, List.getElem?_cons_zero, List.getElem?_cons_succ, Option.getD_some, List.getElem_toArray, List.getElem_cons_succ, List.getElem_cons_zero]; with_reducible rfl))
  with_reducible refine ord_nil ?_
  go_wp2
  go_ret
  exact ⟨rfl, hbw⟩
end Go.Proofs.Ytmgapdbfaoflmaa.Tm
