/- The table: New; Look of what is not there. -/
import Derived.Test.YticijejnemnmlaaInP
namespace Go.Proofs.Yticijejnemnmlaa.If
open Go.RowKit Rt
set_option linter.unusedSimpArgs false
set_option linter.unusedVariables false
theorem New_bad (w : World) (most : Int) (h : most < 1 ∨ 100000 < most) : Calls Try.prog 22 #[.int .i64 most] w fun e w' => e = .returned (.tuple #[.pointer none, .int .i64 1]) ∧ w' = w := by
  by_cases h1 : most < 1
  · go_enter Try.func22, Try.ntmps22
    go_wp2
    refine bodyPost_ret (v := .tuple #[.pointer none, .int .i64 1]) (by simp [results, Try.results22, go_sem]) rfl ⟨rfl, rfl⟩
  · have h2 : 100000 < most := by omega
    go_enter Try.func22, Try.ntmps22
    go_wp2
    refine bodyPost_ret (v := .tuple #[.pointer none, .int .i64 1]) (by simp [results, Try.results22, go_sem]) rfl ⟨rfl, rfl⟩

theorem new_tab (w : World) (most : Int) {W : World} (hW : ((w.alloc (.map #[] 0)).alloc (.cells #[.int .i64 most, .map (some w.heap.size), .bool false, .int .u64 0, .int .u64 0, .int .i64 0, .int .i64 0, .int .i64 0, .slice none 0 0, .int .i64 0, .pointer (some ⟨w.heap.size + 1, 2, none⟩), .pointer (some ⟨w.heap.size + 1, 2, none⟩)] 92)).drew = W) :
    TabL W (w.heap.size + 1) w.heap.size most [] ∧ Below w.heap.size w W ∧ W.heap.size = w.heap.size + 2 := by
  have hs1 : (w.alloc (.map #[] 0)).heap.size = w.heap.size + 1 := by simp
  obtain ⟨tb, htb⟩ : ∃ tb, w.heap.size + 1 = tb := ⟨_, rfl⟩
  rw [htb] at hs1 hW ⊢
  have h0 : W.heap[tb]? = some (.cells #[.int .i64 most, .map (some w.heap.size), .bool false, .int .u64 0, .int .u64 0, .int .i64 0, .int .i64 0, .int .i64 0, .slice none 0 0, .int .i64 0, .pointer (some ⟨tb, 2, none⟩), .pointer (some ⟨tb, 2, none⟩)] 92 (0, 0)) := by
    rw [← hW, ← hs1]; exact Array.getElem?_push_size
  have hb : Below w.heap.size w W := by rw [← hW]; exact (((Below.refl _ _).alloc (Nat.le_refl _) _).alloc (by simp) _).drew
  have hm : MapAP W w.heap.size 0 (fun _ => none) := (MapAP.made w).keep (by rw [← hW]; exact Below.heap_alloc _ _ _ (by simp))
  refine ⟨⟨⟨fun _ => tb, fun _ => tb, ⟨by simp [World.cell?, h0], by simp [World.cell?, h0], fun p hp => (by cases hp), fun p hp => (by cases hp), ?_, ?_, ?_, ⟨rfl, rfl⟩, by simp⟩⟩, ⟨_, hm, fun k j => ⟨fun h => (by cases h), fun ⟨v, hv⟩ => (by cases hv)⟩⟩, fun p hp => (by cases hp)⟩, hb, ?_⟩
  · intro x hx
    obtain rfl : x = tb := by simpa using hx
    simp [World.cell?, h0, off_same, ptr]
  · intro x hx
    obtain rfl : x = tb := by simpa using hx
    simp [World.cell?, h0, off_same, ptr]
  · intro x hx
    obtain rfl : x = tb := by simpa using hx
    exact ⟨_, _, h0⟩
  · rw [← hW, ← htb]; show Array.size _ = _; simp
set_option maxRecDepth 100000 in
theorem New_any (w : World) (most : Int) (h1 : 1 ≤ most) (h2 : most ≤ 100000) : Calls Try.prog 22 #[.int .i64 most] w fun e w' =>
    e = .returned (.tuple #[.pointer (some ⟨w.heap.size + 1, 0, none⟩), .int .i64 0]) ∧ TabL w' (w.heap.size + 1) w.heap.size most [] ∧ Below w.heap.size w w' ∧ w'.heap.size = w.heap.size + 2 := by
  have hmm := @run_makeMap Try.prog
  have h1' : ¬ most < 1 := by omega
  have h2' : ¬ 100000 < most := by omega
  go_enter Try.func22, Try.ntmps22
  go_upto_region 4 with (fail)
  refine Rt.wp_region_text [0, 0, 0, 0, 0, 0, 0, 0, 0, 0, 0, 2, 0, 0, 0, 2] (by kernel_rfl) (by kernel_rfl) ?_
  apply txt_move rfl rfl; (· (simp only [Act.put, Act.eval, List.setIfInBounds_toArray, List.set_cons_zero, List.set_cons_succ, Array.getD_eq_getD_getElem?, List.getElem?_toArray, List.getElem?_cons_zero, List.getElem?_cons_succ, Option.getD_some, List.getElem_toArray, List.getElem_cons_succ, List.getElem_cons_zero]; with_reducible rfl))
  apply txt_move rfl rfl; (· (simp only [Act.put, Act.eval, List.setIfInBounds_toArray, List.set_cons_zero, List.set_cons_succ, Array.getD_eq_getD_getElem?, List.getElem?_toArray, List.getElem?_cons_zero, List.getElem?_cons_succ, Option.getD_some, List.getElem_toArray, List.getElem_cons_succ, List.getElem_cons_zero]; with_reducible rfl))
  apply txt_move rfl rfl; (· (simp only [Act.put, Act.eval, List.setIfInBounds_toArray, List.set_cons_zero, List.set_cons_succ, Array.getD_eq_getD_getElem?, List.getElem?_toArray, List.getElem?_cons_zero, List.getElem?_cons_succ, Option.getD_some, List.getElem_toArray, List.getElem_cons_succ, List.getElem_cons_zero]; with_reducible rfl))
  apply txt_pure rfl rfl rfl; (· (intro w; go_simp; with_reducible rfl)); (· (simp only [Act.put, Act.eval, List.setIfInBounds_toArray, List.set_cons_zero, List.set_cons_succ, Array.getD_eq_getD_getElem?, List.getElem?_toArray, List.getElem?_cons_zero, List.getElem?_cons_succ, Option.getD_some, List.getElem_toArray, List.getElem_cons_succ, List.getElem_cons_zero]; with_reducible rfl))
  apply txt_pure rfl rfl rfl; (· (intro w; go_simp; with_reducible rfl)); (· (simp only [Act.put, Act.eval, List.setIfInBounds_toArray, List.set_cons_zero, List.set_cons_succ, Array.getD_eq_getD_getElem?, List.getElem?_toArray, List.getElem?_cons_zero, List.getElem?_cons_succ, Option.getD_some, List.getElem_toArray, List.getElem_cons_succ, List.getElem_cons_zero]; with_reducible rfl))
  apply txt_move rfl rfl; (· (simp only [Act.put, Act.eval, List.setIfInBounds_toArray, List.set_cons_zero, List.set_cons_succ, Array.getD_eq_getD_getElem?, List.getElem?_toArray, List.getElem?_cons_zero, List.getElem?_cons_succ, Option.getD_some, List.getElem_toArray, List.getElem_cons_succ, List.getElem_cons_zero]; with_reducible rfl))
  apply txt_pure rfl rfl rfl; (· (intro w; go_simp; with_reducible rfl)); (· (simp only [Act.put, Act.eval, List.setIfInBounds_toArray, List.set_cons_zero, List.set_cons_succ, Array.getD_eq_getD_getElem?, List.getElem?_toArray, List.getElem?_cons_zero, List.getElem?_cons_succ, Option.getD_some, List.getElem_toArray, List.getElem_cons_succ, List.getElem_cons_zero]; with_reducible rfl))
  apply txt_pure rfl rfl rfl; (· (intro w; go_simp; with_reducible rfl)); (· (simp only [Act.put, Act.eval, List.setIfInBounds_toArray, List.set_cons_zero, List.set_cons_succ, Array.getD_eq_getD_getElem?, List.getElem?_toArray, List.getElem?_cons_zero, List.getElem?_cons_succ, Option.getD_some, List.getElem_toArray, List.getElem_cons_succ, List.getElem_cons_zero]; with_reducible rfl))
  apply txt_pure rfl rfl rfl; (· (intro w; go_simp; with_reducible rfl)); (· (simp only [Act.put, Act.eval, List.setIfInBounds_toArray, List.set_cons_zero, List.set_cons_succ, Array.getD_eq_getD_getElem?, List.getElem?_toArray, List.getElem?_cons_zero, List.getElem?_cons_succ, Option.getD_some, List.getElem_toArray, List.getElem_cons_succ, List.getElem_cons_zero]; with_reducible rfl))
  apply txt_pure rfl rfl rfl; (· (intro w; go_simp; with_reducible rfl)); (· (simp only [Act.put, Act.eval, List.setIfInBounds_toArray, List.set_cons_zero, List.set_cons_succ, Array.getD_eq_getD_getElem?, List.getElem?_toArray, List.getElem?_cons_zero, List.getElem?_cons_succ, Option.getD_some, List.getElem_toArray, List.getElem_cons_succ, List.getElem_cons_zero]; with_reducible rfl))
  apply txt_pure rfl rfl rfl; (· (intro w; go_simp; with_reducible rfl)); (· (simp only [Act.put, Act.eval, List.setIfInBounds_toArray, List.set_cons_zero, List.set_cons_succ, Array.getD_eq_getD_getElem?, List.getElem?_toArray, List.getElem?_cons_zero, List.getElem?_cons_succ, Option.getD_some, List.getElem_toArray, List.getElem_cons_succ, List.getElem_cons_zero]; with_reducible rfl))
  apply txt_do rfl rfl rfl; (· (go_simp; with_reducible rfl)); (· (simp only [Act.put, Act.eval, List.setIfInBounds_toArray, List.set_cons_zero, List.set_cons_succ, Array.getD_eq_getD_getElem?, List.getElem?_toArray, List.getElem?_cons_zero, List.getElem?_cons_succ, Option.getD_some, List.getElem_toArray, List.getElem_cons_succ, List.getElem_cons_zero]; with_reducible rfl))
  apply txt_pure rfl rfl rfl; (· (intro w; go_simp; with_reducible rfl)); (· (simp only [Act.put, Act.eval, List.setIfInBounds_toArray, List.set_cons_zero, List.set_cons_succ, Array.getD_eq_getD_getElem?, List.getElem?_toArray, List.getElem?_cons_zero, List.getElem?_cons_succ, Option.getD_some, List.getElem_toArray, List.getElem_cons_succ, List.getElem_cons_zero]; with_reducible rfl))
  apply txt_pure rfl rfl rfl; (· (intro w; go_simp; with_reducible rfl)); (· (simp only [Act.put, Act.eval, List.setIfInBounds_toArray, List.set_cons_zero, List.set_cons_succ, Array.getD_eq_getD_getElem?, List.getElem?_toArray, List.getElem?_cons_zero, List.getElem?_cons_succ, Option.getD_some, List.getElem_toArray, List.getElem_cons_succ, List.getElem_cons_zero]; with_reducible rfl))
  apply txt_pure rfl rfl rfl; (· (intro w; go_simp; with_reducible rfl)); (· (simp only [Act.put, Act.eval, List.setIfInBounds_toArray, List.set_cons_zero, List.set_cons_succ, Array.getD_eq_getD_getElem?, List.getElem?_toArray, List.getElem?_cons_zero, List.getElem?_cons_succ, Option.getD_some, List.getElem_toArray, List.getElem_cons_succ, List.getElem_cons_zero]; with_reducible rfl))
  apply txt_do rfl rfl rfl; (· (go_simp; with_reducible rfl)); (· (simp only [Act.put, Act.eval, List.setIfInBounds_toArray, List.set_cons_zero, List.set_cons_succ, Array.getD_eq_getD_getElem?, List.getElem?_toArray, List.getElem?_cons_zero, List.getElem?_cons_succ, Option.getD_some, List.getElem_toArray, List.getElem_cons_succ, List.getElem_cons_zero]; with_reducible rfl))
  with_reducible refine txt_nil ?_
  go_wp2
  refine bodyPost_ret (v := .tuple #[.pointer (some ⟨w.heap.size + 1, 0, none⟩), .int .i64 0]) (by simp [results, Try.results22, go_sem]) rfl ⟨rfl, new_tab w most rfl⟩
theorem set5_0 (W : World) (b : Nat) (s : Sv) : set5 W b 0 s = ((((W.setCell ⟨b, 0, none⟩ (.int .i64 s.x0)).setCell ⟨b, 1, none⟩ (.int .i64 s.x1)).setCell ⟨b, 2, none⟩ (.int .i64 s.x2)).setCell ⟨b, 3, none⟩ (.slice s.la s.ln s.lc)).setCell ⟨b, 4, none⟩ (.int .i64 s.pl) := by
  unfold set5; simp only [Nat.zero_add]
theorem set5_3 (W : World) (b : Nat) (s : Sv) : set5 W b 3 s = ((((W.setCell ⟨b, 3, none⟩ (.int .i64 s.x0)).setCell ⟨b, 4, none⟩ (.int .i64 s.x1)).setCell ⟨b, 5, none⟩ (.int .i64 s.x2)).setCell ⟨b, 6, none⟩ (.slice s.la s.ln s.lc)).setCell ⟨b, 7, none⟩ (.int .i64 s.pl) := rfl
theorem set5_size (W : World) (b o : Nat) (s : Sv) : (set5 W b o s).heap.size = W.heap.size := by unfold set5; simp [World.setCell]
set_option maxRecDepth 100000 in
set_option maxHeartbeats 2000000 in
theorem Look_no {w : World} {tb bm : Nat} {most : Int} {L : List Nd} (h : TabL w tb bm most L) {a : Ad} (ha : a.ok) (hno : ∀ p ∈ L, p.2.1 ≠ a) :
    Calls Try.prog 38 #[.pointer (some ⟨tb, 0, none⟩), a.val] w fun e w' => e = .returned (.tuple #[zeroS.val, .bool false]) ∧ Below w.heap.size w w' := by
  obtain ⟨W, hW⟩ : ∃ W, ((w.alloc (.cells #[.bool a.v6, .int .u64 a.hi, .int .u64 a.lo] 31)).alloc (.cells #[.int .i64 0, .int .i64 0, .int .i64 0, .slice none 0 0, .int .i64 0] 59)) = W := ⟨_, rfl⟩
  obtain ⟨hB, k1, k2, k3, hs⟩ := look_mid w a hW
  have h' := h.keep (w' := W) (fun x hx => hB.block x (h.lt x hx))
  obtain ⟨nx, la, h1⟩ := h'.ring
  obtain ⟨f, h2, h3⟩ := h'.map
  have hf : f a = none := by
    cases hf : f a with
    | none => rfl
    | some j => obtain ⟨v, hv⟩ := (h3 a j).1 hf; exact absurd rfl (hno _ hv)
  have hl := (h2.keep (w' := W.drew) rfl).look ha
  rw [hf] at hl
  replace hl : (Instr.lookup 87 (.map (some bm)) (.agg #[.bool a.v6, .int .u64 a.hi, .int .u64 a.lo]) true).run Try.prog W.drew = .ok (.tuple #[.pointer none, .bool false]) W.drew := hl
  have c1 := h1.c1
  obtain ⟨q0, q1, q2⟩ := k1.three
  obtain ⟨r0, r1, r2, r3, r4⟩ := k2.five
  have g := fun j => k3.frz j
  obtain ⟨kb, hkb⟩ : ∃ b, w.heap.size = b := ⟨_, rfl⟩
  have hWH := Lib.hid hW
  have hkbH := Lib.hid hkb
  have hBH := Lib.hid hB
  have hsW : W.heap.size = kb + 2 := by rw [hs, hkb]
  have hn1 : kb + 1 ≠ kb + 2 := by omega
  have hn2 : kb + 1 < kb + 2 := by omega
  rw [hkb] at q0 q1 q2 r0 r1 r2 r3 r4 g
  have hk2 : Hid (CellsAt W (kb + 1) 0 zeroS.cs) := Lib.hid (hkb ▸ k2)
  simp only [zeroS, Nat.zero_add, Nat.reduceAdd] at r0 r1 r2 r3 r4 q0 q1 q2
  clear h h' h1 h2 h3 hf hno k1 k2 k3 hW hkb hB hs
  go_enter Try.func38, Try.ntmps38
  unfold Ad.val
  go_upto_region 1 with (fail)
  rw [hWH.out, hkbH.out]
  refine Rt.wp_region_text [0, 0, 0, 1, 1, 1, 0, 0, 0, 0, 0] (by kernel_rfl) (by kernel_rfl) ?_
  apply txt_move rfl rfl; (· (simp only [Act.put, Act.eval, List.setIfInBounds_toArray, List.set_cons_zero, List.set_cons_succ, Array.getD_eq_getD_getElem?, List.getElem?_toArray, List.getElem?_cons_zero, List.getElem?_cons_succ, Option.getD_some, List.getElem_toArray, List.getElem_cons_succ, List.getElem_cons_zero]; with_reducible rfl))
  apply txt_pure rfl rfl rfl; (· (intro w; go_simp; with_reducible rfl)); (· (simp only [Act.put, Act.eval, List.setIfInBounds_toArray, List.set_cons_zero, List.set_cons_succ, Array.getD_eq_getD_getElem?, List.getElem?_toArray, List.getElem?_cons_zero, List.getElem?_cons_succ, Option.getD_some, List.getElem_toArray, List.getElem_cons_succ, List.getElem_cons_zero]; with_reducible rfl))
  apply txt_pure rfl rfl rfl; (· (intro w; go_simp; with_reducible rfl)); (· (simp only [Act.put, Act.eval, List.setIfInBounds_toArray, List.set_cons_zero, List.set_cons_succ, Array.getD_eq_getD_getElem?, List.getElem?_toArray, List.getElem?_cons_zero, List.getElem?_cons_succ, Option.getD_some, List.getElem_toArray, List.getElem_cons_succ, List.getElem_cons_zero]; with_reducible rfl))
  apply txt_read rfl rfl rfl; (· (go_simp; with_reducible rfl)); (· (simp only [Act.put, Act.eval, List.setIfInBounds_toArray, List.set_cons_zero, List.set_cons_succ, Array.getD_eq_getD_getElem?, List.getElem?_toArray, List.getElem?_cons_zero, List.getElem?_cons_succ, Option.getD_some, List.getElem_toArray, List.getElem_cons_succ, List.getElem_cons_zero]; with_reducible rfl))
  apply txt_read rfl rfl rfl; (· (go_simp; with_reducible rfl)); (· (simp only [Act.put, Act.eval, List.setIfInBounds_toArray, List.set_cons_zero, List.set_cons_succ, Array.getD_eq_getD_getElem?, List.getElem?_toArray, List.getElem?_cons_zero, List.getElem?_cons_succ, Option.getD_some, List.getElem_toArray, List.getElem_cons_succ, List.getElem_cons_zero]; with_reducible rfl))
  apply txt_read rfl rfl rfl; (· (go_simp; with_reducible rfl)); (· (simp only [Act.put, Act.eval, List.setIfInBounds_toArray, List.set_cons_zero, List.set_cons_succ, Array.getD_eq_getD_getElem?, List.getElem?_toArray, List.getElem?_cons_zero, List.getElem?_cons_succ, Option.getD_some, List.getElem_toArray, List.getElem_cons_succ, List.getElem_cons_zero]; with_reducible rfl))
  apply txt_move rfl rfl; (· (simp only [Act.put, Act.eval, List.setIfInBounds_toArray, List.set_cons_zero, List.set_cons_succ, Array.getD_eq_getD_getElem?, List.getElem?_toArray, List.getElem?_cons_zero, List.getElem?_cons_succ, Option.getD_some, List.getElem_toArray, List.getElem_cons_succ, List.getElem_cons_zero]; with_reducible rfl))
  apply txt_pure rfl rfl rfl; (· (intro w; go_simp; with_reducible rfl)); (· (simp only [Act.put, Act.eval, List.setIfInBounds_toArray, List.set_cons_zero, List.set_cons_succ, Array.getD_eq_getD_getElem?, List.getElem?_toArray, List.getElem?_cons_zero, List.getElem?_cons_succ, Option.getD_some, List.getElem_toArray, List.getElem_cons_succ, List.getElem_cons_zero]; with_reducible rfl))
  apply txt_pure rfl rfl rfl; (· (intro w; go_simp; with_reducible rfl)); (· (simp only [Act.put, Act.eval, List.setIfInBounds_toArray, List.set_cons_zero, List.set_cons_succ, Array.getD_eq_getD_getElem?, List.getElem?_toArray, List.getElem?_cons_zero, List.getElem?_cons_succ, Option.getD_some, List.getElem_toArray, List.getElem_cons_succ, List.getElem_cons_zero]; with_reducible rfl))
  apply txt_assign rfl rfl; (· (simp only [Act.put, Act.eval, List.setIfInBounds_toArray, List.set_cons_zero, List.set_cons_succ, Array.getD_eq_getD_getElem?, List.getElem?_toArray, List.getElem?_cons_zero, List.getElem?_cons_succ, Option.getD_some, List.getElem_toArray, List.getElem_cons_succ, List.getElem_cons_zero]; with_reducible rfl))
  apply txt_assign rfl rfl; (· (simp only [Act.put, Act.eval, List.setIfInBounds_toArray, List.set_cons_zero, List.set_cons_succ, Array.getD_eq_getD_getElem?, List.getElem?_toArray, List.getElem?_cons_zero, List.getElem?_cons_succ, Option.getD_some, List.getElem_toArray, List.getElem_cons_succ, List.getElem_cons_zero]; with_reducible rfl))
  with_reducible refine txt_nil ?_
  go_wp2
  obtain ⟨WF, hWF⟩ : ∃ WF, ((((((W.setCell ⟨kb + 1, 0, none⟩ (.int .i64 0)).setCell ⟨kb + 1, 1, none⟩ (.int .i64 0)).setCell ⟨kb + 1, 2, none⟩ (.int .i64 0)).setCell ⟨kb + 1, 3, none⟩ (.slice none 0 0)).setCell ⟨kb + 1, 4, none⟩ (.int .i64 0)).alloc (.cells #[.int .i64 0, .int .i64 0, .int .i64 0, .slice none 0 0, .int .i64 0] 59)).drew = WF := ⟨_, rfl⟩
  have hW5 : ((set5 W (kb + 1) 0 zeroS).alloc (.cells #[.int .i64 0, .int .i64 0, .int .i64 0, .slice none 0 0, .int .i64 0] 59)).drew = WF := by rw [set5_0]; exact hWF
  have hFB : Below w.heap.size w WF := by
    rw [← hW5]
    have hk := ((set5_kept (s := zeroS) (o := 0) (b := kb + 1) (Kept.of_below (S := fun _ => False) hBH.out) (.inr (by have := hkbH.out; omega))).alloc (.cells #[.int .i64 0, .int .i64 0, .int .i64 0, .slice none 0 0, .int .i64 0] 59)).drew
    exact hk.below (Nat.le_refl _) (fun _ _ e => e)
  have hF : CellsAt WF (kb + 1) 0 zeroS.cs := by
    rw [← hW5]
    have h5 := set5_cells (z := zeroS) hk2.out zeroS
    refine (h5.keep (Below.heap_alloc _ _ _ ?_)).drew
    rw [set5_size, hsW]; omega
  obtain ⟨f0, f1, f2, f3, f4⟩ := hF.five
  simp only [Nat.zero_add, zeroS] at f0 f1 f2 f3 f4
  rw [hWF]
  clear hWF hW5 r0 r1 r2 r3 r4 q0 q1 q2 g
  refine bodyPost_ret (v := .tuple #[zeroS.val, .bool false]) ?_ rfl ⟨rfl, hFB⟩
  simp [results, Try.results38, go_sem, f0, f1, f2, f3, f4]
  rfl
/-! ### Put -/
theorem NodeAt.set {w : World} {n : Nat} {k : Ad} {s s' : Sv} (h : NodeAt w n k s) : NodeAt (set5 w n 3 s') n k s' := by
  obtain ⟨u, hu⟩ := h.lst
  obtain ⟨u', hu'⟩ := h.nxt
  refine ⟨fun j u hj => ?_, set5_cells h.val s', ⟨u, ?_⟩, ⟨u', ?_⟩, set5_shp h.shp⟩
  · have := (List.getElem?_eq_some_iff.1 hj).1
    simp only [Ad.cs, List.length_cons, List.length_nil] at this
    rw [set5_far (.inr (.inl (by show 0 + j < 3; omega)))]; exact h.key j u hj
  · rw [set5_far (.inr (.inr (by show 3 + 5 ≤ 8; omega)))]; exact hu
  · rw [set5_far (.inr (.inr (by show 3 + 5 ≤ 9; omega)))]; exact hu'
/-- The three boxes that Put makes. -/
theorem put_mid0 (w : World) (a : Ad) (s : Sv) {W : World} (hW : ((w.alloc (.cells #[.bool a.v6, .int .u64 a.hi, .int .u64 a.lo] 31)).alloc (.cells #[.int .i64 s.x0, .int .i64 s.x1, .int .i64 s.x2, .slice s.la s.ln s.lc, .int .i64 s.pl] 59)).alloc (.cells #[.bool false, .int .u64 0, .int .u64 0] 31) = W) :
    Below w.heap.size w W ∧ CellsAt W w.heap.size 0 a.cs ∧ CellsAt W (w.heap.size + 1) 0 s.cs ∧ CellsAt W (w.heap.size + 2) 0 (Ad.mk false 0 0).cs ∧ Shp W (w.heap.size + 2) ∧ W.heap.size = w.heap.size + 3 := by
  obtain ⟨w1, hw1⟩ : ∃ w1, w.alloc (.cells #[.bool a.v6, .int .u64 a.hi, .int .u64 a.lo] 31) = w1 := ⟨_, rfl⟩
  obtain ⟨k1, _⟩ := cellsNew w a.cs 31 hw1
  rw [hw1] at hW
  obtain ⟨w2, hw2⟩ : ∃ w2, w1.alloc (.cells #[.int .i64 s.x0, .int .i64 s.x1, .int .i64 s.x2, .slice s.la s.ln s.lc, .int .i64 s.pl] 59) = w2 := ⟨_, rfl⟩
  obtain ⟨k2, _⟩ := cellsNew w1 s.cs 59 hw2
  rw [hw2] at hW
  obtain ⟨k3, k4⟩ := cellsNew w2 (Ad.mk false 0 0).cs 31 hW
  have hs : w1.heap.size = w.heap.size + 1 := by rw [← hw1]; simp
  have hs2 : w2.heap.size = w.heap.size + 2 := by rw [← hw2]; simp [hs]
  rw [hs] at k2
  rw [hs2] at k3 k4
  refine ⟨?_, (k1.keep (w' := w2) ?_).keep ?_, k2.keep ?_, k3, k4, by rw [← hW]; simp [hs2]⟩
  · rw [← hW, ← hw2, ← hw1]; exact (((Below.refl _ w).alloc (Nat.le_refl _) _).alloc (by simp) _).alloc (by simp; omega) _
  · rw [← hw2]; exact Below.heap_alloc _ _ _ (by omega)
  · rw [← hW]; exact Below.heap_alloc _ _ _ (by omega)
  · rw [← hW]; exact Below.heap_alloc _ _ _ (by omega)
end Go.Proofs.Yticijejnemnmlaa.If
