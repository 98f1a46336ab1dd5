/- What is known of a server, in its box; the closures that change it. -/
import Derived.Test.YticijejnemnmlaaInZ
namespace Go.Proofs.Yticijejnemnmlaa.If
open Go.RowKit Rt
set_option linter.unusedSimpArgs false
set_option linter.unusedVariables false
/-- What is known of a server. -/
structure Sp where
  x0 : Int
  x1 : Int
  x2 : Int
  lm : List Lm
  pl : Int
def zeroP : Sp := ⟨0, 0, 0, [], 0⟩
def Sv.sl (s : Sv) : Value := .slice s.la s.ln s.lc
structure Rel (w : World) (s : Sv) (p : Sp) : Prop where
  e0 : s.x0 = p.x0
  e1 : s.x1 = p.x1
  e2 : s.x2 = p.x2
  e4 : s.pl = p.pl
  row : RowL w s.sl p.lm
  len : p.lm.length ≤ 20
theorem Rel.keep {w w' : World} {s : Sv} {p : Sp} (h : Rel w s p) (hk : ∀ k, k < w.heap.size → s.sl.ownBlock = some k → w'.heap[k]? = w.heap[k]?) (hs : w.heap.size ≤ w'.heap.size) : Rel w' s p :=
  ⟨h.e0, h.e1, h.e2, h.e4, h.row.keep hk hs, h.len⟩
theorem Rel.below {w w' : World} {s : Sv} {p : Sp} (h : Rel w s p) (hb : Below w.heap.size w w') : Rel w' s p := h.keep (fun k hk _ => hb.block k hk) hb.size
theorem Rel.zero (w : World) : Rel w zeroS zeroP := ⟨rfl, rfl, rfl, rfl, .inl ⟨rfl, rfl⟩, by decide⟩
/-- The box of a server. -/
def Box5 (W : World) (kb : Nat) (s : Sv) : Prop := W.heap[kb]? = some (.cells #[.int .i64 s.x0, .int .i64 s.x1, .int .i64 s.x2, .slice s.la s.ln s.lc, .int .i64 s.pl] 59 (0, 0))
section
variable {W W' : World} {kb : Nat} {s : Sv}
theorem Box5.lt (h : Box5 W kb s) : kb < W.heap.size := (Array.getElem?_eq_some_iff.1 h).1
theorem Box5.cells (h : Box5 W kb s) : W.cell? ⟨kb, 0, none⟩ = some (.int .i64 s.x0) ∧ W.cell? ⟨kb, 1, none⟩ = some (.int .i64 s.x1) ∧ W.cell? ⟨kb, 2, none⟩ = some (.int .i64 s.x2) ∧ W.cell? ⟨kb, 3, none⟩ = some (.slice s.la s.ln s.lc) ∧ W.cell? ⟨kb, 4, none⟩ = some (.int .i64 s.pl) := by
  unfold Box5 at h
  simp [World.cell?, h]
theorem Box5.fr (h : Box5 W kb s) (j : Nat) : W.frozen? ⟨kb, j, none⟩ = false := by
  unfold Box5 at h
  simp [World.frozen?, h]
theorem Box5.keep (h : Box5 W kb s) (hb : W'.heap[kb]? = W.heap[kb]?) : Box5 W' kb s := hb.trans h
theorem Box5.below (h : Box5 W kb s) (hb : Below W.heap.size W W') : Box5 W' kb s := h.keep (hb.block kb h.lt)
theorem Box5.rtt (h : Box5 W kb s) (x y z : Int) : Box5 (((W.setCell ⟨kb, 0, none⟩ (.int .i64 x)).setCell ⟨kb, 1, none⟩ (.int .i64 y)).setCell ⟨kb, 2, none⟩ (.int .i64 z)) kb { s with x0 := x, x1 := y, x2 := z } :=
  Nm.blk_put (Nm.blk_put (Nm.blk_put h 0 (.int .i64 x)) 1 (.int .i64 y)) 2 (.int .i64 z)
theorem Box5.sls (h : Box5 W kb s) (a : Option Addr) (n c : Nat) : Box5 (W.setCell ⟨kb, 3, none⟩ (.slice a n c)) kb { s with la := a, ln := n, lc := c } :=
  Nm.blk_put h 3 (.slice a n c)
theorem Box5.plain (h : Box5 W kb s) (x : Int) : Box5 (W.setCell ⟨kb, 4, none⟩ (.int .i64 x)) kb { s with pl := x } :=
  Nm.blk_put h 4 (.int .i64 x)
end
/-- What a closure does to the box of a server: f. -/
def Does (w : World) (g : FuncId) (caps : Array Value) (f : Sp → Sp) : Prop :=
  ∀ (W : World) (kb : Nat) (s : Sv) (p : Sp), Below w.heap.size w W → w.heap.size ≤ kb → Box5 W kb s → Rel W s p → (∀ k, s.sl.ownBlock = some k → k ≠ kb) →
    Calls Try.prog g (#[.pointer (some ⟨kb, 0, none⟩)] ++ caps) W fun e w' => (∃ u, e = .returned u) ∧ ∃ s', Box5 w' kb s' ∧ Rel w' s' (f p) ∧ Kept (fun x => x = kb) W w' ∧ (∀ k, s'.sl.ownBlock = some k → s.sl.ownBlock = some k ∨ W.heap.size ≤ k)
def smpP (ms : Int) (p : Sp) : Sp := { p with x0 := (smpR (wi p.x0 1000000) (wi p.x1 1000000) (wi ms 1000000)).1, x1 := (smpR (wi p.x0 1000000) (wi p.x1 1000000) (wi ms 1000000)).2, x2 := 0 }
def missP (p : Sp) : Sp := { p with x0 := wi p.x0 1000000, x1 := wi p.x1 1000000, x2 := if wi p.x2 10 < 10 then wi p.x2 10 + 1 else 10 }
def plainP (now : Int) (p : Sp) : Sp := { p with pl := now + 900000 }
def lameP (z : ByteArray) (now : Int) (p : Sp) : Sp := { p with lm := addLame z (now + 900000) p.lm }
theorem Rel.set {w w' : World} {s : Sv} {p : Sp} {kb : Nat} (h : Rel w s p) (hk : Kept (fun x => x = kb) w w') (hne : ∀ k, s.sl.ownBlock = some k → k ≠ kb) : Rel w' s p := h.keep (fun k hk1 hk2 => hk.block k hk1 (hne k hk2)) hk.size
theorem plain_does {w : World} {ub : Nat} {now : Int} (hu : w.cell? ⟨ub, 0, none⟩ = some (.int .i64 now)) (h0 : 0 ≤ now) (h1 : now ≤ 4503599627370496) : Does w 42 #[.pointer (some ⟨ub, 0, none⟩)] (plainP now) := by
  intro W kb s p hb hkb hB hr hne
  have hu' := (hb.cell (p := ⟨ub, 0, none⟩) (World.block_lt_of_cell? w _ hu)).trans hu
  obtain ⟨c0, c1, c2, c3, c4⟩ := hB.cells
  have f4 := hB.fr 4
  have hwu := wr (show -9223372036854775808 ≤ now + 900000 by omega) (by omega)
  have hBH := Lib.hid hB
  have hK : Kept (fun x => x = kb) W (W.setCell ⟨kb, 4, none⟩ (.int .i64 (now + 900000))) := (Kept.refl (fun x => x = kb) _).setCell (p := ⟨kb, 4, none⟩) (.inl rfl) _
  have hR := Lib.hid (hr.set hK hne)
  clear hB hr hne hu
  show Calls Try.prog 42 #[.pointer (some ⟨kb, 0, none⟩), .pointer (some ⟨ub, 0, none⟩)] W _
  go_enter Try.func42, Try.ntmps42
  go_wp2
  go_end0
  exact ⟨⟨_, rfl⟩, _, hBH.out.plain _, ⟨hR.out.e0, hR.out.e1, hR.out.e2, rfl, hR.out.row, hR.out.len⟩, hK, fun k hk => .inl hk⟩
theorem lame_does {w : World} {zb ub : Nat} {z : ByteArray} {now : Int} (hz : w.cell? ⟨zb, 0, none⟩ = some (.string z)) (hu : w.cell? ⟨ub, 0, none⟩ = some (.int .i64 now)) (h0 : 0 ≤ now) (h1 : now ≤ 4503599627370496) : Does w 31 #[.pointer (some ⟨zb, 0, none⟩), .pointer (some ⟨ub, 0, none⟩)] (lameP z now) := by
  intro W kb s p hb hkb hB hr hne
  have hu' := (hb.cell (p := ⟨ub, 0, none⟩) (World.block_lt_of_cell? w _ hu)).trans hu
  have hz' := (hb.cell (p := ⟨zb, 0, none⟩) (World.block_lt_of_cell? w _ hz)).trans hz
  obtain ⟨c0, c1, c2, c3, c4⟩ := hB.cells
  refine (SetLame1_any c3 (hB.fr 3) hz' hu' h0 h1 hr.row hr.len).mono ?_
  rintro e w' ⟨he, W1, v', rfl, hb1, hrow, hnew⟩
  refine ⟨he, ?_⟩
  have hB1 := hB.below hb1
  obtain ⟨a, n, c, rfl⟩ : ∃ a n c, v' = .slice a n c := by
    rcases hrow with ⟨h, _⟩ | ⟨b, c, h, _⟩
    · exact ⟨_, _, _, h⟩
    · exact ⟨_, _, _, h⟩
  have hK : Kept (fun x => x = kb) W (W1.setCell ⟨kb, 3, none⟩ (.slice a n c)) := (Kept.of_below (S := fun x => x = kb) hb1).setCell (p := ⟨kb, 3, none⟩) (.inl rfl) _
  refine ⟨_, hB1.sls a n c, ⟨hr.e0, hr.e1, hr.e2, hr.e4, hrow.keep (fun k _ hk => Below.heap_setCell _ _ _ _ ?_) (by simp [World.setCell]), (addLame_len hr.len).2⟩, hK, fun k hk => .inr (hnew k hk)⟩
  intro e
  have h1 := hnew _ hk
  have h2 := hB.lt
  have h3 : k = kb := e
  omega
set_option maxHeartbeats 1000000 in
theorem miss_does {w : World} : Does w 26 #[] missP := by
  intro W kb s p hb hkb hB hr hne
  have hM := Lib.hid (Miss_any s.x0 s.x1 s.x2 W)
  unfold agg3 at hM
  obtain ⟨c0, c1, c2, c3, c4⟩ := hB.cells
  have hBH := Lib.hid hB
  have hrH := Lib.hid hr
  have hneH := Lib.hid hne
  obtain ⟨x, hx⟩ : ∃ x, wi s.x0 1000000 = x := ⟨_, rfl⟩
  obtain ⟨y, hy⟩ : ∃ x, wi s.x1 1000000 = x := ⟨_, rfl⟩
  obtain ⟨q, hq⟩ : ∃ x, (if wi s.x2 10 < 10 then wi s.x2 10 + 1 else 10) = x := ⟨_, rfl⟩
  rw [hx, hy, hq] at hM
  have hxH := Lib.hid hx
  have hyH := Lib.hid hy
  have hqH := Lib.hid hq
  clear hB hr hne hx hy hq
  show Calls Try.prog 26 #[.pointer (some ⟨kb, 0, none⟩)] W _
  go_enter Try.func26, Try.ntmps26
  go_wp2_with (go_at_call 27; refine hM.out.mono ?_; rintro e w1 ⟨rfl, hb1⟩; have hB1 := hBH.out.below hb1; obtain ⟨d0, d1, d2, _, _⟩ := hB1.cells; have f0 := hB1.fr 0; have f1 := hB1.fr 1; have f2 := hB1.fr 2; have hB1H := Lib.hid hB1; clear hB1)
  go_end0
  have hK : Kept (fun x => x = kb) W (((w1.setCell ⟨kb, 0, none⟩ (.int .i64 x)).setCell ⟨kb, 1, none⟩ (.int .i64 y)).setCell ⟨kb, 2, none⟩ (.int .i64 q)) := (((Kept.of_below (S := fun x => x = kb) hb1).setCell (p := ⟨kb, 0, none⟩) (.inl rfl) _).setCell (p := ⟨kb, 1, none⟩) (.inl rfl) _).setCell (p := ⟨kb, 2, none⟩) (.inl rfl) _
  have hR := hrH.out.set hK hneH.out
  refine ⟨⟨_, rfl⟩, _, hB1H.out.rtt _ _ _, ⟨?_, ?_, ?_, hR.e4, hR.row, hR.len⟩, hK, fun k hk => .inl hk⟩
  · show x = wi p.x0 1000000; rw [← hxH.out, hrH.out.e0]
  · show y = wi p.x1 1000000; rw [← hyH.out, hrH.out.e1]
  · show q = if wi p.x2 10 < 10 then wi p.x2 10 + 1 else 10; rw [← hqH.out, hrH.out.e2]
set_option maxHeartbeats 1000000 in
theorem smp_does {w : World} {ub : Nat} {ms : Int} (hu : w.cell? ⟨ub, 0, none⟩ = some (.int .i64 ms)) : Does w 24 #[.pointer (some ⟨ub, 0, none⟩)] (smpP ms) := by
  intro W kb s p hb hkb hB hr hne
  have hM := Lib.hid (fun W => Sample_any s.x0 s.x1 s.x2 ms W)
  have hu' := (hb.cell (p := ⟨ub, 0, none⟩) (World.block_lt_of_cell? w _ hu)).trans hu
  unfold agg3 at hM
  obtain ⟨c0, c1, c2, c3, c4⟩ := hB.cells
  have hBH := Lib.hid hB
  have hrH := Lib.hid hr
  have hneH := Lib.hid hne
  obtain ⟨x, hx⟩ : ∃ x, (smpR (wi s.x0 1000000) (wi s.x1 1000000) (wi ms 1000000)).1 = x := ⟨_, rfl⟩
  obtain ⟨y, hy⟩ : ∃ x, (smpR (wi s.x0 1000000) (wi s.x1 1000000) (wi ms 1000000)).2 = x := ⟨_, rfl⟩
  simp only [hx, hy] at hM
  have hxH := Lib.hid hx
  have hyH := Lib.hid hy
  clear hB hr hne hx hy hu
  show Calls Try.prog 24 #[.pointer (some ⟨kb, 0, none⟩), .pointer (some ⟨ub, 0, none⟩)] W _
  go_enter Try.func24, Try.ntmps24
  go_upto_region 0 with (fail)
  refine Rt.wp_region_text [0, 0, 0, 0, 1, 1, 2, 0, 0, 2] (by kernel_rfl) (by kernel_rfl) ?_
  apply txt_move rfl rfl; (· (simp only [Act.put, Act.eval, List.setIfInBounds_toArray, List.set_cons_zero, List.set_cons_succ, Array.getD_eq_getD_getElem?, List.getElem?_toArray, List.getElem?_cons_zero, List.getElem?_cons_succ, Option.getD_some]; with_reducible rfl))
  apply txt_move rfl rfl; (· (simp only [Act.put, Act.eval, List.setIfInBounds_toArray, List.set_cons_zero, List.set_cons_succ, Array.getD_eq_getD_getElem?, List.getElem?_toArray, List.getElem?_cons_zero, List.getElem?_cons_succ, Option.getD_some]; with_reducible rfl))
  apply txt_pure rfl rfl rfl; (· (intro w; go_simp; with_reducible rfl)); (· (simp only [Act.put, Act.eval, List.setIfInBounds_toArray, List.set_cons_zero, List.set_cons_succ, Array.getD_eq_getD_getElem?, List.getElem?_toArray, List.getElem?_cons_zero, List.getElem?_cons_succ, Option.getD_some]; with_reducible rfl))
  apply txt_pure rfl rfl rfl; (· (intro w; go_simp; with_reducible rfl)); (· (simp only [Act.put, Act.eval, List.setIfInBounds_toArray, List.set_cons_zero, List.set_cons_succ, Array.getD_eq_getD_getElem?, List.getElem?_toArray, List.getElem?_cons_zero, List.getElem?_cons_succ, Option.getD_some]; with_reducible rfl))
  apply txt_read rfl rfl rfl; (· (go_simp; with_reducible rfl)); (· (simp only [Act.put, Act.eval, List.setIfInBounds_toArray, List.set_cons_zero, List.set_cons_succ, Array.getD_eq_getD_getElem?, List.getElem?_toArray, List.getElem?_cons_zero, List.getElem?_cons_succ, Option.getD_some]; with_reducible rfl))
  apply txt_read rfl rfl rfl; (· (go_simp; with_reducible rfl)); (· (simp only [Act.put, Act.eval, List.setIfInBounds_toArray, List.set_cons_zero, List.set_cons_succ, Array.getD_eq_getD_getElem?, List.getElem?_toArray, List.getElem?_cons_zero, List.getElem?_cons_succ, Option.getD_some]; with_reducible rfl))
  apply txt_call rfl rfl rfl
  · (go_simp; first | exact ⟨rfl, rfl⟩ | exact ⟨⟨rfl, rfl⟩, rfl⟩ | (refine ⟨?_, ?_⟩; rfl; rfl))
  refine (hM.out _).mono ?_
  rintro e w1 ⟨rfl, hb1⟩
  refine ⟨_, rfl, ?_⟩
  have hB1 := (hBH.out.keep (W' := W.drew) rfl).below hb1
  obtain ⟨d0, d1, d2, _, _⟩ := hB1.cells
  have f0 := hB1.fr 0
  have f1 := hB1.fr 1
  have f2 := hB1.fr 2
  have hB1H := Lib.hid hB1
  clear hB1
  simp only [Act.put, Act.eval, List.setIfInBounds_toArray, List.set_cons_zero, List.set_cons_succ, Array.getD_eq_getD_getElem?, List.getElem?_toArray, List.getElem?_cons_zero, List.getElem?_cons_succ, Option.getD_some]
  apply txt_pure rfl rfl rfl; (· (intro w; go_simp; with_reducible rfl)); (· (simp only [Act.put, Act.eval, List.setIfInBounds_toArray, List.set_cons_zero, List.set_cons_succ, Array.getD_eq_getD_getElem?, List.getElem?_toArray, List.getElem?_cons_zero, List.getElem?_cons_succ, Option.getD_some]; with_reducible rfl))
  apply txt_pure rfl rfl rfl; (· (intro w; go_simp; with_reducible rfl)); (· (simp only [Act.put, Act.eval, List.setIfInBounds_toArray, List.set_cons_zero, List.set_cons_succ, Array.getD_eq_getD_getElem?, List.getElem?_toArray, List.getElem?_cons_zero, List.getElem?_cons_succ, Option.getD_some]; with_reducible rfl))
  apply txt_do rfl rfl rfl; (· (go_simp; with_reducible rfl)); (· (simp only [Act.put, Act.eval, List.setIfInBounds_toArray, List.set_cons_zero, List.set_cons_succ, Array.getD_eq_getD_getElem?, List.getElem?_toArray, List.getElem?_cons_zero, List.getElem?_cons_succ, Option.getD_some]; with_reducible rfl))
  with_reducible refine txt_nil ?_
  go_wp2
  go_end0
  have hK : Kept (fun x => x = kb) W (((w1.setCell ⟨kb, 0, none⟩ (.int .i64 x)).setCell ⟨kb, 1, none⟩ (.int .i64 y)).setCell ⟨kb, 2, none⟩ (.int .i64 0)) := ((((Kept.refl (fun x => x = kb) _).drew.trans (Kept.of_below hb1)).setCell (p := ⟨kb, 0, none⟩) (.inl rfl) _).setCell (p := ⟨kb, 1, none⟩) (.inl rfl) _).setCell (p := ⟨kb, 2, none⟩) (.inl rfl) _
  have hR := hrH.out.set hK hneH.out
  refine ⟨⟨_, rfl⟩, _, hB1H.out.rtt _ _ _, ⟨?_, ?_, ?_, hR.e4, hR.row, hR.len⟩, hK, fun k hk => .inl hk⟩
  · show x = (smpR (wi p.x0 1000000) (wi p.x1 1000000) (wi ms 1000000)).1; rw [← hxH.out, hrH.out.e0, hrH.out.e1]
  · show y = (smpR (wi p.x0 1000000) (wi p.x1 1000000) (wi ms 1000000)).2; rw [← hyH.out, hrH.out.e0, hrH.out.e1]
  · rfl
end Go.Proofs.Yticijejnemnmlaa.If
