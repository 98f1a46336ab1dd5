/- The chapter's examples: the walk. -/
import Derived.Test.YticijejnemnmlaaJd
import Derived.Test.YticijejnemnmlaaRf
namespace Go.Proofs.Yticijejnemnmlaa.If
open Go.RowKit Rt
set_option linter.unusedSimpArgs false
set_option linter.unusedVariables false
theorem small {s : ByteArray} (h : decide (s.size ≤ 140737488351232) = true) : s.size ≤ 140737488351232 := of_decide_eq_true h
theorem row_new (w : World) (L : List Value) (t : TypeId) : ∀ j u, L[j]? = some u → (w.alloc (.cells L.toArray t)).cell? ⟨w.heap.size, j, none⟩ = some u := by
  intro j u h
  unfold World.cell?
  simp only [World.alloc_heap_new]
  simpa using h
/-- How the world stands between two examples. -/
structure ExS (P : Nat → Prop) (w W : World) (xb ba bb bc : Nat) (st : Ad → Option Sp) (n : Nat) : Prop where
  inf : InfP P W xb 5 st n
  bel : Below w.heap.size w W
  pl : ∀ x, x < w.heap.size → P x
  pa : P ba
  pb : P bb
  pc : P bc
  A : Box3 W ba (.bool false) (.int .u64 0) (.int .u64 1)
  B : Box3 W bb (.bool false) (.int .u64 0) (.int .u64 2)
  C : Box3 W bc (.bool false) (.int .u64 0) (.int .u64 3)
theorem ExS.read {P : Nat → Prop} {w W W' : World} {xb ba bb bc : Nat} {st : Ad → Option Sp} {n : Nat} (h : ExS P w W xb ba bb bc st n) (hb : Below W.heap.size W W') : ExS P w W' xb ba bb bc st n :=
  ⟨h.inf.read hb, h.bel.trans (hb.mono h.bel.size), h.pl, h.pa, h.pb, h.pc, h.A.below hb, h.B.below hb, h.C.below hb⟩
theorem ExS.chg {P : Nat → Prop} {w W W' : World} {xb ba bb bc : Nat} {st st' : Ad → Option Sp} {n n' : Nat} {v : Int} {e : Ending} (h : ExS P w W xb ba bb bc st n) (hc : ChgP P W xb 5 st' n' v e W') : ExS P w W' xb ba bb bc st' n' := by
  obtain ⟨_, h1, h2⟩ := hc
  exact ⟨h1, h.bel.trans (h2.below h.bel.size fun k hk hn => hn (h.pl k hk)), h.pl, h.pa, h.pb, h.pc, (h2.block ba h.A.lt fun hn => hn h.pa).trans h.A, (h2.block bb h.B.lt fun hn => hn h.pb).trans h.B, (h2.block bc h.C.lt fun hn => hn h.pc).trans h.C⟩
theorem ExS.add {P : Nat → Prop} {w W W' : World} {xb ba bb bc g : Nat} {st : Ad → Option Sp} {n : Nat} (h : ExS P w W xb ba bb bc st n) (hb : Below W.heap.size W W') (h1 : W.heap.size ≤ g) (h2 : g < W'.heap.size) : ExS (fun x => P x ∨ x = g) w W' xb ba bb bc st n :=
  ⟨h.inf.add hb fun x hx => hx.imp id fun e => by subst e; exact ⟨h1, h2⟩, h.bel.trans (hb.mono h.bel.size), fun x hx => .inl (h.pl x hx), .inl h.pa, .inl h.pb, .inl h.pc, h.A.below hb, h.B.below hb, h.C.below hb⟩
set_option maxHeartbeats 8000000 in
set_option maxRecDepth 100000 in
theorem examples_any (w : World) : Calls Try.prog 6 #[] w fun e w' => e = .returned (.bool true) ∧ Below w.heap.size w w' := by
  have hN := Lib.hid (show Calls Try.prog 7 #[.int .i64 5] w _ from New_I w 5 (by decide) (by decide))
  have hN0 := Lib.hid New_I0
  go_enter Try.func6, Try.ntmps6
  go_upto_region 5 with (go_at_call 7; first | (with_reducible refine hN.out.mono ?_; rintro e w1 ⟨xb, U, rfl, hS, hU, hb1⟩) | (with_reducible refine (hN0.out _).mono ?_; rintro e w1 ⟨rfl, rfl⟩))
  have hI1 : InfP (· < w.heap.size) w1 xb 5 e0 0 := ⟨U, hS, fun x hx => Nat.not_lt.2 (hU x hx), fun x hx => Nat.lt_of_lt_of_le hx hb1.size⟩
  have hI1H := Lib.hid hI1
  have hb1H := Lib.hid hb1
  clear hI1 hS hU hN hN0 hb1
  go_upto_region 6 with (fail)
  have hp := Lib.hid (Box3.new w1 (.bool false) (.int .u64 0) (.int .u64 1))
  have hb := Lib.hid ((Below.refl w1.heap.size w1).alloc (Nat.le_refl _) (.cells #[.bool false, .int .u64 0, .int .u64 1] 31))
  obtain ⟨w2, hw2⟩ : ∃ x, w1.alloc (.cells #[.bool false, .int .u64 0, .int .u64 1] 31) = x := ⟨_, rfl⟩
  rw [hw2] at hp hb ⊢
  have hsz2 : w2.heap.size = w1.heap.size + 1 := by rw [← hw2]; simp
  obtain ⟨b1, hb1⟩ : ∃ x, w1.heap.size = x := ⟨_, rfl⟩
  rw [hb1] at hp hb hsz2 ⊢
  have hP1 := hp
  have hB1 := hb
  clear hp hb hw2
  replace hsz2 := Lib.hid hsz2
  replace hb1 := Lib.hid hb1
  go_upto_region 7 with (fail)
  have hp := Lib.hid (Box3.new w2 (.bool false) (.int .u64 0) (.int .u64 2))
  have hb := Lib.hid ((Below.refl w2.heap.size w2).alloc (Nat.le_refl _) (.cells #[.bool false, .int .u64 0, .int .u64 2] 31))
  obtain ⟨w3, hw3⟩ : ∃ x, w2.alloc (.cells #[.bool false, .int .u64 0, .int .u64 2] 31) = x := ⟨_, rfl⟩
  rw [hw3] at hp hb ⊢
  have hsz3 : w3.heap.size = w2.heap.size + 1 := by rw [← hw3]; simp
  obtain ⟨b2, hb2⟩ : ∃ x, w2.heap.size = x := ⟨_, rfl⟩
  rw [hb2] at hp hb hsz3 ⊢
  have hP2 := hp
  have hB2 := hb
  clear hp hb hw3
  replace hsz3 := Lib.hid hsz3
  replace hb2 := Lib.hid hb2
  go_upto_region 8 with (fail)
  have hp := Lib.hid (Box3.new w3 (.bool false) (.int .u64 0) (.int .u64 3))
  have hb := Lib.hid ((Below.refl w3.heap.size w3).alloc (Nat.le_refl _) (.cells #[.bool false, .int .u64 0, .int .u64 3] 31))
  obtain ⟨w4, hw4⟩ : ∃ x, w3.alloc (.cells #[.bool false, .int .u64 0, .int .u64 3] 31) = x := ⟨_, rfl⟩
  rw [hw4] at hp hb ⊢
  have hsz4 : w4.heap.size = w3.heap.size + 1 := by rw [← hw4]; simp
  obtain ⟨b3, hb3⟩ : ∃ x, w3.heap.size = x := ⟨_, rfl⟩
  rw [hb3] at hp hb hsz4 ⊢
  have hP3 := hp
  have hB3 := hb
  clear hp hb hw4
  replace hsz4 := Lib.hid hsz4
  replace hb3 := Lib.hid hb3
  have hE4 : ExS (fun x => x < w.heap.size ∨ x = b1 ∨ x = b2 ∨ x = b3) w w4 xb b1 b2 b3 e0 0 := by
    have h2 : Below w2.heap.size w2 w3 := by rw [hb2.out]; exact hB2.out
    have h3 : Below w3.heap.size w3 w4 := by rw [hb3.out]; exact hB3.out
    have h1 : Below w1.heap.size w1 w2 := by rw [hb1.out]; exact hB1.out
    have h12 := h1.trans (h2.mono h1.size)
    have h13 := h12.trans (h3.mono h12.size)
    have t2 := hsz2.out; have t3 := hsz3.out; have t4 := hsz4.out; have u1 := hb1.out; have u2 := hb2.out; have u3 := hb3.out
    refine ⟨hI1H.out.add h13 fun x hx => ?_, hb1H.out.trans (h13.mono hb1H.out.size), fun x hx => .inl hx, .inr (.inl rfl), .inr (.inr (.inl rfl)), .inr (.inr (.inr rfl)), (hP1.out.below h2).below h3, hP2.out.below h3, hP3.out⟩
    rcases hx with hx | rfl | rfl | rfl
    · exact .inl hx
    · exact .inr (by omega)
    · exact .inr (by omega)
    · exact .inr (by omega)
  have hE4H := Lib.hid hE4
  clear hE4 hP1 hP2 hP3 hB1 hB2 hB3 hI1H hb1H hsz2 hsz3 hsz4 hb1 hb2 hb3
  obtain ⟨A0, A1, A2⟩ := hE4H.out.A.cells
  go_wp2_with fail
  refine (show Calls Try.prog 16 #[.pointer (some ⟨xb, 0, none⟩), .agg #[.bool false, .int .u64 0, .int .u64 1]] _ _ from Timeout_P (a := kA) hE4H.out.inf kA_ok).mono ?_
  rw [ex_a]
  rintro e w5 ⟨rfl, hb⟩
  have hE5 := Lib.hid (hE4H.out.read hb)
  clear hb hE4H A0 A1 A2
  obtain ⟨A0, A1, A2⟩ := hE5.out.A.cells
  go_wp2_with fail
  refine (show Calls Try.prog 9 #[.pointer (some ⟨xb, 0, none⟩), .agg #[.bool false, .int .u64 0, .int .u64 1], .int .i64 100] _ _ from Sample_P (a := kA) hE5.out.inf kA_ok (by decide) 100).mono ?_
  intro e w6 hc
  have hE6 : Hid (ExS _ w w6 xb b1 b2 b3 e1 1) := Lib.hid (by have h := hE5.out.chg hc; rw [ex_n1] at h; exact h)
  obtain ⟨rfl, _, hk⟩ := hc
  clear hE5 hk A0 A1 A2
  obtain ⟨A0, A1, A2⟩ := hE6.out.C.cells
  go_wp2_with fail
  refine (show Calls Try.prog 9 #[.pointer (some ⟨xb, 0, none⟩), .agg #[.bool false, .int .u64 0, .int .u64 3], .int .i64 1000] _ _ from Sample_P (a := kC) hE6.out.inf kC_ok (by decide) 1000).mono ?_
  intro e w7 hc
  have hE7 : Hid (ExS _ w w7 xb b1 b2 b3 e2 2) := Lib.hid (by have h := hE6.out.chg hc; rw [ex_n2] at h; exact h)
  obtain ⟨rfl, _, hk⟩ := hc
  clear hE6 hk A0 A1 A2
  obtain ⟨A0, A1, A2⟩ := hE7.out.A.cells
  obtain ⟨B0, B1, B2⟩ := hE7.out.B.cells
  obtain ⟨C0, C1, C2⟩ := hE7.out.C.cells
  go_wp2_with fail
  have hbW : Below w7.heap.size w7 (w7.alloc (.cells #[.bool false, .int .u64 0, .int .u64 1, .bool false, .int .u64 0, .int .u64 2, .bool false, .int .u64 0, .int .u64 3] 31)) := (Below.refl _ w7).alloc (Nat.le_refl _) _
  have hArg : ArgA (w7.alloc (.cells #[.bool false, .int .u64 0, .int .u64 1, .bool false, .int .u64 0, .int .u64 2, .bool false, .int .u64 0, .int .u64 3] 31)) (.slice (some ⟨w7.heap.size, 0, none⟩) 3 3) [kA, kB, kC] := ⟨_, _, rfl, fun _ => ⟨_, 0, rfl, by rw [World.size_alloc]; omega, fun j u hj => by rw [Nat.zero_add]; exact row_new w7 [.bool false, .int .u64 0, .int .u64 1, .bool false, .int .u64 0, .int .u64 2, .bool false, .int .u64 0, .int .u64 3] 31 j u hj⟩⟩
  have hBd := Band_P (hE7.out.inf.read hbW) hArg (fun a ha => by rcases List.mem_cons.1 ha with rfl | ha; exact kA_ok; rcases List.mem_cons.1 ha with rfl | ha; exact kB_ok; rcases List.mem_cons.1 ha with rfl | ha; exact kC_ok; cases ha) (by decide) ⟨#[0]⟩ (small rfl) 0
  rw [ex_b] at hBd
  refine hBd.mono ?_
  rintro e w8 ⟨v8, rfl, hrow, hb⟩
  clear hBd hArg A0 A1 A2 B0 B1 B2 C0 C1 C2
  simp only [List.length_cons, List.length_nil, Nat.zero_add, Nat.reduceAdd] at hrow
  have hrow2 := hrow.2
  rcases hrow2 with ⟨_, h0⟩ | ⟨g, cap, cur, rfl, hg, hcur, hle, hcm2, hsz, htk⟩
  · cases h0
  have r0 : w8.cell? ⟨g, 0, none⟩ = some (.bool false) := hrow.cellAt 0 (by decide)
  have r1 : w8.cell? ⟨g, 1, none⟩ = some (.int .u64 0) := hrow.cellAt 1 (by decide)
  have r2 : w8.cell? ⟨g, 2, none⟩ = some (.int .u64 1) := hrow.cellAt 2 (by decide)
  have r3 : w8.cell? ⟨g, 3, none⟩ = some (.bool false) := hrow.cellAt 3 (by decide)
  have r4 : w8.cell? ⟨g, 4, none⟩ = some (.int .u64 0) := hrow.cellAt 4 (by decide)
  have r5 : w8.cell? ⟨g, 5, none⟩ = some (.int .u64 2) := hrow.cellAt 5 (by decide)
  have hgl : g < w8.heap.size := (Array.getElem?_eq_some_iff.1 hcur).1
  have hE8 := Lib.hid (hE7.out.add (g := g) (hbW.trans (hb.mono hbW.size)) (by rw [World.size_alloc] at hg; omega) hgl)
  obtain ⟨P, hP⟩ : ∃ P : Nat → Prop, (fun x => (x < w.heap.size ∨ x = b1 ∨ x = b2 ∨ x = b3) ∨ x = g) = P := ⟨_, rfl⟩
  rw [hP] at hE8
  have hPg : P g := by rw [← hP]; exact .inr rfl
  clear hrow hcur hle hcm2 hsz htk hg hb hbW hE7 hP
  obtain ⟨B0, B1, B2⟩ := hE8.out.B.cells
  go_wp2_with fail
  refine (show Calls Try.prog 11 #[.pointer (some ⟨xb, 0, none⟩), .agg #[.bool false, .int .u64 0, .int .u64 2], .string ⟨#[1, 120, 0]⟩, .int .i64 0] _ _ from SetLame_P (a := kB) hE8.out.inf kB_ok (by decide) ⟨#[1, 120, 0]⟩ (small rfl) 0).mono ?_
  intro e w9 hc
  have hE9 : Hid (ExS _ w w9 xb b1 b2 b3 e3 3) := Lib.hid (by have h := hE8.out.chg hc; rw [ex_n3] at h; exact h)
  obtain ⟨rfl, _, hk⟩ := hc
  replace r0 := (hk.cell (World.block_lt_of_cell? _ _ r0) (fun hn => hn hPg)).trans r0
  replace r1 := (hk.cell (World.block_lt_of_cell? _ _ r1) (fun hn => hn hPg)).trans r1
  replace r2 := (hk.cell (World.block_lt_of_cell? _ _ r2) (fun hn => hn hPg)).trans r2
  replace r3 := (hk.cell (World.block_lt_of_cell? _ _ r3) (fun hn => hn hPg)).trans r3
  replace r4 := (hk.cell (World.block_lt_of_cell? _ _ r4) (fun hn => hn hPg)).trans r4
  replace r5 := (hk.cell (World.block_lt_of_cell? _ _ r5) (fun hn => hn hPg)).trans r5
  clear hE8 hk B0 B1 B2
  obtain ⟨A0, A1, A2⟩ := hE9.out.A.cells
  go_wp2_with fail
  refine (show Calls Try.prog 16 #[.pointer (some ⟨xb, 0, none⟩), .agg #[.bool false, .int .u64 0, .int .u64 1]] _ _ from Timeout_P (a := kA) hE9.out.inf kA_ok).mono ?_
  rw [ex_c]
  rintro e w10 ⟨rfl, hb⟩
  have hE10 := Lib.hid (hE9.out.read hb)
  replace r0 := (hb.cell (World.block_lt_of_cell? _ _ r0)).trans r0
  replace r1 := (hb.cell (World.block_lt_of_cell? _ _ r1)).trans r1
  replace r2 := (hb.cell (World.block_lt_of_cell? _ _ r2)).trans r2
  replace r3 := (hb.cell (World.block_lt_of_cell? _ _ r3)).trans r3
  replace r4 := (hb.cell (World.block_lt_of_cell? _ _ r4)).trans r4
  replace r5 := (hb.cell (World.block_lt_of_cell? _ _ r5)).trans r5
  clear hb hE9 A0 A1 A2
  obtain ⟨A0, A1, A2⟩ := hE10.out.A.cells
  go_wp2_with fail
  refine (show Calls Try.prog 10 #[.pointer (some ⟨xb, 0, none⟩), .agg #[.bool false, .int .u64 0, .int .u64 1]] _ _ from Miss_P (a := kA) hE10.out.inf kA_ok (by decide)).mono ?_
  intro e w11 hc
  have hE11 : Hid (ExS _ w w11 xb b1 b2 b3 e4 3) := Lib.hid (by have h := hE10.out.chg hc; rw [ex_n4] at h; exact h)
  obtain ⟨rfl, _, hk⟩ := hc
  replace r0 := (hk.cell (World.block_lt_of_cell? _ _ r0) (fun hn => hn hPg)).trans r0
  replace r1 := (hk.cell (World.block_lt_of_cell? _ _ r1) (fun hn => hn hPg)).trans r1
  replace r2 := (hk.cell (World.block_lt_of_cell? _ _ r2) (fun hn => hn hPg)).trans r2
  replace r3 := (hk.cell (World.block_lt_of_cell? _ _ r3) (fun hn => hn hPg)).trans r3
  replace r4 := (hk.cell (World.block_lt_of_cell? _ _ r4) (fun hn => hn hPg)).trans r4
  replace r5 := (hk.cell (World.block_lt_of_cell? _ _ r5) (fun hn => hn hPg)).trans r5
  clear hE10 hk A0 A1 A2
  obtain ⟨A0, A1, A2⟩ := hE11.out.A.cells
  obtain ⟨B0, B1, B2⟩ := hE11.out.B.cells
  go_upto_region 15 with (fail)
  obtain ⟨wd, hwd⟩ : ∃ d, w11.drew = d := ⟨_, rfl⟩
  have hbd : Below w11.heap.size w11 wd := by rw [← hwd]; exact (Below.refl _ _).drew
  have hE20 := Lib.hid (hE11.out.read hbd)
  replace A0 := (hbd.cell (World.block_lt_of_cell? _ _ A0)).trans A0
  replace A1 := (hbd.cell (World.block_lt_of_cell? _ _ A1)).trans A1
  replace A2 := (hbd.cell (World.block_lt_of_cell? _ _ A2)).trans A2
  replace B0 := (hbd.cell (World.block_lt_of_cell? _ _ B0)).trans B0
  replace B1 := (hbd.cell (World.block_lt_of_cell? _ _ B1)).trans B1
  replace B2 := (hbd.cell (World.block_lt_of_cell? _ _ B2)).trans B2
  replace r0 := (hbd.cell (World.block_lt_of_cell? _ _ r0)).trans r0
  replace r1 := (hbd.cell (World.block_lt_of_cell? _ _ r1)).trans r1
  replace r2 := (hbd.cell (World.block_lt_of_cell? _ _ r2)).trans r2
  replace r3 := (hbd.cell (World.block_lt_of_cell? _ _ r3)).trans r3
  replace r4 := (hbd.cell (World.block_lt_of_cell? _ _ r4)).trans r4
  replace r5 := (hbd.cell (World.block_lt_of_cell? _ _ r5)).trans r5
  clear hE11 hbd
  refine Rt.wp_region_ordM [0, 0, 0, 0, 0, 0, 0, 0, 1, 2, 0, 0, 0, 0, 0, 0, 0, 0, 0, 0, 1, 1, 0, 0, 0, 0, 0, 1, 1, 0, 0, 0, 0, 1, 2, 0, 0, 0, 1, 2, 0, 0, 0, 0, 1, 2, 0, 0, 0, 0, 2, 0, 0, 0] [0, 1, 2, 3, 4, 5, 6, 7, 8, 9, 10, 11, 12, 13, 14, 15, 16, 17, 18, 19, 20, 21, 22, 23, 24, 25, 26, 27, 28, 29, 30, 31, 32, 33, 34, 35, 36, 37, 38, 39, 40, 41, 42, 43, 44, 45, 46, 47, 48, 49, 50, 51, 52, 53] (by kernel_rfl) (by kernel_rfl) ?_
  rw [hwd]
  clear hwd
  apply ord_move rfl rfl rfl rfl; (· (simp only [Act.put, Act.eval, List.setIfInBounds_toArray, List.set_cons_zero, List.set_cons_succ, Array.getD_eq_getD_getElem?, List.getElem?_toArray, List.getElem?_cons_zero, List.getElem?_cons_succ, Option.getD_some, List.getElem_toArray, List.getElem_cons_succ, List.getElem_cons_zero]; with_reducible rfl))
  apply ord_pure rfl rfl rfl; (· (intro w; go_simp; with_reducible rfl)); (· (simp only [Act.put, Act.eval, List.setIfInBounds_toArray, List.set_cons_zero, List.set_cons_succ, Array.getD_eq_getD_getElem?, List.getElem?_toArray, List.getElem?_cons_zero, List.getElem?_cons_succ, Option.getD_some, List.getElem_toArray, List.getElem_cons_succ, List.getElem_cons_zero]; with_reducible rfl))
  apply ord_move rfl rfl rfl rfl; (· (simp only [Act.put, Act.eval, List.setIfInBounds_toArray, List.set_cons_zero, List.set_cons_succ, Array.getD_eq_getD_getElem?, List.getElem?_toArray, List.getElem?_cons_zero, List.getElem?_cons_succ, Option.getD_some, List.getElem_toArray, List.getElem_cons_succ, List.getElem_cons_zero]; with_reducible rfl))
  apply ord_pure rfl rfl rfl; (· (intro w; go_simp; with_reducible rfl)); (· (simp only [Act.put, Act.eval, List.setIfInBounds_toArray, List.set_cons_zero, List.set_cons_succ, Array.getD_eq_getD_getElem?, List.getElem?_toArray, List.getElem?_cons_zero, List.getElem?_cons_succ, Option.getD_some, List.getElem_toArray, List.getElem_cons_succ, List.getElem_cons_zero]; with_reducible rfl))
  apply ord_pure rfl rfl rfl; (· (intro w; go_simp; with_reducible rfl)); (· (simp only [Act.put, Act.eval, List.setIfInBounds_toArray, List.set_cons_zero, List.set_cons_succ, Array.getD_eq_getD_getElem?, List.getElem?_toArray, List.getElem?_cons_zero, List.getElem?_cons_succ, Option.getD_some, List.getElem_toArray, List.getElem_cons_succ, List.getElem_cons_zero]; with_reducible rfl))
  apply ord_pure rfl rfl rfl; (· (intro w; go_simp; with_reducible rfl)); (· (simp only [Act.put, Act.eval, List.setIfInBounds_toArray, List.set_cons_zero, List.set_cons_succ, Array.getD_eq_getD_getElem?, List.getElem?_toArray, List.getElem?_cons_zero, List.getElem?_cons_succ, Option.getD_some, List.getElem_toArray, List.getElem_cons_succ, List.getElem_cons_zero]; with_reducible rfl))
  apply ord_move rfl rfl rfl rfl; (· (simp only [Act.put, Act.eval, List.setIfInBounds_toArray, List.set_cons_zero, List.set_cons_succ, Array.getD_eq_getD_getElem?, List.getElem?_toArray, List.getElem?_cons_zero, List.getElem?_cons_succ, Option.getD_some, List.getElem_toArray, List.getElem_cons_succ, List.getElem_cons_zero]; with_reducible rfl))
  apply ord_pure rfl rfl rfl; (· (intro w; go_simp; with_reducible rfl)); (· (simp only [Act.put, Act.eval, List.setIfInBounds_toArray, List.set_cons_zero, List.set_cons_succ, Array.getD_eq_getD_getElem?, List.getElem?_toArray, List.getElem?_cons_zero, List.getElem?_cons_succ, Option.getD_some, List.getElem_toArray, List.getElem_cons_succ, List.getElem_cons_zero]; with_reducible rfl))
  apply ord_read rfl rfl rfl; (· (intro W hW; have g0 := cell_up hW A0; have g1 := cell_up hW A1; have g2 := cell_up hW A2; have g3 := cell_up hW B0; have g4 := cell_up hW B1; have g5 := cell_up hW B2; have g6 := cell_up hW r0; have g7 := cell_up hW r1; have g8 := cell_up hW r2; have g9 := cell_up hW r3; have g10 := cell_up hW r4; have g11 := cell_up hW r5; go_simp; with_reducible rfl)); (· (simp only [Act.put, Act.eval, List.setIfInBounds_toArray, List.set_cons_zero, List.set_cons_succ, Array.getD_eq_getD_getElem?, List.getElem?_toArray, List.getElem?_cons_zero, List.getElem?_cons_succ, Option.getD_some, List.getElem_toArray, List.getElem_cons_succ, List.getElem_cons_zero]; with_reducible rfl))
  refine ord_call rfl rfl rfl (by go_simp; exact ⟨rfl, rfl⟩) ?_
  refine ((show Calls Try.prog 16 #[.pointer (some ⟨xb, 0, none⟩), .agg #[.bool false, .int .u64 0, .int .u64 1]] _ _ from Timeout_P (a := kA) hE20.out.inf kA_ok)).mono ?_
  rw [ex_d]
  rintro e w21 ⟨rfl, hb21⟩
  refine ⟨_, rfl, hb21, ?_⟩
  have hE21 := Lib.hid (hE20.out.read hb21)
  replace A0 := (hb21.cell (World.block_lt_of_cell? _ _ A0)).trans A0
  replace A1 := (hb21.cell (World.block_lt_of_cell? _ _ A1)).trans A1
  replace A2 := (hb21.cell (World.block_lt_of_cell? _ _ A2)).trans A2
  replace B0 := (hb21.cell (World.block_lt_of_cell? _ _ B0)).trans B0
  replace B1 := (hb21.cell (World.block_lt_of_cell? _ _ B1)).trans B1
  replace B2 := (hb21.cell (World.block_lt_of_cell? _ _ B2)).trans B2
  replace r0 := (hb21.cell (World.block_lt_of_cell? _ _ r0)).trans r0
  replace r1 := (hb21.cell (World.block_lt_of_cell? _ _ r1)).trans r1
  replace r2 := (hb21.cell (World.block_lt_of_cell? _ _ r2)).trans r2
  replace r3 := (hb21.cell (World.block_lt_of_cell? _ _ r3)).trans r3
  replace r4 := (hb21.cell (World.block_lt_of_cell? _ _ r4)).trans r4
  replace r5 := (hb21.cell (World.block_lt_of_cell? _ _ r5)).trans r5
  simp only [Act.put, Act.eval, List.setIfInBounds_toArray, List.set_cons_zero, List.set_cons_succ, Array.getD_eq_getD_getElem?, List.getElem?_toArray, List.getElem?_cons_zero, List.getElem?_cons_succ, Option.getD_some, List.getElem_toArray, List.getElem_cons_succ, List.getElem_cons_zero]
  apply ord_pure rfl rfl rfl; (· (intro w; go_simp; with_reducible rfl)); (· (simp only [Act.put, Act.eval, List.setIfInBounds_toArray, List.set_cons_zero, List.set_cons_succ, Array.getD_eq_getD_getElem?, List.getElem?_toArray, List.getElem?_cons_zero, List.getElem?_cons_succ, Option.getD_some, List.getElem_toArray, List.getElem_cons_succ, List.getElem_cons_zero]; with_reducible rfl))
  apply ord_pure rfl rfl rfl; (· (intro w; go_simp; with_reducible rfl)); (· (simp only [Act.put, Act.eval, List.setIfInBounds_toArray, List.set_cons_zero, List.set_cons_succ, Array.getD_eq_getD_getElem?, List.getElem?_toArray, List.getElem?_cons_zero, List.getElem?_cons_succ, Option.getD_some, List.getElem_toArray, List.getElem_cons_succ, List.getElem_cons_zero]; with_reducible rfl))
  apply ord_move rfl rfl rfl rfl; (· (simp only [Act.put, Act.eval, List.setIfInBounds_toArray, List.set_cons_zero, List.set_cons_succ, Array.getD_eq_getD_getElem?, List.getElem?_toArray, List.getElem?_cons_zero, List.getElem?_cons_succ, Option.getD_some, List.getElem_toArray, List.getElem_cons_succ, List.getElem_cons_zero]; with_reducible rfl))
  apply ord_pure rfl rfl rfl; (· (intro w; go_simp; with_reducible rfl)); (· (simp only [Act.put, Act.eval, List.setIfInBounds_toArray, List.set_cons_zero, List.set_cons_succ, Array.getD_eq_getD_getElem?, List.getElem?_toArray, List.getElem?_cons_zero, List.getElem?_cons_succ, Option.getD_some, List.getElem_toArray, List.getElem_cons_succ, List.getElem_cons_zero]; with_reducible rfl))
  apply ord_pure rfl rfl rfl; (· (intro w; go_simp; with_reducible rfl)); (· (simp only [Act.put, Act.eval, List.setIfInBounds_toArray, List.set_cons_zero, List.set_cons_succ, Array.getD_eq_getD_getElem?, List.getElem?_toArray, List.getElem?_cons_zero, List.getElem?_cons_succ, Option.getD_some, List.getElem_toArray, List.getElem_cons_succ, List.getElem_cons_zero]; with_reducible rfl))
  apply ord_pure rfl rfl rfl; (· (intro w; go_simp; with_reducible rfl)); (· (simp only [Act.put, Act.eval, List.setIfInBounds_toArray, List.set_cons_zero, List.set_cons_succ, Array.getD_eq_getD_getElem?, List.getElem?_toArray, List.getElem?_cons_zero, List.getElem?_cons_succ, Option.getD_some, List.getElem_toArray, List.getElem_cons_succ, List.getElem_cons_zero]; with_reducible rfl))
  apply ord_pure rfl rfl rfl; (· (intro w; go_simp; with_reducible rfl)); (· (simp only [Act.put, Act.eval, List.setIfInBounds_toArray, List.set_cons_zero, List.set_cons_succ, Array.getD_eq_getD_getElem?, List.getElem?_toArray, List.getElem?_cons_zero, List.getElem?_cons_succ, Option.getD_some, List.getElem_toArray, List.getElem_cons_succ, List.getElem_cons_zero]; with_reducible rfl))
  apply ord_move rfl rfl rfl rfl; (· (simp only [Act.put, Act.eval, List.setIfInBounds_toArray, List.set_cons_zero, List.set_cons_succ, Array.getD_eq_getD_getElem?, List.getElem?_toArray, List.getElem?_cons_zero, List.getElem?_cons_succ, Option.getD_some, List.getElem_toArray, List.getElem_cons_succ, List.getElem_cons_zero]; with_reducible rfl))
  apply ord_pure rfl rfl rfl; (· (intro w; go_simp; with_reducible rfl)); (· (simp only [Act.put, Act.eval, List.setIfInBounds_toArray, List.set_cons_zero, List.set_cons_succ, Array.getD_eq_getD_getElem?, List.getElem?_toArray, List.getElem?_cons_zero, List.getElem?_cons_succ, Option.getD_some, List.getElem_toArray, List.getElem_cons_succ, List.getElem_cons_zero]; with_reducible rfl))
  apply ord_pure rfl rfl rfl; (· (intro w; go_simp; with_reducible rfl)); (· (simp only [Act.put, Act.eval, List.setIfInBounds_toArray, List.set_cons_zero, List.set_cons_succ, Array.getD_eq_getD_getElem?, List.getElem?_toArray, List.getElem?_cons_zero, List.getElem?_cons_succ, Option.getD_some, List.getElem_toArray, List.getElem_cons_succ, List.getElem_cons_zero]; with_reducible rfl))
  apply ord_read rfl rfl rfl; (· (intro W hW; have g0 := cell_up hW A0; have g1 := cell_up hW A1; have g2 := cell_up hW A2; have g3 := cell_up hW B0; have g4 := cell_up hW B1; have g5 := cell_up hW B2; have g6 := cell_up hW r0; have g7 := cell_up hW r1; have g8 := cell_up hW r2; have g9 := cell_up hW r3; have g10 := cell_up hW r4; have g11 := cell_up hW r5; go_simp; with_reducible rfl)); (· (simp only [Act.put, Act.eval, List.setIfInBounds_toArray, List.set_cons_zero, List.set_cons_succ, Array.getD_eq_getD_getElem?, List.getElem?_toArray, List.getElem?_cons_zero, List.getElem?_cons_succ, Option.getD_some, List.getElem_toArray, List.getElem_cons_succ, List.getElem_cons_zero]; with_reducible rfl))
  apply ord_read rfl rfl rfl; (· (intro W hW; have g0 := cell_up hW A0; have g1 := cell_up hW A1; have g2 := cell_up hW A2; have g3 := cell_up hW B0; have g4 := cell_up hW B1; have g5 := cell_up hW B2; have g6 := cell_up hW r0; have g7 := cell_up hW r1; have g8 := cell_up hW r2; have g9 := cell_up hW r3; have g10 := cell_up hW r4; have g11 := cell_up hW r5; go_simp; with_reducible rfl)); (· (simp only [Act.put, Act.eval, List.setIfInBounds_toArray, List.set_cons_zero, List.set_cons_succ, Array.getD_eq_getD_getElem?, List.getElem?_toArray, List.getElem?_cons_zero, List.getElem?_cons_succ, Option.getD_some, List.getElem_toArray, List.getElem_cons_succ, List.getElem_cons_zero]; with_reducible rfl))
  apply ord_pure rfl rfl rfl; (· (intro w; go_simp; with_reducible rfl)); (· (simp only [Act.put, Act.eval, List.setIfInBounds_toArray, List.set_cons_zero, List.set_cons_succ, Array.getD_eq_getD_getElem?, List.getElem?_toArray, List.getElem?_cons_zero, List.getElem?_cons_succ, Option.getD_some, List.getElem_toArray, List.getElem_cons_succ, List.getElem_cons_zero]; with_reducible rfl))
  apply ord_pure rfl rfl rfl; (· (intro w; go_simp; with_reducible rfl)); (· (simp only [Act.put, Act.eval, List.setIfInBounds_toArray, List.set_cons_zero, List.set_cons_succ, Array.getD_eq_getD_getElem?, List.getElem?_toArray, List.getElem?_cons_zero, List.getElem?_cons_succ, Option.getD_some, List.getElem_toArray, List.getElem_cons_succ, List.getElem_cons_zero]; with_reducible rfl))
  apply ord_move rfl rfl rfl rfl; (· (simp only [Act.put, Act.eval, List.setIfInBounds_toArray, List.set_cons_zero, List.set_cons_succ, Array.getD_eq_getD_getElem?, List.getElem?_toArray, List.getElem?_cons_zero, List.getElem?_cons_succ, Option.getD_some, List.getElem_toArray, List.getElem_cons_succ, List.getElem_cons_zero]; with_reducible rfl))
  apply ord_pure rfl rfl rfl; (· (intro w; go_simp; with_reducible rfl)); (· (simp only [Act.put, Act.eval, List.setIfInBounds_toArray, List.set_cons_zero, List.set_cons_succ, Array.getD_eq_getD_getElem?, List.getElem?_toArray, List.getElem?_cons_zero, List.getElem?_cons_succ, Option.getD_some, List.getElem_toArray, List.getElem_cons_succ, List.getElem_cons_zero]; with_reducible rfl))
  apply ord_pure rfl rfl rfl; (· (intro w; go_simp; with_reducible rfl)); (· (simp only [Act.put, Act.eval, List.setIfInBounds_toArray, List.set_cons_zero, List.set_cons_succ, Array.getD_eq_getD_getElem?, List.getElem?_toArray, List.getElem?_cons_zero, List.getElem?_cons_succ, Option.getD_some, List.getElem_toArray, List.getElem_cons_succ, List.getElem_cons_zero]; with_reducible rfl))
  apply ord_read rfl rfl rfl; (· (intro W hW; have g0 := cell_up hW A0; have g1 := cell_up hW A1; have g2 := cell_up hW A2; have g3 := cell_up hW B0; have g4 := cell_up hW B1; have g5 := cell_up hW B2; have g6 := cell_up hW r0; have g7 := cell_up hW r1; have g8 := cell_up hW r2; have g9 := cell_up hW r3; have g10 := cell_up hW r4; have g11 := cell_up hW r5; go_simp; with_reducible rfl)); (· (simp only [Act.put, Act.eval, List.setIfInBounds_toArray, List.set_cons_zero, List.set_cons_succ, Array.getD_eq_getD_getElem?, List.getElem?_toArray, List.getElem?_cons_zero, List.getElem?_cons_succ, Option.getD_some, List.getElem_toArray, List.getElem_cons_succ, List.getElem_cons_zero]; with_reducible rfl))
  apply ord_read rfl rfl rfl; (· (intro W hW; have g0 := cell_up hW A0; have g1 := cell_up hW A1; have g2 := cell_up hW A2; have g3 := cell_up hW B0; have g4 := cell_up hW B1; have g5 := cell_up hW B2; have g6 := cell_up hW r0; have g7 := cell_up hW r1; have g8 := cell_up hW r2; have g9 := cell_up hW r3; have g10 := cell_up hW r4; have g11 := cell_up hW r5; go_simp; with_reducible rfl)); (· (simp only [Act.put, Act.eval, List.setIfInBounds_toArray, List.set_cons_zero, List.set_cons_succ, Array.getD_eq_getD_getElem?, List.getElem?_toArray, List.getElem?_cons_zero, List.getElem?_cons_succ, Option.getD_some, List.getElem_toArray, List.getElem_cons_succ, List.getElem_cons_zero]; with_reducible rfl))
  apply ord_pure rfl rfl rfl; (· (intro w; go_simp; with_reducible rfl)); (· (simp only [Act.put, Act.eval, List.setIfInBounds_toArray, List.set_cons_zero, List.set_cons_succ, Array.getD_eq_getD_getElem?, List.getElem?_toArray, List.getElem?_cons_zero, List.getElem?_cons_succ, Option.getD_some, List.getElem_toArray, List.getElem_cons_succ, List.getElem_cons_zero]; with_reducible rfl))
  apply ord_pure rfl rfl rfl; (· (intro w; go_simp; with_reducible rfl)); (· (simp only [Act.put, Act.eval, List.setIfInBounds_toArray, List.set_cons_zero, List.set_cons_succ, Array.getD_eq_getD_getElem?, List.getElem?_toArray, List.getElem?_cons_zero, List.getElem?_cons_succ, Option.getD_some, List.getElem_toArray, List.getElem_cons_succ, List.getElem_cons_zero]; with_reducible rfl))
  apply ord_move rfl rfl rfl rfl; (· (simp only [Act.put, Act.eval, List.setIfInBounds_toArray, List.set_cons_zero, List.set_cons_succ, Array.getD_eq_getD_getElem?, List.getElem?_toArray, List.getElem?_cons_zero, List.getElem?_cons_succ, Option.getD_some, List.getElem_toArray, List.getElem_cons_succ, List.getElem_cons_zero]; with_reducible rfl))
  apply ord_pure rfl rfl rfl; (· (intro w; go_simp; with_reducible rfl)); (· (simp only [Act.put, Act.eval, List.setIfInBounds_toArray, List.set_cons_zero, List.set_cons_succ, Array.getD_eq_getD_getElem?, List.getElem?_toArray, List.getElem?_cons_zero, List.getElem?_cons_succ, Option.getD_some, List.getElem_toArray, List.getElem_cons_succ, List.getElem_cons_zero]; with_reducible rfl))
  apply ord_read rfl rfl rfl; (· (intro W hW; have g0 := cell_up hW A0; have g1 := cell_up hW A1; have g2 := cell_up hW A2; have g3 := cell_up hW B0; have g4 := cell_up hW B1; have g5 := cell_up hW B2; have g6 := cell_up hW r0; have g7 := cell_up hW r1; have g8 := cell_up hW r2; have g9 := cell_up hW r3; have g10 := cell_up hW r4; have g11 := cell_up hW r5; go_simp; with_reducible rfl)); (· (simp only [Act.put, Act.eval, List.setIfInBounds_toArray, List.set_cons_zero, List.set_cons_succ, Array.getD_eq_getD_getElem?, List.getElem?_toArray, List.getElem?_cons_zero, List.getElem?_cons_succ, Option.getD_some, List.getElem_toArray, List.getElem_cons_succ, List.getElem_cons_zero]; with_reducible rfl))
  refine ord_call rfl rfl rfl (by go_simp; exact ⟨rfl, rfl⟩) ?_
  refine ((show Calls Try.prog 15 #[.pointer (some ⟨xb, 0, none⟩), .agg #[.bool false, .int .u64 0, .int .u64 2], .string ⟨#[1, 88, 0]⟩, .int .i64 899999] _ _ from Lame_P (a := kB) hE21.out.inf kB_ok ⟨#[1, 88, 0]⟩ (small rfl) 899999)).mono ?_
  rw [ex_e]
  rintro e w22 ⟨rfl, hb22⟩
  refine ⟨_, rfl, hb22, ?_⟩
  have hE22 := Lib.hid (hE21.out.read hb22)
  replace A0 := (hb22.cell (World.block_lt_of_cell? _ _ A0)).trans A0
  replace A1 := (hb22.cell (World.block_lt_of_cell? _ _ A1)).trans A1
  replace A2 := (hb22.cell (World.block_lt_of_cell? _ _ A2)).trans A2
  replace B0 := (hb22.cell (World.block_lt_of_cell? _ _ B0)).trans B0
  replace B1 := (hb22.cell (World.block_lt_of_cell? _ _ B1)).trans B1
  replace B2 := (hb22.cell (World.block_lt_of_cell? _ _ B2)).trans B2
  replace r0 := (hb22.cell (World.block_lt_of_cell? _ _ r0)).trans r0
  replace r1 := (hb22.cell (World.block_lt_of_cell? _ _ r1)).trans r1
  replace r2 := (hb22.cell (World.block_lt_of_cell? _ _ r2)).trans r2
  replace r3 := (hb22.cell (World.block_lt_of_cell? _ _ r3)).trans r3
  replace r4 := (hb22.cell (World.block_lt_of_cell? _ _ r4)).trans r4
  replace r5 := (hb22.cell (World.block_lt_of_cell? _ _ r5)).trans r5
  simp only [Act.put, Act.eval, List.setIfInBounds_toArray, List.set_cons_zero, List.set_cons_succ, Array.getD_eq_getD_getElem?, List.getElem?_toArray, List.getElem?_cons_zero, List.getElem?_cons_succ, Option.getD_some, List.getElem_toArray, List.getElem_cons_succ, List.getElem_cons_zero]
  apply ord_pure rfl rfl rfl; (· (intro w; go_simp; with_reducible rfl)); (· (simp only [Act.put, Act.eval, List.setIfInBounds_toArray, List.set_cons_zero, List.set_cons_succ, Array.getD_eq_getD_getElem?, List.getElem?_toArray, List.getElem?_cons_zero, List.getElem?_cons_succ, Option.getD_some, List.getElem_toArray, List.getElem_cons_succ, List.getElem_cons_zero]; with_reducible rfl))
  apply ord_move rfl rfl rfl rfl; (· (simp only [Act.put, Act.eval, List.setIfInBounds_toArray, List.set_cons_zero, List.set_cons_succ, Array.getD_eq_getD_getElem?, List.getElem?_toArray, List.getElem?_cons_zero, List.getElem?_cons_succ, Option.getD_some, List.getElem_toArray, List.getElem_cons_succ, List.getElem_cons_zero]; with_reducible rfl))
  apply ord_pure rfl rfl rfl; (· (intro w; go_simp; with_reducible rfl)); (· (simp only [Act.put, Act.eval, List.setIfInBounds_toArray, List.set_cons_zero, List.set_cons_succ, Array.getD_eq_getD_getElem?, List.getElem?_toArray, List.getElem?_cons_zero, List.getElem?_cons_succ, Option.getD_some, List.getElem_toArray, List.getElem_cons_succ, List.getElem_cons_zero]; with_reducible rfl))
  apply ord_read rfl rfl rfl; (· (intro W hW; have g0 := cell_up hW A0; have g1 := cell_up hW A1; have g2 := cell_up hW A2; have g3 := cell_up hW B0; have g4 := cell_up hW B1; have g5 := cell_up hW B2; have g6 := cell_up hW r0; have g7 := cell_up hW r1; have g8 := cell_up hW r2; have g9 := cell_up hW r3; have g10 := cell_up hW r4; have g11 := cell_up hW r5; go_simp; with_reducible rfl)); (· (simp only [Act.put, Act.eval, List.setIfInBounds_toArray, List.set_cons_zero, List.set_cons_succ, Array.getD_eq_getD_getElem?, List.getElem?_toArray, List.getElem?_cons_zero, List.getElem?_cons_succ, Option.getD_some, List.getElem_toArray, List.getElem_cons_succ, List.getElem_cons_zero]; with_reducible rfl))
  refine ord_call rfl rfl rfl (by go_simp; exact ⟨rfl, rfl⟩) ?_
  refine ((show Calls Try.prog 15 #[.pointer (some ⟨xb, 0, none⟩), .agg #[.bool false, .int .u64 0, .int .u64 2], .string ⟨#[1, 120, 0]⟩, .int .i64 900000] _ _ from Lame_P (a := kB) hE22.out.inf kB_ok ⟨#[1, 120, 0]⟩ (small rfl) 900000)).mono ?_
  rw [ex_f]
  rintro e w23 ⟨rfl, hb23⟩
  refine ⟨_, rfl, hb23, ?_⟩
  have hE23 := Lib.hid (hE22.out.read hb23)
  replace A0 := (hb23.cell (World.block_lt_of_cell? _ _ A0)).trans A0
  replace A1 := (hb23.cell (World.block_lt_of_cell? _ _ A1)).trans A1
  replace A2 := (hb23.cell (World.block_lt_of_cell? _ _ A2)).trans A2
  replace B0 := (hb23.cell (World.block_lt_of_cell? _ _ B0)).trans B0
  replace B1 := (hb23.cell (World.block_lt_of_cell? _ _ B1)).trans B1
  replace B2 := (hb23.cell (World.block_lt_of_cell? _ _ B2)).trans B2
  replace r0 := (hb23.cell (World.block_lt_of_cell? _ _ r0)).trans r0
  replace r1 := (hb23.cell (World.block_lt_of_cell? _ _ r1)).trans r1
  replace r2 := (hb23.cell (World.block_lt_of_cell? _ _ r2)).trans r2
  replace r3 := (hb23.cell (World.block_lt_of_cell? _ _ r3)).trans r3
  replace r4 := (hb23.cell (World.block_lt_of_cell? _ _ r4)).trans r4
  replace r5 := (hb23.cell (World.block_lt_of_cell? _ _ r5)).trans r5
  simp only [Act.put, Act.eval, List.setIfInBounds_toArray, List.set_cons_zero, List.set_cons_succ, Array.getD_eq_getD_getElem?, List.getElem?_toArray, List.getElem?_cons_zero, List.getElem?_cons_succ, Option.getD_some, List.getElem_toArray, List.getElem_cons_succ, List.getElem_cons_zero]
  apply ord_pure rfl rfl rfl; (· (intro w; go_simp; with_reducible rfl)); (· (simp only [Act.put, Act.eval, List.setIfInBounds_toArray, List.set_cons_zero, List.set_cons_succ, Array.getD_eq_getD_getElem?, List.getElem?_toArray, List.getElem?_cons_zero, List.getElem?_cons_succ, Option.getD_some, List.getElem_toArray, List.getElem_cons_succ, List.getElem_cons_zero]; with_reducible rfl))
  apply ord_pure rfl rfl rfl; (· (intro w; go_simp; with_reducible rfl)); (· (simp only [Act.put, Act.eval, List.setIfInBounds_toArray, List.set_cons_zero, List.set_cons_succ, Array.getD_eq_getD_getElem?, List.getElem?_toArray, List.getElem?_cons_zero, List.getElem?_cons_succ, Option.getD_some, List.getElem_toArray, List.getElem_cons_succ, List.getElem_cons_zero]; with_reducible rfl))
  apply ord_move rfl rfl rfl rfl; (· (simp only [Act.put, Act.eval, List.setIfInBounds_toArray, List.set_cons_zero, List.set_cons_succ, Array.getD_eq_getD_getElem?, List.getElem?_toArray, List.getElem?_cons_zero, List.getElem?_cons_succ, Option.getD_some, List.getElem_toArray, List.getElem_cons_succ, List.getElem_cons_zero]; with_reducible rfl))
  apply ord_pure rfl rfl rfl; (· (intro w; go_simp; with_reducible rfl)); (· (simp only [Act.put, Act.eval, List.setIfInBounds_toArray, List.set_cons_zero, List.set_cons_succ, Array.getD_eq_getD_getElem?, List.getElem?_toArray, List.getElem?_cons_zero, List.getElem?_cons_succ, Option.getD_some, List.getElem_toArray, List.getElem_cons_succ, List.getElem_cons_zero]; with_reducible rfl))
  apply ord_read rfl rfl rfl; (· (intro W hW; have g0 := cell_up hW A0; have g1 := cell_up hW A1; have g2 := cell_up hW A2; have g3 := cell_up hW B0; have g4 := cell_up hW B1; have g5 := cell_up hW B2; have g6 := cell_up hW r0; have g7 := cell_up hW r1; have g8 := cell_up hW r2; have g9 := cell_up hW r3; have g10 := cell_up hW r4; have g11 := cell_up hW r5; go_simp; with_reducible rfl)); (· (simp only [Act.put, Act.eval, List.setIfInBounds_toArray, List.set_cons_zero, List.set_cons_succ, Array.getD_eq_getD_getElem?, List.getElem?_toArray, List.getElem?_cons_zero, List.getElem?_cons_succ, Option.getD_some, List.getElem_toArray, List.getElem_cons_succ, List.getElem_cons_zero]; with_reducible rfl))
  refine ord_call rfl rfl rfl (by go_simp; exact ⟨rfl, rfl⟩) ?_
  refine ((show Calls Try.prog 15 #[.pointer (some ⟨xb, 0, none⟩), .agg #[.bool false, .int .u64 0, .int .u64 2], .string ⟨#[1, 121, 0]⟩, .int .i64 0] _ _ from Lame_P (a := kB) hE23.out.inf kB_ok ⟨#[1, 121, 0]⟩ (small rfl) 0)).mono ?_
  rw [ex_g]
  rintro e w24 ⟨rfl, hb24⟩
  refine ⟨_, rfl, hb24, ?_⟩
  have hE24 := Lib.hid (hE23.out.read hb24)
  replace A0 := (hb24.cell (World.block_lt_of_cell? _ _ A0)).trans A0
  replace A1 := (hb24.cell (World.block_lt_of_cell? _ _ A1)).trans A1
  replace A2 := (hb24.cell (World.block_lt_of_cell? _ _ A2)).trans A2
  replace B0 := (hb24.cell (World.block_lt_of_cell? _ _ B0)).trans B0
  replace B1 := (hb24.cell (World.block_lt_of_cell? _ _ B1)).trans B1
  replace B2 := (hb24.cell (World.block_lt_of_cell? _ _ B2)).trans B2
  replace r0 := (hb24.cell (World.block_lt_of_cell? _ _ r0)).trans r0
  replace r1 := (hb24.cell (World.block_lt_of_cell? _ _ r1)).trans r1
  replace r2 := (hb24.cell (World.block_lt_of_cell? _ _ r2)).trans r2
  replace r3 := (hb24.cell (World.block_lt_of_cell? _ _ r3)).trans r3
  replace r4 := (hb24.cell (World.block_lt_of_cell? _ _ r4)).trans r4
  replace r5 := (hb24.cell (World.block_lt_of_cell? _ _ r5)).trans r5
  simp only [Act.put, Act.eval, List.setIfInBounds_toArray, List.set_cons_zero, List.set_cons_succ, Array.getD_eq_getD_getElem?, List.getElem?_toArray, List.getElem?_cons_zero, List.getElem?_cons_succ, Option.getD_some, List.getElem_toArray, List.getElem_cons_succ, List.getElem_cons_zero]
  apply ord_pure rfl rfl rfl; (· (intro w; go_simp; with_reducible rfl)); (· (simp only [Act.put, Act.eval, List.setIfInBounds_toArray, List.set_cons_zero, List.set_cons_succ, Array.getD_eq_getD_getElem?, List.getElem?_toArray, List.getElem?_cons_zero, List.getElem?_cons_succ, Option.getD_some, List.getElem_toArray, List.getElem_cons_succ, List.getElem_cons_zero]; with_reducible rfl))
  apply ord_pure rfl rfl rfl; (· (intro w; go_simp; with_reducible rfl)); (· (simp only [Act.put, Act.eval, List.setIfInBounds_toArray, List.set_cons_zero, List.set_cons_succ, Array.getD_eq_getD_getElem?, List.getElem?_toArray, List.getElem?_cons_zero, List.getElem?_cons_succ, Option.getD_some, List.getElem_toArray, List.getElem_cons_succ, List.getElem_cons_zero]; with_reducible rfl))
  apply ord_move rfl rfl rfl rfl; (· (simp only [Act.put, Act.eval, List.setIfInBounds_toArray, List.set_cons_zero, List.set_cons_succ, Array.getD_eq_getD_getElem?, List.getElem?_toArray, List.getElem?_cons_zero, List.getElem?_cons_succ, Option.getD_some, List.getElem_toArray, List.getElem_cons_succ, List.getElem_cons_zero]; with_reducible rfl))
  apply ord_pure rfl rfl rfl; (· (intro w; go_simp; with_reducible rfl)); (· (simp only [Act.put, Act.eval, List.setIfInBounds_toArray, List.set_cons_zero, List.set_cons_succ, Array.getD_eq_getD_getElem?, List.getElem?_toArray, List.getElem?_cons_zero, List.getElem?_cons_succ, Option.getD_some, List.getElem_toArray, List.getElem_cons_succ, List.getElem_cons_zero]; with_reducible rfl))
  refine ord_call rfl rfl rfl (by go_simp; exact ⟨rfl, rfl⟩) ?_
  refine ((Len_P hE24.out.inf)).mono ?_
  rintro e w25 ⟨rfl, rfl⟩
  refine ⟨_, rfl, Below.refl _ _, ?_⟩
  simp only [Act.put, Act.eval, List.setIfInBounds_toArray, List.set_cons_zero, List.set_cons_succ, Array.getD_eq_getD_getElem?, List.getElem?_toArray, List.getElem?_cons_zero, List.getElem?_cons_succ, Option.getD_some, List.getElem_toArray, List.getElem_cons_succ, List.getElem_cons_zero]
  apply ord_pure rfl rfl rfl; (· (intro w; go_simp; with_reducible rfl)); (· (simp only [Act.put, Act.eval, List.setIfInBounds_toArray, List.set_cons_zero, List.set_cons_succ, Array.getD_eq_getD_getElem?, List.getElem?_toArray, List.getElem?_cons_zero, List.getElem?_cons_succ, Option.getD_some, List.getElem_toArray, List.getElem_cons_succ, List.getElem_cons_zero]; with_reducible rfl))
  apply ord_pure rfl rfl rfl; (· (intro w; go_simp; with_reducible rfl)); (· (simp only [Act.put, Act.eval, List.setIfInBounds_toArray, List.set_cons_zero, List.set_cons_succ, Array.getD_eq_getD_getElem?, List.getElem?_toArray, List.getElem?_cons_zero, List.getElem?_cons_succ, Option.getD_some, List.getElem_toArray, List.getElem_cons_succ, List.getElem_cons_zero]; with_reducible rfl))
  apply ord_pure rfl rfl rfl; (· (intro w; go_simp; with_reducible rfl)); (· (simp only [Act.put, Act.eval, List.setIfInBounds_toArray, List.set_cons_zero, List.set_cons_succ, Array.getD_eq_getD_getElem?, List.getElem?_toArray, List.getElem?_cons_zero, List.getElem?_cons_succ, Option.getD_some, List.getElem_toArray, List.getElem_cons_succ, List.getElem_cons_zero]; with_reducible rfl))
  with_reducible refine ord_nil ?_
  go_wp2
  go_ret
  exact ⟨rfl, hE24.out.bel⟩

end Go.Proofs.Yticijejnemnmlaa.If
