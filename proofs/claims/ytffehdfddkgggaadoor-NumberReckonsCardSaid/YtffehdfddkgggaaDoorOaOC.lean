/- Pow. -/
import Derived.Test.YtffehdfddkgggaaDoorMDC
namespace Go.Proofs.YtffehdfddkgggaaDoor.Nu
open Go.RowKit Rt
set_option linter.unusedSimpArgs false
set_option linter.unusedVariables false
theorem Small_1 (w : World) : Calls Tryd.prog 14 #[.int .u64 1] w fun e w' => ∃ v', e = .returned (.agg #[v']) ∧ NumAt w' v' 1 ∧ Below w.heap.size w w' := Small_N w 1 (by decide)
theorem blen_lt_le {n m : Nat} (h : n < m) : blen n ≤ blen m := blen_le.2 (Nat.lt_trans h (blen_lt m))
/-- Pow's arguments in their boxes, and its result's cell. -/
structure PwA (w W : World) (a e m : Nat) : Prop where
  va : Var W w.heap.size a
  ve : Var W (w.heap.size + 1) e
  vm : Var W (w.heap.size + 2) m
  vr : Boxed W (w.heap.size + 3) 26 (.slice none 0 0)
  bel : Below w.heap.size w W
  size : w.heap.size + 4 ≤ W.heap.size
theorem PwA.below {w W W' : World} {a e m : Nat} (h : PwA w W a e m) (hb : Below W.heap.size W W') : PwA w W' a e m :=
  ⟨h.va.below hb, h.ve.below hb, h.vm.below hb, (hb.block _ h.vr.lt).trans h.vr, h.bel.trans (hb.mono h.bel.size), Nat.le_trans h.size hb.size⟩
theorem PwA.put {w W : World} {a e m g x : Nat} (h : PwA w W a e m) (hg : w.heap.size + 4 ≤ g) (hv : Var W g x) (u : Value) : PwA w (W.setCell ⟨g, 0, none⟩ u) a e m :=
  ⟨h.va.other hv (by omega) u, h.ve.other hv (by omega) u, h.vm.other hv (by omega) u, (Below.heap_setCell _ _ _ _ (show w.heap.size + 3 ≠ g by omega)).trans h.vr, h.bel.setCell (p := ⟨g, 0, none⟩) (Nat.le_trans (Nat.le_add_right _ 4) hg) _, by rw [World.size_setCell]; exact h.size⟩
theorem PwA.made {w : World} {a e m : Nat} {u v x : Value} (hu : NumAt w u a) (hv : NumAt w v e) (hx : NumAt w x m) : PwA w ((((w.alloc (.cells #[u] 26)).alloc (.cells #[v] 26)).alloc (.cells #[x] 26)).alloc (.cells #[.slice none 0 0] 26)) a e m := by
  have b1 : Below w.heap.size w (w.alloc (.cells #[u] 26)) := (Below.refl _ w).alloc (Nat.le_refl _) _
  have h1 := Var.made hu
  have h2 := Var.made (hv.below b1)
  have b2 : Below (w.alloc (.cells #[u] 26)).heap.size (w.alloc (.cells #[u] 26)) ((w.alloc (.cells #[u] 26)).alloc (.cells #[v] 26)) := (Below.refl _ _).alloc (Nat.le_refl _) _
  have h3 := Var.made ((hx.below b1).below b2)
  have b3 : Below ((w.alloc (.cells #[u] 26)).alloc (.cells #[v] 26)).heap.size ((w.alloc (.cells #[u] 26)).alloc (.cells #[v] 26)) (((w.alloc (.cells #[u] 26)).alloc (.cells #[v] 26)).alloc (.cells #[x] 26)) := (Below.refl _ _).alloc (Nat.le_refl _) _
  have b4 : Below (((w.alloc (.cells #[u] 26)).alloc (.cells #[v] 26)).alloc (.cells #[x] 26)).heap.size (((w.alloc (.cells #[u] 26)).alloc (.cells #[v] 26)).alloc (.cells #[x] 26)) ((((w.alloc (.cells #[u] 26)).alloc (.cells #[v] 26)).alloc (.cells #[x] 26)).alloc (.cells #[.slice none 0 0] 26)) := (Below.refl _ _).alloc (Nat.le_refl _) _
  have h4 := Boxed.new (((w.alloc (.cells #[u] 26)).alloc (.cells #[v] 26)).alloc (.cells #[x] 26)) 26 (.slice none 0 0)
  have f1 := ((h1.below b2).below b3).below b4
  have f2 := (h2.below b3).below b4
  have f3 := h3.below b4
  simp only [World.size_alloc] at f1 f2 f3 h4
  refine ⟨f1, f2, f3, h4, ?_, by simp⟩
  exact ((b1.trans (b2.mono (by simp))).trans (b3.mono (by simp; omega))).trans (b4.mono (by simp; omega))
/-- .. and its two variables. -/
structure PwI (w W : World) (a e m g h x y : Nat) : Prop where
  args : PwA w W a e m
  vo : Var W g x
  vx : Var W h y
  ne : g ≠ h
  lo : w.heap.size + 4 ≤ g
  lo2 : w.heap.size + 4 ≤ h
theorem PwI.below {w W W' : World} {a e m g h x y : Nat} (i : PwI w W a e m g h x y) (hb : Below W.heap.size W W') : PwI w W' a e m g h x y :=
  ⟨i.args.below hb, i.vo.below hb, i.vx.below hb, i.ne, i.lo, i.lo2⟩
theorem PwI.setO {w W : World} {a e m g h x y z : Nat} (i : PwI w W a e m g h x y) {v : Value} (hn : NumAt W v z) : PwI w (W.setCell ⟨g, 0, none⟩ v) a e m g h z y :=
  ⟨i.args.put i.lo i.vo v, i.vo.put hn, i.vx.other i.vo i.ne.symm v, i.ne, i.lo, i.lo2⟩
theorem PwI.setX {w W : World} {a e m g h x y z : Nat} (i : PwI w W a e m g h x y) {v : Value} (hn : NumAt W v z) : PwI w (W.setCell ⟨h, 0, none⟩ v) a e m g h x z :=
  ⟨i.args.put i.lo2 i.vx v, i.vo.other i.vx i.ne v, i.vx.put hn, i.ne, i.lo, i.lo2⟩
theorem bits_and_one (a : Nat) (ha : a < 4294967296) : Go.bits BinOp.and IntKind.u32 (a : Int) 1 = ((a % 2 : Nat) : Int) := by
  unfold Go.bits
  have h3 : (BitVec.ofInt IntKind.u32.bits (a : Int) &&& BitVec.ofInt IntKind.u32.bits 1).toNat = a % 2 := by
    rw [BitVec.toNat_and, show (1 : Int) = ((1 : Nat) : Int) from rfl, BitVec.ofInt_natCast, BitVec.ofInt_natCast, BitVec.toNat_ofNat, BitVec.toNat_ofNat]
    show (a % 2 ^ 32) &&& (1 % 2 ^ 32) = a % 2
    rw [Nat.mod_eq_of_lt (show a < 2 ^ 32 from ha)]
    exact Nat.and_one_is_mod a
  simp only [h3]
  exact Nu.wr32 (Int.natCast_nonneg _) (by omega)
set_option maxHeartbeats 4000000 in
set_option maxRecDepth 100000 in
theorem Pow_err {w : World} {u v x : Value} {a e m : Nat} (hu : NumAt w u a) (hv : NumAt w v e) (hx : NumAt w x m) (hm : blen m ≤ 400000) (he : modE m ≠ 0) :
    Calls Tryd.prog 23 #[.agg #[u], .agg #[v], .agg #[x]] w fun e w' => e = .returned (.tuple #[.agg #[.slice none 0 0], .int .i64 (modE m)]) ∧ Below w.heap.size w w' := by
  have hP := Lib.hid (PwA.made hu hv hx)
  obtain ⟨ua, ul, uc, rfl⟩ := hu.shape
  obtain ⟨va, vl, vc, rfl⟩ := hv.shape
  obtain ⟨xa, xl, xc, rfl⟩ := hx.shape
  obtain ⟨W0, hW0⟩ : ∃ W, (((w.alloc (.cells #[.slice ua ul uc] 26)).alloc (.cells #[.slice va vl vc] 26)).alloc (.cells #[.slice xa xl xc] 26)).alloc (.cells #[.slice none 0 0] 26) = W := ⟨_, rfl⟩
  rw [hW0] at hP
  have hW0H := Lib.hid hW0
  obtain ⟨ma, ml, mc, mb, mn⟩ := hP.out.vm
  have hM := Lib.hid (Modulus_N mn (Nat.le_trans hm (by decide)))
  have z0 := mb.cell
  obtain ⟨ev, hev⟩ : ∃ z, modE m = z := ⟨_, rfl⟩
  rw [hev] at he hM ⊢
  have he0 : (ev != 0) = true := by simpa using he
  clear hu hv hx hW0 mb mn he hev
  go_enter Tryd.func23, Tryd.ntmps23
  go_upto_region 1 with (fail)
  rw [hW0H.out]
  clear hW0H
  go_wp2_with (go_at_call 44; refine hM.out.mono ?_; rintro e w2 ⟨rfl, hb2⟩; have hP2 := Lib.hid (hP.out.below hb2); have z3 := hP2.out.vr.cell; have f3 := hP2.out.vr.frozen)
  have r0 := (hP2.out.vr.set (.slice none 0 0)).cell
  have hE := hP2.out.bel.setCell (p := ⟨w.heap.size + 3, 0, none⟩) (Nat.le_add_right _ _) (.slice none 0 0)
  obtain ⟨W3, hW3⟩ : ∃ W, w2.setCell ⟨w.heap.size + 3, 0, none⟩ (.slice none 0 0) = W := ⟨_, rfl⟩
  rw [hW3] at r0 hE ⊢
  refine bodyPost_ret (v := .tuple #[.agg #[.slice none 0 0], .int .i64 ev]) (by simp [results, Tryd.results23, go_sem, r0]) rfl ⟨rfl, hE⟩
set_option maxHeartbeats 8000000 in
set_option maxRecDepth 100000 in
theorem Pow_any {w : World} {u v x : Value} {a e m : Nat} (hu : NumAt w u a) (hv : NumAt w v e) (hx : NumAt w x m) (haB : blen a ≤ 400000) (heB : blen e ≤ 400000) (hm0 : m ≠ 0) (hmB : blen m ≤ 2048) :
    Calls Tryd.prog 23 #[.agg #[u], .agg #[v], .agg #[x]] w fun f w' => ∃ r, f = .returned (.tuple #[.agg #[r], .int .i64 0]) ∧ NumAt w' r (a ^ e % m) ∧ Below w.heap.size w w' := by
  have hP := Lib.hid (PwA.made hu hv hx)
  obtain ⟨ua, ul, uc, rfl⟩ := hu.shape
  obtain ⟨va, vl, vc, rfl⟩ := hv.shape
  obtain ⟨xa, xl, xc, rfl⟩ := hx.shape
  obtain ⟨W0, hW0⟩ : ∃ W, (((w.alloc (.cells #[.slice ua ul uc] 26)).alloc (.cells #[.slice va vl vc] 26)).alloc (.cells #[.slice xa xl xc] 26)).alloc (.cells #[.slice none 0 0] 26) = W := ⟨_, rfl⟩
  rw [hW0] at hP
  have hW0H := Lib.hid hW0
  obtain ⟨ma, ml, mc, mb, mn⟩ := hP.out.vm
  have hM := Modulus_N mn (Nat.le_trans hmB (by decide))
  rw [show modE m = 0 from by unfold modE; rw [if_neg hm0, if_neg (by omega)]] at hM
  have hMH := Lib.hid hM
  have y0 := mb.cell
  have hm1 : onDiv m (1 % m) = powL a e m 0 := by unfold onDiv; rw [if_neg hm0, powL_zero]
  have hm2 : onDiv m (a % m) = sqL a m 0 := by unfold onDiv; rw [if_neg hm0, sqL_zero]
  clear hu hv hx hW0 mb mn hM
  go_enter Tryd.func23, Tryd.ntmps23
  go_upto_region 1 with (fail)
  rw [hW0H.out]
  clear hW0H
  go_upto_region 4 with (go_at_call 44; refine hMH.out.mono ?_; rintro e w2 ⟨rfl, hb2⟩; replace hP := Lib.hid (hP.out.below hb2); clear hb2 y0 hMH)
  go_cut [9, 10] from 18 to 23 (fun s9 s10 wx => ∃ g h : Nat, s9 = .pointer (some ⟨g, 0, none⟩) ∧ s10 = .pointer (some ⟨h, 0, none⟩) ∧ Hid (PwI w wx a e m g h (powL a e m 0) (sqL a m 0)))
  case first =>
    have hbd : Below w2.heap.size w2 w2.drew := (Below.refl _ _).drew
    replace hP := Lib.hid (hP.out.below hbd)
    clear hbd
    refine Rt.wp_region_tree [2, 1, 2, 1, 1, 2, 2, 2, 3, 3] (.op 1 (.op 3 (.op 4 (.three 0 (.three 2 (.three 5 (.two 6 (.op 7 (.op 8 (.op 9 .fin))) 7 (.op 6 (.op 8 (.op 9 .fin)))) 6 (.two 5 (.op 7 (.op 8 (.op 9 .fin))) 7 (.op 5 (.op 8 (.op 9 .fin)))) 7 (.two 5 (.op 6 (.op 8 (.op 9 .fin))) 6 (.op 5 (.op 8 (.op 9 .fin))))) 6 (.two 2 (.two 5 (.op 7 (.op 8 (.op 9 .fin))) 7 (.op 5 (.op 8 (.op 9 .fin)))) 7 (.op 2 (.op 5 (.op 8 (.op 9 .fin))))) 7 (.two 2 (.two 5 (.op 6 (.op 8 (.op 9 .fin))) 6 (.op 5 (.op 8 (.op 9 .fin)))) 6 (.op 2 (.op 5 (.op 8 (.op 9 .fin)))))) 6 (.two 0 (.two 2 (.two 5 (.op 7 (.op 8 (.op 9 .fin))) 7 (.op 5 (.op 8 (.op 9 .fin)))) 7 (.op 2 (.op 5 (.op 8 (.op 9 .fin))))) 7 (.op 0 (.op 2 (.op 5 (.op 8 (.op 9 .fin)))))) 7 (.two 0 (.two 2 (.two 5 (.op 6 (.op 8 (.op 9 .fin))) 6 (.op 5 (.op 8 (.op 9 .fin)))) 6 (.op 2 (.op 5 (.op 8 (.op 9 .fin))))) 6 (.op 0 (.op 2 (.op 5 (.op 8 (.op 9 .fin)))))))))) (by kernel_rfl) (by kernel_rfl) ?_
    obtain ⟨x0, hx0⟩ : ∃ W, w2.drew = W := ⟨_, rfl⟩
    rw [hx0] at hP ⊢
    clear hx0
    obtain ⟨aa, al, ac, ab, an⟩ := hP.out.va
    obtain ⟨ma, ml, mc, mb, mn⟩ := hP.out.vm
    have nA := Lib.hid an
    have nM := Lib.hid mn
    have z0 := ab.cell
    have z1 := mb.cell
    clear ab an mb mn
    refine Rt.tree_op ?_
    apply ord_read rfl rfl rfl; (· (intro W hW; have g0 := cell_up hW z0; have g1 := cell_up hW z1; go_simp; with_reducible rfl)); (· (simp only [Act.put, Act.eval, List.setIfInBounds_toArray, List.set_cons_zero, List.set_cons_succ, Array.getD_eq_getD_getElem?, List.getElem?_toArray, List.getElem?_cons_zero, List.getElem?_cons_succ, Option.getD_some, List.getElem_toArray, List.getElem_cons_succ, List.getElem_cons_zero]; with_reducible rfl))
    refine Rt.ord_nil ?_
    refine Rt.tree_op ?_
    apply ord_read rfl rfl rfl; (· (intro W hW; have g0 := cell_up hW z0; have g1 := cell_up hW z1; go_simp; with_reducible rfl)); (· (simp only [Act.put, Act.eval, List.setIfInBounds_toArray, List.set_cons_zero, List.set_cons_succ, Array.getD_eq_getD_getElem?, List.getElem?_toArray, List.getElem?_cons_zero, List.getElem?_cons_succ, Option.getD_some, List.getElem_toArray, List.getElem_cons_succ, List.getElem_cons_zero]; with_reducible rfl))
    refine Rt.ord_nil ?_
    refine Rt.tree_op ?_
    apply ord_read rfl rfl rfl; (· (intro W hW; have g0 := cell_up hW z0; have g1 := cell_up hW z1; go_simp; with_reducible rfl)); (· (simp only [Act.put, Act.eval, List.setIfInBounds_toArray, List.set_cons_zero, List.set_cons_succ, Array.getD_eq_getD_getElem?, List.getElem?_toArray, List.getElem?_cons_zero, List.getElem?_cons_succ, Option.getD_some, List.getElem_toArray, List.getElem_cons_succ, List.getElem_cons_zero]; with_reducible rfl))
    refine Rt.ord_nil ?_
    refine Rt.tree_three ?_ ?_ ?_
    · refine ord_call rfl rfl rfl (by go_simp; exact ⟨rfl, rfl⟩) ?_
      refine (Small_1 _).mono ?_
      rintro e x1 ⟨v0, rfl, n0, hb⟩
      obtain ⟨v0a, v0l, v0c, rfl⟩ := n0.shape
      refine ⟨_, rfl, hb, ?_⟩
      replace n0 := Lib.hid n0
      (try replace n2 := Lib.hid (n2.out.below hb))
      (try replace n5 := Lib.hid (n5.out.below hb))
      (try replace b6 := Lib.hid (b6.out.below hb))
      (try replace b7 := Lib.hid (b7.out.below hb))
      (try replace hP := Lib.hid (hP.out.below hb))
      (try replace nA := Lib.hid (nA.out.below hb))
      (try replace nM := Lib.hid (nM.out.below hb))
      (try replace nO := Lib.hid (nO.out.below hb))
      (try replace nX := Lib.hid (nX.out.below hb))
      (try replace n42 := Lib.hid (n42.out.below hb))
      clear hb
      simp only [Act.put, Act.eval, List.setIfInBounds_toArray, List.set_cons_zero, List.set_cons_succ, Array.getD_eq_getD_getElem?, List.getElem?_toArray, List.getElem?_cons_zero, List.getElem?_cons_succ, Option.getD_some, List.getElem_toArray, List.getElem_cons_succ, List.getElem_cons_zero]
      refine Rt.ord_nil ?_
      refine Rt.tree_three ?_ ?_ ?_
      · refine ord_call rfl rfl rfl (by go_simp; exact ⟨rfl, rfl⟩) ?_
        refine (mod_N n0.out nM.out (by decide) (Nat.le_trans hmB (by decide))).mono ?_
        rintro e x2 ⟨v2, rfl, n2, hb⟩
        obtain ⟨v2a, v2l, v2c, rfl⟩ := n2.shape
        refine ⟨_, rfl, hb, ?_⟩
        replace n2 := Lib.hid n2
        (try replace n0 := Lib.hid (n0.out.below hb))
        (try replace n5 := Lib.hid (n5.out.below hb))
        (try replace b6 := Lib.hid (b6.out.below hb))
        (try replace b7 := Lib.hid (b7.out.below hb))
        (try replace hP := Lib.hid (hP.out.below hb))
        (try replace nA := Lib.hid (nA.out.below hb))
        (try replace nM := Lib.hid (nM.out.below hb))
        (try replace nO := Lib.hid (nO.out.below hb))
        (try replace nX := Lib.hid (nX.out.below hb))
        (try replace n42 := Lib.hid (n42.out.below hb))
        clear hb
        simp only [Act.put, Act.eval, List.setIfInBounds_toArray, List.set_cons_zero, List.set_cons_succ, Array.getD_eq_getD_getElem?, List.getElem?_toArray, List.getElem?_cons_zero, List.getElem?_cons_succ, Option.getD_some, List.getElem_toArray, List.getElem_cons_succ, List.getElem_cons_zero]
        refine Rt.ord_nil ?_
        refine Rt.tree_three ?_ ?_ ?_
        · refine ord_call rfl rfl rfl (by go_simp; exact ⟨rfl, rfl⟩) ?_
          refine (mod_N nA.out nM.out haB (Nat.le_trans hmB (by decide))).mono ?_
          rintro e x3 ⟨v5, rfl, n5, hb⟩
          obtain ⟨v5a, v5l, v5c, rfl⟩ := n5.shape
          refine ⟨_, rfl, hb, ?_⟩
          replace n5 := Lib.hid n5
          (try replace n0 := Lib.hid (n0.out.below hb))
          (try replace n2 := Lib.hid (n2.out.below hb))
          (try replace b6 := Lib.hid (b6.out.below hb))
          (try replace b7 := Lib.hid (b7.out.below hb))
          (try replace hP := Lib.hid (hP.out.below hb))
          (try replace nA := Lib.hid (nA.out.below hb))
          (try replace nM := Lib.hid (nM.out.below hb))
          (try replace nO := Lib.hid (nO.out.below hb))
          (try replace nX := Lib.hid (nX.out.below hb))
          (try replace n42 := Lib.hid (n42.out.below hb))
          clear hb
          simp only [Act.put, Act.eval, List.setIfInBounds_toArray, List.set_cons_zero, List.set_cons_succ, Array.getD_eq_getD_getElem?, List.getElem?_toArray, List.getElem?_cons_zero, List.getElem?_cons_succ, Option.getD_some, List.getElem_toArray, List.getElem_cons_succ, List.getElem_cons_zero]
          refine Rt.ord_nil ?_
          refine Rt.tree_two ?_ ?_
          · apply ord_new rfl rfl rfl; (· (go_simp; exact ⟨rfl, rfl⟩)); (· (exact (Below.refl _ _).alloc (Nat.le_refl _) _)); (· (simp only [Act.put, Act.eval, List.setIfInBounds_toArray, List.set_cons_zero, List.set_cons_succ, Array.getD_eq_getD_getElem?, List.getElem?_toArray, List.getElem?_cons_zero, List.getElem?_cons_succ, Option.getD_some, List.getElem_toArray, List.getElem_cons_succ, List.getElem_cons_zero]; with_reducible rfl))
            have b6x := Var.made (NumAt.zero x3)
            have hb : Below x3.heap.size x3 (x3.alloc (.cells #[.slice none 0 0] 26)) := (Below.refl _ _).alloc (Nat.le_refl _) _
            have hlo6 : w.heap.size + 4 ≤ x3.heap.size := hP.out.size
            (try have hne := Nat.ne_of_lt b7.out.lt)
            obtain ⟨x4, hx4⟩ : ∃ W, x3.alloc (.cells #[.slice none 0 0] 26) = W := ⟨_, rfl⟩
            rw [hx4] at b6x hb ⊢
            (try replace n0 := Lib.hid (n0.out.below hb))
            (try replace n2 := Lib.hid (n2.out.below hb))
            (try replace n5 := Lib.hid (n5.out.below hb))
            (try replace b7 := Lib.hid (b7.out.below hb))
            (try replace hP := Lib.hid (hP.out.below hb))
            (try replace nA := Lib.hid (nA.out.below hb))
            (try replace nM := Lib.hid (nM.out.below hb))
            (try replace nO := Lib.hid (nO.out.below hb))
            (try replace nX := Lib.hid (nX.out.below hb))
            (try replace n42 := Lib.hid (n42.out.below hb))
            clear hb
            obtain ⟨g6, hg6⟩ : ∃ g, x3.heap.size = g := ⟨_, rfl⟩
            rw [hg6] at b6x hlo6 ⊢
            (try rw [hg6] at hne)
            have b6 := Lib.hid b6x
            clear b6x hx4 hg6
            refine Rt.ord_nil ?_
            refine Rt.tree_op ?_
            apply ord_new rfl rfl rfl; (· (go_simp; exact ⟨rfl, rfl⟩)); (· (exact (Below.refl _ _).alloc (Nat.le_refl _) _)); (· (simp only [Act.put, Act.eval, List.setIfInBounds_toArray, List.set_cons_zero, List.set_cons_succ, Array.getD_eq_getD_getElem?, List.getElem?_toArray, List.getElem?_cons_zero, List.getElem?_cons_succ, Option.getD_some, List.getElem_toArray, List.getElem_cons_succ, List.getElem_cons_zero]; with_reducible rfl))
            have b7x := Var.made (NumAt.zero x4)
            have hb : Below x4.heap.size x4 (x4.alloc (.cells #[.slice none 0 0] 26)) := (Below.refl _ _).alloc (Nat.le_refl _) _
            have hlo7 : w.heap.size + 4 ≤ x4.heap.size := hP.out.size
            (try have hne := Nat.ne_of_lt b6.out.lt)
            obtain ⟨x5, hx5⟩ : ∃ W, x4.alloc (.cells #[.slice none 0 0] 26) = W := ⟨_, rfl⟩
            rw [hx5] at b7x hb ⊢
            (try replace n0 := Lib.hid (n0.out.below hb))
            (try replace n2 := Lib.hid (n2.out.below hb))
            (try replace n5 := Lib.hid (n5.out.below hb))
            (try replace b6 := Lib.hid (b6.out.below hb))
            (try replace hP := Lib.hid (hP.out.below hb))
            (try replace nA := Lib.hid (nA.out.below hb))
            (try replace nM := Lib.hid (nM.out.below hb))
            (try replace nO := Lib.hid (nO.out.below hb))
            (try replace nX := Lib.hid (nX.out.below hb))
            (try replace n42 := Lib.hid (n42.out.below hb))
            clear hb
            obtain ⟨g7, hg7⟩ : ∃ g, x4.heap.size = g := ⟨_, rfl⟩
            rw [hg7] at b7x hlo7 ⊢
            (try rw [hg7] at hne)
            have b7 := Lib.hid b7x
            clear b7x hx5 hg7
            refine Rt.ord_nil ?_
            refine Rt.tree_op ?_
            obtain ⟨qa, ql, qc, qb, qn⟩ := b6.out
            have cc := qb.cell
            have ff := qb.frozen
            clear qb qn
            apply ord_do rfl rfl rfl; (· (go_simp; with_reducible rfl)); (· (simp only [Act.put, Act.eval, List.setIfInBounds_toArray, List.set_cons_zero, List.set_cons_succ, Array.getD_eq_getD_getElem?, List.getElem?_toArray, List.getElem?_cons_zero, List.getElem?_cons_succ, Option.getD_some, List.getElem_toArray, List.getElem_cons_succ, List.getElem_cons_zero]; with_reducible rfl))
            clear cc ff
            have b6' := Lib.hid (b6.out.put n2.out)
            have b7' := Lib.hid (b7.out.other b6.out (by first | exact hne | exact hne.symm) (.slice v2a v2l v2c))
            have n5' := Lib.hid (n5.out.otherV b6.out (.slice v2a v2l v2c))
            have hP' := Lib.hid (hP.out.put hlo6 b6.out (.slice v2a v2l v2c))
            clear b6 b7 n5 hP
            obtain ⟨x6, hx6⟩ : ∃ W, x5.setCell ⟨g6, 0, none⟩ (.slice v2a v2l v2c) = W := ⟨_, rfl⟩
            rw [hx6] at b6' b7' n5' hP' ⊢
            have b6 := b6'
            have b7 := b7'
            have n5 := n5'
            have hP := hP'
            clear b6' b7' n5' hP' hx6
            refine Rt.ord_nil ?_
            refine Rt.tree_op ?_
            obtain ⟨qa, ql, qc, qb, qn⟩ := b7.out
            have cc := qb.cell
            have ff := qb.frozen
            clear qb qn
            apply ord_do rfl rfl rfl; (· (go_simp; with_reducible rfl)); (· (simp only [Act.put, Act.eval, List.setIfInBounds_toArray, List.set_cons_zero, List.set_cons_succ, Array.getD_eq_getD_getElem?, List.getElem?_toArray, List.getElem?_cons_zero, List.getElem?_cons_succ, Option.getD_some, List.getElem_toArray, List.getElem_cons_succ, List.getElem_cons_zero]; with_reducible rfl))
            clear cc ff
            have b6' := Lib.hid (b6.out.other b7.out (by first | exact hne | exact hne.symm) (.slice v5a v5l v5c))
            have b7' := Lib.hid (b7.out.put n5.out)
            have hP' := Lib.hid (hP.out.put hlo7 b7.out (.slice v5a v5l v5c))
            refine Rt.ord_nil ?_
            refine Rt.tree_fin ?_
            go_wp2_with fail
            go_meet
            case rel => exact ⟨g6, g7, rfl, rfl, Lib.hid ⟨hP'.out, by have h := b6'.out; rw [hm1] at h; exact h, by have h := b7'.out; rw [hm2] at h; exact h, by first | exact hne | exact hne.symm, hlo6, hlo7⟩⟩
          · apply ord_new rfl rfl rfl; (· (go_simp; exact ⟨rfl, rfl⟩)); (· (exact (Below.refl _ _).alloc (Nat.le_refl _) _)); (· (simp only [Act.put, Act.eval, List.setIfInBounds_toArray, List.set_cons_zero, List.set_cons_succ, Array.getD_eq_getD_getElem?, List.getElem?_toArray, List.getElem?_cons_zero, List.getElem?_cons_succ, Option.getD_some, List.getElem_toArray, List.getElem_cons_succ, List.getElem_cons_zero]; with_reducible rfl))
            have b7x := Var.made (NumAt.zero x3)
            have hb : Below x3.heap.size x3 (x3.alloc (.cells #[.slice none 0 0] 26)) := (Below.refl _ _).alloc (Nat.le_refl _) _
            have hlo7 : w.heap.size + 4 ≤ x3.heap.size := hP.out.size
            (try have hne := Nat.ne_of_lt b6.out.lt)
            obtain ⟨x4, hx4⟩ : ∃ W, x3.alloc (.cells #[.slice none 0 0] 26) = W := ⟨_, rfl⟩
            rw [hx4] at b7x hb ⊢
            (try replace n0 := Lib.hid (n0.out.below hb))
            (try replace n2 := Lib.hid (n2.out.below hb))
            (try replace n5 := Lib.hid (n5.out.below hb))
            (try replace b6 := Lib.hid (b6.out.below hb))
            (try replace hP := Lib.hid (hP.out.below hb))
            (try replace nA := Lib.hid (nA.out.below hb))
            (try replace nM := Lib.hid (nM.out.below hb))
            (try replace nO := Lib.hid (nO.out.below hb))
            (try replace nX := Lib.hid (nX.out.below hb))
            (try replace n42 := Lib.hid (n42.out.below hb))
            clear hb
            obtain ⟨g7, hg7⟩ : ∃ g, x3.heap.size = g := ⟨_, rfl⟩
            rw [hg7] at b7x hlo7 ⊢
            (try rw [hg7] at hne)
            have b7 := Lib.hid b7x
            clear b7x hx4 hg7
            refine Rt.ord_nil ?_
            refine Rt.tree_op ?_
            apply ord_new rfl rfl rfl; (· (go_simp; exact ⟨rfl, rfl⟩)); (· (exact (Below.refl _ _).alloc (Nat.le_refl _) _)); (· (simp only [Act.put, Act.eval, List.setIfInBounds_toArray, List.set_cons_zero, List.set_cons_succ, Array.getD_eq_getD_getElem?, List.getElem?_toArray, List.getElem?_cons_zero, List.getElem?_cons_succ, Option.getD_some, List.getElem_toArray, List.getElem_cons_succ, List.getElem_cons_zero]; with_reducible rfl))
            have b6x := Var.made (NumAt.zero x4)
            have hb : Below x4.heap.size x4 (x4.alloc (.cells #[.slice none 0 0] 26)) := (Below.refl _ _).alloc (Nat.le_refl _) _
            have hlo6 : w.heap.size + 4 ≤ x4.heap.size := hP.out.size
            (try have hne := Nat.ne_of_lt b7.out.lt)
            obtain ⟨x5, hx5⟩ : ∃ W, x4.alloc (.cells #[.slice none 0 0] 26) = W := ⟨_, rfl⟩
            rw [hx5] at b6x hb ⊢
            (try replace n0 := Lib.hid (n0.out.below hb))
            (try replace n2 := Lib.hid (n2.out.below hb))
            (try replace n5 := Lib.hid (n5.out.below hb))
            (try replace b7 := Lib.hid (b7.out.below hb))
            (try replace hP := Lib.hid (hP.out.below hb))
            (try replace nA := Lib.hid (nA.out.below hb))
            (try replace nM := Lib.hid (nM.out.below hb))
            (try replace nO := Lib.hid (nO.out.below hb))
            (try replace nX := Lib.hid (nX.out.below hb))
            (try replace n42 := Lib.hid (n42.out.below hb))
            clear hb
            obtain ⟨g6, hg6⟩ : ∃ g, x4.heap.size = g := ⟨_, rfl⟩
            rw [hg6] at b6x hlo6 ⊢
            (try rw [hg6] at hne)
            have b6 := Lib.hid b6x
            clear b6x hx5 hg6
            refine Rt.ord_nil ?_
            refine Rt.tree_op ?_
            obtain ⟨qa, ql, qc, qb, qn⟩ := b6.out
            have cc := qb.cell
            have ff := qb.frozen
            clear qb qn
            apply ord_do rfl rfl rfl; (· (go_simp; with_reducible rfl)); (· (simp only [Act.put, Act.eval, List.setIfInBounds_toArray, List.set_cons_zero, List.set_cons_succ, Array.getD_eq_getD_getElem?, List.getElem?_toArray, List.getElem?_cons_zero, List.getElem?_cons_succ, Option.getD_some, List.getElem_toArray, List.getElem_cons_succ, List.getElem_cons_zero]; with_reducible rfl))
            clear cc ff
            have b6' := Lib.hid (b6.out.put n2.out)
            have b7' := Lib.hid (b7.out.other b6.out (by first | exact hne | exact hne.symm) (.slice v2a v2l v2c))
            have n5' := Lib.hid (n5.out.otherV b6.out (.slice v2a v2l v2c))
            have hP' := Lib.hid (hP.out.put hlo6 b6.out (.slice v2a v2l v2c))
            clear b6 b7 n5 hP
            obtain ⟨x6, hx6⟩ : ∃ W, x5.setCell ⟨g6, 0, none⟩ (.slice v2a v2l v2c) = W := ⟨_, rfl⟩
            rw [hx6] at b6' b7' n5' hP' ⊢
            have b6 := b6'
            have b7 := b7'
            have n5 := n5'
            have hP := hP'
            clear b6' b7' n5' hP' hx6
            refine Rt.ord_nil ?_
            refine Rt.tree_op ?_
            obtain ⟨qa, ql, qc, qb, qn⟩ := b7.out
            have cc := qb.cell
            have ff := qb.frozen
            clear qb qn
            apply ord_do rfl rfl rfl; (· (go_simp; with_reducible rfl)); (· (simp only [Act.put, Act.eval, List.setIfInBounds_toArray, List.set_cons_zero, List.set_cons_succ, Array.getD_eq_getD_getElem?, List.getElem?_toArray, List.getElem?_cons_zero, List.getElem?_cons_succ, Option.getD_some, List.getElem_toArray, List.getElem_cons_succ, List.getElem_cons_zero]; with_reducible rfl))
            clear cc ff
            have b6' := Lib.hid (b6.out.other b7.out (by first | exact hne | exact hne.symm) (.slice v5a v5l v5c))
            have b7' := Lib.hid (b7.out.put n5.out)
            have hP' := Lib.hid (hP.out.put hlo7 b7.out (.slice v5a v5l v5c))
            refine Rt.ord_nil ?_
            refine Rt.tree_fin ?_
            go_wp2_with fail
            go_meet
            case rel => exact ⟨g6, g7, rfl, rfl, Lib.hid ⟨hP'.out, by have h := b6'.out; rw [hm1] at h; exact h, by have h := b7'.out; rw [hm2] at h; exact h, by first | exact hne | exact hne.symm, hlo6, hlo7⟩⟩
        · apply ord_new rfl rfl rfl; (· (go_simp; exact ⟨rfl, rfl⟩)); (· (exact (Below.refl _ _).alloc (Nat.le_refl _) _)); (· (simp only [Act.put, Act.eval, List.setIfInBounds_toArray, List.set_cons_zero, List.set_cons_succ, Array.getD_eq_getD_getElem?, List.getElem?_toArray, List.getElem?_cons_zero, List.getElem?_cons_succ, Option.getD_some, List.getElem_toArray, List.getElem_cons_succ, List.getElem_cons_zero]; with_reducible rfl))
          have b6x := Var.made (NumAt.zero x2)
          have hb : Below x2.heap.size x2 (x2.alloc (.cells #[.slice none 0 0] 26)) := (Below.refl _ _).alloc (Nat.le_refl _) _
          have hlo6 : w.heap.size + 4 ≤ x2.heap.size := hP.out.size
          (try have hne := Nat.ne_of_lt b7.out.lt)
          obtain ⟨x3, hx3⟩ : ∃ W, x2.alloc (.cells #[.slice none 0 0] 26) = W := ⟨_, rfl⟩
          rw [hx3] at b6x hb ⊢
          (try replace n0 := Lib.hid (n0.out.below hb))
          (try replace n2 := Lib.hid (n2.out.below hb))
          (try replace n5 := Lib.hid (n5.out.below hb))
          (try replace b7 := Lib.hid (b7.out.below hb))
          (try replace hP := Lib.hid (hP.out.below hb))
          (try replace nA := Lib.hid (nA.out.below hb))
          (try replace nM := Lib.hid (nM.out.below hb))
          (try replace nO := Lib.hid (nO.out.below hb))
          (try replace nX := Lib.hid (nX.out.below hb))
          (try replace n42 := Lib.hid (n42.out.below hb))
          clear hb
          obtain ⟨g6, hg6⟩ : ∃ g, x2.heap.size = g := ⟨_, rfl⟩
          rw [hg6] at b6x hlo6 ⊢
          (try rw [hg6] at hne)
          have b6 := Lib.hid b6x
          clear b6x hx3 hg6
          refine Rt.ord_nil ?_
          refine Rt.tree_two ?_ ?_
          · refine ord_call rfl rfl rfl (by go_simp; exact ⟨rfl, rfl⟩) ?_
            refine (mod_N nA.out nM.out haB (Nat.le_trans hmB (by decide))).mono ?_
            rintro e x4 ⟨v5, rfl, n5, hb⟩
            obtain ⟨v5a, v5l, v5c, rfl⟩ := n5.shape
            refine ⟨_, rfl, hb, ?_⟩
            replace n5 := Lib.hid n5
            (try replace n0 := Lib.hid (n0.out.below hb))
            (try replace n2 := Lib.hid (n2.out.below hb))
            (try replace b6 := Lib.hid (b6.out.below hb))
            (try replace b7 := Lib.hid (b7.out.below hb))
            (try replace hP := Lib.hid (hP.out.below hb))
            (try replace nA := Lib.hid (nA.out.below hb))
            (try replace nM := Lib.hid (nM.out.below hb))
            (try replace nO := Lib.hid (nO.out.below hb))
            (try replace nX := Lib.hid (nX.out.below hb))
            (try replace n42 := Lib.hid (n42.out.below hb))
            clear hb
            simp only [Act.put, Act.eval, List.setIfInBounds_toArray, List.set_cons_zero, List.set_cons_succ, Array.getD_eq_getD_getElem?, List.getElem?_toArray, List.getElem?_cons_zero, List.getElem?_cons_succ, Option.getD_some, List.getElem_toArray, List.getElem_cons_succ, List.getElem_cons_zero]
            refine Rt.ord_nil ?_
            refine Rt.tree_op ?_
            apply ord_new rfl rfl rfl; (· (go_simp; exact ⟨rfl, rfl⟩)); (· (exact (Below.refl _ _).alloc (Nat.le_refl _) _)); (· (simp only [Act.put, Act.eval, List.setIfInBounds_toArray, List.set_cons_zero, List.set_cons_succ, Array.getD_eq_getD_getElem?, List.getElem?_toArray, List.getElem?_cons_zero, List.getElem?_cons_succ, Option.getD_some, List.getElem_toArray, List.getElem_cons_succ, List.getElem_cons_zero]; with_reducible rfl))
            have b7x := Var.made (NumAt.zero x4)
            have hb : Below x4.heap.size x4 (x4.alloc (.cells #[.slice none 0 0] 26)) := (Below.refl _ _).alloc (Nat.le_refl _) _
            have hlo7 : w.heap.size + 4 ≤ x4.heap.size := hP.out.size
            (try have hne := Nat.ne_of_lt b6.out.lt)
            obtain ⟨x5, hx5⟩ : ∃ W, x4.alloc (.cells #[.slice none 0 0] 26) = W := ⟨_, rfl⟩
            rw [hx5] at b7x hb ⊢
            (try replace n0 := Lib.hid (n0.out.below hb))
            (try replace n2 := Lib.hid (n2.out.below hb))
            (try replace n5 := Lib.hid (n5.out.below hb))
            (try replace b6 := Lib.hid (b6.out.below hb))
            (try replace hP := Lib.hid (hP.out.below hb))
            (try replace nA := Lib.hid (nA.out.below hb))
            (try replace nM := Lib.hid (nM.out.below hb))
            (try replace nO := Lib.hid (nO.out.below hb))
            (try replace nX := Lib.hid (nX.out.below hb))
            (try replace n42 := Lib.hid (n42.out.below hb))
            clear hb
            obtain ⟨g7, hg7⟩ : ∃ g, x4.heap.size = g := ⟨_, rfl⟩
            rw [hg7] at b7x hlo7 ⊢
            (try rw [hg7] at hne)
            have b7 := Lib.hid b7x
            clear b7x hx5 hg7
            refine Rt.ord_nil ?_
            refine Rt.tree_op ?_
            obtain ⟨qa, ql, qc, qb, qn⟩ := b6.out
            have cc := qb.cell
            have ff := qb.frozen
            clear qb qn
            apply ord_do rfl rfl rfl; (· (go_simp; with_reducible rfl)); (· (simp only [Act.put, Act.eval, List.setIfInBounds_toArray, List.set_cons_zero, List.set_cons_succ, Array.getD_eq_getD_getElem?, List.getElem?_toArray, List.getElem?_cons_zero, List.getElem?_cons_succ, Option.getD_some, List.getElem_toArray, List.getElem_cons_succ, List.getElem_cons_zero]; with_reducible rfl))
            clear cc ff
            have b6' := Lib.hid (b6.out.put n2.out)
            have b7' := Lib.hid (b7.out.other b6.out (by first | exact hne | exact hne.symm) (.slice v2a v2l v2c))
            have n5' := Lib.hid (n5.out.otherV b6.out (.slice v2a v2l v2c))
            have hP' := Lib.hid (hP.out.put hlo6 b6.out (.slice v2a v2l v2c))
            clear b6 b7 n5 hP
            obtain ⟨x6, hx6⟩ : ∃ W, x5.setCell ⟨g6, 0, none⟩ (.slice v2a v2l v2c) = W := ⟨_, rfl⟩
            rw [hx6] at b6' b7' n5' hP' ⊢
            have b6 := b6'
            have b7 := b7'
            have n5 := n5'
            have hP := hP'
            clear b6' b7' n5' hP' hx6
            refine Rt.ord_nil ?_
            refine Rt.tree_op ?_
            obtain ⟨qa, ql, qc, qb, qn⟩ := b7.out
            have cc := qb.cell
            have ff := qb.frozen
            clear qb qn
            apply ord_do rfl rfl rfl; (· (go_simp; with_reducible rfl)); (· (simp only [Act.put, Act.eval, List.setIfInBounds_toArray, List.set_cons_zero, List.set_cons_succ, Array.getD_eq_getD_getElem?, List.getElem?_toArray, List.getElem?_cons_zero, List.getElem?_cons_succ, Option.getD_some, List.getElem_toArray, List.getElem_cons_succ, List.getElem_cons_zero]; with_reducible rfl))
            clear cc ff
            have b6' := Lib.hid (b6.out.other b7.out (by first | exact hne | exact hne.symm) (.slice v5a v5l v5c))
            have b7' := Lib.hid (b7.out.put n5.out)
            have hP' := Lib.hid (hP.out.put hlo7 b7.out (.slice v5a v5l v5c))
            refine Rt.ord_nil ?_
            refine Rt.tree_fin ?_
            go_wp2_with fail
            go_meet
            case rel => exact ⟨g6, g7, rfl, rfl, Lib.hid ⟨hP'.out, by have h := b6'.out; rw [hm1] at h; exact h, by have h := b7'.out; rw [hm2] at h; exact h, by first | exact hne | exact hne.symm, hlo6, hlo7⟩⟩
          · apply ord_new rfl rfl rfl; (· (go_simp; exact ⟨rfl, rfl⟩)); (· (exact (Below.refl _ _).alloc (Nat.le_refl _) _)); (· (simp only [Act.put, Act.eval, List.setIfInBounds_toArray, List.set_cons_zero, List.set_cons_succ, Array.getD_eq_getD_getElem?, List.getElem?_toArray, List.getElem?_cons_zero, List.getElem?_cons_succ, Option.getD_some, List.getElem_toArray, List.getElem_cons_succ, List.getElem_cons_zero]; with_reducible rfl))
            have b7x := Var.made (NumAt.zero x3)
            have hb : Below x3.heap.size x3 (x3.alloc (.cells #[.slice none 0 0] 26)) := (Below.refl _ _).alloc (Nat.le_refl _) _
            have hlo7 : w.heap.size + 4 ≤ x3.heap.size := hP.out.size
            (try have hne := Nat.ne_of_lt b6.out.lt)
            obtain ⟨x4, hx4⟩ : ∃ W, x3.alloc (.cells #[.slice none 0 0] 26) = W := ⟨_, rfl⟩
            rw [hx4] at b7x hb ⊢
            (try replace n0 := Lib.hid (n0.out.below hb))
            (try replace n2 := Lib.hid (n2.out.below hb))
            (try replace n5 := Lib.hid (n5.out.below hb))
            (try replace b6 := Lib.hid (b6.out.below hb))
            (try replace hP := Lib.hid (hP.out.below hb))
            (try replace nA := Lib.hid (nA.out.below hb))
            (try replace nM := Lib.hid (nM.out.below hb))
            (try replace nO := Lib.hid (nO.out.below hb))
            (try replace nX := Lib.hid (nX.out.below hb))
            (try replace n42 := Lib.hid (n42.out.below hb))
            clear hb
            obtain ⟨g7, hg7⟩ : ∃ g, x3.heap.size = g := ⟨_, rfl⟩
            rw [hg7] at b7x hlo7 ⊢
            (try rw [hg7] at hne)
            have b7 := Lib.hid b7x
            clear b7x hx4 hg7
            refine Rt.ord_nil ?_
            refine Rt.tree_op ?_
            refine ord_call rfl rfl rfl (by go_simp; exact ⟨rfl, rfl⟩) ?_
            refine (mod_N nA.out nM.out haB (Nat.le_trans hmB (by decide))).mono ?_
            rintro e x5 ⟨v5, rfl, n5, hb⟩
            obtain ⟨v5a, v5l, v5c, rfl⟩ := n5.shape
            refine ⟨_, rfl, hb, ?_⟩
            replace n5 := Lib.hid n5
            (try replace n0 := Lib.hid (n0.out.below hb))
            (try replace n2 := Lib.hid (n2.out.below hb))
            (try replace b6 := Lib.hid (b6.out.below hb))
            (try replace b7 := Lib.hid (b7.out.below hb))
            (try replace hP := Lib.hid (hP.out.below hb))
            (try replace nA := Lib.hid (nA.out.below hb))
            (try replace nM := Lib.hid (nM.out.below hb))
            (try replace nO := Lib.hid (nO.out.below hb))
            (try replace nX := Lib.hid (nX.out.below hb))
            (try replace n42 := Lib.hid (n42.out.below hb))
            clear hb
            simp only [Act.put, Act.eval, List.setIfInBounds_toArray, List.set_cons_zero, List.set_cons_succ, Array.getD_eq_getD_getElem?, List.getElem?_toArray, List.getElem?_cons_zero, List.getElem?_cons_succ, Option.getD_some, List.getElem_toArray, List.getElem_cons_succ, List.getElem_cons_zero]
            refine Rt.ord_nil ?_
            refine Rt.tree_op ?_
            obtain ⟨qa, ql, qc, qb, qn⟩ := b6.out
            have cc := qb.cell
            have ff := qb.frozen
            clear qb qn
            apply ord_do rfl rfl rfl; (· (go_simp; with_reducible rfl)); (· (simp only [Act.put, Act.eval, List.setIfInBounds_toArray, List.set_cons_zero, List.set_cons_succ, Array.getD_eq_getD_getElem?, List.getElem?_toArray, List.getElem?_cons_zero, List.getElem?_cons_succ, Option.getD_some, List.getElem_toArray, List.getElem_cons_succ, List.getElem_cons_zero]; with_reducible rfl))
            clear cc ff
            have b6' := Lib.hid (b6.out.put n2.out)
            have b7' := Lib.hid (b7.out.other b6.out (by first | exact hne | exact hne.symm) (.slice v2a v2l v2c))
            have n5' := Lib.hid (n5.out.otherV b6.out (.slice v2a v2l v2c))
            have hP' := Lib.hid (hP.out.put hlo6 b6.out (.slice v2a v2l v2c))
            clear b6 b7 n5 hP
            obtain ⟨x6, hx6⟩ : ∃ W, x5.setCell ⟨g6, 0, none⟩ (.slice v2a v2l v2c) = W := ⟨_, rfl⟩
            rw [hx6] at b6' b7' n5' hP' ⊢
            have b6 := b6'
            have b7 := b7'
            have n5 := n5'
            have hP := hP'
            clear b6' b7' n5' hP' hx6
            refine Rt.ord_nil ?_
            refine Rt.tree_op ?_
            obtain ⟨qa, ql, qc, qb, qn⟩ := b7.out
            have cc := qb.cell
            have ff := qb.frozen
            clear qb qn
            apply ord_do rfl rfl rfl; (· (go_simp; with_reducible rfl)); (· (simp only [Act.put, Act.eval, List.setIfInBounds_toArray, List.set_cons_zero, List.set_cons_succ, Array.getD_eq_getD_getElem?, List.getElem?_toArray, List.getElem?_cons_zero, List.getElem?_cons_succ, Option.getD_some, List.getElem_toArray, List.getElem_cons_succ, List.getElem_cons_zero]; with_reducible rfl))
            clear cc ff
            have b6' := Lib.hid (b6.out.other b7.out (by first | exact hne | exact hne.symm) (.slice v5a v5l v5c))
            have b7' := Lib.hid (b7.out.put n5.out)
            have hP' := Lib.hid (hP.out.put hlo7 b7.out (.slice v5a v5l v5c))
            refine Rt.ord_nil ?_
            refine Rt.tree_fin ?_
            go_wp2_with fail
            go_meet
            case rel => exact ⟨g6, g7, rfl, rfl, Lib.hid ⟨hP'.out, by have h := b6'.out; rw [hm1] at h; exact h, by have h := b7'.out; rw [hm2] at h; exact h, by first | exact hne | exact hne.symm, hlo6, hlo7⟩⟩
        · apply ord_new rfl rfl rfl; (· (go_simp; exact ⟨rfl, rfl⟩)); (· (exact (Below.refl _ _).alloc (Nat.le_refl _) _)); (· (simp only [Act.put, Act.eval, List.setIfInBounds_toArray, List.set_cons_zero, List.set_cons_succ, Array.getD_eq_getD_getElem?, List.getElem?_toArray, List.getElem?_cons_zero, List.getElem?_cons_succ, Option.getD_some, List.getElem_toArray, List.getElem_cons_succ, List.getElem_cons_zero]; with_reducible rfl))
          have b7x := Var.made (NumAt.zero x2)
          have hb : Below x2.heap.size x2 (x2.alloc (.cells #[.slice none 0 0] 26)) := (Below.refl _ _).alloc (Nat.le_refl _) _
          have hlo7 : w.heap.size + 4 ≤ x2.heap.size := hP.out.size
          (try have hne := Nat.ne_of_lt b6.out.lt)
          obtain ⟨x3, hx3⟩ : ∃ W, x2.alloc (.cells #[.slice none 0 0] 26) = W := ⟨_, rfl⟩
          rw [hx3] at b7x hb ⊢
          (try replace n0 := Lib.hid (n0.out.below hb))
          (try replace n2 := Lib.hid (n2.out.below hb))
          (try replace n5 := Lib.hid (n5.out.below hb))
          (try replace b6 := Lib.hid (b6.out.below hb))
          (try replace hP := Lib.hid (hP.out.below hb))
          (try replace nA := Lib.hid (nA.out.below hb))
          (try replace nM := Lib.hid (nM.out.below hb))
          (try replace nO := Lib.hid (nO.out.below hb))
          (try replace nX := Lib.hid (nX.out.below hb))
          (try replace n42 := Lib.hid (n42.out.below hb))
          clear hb
          obtain ⟨g7, hg7⟩ : ∃ g, x2.heap.size = g := ⟨_, rfl⟩
          rw [hg7] at b7x hlo7 ⊢
          (try rw [hg7] at hne)
          have b7 := Lib.hid b7x
          clear b7x hx3 hg7
          refine Rt.ord_nil ?_
          refine Rt.tree_two ?_ ?_
          · refine ord_call rfl rfl rfl (by go_simp; exact ⟨rfl, rfl⟩) ?_
            refine (mod_N nA.out nM.out haB (Nat.le_trans hmB (by decide))).mono ?_
            rintro e x4 ⟨v5, rfl, n5, hb⟩
            obtain ⟨v5a, v5l, v5c, rfl⟩ := n5.shape
            refine ⟨_, rfl, hb, ?_⟩
            replace n5 := Lib.hid n5
            (try replace n0 := Lib.hid (n0.out.below hb))
            (try replace n2 := Lib.hid (n2.out.below hb))
            (try replace b6 := Lib.hid (b6.out.below hb))
            (try replace b7 := Lib.hid (b7.out.below hb))
            (try replace hP := Lib.hid (hP.out.below hb))
            (try replace nA := Lib.hid (nA.out.below hb))
            (try replace nM := Lib.hid (nM.out.below hb))
            (try replace nO := Lib.hid (nO.out.below hb))
            (try replace nX := Lib.hid (nX.out.below hb))
            (try replace n42 := Lib.hid (n42.out.below hb))
            clear hb
            simp only [Act.put, Act.eval, List.setIfInBounds_toArray, List.set_cons_zero, List.set_cons_succ, Array.getD_eq_getD_getElem?, List.getElem?_toArray, List.getElem?_cons_zero, List.getElem?_cons_succ, Option.getD_some, List.getElem_toArray, List.getElem_cons_succ, List.getElem_cons_zero]
            refine Rt.ord_nil ?_
            refine Rt.tree_op ?_
            apply ord_new rfl rfl rfl; (· (go_simp; exact ⟨rfl, rfl⟩)); (· (exact (Below.refl _ _).alloc (Nat.le_refl _) _)); (· (simp only [Act.put, Act.eval, List.setIfInBounds_toArray, List.set_cons_zero, List.set_cons_succ, Array.getD_eq_getD_getElem?, List.getElem?_toArray, List.getElem?_cons_zero, List.getElem?_cons_succ, Option.getD_some, List.getElem_toArray, List.getElem_cons_succ, List.getElem_cons_zero]; with_reducible rfl))
            have b6x := Var.made (NumAt.zero x4)
            have hb : Below x4.heap.size x4 (x4.alloc (.cells #[.slice none 0 0] 26)) := (Below.refl _ _).alloc (Nat.le_refl _) _
            have hlo6 : w.heap.size + 4 ≤ x4.heap.size := hP.out.size
            (try have hne := Nat.ne_of_lt b7.out.lt)
            obtain ⟨x5, hx5⟩ : ∃ W, x4.alloc (.cells #[.slice none 0 0] 26) = W := ⟨_, rfl⟩
            rw [hx5] at b6x hb ⊢
            (try replace n0 := Lib.hid (n0.out.below hb))
            (try replace n2 := Lib.hid (n2.out.below hb))
            (try replace n5 := Lib.hid (n5.out.below hb))
            (try replace b7 := Lib.hid (b7.out.below hb))
            (try replace hP := Lib.hid (hP.out.below hb))
            (try replace nA := Lib.hid (nA.out.below hb))
            (try replace nM := Lib.hid (nM.out.below hb))
            (try replace nO := Lib.hid (nO.out.below hb))
            (try replace nX := Lib.hid (nX.out.below hb))
            (try replace n42 := Lib.hid (n42.out.below hb))
            clear hb
            obtain ⟨g6, hg6⟩ : ∃ g, x4.heap.size = g := ⟨_, rfl⟩
            rw [hg6] at b6x hlo6 ⊢
            (try rw [hg6] at hne)
            have b6 := Lib.hid b6x
            clear b6x hx5 hg6
            refine Rt.ord_nil ?_
            refine Rt.tree_op ?_
            obtain ⟨qa, ql, qc, qb, qn⟩ := b6.out
            have cc := qb.cell
            have ff := qb.frozen
            clear qb qn
            apply ord_do rfl rfl rfl; (· (go_simp; with_reducible rfl)); (· (simp only [Act.put, Act.eval, List.setIfInBounds_toArray, List.set_cons_zero, List.set_cons_succ, Array.getD_eq_getD_getElem?, List.getElem?_toArray, List.getElem?_cons_zero, List.getElem?_cons_succ, Option.getD_some, List.getElem_toArray, List.getElem_cons_succ, List.getElem_cons_zero]; with_reducible rfl))
            clear cc ff
            have b6' := Lib.hid (b6.out.put n2.out)
            have b7' := Lib.hid (b7.out.other b6.out (by first | exact hne | exact hne.symm) (.slice v2a v2l v2c))
            have n5' := Lib.hid (n5.out.otherV b6.out (.slice v2a v2l v2c))
            have hP' := Lib.hid (hP.out.put hlo6 b6.out (.slice v2a v2l v2c))
            clear b6 b7 n5 hP
            obtain ⟨x6, hx6⟩ : ∃ W, x5.setCell ⟨g6, 0, none⟩ (.slice v2a v2l v2c) = W := ⟨_, rfl⟩
            rw [hx6] at b6' b7' n5' hP' ⊢
            have b6 := b6'
            have b7 := b7'
            have n5 := n5'
            have hP := hP'
            clear b6' b7' n5' hP' hx6
            refine Rt.ord_nil ?_
            refine Rt.tree_op ?_
            obtain ⟨qa, ql, qc, qb, qn⟩ := b7.out
            have cc := qb.cell
            have ff := qb.frozen
            clear qb qn
            apply ord_do rfl rfl rfl; (· (go_simp; with_reducible rfl)); (· (simp only [Act.put, Act.eval, List.setIfInBounds_toArray, List.set_cons_zero, List.set_cons_succ, Array.getD_eq_getD_getElem?, List.getElem?_toArray, List.getElem?_cons_zero, List.getElem?_cons_succ, Option.getD_some, List.getElem_toArray, List.getElem_cons_succ, List.getElem_cons_zero]; with_reducible rfl))
            clear cc ff
            have b6' := Lib.hid (b6.out.other b7.out (by first | exact hne | exact hne.symm) (.slice v5a v5l v5c))
            have b7' := Lib.hid (b7.out.put n5.out)
            have hP' := Lib.hid (hP.out.put hlo7 b7.out (.slice v5a v5l v5c))
            refine Rt.ord_nil ?_
            refine Rt.tree_fin ?_
            go_wp2_with fail
            go_meet
            case rel => exact ⟨g6, g7, rfl, rfl, Lib.hid ⟨hP'.out, by have h := b6'.out; rw [hm1] at h; exact h, by have h := b7'.out; rw [hm2] at h; exact h, by first | exact hne | exact hne.symm, hlo6, hlo7⟩⟩
          · apply ord_new rfl rfl rfl; (· (go_simp; exact ⟨rfl, rfl⟩)); (· (exact (Below.refl _ _).alloc (Nat.le_refl _) _)); (· (simp only [Act.put, Act.eval, List.setIfInBounds_toArray, List.set_cons_zero, List.set_cons_succ, Array.getD_eq_getD_getElem?, List.getElem?_toArray, List.getElem?_cons_zero, List.getElem?_cons_succ, Option.getD_some, List.getElem_toArray, List.getElem_cons_succ, List.getElem_cons_zero]; with_reducible rfl))
            have b6x := Var.made (NumAt.zero x3)
            have hb : Below x3.heap.size x3 (x3.alloc (.cells #[.slice none 0 0] 26)) := (Below.refl _ _).alloc (Nat.le_refl _) _
            have hlo6 : w.heap.size + 4 ≤ x3.heap.size := hP.out.size
            (try have hne := Nat.ne_of_lt b7.out.lt)
            obtain ⟨x4, hx4⟩ : ∃ W, x3.alloc (.cells #[.slice none 0 0] 26) = W := ⟨_, rfl⟩
            rw [hx4] at b6x hb ⊢
            (try replace n0 := Lib.hid (n0.out.below hb))
            (try replace n2 := Lib.hid (n2.out.below hb))
            (try replace n5 := Lib.hid (n5.out.below hb))
            (try replace b7 := Lib.hid (b7.out.below hb))
            (try replace hP := Lib.hid (hP.out.below hb))
            (try replace nA := Lib.hid (nA.out.below hb))
            (try replace nM := Lib.hid (nM.out.below hb))
            (try replace nO := Lib.hid (nO.out.below hb))
            (try replace nX := Lib.hid (nX.out.below hb))
            (try replace n42 := Lib.hid (n42.out.below hb))
            clear hb
            obtain ⟨g6, hg6⟩ : ∃ g, x3.heap.size = g := ⟨_, rfl⟩
            rw [hg6] at b6x hlo6 ⊢
            (try rw [hg6] at hne)
            have b6 := Lib.hid b6x
            clear b6x hx4 hg6
            refine Rt.ord_nil ?_
            refine Rt.tree_op ?_
            refine ord_call rfl rfl rfl (by go_simp; exact ⟨rfl, rfl⟩) ?_
            refine (mod_N nA.out nM.out haB (Nat.le_trans hmB (by decide))).mono ?_
            rintro e x5 ⟨v5, rfl, n5, hb⟩
            obtain ⟨v5a, v5l, v5c, rfl⟩ := n5.shape
            refine ⟨_, rfl, hb, ?_⟩
            replace n5 := Lib.hid n5
            (try replace n0 := Lib.hid (n0.out.below hb))
            (try replace n2 := Lib.hid (n2.out.below hb))
            (try replace b6 := Lib.hid (b6.out.below hb))
            (try replace b7 := Lib.hid (b7.out.below hb))
            (try replace hP := Lib.hid (hP.out.below hb))
            (try replace nA := Lib.hid (nA.out.below hb))
            (try replace nM := Lib.hid (nM.out.below hb))
            (try replace nO := Lib.hid (nO.out.below hb))
            (try replace nX := Lib.hid (nX.out.below hb))
            (try replace n42 := Lib.hid (n42.out.below hb))
            clear hb
            simp only [Act.put, Act.eval, List.setIfInBounds_toArray, List.set_cons_zero, List.set_cons_succ, Array.getD_eq_getD_getElem?, List.getElem?_toArray, List.getElem?_cons_zero, List.getElem?_cons_succ, Option.getD_some, List.getElem_toArray, List.getElem_cons_succ, List.getElem_cons_zero]
            refine Rt.ord_nil ?_
            refine Rt.tree_op ?_
            obtain ⟨qa, ql, qc, qb, qn⟩ := b6.out
            have cc := qb.cell
            have ff := qb.frozen
            clear qb qn
            apply ord_do rfl rfl rfl; (· (go_simp; with_reducible rfl)); (· (simp only [Act.put, Act.eval, List.setIfInBounds_toArray, List.set_cons_zero, List.set_cons_succ, Array.getD_eq_getD_getElem?, List.getElem?_toArray, List.getElem?_cons_zero, List.getElem?_cons_succ, Option.getD_some, List.getElem_toArray, List.getElem_cons_succ, List.getElem_cons_zero]; with_reducible rfl))
            clear cc ff
            have b6' := Lib.hid (b6.out.put n2.out)
            have b7' := Lib.hid (b7.out.other b6.out (by first | exact hne | exact hne.symm) (.slice v2a v2l v2c))
            have n5' := Lib.hid (n5.out.otherV b6.out (.slice v2a v2l v2c))
            have hP' := Lib.hid (hP.out.put hlo6 b6.out (.slice v2a v2l v2c))
            clear b6 b7 n5 hP
            obtain ⟨x6, hx6⟩ : ∃ W, x5.setCell ⟨g6, 0, none⟩ (.slice v2a v2l v2c) = W := ⟨_, rfl⟩
            rw [hx6] at b6' b7' n5' hP' ⊢
            have b6 := b6'
            have b7 := b7'
            have n5 := n5'
            have hP := hP'
            clear b6' b7' n5' hP' hx6
            refine Rt.ord_nil ?_
            refine Rt.tree_op ?_
            obtain ⟨qa, ql, qc, qb, qn⟩ := b7.out
            have cc := qb.cell
            have ff := qb.frozen
            clear qb qn
            apply ord_do rfl rfl rfl; (· (go_simp; with_reducible rfl)); (· (simp only [Act.put, Act.eval, List.setIfInBounds_toArray, List.set_cons_zero, List.set_cons_succ, Array.getD_eq_getD_getElem?, List.getElem?_toArray, List.getElem?_cons_zero, List.getElem?_cons_succ, Option.getD_some, List.getElem_toArray, List.getElem_cons_succ, List.getElem_cons_zero]; with_reducible rfl))
            clear cc ff
            have b6' := Lib.hid (b6.out.other b7.out (by first | exact hne | exact hne.symm) (.slice v5a v5l v5c))
            have b7' := Lib.hid (b7.out.put n5.out)
            have hP' := Lib.hid (hP.out.put hlo7 b7.out (.slice v5a v5l v5c))
            refine Rt.ord_nil ?_
            refine Rt.tree_fin ?_
            go_wp2_with fail
            go_meet
            case rel => exact ⟨g6, g7, rfl, rfl, Lib.hid ⟨hP'.out, by have h := b6'.out; rw [hm1] at h; exact h, by have h := b7'.out; rw [hm2] at h; exact h, by first | exact hne | exact hne.symm, hlo6, hlo7⟩⟩
      · apply ord_new rfl rfl rfl; (· (go_simp; exact ⟨rfl, rfl⟩)); (· (exact (Below.refl _ _).alloc (Nat.le_refl _) _)); (· (simp only [Act.put, Act.eval, List.setIfInBounds_toArray, List.set_cons_zero, List.set_cons_succ, Array.getD_eq_getD_getElem?, List.getElem?_toArray, List.getElem?_cons_zero, List.getElem?_cons_succ, Option.getD_some, List.getElem_toArray, List.getElem_cons_succ, List.getElem_cons_zero]; with_reducible rfl))
        have b6x := Var.made (NumAt.zero x1)
        have hb : Below x1.heap.size x1 (x1.alloc (.cells #[.slice none 0 0] 26)) := (Below.refl _ _).alloc (Nat.le_refl _) _
        have hlo6 : w.heap.size + 4 ≤ x1.heap.size := hP.out.size
        (try have hne := Nat.ne_of_lt b7.out.lt)
        obtain ⟨x2, hx2⟩ : ∃ W, x1.alloc (.cells #[.slice none 0 0] 26) = W := ⟨_, rfl⟩
        rw [hx2] at b6x hb ⊢
        (try replace n0 := Lib.hid (n0.out.below hb))
        (try replace n2 := Lib.hid (n2.out.below hb))
        (try replace n5 := Lib.hid (n5.out.below hb))
        (try replace b7 := Lib.hid (b7.out.below hb))
        (try replace hP := Lib.hid (hP.out.below hb))
        (try replace nA := Lib.hid (nA.out.below hb))
        (try replace nM := Lib.hid (nM.out.below hb))
        (try replace nO := Lib.hid (nO.out.below hb))
        (try replace nX := Lib.hid (nX.out.below hb))
        (try replace n42 := Lib.hid (n42.out.below hb))
        clear hb
        obtain ⟨g6, hg6⟩ : ∃ g, x1.heap.size = g := ⟨_, rfl⟩
        rw [hg6] at b6x hlo6 ⊢
        (try rw [hg6] at hne)
        have b6 := Lib.hid b6x
        clear b6x hx2 hg6
        refine Rt.ord_nil ?_
        refine Rt.tree_two ?_ ?_
        · refine ord_call rfl rfl rfl (by go_simp; exact ⟨rfl, rfl⟩) ?_
          refine (mod_N n0.out nM.out (by decide) (Nat.le_trans hmB (by decide))).mono ?_
          rintro e x3 ⟨v2, rfl, n2, hb⟩
          obtain ⟨v2a, v2l, v2c, rfl⟩ := n2.shape
          refine ⟨_, rfl, hb, ?_⟩
          replace n2 := Lib.hid n2
          (try replace n0 := Lib.hid (n0.out.below hb))
          (try replace n5 := Lib.hid (n5.out.below hb))
          (try replace b6 := Lib.hid (b6.out.below hb))
          (try replace b7 := Lib.hid (b7.out.below hb))
          (try replace hP := Lib.hid (hP.out.below hb))
          (try replace nA := Lib.hid (nA.out.below hb))
          (try replace nM := Lib.hid (nM.out.below hb))
          (try replace nO := Lib.hid (nO.out.below hb))
          (try replace nX := Lib.hid (nX.out.below hb))
          (try replace n42 := Lib.hid (n42.out.below hb))
          clear hb
          simp only [Act.put, Act.eval, List.setIfInBounds_toArray, List.set_cons_zero, List.set_cons_succ, Array.getD_eq_getD_getElem?, List.getElem?_toArray, List.getElem?_cons_zero, List.getElem?_cons_succ, Option.getD_some, List.getElem_toArray, List.getElem_cons_succ, List.getElem_cons_zero]
          refine Rt.ord_nil ?_
          refine Rt.tree_two ?_ ?_
          · refine ord_call rfl rfl rfl (by go_simp; exact ⟨rfl, rfl⟩) ?_
            refine (mod_N nA.out nM.out haB (Nat.le_trans hmB (by decide))).mono ?_
            rintro e x4 ⟨v5, rfl, n5, hb⟩
            obtain ⟨v5a, v5l, v5c, rfl⟩ := n5.shape
            refine ⟨_, rfl, hb, ?_⟩
            replace n5 := Lib.hid n5
            (try replace n0 := Lib.hid (n0.out.below hb))
            (try replace n2 := Lib.hid (n2.out.below hb))
            (try replace b6 := Lib.hid (b6.out.below hb))
            (try replace b7 := Lib.hid (b7.out.below hb))
            (try replace hP := Lib.hid (hP.out.below hb))
            (try replace nA := Lib.hid (nA.out.below hb))
            (try replace nM := Lib.hid (nM.out.below hb))
            (try replace nO := Lib.hid (nO.out.below hb))
            (try replace nX := Lib.hid (nX.out.below hb))
            (try replace n42 := Lib.hid (n42.out.below hb))
            clear hb
            simp only [Act.put, Act.eval, List.setIfInBounds_toArray, List.set_cons_zero, List.set_cons_succ, Array.getD_eq_getD_getElem?, List.getElem?_toArray, List.getElem?_cons_zero, List.getElem?_cons_succ, Option.getD_some, List.getElem_toArray, List.getElem_cons_succ, List.getElem_cons_zero]
            refine Rt.ord_nil ?_
            refine Rt.tree_op ?_
            apply ord_new rfl rfl rfl; (· (go_simp; exact ⟨rfl, rfl⟩)); (· (exact (Below.refl _ _).alloc (Nat.le_refl _) _)); (· (simp only [Act.put, Act.eval, List.setIfInBounds_toArray, List.set_cons_zero, List.set_cons_succ, Array.getD_eq_getD_getElem?, List.getElem?_toArray, List.getElem?_cons_zero, List.getElem?_cons_succ, Option.getD_some, List.getElem_toArray, List.getElem_cons_succ, List.getElem_cons_zero]; with_reducible rfl))
            have b7x := Var.made (NumAt.zero x4)
            have hb : Below x4.heap.size x4 (x4.alloc (.cells #[.slice none 0 0] 26)) := (Below.refl _ _).alloc (Nat.le_refl _) _
            have hlo7 : w.heap.size + 4 ≤ x4.heap.size := hP.out.size
            (try have hne := Nat.ne_of_lt b6.out.lt)
            obtain ⟨x5, hx5⟩ : ∃ W, x4.alloc (.cells #[.slice none 0 0] 26) = W := ⟨_, rfl⟩
            rw [hx5] at b7x hb ⊢
            (try replace n0 := Lib.hid (n0.out.below hb))
            (try replace n2 := Lib.hid (n2.out.below hb))
            (try replace n5 := Lib.hid (n5.out.below hb))
            (try replace b6 := Lib.hid (b6.out.below hb))
            (try replace hP := Lib.hid (hP.out.below hb))
            (try replace nA := Lib.hid (nA.out.below hb))
            (try replace nM := Lib.hid (nM.out.below hb))
            (try replace nO := Lib.hid (nO.out.below hb))
            (try replace nX := Lib.hid (nX.out.below hb))
            (try replace n42 := Lib.hid (n42.out.below hb))
            clear hb
            obtain ⟨g7, hg7⟩ : ∃ g, x4.heap.size = g := ⟨_, rfl⟩
            rw [hg7] at b7x hlo7 ⊢
            (try rw [hg7] at hne)
            have b7 := Lib.hid b7x
            clear b7x hx5 hg7
            refine Rt.ord_nil ?_
            refine Rt.tree_op ?_
            obtain ⟨qa, ql, qc, qb, qn⟩ := b6.out
            have cc := qb.cell
            have ff := qb.frozen
            clear qb qn
            apply ord_do rfl rfl rfl; (· (go_simp; with_reducible rfl)); (· (simp only [Act.put, Act.eval, List.setIfInBounds_toArray, List.set_cons_zero, List.set_cons_succ, Array.getD_eq_getD_getElem?, List.getElem?_toArray, List.getElem?_cons_zero, List.getElem?_cons_succ, Option.getD_some, List.getElem_toArray, List.getElem_cons_succ, List.getElem_cons_zero]; with_reducible rfl))
            clear cc ff
            have b6' := Lib.hid (b6.out.put n2.out)
            have b7' := Lib.hid (b7.out.other b6.out (by first | exact hne | exact hne.symm) (.slice v2a v2l v2c))
            have n5' := Lib.hid (n5.out.otherV b6.out (.slice v2a v2l v2c))
            have hP' := Lib.hid (hP.out.put hlo6 b6.out (.slice v2a v2l v2c))
            clear b6 b7 n5 hP
            obtain ⟨x6, hx6⟩ : ∃ W, x5.setCell ⟨g6, 0, none⟩ (.slice v2a v2l v2c) = W := ⟨_, rfl⟩
            rw [hx6] at b6' b7' n5' hP' ⊢
            have b6 := b6'
            have b7 := b7'
            have n5 := n5'
            have hP := hP'
            clear b6' b7' n5' hP' hx6
            refine Rt.ord_nil ?_
            refine Rt.tree_op ?_
            obtain ⟨qa, ql, qc, qb, qn⟩ := b7.out
            have cc := qb.cell
            have ff := qb.frozen
            clear qb qn
            apply ord_do rfl rfl rfl; (· (go_simp; with_reducible rfl)); (· (simp only [Act.put, Act.eval, List.setIfInBounds_toArray, List.set_cons_zero, List.set_cons_succ, Array.getD_eq_getD_getElem?, List.getElem?_toArray, List.getElem?_cons_zero, List.getElem?_cons_succ, Option.getD_some, List.getElem_toArray, List.getElem_cons_succ, List.getElem_cons_zero]; with_reducible rfl))
            clear cc ff
            have b6' := Lib.hid (b6.out.other b7.out (by first | exact hne | exact hne.symm) (.slice v5a v5l v5c))
            have b7' := Lib.hid (b7.out.put n5.out)
            have hP' := Lib.hid (hP.out.put hlo7 b7.out (.slice v5a v5l v5c))
            refine Rt.ord_nil ?_
            refine Rt.tree_fin ?_
            go_wp2_with fail
            go_meet
            case rel => exact ⟨g6, g7, rfl, rfl, Lib.hid ⟨hP'.out, by have h := b6'.out; rw [hm1] at h; exact h, by have h := b7'.out; rw [hm2] at h; exact h, by first | exact hne | exact hne.symm, hlo6, hlo7⟩⟩
          · apply ord_new rfl rfl rfl; (· (go_simp; exact ⟨rfl, rfl⟩)); (· (exact (Below.refl _ _).alloc (Nat.le_refl _) _)); (· (simp only [Act.put, Act.eval, List.setIfInBounds_toArray, List.set_cons_zero, List.set_cons_succ, Array.getD_eq_getD_getElem?, List.getElem?_toArray, List.getElem?_cons_zero, List.getElem?_cons_succ, Option.getD_some, List.getElem_toArray, List.getElem_cons_succ, List.getElem_cons_zero]; with_reducible rfl))
            have b7x := Var.made (NumAt.zero x3)
            have hb : Below x3.heap.size x3 (x3.alloc (.cells #[.slice none 0 0] 26)) := (Below.refl _ _).alloc (Nat.le_refl _) _
            have hlo7 : w.heap.size + 4 ≤ x3.heap.size := hP.out.size
            (try have hne := Nat.ne_of_lt b6.out.lt)
            obtain ⟨x4, hx4⟩ : ∃ W, x3.alloc (.cells #[.slice none 0 0] 26) = W := ⟨_, rfl⟩
            rw [hx4] at b7x hb ⊢
            (try replace n0 := Lib.hid (n0.out.below hb))
            (try replace n2 := Lib.hid (n2.out.below hb))
            (try replace n5 := Lib.hid (n5.out.below hb))
            (try replace b6 := Lib.hid (b6.out.below hb))
            (try replace hP := Lib.hid (hP.out.below hb))
            (try replace nA := Lib.hid (nA.out.below hb))
            (try replace nM := Lib.hid (nM.out.below hb))
            (try replace nO := Lib.hid (nO.out.below hb))
            (try replace nX := Lib.hid (nX.out.below hb))
            (try replace n42 := Lib.hid (n42.out.below hb))
            clear hb
            obtain ⟨g7, hg7⟩ : ∃ g, x3.heap.size = g := ⟨_, rfl⟩
            rw [hg7] at b7x hlo7 ⊢
            (try rw [hg7] at hne)
            have b7 := Lib.hid b7x
            clear b7x hx4 hg7
            refine Rt.ord_nil ?_
            refine Rt.tree_op ?_
            refine ord_call rfl rfl rfl (by go_simp; exact ⟨rfl, rfl⟩) ?_
            refine (mod_N nA.out nM.out haB (Nat.le_trans hmB (by decide))).mono ?_
            rintro e x5 ⟨v5, rfl, n5, hb⟩
            obtain ⟨v5a, v5l, v5c, rfl⟩ := n5.shape
            refine ⟨_, rfl, hb, ?_⟩
            replace n5 := Lib.hid n5
            (try replace n0 := Lib.hid (n0.out.below hb))
            (try replace n2 := Lib.hid (n2.out.below hb))
            (try replace b6 := Lib.hid (b6.out.below hb))
            (try replace b7 := Lib.hid (b7.out.below hb))
            (try replace hP := Lib.hid (hP.out.below hb))
            (try replace nA := Lib.hid (nA.out.below hb))
            (try replace nM := Lib.hid (nM.out.below hb))
            (try replace nO := Lib.hid (nO.out.below hb))
            (try replace nX := Lib.hid (nX.out.below hb))
            (try replace n42 := Lib.hid (n42.out.below hb))
            clear hb
            simp only [Act.put, Act.eval, List.setIfInBounds_toArray, List.set_cons_zero, List.set_cons_succ, Array.getD_eq_getD_getElem?, List.getElem?_toArray, List.getElem?_cons_zero, List.getElem?_cons_succ, Option.getD_some, List.getElem_toArray, List.getElem_cons_succ, List.getElem_cons_zero]
            refine Rt.ord_nil ?_
            refine Rt.tree_op ?_
            obtain ⟨qa, ql, qc, qb, qn⟩ := b6.out
            have cc := qb.cell
            have ff := qb.frozen
            clear qb qn
            apply ord_do rfl rfl rfl; (· (go_simp; with_reducible rfl)); (· (simp only [Act.put, Act.eval, List.setIfInBounds_toArray, List.set_cons_zero, List.set_cons_succ, Array.getD_eq_getD_getElem?, List.getElem?_toArray, List.getElem?_cons_zero, List.getElem?_cons_succ, Option.getD_some, List.getElem_toArray, List.getElem_cons_succ, List.getElem_cons_zero]; with_reducible rfl))
            clear cc ff
            have b6' := Lib.hid (b6.out.put n2.out)
            have b7' := Lib.hid (b7.out.other b6.out (by first | exact hne | exact hne.symm) (.slice v2a v2l v2c))
            have n5' := Lib.hid (n5.out.otherV b6.out (.slice v2a v2l v2c))
            have hP' := Lib.hid (hP.out.put hlo6 b6.out (.slice v2a v2l v2c))
            clear b6 b7 n5 hP
            obtain ⟨x6, hx6⟩ : ∃ W, x5.setCell ⟨g6, 0, none⟩ (.slice v2a v2l v2c) = W := ⟨_, rfl⟩
            rw [hx6] at b6' b7' n5' hP' ⊢
            have b6 := b6'
            have b7 := b7'
            have n5 := n5'
            have hP := hP'
            clear b6' b7' n5' hP' hx6
            refine Rt.ord_nil ?_
            refine Rt.tree_op ?_
            obtain ⟨qa, ql, qc, qb, qn⟩ := b7.out
            have cc := qb.cell
            have ff := qb.frozen
            clear qb qn
            apply ord_do rfl rfl rfl; (· (go_simp; with_reducible rfl)); (· (simp only [Act.put, Act.eval, List.setIfInBounds_toArray, List.set_cons_zero, List.set_cons_succ, Array.getD_eq_getD_getElem?, List.getElem?_toArray, List.getElem?_cons_zero, List.getElem?_cons_succ, Option.getD_some, List.getElem_toArray, List.getElem_cons_succ, List.getElem_cons_zero]; with_reducible rfl))
            clear cc ff
            have b6' := Lib.hid (b6.out.other b7.out (by first | exact hne | exact hne.symm) (.slice v5a v5l v5c))
            have b7' := Lib.hid (b7.out.put n5.out)
            have hP' := Lib.hid (hP.out.put hlo7 b7.out (.slice v5a v5l v5c))
            refine Rt.ord_nil ?_
            refine Rt.tree_fin ?_
            go_wp2_with fail
            go_meet
            case rel => exact ⟨g6, g7, rfl, rfl, Lib.hid ⟨hP'.out, by have h := b6'.out; rw [hm1] at h; exact h, by have h := b7'.out; rw [hm2] at h; exact h, by first | exact hne | exact hne.symm, hlo6, hlo7⟩⟩
        · apply ord_new rfl rfl rfl; (· (go_simp; exact ⟨rfl, rfl⟩)); (· (exact (Below.refl _ _).alloc (Nat.le_refl _) _)); (· (simp only [Act.put, Act.eval, List.setIfInBounds_toArray, List.set_cons_zero, List.set_cons_succ, Array.getD_eq_getD_getElem?, List.getElem?_toArray, List.getElem?_cons_zero, List.getElem?_cons_succ, Option.getD_some, List.getElem_toArray, List.getElem_cons_succ, List.getElem_cons_zero]; with_reducible rfl))
          have b7x := Var.made (NumAt.zero x2)
          have hb : Below x2.heap.size x2 (x2.alloc (.cells #[.slice none 0 0] 26)) := (Below.refl _ _).alloc (Nat.le_refl _) _
          have hlo7 : w.heap.size + 4 ≤ x2.heap.size := hP.out.size
          (try have hne := Nat.ne_of_lt b6.out.lt)
          obtain ⟨x3, hx3⟩ : ∃ W, x2.alloc (.cells #[.slice none 0 0] 26) = W := ⟨_, rfl⟩
          rw [hx3] at b7x hb ⊢
          (try replace n0 := Lib.hid (n0.out.below hb))
          (try replace n2 := Lib.hid (n2.out.below hb))
          (try replace n5 := Lib.hid (n5.out.below hb))
          (try replace b6 := Lib.hid (b6.out.below hb))
          (try replace hP := Lib.hid (hP.out.below hb))
          (try replace nA := Lib.hid (nA.out.below hb))
          (try replace nM := Lib.hid (nM.out.below hb))
          (try replace nO := Lib.hid (nO.out.below hb))
          (try replace nX := Lib.hid (nX.out.below hb))
          (try replace n42 := Lib.hid (n42.out.below hb))
          clear hb
          obtain ⟨g7, hg7⟩ : ∃ g, x2.heap.size = g := ⟨_, rfl⟩
          rw [hg7] at b7x hlo7 ⊢
          (try rw [hg7] at hne)
          have b7 := Lib.hid b7x
          clear b7x hx3 hg7
          refine Rt.ord_nil ?_
          refine Rt.tree_op ?_
          refine ord_call rfl rfl rfl (by go_simp; exact ⟨rfl, rfl⟩) ?_
          refine (mod_N n0.out nM.out (by decide) (Nat.le_trans hmB (by decide))).mono ?_
          rintro e x4 ⟨v2, rfl, n2, hb⟩
          obtain ⟨v2a, v2l, v2c, rfl⟩ := n2.shape
          refine ⟨_, rfl, hb, ?_⟩
          replace n2 := Lib.hid n2
          (try replace n0 := Lib.hid (n0.out.below hb))
          (try replace n5 := Lib.hid (n5.out.below hb))
          (try replace b6 := Lib.hid (b6.out.below hb))
          (try replace b7 := Lib.hid (b7.out.below hb))
          (try replace hP := Lib.hid (hP.out.below hb))
          (try replace nA := Lib.hid (nA.out.below hb))
          (try replace nM := Lib.hid (nM.out.below hb))
          (try replace nO := Lib.hid (nO.out.below hb))
          (try replace nX := Lib.hid (nX.out.below hb))
          (try replace n42 := Lib.hid (n42.out.below hb))
          clear hb
          simp only [Act.put, Act.eval, List.setIfInBounds_toArray, List.set_cons_zero, List.set_cons_succ, Array.getD_eq_getD_getElem?, List.getElem?_toArray, List.getElem?_cons_zero, List.getElem?_cons_succ, Option.getD_some, List.getElem_toArray, List.getElem_cons_succ, List.getElem_cons_zero]
          refine Rt.ord_nil ?_
          refine Rt.tree_op ?_
          refine ord_call rfl rfl rfl (by go_simp; exact ⟨rfl, rfl⟩) ?_
          refine (mod_N nA.out nM.out haB (Nat.le_trans hmB (by decide))).mono ?_
          rintro e x5 ⟨v5, rfl, n5, hb⟩
          obtain ⟨v5a, v5l, v5c, rfl⟩ := n5.shape
          refine ⟨_, rfl, hb, ?_⟩
          replace n5 := Lib.hid n5
          (try replace n0 := Lib.hid (n0.out.below hb))
          (try replace n2 := Lib.hid (n2.out.below hb))
          (try replace b6 := Lib.hid (b6.out.below hb))
          (try replace b7 := Lib.hid (b7.out.below hb))
          (try replace hP := Lib.hid (hP.out.below hb))
          (try replace nA := Lib.hid (nA.out.below hb))
          (try replace nM := Lib.hid (nM.out.below hb))
          (try replace nO := Lib.hid (nO.out.below hb))
          (try replace nX := Lib.hid (nX.out.below hb))
          (try replace n42 := Lib.hid (n42.out.below hb))
          clear hb
          simp only [Act.put, Act.eval, List.setIfInBounds_toArray, List.set_cons_zero, List.set_cons_succ, Array.getD_eq_getD_getElem?, List.getElem?_toArray, List.getElem?_cons_zero, List.getElem?_cons_succ, Option.getD_some, List.getElem_toArray, List.getElem_cons_succ, List.getElem_cons_zero]
          refine Rt.ord_nil ?_
          refine Rt.tree_op ?_
          obtain ⟨qa, ql, qc, qb, qn⟩ := b6.out
          have cc := qb.cell
          have ff := qb.frozen
          clear qb qn
          apply ord_do rfl rfl rfl; (· (go_simp; with_reducible rfl)); (· (simp only [Act.put, Act.eval, List.setIfInBounds_toArray, List.set_cons_zero, List.set_cons_succ, Array.getD_eq_getD_getElem?, List.getElem?_toArray, List.getElem?_cons_zero, List.getElem?_cons_succ, Option.getD_some, List.getElem_toArray, List.getElem_cons_succ, List.getElem_cons_zero]; with_reducible rfl))
          clear cc ff
          have b6' := Lib.hid (b6.out.put n2.out)
          have b7' := Lib.hid (b7.out.other b6.out (by first | exact hne | exact hne.symm) (.slice v2a v2l v2c))
          have n5' := Lib.hid (n5.out.otherV b6.out (.slice v2a v2l v2c))
          have hP' := Lib.hid (hP.out.put hlo6 b6.out (.slice v2a v2l v2c))
          clear b6 b7 n5 hP
          obtain ⟨x6, hx6⟩ : ∃ W, x5.setCell ⟨g6, 0, none⟩ (.slice v2a v2l v2c) = W := ⟨_, rfl⟩
          rw [hx6] at b6' b7' n5' hP' ⊢
          have b6 := b6'
          have b7 := b7'
          have n5 := n5'
          have hP := hP'
          clear b6' b7' n5' hP' hx6
          refine Rt.ord_nil ?_
          refine Rt.tree_op ?_
          obtain ⟨qa, ql, qc, qb, qn⟩ := b7.out
          have cc := qb.cell
          have ff := qb.frozen
          clear qb qn
          apply ord_do rfl rfl rfl; (· (go_simp; with_reducible rfl)); (· (simp only [Act.put, Act.eval, List.setIfInBounds_toArray, List.set_cons_zero, List.set_cons_succ, Array.getD_eq_getD_getElem?, List.getElem?_toArray, List.getElem?_cons_zero, List.getElem?_cons_succ, Option.getD_some, List.getElem_toArray, List.getElem_cons_succ, List.getElem_cons_zero]; with_reducible rfl))
          clear cc ff
          have b6' := Lib.hid (b6.out.other b7.out (by first | exact hne | exact hne.symm) (.slice v5a v5l v5c))
          have b7' := Lib.hid (b7.out.put n5.out)
          have hP' := Lib.hid (hP.out.put hlo7 b7.out (.slice v5a v5l v5c))
          refine Rt.ord_nil ?_
          refine Rt.tree_fin ?_
          go_wp2_with fail
          go_meet
          case rel => exact ⟨g6, g7, rfl, rfl, Lib.hid ⟨hP'.out, by have h := b6'.out; rw [hm1] at h; exact h, by have h := b7'.out; rw [hm2] at h; exact h, by first | exact hne | exact hne.symm, hlo6, hlo7⟩⟩
      · apply ord_new rfl rfl rfl; (· (go_simp; exact ⟨rfl, rfl⟩)); (· (exact (Below.refl _ _).alloc (Nat.le_refl _) _)); (· (simp only [Act.put, Act.eval, List.setIfInBounds_toArray, List.set_cons_zero, List.set_cons_succ, Array.getD_eq_getD_getElem?, List.getElem?_toArray, List.getElem?_cons_zero, List.getElem?_cons_succ, Option.getD_some, List.getElem_toArray, List.getElem_cons_succ, List.getElem_cons_zero]; with_reducible rfl))
        have b7x := Var.made (NumAt.zero x1)
        have hb : Below x1.heap.size x1 (x1.alloc (.cells #[.slice none 0 0] 26)) := (Below.refl _ _).alloc (Nat.le_refl _) _
        have hlo7 : w.heap.size + 4 ≤ x1.heap.size := hP.out.size
        (try have hne := Nat.ne_of_lt b6.out.lt)
        obtain ⟨x2, hx2⟩ : ∃ W, x1.alloc (.cells #[.slice none 0 0] 26) = W := ⟨_, rfl⟩
        rw [hx2] at b7x hb ⊢
        (try replace n0 := Lib.hid (n0.out.below hb))
        (try replace n2 := Lib.hid (n2.out.below hb))
        (try replace n5 := Lib.hid (n5.out.below hb))
        (try replace b6 := Lib.hid (b6.out.below hb))
        (try replace hP := Lib.hid (hP.out.below hb))
        (try replace nA := Lib.hid (nA.out.below hb))
        (try replace nM := Lib.hid (nM.out.below hb))
        (try replace nO := Lib.hid (nO.out.below hb))
        (try replace nX := Lib.hid (nX.out.below hb))
        (try replace n42 := Lib.hid (n42.out.below hb))
        clear hb
        obtain ⟨g7, hg7⟩ : ∃ g, x1.heap.size = g := ⟨_, rfl⟩
        rw [hg7] at b7x hlo7 ⊢
        (try rw [hg7] at hne)
        have b7 := Lib.hid b7x
        clear b7x hx2 hg7
        refine Rt.ord_nil ?_
        refine Rt.tree_two ?_ ?_
        · refine ord_call rfl rfl rfl (by go_simp; exact ⟨rfl, rfl⟩) ?_
          refine (mod_N n0.out nM.out (by decide) (Nat.le_trans hmB (by decide))).mono ?_
          rintro e x3 ⟨v2, rfl, n2, hb⟩
          obtain ⟨v2a, v2l, v2c, rfl⟩ := n2.shape
          refine ⟨_, rfl, hb, ?_⟩
          replace n2 := Lib.hid n2
          (try replace n0 := Lib.hid (n0.out.below hb))
          (try replace n5 := Lib.hid (n5.out.below hb))
          (try replace b6 := Lib.hid (b6.out.below hb))
          (try replace b7 := Lib.hid (b7.out.below hb))
          (try replace hP := Lib.hid (hP.out.below hb))
          (try replace nA := Lib.hid (nA.out.below hb))
          (try replace nM := Lib.hid (nM.out.below hb))
          (try replace nO := Lib.hid (nO.out.below hb))
          (try replace nX := Lib.hid (nX.out.below hb))
          (try replace n42 := Lib.hid (n42.out.below hb))
          clear hb
          simp only [Act.put, Act.eval, List.setIfInBounds_toArray, List.set_cons_zero, List.set_cons_succ, Array.getD_eq_getD_getElem?, List.getElem?_toArray, List.getElem?_cons_zero, List.getElem?_cons_succ, Option.getD_some, List.getElem_toArray, List.getElem_cons_succ, List.getElem_cons_zero]
          refine Rt.ord_nil ?_
          refine Rt.tree_two ?_ ?_
          · refine ord_call rfl rfl rfl (by go_simp; exact ⟨rfl, rfl⟩) ?_
            refine (mod_N nA.out nM.out haB (Nat.le_trans hmB (by decide))).mono ?_
            rintro e x4 ⟨v5, rfl, n5, hb⟩
            obtain ⟨v5a, v5l, v5c, rfl⟩ := n5.shape
            refine ⟨_, rfl, hb, ?_⟩
            replace n5 := Lib.hid n5
            (try replace n0 := Lib.hid (n0.out.below hb))
            (try replace n2 := Lib.hid (n2.out.below hb))
            (try replace b6 := Lib.hid (b6.out.below hb))
            (try replace b7 := Lib.hid (b7.out.below hb))
            (try replace hP := Lib.hid (hP.out.below hb))
            (try replace nA := Lib.hid (nA.out.below hb))
            (try replace nM := Lib.hid (nM.out.below hb))
            (try replace nO := Lib.hid (nO.out.below hb))
            (try replace nX := Lib.hid (nX.out.below hb))
            (try replace n42 := Lib.hid (n42.out.below hb))
            clear hb
            simp only [Act.put, Act.eval, List.setIfInBounds_toArray, List.set_cons_zero, List.set_cons_succ, Array.getD_eq_getD_getElem?, List.getElem?_toArray, List.getElem?_cons_zero, List.getElem?_cons_succ, Option.getD_some, List.getElem_toArray, List.getElem_cons_succ, List.getElem_cons_zero]
            refine Rt.ord_nil ?_
            refine Rt.tree_op ?_
            apply ord_new rfl rfl rfl; (· (go_simp; exact ⟨rfl, rfl⟩)); (· (exact (Below.refl _ _).alloc (Nat.le_refl _) _)); (· (simp only [Act.put, Act.eval, List.setIfInBounds_toArray, List.set_cons_zero, List.set_cons_succ, Array.getD_eq_getD_getElem?, List.getElem?_toArray, List.getElem?_cons_zero, List.getElem?_cons_succ, Option.getD_some, List.getElem_toArray, List.getElem_cons_succ, List.getElem_cons_zero]; with_reducible rfl))
            have b6x := Var.made (NumAt.zero x4)
            have hb : Below x4.heap.size x4 (x4.alloc (.cells #[.slice none 0 0] 26)) := (Below.refl _ _).alloc (Nat.le_refl _) _
            have hlo6 : w.heap.size + 4 ≤ x4.heap.size := hP.out.size
            (try have hne := Nat.ne_of_lt b7.out.lt)
            obtain ⟨x5, hx5⟩ : ∃ W, x4.alloc (.cells #[.slice none 0 0] 26) = W := ⟨_, rfl⟩
            rw [hx5] at b6x hb ⊢
            (try replace n0 := Lib.hid (n0.out.below hb))
            (try replace n2 := Lib.hid (n2.out.below hb))
            (try replace n5 := Lib.hid (n5.out.below hb))
            (try replace b7 := Lib.hid (b7.out.below hb))
            (try replace hP := Lib.hid (hP.out.below hb))
            (try replace nA := Lib.hid (nA.out.below hb))
            (try replace nM := Lib.hid (nM.out.below hb))
            (try replace nO := Lib.hid (nO.out.below hb))
            (try replace nX := Lib.hid (nX.out.below hb))
            (try replace n42 := Lib.hid (n42.out.below hb))
            clear hb
            obtain ⟨g6, hg6⟩ : ∃ g, x4.heap.size = g := ⟨_, rfl⟩
            rw [hg6] at b6x hlo6 ⊢
            (try rw [hg6] at hne)
            have b6 := Lib.hid b6x
            clear b6x hx5 hg6
            refine Rt.ord_nil ?_
            refine Rt.tree_op ?_
            obtain ⟨qa, ql, qc, qb, qn⟩ := b6.out
            have cc := qb.cell
            have ff := qb.frozen
            clear qb qn
            apply ord_do rfl rfl rfl; (· (go_simp; with_reducible rfl)); (· (simp only [Act.put, Act.eval, List.setIfInBounds_toArray, List.set_cons_zero, List.set_cons_succ, Array.getD_eq_getD_getElem?, List.getElem?_toArray, List.getElem?_cons_zero, List.getElem?_cons_succ, Option.getD_some, List.getElem_toArray, List.getElem_cons_succ, List.getElem_cons_zero]; with_reducible rfl))
            clear cc ff
            have b6' := Lib.hid (b6.out.put n2.out)
            have b7' := Lib.hid (b7.out.other b6.out (by first | exact hne | exact hne.symm) (.slice v2a v2l v2c))
            have n5' := Lib.hid (n5.out.otherV b6.out (.slice v2a v2l v2c))
            have hP' := Lib.hid (hP.out.put hlo6 b6.out (.slice v2a v2l v2c))
            clear b6 b7 n5 hP
            obtain ⟨x6, hx6⟩ : ∃ W, x5.setCell ⟨g6, 0, none⟩ (.slice v2a v2l v2c) = W := ⟨_, rfl⟩
            rw [hx6] at b6' b7' n5' hP' ⊢
            have b6 := b6'
            have b7 := b7'
            have n5 := n5'
            have hP := hP'
            clear b6' b7' n5' hP' hx6
            refine Rt.ord_nil ?_
            refine Rt.tree_op ?_
            obtain ⟨qa, ql, qc, qb, qn⟩ := b7.out
            have cc := qb.cell
            have ff := qb.frozen
            clear qb qn
            apply ord_do rfl rfl rfl; (· (go_simp; with_reducible rfl)); (· (simp only [Act.put, Act.eval, List.setIfInBounds_toArray, List.set_cons_zero, List.set_cons_succ, Array.getD_eq_getD_getElem?, List.getElem?_toArray, List.getElem?_cons_zero, List.getElem?_cons_succ, Option.getD_some, List.getElem_toArray, List.getElem_cons_succ, List.getElem_cons_zero]; with_reducible rfl))
            clear cc ff
            have b6' := Lib.hid (b6.out.other b7.out (by first | exact hne | exact hne.symm) (.slice v5a v5l v5c))
            have b7' := Lib.hid (b7.out.put n5.out)
            have hP' := Lib.hid (hP.out.put hlo7 b7.out (.slice v5a v5l v5c))
            refine Rt.ord_nil ?_
            refine Rt.tree_fin ?_
            go_wp2_with fail
            go_meet
            case rel => exact ⟨g6, g7, rfl, rfl, Lib.hid ⟨hP'.out, by have h := b6'.out; rw [hm1] at h; exact h, by have h := b7'.out; rw [hm2] at h; exact h, by first | exact hne | exact hne.symm, hlo6, hlo7⟩⟩
          · apply ord_new rfl rfl rfl; (· (go_simp; exact ⟨rfl, rfl⟩)); (· (exact (Below.refl _ _).alloc (Nat.le_refl _) _)); (· (simp only [Act.put, Act.eval, List.setIfInBounds_toArray, List.set_cons_zero, List.set_cons_succ, Array.getD_eq_getD_getElem?, List.getElem?_toArray, List.getElem?_cons_zero, List.getElem?_cons_succ, Option.getD_some, List.getElem_toArray, List.getElem_cons_succ, List.getElem_cons_zero]; with_reducible rfl))
            have b6x := Var.made (NumAt.zero x3)
            have hb : Below x3.heap.size x3 (x3.alloc (.cells #[.slice none 0 0] 26)) := (Below.refl _ _).alloc (Nat.le_refl _) _
            have hlo6 : w.heap.size + 4 ≤ x3.heap.size := hP.out.size
            (try have hne := Nat.ne_of_lt b7.out.lt)
            obtain ⟨x4, hx4⟩ : ∃ W, x3.alloc (.cells #[.slice none 0 0] 26) = W := ⟨_, rfl⟩
            rw [hx4] at b6x hb ⊢
            (try replace n0 := Lib.hid (n0.out.below hb))
            (try replace n2 := Lib.hid (n2.out.below hb))
            (try replace n5 := Lib.hid (n5.out.below hb))
            (try replace b7 := Lib.hid (b7.out.below hb))
            (try replace hP := Lib.hid (hP.out.below hb))
            (try replace nA := Lib.hid (nA.out.below hb))
            (try replace nM := Lib.hid (nM.out.below hb))
            (try replace nO := Lib.hid (nO.out.below hb))
            (try replace nX := Lib.hid (nX.out.below hb))
            (try replace n42 := Lib.hid (n42.out.below hb))
            clear hb
            obtain ⟨g6, hg6⟩ : ∃ g, x3.heap.size = g := ⟨_, rfl⟩
            rw [hg6] at b6x hlo6 ⊢
            (try rw [hg6] at hne)
            have b6 := Lib.hid b6x
            clear b6x hx4 hg6
            refine Rt.ord_nil ?_
            refine Rt.tree_op ?_
            refine ord_call rfl rfl rfl (by go_simp; exact ⟨rfl, rfl⟩) ?_
            refine (mod_N nA.out nM.out haB (Nat.le_trans hmB (by decide))).mono ?_
            rintro e x5 ⟨v5, rfl, n5, hb⟩
            obtain ⟨v5a, v5l, v5c, rfl⟩ := n5.shape
            refine ⟨_, rfl, hb, ?_⟩
            replace n5 := Lib.hid n5
            (try replace n0 := Lib.hid (n0.out.below hb))
            (try replace n2 := Lib.hid (n2.out.below hb))
            (try replace b6 := Lib.hid (b6.out.below hb))
            (try replace b7 := Lib.hid (b7.out.below hb))
            (try replace hP := Lib.hid (hP.out.below hb))
            (try replace nA := Lib.hid (nA.out.below hb))
            (try replace nM := Lib.hid (nM.out.below hb))
            (try replace nO := Lib.hid (nO.out.below hb))
            (try replace nX := Lib.hid (nX.out.below hb))
            (try replace n42 := Lib.hid (n42.out.below hb))
            clear hb
            simp only [Act.put, Act.eval, List.setIfInBounds_toArray, List.set_cons_zero, List.set_cons_succ, Array.getD_eq_getD_getElem?, List.getElem?_toArray, List.getElem?_cons_zero, List.getElem?_cons_succ, Option.getD_some, List.getElem_toArray, List.getElem_cons_succ, List.getElem_cons_zero]
            refine Rt.ord_nil ?_
            refine Rt.tree_op ?_
            obtain ⟨qa, ql, qc, qb, qn⟩ := b6.out
            have cc := qb.cell
            have ff := qb.frozen
            clear qb qn
            apply ord_do rfl rfl rfl; (· (go_simp; with_reducible rfl)); (· (simp only [Act.put, Act.eval, List.setIfInBounds_toArray, List.set_cons_zero, List.set_cons_succ, Array.getD_eq_getD_getElem?, List.getElem?_toArray, List.getElem?_cons_zero, List.getElem?_cons_succ, Option.getD_some, List.getElem_toArray, List.getElem_cons_succ, List.getElem_cons_zero]; with_reducible rfl))
            clear cc ff
            have b6' := Lib.hid (b6.out.put n2.out)
            have b7' := Lib.hid (b7.out.other b6.out (by first | exact hne | exact hne.symm) (.slice v2a v2l v2c))
            have n5' := Lib.hid (n5.out.otherV b6.out (.slice v2a v2l v2c))
            have hP' := Lib.hid (hP.out.put hlo6 b6.out (.slice v2a v2l v2c))
            clear b6 b7 n5 hP
            obtain ⟨x6, hx6⟩ : ∃ W, x5.setCell ⟨g6, 0, none⟩ (.slice v2a v2l v2c) = W := ⟨_, rfl⟩
            rw [hx6] at b6' b7' n5' hP' ⊢
            have b6 := b6'
            have b7 := b7'
            have n5 := n5'
            have hP := hP'
            clear b6' b7' n5' hP' hx6
            refine Rt.ord_nil ?_
            refine Rt.tree_op ?_
            obtain ⟨qa, ql, qc, qb, qn⟩ := b7.out
            have cc := qb.cell
            have ff := qb.frozen
            clear qb qn
            apply ord_do rfl rfl rfl; (· (go_simp; with_reducible rfl)); (· (simp only [Act.put, Act.eval, List.setIfInBounds_toArray, List.set_cons_zero, List.set_cons_succ, Array.getD_eq_getD_getElem?, List.getElem?_toArray, List.getElem?_cons_zero, List.getElem?_cons_succ, Option.getD_some, List.getElem_toArray, List.getElem_cons_succ, List.getElem_cons_zero]; with_reducible rfl))
            clear cc ff
            have b6' := Lib.hid (b6.out.other b7.out (by first | exact hne | exact hne.symm) (.slice v5a v5l v5c))
            have b7' := Lib.hid (b7.out.put n5.out)
            have hP' := Lib.hid (hP.out.put hlo7 b7.out (.slice v5a v5l v5c))
            refine Rt.ord_nil ?_
            refine Rt.tree_fin ?_
            go_wp2_with fail
            go_meet
            case rel => exact ⟨g6, g7, rfl, rfl, Lib.hid ⟨hP'.out, by have h := b6'.out; rw [hm1] at h; exact h, by have h := b7'.out; rw [hm2] at h; exact h, by first | exact hne | exact hne.symm, hlo6, hlo7⟩⟩
        · apply ord_new rfl rfl rfl; (· (go_simp; exact ⟨rfl, rfl⟩)); (· (exact (Below.refl _ _).alloc (Nat.le_refl _) _)); (· (simp only [Act.put, Act.eval, List.setIfInBounds_toArray, List.set_cons_zero, List.set_cons_succ, Array.getD_eq_getD_getElem?, List.getElem?_toArray, List.getElem?_cons_zero, List.getElem?_cons_succ, Option.getD_some, List.getElem_toArray, List.getElem_cons_succ, List.getElem_cons_zero]; with_reducible rfl))
          have b6x := Var.made (NumAt.zero x2)
          have hb : Below x2.heap.size x2 (x2.alloc (.cells #[.slice none 0 0] 26)) := (Below.refl _ _).alloc (Nat.le_refl _) _
          have hlo6 : w.heap.size + 4 ≤ x2.heap.size := hP.out.size
          (try have hne := Nat.ne_of_lt b7.out.lt)
          obtain ⟨x3, hx3⟩ : ∃ W, x2.alloc (.cells #[.slice none 0 0] 26) = W := ⟨_, rfl⟩
          rw [hx3] at b6x hb ⊢
          (try replace n0 := Lib.hid (n0.out.below hb))
          (try replace n2 := Lib.hid (n2.out.below hb))
          (try replace n5 := Lib.hid (n5.out.below hb))
          (try replace b7 := Lib.hid (b7.out.below hb))
          (try replace hP := Lib.hid (hP.out.below hb))
          (try replace nA := Lib.hid (nA.out.below hb))
          (try replace nM := Lib.hid (nM.out.below hb))
          (try replace nO := Lib.hid (nO.out.below hb))
          (try replace nX := Lib.hid (nX.out.below hb))
          (try replace n42 := Lib.hid (n42.out.below hb))
          clear hb
          obtain ⟨g6, hg6⟩ : ∃ g, x2.heap.size = g := ⟨_, rfl⟩
          rw [hg6] at b6x hlo6 ⊢
          (try rw [hg6] at hne)
          have b6 := Lib.hid b6x
          clear b6x hx3 hg6
          refine Rt.ord_nil ?_
          refine Rt.tree_op ?_
          refine ord_call rfl rfl rfl (by go_simp; exact ⟨rfl, rfl⟩) ?_
          refine (mod_N n0.out nM.out (by decide) (Nat.le_trans hmB (by decide))).mono ?_
          rintro e x4 ⟨v2, rfl, n2, hb⟩
          obtain ⟨v2a, v2l, v2c, rfl⟩ := n2.shape
          refine ⟨_, rfl, hb, ?_⟩
          replace n2 := Lib.hid n2
          (try replace n0 := Lib.hid (n0.out.below hb))
          (try replace n5 := Lib.hid (n5.out.below hb))
          (try replace b6 := Lib.hid (b6.out.below hb))
          (try replace b7 := Lib.hid (b7.out.below hb))
          (try replace hP := Lib.hid (hP.out.below hb))
          (try replace nA := Lib.hid (nA.out.below hb))
          (try replace nM := Lib.hid (nM.out.below hb))
          (try replace nO := Lib.hid (nO.out.below hb))
          (try replace nX := Lib.hid (nX.out.below hb))
          (try replace n42 := Lib.hid (n42.out.below hb))
          clear hb
          simp only [Act.put, Act.eval, List.setIfInBounds_toArray, List.set_cons_zero, List.set_cons_succ, Array.getD_eq_getD_getElem?, List.getElem?_toArray, List.getElem?_cons_zero, List.getElem?_cons_succ, Option.getD_some, List.getElem_toArray, List.getElem_cons_succ, List.getElem_cons_zero]
          refine Rt.ord_nil ?_
          refine Rt.tree_op ?_
          refine ord_call rfl rfl rfl (by go_simp; exact ⟨rfl, rfl⟩) ?_
          refine (mod_N nA.out nM.out haB (Nat.le_trans hmB (by decide))).mono ?_
          rintro e x5 ⟨v5, rfl, n5, hb⟩
          obtain ⟨v5a, v5l, v5c, rfl⟩ := n5.shape
          refine ⟨_, rfl, hb, ?_⟩
          replace n5 := Lib.hid n5
          (try replace n0 := Lib.hid (n0.out.below hb))
          (try replace n2 := Lib.hid (n2.out.below hb))
          (try replace b6 := Lib.hid (b6.out.below hb))
          (try replace b7 := Lib.hid (b7.out.below hb))
          (try replace hP := Lib.hid (hP.out.below hb))
          (try replace nA := Lib.hid (nA.out.below hb))
          (try replace nM := Lib.hid (nM.out.below hb))
          (try replace nO := Lib.hid (nO.out.below hb))
          (try replace nX := Lib.hid (nX.out.below hb))
          (try replace n42 := Lib.hid (n42.out.below hb))
          clear hb
          simp only [Act.put, Act.eval, List.setIfInBounds_toArray, List.set_cons_zero, List.set_cons_succ, Array.getD_eq_getD_getElem?, List.getElem?_toArray, List.getElem?_cons_zero, List.getElem?_cons_succ, Option.getD_some, List.getElem_toArray, List.getElem_cons_succ, List.getElem_cons_zero]
          refine Rt.ord_nil ?_
          refine Rt.tree_op ?_
          obtain ⟨qa, ql, qc, qb, qn⟩ := b6.out
          have cc := qb.cell
          have ff := qb.frozen
          clear qb qn
          apply ord_do rfl rfl rfl; (· (go_simp; with_reducible rfl)); (· (simp only [Act.put, Act.eval, List.setIfInBounds_toArray, List.set_cons_zero, List.set_cons_succ, Array.getD_eq_getD_getElem?, List.getElem?_toArray, List.getElem?_cons_zero, List.getElem?_cons_succ, Option.getD_some, List.getElem_toArray, List.getElem_cons_succ, List.getElem_cons_zero]; with_reducible rfl))
          clear cc ff
          have b6' := Lib.hid (b6.out.put n2.out)
          have b7' := Lib.hid (b7.out.other b6.out (by first | exact hne | exact hne.symm) (.slice v2a v2l v2c))
          have n5' := Lib.hid (n5.out.otherV b6.out (.slice v2a v2l v2c))
          have hP' := Lib.hid (hP.out.put hlo6 b6.out (.slice v2a v2l v2c))
          clear b6 b7 n5 hP
          obtain ⟨x6, hx6⟩ : ∃ W, x5.setCell ⟨g6, 0, none⟩ (.slice v2a v2l v2c) = W := ⟨_, rfl⟩
          rw [hx6] at b6' b7' n5' hP' ⊢
          have b6 := b6'
          have b7 := b7'
          have n5 := n5'
          have hP := hP'
          clear b6' b7' n5' hP' hx6
          refine Rt.ord_nil ?_
          refine Rt.tree_op ?_
          obtain ⟨qa, ql, qc, qb, qn⟩ := b7.out
          have cc := qb.cell
          have ff := qb.frozen
          clear qb qn
          apply ord_do rfl rfl rfl; (· (go_simp; with_reducible rfl)); (· (simp only [Act.put, Act.eval, List.setIfInBounds_toArray, List.set_cons_zero, List.set_cons_succ, Array.getD_eq_getD_getElem?, List.getElem?_toArray, List.getElem?_cons_zero, List.getElem?_cons_succ, Option.getD_some, List.getElem_toArray, List.getElem_cons_succ, List.getElem_cons_zero]; with_reducible rfl))
          clear cc ff
          have b6' := Lib.hid (b6.out.other b7.out (by first | exact hne | exact hne.symm) (.slice v5a v5l v5c))
          have b7' := Lib.hid (b7.out.put n5.out)
          have hP' := Lib.hid (hP.out.put hlo7 b7.out (.slice v5a v5l v5c))
          refine Rt.ord_nil ?_
          refine Rt.tree_fin ?_
          go_wp2_with fail
          go_meet
          case rel => exact ⟨g6, g7, rfl, rfl, Lib.hid ⟨hP'.out, by have h := b6'.out; rw [hm1] at h; exact h, by have h := b7'.out; rw [hm2] at h; exact h, by first | exact hne | exact hne.symm, hlo6, hlo7⟩⟩
    · apply ord_new rfl rfl rfl; (· (go_simp; exact ⟨rfl, rfl⟩)); (· (exact (Below.refl _ _).alloc (Nat.le_refl _) _)); (· (simp only [Act.put, Act.eval, List.setIfInBounds_toArray, List.set_cons_zero, List.set_cons_succ, Array.getD_eq_getD_getElem?, List.getElem?_toArray, List.getElem?_cons_zero, List.getElem?_cons_succ, Option.getD_some, List.getElem_toArray, List.getElem_cons_succ, List.getElem_cons_zero]; with_reducible rfl))
      have b6x := Var.made (NumAt.zero x0)
      have hb : Below x0.heap.size x0 (x0.alloc (.cells #[.slice none 0 0] 26)) := (Below.refl _ _).alloc (Nat.le_refl _) _
      have hlo6 : w.heap.size + 4 ≤ x0.heap.size := hP.out.size
      (try have hne := Nat.ne_of_lt b7.out.lt)
      obtain ⟨x1, hx1⟩ : ∃ W, x0.alloc (.cells #[.slice none 0 0] 26) = W := ⟨_, rfl⟩
      rw [hx1] at b6x hb ⊢
      (try replace n0 := Lib.hid (n0.out.below hb))
      (try replace n2 := Lib.hid (n2.out.below hb))
      (try replace n5 := Lib.hid (n5.out.below hb))
      (try replace b7 := Lib.hid (b7.out.below hb))
      (try replace hP := Lib.hid (hP.out.below hb))
      (try replace nA := Lib.hid (nA.out.below hb))
      (try replace nM := Lib.hid (nM.out.below hb))
      (try replace nO := Lib.hid (nO.out.below hb))
      (try replace nX := Lib.hid (nX.out.below hb))
      (try replace n42 := Lib.hid (n42.out.below hb))
      clear hb
      obtain ⟨g6, hg6⟩ : ∃ g, x0.heap.size = g := ⟨_, rfl⟩
      rw [hg6] at b6x hlo6 ⊢
      (try rw [hg6] at hne)
      have b6 := Lib.hid b6x
      clear b6x hx1 hg6
      refine Rt.ord_nil ?_
      refine Rt.tree_two ?_ ?_
      · refine ord_call rfl rfl rfl (by go_simp; exact ⟨rfl, rfl⟩) ?_
        refine (Small_1 _).mono ?_
        rintro e x2 ⟨v0, rfl, n0, hb⟩
        obtain ⟨v0a, v0l, v0c, rfl⟩ := n0.shape
        refine ⟨_, rfl, hb, ?_⟩
        replace n0 := Lib.hid n0
        (try replace n2 := Lib.hid (n2.out.below hb))
        (try replace n5 := Lib.hid (n5.out.below hb))
        (try replace b6 := Lib.hid (b6.out.below hb))
        (try replace b7 := Lib.hid (b7.out.below hb))
        (try replace hP := Lib.hid (hP.out.below hb))
        (try replace nA := Lib.hid (nA.out.below hb))
        (try replace nM := Lib.hid (nM.out.below hb))
        (try replace nO := Lib.hid (nO.out.below hb))
        (try replace nX := Lib.hid (nX.out.below hb))
        (try replace n42 := Lib.hid (n42.out.below hb))
        clear hb
        simp only [Act.put, Act.eval, List.setIfInBounds_toArray, List.set_cons_zero, List.set_cons_succ, Array.getD_eq_getD_getElem?, List.getElem?_toArray, List.getElem?_cons_zero, List.getElem?_cons_succ, Option.getD_some, List.getElem_toArray, List.getElem_cons_succ, List.getElem_cons_zero]
        refine Rt.ord_nil ?_
        refine Rt.tree_two ?_ ?_
        · refine ord_call rfl rfl rfl (by go_simp; exact ⟨rfl, rfl⟩) ?_
          refine (mod_N n0.out nM.out (by decide) (Nat.le_trans hmB (by decide))).mono ?_
          rintro e x3 ⟨v2, rfl, n2, hb⟩
          obtain ⟨v2a, v2l, v2c, rfl⟩ := n2.shape
          refine ⟨_, rfl, hb, ?_⟩
          replace n2 := Lib.hid n2
          (try replace n0 := Lib.hid (n0.out.below hb))
          (try replace n5 := Lib.hid (n5.out.below hb))
          (try replace b6 := Lib.hid (b6.out.below hb))
          (try replace b7 := Lib.hid (b7.out.below hb))
          (try replace hP := Lib.hid (hP.out.below hb))
          (try replace nA := Lib.hid (nA.out.below hb))
          (try replace nM := Lib.hid (nM.out.below hb))
          (try replace nO := Lib.hid (nO.out.below hb))
          (try replace nX := Lib.hid (nX.out.below hb))
          (try replace n42 := Lib.hid (n42.out.below hb))
          clear hb
          simp only [Act.put, Act.eval, List.setIfInBounds_toArray, List.set_cons_zero, List.set_cons_succ, Array.getD_eq_getD_getElem?, List.getElem?_toArray, List.getElem?_cons_zero, List.getElem?_cons_succ, Option.getD_some, List.getElem_toArray, List.getElem_cons_succ, List.getElem_cons_zero]
          refine Rt.ord_nil ?_
          refine Rt.tree_two ?_ ?_
          · refine ord_call rfl rfl rfl (by go_simp; exact ⟨rfl, rfl⟩) ?_
            refine (mod_N nA.out nM.out haB (Nat.le_trans hmB (by decide))).mono ?_
            rintro e x4 ⟨v5, rfl, n5, hb⟩
            obtain ⟨v5a, v5l, v5c, rfl⟩ := n5.shape
            refine ⟨_, rfl, hb, ?_⟩
            replace n5 := Lib.hid n5
            (try replace n0 := Lib.hid (n0.out.below hb))
            (try replace n2 := Lib.hid (n2.out.below hb))
            (try replace b6 := Lib.hid (b6.out.below hb))
            (try replace b7 := Lib.hid (b7.out.below hb))
            (try replace hP := Lib.hid (hP.out.below hb))
            (try replace nA := Lib.hid (nA.out.below hb))
            (try replace nM := Lib.hid (nM.out.below hb))
            (try replace nO := Lib.hid (nO.out.below hb))
            (try replace nX := Lib.hid (nX.out.below hb))
            (try replace n42 := Lib.hid (n42.out.below hb))
            clear hb
            simp only [Act.put, Act.eval, List.setIfInBounds_toArray, List.set_cons_zero, List.set_cons_succ, Array.getD_eq_getD_getElem?, List.getElem?_toArray, List.getElem?_cons_zero, List.getElem?_cons_succ, Option.getD_some, List.getElem_toArray, List.getElem_cons_succ, List.getElem_cons_zero]
            refine Rt.ord_nil ?_
            refine Rt.tree_op ?_
            apply ord_new rfl rfl rfl; (· (go_simp; exact ⟨rfl, rfl⟩)); (· (exact (Below.refl _ _).alloc (Nat.le_refl _) _)); (· (simp only [Act.put, Act.eval, List.setIfInBounds_toArray, List.set_cons_zero, List.set_cons_succ, Array.getD_eq_getD_getElem?, List.getElem?_toArray, List.getElem?_cons_zero, List.getElem?_cons_succ, Option.getD_some, List.getElem_toArray, List.getElem_cons_succ, List.getElem_cons_zero]; with_reducible rfl))
            have b7x := Var.made (NumAt.zero x4)
            have hb : Below x4.heap.size x4 (x4.alloc (.cells #[.slice none 0 0] 26)) := (Below.refl _ _).alloc (Nat.le_refl _) _
            have hlo7 : w.heap.size + 4 ≤ x4.heap.size := hP.out.size
            (try have hne := Nat.ne_of_lt b6.out.lt)
            obtain ⟨x5, hx5⟩ : ∃ W, x4.alloc (.cells #[.slice none 0 0] 26) = W := ⟨_, rfl⟩
            rw [hx5] at b7x hb ⊢
            (try replace n0 := Lib.hid (n0.out.below hb))
            (try replace n2 := Lib.hid (n2.out.below hb))
            (try replace n5 := Lib.hid (n5.out.below hb))
            (try replace b6 := Lib.hid (b6.out.below hb))
            (try replace hP := Lib.hid (hP.out.below hb))
            (try replace nA := Lib.hid (nA.out.below hb))
            (try replace nM := Lib.hid (nM.out.below hb))
            (try replace nO := Lib.hid (nO.out.below hb))
            (try replace nX := Lib.hid (nX.out.below hb))
            (try replace n42 := Lib.hid (n42.out.below hb))
            clear hb
            obtain ⟨g7, hg7⟩ : ∃ g, x4.heap.size = g := ⟨_, rfl⟩
            rw [hg7] at b7x hlo7 ⊢
            (try rw [hg7] at hne)
            have b7 := Lib.hid b7x
            clear b7x hx5 hg7
            refine Rt.ord_nil ?_
            refine Rt.tree_op ?_
            obtain ⟨qa, ql, qc, qb, qn⟩ := b6.out
            have cc := qb.cell
            have ff := qb.frozen
            clear qb qn
            apply ord_do rfl rfl rfl; (· (go_simp; with_reducible rfl)); (· (simp only [Act.put, Act.eval, List.setIfInBounds_toArray, List.set_cons_zero, List.set_cons_succ, Array.getD_eq_getD_getElem?, List.getElem?_toArray, List.getElem?_cons_zero, List.getElem?_cons_succ, Option.getD_some, List.getElem_toArray, List.getElem_cons_succ, List.getElem_cons_zero]; with_reducible rfl))
            clear cc ff
            have b6' := Lib.hid (b6.out.put n2.out)
            have b7' := Lib.hid (b7.out.other b6.out (by first | exact hne | exact hne.symm) (.slice v2a v2l v2c))
            have n5' := Lib.hid (n5.out.otherV b6.out (.slice v2a v2l v2c))
            have hP' := Lib.hid (hP.out.put hlo6 b6.out (.slice v2a v2l v2c))
            clear b6 b7 n5 hP
            obtain ⟨x6, hx6⟩ : ∃ W, x5.setCell ⟨g6, 0, none⟩ (.slice v2a v2l v2c) = W := ⟨_, rfl⟩
            rw [hx6] at b6' b7' n5' hP' ⊢
            have b6 := b6'
            have b7 := b7'
            have n5 := n5'
            have hP := hP'
            clear b6' b7' n5' hP' hx6
            refine Rt.ord_nil ?_
            refine Rt.tree_op ?_
            obtain ⟨qa, ql, qc, qb, qn⟩ := b7.out
            have cc := qb.cell
            have ff := qb.frozen
            clear qb qn
            apply ord_do rfl rfl rfl; (· (go_simp; with_reducible rfl)); (· (simp only [Act.put, Act.eval, List.setIfInBounds_toArray, List.set_cons_zero, List.set_cons_succ, Array.getD_eq_getD_getElem?, List.getElem?_toArray, List.getElem?_cons_zero, List.getElem?_cons_succ, Option.getD_some, List.getElem_toArray, List.getElem_cons_succ, List.getElem_cons_zero]; with_reducible rfl))
            clear cc ff
            have b6' := Lib.hid (b6.out.other b7.out (by first | exact hne | exact hne.symm) (.slice v5a v5l v5c))
            have b7' := Lib.hid (b7.out.put n5.out)
            have hP' := Lib.hid (hP.out.put hlo7 b7.out (.slice v5a v5l v5c))
            refine Rt.ord_nil ?_
            refine Rt.tree_fin ?_
            go_wp2_with fail
            go_meet
            case rel => exact ⟨g6, g7, rfl, rfl, Lib.hid ⟨hP'.out, by have h := b6'.out; rw [hm1] at h; exact h, by have h := b7'.out; rw [hm2] at h; exact h, by first | exact hne | exact hne.symm, hlo6, hlo7⟩⟩
          · apply ord_new rfl rfl rfl; (· (go_simp; exact ⟨rfl, rfl⟩)); (· (exact (Below.refl _ _).alloc (Nat.le_refl _) _)); (· (simp only [Act.put, Act.eval, List.setIfInBounds_toArray, List.set_cons_zero, List.set_cons_succ, Array.getD_eq_getD_getElem?, List.getElem?_toArray, List.getElem?_cons_zero, List.getElem?_cons_succ, Option.getD_some, List.getElem_toArray, List.getElem_cons_succ, List.getElem_cons_zero]; with_reducible rfl))
            have b7x := Var.made (NumAt.zero x3)
            have hb : Below x3.heap.size x3 (x3.alloc (.cells #[.slice none 0 0] 26)) := (Below.refl _ _).alloc (Nat.le_refl _) _
            have hlo7 : w.heap.size + 4 ≤ x3.heap.size := hP.out.size
            (try have hne := Nat.ne_of_lt b6.out.lt)
            obtain ⟨x4, hx4⟩ : ∃ W, x3.alloc (.cells #[.slice none 0 0] 26) = W := ⟨_, rfl⟩
            rw [hx4] at b7x hb ⊢
            (try replace n0 := Lib.hid (n0.out.below hb))
            (try replace n2 := Lib.hid (n2.out.below hb))
            (try replace n5 := Lib.hid (n5.out.below hb))
            (try replace b6 := Lib.hid (b6.out.below hb))
            (try replace hP := Lib.hid (hP.out.below hb))
            (try replace nA := Lib.hid (nA.out.below hb))
            (try replace nM := Lib.hid (nM.out.below hb))
            (try replace nO := Lib.hid (nO.out.below hb))
            (try replace nX := Lib.hid (nX.out.below hb))
            (try replace n42 := Lib.hid (n42.out.below hb))
            clear hb
            obtain ⟨g7, hg7⟩ : ∃ g, x3.heap.size = g := ⟨_, rfl⟩
            rw [hg7] at b7x hlo7 ⊢
            (try rw [hg7] at hne)
            have b7 := Lib.hid b7x
            clear b7x hx4 hg7
            refine Rt.ord_nil ?_
            refine Rt.tree_op ?_
            refine ord_call rfl rfl rfl (by go_simp; exact ⟨rfl, rfl⟩) ?_
            refine (mod_N nA.out nM.out haB (Nat.le_trans hmB (by decide))).mono ?_
            rintro e x5 ⟨v5, rfl, n5, hb⟩
            obtain ⟨v5a, v5l, v5c, rfl⟩ := n5.shape
            refine ⟨_, rfl, hb, ?_⟩
            replace n5 := Lib.hid n5
            (try replace n0 := Lib.hid (n0.out.below hb))
            (try replace n2 := Lib.hid (n2.out.below hb))
            (try replace b6 := Lib.hid (b6.out.below hb))
            (try replace b7 := Lib.hid (b7.out.below hb))
            (try replace hP := Lib.hid (hP.out.below hb))
            (try replace nA := Lib.hid (nA.out.below hb))
            (try replace nM := Lib.hid (nM.out.below hb))
            (try replace nO := Lib.hid (nO.out.below hb))
            (try replace nX := Lib.hid (nX.out.below hb))
            (try replace n42 := Lib.hid (n42.out.below hb))
            clear hb
            simp only [Act.put, Act.eval, List.setIfInBounds_toArray, List.set_cons_zero, List.set_cons_succ, Array.getD_eq_getD_getElem?, List.getElem?_toArray, List.getElem?_cons_zero, List.getElem?_cons_succ, Option.getD_some, List.getElem_toArray, List.getElem_cons_succ, List.getElem_cons_zero]
            refine Rt.ord_nil ?_
            refine Rt.tree_op ?_
            obtain ⟨qa, ql, qc, qb, qn⟩ := b6.out
            have cc := qb.cell
            have ff := qb.frozen
            clear qb qn
            apply ord_do rfl rfl rfl; (· (go_simp; with_reducible rfl)); (· (simp only [Act.put, Act.eval, List.setIfInBounds_toArray, List.set_cons_zero, List.set_cons_succ, Array.getD_eq_getD_getElem?, List.getElem?_toArray, List.getElem?_cons_zero, List.getElem?_cons_succ, Option.getD_some, List.getElem_toArray, List.getElem_cons_succ, List.getElem_cons_zero]; with_reducible rfl))
            clear cc ff
            have b6' := Lib.hid (b6.out.put n2.out)
            have b7' := Lib.hid (b7.out.other b6.out (by first | exact hne | exact hne.symm) (.slice v2a v2l v2c))
            have n5' := Lib.hid (n5.out.otherV b6.out (.slice v2a v2l v2c))
            have hP' := Lib.hid (hP.out.put hlo6 b6.out (.slice v2a v2l v2c))
            clear b6 b7 n5 hP
            obtain ⟨x6, hx6⟩ : ∃ W, x5.setCell ⟨g6, 0, none⟩ (.slice v2a v2l v2c) = W := ⟨_, rfl⟩
            rw [hx6] at b6' b7' n5' hP' ⊢
            have b6 := b6'
            have b7 := b7'
            have n5 := n5'
            have hP := hP'
            clear b6' b7' n5' hP' hx6
            refine Rt.ord_nil ?_
            refine Rt.tree_op ?_
            obtain ⟨qa, ql, qc, qb, qn⟩ := b7.out
            have cc := qb.cell
            have ff := qb.frozen
            clear qb qn
            apply ord_do rfl rfl rfl; (· (go_simp; with_reducible rfl)); (· (simp only [Act.put, Act.eval, List.setIfInBounds_toArray, List.set_cons_zero, List.set_cons_succ, Array.getD_eq_getD_getElem?, List.getElem?_toArray, List.getElem?_cons_zero, List.getElem?_cons_succ, Option.getD_some, List.getElem_toArray, List.getElem_cons_succ, List.getElem_cons_zero]; with_reducible rfl))
            clear cc ff
            have b6' := Lib.hid (b6.out.other b7.out (by first | exact hne | exact hne.symm) (.slice v5a v5l v5c))
            have b7' := Lib.hid (b7.out.put n5.out)
            have hP' := Lib.hid (hP.out.put hlo7 b7.out (.slice v5a v5l v5c))
            refine Rt.ord_nil ?_
            refine Rt.tree_fin ?_
            go_wp2_with fail
            go_meet
            case rel => exact ⟨g6, g7, rfl, rfl, Lib.hid ⟨hP'.out, by have h := b6'.out; rw [hm1] at h; exact h, by have h := b7'.out; rw [hm2] at h; exact h, by first | exact hne | exact hne.symm, hlo6, hlo7⟩⟩
        · apply ord_new rfl rfl rfl; (· (go_simp; exact ⟨rfl, rfl⟩)); (· (exact (Below.refl _ _).alloc (Nat.le_refl _) _)); (· (simp only [Act.put, Act.eval, List.setIfInBounds_toArray, List.set_cons_zero, List.set_cons_succ, Array.getD_eq_getD_getElem?, List.getElem?_toArray, List.getElem?_cons_zero, List.getElem?_cons_succ, Option.getD_some, List.getElem_toArray, List.getElem_cons_succ, List.getElem_cons_zero]; with_reducible rfl))
          have b7x := Var.made (NumAt.zero x2)
          have hb : Below x2.heap.size x2 (x2.alloc (.cells #[.slice none 0 0] 26)) := (Below.refl _ _).alloc (Nat.le_refl _) _
          have hlo7 : w.heap.size + 4 ≤ x2.heap.size := hP.out.size
          (try have hne := Nat.ne_of_lt b6.out.lt)
          obtain ⟨x3, hx3⟩ : ∃ W, x2.alloc (.cells #[.slice none 0 0] 26) = W := ⟨_, rfl⟩
          rw [hx3] at b7x hb ⊢
          (try replace n0 := Lib.hid (n0.out.below hb))
          (try replace n2 := Lib.hid (n2.out.below hb))
          (try replace n5 := Lib.hid (n5.out.below hb))
          (try replace b6 := Lib.hid (b6.out.below hb))
          (try replace hP := Lib.hid (hP.out.below hb))
          (try replace nA := Lib.hid (nA.out.below hb))
          (try replace nM := Lib.hid (nM.out.below hb))
          (try replace nO := Lib.hid (nO.out.below hb))
          (try replace nX := Lib.hid (nX.out.below hb))
          (try replace n42 := Lib.hid (n42.out.below hb))
          clear hb
          obtain ⟨g7, hg7⟩ : ∃ g, x2.heap.size = g := ⟨_, rfl⟩
          rw [hg7] at b7x hlo7 ⊢
          (try rw [hg7] at hne)
          have b7 := Lib.hid b7x
          clear b7x hx3 hg7
          refine Rt.ord_nil ?_
          refine Rt.tree_op ?_
          refine ord_call rfl rfl rfl (by go_simp; exact ⟨rfl, rfl⟩) ?_
          refine (mod_N n0.out nM.out (by decide) (Nat.le_trans hmB (by decide))).mono ?_
          rintro e x4 ⟨v2, rfl, n2, hb⟩
          obtain ⟨v2a, v2l, v2c, rfl⟩ := n2.shape
          refine ⟨_, rfl, hb, ?_⟩
          replace n2 := Lib.hid n2
          (try replace n0 := Lib.hid (n0.out.below hb))
          (try replace n5 := Lib.hid (n5.out.below hb))
          (try replace b6 := Lib.hid (b6.out.below hb))
          (try replace b7 := Lib.hid (b7.out.below hb))
          (try replace hP := Lib.hid (hP.out.below hb))
          (try replace nA := Lib.hid (nA.out.below hb))
          (try replace nM := Lib.hid (nM.out.below hb))
          (try replace nO := Lib.hid (nO.out.below hb))
          (try replace nX := Lib.hid (nX.out.below hb))
          (try replace n42 := Lib.hid (n42.out.below hb))
          clear hb
          simp only [Act.put, Act.eval, List.setIfInBounds_toArray, List.set_cons_zero, List.set_cons_succ, Array.getD_eq_getD_getElem?, List.getElem?_toArray, List.getElem?_cons_zero, List.getElem?_cons_succ, Option.getD_some, List.getElem_toArray, List.getElem_cons_succ, List.getElem_cons_zero]
          refine Rt.ord_nil ?_
          refine Rt.tree_op ?_
          refine ord_call rfl rfl rfl (by go_simp; exact ⟨rfl, rfl⟩) ?_
          refine (mod_N nA.out nM.out haB (Nat.le_trans hmB (by decide))).mono ?_
          rintro e x5 ⟨v5, rfl, n5, hb⟩
          obtain ⟨v5a, v5l, v5c, rfl⟩ := n5.shape
          refine ⟨_, rfl, hb, ?_⟩
          replace n5 := Lib.hid n5
          (try replace n0 := Lib.hid (n0.out.below hb))
          (try replace n2 := Lib.hid (n2.out.below hb))
          (try replace b6 := Lib.hid (b6.out.below hb))
          (try replace b7 := Lib.hid (b7.out.below hb))
          (try replace hP := Lib.hid (hP.out.below hb))
          (try replace nA := Lib.hid (nA.out.below hb))
          (try replace nM := Lib.hid (nM.out.below hb))
          (try replace nO := Lib.hid (nO.out.below hb))
          (try replace nX := Lib.hid (nX.out.below hb))
          (try replace n42 := Lib.hid (n42.out.below hb))
          clear hb
          simp only [Act.put, Act.eval, List.setIfInBounds_toArray, List.set_cons_zero, List.set_cons_succ, Array.getD_eq_getD_getElem?, List.getElem?_toArray, List.getElem?_cons_zero, List.getElem?_cons_succ, Option.getD_some, List.getElem_toArray, List.getElem_cons_succ, List.getElem_cons_zero]
          refine Rt.ord_nil ?_
          refine Rt.tree_op ?_
          obtain ⟨qa, ql, qc, qb, qn⟩ := b6.out
          have cc := qb.cell
          have ff := qb.frozen
          clear qb qn
          apply ord_do rfl rfl rfl; (· (go_simp; with_reducible rfl)); (· (simp only [Act.put, Act.eval, List.setIfInBounds_toArray, List.set_cons_zero, List.set_cons_succ, Array.getD_eq_getD_getElem?, List.getElem?_toArray, List.getElem?_cons_zero, List.getElem?_cons_succ, Option.getD_some, List.getElem_toArray, List.getElem_cons_succ, List.getElem_cons_zero]; with_reducible rfl))
          clear cc ff
          have b6' := Lib.hid (b6.out.put n2.out)
          have b7' := Lib.hid (b7.out.other b6.out (by first | exact hne | exact hne.symm) (.slice v2a v2l v2c))
          have n5' := Lib.hid (n5.out.otherV b6.out (.slice v2a v2l v2c))
          have hP' := Lib.hid (hP.out.put hlo6 b6.out (.slice v2a v2l v2c))
          clear b6 b7 n5 hP
          obtain ⟨x6, hx6⟩ : ∃ W, x5.setCell ⟨g6, 0, none⟩ (.slice v2a v2l v2c) = W := ⟨_, rfl⟩
          rw [hx6] at b6' b7' n5' hP' ⊢
          have b6 := b6'
          have b7 := b7'
          have n5 := n5'
          have hP := hP'
          clear b6' b7' n5' hP' hx6
          refine Rt.ord_nil ?_
          refine Rt.tree_op ?_
          obtain ⟨qa, ql, qc, qb, qn⟩ := b7.out
          have cc := qb.cell
          have ff := qb.frozen
          clear qb qn
          apply ord_do rfl rfl rfl; (· (go_simp; with_reducible rfl)); (· (simp only [Act.put, Act.eval, List.setIfInBounds_toArray, List.set_cons_zero, List.set_cons_succ, Array.getD_eq_getD_getElem?, List.getElem?_toArray, List.getElem?_cons_zero, List.getElem?_cons_succ, Option.getD_some, List.getElem_toArray, List.getElem_cons_succ, List.getElem_cons_zero]; with_reducible rfl))
          clear cc ff
          have b6' := Lib.hid (b6.out.other b7.out (by first | exact hne | exact hne.symm) (.slice v5a v5l v5c))
          have b7' := Lib.hid (b7.out.put n5.out)
          have hP' := Lib.hid (hP.out.put hlo7 b7.out (.slice v5a v5l v5c))
          refine Rt.ord_nil ?_
          refine Rt.tree_fin ?_
          go_wp2_with fail
          go_meet
          case rel => exact ⟨g6, g7, rfl, rfl, Lib.hid ⟨hP'.out, by have h := b6'.out; rw [hm1] at h; exact h, by have h := b7'.out; rw [hm2] at h; exact h, by first | exact hne | exact hne.symm, hlo6, hlo7⟩⟩
      · apply ord_new rfl rfl rfl; (· (go_simp; exact ⟨rfl, rfl⟩)); (· (exact (Below.refl _ _).alloc (Nat.le_refl _) _)); (· (simp only [Act.put, Act.eval, List.setIfInBounds_toArray, List.set_cons_zero, List.set_cons_succ, Array.getD_eq_getD_getElem?, List.getElem?_toArray, List.getElem?_cons_zero, List.getElem?_cons_succ, Option.getD_some, List.getElem_toArray, List.getElem_cons_succ, List.getElem_cons_zero]; with_reducible rfl))
        have b7x := Var.made (NumAt.zero x1)
        have hb : Below x1.heap.size x1 (x1.alloc (.cells #[.slice none 0 0] 26)) := (Below.refl _ _).alloc (Nat.le_refl _) _
        have hlo7 : w.heap.size + 4 ≤ x1.heap.size := hP.out.size
        (try have hne := Nat.ne_of_lt b6.out.lt)
        obtain ⟨x2, hx2⟩ : ∃ W, x1.alloc (.cells #[.slice none 0 0] 26) = W := ⟨_, rfl⟩
        rw [hx2] at b7x hb ⊢
        (try replace n0 := Lib.hid (n0.out.below hb))
        (try replace n2 := Lib.hid (n2.out.below hb))
        (try replace n5 := Lib.hid (n5.out.below hb))
        (try replace b6 := Lib.hid (b6.out.below hb))
        (try replace hP := Lib.hid (hP.out.below hb))
        (try replace nA := Lib.hid (nA.out.below hb))
        (try replace nM := Lib.hid (nM.out.below hb))
        (try replace nO := Lib.hid (nO.out.below hb))
        (try replace nX := Lib.hid (nX.out.below hb))
        (try replace n42 := Lib.hid (n42.out.below hb))
        clear hb
        obtain ⟨g7, hg7⟩ : ∃ g, x1.heap.size = g := ⟨_, rfl⟩
        rw [hg7] at b7x hlo7 ⊢
        (try rw [hg7] at hne)
        have b7 := Lib.hid b7x
        clear b7x hx2 hg7
        refine Rt.ord_nil ?_
        refine Rt.tree_op ?_
        refine ord_call rfl rfl rfl (by go_simp; exact ⟨rfl, rfl⟩) ?_
        refine (Small_1 _).mono ?_
        rintro e x3 ⟨v0, rfl, n0, hb⟩
        obtain ⟨v0a, v0l, v0c, rfl⟩ := n0.shape
        refine ⟨_, rfl, hb, ?_⟩
        replace n0 := Lib.hid n0
        (try replace n2 := Lib.hid (n2.out.below hb))
        (try replace n5 := Lib.hid (n5.out.below hb))
        (try replace b6 := Lib.hid (b6.out.below hb))
        (try replace b7 := Lib.hid (b7.out.below hb))
        (try replace hP := Lib.hid (hP.out.below hb))
        (try replace nA := Lib.hid (nA.out.below hb))
        (try replace nM := Lib.hid (nM.out.below hb))
        (try replace nO := Lib.hid (nO.out.below hb))
        (try replace nX := Lib.hid (nX.out.below hb))
        (try replace n42 := Lib.hid (n42.out.below hb))
        clear hb
        simp only [Act.put, Act.eval, List.setIfInBounds_toArray, List.set_cons_zero, List.set_cons_succ, Array.getD_eq_getD_getElem?, List.getElem?_toArray, List.getElem?_cons_zero, List.getElem?_cons_succ, Option.getD_some, List.getElem_toArray, List.getElem_cons_succ, List.getElem_cons_zero]
        refine Rt.ord_nil ?_
        refine Rt.tree_op ?_
        refine ord_call rfl rfl rfl (by go_simp; exact ⟨rfl, rfl⟩) ?_
        refine (mod_N n0.out nM.out (by decide) (Nat.le_trans hmB (by decide))).mono ?_
        rintro e x4 ⟨v2, rfl, n2, hb⟩
        obtain ⟨v2a, v2l, v2c, rfl⟩ := n2.shape
        refine ⟨_, rfl, hb, ?_⟩
        replace n2 := Lib.hid n2
        (try replace n0 := Lib.hid (n0.out.below hb))
        (try replace n5 := Lib.hid (n5.out.below hb))
        (try replace b6 := Lib.hid (b6.out.below hb))
        (try replace b7 := Lib.hid (b7.out.below hb))
        (try replace hP := Lib.hid (hP.out.below hb))
        (try replace nA := Lib.hid (nA.out.below hb))
        (try replace nM := Lib.hid (nM.out.below hb))
        (try replace nO := Lib.hid (nO.out.below hb))
        (try replace nX := Lib.hid (nX.out.below hb))
        (try replace n42 := Lib.hid (n42.out.below hb))
        clear hb
        simp only [Act.put, Act.eval, List.setIfInBounds_toArray, List.set_cons_zero, List.set_cons_succ, Array.getD_eq_getD_getElem?, List.getElem?_toArray, List.getElem?_cons_zero, List.getElem?_cons_succ, Option.getD_some, List.getElem_toArray, List.getElem_cons_succ, List.getElem_cons_zero]
        refine Rt.ord_nil ?_
        refine Rt.tree_op ?_
        refine ord_call rfl rfl rfl (by go_simp; exact ⟨rfl, rfl⟩) ?_
        refine (mod_N nA.out nM.out haB (Nat.le_trans hmB (by decide))).mono ?_
        rintro e x5 ⟨v5, rfl, n5, hb⟩
        obtain ⟨v5a, v5l, v5c, rfl⟩ := n5.shape
        refine ⟨_, rfl, hb, ?_⟩
        replace n5 := Lib.hid n5
        (try replace n0 := Lib.hid (n0.out.below hb))
        (try replace n2 := Lib.hid (n2.out.below hb))
        (try replace b6 := Lib.hid (b6.out.below hb))
        (try replace b7 := Lib.hid (b7.out.below hb))
        (try replace hP := Lib.hid (hP.out.below hb))
        (try replace nA := Lib.hid (nA.out.below hb))
        (try replace nM := Lib.hid (nM.out.below hb))
        (try replace nO := Lib.hid (nO.out.below hb))
        (try replace nX := Lib.hid (nX.out.below hb))
        (try replace n42 := Lib.hid (n42.out.below hb))
        clear hb
        simp only [Act.put, Act.eval, List.setIfInBounds_toArray, List.set_cons_zero, List.set_cons_succ, Array.getD_eq_getD_getElem?, List.getElem?_toArray, List.getElem?_cons_zero, List.getElem?_cons_succ, Option.getD_some, List.getElem_toArray, List.getElem_cons_succ, List.getElem_cons_zero]
        refine Rt.ord_nil ?_
        refine Rt.tree_op ?_
        obtain ⟨qa, ql, qc, qb, qn⟩ := b6.out
        have cc := qb.cell
        have ff := qb.frozen
        clear qb qn
        apply ord_do rfl rfl rfl; (· (go_simp; with_reducible rfl)); (· (simp only [Act.put, Act.eval, List.setIfInBounds_toArray, List.set_cons_zero, List.set_cons_succ, Array.getD_eq_getD_getElem?, List.getElem?_toArray, List.getElem?_cons_zero, List.getElem?_cons_succ, Option.getD_some, List.getElem_toArray, List.getElem_cons_succ, List.getElem_cons_zero]; with_reducible rfl))
        clear cc ff
        have b6' := Lib.hid (b6.out.put n2.out)
        have b7' := Lib.hid (b7.out.other b6.out (by first | exact hne | exact hne.symm) (.slice v2a v2l v2c))
        have n5' := Lib.hid (n5.out.otherV b6.out (.slice v2a v2l v2c))
        have hP' := Lib.hid (hP.out.put hlo6 b6.out (.slice v2a v2l v2c))
        clear b6 b7 n5 hP
        obtain ⟨x6, hx6⟩ : ∃ W, x5.setCell ⟨g6, 0, none⟩ (.slice v2a v2l v2c) = W := ⟨_, rfl⟩
        rw [hx6] at b6' b7' n5' hP' ⊢
        have b6 := b6'
        have b7 := b7'
        have n5 := n5'
        have hP := hP'
        clear b6' b7' n5' hP' hx6
        refine Rt.ord_nil ?_
        refine Rt.tree_op ?_
        obtain ⟨qa, ql, qc, qb, qn⟩ := b7.out
        have cc := qb.cell
        have ff := qb.frozen
        clear qb qn
        apply ord_do rfl rfl rfl; (· (go_simp; with_reducible rfl)); (· (simp only [Act.put, Act.eval, List.setIfInBounds_toArray, List.set_cons_zero, List.set_cons_succ, Array.getD_eq_getD_getElem?, List.getElem?_toArray, List.getElem?_cons_zero, List.getElem?_cons_succ, Option.getD_some, List.getElem_toArray, List.getElem_cons_succ, List.getElem_cons_zero]; with_reducible rfl))
        clear cc ff
        have b6' := Lib.hid (b6.out.other b7.out (by first | exact hne | exact hne.symm) (.slice v5a v5l v5c))
        have b7' := Lib.hid (b7.out.put n5.out)
        have hP' := Lib.hid (hP.out.put hlo7 b7.out (.slice v5a v5l v5c))
        refine Rt.ord_nil ?_
        refine Rt.tree_fin ?_
        go_wp2_with fail
        go_meet
        case rel => exact ⟨g6, g7, rfl, rfl, Lib.hid ⟨hP'.out, by have h := b6'.out; rw [hm1] at h; exact h, by have h := b7'.out; rw [hm2] at h; exact h, by first | exact hne | exact hne.symm, hlo6, hlo7⟩⟩
    · apply ord_new rfl rfl rfl; (· (go_simp; exact ⟨rfl, rfl⟩)); (· (exact (Below.refl _ _).alloc (Nat.le_refl _) _)); (· (simp only [Act.put, Act.eval, List.setIfInBounds_toArray, List.set_cons_zero, List.set_cons_succ, Array.getD_eq_getD_getElem?, List.getElem?_toArray, List.getElem?_cons_zero, List.getElem?_cons_succ, Option.getD_some, List.getElem_toArray, List.getElem_cons_succ, List.getElem_cons_zero]; with_reducible rfl))
      have b7x := Var.made (NumAt.zero x0)
      have hb : Below x0.heap.size x0 (x0.alloc (.cells #[.slice none 0 0] 26)) := (Below.refl _ _).alloc (Nat.le_refl _) _
      have hlo7 : w.heap.size + 4 ≤ x0.heap.size := hP.out.size
      (try have hne := Nat.ne_of_lt b6.out.lt)
      obtain ⟨x1, hx1⟩ : ∃ W, x0.alloc (.cells #[.slice none 0 0] 26) = W := ⟨_, rfl⟩
      rw [hx1] at b7x hb ⊢
      (try replace n0 := Lib.hid (n0.out.below hb))
      (try replace n2 := Lib.hid (n2.out.below hb))
      (try replace n5 := Lib.hid (n5.out.below hb))
      (try replace b6 := Lib.hid (b6.out.below hb))
      (try replace hP := Lib.hid (hP.out.below hb))
      (try replace nA := Lib.hid (nA.out.below hb))
      (try replace nM := Lib.hid (nM.out.below hb))
      (try replace nO := Lib.hid (nO.out.below hb))
      (try replace nX := Lib.hid (nX.out.below hb))
      (try replace n42 := Lib.hid (n42.out.below hb))
      clear hb
      obtain ⟨g7, hg7⟩ : ∃ g, x0.heap.size = g := ⟨_, rfl⟩
      rw [hg7] at b7x hlo7 ⊢
      (try rw [hg7] at hne)
      have b7 := Lib.hid b7x
      clear b7x hx1 hg7
      refine Rt.ord_nil ?_
      refine Rt.tree_two ?_ ?_
      · refine ord_call rfl rfl rfl (by go_simp; exact ⟨rfl, rfl⟩) ?_
        refine (Small_1 _).mono ?_
        rintro e x2 ⟨v0, rfl, n0, hb⟩
        obtain ⟨v0a, v0l, v0c, rfl⟩ := n0.shape
        refine ⟨_, rfl, hb, ?_⟩
        replace n0 := Lib.hid n0
        (try replace n2 := Lib.hid (n2.out.below hb))
        (try replace n5 := Lib.hid (n5.out.below hb))
        (try replace b6 := Lib.hid (b6.out.below hb))
        (try replace b7 := Lib.hid (b7.out.below hb))
        (try replace hP := Lib.hid (hP.out.below hb))
        (try replace nA := Lib.hid (nA.out.below hb))
        (try replace nM := Lib.hid (nM.out.below hb))
        (try replace nO := Lib.hid (nO.out.below hb))
        (try replace nX := Lib.hid (nX.out.below hb))
        (try replace n42 := Lib.hid (n42.out.below hb))
        clear hb
        simp only [Act.put, Act.eval, List.setIfInBounds_toArray, List.set_cons_zero, List.set_cons_succ, Array.getD_eq_getD_getElem?, List.getElem?_toArray, List.getElem?_cons_zero, List.getElem?_cons_succ, Option.getD_some, List.getElem_toArray, List.getElem_cons_succ, List.getElem_cons_zero]
        refine Rt.ord_nil ?_
        refine Rt.tree_two ?_ ?_
        · refine ord_call rfl rfl rfl (by go_simp; exact ⟨rfl, rfl⟩) ?_
          refine (mod_N n0.out nM.out (by decide) (Nat.le_trans hmB (by decide))).mono ?_
          rintro e x3 ⟨v2, rfl, n2, hb⟩
          obtain ⟨v2a, v2l, v2c, rfl⟩ := n2.shape
          refine ⟨_, rfl, hb, ?_⟩
          replace n2 := Lib.hid n2
          (try replace n0 := Lib.hid (n0.out.below hb))
          (try replace n5 := Lib.hid (n5.out.below hb))
          (try replace b6 := Lib.hid (b6.out.below hb))
          (try replace b7 := Lib.hid (b7.out.below hb))
          (try replace hP := Lib.hid (hP.out.below hb))
          (try replace nA := Lib.hid (nA.out.below hb))
          (try replace nM := Lib.hid (nM.out.below hb))
          (try replace nO := Lib.hid (nO.out.below hb))
          (try replace nX := Lib.hid (nX.out.below hb))
          (try replace n42 := Lib.hid (n42.out.below hb))
          clear hb
          simp only [Act.put, Act.eval, List.setIfInBounds_toArray, List.set_cons_zero, List.set_cons_succ, Array.getD_eq_getD_getElem?, List.getElem?_toArray, List.getElem?_cons_zero, List.getElem?_cons_succ, Option.getD_some, List.getElem_toArray, List.getElem_cons_succ, List.getElem_cons_zero]
          refine Rt.ord_nil ?_
          refine Rt.tree_two ?_ ?_
          · refine ord_call rfl rfl rfl (by go_simp; exact ⟨rfl, rfl⟩) ?_
            refine (mod_N nA.out nM.out haB (Nat.le_trans hmB (by decide))).mono ?_
            rintro e x4 ⟨v5, rfl, n5, hb⟩
            obtain ⟨v5a, v5l, v5c, rfl⟩ := n5.shape
            refine ⟨_, rfl, hb, ?_⟩
            replace n5 := Lib.hid n5
            (try replace n0 := Lib.hid (n0.out.below hb))
            (try replace n2 := Lib.hid (n2.out.below hb))
            (try replace b6 := Lib.hid (b6.out.below hb))
            (try replace b7 := Lib.hid (b7.out.below hb))
            (try replace hP := Lib.hid (hP.out.below hb))
            (try replace nA := Lib.hid (nA.out.below hb))
            (try replace nM := Lib.hid (nM.out.below hb))
            (try replace nO := Lib.hid (nO.out.below hb))
            (try replace nX := Lib.hid (nX.out.below hb))
            (try replace n42 := Lib.hid (n42.out.below hb))
            clear hb
            simp only [Act.put, Act.eval, List.setIfInBounds_toArray, List.set_cons_zero, List.set_cons_succ, Array.getD_eq_getD_getElem?, List.getElem?_toArray, List.getElem?_cons_zero, List.getElem?_cons_succ, Option.getD_some, List.getElem_toArray, List.getElem_cons_succ, List.getElem_cons_zero]
            refine Rt.ord_nil ?_
            refine Rt.tree_op ?_
            apply ord_new rfl rfl rfl; (· (go_simp; exact ⟨rfl, rfl⟩)); (· (exact (Below.refl _ _).alloc (Nat.le_refl _) _)); (· (simp only [Act.put, Act.eval, List.setIfInBounds_toArray, List.set_cons_zero, List.set_cons_succ, Array.getD_eq_getD_getElem?, List.getElem?_toArray, List.getElem?_cons_zero, List.getElem?_cons_succ, Option.getD_some, List.getElem_toArray, List.getElem_cons_succ, List.getElem_cons_zero]; with_reducible rfl))
            have b6x := Var.made (NumAt.zero x4)
            have hb : Below x4.heap.size x4 (x4.alloc (.cells #[.slice none 0 0] 26)) := (Below.refl _ _).alloc (Nat.le_refl _) _
            have hlo6 : w.heap.size + 4 ≤ x4.heap.size := hP.out.size
            (try have hne := Nat.ne_of_lt b7.out.lt)
            obtain ⟨x5, hx5⟩ : ∃ W, x4.alloc (.cells #[.slice none 0 0] 26) = W := ⟨_, rfl⟩
            rw [hx5] at b6x hb ⊢
            (try replace n0 := Lib.hid (n0.out.below hb))
            (try replace n2 := Lib.hid (n2.out.below hb))
            (try replace n5 := Lib.hid (n5.out.below hb))
            (try replace b7 := Lib.hid (b7.out.below hb))
            (try replace hP := Lib.hid (hP.out.below hb))
            (try replace nA := Lib.hid (nA.out.below hb))
            (try replace nM := Lib.hid (nM.out.below hb))
            (try replace nO := Lib.hid (nO.out.below hb))
            (try replace nX := Lib.hid (nX.out.below hb))
            (try replace n42 := Lib.hid (n42.out.below hb))
            clear hb
            obtain ⟨g6, hg6⟩ : ∃ g, x4.heap.size = g := ⟨_, rfl⟩
            rw [hg6] at b6x hlo6 ⊢
            (try rw [hg6] at hne)
            have b6 := Lib.hid b6x
            clear b6x hx5 hg6
            refine Rt.ord_nil ?_
            refine Rt.tree_op ?_
            obtain ⟨qa, ql, qc, qb, qn⟩ := b6.out
            have cc := qb.cell
            have ff := qb.frozen
            clear qb qn
            apply ord_do rfl rfl rfl; (· (go_simp; with_reducible rfl)); (· (simp only [Act.put, Act.eval, List.setIfInBounds_toArray, List.set_cons_zero, List.set_cons_succ, Array.getD_eq_getD_getElem?, List.getElem?_toArray, List.getElem?_cons_zero, List.getElem?_cons_succ, Option.getD_some, List.getElem_toArray, List.getElem_cons_succ, List.getElem_cons_zero]; with_reducible rfl))
            clear cc ff
            have b6' := Lib.hid (b6.out.put n2.out)
            have b7' := Lib.hid (b7.out.other b6.out (by first | exact hne | exact hne.symm) (.slice v2a v2l v2c))
            have n5' := Lib.hid (n5.out.otherV b6.out (.slice v2a v2l v2c))
            have hP' := Lib.hid (hP.out.put hlo6 b6.out (.slice v2a v2l v2c))
            clear b6 b7 n5 hP
            obtain ⟨x6, hx6⟩ : ∃ W, x5.setCell ⟨g6, 0, none⟩ (.slice v2a v2l v2c) = W := ⟨_, rfl⟩
            rw [hx6] at b6' b7' n5' hP' ⊢
            have b6 := b6'
            have b7 := b7'
            have n5 := n5'
            have hP := hP'
            clear b6' b7' n5' hP' hx6
            refine Rt.ord_nil ?_
            refine Rt.tree_op ?_
            obtain ⟨qa, ql, qc, qb, qn⟩ := b7.out
            have cc := qb.cell
            have ff := qb.frozen
            clear qb qn
            apply ord_do rfl rfl rfl; (· (go_simp; with_reducible rfl)); (· (simp only [Act.put, Act.eval, List.setIfInBounds_toArray, List.set_cons_zero, List.set_cons_succ, Array.getD_eq_getD_getElem?, List.getElem?_toArray, List.getElem?_cons_zero, List.getElem?_cons_succ, Option.getD_some, List.getElem_toArray, List.getElem_cons_succ, List.getElem_cons_zero]; with_reducible rfl))
            clear cc ff
            have b6' := Lib.hid (b6.out.other b7.out (by first | exact hne | exact hne.symm) (.slice v5a v5l v5c))
            have b7' := Lib.hid (b7.out.put n5.out)
            have hP' := Lib.hid (hP.out.put hlo7 b7.out (.slice v5a v5l v5c))
            refine Rt.ord_nil ?_
            refine Rt.tree_fin ?_
            go_wp2_with fail
            go_meet
            case rel => exact ⟨g6, g7, rfl, rfl, Lib.hid ⟨hP'.out, by have h := b6'.out; rw [hm1] at h; exact h, by have h := b7'.out; rw [hm2] at h; exact h, by first | exact hne | exact hne.symm, hlo6, hlo7⟩⟩
          · apply ord_new rfl rfl rfl; (· (go_simp; exact ⟨rfl, rfl⟩)); (· (exact (Below.refl _ _).alloc (Nat.le_refl _) _)); (· (simp only [Act.put, Act.eval, List.setIfInBounds_toArray, List.set_cons_zero, List.set_cons_succ, Array.getD_eq_getD_getElem?, List.getElem?_toArray, List.getElem?_cons_zero, List.getElem?_cons_succ, Option.getD_some, List.getElem_toArray, List.getElem_cons_succ, List.getElem_cons_zero]; with_reducible rfl))
            have b6x := Var.made (NumAt.zero x3)
            have hb : Below x3.heap.size x3 (x3.alloc (.cells #[.slice none 0 0] 26)) := (Below.refl _ _).alloc (Nat.le_refl _) _
            have hlo6 : w.heap.size + 4 ≤ x3.heap.size := hP.out.size
            (try have hne := Nat.ne_of_lt b7.out.lt)
            obtain ⟨x4, hx4⟩ : ∃ W, x3.alloc (.cells #[.slice none 0 0] 26) = W := ⟨_, rfl⟩
            rw [hx4] at b6x hb ⊢
            (try replace n0 := Lib.hid (n0.out.below hb))
            (try replace n2 := Lib.hid (n2.out.below hb))
            (try replace n5 := Lib.hid (n5.out.below hb))
            (try replace b7 := Lib.hid (b7.out.below hb))
            (try replace hP := Lib.hid (hP.out.below hb))
            (try replace nA := Lib.hid (nA.out.below hb))
            (try replace nM := Lib.hid (nM.out.below hb))
            (try replace nO := Lib.hid (nO.out.below hb))
            (try replace nX := Lib.hid (nX.out.below hb))
            (try replace n42 := Lib.hid (n42.out.below hb))
            clear hb
            obtain ⟨g6, hg6⟩ : ∃ g, x3.heap.size = g := ⟨_, rfl⟩
            rw [hg6] at b6x hlo6 ⊢
            (try rw [hg6] at hne)
            have b6 := Lib.hid b6x
            clear b6x hx4 hg6
            refine Rt.ord_nil ?_
            refine Rt.tree_op ?_
            refine ord_call rfl rfl rfl (by go_simp; exact ⟨rfl, rfl⟩) ?_
            refine (mod_N nA.out nM.out haB (Nat.le_trans hmB (by decide))).mono ?_
            rintro e x5 ⟨v5, rfl, n5, hb⟩
            obtain ⟨v5a, v5l, v5c, rfl⟩ := n5.shape
            refine ⟨_, rfl, hb, ?_⟩
            replace n5 := Lib.hid n5
            (try replace n0 := Lib.hid (n0.out.below hb))
            (try replace n2 := Lib.hid (n2.out.below hb))
            (try replace b6 := Lib.hid (b6.out.below hb))
            (try replace b7 := Lib.hid (b7.out.below hb))
            (try replace hP := Lib.hid (hP.out.below hb))
            (try replace nA := Lib.hid (nA.out.below hb))
            (try replace nM := Lib.hid (nM.out.below hb))
            (try replace nO := Lib.hid (nO.out.below hb))
            (try replace nX := Lib.hid (nX.out.below hb))
            (try replace n42 := Lib.hid (n42.out.below hb))
            clear hb
            simp only [Act.put, Act.eval, List.setIfInBounds_toArray, List.set_cons_zero, List.set_cons_succ, Array.getD_eq_getD_getElem?, List.getElem?_toArray, List.getElem?_cons_zero, List.getElem?_cons_succ, Option.getD_some, List.getElem_toArray, List.getElem_cons_succ, List.getElem_cons_zero]
            refine Rt.ord_nil ?_
            refine Rt.tree_op ?_
            obtain ⟨qa, ql, qc, qb, qn⟩ := b6.out
            have cc := qb.cell
            have ff := qb.frozen
            clear qb qn
            apply ord_do rfl rfl rfl; (· (go_simp; with_reducible rfl)); (· (simp only [Act.put, Act.eval, List.setIfInBounds_toArray, List.set_cons_zero, List.set_cons_succ, Array.getD_eq_getD_getElem?, List.getElem?_toArray, List.getElem?_cons_zero, List.getElem?_cons_succ, Option.getD_some, List.getElem_toArray, List.getElem_cons_succ, List.getElem_cons_zero]; with_reducible rfl))
            clear cc ff
            have b6' := Lib.hid (b6.out.put n2.out)
            have b7' := Lib.hid (b7.out.other b6.out (by first | exact hne | exact hne.symm) (.slice v2a v2l v2c))
            have n5' := Lib.hid (n5.out.otherV b6.out (.slice v2a v2l v2c))
            have hP' := Lib.hid (hP.out.put hlo6 b6.out (.slice v2a v2l v2c))
            clear b6 b7 n5 hP
            obtain ⟨x6, hx6⟩ : ∃ W, x5.setCell ⟨g6, 0, none⟩ (.slice v2a v2l v2c) = W := ⟨_, rfl⟩
            rw [hx6] at b6' b7' n5' hP' ⊢
            have b6 := b6'
            have b7 := b7'
            have n5 := n5'
            have hP := hP'
            clear b6' b7' n5' hP' hx6
            refine Rt.ord_nil ?_
            refine Rt.tree_op ?_
            obtain ⟨qa, ql, qc, qb, qn⟩ := b7.out
            have cc := qb.cell
            have ff := qb.frozen
            clear qb qn
            apply ord_do rfl rfl rfl; (· (go_simp; with_reducible rfl)); (· (simp only [Act.put, Act.eval, List.setIfInBounds_toArray, List.set_cons_zero, List.set_cons_succ, Array.getD_eq_getD_getElem?, List.getElem?_toArray, List.getElem?_cons_zero, List.getElem?_cons_succ, Option.getD_some, List.getElem_toArray, List.getElem_cons_succ, List.getElem_cons_zero]; with_reducible rfl))
            clear cc ff
            have b6' := Lib.hid (b6.out.other b7.out (by first | exact hne | exact hne.symm) (.slice v5a v5l v5c))
            have b7' := Lib.hid (b7.out.put n5.out)
            have hP' := Lib.hid (hP.out.put hlo7 b7.out (.slice v5a v5l v5c))
            refine Rt.ord_nil ?_
            refine Rt.tree_fin ?_
            go_wp2_with fail
            go_meet
            case rel => exact ⟨g6, g7, rfl, rfl, Lib.hid ⟨hP'.out, by have h := b6'.out; rw [hm1] at h; exact h, by have h := b7'.out; rw [hm2] at h; exact h, by first | exact hne | exact hne.symm, hlo6, hlo7⟩⟩
        · apply ord_new rfl rfl rfl; (· (go_simp; exact ⟨rfl, rfl⟩)); (· (exact (Below.refl _ _).alloc (Nat.le_refl _) _)); (· (simp only [Act.put, Act.eval, List.setIfInBounds_toArray, List.set_cons_zero, List.set_cons_succ, Array.getD_eq_getD_getElem?, List.getElem?_toArray, List.getElem?_cons_zero, List.getElem?_cons_succ, Option.getD_some, List.getElem_toArray, List.getElem_cons_succ, List.getElem_cons_zero]; with_reducible rfl))
          have b6x := Var.made (NumAt.zero x2)
          have hb : Below x2.heap.size x2 (x2.alloc (.cells #[.slice none 0 0] 26)) := (Below.refl _ _).alloc (Nat.le_refl _) _
          have hlo6 : w.heap.size + 4 ≤ x2.heap.size := hP.out.size
          (try have hne := Nat.ne_of_lt b7.out.lt)
          obtain ⟨x3, hx3⟩ : ∃ W, x2.alloc (.cells #[.slice none 0 0] 26) = W := ⟨_, rfl⟩
          rw [hx3] at b6x hb ⊢
          (try replace n0 := Lib.hid (n0.out.below hb))
          (try replace n2 := Lib.hid (n2.out.below hb))
          (try replace n5 := Lib.hid (n5.out.below hb))
          (try replace b7 := Lib.hid (b7.out.below hb))
          (try replace hP := Lib.hid (hP.out.below hb))
          (try replace nA := Lib.hid (nA.out.below hb))
          (try replace nM := Lib.hid (nM.out.below hb))
          (try replace nO := Lib.hid (nO.out.below hb))
          (try replace nX := Lib.hid (nX.out.below hb))
          (try replace n42 := Lib.hid (n42.out.below hb))
          clear hb
          obtain ⟨g6, hg6⟩ : ∃ g, x2.heap.size = g := ⟨_, rfl⟩
          rw [hg6] at b6x hlo6 ⊢
          (try rw [hg6] at hne)
          have b6 := Lib.hid b6x
          clear b6x hx3 hg6
          refine Rt.ord_nil ?_
          refine Rt.tree_op ?_
          refine ord_call rfl rfl rfl (by go_simp; exact ⟨rfl, rfl⟩) ?_
          refine (mod_N n0.out nM.out (by decide) (Nat.le_trans hmB (by decide))).mono ?_
          rintro e x4 ⟨v2, rfl, n2, hb⟩
          obtain ⟨v2a, v2l, v2c, rfl⟩ := n2.shape
          refine ⟨_, rfl, hb, ?_⟩
          replace n2 := Lib.hid n2
          (try replace n0 := Lib.hid (n0.out.below hb))
          (try replace n5 := Lib.hid (n5.out.below hb))
          (try replace b6 := Lib.hid (b6.out.below hb))
          (try replace b7 := Lib.hid (b7.out.below hb))
          (try replace hP := Lib.hid (hP.out.below hb))
          (try replace nA := Lib.hid (nA.out.below hb))
          (try replace nM := Lib.hid (nM.out.below hb))
          (try replace nO := Lib.hid (nO.out.below hb))
          (try replace nX := Lib.hid (nX.out.below hb))
          (try replace n42 := Lib.hid (n42.out.below hb))
          clear hb
          simp only [Act.put, Act.eval, List.setIfInBounds_toArray, List.set_cons_zero, List.set_cons_succ, Array.getD_eq_getD_getElem?, List.getElem?_toArray, List.getElem?_cons_zero, List.getElem?_cons_succ, Option.getD_some, List.getElem_toArray, List.getElem_cons_succ, List.getElem_cons_zero]
          refine Rt.ord_nil ?_
          refine Rt.tree_op ?_
          refine ord_call rfl rfl rfl (by go_simp; exact ⟨rfl, rfl⟩) ?_
          refine (mod_N nA.out nM.out haB (Nat.le_trans hmB (by decide))).mono ?_
          rintro e x5 ⟨v5, rfl, n5, hb⟩
          obtain ⟨v5a, v5l, v5c, rfl⟩ := n5.shape
          refine ⟨_, rfl, hb, ?_⟩
          replace n5 := Lib.hid n5
          (try replace n0 := Lib.hid (n0.out.below hb))
          (try replace n2 := Lib.hid (n2.out.below hb))
          (try replace b6 := Lib.hid (b6.out.below hb))
          (try replace b7 := Lib.hid (b7.out.below hb))
          (try replace hP := Lib.hid (hP.out.below hb))
          (try replace nA := Lib.hid (nA.out.below hb))
          (try replace nM := Lib.hid (nM.out.below hb))
          (try replace nO := Lib.hid (nO.out.below hb))
          (try replace nX := Lib.hid (nX.out.below hb))
          (try replace n42 := Lib.hid (n42.out.below hb))
          clear hb
          simp only [Act.put, Act.eval, List.setIfInBounds_toArray, List.set_cons_zero, List.set_cons_succ, Array.getD_eq_getD_getElem?, List.getElem?_toArray, List.getElem?_cons_zero, List.getElem?_cons_succ, Option.getD_some, List.getElem_toArray, List.getElem_cons_succ, List.getElem_cons_zero]
          refine Rt.ord_nil ?_
          refine Rt.tree_op ?_
          obtain ⟨qa, ql, qc, qb, qn⟩ := b6.out
          have cc := qb.cell
          have ff := qb.frozen
          clear qb qn
          apply ord_do rfl rfl rfl; (· (go_simp; with_reducible rfl)); (· (simp only [Act.put, Act.eval, List.setIfInBounds_toArray, List.set_cons_zero, List.set_cons_succ, Array.getD_eq_getD_getElem?, List.getElem?_toArray, List.getElem?_cons_zero, List.getElem?_cons_succ, Option.getD_some, List.getElem_toArray, List.getElem_cons_succ, List.getElem_cons_zero]; with_reducible rfl))
          clear cc ff
          have b6' := Lib.hid (b6.out.put n2.out)
          have b7' := Lib.hid (b7.out.other b6.out (by first | exact hne | exact hne.symm) (.slice v2a v2l v2c))
          have n5' := Lib.hid (n5.out.otherV b6.out (.slice v2a v2l v2c))
          have hP' := Lib.hid (hP.out.put hlo6 b6.out (.slice v2a v2l v2c))
          clear b6 b7 n5 hP
          obtain ⟨x6, hx6⟩ : ∃ W, x5.setCell ⟨g6, 0, none⟩ (.slice v2a v2l v2c) = W := ⟨_, rfl⟩
          rw [hx6] at b6' b7' n5' hP' ⊢
          have b6 := b6'
          have b7 := b7'
          have n5 := n5'
          have hP := hP'
          clear b6' b7' n5' hP' hx6
          refine Rt.ord_nil ?_
          refine Rt.tree_op ?_
          obtain ⟨qa, ql, qc, qb, qn⟩ := b7.out
          have cc := qb.cell
          have ff := qb.frozen
          clear qb qn
          apply ord_do rfl rfl rfl; (· (go_simp; with_reducible rfl)); (· (simp only [Act.put, Act.eval, List.setIfInBounds_toArray, List.set_cons_zero, List.set_cons_succ, Array.getD_eq_getD_getElem?, List.getElem?_toArray, List.getElem?_cons_zero, List.getElem?_cons_succ, Option.getD_some, List.getElem_toArray, List.getElem_cons_succ, List.getElem_cons_zero]; with_reducible rfl))
          clear cc ff
          have b6' := Lib.hid (b6.out.other b7.out (by first | exact hne | exact hne.symm) (.slice v5a v5l v5c))
          have b7' := Lib.hid (b7.out.put n5.out)
          have hP' := Lib.hid (hP.out.put hlo7 b7.out (.slice v5a v5l v5c))
          refine Rt.ord_nil ?_
          refine Rt.tree_fin ?_
          go_wp2_with fail
          go_meet
          case rel => exact ⟨g6, g7, rfl, rfl, Lib.hid ⟨hP'.out, by have h := b6'.out; rw [hm1] at h; exact h, by have h := b7'.out; rw [hm2] at h; exact h, by first | exact hne | exact hne.symm, hlo6, hlo7⟩⟩
      · apply ord_new rfl rfl rfl; (· (go_simp; exact ⟨rfl, rfl⟩)); (· (exact (Below.refl _ _).alloc (Nat.le_refl _) _)); (· (simp only [Act.put, Act.eval, List.setIfInBounds_toArray, List.set_cons_zero, List.set_cons_succ, Array.getD_eq_getD_getElem?, List.getElem?_toArray, List.getElem?_cons_zero, List.getElem?_cons_succ, Option.getD_some, List.getElem_toArray, List.getElem_cons_succ, List.getElem_cons_zero]; with_reducible rfl))
        have b6x := Var.made (NumAt.zero x1)
        have hb : Below x1.heap.size x1 (x1.alloc (.cells #[.slice none 0 0] 26)) := (Below.refl _ _).alloc (Nat.le_refl _) _
        have hlo6 : w.heap.size + 4 ≤ x1.heap.size := hP.out.size
        (try have hne := Nat.ne_of_lt b7.out.lt)
        obtain ⟨x2, hx2⟩ : ∃ W, x1.alloc (.cells #[.slice none 0 0] 26) = W := ⟨_, rfl⟩
        rw [hx2] at b6x hb ⊢
        (try replace n0 := Lib.hid (n0.out.below hb))
        (try replace n2 := Lib.hid (n2.out.below hb))
        (try replace n5 := Lib.hid (n5.out.below hb))
        (try replace b7 := Lib.hid (b7.out.below hb))
        (try replace hP := Lib.hid (hP.out.below hb))
        (try replace nA := Lib.hid (nA.out.below hb))
        (try replace nM := Lib.hid (nM.out.below hb))
        (try replace nO := Lib.hid (nO.out.below hb))
        (try replace nX := Lib.hid (nX.out.below hb))
        (try replace n42 := Lib.hid (n42.out.below hb))
        clear hb
        obtain ⟨g6, hg6⟩ : ∃ g, x1.heap.size = g := ⟨_, rfl⟩
        rw [hg6] at b6x hlo6 ⊢
        (try rw [hg6] at hne)
        have b6 := Lib.hid b6x
        clear b6x hx2 hg6
        refine Rt.ord_nil ?_
        refine Rt.tree_op ?_
        refine ord_call rfl rfl rfl (by go_simp; exact ⟨rfl, rfl⟩) ?_
        refine (Small_1 _).mono ?_
        rintro e x3 ⟨v0, rfl, n0, hb⟩
        obtain ⟨v0a, v0l, v0c, rfl⟩ := n0.shape
        refine ⟨_, rfl, hb, ?_⟩
        replace n0 := Lib.hid n0
        (try replace n2 := Lib.hid (n2.out.below hb))
        (try replace n5 := Lib.hid (n5.out.below hb))
        (try replace b6 := Lib.hid (b6.out.below hb))
        (try replace b7 := Lib.hid (b7.out.below hb))
        (try replace hP := Lib.hid (hP.out.below hb))
        (try replace nA := Lib.hid (nA.out.below hb))
        (try replace nM := Lib.hid (nM.out.below hb))
        (try replace nO := Lib.hid (nO.out.below hb))
        (try replace nX := Lib.hid (nX.out.below hb))
        (try replace n42 := Lib.hid (n42.out.below hb))
        clear hb
        simp only [Act.put, Act.eval, List.setIfInBounds_toArray, List.set_cons_zero, List.set_cons_succ, Array.getD_eq_getD_getElem?, List.getElem?_toArray, List.getElem?_cons_zero, List.getElem?_cons_succ, Option.getD_some, List.getElem_toArray, List.getElem_cons_succ, List.getElem_cons_zero]
        refine Rt.ord_nil ?_
        refine Rt.tree_op ?_
        refine ord_call rfl rfl rfl (by go_simp; exact ⟨rfl, rfl⟩) ?_
        refine (mod_N n0.out nM.out (by decide) (Nat.le_trans hmB (by decide))).mono ?_
        rintro e x4 ⟨v2, rfl, n2, hb⟩
        obtain ⟨v2a, v2l, v2c, rfl⟩ := n2.shape
        refine ⟨_, rfl, hb, ?_⟩
        replace n2 := Lib.hid n2
        (try replace n0 := Lib.hid (n0.out.below hb))
        (try replace n5 := Lib.hid (n5.out.below hb))
        (try replace b6 := Lib.hid (b6.out.below hb))
        (try replace b7 := Lib.hid (b7.out.below hb))
        (try replace hP := Lib.hid (hP.out.below hb))
        (try replace nA := Lib.hid (nA.out.below hb))
        (try replace nM := Lib.hid (nM.out.below hb))
        (try replace nO := Lib.hid (nO.out.below hb))
        (try replace nX := Lib.hid (nX.out.below hb))
        (try replace n42 := Lib.hid (n42.out.below hb))
        clear hb
        simp only [Act.put, Act.eval, List.setIfInBounds_toArray, List.set_cons_zero, List.set_cons_succ, Array.getD_eq_getD_getElem?, List.getElem?_toArray, List.getElem?_cons_zero, List.getElem?_cons_succ, Option.getD_some, List.getElem_toArray, List.getElem_cons_succ, List.getElem_cons_zero]
        refine Rt.ord_nil ?_
        refine Rt.tree_op ?_
        refine ord_call rfl rfl rfl (by go_simp; exact ⟨rfl, rfl⟩) ?_
        refine (mod_N nA.out nM.out haB (Nat.le_trans hmB (by decide))).mono ?_
        rintro e x5 ⟨v5, rfl, n5, hb⟩
        obtain ⟨v5a, v5l, v5c, rfl⟩ := n5.shape
        refine ⟨_, rfl, hb, ?_⟩
        replace n5 := Lib.hid n5
        (try replace n0 := Lib.hid (n0.out.below hb))
        (try replace n2 := Lib.hid (n2.out.below hb))
        (try replace b6 := Lib.hid (b6.out.below hb))
        (try replace b7 := Lib.hid (b7.out.below hb))
        (try replace hP := Lib.hid (hP.out.below hb))
        (try replace nA := Lib.hid (nA.out.below hb))
        (try replace nM := Lib.hid (nM.out.below hb))
        (try replace nO := Lib.hid (nO.out.below hb))
        (try replace nX := Lib.hid (nX.out.below hb))
        (try replace n42 := Lib.hid (n42.out.below hb))
        clear hb
        simp only [Act.put, Act.eval, List.setIfInBounds_toArray, List.set_cons_zero, List.set_cons_succ, Array.getD_eq_getD_getElem?, List.getElem?_toArray, List.getElem?_cons_zero, List.getElem?_cons_succ, Option.getD_some, List.getElem_toArray, List.getElem_cons_succ, List.getElem_cons_zero]
        refine Rt.ord_nil ?_
        refine Rt.tree_op ?_
        obtain ⟨qa, ql, qc, qb, qn⟩ := b6.out
        have cc := qb.cell
        have ff := qb.frozen
        clear qb qn
        apply ord_do rfl rfl rfl; (· (go_simp; with_reducible rfl)); (· (simp only [Act.put, Act.eval, List.setIfInBounds_toArray, List.set_cons_zero, List.set_cons_succ, Array.getD_eq_getD_getElem?, List.getElem?_toArray, List.getElem?_cons_zero, List.getElem?_cons_succ, Option.getD_some, List.getElem_toArray, List.getElem_cons_succ, List.getElem_cons_zero]; with_reducible rfl))
        clear cc ff
        have b6' := Lib.hid (b6.out.put n2.out)
        have b7' := Lib.hid (b7.out.other b6.out (by first | exact hne | exact hne.symm) (.slice v2a v2l v2c))
        have n5' := Lib.hid (n5.out.otherV b6.out (.slice v2a v2l v2c))
        have hP' := Lib.hid (hP.out.put hlo6 b6.out (.slice v2a v2l v2c))
        clear b6 b7 n5 hP
        obtain ⟨x6, hx6⟩ : ∃ W, x5.setCell ⟨g6, 0, none⟩ (.slice v2a v2l v2c) = W := ⟨_, rfl⟩
        rw [hx6] at b6' b7' n5' hP' ⊢
        have b6 := b6'
        have b7 := b7'
        have n5 := n5'
        have hP := hP'
        clear b6' b7' n5' hP' hx6
        refine Rt.ord_nil ?_
        refine Rt.tree_op ?_
        obtain ⟨qa, ql, qc, qb, qn⟩ := b7.out
        have cc := qb.cell
        have ff := qb.frozen
        clear qb qn
        apply ord_do rfl rfl rfl; (· (go_simp; with_reducible rfl)); (· (simp only [Act.put, Act.eval, List.setIfInBounds_toArray, List.set_cons_zero, List.set_cons_succ, Array.getD_eq_getD_getElem?, List.getElem?_toArray, List.getElem?_cons_zero, List.getElem?_cons_succ, Option.getD_some, List.getElem_toArray, List.getElem_cons_succ, List.getElem_cons_zero]; with_reducible rfl))
        clear cc ff
        have b6' := Lib.hid (b6.out.other b7.out (by first | exact hne | exact hne.symm) (.slice v5a v5l v5c))
        have b7' := Lib.hid (b7.out.put n5.out)
        have hP' := Lib.hid (hP.out.put hlo7 b7.out (.slice v5a v5l v5c))
        refine Rt.ord_nil ?_
        refine Rt.tree_fin ?_
        go_wp2_with fail
        go_meet
        case rel => exact ⟨g6, g7, rfl, rfl, Lib.hid ⟨hP'.out, by have h := b6'.out; rw [hm1] at h; exact h, by have h := b7'.out; rw [hm2] at h; exact h, by first | exact hne | exact hne.symm, hlo6, hlo7⟩⟩
  case rest =>
    obtain ⟨g, h, rfl, rfl, hI0⟩ := hcut
    clear hP
    obtain ⟨ea, el, ec, eb, en⟩ := hI0.out.args.ve
    have z0 := eb.cell
    have hBt := Lib.hid (en.bits (Nat.le_trans heB (by decide)))
    clear eb en
    go_wp2_with (go_at_call 20; refine hBt.out.mono ?_; rintro e w3 ⟨rfl, hb3⟩; replace hI0 := Lib.hid (hI0.out.below hb3); clear hb3 z0)
    obtain ⟨be, hbe⟩ : ∃ z, blen e = z := ⟨_, rfl⟩
    rw [hbe] at heB ⊢
    have hbeH := Lib.hid hbe
    clear hbe hBt
    go_loopw [26] (fun vk wr => ∃ k : Nat, vk = .int .i64 (k : Int) ∧ k ≤ be ∧ Hid (PwI w wr a e m g h (powL a e m k) (sqL a m k))) (fun vk _ => be - (intOf vk).toNat)
    case atStart => exact ⟨0, rfl, Nat.zero_le _, hI0⟩
    case round =>
      obtain ⟨k, rfl, hk, hI⟩ := hrel
      clear hI0
      by_cases hlt : (k : Int) < be
      · have hkl : k < be := by omega
        have hkw := Nu.wr (x := (k : Int) + 1) (by omega) (by omega)
        have hoB : blen (powL a e m k) ≤ 2048 := Nat.le_trans (blen_lt_le (Nat.mod_lt _ (Nat.pos_of_ne_zero hm0))) hmB
        have hxB : blen (sqL a m k) ≤ 2048 := Nat.le_trans (blen_lt_le (Nat.mod_lt _ (Nat.pos_of_ne_zero hm0))) hmB
        obtain ⟨t, ht⟩ : ∃ t, k % 32 = t := ⟨_, rfl⟩
        obtain ⟨qd, hqd⟩ : ∃ t, k / 32 = t := ⟨_, rfl⟩
        have htm : Int.tmod (k : Int) 32 = (t : Int) := by rw [← ht]; exact (Int.ofNat_tmod k 32).symm
        have htq : Int.tdiv (k : Int) 32 = (qd : Int) := by rw [← hqd]; exact (Int.ofNat_tdiv k 32).symm
        have htl : t < 32 := by omega
        have hqw := Nu.wr (x := (qd : Int)) (by omega) (by omega)
        have htw := Nu.wr (x := (t : Int)) (by omega) (by omega)
        have hkqt : k = 32 * qd + t := by omega
        obtain ⟨ea, el, ec, eb, en⟩ := hI.out.args.ve
        have z0 := eb.cell
        obtain ⟨L, hL, hLv, hLs⟩ := en
        have hel := hLs.len
        have hbl : qd < L.length := by
          rcases Nat.lt_or_ge qd L.length with h1 | h1
          · exact h1
          · have h2 := val_lt hL.dig
            rw [hLv, bs_pow] at h2
            have h3 := blen_le.2 h2
            rw [hbeH.out] at h3
            omega
        obtain ⟨bb, ob, rfl, ce⟩ := hLs.at (Below.refl _ _) hbl
        have hqel : (qd : Int) < (el : Int) := by omega
        have hdB := hL.dig qd
        have hbit := bit_digit (f := gd L) hL.dig hbl htl
        rw [← hkqt, show dsum (gd L) L.length = e from hLv] at hbit
        obtain ⟨d, hd⟩ : ∃ z, gd L qd = z := ⟨_, rfl⟩
        rw [hd] at ce hdB hbit
        have hdq : d / 2 ^ t ≤ d := Nat.div_le_self _ _
        have hshr : (d : Int) / 2 ^ t = ((d / 2 ^ t : Nat) : Int) := by rw [Int.natCast_ediv, Int.natCast_pow]; rfl
        obtain ⟨y, hy⟩ : ∃ z, d / 2 ^ t = z := ⟨_, rfl⟩
        rw [hy] at hdq hshr hbit
        have hand := bits_and_one y (by simp only [Bs] at hdB; omega)
        have hk1 := Nat.lt_succ_self k
        obtain ⟨bt, hbt⟩ : ∃ z, bitN e k = z := ⟨_, rfl⟩
        rw [hbt] at hbit
        rw [hbit] at hand
        have hbt2 : bt < 2 := by rw [← hbt]; exact bitN_lt e k
        have hX1 : onDiv m (sqL a m k * sqL a m k % m) = sqL a m (k + 1) := by unfold onDiv; rw [if_neg hm0, sqL_succ]
        by_cases h1 : bt = 1
        · have hO1 : onDiv m (powL a e m k * sqL a m k % m) = powL a e m (k + 1) := by unfold onDiv; rw [if_neg hm0, powL_one (by rw [hbt, h1])]
          have hb1 : ((bt : Int) == 1) = true := by simp; omega
          have hO1H := Lib.hid hO1
          clear hL hLv hLs hel eb hbit hd hy hbt hkqt hO1
          go_upto_region 9 with (fail)
          have hO1 := hO1H.out
          clear ce z0
          have hwb : Below wr.heap.size wr wr.drew := (Below.refl _ _).drew
          have hI' := Lib.hid (hI.out.below hwb)
          obtain ⟨wz, hwz⟩ : ∃ d, wr.drew = d := ⟨_, rfl⟩
          rw [hwz] at hI'
          clear hwb hI
          have hI := hI'
          clear hI'
          obtain ⟨oa, ol, oc, ob, nO⟩ := hI.out.vo
          obtain ⟨pa, pl, pc, pb, nX⟩ := hI.out.vx
          obtain ⟨ka, kl, kc, kb, nM⟩ := hI.out.args.vm
          have z0 := ob.cell
          have z1 := pb.cell
          have z2 := kb.cell
          clear ob pb kb
          refine Rt.wp_region_ordM [1, 1, 2, 1, 2, 3] [0, 1, 3, 2, 4, 5] (by kernel_rfl) (by kernel_rfl) ?_
          rw [hwz]
          clear hwz
          apply ord_read rfl rfl rfl; (· (intro W hW; have g0 := cell_up hW z0; have g1 := cell_up hW z1; have g2 := cell_up hW z2; go_simp; with_reducible rfl)); (· (simp only [Act.put, Act.eval, List.setIfInBounds_toArray, List.set_cons_zero, List.set_cons_succ, Array.getD_eq_getD_getElem?, List.getElem?_toArray, List.getElem?_cons_zero, List.getElem?_cons_succ, Option.getD_some, List.getElem_toArray, List.getElem_cons_succ, List.getElem_cons_zero]; with_reducible rfl))
          apply ord_read rfl rfl rfl; (· (intro W hW; have g0 := cell_up hW z0; have g1 := cell_up hW z1; have g2 := cell_up hW z2; go_simp; with_reducible rfl)); (· (simp only [Act.put, Act.eval, List.setIfInBounds_toArray, List.set_cons_zero, List.set_cons_succ, Array.getD_eq_getD_getElem?, List.getElem?_toArray, List.getElem?_cons_zero, List.getElem?_cons_succ, Option.getD_some, List.getElem_toArray, List.getElem_cons_succ, List.getElem_cons_zero]; with_reducible rfl))
          apply ord_read rfl rfl rfl; (· (intro W hW; have g0 := cell_up hW z0; have g1 := cell_up hW z1; have g2 := cell_up hW z2; go_simp; with_reducible rfl)); (· (simp only [Act.put, Act.eval, List.setIfInBounds_toArray, List.set_cons_zero, List.set_cons_succ, Array.getD_eq_getD_getElem?, List.getElem?_toArray, List.getElem?_cons_zero, List.getElem?_cons_succ, Option.getD_some, List.getElem_toArray, List.getElem_cons_succ, List.getElem_cons_zero]; with_reducible rfl))
          refine ord_call rfl rfl rfl (by go_simp; exact ⟨rfl, rfl⟩) ?_
          refine (mul_N nO nX (Nat.le_trans hoB (by decide)) (Nat.le_trans hxB (by decide))).mono ?_
          rintro e x1 ⟨v1, rfl, q1, hb⟩
          obtain ⟨q1a, q1l, q1c, rfl⟩ := q1.shape
          refine ⟨_, rfl, hb, ?_⟩
          replace hI := Lib.hid (hI.out.below hb)
          replace nO := nO.below hb
          replace nX := nX.below hb
          replace nM := nM.below hb
          clear hb
          simp only [Act.put, Act.eval, List.setIfInBounds_toArray, List.set_cons_zero, List.set_cons_succ, Array.getD_eq_getD_getElem?, List.getElem?_toArray, List.getElem?_cons_zero, List.getElem?_cons_succ, Option.getD_some, List.getElem_toArray, List.getElem_cons_succ, List.getElem_cons_zero]
          refine ord_call rfl rfl rfl (by go_simp; exact ⟨rfl, rfl⟩) ?_
          refine (mod_N q1 nM (Nat.le_trans (blen_mul _ _) (by omega)) (Nat.le_trans hmB (by decide))).mono ?_
          rintro e x2 ⟨v2, rfl, q2, hb⟩
          obtain ⟨q2a, q2l, q2c, rfl⟩ := q2.shape
          refine ⟨_, rfl, hb, ?_⟩
          replace hI := Lib.hid (hI.out.below hb)
          replace nO := nO.below hb
          replace nX := nX.below hb
          replace nM := nM.below hb
          clear hb
          simp only [Act.put, Act.eval, List.setIfInBounds_toArray, List.set_cons_zero, List.set_cons_succ, Array.getD_eq_getD_getElem?, List.getElem?_toArray, List.getElem?_cons_zero, List.getElem?_cons_succ, Option.getD_some, List.getElem_toArray, List.getElem_cons_succ, List.getElem_cons_zero]
          obtain ⟨ta, tl, tc, tb, tn⟩ := hI.out.vo
          have cc := tb.cell
          have ff := tb.frozen
          clear tb tn
          apply ord_do rfl rfl rfl; (· (go_simp; with_reducible rfl)); (· (simp only [Act.put, Act.eval, List.setIfInBounds_toArray, List.set_cons_zero, List.set_cons_succ, Array.getD_eq_getD_getElem?, List.getElem?_toArray, List.getElem?_cons_zero, List.getElem?_cons_succ, Option.getD_some, List.getElem_toArray, List.getElem_cons_succ, List.getElem_cons_zero]; with_reducible rfl))
          clear cc ff
          with_reducible refine ord_nil ?_
          have hI' := Lib.hid (hI.out.setO q2)
          rw [hO1] at hI'
          obtain ⟨wy, hwy⟩ : ∃ W, x2.setCell ⟨g, 0, none⟩ (.slice q2a q2l q2c) = W := ⟨_, rfl⟩
          rw [hwy] at hI' ⊢
          clear hwy q1 q2 nO nX nM z0 z1 z2 hI
          have hI := hI'
          clear hI'
          go_upto_region 10 with (fail)
          have hwb : Below wy.heap.size wy wy.drew := (Below.refl _ _).drew
          have hI' := Lib.hid (hI.out.below hwb)
          obtain ⟨wz, hwz⟩ : ∃ d, wy.drew = d := ⟨_, rfl⟩
          rw [hwz] at hI'
          clear hwb hI
          have hI := hI'
          clear hI'
          obtain ⟨oa, ol, oc, ob, nO⟩ := hI.out.vo
          obtain ⟨pa, pl, pc, pb, nX⟩ := hI.out.vx
          obtain ⟨ka, kl, kc, kb, nM⟩ := hI.out.args.vm
          have z0 := ob.cell
          have z1 := pb.cell
          have z2 := kb.cell
          clear ob pb kb
          refine Rt.wp_region_ordM [1, 1, 2, 1, 2, 3] [0, 1, 3, 2, 4, 5] (by kernel_rfl) (by kernel_rfl) ?_
          rw [hwz]
          clear hwz
          apply ord_read rfl rfl rfl; (· (intro W hW; have g0 := cell_up hW z0; have g1 := cell_up hW z1; have g2 := cell_up hW z2; go_simp; with_reducible rfl)); (· (simp only [Act.put, Act.eval, List.setIfInBounds_toArray, List.set_cons_zero, List.set_cons_succ, Array.getD_eq_getD_getElem?, List.getElem?_toArray, List.getElem?_cons_zero, List.getElem?_cons_succ, Option.getD_some, List.getElem_toArray, List.getElem_cons_succ, List.getElem_cons_zero]; with_reducible rfl))
          apply ord_read rfl rfl rfl; (· (intro W hW; have g0 := cell_up hW z0; have g1 := cell_up hW z1; have g2 := cell_up hW z2; go_simp; with_reducible rfl)); (· (simp only [Act.put, Act.eval, List.setIfInBounds_toArray, List.set_cons_zero, List.set_cons_succ, Array.getD_eq_getD_getElem?, List.getElem?_toArray, List.getElem?_cons_zero, List.getElem?_cons_succ, Option.getD_some, List.getElem_toArray, List.getElem_cons_succ, List.getElem_cons_zero]; with_reducible rfl))
          apply ord_read rfl rfl rfl; (· (intro W hW; have g0 := cell_up hW z0; have g1 := cell_up hW z1; have g2 := cell_up hW z2; go_simp; with_reducible rfl)); (· (simp only [Act.put, Act.eval, List.setIfInBounds_toArray, List.set_cons_zero, List.set_cons_succ, Array.getD_eq_getD_getElem?, List.getElem?_toArray, List.getElem?_cons_zero, List.getElem?_cons_succ, Option.getD_some, List.getElem_toArray, List.getElem_cons_succ, List.getElem_cons_zero]; with_reducible rfl))
          refine ord_call rfl rfl rfl (by go_simp; exact ⟨rfl, rfl⟩) ?_
          refine (mul_N nX nX (Nat.le_trans hxB (by decide)) (Nat.le_trans hxB (by decide))).mono ?_
          rintro e x1 ⟨v1, rfl, q1, hb⟩
          obtain ⟨q1a, q1l, q1c, rfl⟩ := q1.shape
          refine ⟨_, rfl, hb, ?_⟩
          replace hI := Lib.hid (hI.out.below hb)
          replace nO := nO.below hb
          replace nX := nX.below hb
          replace nM := nM.below hb
          clear hb
          simp only [Act.put, Act.eval, List.setIfInBounds_toArray, List.set_cons_zero, List.set_cons_succ, Array.getD_eq_getD_getElem?, List.getElem?_toArray, List.getElem?_cons_zero, List.getElem?_cons_succ, Option.getD_some, List.getElem_toArray, List.getElem_cons_succ, List.getElem_cons_zero]
          refine ord_call rfl rfl rfl (by go_simp; exact ⟨rfl, rfl⟩) ?_
          refine (mod_N q1 nM (Nat.le_trans (blen_mul _ _) (by omega)) (Nat.le_trans hmB (by decide))).mono ?_
          rintro e x2 ⟨v2, rfl, q2, hb⟩
          obtain ⟨q2a, q2l, q2c, rfl⟩ := q2.shape
          refine ⟨_, rfl, hb, ?_⟩
          replace hI := Lib.hid (hI.out.below hb)
          replace nO := nO.below hb
          replace nX := nX.below hb
          replace nM := nM.below hb
          clear hb
          simp only [Act.put, Act.eval, List.setIfInBounds_toArray, List.set_cons_zero, List.set_cons_succ, Array.getD_eq_getD_getElem?, List.getElem?_toArray, List.getElem?_cons_zero, List.getElem?_cons_succ, Option.getD_some, List.getElem_toArray, List.getElem_cons_succ, List.getElem_cons_zero]
          obtain ⟨ta, tl, tc, tb, tn⟩ := hI.out.vx
          have cc := tb.cell
          have ff := tb.frozen
          clear tb tn
          apply ord_do rfl rfl rfl; (· (go_simp; with_reducible rfl)); (· (simp only [Act.put, Act.eval, List.setIfInBounds_toArray, List.set_cons_zero, List.set_cons_succ, Array.getD_eq_getD_getElem?, List.getElem?_toArray, List.getElem?_cons_zero, List.getElem?_cons_succ, Option.getD_some, List.getElem_toArray, List.getElem_cons_succ, List.getElem_cons_zero]; with_reducible rfl))
          clear cc ff
          with_reducible refine ord_nil ?_
          have hI' := Lib.hid (hI.out.setX q2)
          rw [hX1] at hI'
          clear q1 q2 nO nX nM z0 z1 z2 hI
          go_wp2_with fail
          go_roundw
          case rel => exact ⟨k + 1, by first | rfl | go_num, by omega, by have h := hI'; exact h⟩
          case measure => first | (simp [intOf]; done) | (simp [intOf]; omega)
        · have h0 : bt = 0 := by omega
          have hb1 : ((bt : Int) == 1) = false := by simp; omega
          have hpn := Lib.hid (powL_none (a := a) (m := m) (show bitN e k = 0 by rw [hbt, h0]))
          clear hL hLv hLs hel eb hbit hd hy hbt hkqt
          go_upto_region 10 with (fail)
          clear ce z0
          have hwb : Below wr.heap.size wr wr.drew := (Below.refl _ _).drew
          have hI' := Lib.hid (hI.out.below hwb)
          obtain ⟨wz, hwz⟩ : ∃ d, wr.drew = d := ⟨_, rfl⟩
          rw [hwz] at hI'
          clear hwb hI
          have hI := hI'
          clear hI'
          obtain ⟨oa, ol, oc, ob, nO⟩ := hI.out.vo
          obtain ⟨pa, pl, pc, pb, nX⟩ := hI.out.vx
          obtain ⟨ka, kl, kc, kb, nM⟩ := hI.out.args.vm
          have z0 := ob.cell
          have z1 := pb.cell
          have z2 := kb.cell
          clear ob pb kb
          refine Rt.wp_region_ordM [1, 1, 2, 1, 2, 3] [0, 1, 3, 2, 4, 5] (by kernel_rfl) (by kernel_rfl) ?_
          rw [hwz]
          clear hwz
          apply ord_read rfl rfl rfl; (· (intro W hW; have g0 := cell_up hW z0; have g1 := cell_up hW z1; have g2 := cell_up hW z2; go_simp; with_reducible rfl)); (· (simp only [Act.put, Act.eval, List.setIfInBounds_toArray, List.set_cons_zero, List.set_cons_succ, Array.getD_eq_getD_getElem?, List.getElem?_toArray, List.getElem?_cons_zero, List.getElem?_cons_succ, Option.getD_some, List.getElem_toArray, List.getElem_cons_succ, List.getElem_cons_zero]; with_reducible rfl))
          apply ord_read rfl rfl rfl; (· (intro W hW; have g0 := cell_up hW z0; have g1 := cell_up hW z1; have g2 := cell_up hW z2; go_simp; with_reducible rfl)); (· (simp only [Act.put, Act.eval, List.setIfInBounds_toArray, List.set_cons_zero, List.set_cons_succ, Array.getD_eq_getD_getElem?, List.getElem?_toArray, List.getElem?_cons_zero, List.getElem?_cons_succ, Option.getD_some, List.getElem_toArray, List.getElem_cons_succ, List.getElem_cons_zero]; with_reducible rfl))
          apply ord_read rfl rfl rfl; (· (intro W hW; have g0 := cell_up hW z0; have g1 := cell_up hW z1; have g2 := cell_up hW z2; go_simp; with_reducible rfl)); (· (simp only [Act.put, Act.eval, List.setIfInBounds_toArray, List.set_cons_zero, List.set_cons_succ, Array.getD_eq_getD_getElem?, List.getElem?_toArray, List.getElem?_cons_zero, List.getElem?_cons_succ, Option.getD_some, List.getElem_toArray, List.getElem_cons_succ, List.getElem_cons_zero]; with_reducible rfl))
          refine ord_call rfl rfl rfl (by go_simp; exact ⟨rfl, rfl⟩) ?_
          refine (mul_N nX nX (Nat.le_trans hxB (by decide)) (Nat.le_trans hxB (by decide))).mono ?_
          rintro e x1 ⟨v1, rfl, q1, hb⟩
          obtain ⟨q1a, q1l, q1c, rfl⟩ := q1.shape
          refine ⟨_, rfl, hb, ?_⟩
          replace hI := Lib.hid (hI.out.below hb)
          replace nO := nO.below hb
          replace nX := nX.below hb
          replace nM := nM.below hb
          clear hb
          simp only [Act.put, Act.eval, List.setIfInBounds_toArray, List.set_cons_zero, List.set_cons_succ, Array.getD_eq_getD_getElem?, List.getElem?_toArray, List.getElem?_cons_zero, List.getElem?_cons_succ, Option.getD_some, List.getElem_toArray, List.getElem_cons_succ, List.getElem_cons_zero]
          refine ord_call rfl rfl rfl (by go_simp; exact ⟨rfl, rfl⟩) ?_
          refine (mod_N q1 nM (Nat.le_trans (blen_mul _ _) (by omega)) (Nat.le_trans hmB (by decide))).mono ?_
          rintro e x2 ⟨v2, rfl, q2, hb⟩
          obtain ⟨q2a, q2l, q2c, rfl⟩ := q2.shape
          refine ⟨_, rfl, hb, ?_⟩
          replace hI := Lib.hid (hI.out.below hb)
          replace nO := nO.below hb
          replace nX := nX.below hb
          replace nM := nM.below hb
          clear hb
          simp only [Act.put, Act.eval, List.setIfInBounds_toArray, List.set_cons_zero, List.set_cons_succ, Array.getD_eq_getD_getElem?, List.getElem?_toArray, List.getElem?_cons_zero, List.getElem?_cons_succ, Option.getD_some, List.getElem_toArray, List.getElem_cons_succ, List.getElem_cons_zero]
          obtain ⟨ta, tl, tc, tb, tn⟩ := hI.out.vx
          have cc := tb.cell
          have ff := tb.frozen
          clear tb tn
          apply ord_do rfl rfl rfl; (· (go_simp; with_reducible rfl)); (· (simp only [Act.put, Act.eval, List.setIfInBounds_toArray, List.set_cons_zero, List.set_cons_succ, Array.getD_eq_getD_getElem?, List.getElem?_toArray, List.getElem?_cons_zero, List.getElem?_cons_succ, Option.getD_some, List.getElem_toArray, List.getElem_cons_succ, List.getElem_cons_zero]; with_reducible rfl))
          clear cc ff
          with_reducible refine ord_nil ?_
          have hI' := Lib.hid (hI.out.setX q2)
          rw [hX1] at hI'
          clear q1 q2 nO nX nM z0 z1 z2 hI
          go_wp2_with fail
          go_roundw
          case rel => exact ⟨k + 1, by first | rfl | go_num, by omega, by have h := hI'; rw [← hpn.out] at h; exact h⟩
          case measure => first | (simp [intOf]; done) | (simp [intOf]; omega)
      · have hkb : be = k := by omega
        subst hkb
        have hfin : powL a e m be = a ^ e % m := by rw [← hbeH.out]; exact powL_all a e m
        rw [hfin] at hI
        obtain ⟨oa, ol, oc, ob, nO⟩ := hI.out.vo
        have z0 := ob.cell
        have z3 := hI.out.args.vr.cell
        have f3 := hI.out.args.vr.frozen
        have hnH := Lib.hid nO
        clear ob nO hfin
        go_wp2_with fail
        have r0 := (hI.out.args.vr.set (.slice oa ol oc)).cell
        have hE := hI.out.args.bel.setCell (p := ⟨w.heap.size + 3, 0, none⟩) (Nat.le_add_right _ _) (.slice oa ol oc)
        have hN3 := hnH.out.fresh hI.out.args.vr (fun d h => by cases h) (.slice oa ol oc)
        obtain ⟨W3, hW3⟩ : ∃ W, wr.setCell ⟨w.heap.size + 3, 0, none⟩ (.slice oa ol oc) = W := ⟨_, rfl⟩
        rw [hW3] at r0 hE hN3 ⊢
        refine bodyPost_ret (v := .tuple #[.agg #[.slice oa ol oc], .int .i64 0]) (by simp [results, Tryd.results23, go_sem, r0]) rfl ⟨_, rfl, hN3, hE⟩
end Go.Proofs.YtffehdfddkgggaaDoor.Nu
