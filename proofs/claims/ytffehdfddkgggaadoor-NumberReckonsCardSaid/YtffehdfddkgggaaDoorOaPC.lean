/- Inv. -/
import Derived.Test.YtffehdfddkgggaaDoorOaOC
namespace Go.Proofs.YtffehdfddkgggaaDoor.Nu
open Go.RowKit Rt
set_option linter.unusedSimpArgs false
set_option linter.unusedVariables false
def up (S : Nat → Option Nat) (g n : Nat) : Nat → Option Nat := fun x => if x = g then some n else S x
theorem up_same (S : Nat → Option Nat) (g n : Nat) : up S g n g = some n := by unfold up; rw [if_pos rfl]
theorem up_other {S : Nat → Option Nat} {g n x : Nat} (h : x ≠ g) : up S g n x = S x := by unfold up; rw [if_neg h]
/-- Variables that hold numbers, and a result's cell. -/
structure St (w W : World) (res : Nat) (S : Nat → Option Nat) : Prop where
  vars : ∀ g n, S g = some n → w.heap.size ≤ g ∧ Var W g n
  vr : Boxed W res 26 (.slice none 0 0)
  rs : S res = none
  rlo : w.heap.size ≤ res
  bel : Below w.heap.size w W
theorem St.lt {w W : World} {res : Nat} {S : Nat → Option Nat} (h : St w W res S) {g n : Nat} (hs : S g = some n) : g < W.heap.size := (h.vars g n hs).2.lt
theorem St.ner {w W : World} {res : Nat} {S : Nat → Option Nat} (h : St w W res S) {g n : Nat} (hs : S g = some n) : res ≠ g := fun e => by rw [← e, h.rs] at hs; cases hs
theorem St.below {w W W' : World} {res : Nat} {S : Nat → Option Nat} (h : St w W res S) (hb : Below W.heap.size W W') : St w W' res S :=
  ⟨fun g n hs => ⟨(h.vars g n hs).1, (h.vars g n hs).2.below hb⟩, (hb.block _ h.vr.lt).trans h.vr, h.rs, h.rlo, h.bel.trans (hb.mono h.bel.size)⟩
theorem St.add {w W : World} {res : Nat} {S : Nat → Option Nat} (h : St w W res S) {v : Value} {n : Nat} (hn : NumAt W v n) : St w (W.alloc (.cells #[v] 26)) res (up S W.heap.size n) := by
  have hb : Below W.heap.size W (W.alloc (.cells #[v] 26)) := (Below.refl _ W).alloc (Nat.le_refl _) _
  have h2 := h.below hb
  refine ⟨fun g m hs => ?_, h2.vr, ?_, h.rlo, h2.bel⟩
  · by_cases e : g = W.heap.size
    · subst e
      rw [up_same] at hs
      cases hs
      exact ⟨h.bel.size, Var.made hn⟩
    · rw [up_other e] at hs
      exact h2.vars g m hs
  · rw [up_other (Nat.ne_of_lt h.vr.lt)]; exact h.rs
theorem St.set {w W : World} {res : Nat} {S : Nat → Option Nat} (h : St w W res S) {g n0 n : Nat} {v : Value} (hs : S g = some n0) (hn : NumAt W v n) : St w (W.setCell ⟨g, 0, none⟩ v) res (up S g n) := by
  obtain ⟨hlo, hv⟩ := h.vars g n0 hs
  refine ⟨fun x m hx => ?_, (Below.heap_setCell _ _ _ _ (h.ner hs)).trans h.vr, ?_, h.rlo, h.bel.setCell (p := ⟨g, 0, none⟩) hlo _⟩
  · by_cases e : x = g
    · subst e
      rw [up_same] at hx
      cases hx
      exact ⟨hlo, hv.put hn⟩
    · rw [up_other e] at hx
      obtain ⟨h1, h2⟩ := h.vars x m hx
      exact ⟨h1, h2.other hv e v⟩
  · rw [up_other (h.ner hs)]; exact h.rs
theorem St.made2 {w : World} {a m : Nat} {u x : Value} (hu : NumAt w u a) (hx : NumAt w x m) : St w (((w.alloc (.cells #[u] 26)).alloc (.cells #[x] 26)).alloc (.cells #[.slice none 0 0] 26)) (w.heap.size + 2) (up (up (fun _ => none) w.heap.size a) (w.heap.size + 1) m) := by
  have h3 := Set3.made w u x
  have b1 : Below w.heap.size w (w.alloc (.cells #[u] 26)) := (Below.refl _ w).alloc (Nat.le_refl _) _
  obtain ⟨ua, ul, uc, rfl⟩ := hu.shape
  obtain ⟨xa, xl, xc, rfl⟩ := hx.shape
  refine ⟨fun g n hs => ?_, h3.br, ?_, by omega, h3.bel⟩
  · by_cases e : g = w.heap.size + 1
    · subst e
      rw [up_same] at hs
      cases hs
      exact ⟨by omega, _, _, _, h3.bv, hx.below h3.bel⟩
    · rw [up_other e] at hs
      by_cases e2 : g = w.heap.size
      · subst e2
        rw [up_same] at hs
        cases hs
        exact ⟨by omega, _, _, _, h3.bu, hu.below h3.bel⟩
      · rw [up_other e2] at hs; cases hs
  · rw [up_other (by omega), up_other (by omega)]
theorem NumAt.len_zero {W : World} {a : Option Addr} {l c n : Nat} (h : NumAt W (.slice a l c) n) : l = 0 ↔ n = 0 := by
  obtain ⟨L, h1, h2, h3⟩ := h
  rw [h3.len, ← h2, norm_zero h1]
  exact List.length_eq_zero_iff
set_option maxHeartbeats 8000000 in
set_option maxRecDepth 100000 in
theorem Inv_any {w : World} {u x : Value} {a m : Nat} (hu : NumAt w u a) (hx : NumAt w x m) (haB : blen a ≤ 400000) (hm0 : m ≠ 0) (hmB : blen m ≤ 2048) (F : IV) (hF : ivRun m (a % m + 1) (ivFirst a m) = F) :
    Calls Tryd.prog 24 #[.agg #[u], .agg #[x]] w fun f w' => ∃ r, f = .returned (.tuple #[.agg #[r], .int .i64 (if F.old = 1 then 0 else 13)]) ∧ NumAt w' r (if F.old = 1 then F.had % m else 0) ∧ Below w.heap.size w w' := by
  have hI := Lib.hid (St.made2 hu hx)
  obtain ⟨ua, ul, uc, rfl⟩ := hu.shape
  obtain ⟨xa, xl, xc, rfl⟩ := hx.shape
  obtain ⟨W0, hW0⟩ : ∃ W, ((w.alloc (.cells #[.slice ua ul uc] 26)).alloc (.cells #[.slice xa xl xc] 26)).alloc (.cells #[.slice none 0 0] 26) = W := ⟨_, rfl⟩
  obtain ⟨S, hS⟩ : ∃ S, up (up (fun _ => none) w.heap.size a) (w.heap.size + 1) m = S := ⟨_, rfl⟩
  have hsm : S (w.heap.size + 1) = some m := by rw [← hS]; exact up_same _ _ _
  have hsa : S w.heap.size = some a := by rw [← hS]; exact (up_other (by omega)).trans (up_same _ _ _)
  rw [hW0, hS] at hI
  have hW0H := Lib.hid hW0
  obtain ⟨ma, ml, mc, mb, mn⟩ := (hI.out.vars _ _ hsm).2
  have hM := Modulus_N mn (Nat.le_trans hmB (by decide))
  rw [show modE m = 0 from by unfold modE; rw [if_neg hm0, if_neg (by omega)]] at hM
  have hMH := Lib.hid hM
  have y0 := mb.cell
  have hm1 : onDiv m (1 % m) = 1 % m := by unfold onDiv; rw [if_neg hm0]
  have hm2 : onDiv m (a % m) = a % m := by unfold onDiv; rw [if_neg hm0]
  clear hu hx hW0 mb mn hM hS
  have hsmH := Lib.hid hsm
  have hsaH := Lib.hid hsa
  clear hsm hsa
  go_enter Tryd.func24, Tryd.ntmps24
  go_upto_region 1 with (fail)
  rw [hW0H.out]
  clear hW0H
  go_upto_region 4 with (go_at_call 44; refine hMH.out.mono ?_; rintro e w2 ⟨rfl, hb2⟩; replace hI := Lib.hid (hI.out.below hb2); clear hb2 y0 hMH)
  go_cut [7, 8] from 23 to 26 (fun s7 s8 wx => ∃ (g7 g8 : Nat) (S : Nat → Option Nat), s7 = .pointer (some ⟨g7, 0, none⟩) ∧ s8 = .pointer (some ⟨g8, 0, none⟩) ∧ Hid (St w wx (w.heap.size + 2) S) ∧ Hid (S (w.heap.size + 1) = some m ∧ S g7 = some m ∧ S g8 = some (a % m)) ∧ Hid (w.heap.size + 1 < g7 ∧ w.heap.size + 1 < g8 ∧ g7 ≠ g8))
  case first =>
    have hsm := hsmH.out
    have hsa := hsaH.out
    have hwb : Below w2.heap.size w2 w2.drew := (Below.refl _ _).drew
    replace hI := Lib.hid (hI.out.below hwb)
    clear hwb
    refine Rt.wp_region_tree [1, 1, 1, 2, 2, 2, 3, 3] (.op 0 (.op 1 (.op 2 (.three 3 (.two 4 (.op 5 (.op 6 (.op 7 .fin))) 5 (.op 4 (.op 6 (.op 7 .fin)))) 4 (.two 3 (.op 5 (.op 6 (.op 7 .fin))) 5 (.op 3 (.op 6 (.op 7 .fin)))) 5 (.two 3 (.op 4 (.op 6 (.op 7 .fin))) 4 (.op 3 (.op 6 (.op 7 .fin)))))))) (by kernel_rfl) (by kernel_rfl) ?_
    obtain ⟨x0, hx0⟩ : ∃ W, w2.drew = W := ⟨_, rfl⟩
    rw [hx0] at hI ⊢
    clear hx0
    obtain ⟨v0a, v0l, v0c, z0, n0⟩ := (hI.out.vars _ _ (hsm)).2
    replace z0 := z0.cell
    replace n0 := Lib.hid n0
    obtain ⟨v1a, v1l, v1c, z1, n1⟩ := (hI.out.vars _ _ (hsa)).2
    replace z1 := z1.cell
    replace n1 := Lib.hid n1
    obtain ⟨v2a, v2l, v2c, z2, n2⟩ := (hI.out.vars _ _ (hsm)).2
    replace z2 := z2.cell
    replace n2 := Lib.hid n2
    refine Rt.tree_op ?_
    apply ord_read rfl rfl rfl; (· (intro W hW; have gg := cell_up hW z0; go_simp; with_reducible rfl)); (· (simp only [Act.put, Act.eval, List.setIfInBounds_toArray, List.set_cons_zero, List.set_cons_succ, Array.getD_eq_getD_getElem?, List.getElem?_toArray, List.getElem?_cons_zero, List.getElem?_cons_succ, Option.getD_some, List.getElem_toArray, List.getElem_cons_succ, List.getElem_cons_zero]; with_reducible rfl))
    clear z0
    refine Rt.ord_nil ?_
    refine Rt.tree_op ?_
    apply ord_read rfl rfl rfl; (· (intro W hW; have gg := cell_up hW z1; go_simp; with_reducible rfl)); (· (simp only [Act.put, Act.eval, List.setIfInBounds_toArray, List.set_cons_zero, List.set_cons_succ, Array.getD_eq_getD_getElem?, List.getElem?_toArray, List.getElem?_cons_zero, List.getElem?_cons_succ, Option.getD_some, List.getElem_toArray, List.getElem_cons_succ, List.getElem_cons_zero]; with_reducible rfl))
    clear z1
    refine Rt.ord_nil ?_
    refine Rt.tree_op ?_
    apply ord_read rfl rfl rfl; (· (intro W hW; have gg := cell_up hW z2; go_simp; with_reducible rfl)); (· (simp only [Act.put, Act.eval, List.setIfInBounds_toArray, List.set_cons_zero, List.set_cons_succ, Array.getD_eq_getD_getElem?, List.getElem?_toArray, List.getElem?_cons_zero, List.getElem?_cons_succ, Option.getD_some, List.getElem_toArray, List.getElem_cons_succ, List.getElem_cons_zero]; with_reducible rfl))
    clear z2
    refine Rt.ord_nil ?_
    refine Rt.tree_three ?_ ?_ ?_
    · refine ord_call rfl rfl rfl (by go_simp; exact ⟨rfl, rfl⟩) ?_
      refine (mod_N n1.out n2.out haB (Nat.le_trans hmB (by decide))).mono ?_
      rintro e x1 ⟨v3, rfl, n3, hb⟩
      obtain ⟨v3a, v3l, v3c, rfl⟩ := n3.shape
      refine ⟨_, rfl, hb, ?_⟩
      rw [hm2] at n3
      replace n3 := Lib.hid n3
      replace hI := Lib.hid (hI.out.below hb)
      replace n0 := Lib.hid (n0.out.below hb)
      replace n1 := Lib.hid (n1.out.below hb)
      replace n2 := Lib.hid (n2.out.below hb)
      clear hb
      simp only [Act.put, Act.eval, List.setIfInBounds_toArray, List.set_cons_zero, List.set_cons_succ, Array.getD_eq_getD_getElem?, List.getElem?_toArray, List.getElem?_cons_zero, List.getElem?_cons_succ, Option.getD_some, List.getElem_toArray, List.getElem_cons_succ, List.getElem_cons_zero]
      refine Rt.ord_nil ?_
      refine Rt.tree_two ?_ ?_
      · apply ord_new rfl rfl rfl; (· (go_simp; exact ⟨rfl, rfl⟩)); (· (exact (Below.refl _ _).alloc (Nat.le_refl _) _)); (· (simp only [Act.put, Act.eval, List.setIfInBounds_toArray, List.set_cons_zero, List.set_cons_succ, Array.getD_eq_getD_getElem?, List.getElem?_toArray, List.getElem?_cons_zero, List.getElem?_cons_succ, Option.getD_some, List.getElem_toArray, List.getElem_cons_succ, List.getElem_cons_zero]; with_reducible rfl))
        have hb : Below x1.heap.size x1 (x1.alloc (.cells #[.slice none 0 0] 26)) := (Below.refl _ _).alloc (Nat.le_refl _) _
        have hI' := hI.out.add (NumAt.zero x1)
        have lt_wheapsize_g7 := hI.out.lt (hsa)
        have lt_wheapsizep1_g7 := hI.out.lt (hsm)
        obtain ⟨x2, hx2⟩ : ∃ W, x1.alloc (.cells #[.slice none 0 0] 26) = W := ⟨_, rfl⟩
        rw [hx2] at hI' hb ⊢
        replace n0 := Lib.hid (n0.out.below hb)
        replace n1 := Lib.hid (n1.out.below hb)
        replace n2 := Lib.hid (n2.out.below hb)
        replace n3 := Lib.hid (n3.out.below hb)
        obtain ⟨g7, hhg7⟩ : ∃ g, x1.heap.size = g := ⟨_, rfl⟩
        rw [hhg7] at hI' lt_wheapsize_g7 lt_wheapsizep1_g7 ⊢
        replace hI := Lib.hid hI'
        clear hb hI' hx2 hhg7
        refine Rt.ord_nil ?_
        refine Rt.tree_op ?_
        apply ord_new rfl rfl rfl; (· (go_simp; exact ⟨rfl, rfl⟩)); (· (exact (Below.refl _ _).alloc (Nat.le_refl _) _)); (· (simp only [Act.put, Act.eval, List.setIfInBounds_toArray, List.set_cons_zero, List.set_cons_succ, Array.getD_eq_getD_getElem?, List.getElem?_toArray, List.getElem?_cons_zero, List.getElem?_cons_succ, Option.getD_some, List.getElem_toArray, List.getElem_cons_succ, List.getElem_cons_zero]; with_reducible rfl))
        have hb : Below x2.heap.size x2 (x2.alloc (.cells #[.slice none 0 0] 26)) := (Below.refl _ _).alloc (Nat.le_refl _) _
        have hI' := hI.out.add (NumAt.zero x2)
        have lt_wheapsize_g8 := hI.out.lt ((up_other (by omega)).trans (hsa))
        have lt_wheapsizep1_g8 := hI.out.lt ((up_other (by omega)).trans (hsm))
        have lt_g7_g8 := hI.out.lt (up_same _ _ _)
        obtain ⟨x3, hx3⟩ : ∃ W, x2.alloc (.cells #[.slice none 0 0] 26) = W := ⟨_, rfl⟩
        rw [hx3] at hI' hb ⊢
        replace n0 := Lib.hid (n0.out.below hb)
        replace n1 := Lib.hid (n1.out.below hb)
        replace n2 := Lib.hid (n2.out.below hb)
        replace n3 := Lib.hid (n3.out.below hb)
        obtain ⟨g8, hhg8⟩ : ∃ g, x2.heap.size = g := ⟨_, rfl⟩
        rw [hhg8] at hI' lt_wheapsize_g8 lt_wheapsizep1_g8 lt_g7_g8 ⊢
        replace hI := Lib.hid hI'
        clear hb hI' hx3 hhg8
        refine Rt.ord_nil ?_
        refine Rt.tree_op ?_
        have hv := (hI.out.vars _ _ ((up_other (by omega)).trans (up_same _ _ _))).2
        obtain ⟨qa, ql, qc, qb, qn⟩ := id hv
        have cc := qb.cell
        have ff := qb.frozen
        clear qb qn
        apply ord_do rfl rfl rfl; (· (go_simp; with_reducible rfl)); (· (simp only [Act.put, Act.eval, List.setIfInBounds_toArray, List.set_cons_zero, List.set_cons_succ, Array.getD_eq_getD_getElem?, List.getElem?_toArray, List.getElem?_cons_zero, List.getElem?_cons_succ, Option.getD_some, List.getElem_toArray, List.getElem_cons_succ, List.getElem_cons_zero]; with_reducible rfl))
        clear cc ff
        have hI' := hI.out.set ((up_other (by omega)).trans (up_same _ _ _)) n0.out
        obtain ⟨x4, hx4⟩ : ∃ W, x3.setCell ⟨g7, 0, none⟩ (.slice v0a v0l v0c) = W := ⟨_, rfl⟩
        replace n0 := Lib.hid (n0.out.otherV hv (.slice v0a v0l v0c))
        replace n1 := Lib.hid (n1.out.otherV hv (.slice v0a v0l v0c))
        replace n2 := Lib.hid (n2.out.otherV hv (.slice v0a v0l v0c))
        replace n3 := Lib.hid (n3.out.otherV hv (.slice v0a v0l v0c))
        rw [hx4] at hI' n0 n1 n2 n3 ⊢
        replace hI := Lib.hid hI'
        clear hI' hx4 hv
        refine Rt.ord_nil ?_
        refine Rt.tree_op ?_
        have hv := (hI.out.vars _ _ ((up_other (by omega)).trans (up_same _ _ _))).2
        obtain ⟨qa, ql, qc, qb, qn⟩ := id hv
        have cc := qb.cell
        have ff := qb.frozen
        clear qb qn
        apply ord_do rfl rfl rfl; (· (go_simp; with_reducible rfl)); (· (simp only [Act.put, Act.eval, List.setIfInBounds_toArray, List.set_cons_zero, List.set_cons_succ, Array.getD_eq_getD_getElem?, List.getElem?_toArray, List.getElem?_cons_zero, List.getElem?_cons_succ, Option.getD_some, List.getElem_toArray, List.getElem_cons_succ, List.getElem_cons_zero]; with_reducible rfl))
        clear cc ff
        have hI' := hI.out.set ((up_other (by omega)).trans (up_same _ _ _)) n3.out
        obtain ⟨x5, hx5⟩ : ∃ W, x4.setCell ⟨g8, 0, none⟩ (.slice v3a v3l v3c) = W := ⟨_, rfl⟩
        replace n0 := Lib.hid (n0.out.otherV hv (.slice v3a v3l v3c))
        replace n1 := Lib.hid (n1.out.otherV hv (.slice v3a v3l v3c))
        replace n2 := Lib.hid (n2.out.otherV hv (.slice v3a v3l v3c))
        replace n3 := Lib.hid (n3.out.otherV hv (.slice v3a v3l v3c))
        rw [hx5] at hI' n0 n1 n2 n3 ⊢
        replace hI := Lib.hid hI'
        clear hI' hx5 hv
        refine Rt.ord_nil ?_
        refine Rt.tree_fin ?_
        go_wp2_with fail
        go_meet
        case rel => exact ⟨g7, g8, _, rfl, rfl, hI, Lib.hid ⟨(up_other (by omega)).trans ((up_other (by omega)).trans ((up_other (by omega)).trans ((up_other (by omega)).trans (hsm)))), (up_other (by omega)).trans (up_same _ _ _), up_same _ _ _⟩, Lib.hid (by omega)⟩
      · apply ord_new rfl rfl rfl; (· (go_simp; exact ⟨rfl, rfl⟩)); (· (exact (Below.refl _ _).alloc (Nat.le_refl _) _)); (· (simp only [Act.put, Act.eval, List.setIfInBounds_toArray, List.set_cons_zero, List.set_cons_succ, Array.getD_eq_getD_getElem?, List.getElem?_toArray, List.getElem?_cons_zero, List.getElem?_cons_succ, Option.getD_some, List.getElem_toArray, List.getElem_cons_succ, List.getElem_cons_zero]; with_reducible rfl))
        have hb : Below x1.heap.size x1 (x1.alloc (.cells #[.slice none 0 0] 26)) := (Below.refl _ _).alloc (Nat.le_refl _) _
        have hI' := hI.out.add (NumAt.zero x1)
        have lt_wheapsize_g8 := hI.out.lt (hsa)
        have lt_wheapsizep1_g8 := hI.out.lt (hsm)
        obtain ⟨x2, hx2⟩ : ∃ W, x1.alloc (.cells #[.slice none 0 0] 26) = W := ⟨_, rfl⟩
        rw [hx2] at hI' hb ⊢
        replace n0 := Lib.hid (n0.out.below hb)
        replace n1 := Lib.hid (n1.out.below hb)
        replace n2 := Lib.hid (n2.out.below hb)
        replace n3 := Lib.hid (n3.out.below hb)
        obtain ⟨g8, hhg8⟩ : ∃ g, x1.heap.size = g := ⟨_, rfl⟩
        rw [hhg8] at hI' lt_wheapsize_g8 lt_wheapsizep1_g8 ⊢
        replace hI := Lib.hid hI'
        clear hb hI' hx2 hhg8
        refine Rt.ord_nil ?_
        refine Rt.tree_op ?_
        apply ord_new rfl rfl rfl; (· (go_simp; exact ⟨rfl, rfl⟩)); (· (exact (Below.refl _ _).alloc (Nat.le_refl _) _)); (· (simp only [Act.put, Act.eval, List.setIfInBounds_toArray, List.set_cons_zero, List.set_cons_succ, Array.getD_eq_getD_getElem?, List.getElem?_toArray, List.getElem?_cons_zero, List.getElem?_cons_succ, Option.getD_some, List.getElem_toArray, List.getElem_cons_succ, List.getElem_cons_zero]; with_reducible rfl))
        have hb : Below x2.heap.size x2 (x2.alloc (.cells #[.slice none 0 0] 26)) := (Below.refl _ _).alloc (Nat.le_refl _) _
        have hI' := hI.out.add (NumAt.zero x2)
        have lt_wheapsize_g7 := hI.out.lt ((up_other (by omega)).trans (hsa))
        have lt_wheapsizep1_g7 := hI.out.lt ((up_other (by omega)).trans (hsm))
        have lt_g8_g7 := hI.out.lt (up_same _ _ _)
        obtain ⟨x3, hx3⟩ : ∃ W, x2.alloc (.cells #[.slice none 0 0] 26) = W := ⟨_, rfl⟩
        rw [hx3] at hI' hb ⊢
        replace n0 := Lib.hid (n0.out.below hb)
        replace n1 := Lib.hid (n1.out.below hb)
        replace n2 := Lib.hid (n2.out.below hb)
        replace n3 := Lib.hid (n3.out.below hb)
        obtain ⟨g7, hhg7⟩ : ∃ g, x2.heap.size = g := ⟨_, rfl⟩
        rw [hhg7] at hI' lt_wheapsize_g7 lt_wheapsizep1_g7 lt_g8_g7 ⊢
        replace hI := Lib.hid hI'
        clear hb hI' hx3 hhg7
        refine Rt.ord_nil ?_
        refine Rt.tree_op ?_
        have hv := (hI.out.vars _ _ (up_same _ _ _)).2
        obtain ⟨qa, ql, qc, qb, qn⟩ := id hv
        have cc := qb.cell
        have ff := qb.frozen
        clear qb qn
        apply ord_do rfl rfl rfl; (· (go_simp; with_reducible rfl)); (· (simp only [Act.put, Act.eval, List.setIfInBounds_toArray, List.set_cons_zero, List.set_cons_succ, Array.getD_eq_getD_getElem?, List.getElem?_toArray, List.getElem?_cons_zero, List.getElem?_cons_succ, Option.getD_some, List.getElem_toArray, List.getElem_cons_succ, List.getElem_cons_zero]; with_reducible rfl))
        clear cc ff
        have hI' := hI.out.set (up_same _ _ _) n0.out
        obtain ⟨x4, hx4⟩ : ∃ W, x3.setCell ⟨g7, 0, none⟩ (.slice v0a v0l v0c) = W := ⟨_, rfl⟩
        replace n0 := Lib.hid (n0.out.otherV hv (.slice v0a v0l v0c))
        replace n1 := Lib.hid (n1.out.otherV hv (.slice v0a v0l v0c))
        replace n2 := Lib.hid (n2.out.otherV hv (.slice v0a v0l v0c))
        replace n3 := Lib.hid (n3.out.otherV hv (.slice v0a v0l v0c))
        rw [hx4] at hI' n0 n1 n2 n3 ⊢
        replace hI := Lib.hid hI'
        clear hI' hx4 hv
        refine Rt.ord_nil ?_
        refine Rt.tree_op ?_
        have hv := (hI.out.vars _ _ ((up_other (by omega)).trans ((up_other (by omega)).trans (up_same _ _ _)))).2
        obtain ⟨qa, ql, qc, qb, qn⟩ := id hv
        have cc := qb.cell
        have ff := qb.frozen
        clear qb qn
        apply ord_do rfl rfl rfl; (· (go_simp; with_reducible rfl)); (· (simp only [Act.put, Act.eval, List.setIfInBounds_toArray, List.set_cons_zero, List.set_cons_succ, Array.getD_eq_getD_getElem?, List.getElem?_toArray, List.getElem?_cons_zero, List.getElem?_cons_succ, Option.getD_some, List.getElem_toArray, List.getElem_cons_succ, List.getElem_cons_zero]; with_reducible rfl))
        clear cc ff
        have hI' := hI.out.set ((up_other (by omega)).trans ((up_other (by omega)).trans (up_same _ _ _))) n3.out
        obtain ⟨x5, hx5⟩ : ∃ W, x4.setCell ⟨g8, 0, none⟩ (.slice v3a v3l v3c) = W := ⟨_, rfl⟩
        replace n0 := Lib.hid (n0.out.otherV hv (.slice v3a v3l v3c))
        replace n1 := Lib.hid (n1.out.otherV hv (.slice v3a v3l v3c))
        replace n2 := Lib.hid (n2.out.otherV hv (.slice v3a v3l v3c))
        replace n3 := Lib.hid (n3.out.otherV hv (.slice v3a v3l v3c))
        rw [hx5] at hI' n0 n1 n2 n3 ⊢
        replace hI := Lib.hid hI'
        clear hI' hx5 hv
        refine Rt.ord_nil ?_
        refine Rt.tree_fin ?_
        go_wp2_with fail
        go_meet
        case rel => exact ⟨g7, g8, _, rfl, rfl, hI, Lib.hid ⟨(up_other (by omega)).trans ((up_other (by omega)).trans ((up_other (by omega)).trans ((up_other (by omega)).trans (hsm)))), (up_other (by omega)).trans (up_same _ _ _), up_same _ _ _⟩, Lib.hid (by omega)⟩
    · apply ord_new rfl rfl rfl; (· (go_simp; exact ⟨rfl, rfl⟩)); (· (exact (Below.refl _ _).alloc (Nat.le_refl _) _)); (· (simp only [Act.put, Act.eval, List.setIfInBounds_toArray, List.set_cons_zero, List.set_cons_succ, Array.getD_eq_getD_getElem?, List.getElem?_toArray, List.getElem?_cons_zero, List.getElem?_cons_succ, Option.getD_some, List.getElem_toArray, List.getElem_cons_succ, List.getElem_cons_zero]; with_reducible rfl))
      have hb : Below x0.heap.size x0 (x0.alloc (.cells #[.slice none 0 0] 26)) := (Below.refl _ _).alloc (Nat.le_refl _) _
      have hI' := hI.out.add (NumAt.zero x0)
      have lt_wheapsize_g7 := hI.out.lt (hsa)
      have lt_wheapsizep1_g7 := hI.out.lt (hsm)
      obtain ⟨x1, hx1⟩ : ∃ W, x0.alloc (.cells #[.slice none 0 0] 26) = W := ⟨_, rfl⟩
      rw [hx1] at hI' hb ⊢
      replace n0 := Lib.hid (n0.out.below hb)
      replace n1 := Lib.hid (n1.out.below hb)
      replace n2 := Lib.hid (n2.out.below hb)
      obtain ⟨g7, hhg7⟩ : ∃ g, x0.heap.size = g := ⟨_, rfl⟩
      rw [hhg7] at hI' lt_wheapsize_g7 lt_wheapsizep1_g7 ⊢
      replace hI := Lib.hid hI'
      clear hb hI' hx1 hhg7
      refine Rt.ord_nil ?_
      refine Rt.tree_two ?_ ?_
      · refine ord_call rfl rfl rfl (by go_simp; exact ⟨rfl, rfl⟩) ?_
        refine (mod_N n1.out n2.out haB (Nat.le_trans hmB (by decide))).mono ?_
        rintro e x2 ⟨v3, rfl, n3, hb⟩
        obtain ⟨v3a, v3l, v3c, rfl⟩ := n3.shape
        refine ⟨_, rfl, hb, ?_⟩
        rw [hm2] at n3
        replace n3 := Lib.hid n3
        replace hI := Lib.hid (hI.out.below hb)
        replace n0 := Lib.hid (n0.out.below hb)
        replace n1 := Lib.hid (n1.out.below hb)
        replace n2 := Lib.hid (n2.out.below hb)
        clear hb
        simp only [Act.put, Act.eval, List.setIfInBounds_toArray, List.set_cons_zero, List.set_cons_succ, Array.getD_eq_getD_getElem?, List.getElem?_toArray, List.getElem?_cons_zero, List.getElem?_cons_succ, Option.getD_some, List.getElem_toArray, List.getElem_cons_succ, List.getElem_cons_zero]
        refine Rt.ord_nil ?_
        refine Rt.tree_op ?_
        apply ord_new rfl rfl rfl; (· (go_simp; exact ⟨rfl, rfl⟩)); (· (exact (Below.refl _ _).alloc (Nat.le_refl _) _)); (· (simp only [Act.put, Act.eval, List.setIfInBounds_toArray, List.set_cons_zero, List.set_cons_succ, Array.getD_eq_getD_getElem?, List.getElem?_toArray, List.getElem?_cons_zero, List.getElem?_cons_succ, Option.getD_some, List.getElem_toArray, List.getElem_cons_succ, List.getElem_cons_zero]; with_reducible rfl))
        have hb : Below x2.heap.size x2 (x2.alloc (.cells #[.slice none 0 0] 26)) := (Below.refl _ _).alloc (Nat.le_refl _) _
        have hI' := hI.out.add (NumAt.zero x2)
        have lt_wheapsize_g8 := hI.out.lt ((up_other (by omega)).trans (hsa))
        have lt_wheapsizep1_g8 := hI.out.lt ((up_other (by omega)).trans (hsm))
        have lt_g7_g8 := hI.out.lt (up_same _ _ _)
        obtain ⟨x3, hx3⟩ : ∃ W, x2.alloc (.cells #[.slice none 0 0] 26) = W := ⟨_, rfl⟩
        rw [hx3] at hI' hb ⊢
        replace n0 := Lib.hid (n0.out.below hb)
        replace n1 := Lib.hid (n1.out.below hb)
        replace n2 := Lib.hid (n2.out.below hb)
        replace n3 := Lib.hid (n3.out.below hb)
        obtain ⟨g8, hhg8⟩ : ∃ g, x2.heap.size = g := ⟨_, rfl⟩
        rw [hhg8] at hI' lt_wheapsize_g8 lt_wheapsizep1_g8 lt_g7_g8 ⊢
        replace hI := Lib.hid hI'
        clear hb hI' hx3 hhg8
        refine Rt.ord_nil ?_
        refine Rt.tree_op ?_
        have hv := (hI.out.vars _ _ ((up_other (by omega)).trans (up_same _ _ _))).2
        obtain ⟨qa, ql, qc, qb, qn⟩ := id hv
        have cc := qb.cell
        have ff := qb.frozen
        clear qb qn
        apply ord_do rfl rfl rfl; (· (go_simp; with_reducible rfl)); (· (simp only [Act.put, Act.eval, List.setIfInBounds_toArray, List.set_cons_zero, List.set_cons_succ, Array.getD_eq_getD_getElem?, List.getElem?_toArray, List.getElem?_cons_zero, List.getElem?_cons_succ, Option.getD_some, List.getElem_toArray, List.getElem_cons_succ, List.getElem_cons_zero]; with_reducible rfl))
        clear cc ff
        have hI' := hI.out.set ((up_other (by omega)).trans (up_same _ _ _)) n0.out
        obtain ⟨x4, hx4⟩ : ∃ W, x3.setCell ⟨g7, 0, none⟩ (.slice v0a v0l v0c) = W := ⟨_, rfl⟩
        replace n0 := Lib.hid (n0.out.otherV hv (.slice v0a v0l v0c))
        replace n1 := Lib.hid (n1.out.otherV hv (.slice v0a v0l v0c))
        replace n2 := Lib.hid (n2.out.otherV hv (.slice v0a v0l v0c))
        replace n3 := Lib.hid (n3.out.otherV hv (.slice v0a v0l v0c))
        rw [hx4] at hI' n0 n1 n2 n3 ⊢
        replace hI := Lib.hid hI'
        clear hI' hx4 hv
        refine Rt.ord_nil ?_
        refine Rt.tree_op ?_
        have hv := (hI.out.vars _ _ ((up_other (by omega)).trans (up_same _ _ _))).2
        obtain ⟨qa, ql, qc, qb, qn⟩ := id hv
        have cc := qb.cell
        have ff := qb.frozen
        clear qb qn
        apply ord_do rfl rfl rfl; (· (go_simp; with_reducible rfl)); (· (simp only [Act.put, Act.eval, List.setIfInBounds_toArray, List.set_cons_zero, List.set_cons_succ, Array.getD_eq_getD_getElem?, List.getElem?_toArray, List.getElem?_cons_zero, List.getElem?_cons_succ, Option.getD_some, List.getElem_toArray, List.getElem_cons_succ, List.getElem_cons_zero]; with_reducible rfl))
        clear cc ff
        have hI' := hI.out.set ((up_other (by omega)).trans (up_same _ _ _)) n3.out
        obtain ⟨x5, hx5⟩ : ∃ W, x4.setCell ⟨g8, 0, none⟩ (.slice v3a v3l v3c) = W := ⟨_, rfl⟩
        replace n0 := Lib.hid (n0.out.otherV hv (.slice v3a v3l v3c))
        replace n1 := Lib.hid (n1.out.otherV hv (.slice v3a v3l v3c))
        replace n2 := Lib.hid (n2.out.otherV hv (.slice v3a v3l v3c))
        replace n3 := Lib.hid (n3.out.otherV hv (.slice v3a v3l v3c))
        rw [hx5] at hI' n0 n1 n2 n3 ⊢
        replace hI := Lib.hid hI'
        clear hI' hx5 hv
        refine Rt.ord_nil ?_
        refine Rt.tree_fin ?_
        go_wp2_with fail
        go_meet
        case rel => exact ⟨g7, g8, _, rfl, rfl, hI, Lib.hid ⟨(up_other (by omega)).trans ((up_other (by omega)).trans ((up_other (by omega)).trans ((up_other (by omega)).trans (hsm)))), (up_other (by omega)).trans (up_same _ _ _), up_same _ _ _⟩, Lib.hid (by omega)⟩
      · apply ord_new rfl rfl rfl; (· (go_simp; exact ⟨rfl, rfl⟩)); (· (exact (Below.refl _ _).alloc (Nat.le_refl _) _)); (· (simp only [Act.put, Act.eval, List.setIfInBounds_toArray, List.set_cons_zero, List.set_cons_succ, Array.getD_eq_getD_getElem?, List.getElem?_toArray, List.getElem?_cons_zero, List.getElem?_cons_succ, Option.getD_some, List.getElem_toArray, List.getElem_cons_succ, List.getElem_cons_zero]; with_reducible rfl))
        have hb : Below x1.heap.size x1 (x1.alloc (.cells #[.slice none 0 0] 26)) := (Below.refl _ _).alloc (Nat.le_refl _) _
        have hI' := hI.out.add (NumAt.zero x1)
        have lt_wheapsize_g8 := hI.out.lt ((up_other (by omega)).trans (hsa))
        have lt_wheapsizep1_g8 := hI.out.lt ((up_other (by omega)).trans (hsm))
        have lt_g7_g8 := hI.out.lt (up_same _ _ _)
        obtain ⟨x2, hx2⟩ : ∃ W, x1.alloc (.cells #[.slice none 0 0] 26) = W := ⟨_, rfl⟩
        rw [hx2] at hI' hb ⊢
        replace n0 := Lib.hid (n0.out.below hb)
        replace n1 := Lib.hid (n1.out.below hb)
        replace n2 := Lib.hid (n2.out.below hb)
        obtain ⟨g8, hhg8⟩ : ∃ g, x1.heap.size = g := ⟨_, rfl⟩
        rw [hhg8] at hI' lt_wheapsize_g8 lt_wheapsizep1_g8 lt_g7_g8 ⊢
        replace hI := Lib.hid hI'
        clear hb hI' hx2 hhg8
        refine Rt.ord_nil ?_
        refine Rt.tree_op ?_
        refine ord_call rfl rfl rfl (by go_simp; exact ⟨rfl, rfl⟩) ?_
        refine (mod_N n1.out n2.out haB (Nat.le_trans hmB (by decide))).mono ?_
        rintro e x3 ⟨v3, rfl, n3, hb⟩
        obtain ⟨v3a, v3l, v3c, rfl⟩ := n3.shape
        refine ⟨_, rfl, hb, ?_⟩
        rw [hm2] at n3
        replace n3 := Lib.hid n3
        replace hI := Lib.hid (hI.out.below hb)
        replace n0 := Lib.hid (n0.out.below hb)
        replace n1 := Lib.hid (n1.out.below hb)
        replace n2 := Lib.hid (n2.out.below hb)
        clear hb
        simp only [Act.put, Act.eval, List.setIfInBounds_toArray, List.set_cons_zero, List.set_cons_succ, Array.getD_eq_getD_getElem?, List.getElem?_toArray, List.getElem?_cons_zero, List.getElem?_cons_succ, Option.getD_some, List.getElem_toArray, List.getElem_cons_succ, List.getElem_cons_zero]
        refine Rt.ord_nil ?_
        refine Rt.tree_op ?_
        have hv := (hI.out.vars _ _ ((up_other (by omega)).trans (up_same _ _ _))).2
        obtain ⟨qa, ql, qc, qb, qn⟩ := id hv
        have cc := qb.cell
        have ff := qb.frozen
        clear qb qn
        apply ord_do rfl rfl rfl; (· (go_simp; with_reducible rfl)); (· (simp only [Act.put, Act.eval, List.setIfInBounds_toArray, List.set_cons_zero, List.set_cons_succ, Array.getD_eq_getD_getElem?, List.getElem?_toArray, List.getElem?_cons_zero, List.getElem?_cons_succ, Option.getD_some, List.getElem_toArray, List.getElem_cons_succ, List.getElem_cons_zero]; with_reducible rfl))
        clear cc ff
        have hI' := hI.out.set ((up_other (by omega)).trans (up_same _ _ _)) n0.out
        obtain ⟨x4, hx4⟩ : ∃ W, x3.setCell ⟨g7, 0, none⟩ (.slice v0a v0l v0c) = W := ⟨_, rfl⟩
        replace n0 := Lib.hid (n0.out.otherV hv (.slice v0a v0l v0c))
        replace n1 := Lib.hid (n1.out.otherV hv (.slice v0a v0l v0c))
        replace n2 := Lib.hid (n2.out.otherV hv (.slice v0a v0l v0c))
        replace n3 := Lib.hid (n3.out.otherV hv (.slice v0a v0l v0c))
        rw [hx4] at hI' n0 n1 n2 n3 ⊢
        replace hI := Lib.hid hI'
        clear hI' hx4 hv
        refine Rt.ord_nil ?_
        refine Rt.tree_op ?_
        have hv := (hI.out.vars _ _ ((up_other (by omega)).trans (up_same _ _ _))).2
        obtain ⟨qa, ql, qc, qb, qn⟩ := id hv
        have cc := qb.cell
        have ff := qb.frozen
        clear qb qn
        apply ord_do rfl rfl rfl; (· (go_simp; with_reducible rfl)); (· (simp only [Act.put, Act.eval, List.setIfInBounds_toArray, List.set_cons_zero, List.set_cons_succ, Array.getD_eq_getD_getElem?, List.getElem?_toArray, List.getElem?_cons_zero, List.getElem?_cons_succ, Option.getD_some, List.getElem_toArray, List.getElem_cons_succ, List.getElem_cons_zero]; with_reducible rfl))
        clear cc ff
        have hI' := hI.out.set ((up_other (by omega)).trans (up_same _ _ _)) n3.out
        obtain ⟨x5, hx5⟩ : ∃ W, x4.setCell ⟨g8, 0, none⟩ (.slice v3a v3l v3c) = W := ⟨_, rfl⟩
        replace n0 := Lib.hid (n0.out.otherV hv (.slice v3a v3l v3c))
        replace n1 := Lib.hid (n1.out.otherV hv (.slice v3a v3l v3c))
        replace n2 := Lib.hid (n2.out.otherV hv (.slice v3a v3l v3c))
        replace n3 := Lib.hid (n3.out.otherV hv (.slice v3a v3l v3c))
        rw [hx5] at hI' n0 n1 n2 n3 ⊢
        replace hI := Lib.hid hI'
        clear hI' hx5 hv
        refine Rt.ord_nil ?_
        refine Rt.tree_fin ?_
        go_wp2_with fail
        go_meet
        case rel => exact ⟨g7, g8, _, rfl, rfl, hI, Lib.hid ⟨(up_other (by omega)).trans ((up_other (by omega)).trans ((up_other (by omega)).trans ((up_other (by omega)).trans (hsm)))), (up_other (by omega)).trans (up_same _ _ _), up_same _ _ _⟩, Lib.hid (by omega)⟩
    · apply ord_new rfl rfl rfl; (· (go_simp; exact ⟨rfl, rfl⟩)); (· (exact (Below.refl _ _).alloc (Nat.le_refl _) _)); (· (simp only [Act.put, Act.eval, List.setIfInBounds_toArray, List.set_cons_zero, List.set_cons_succ, Array.getD_eq_getD_getElem?, List.getElem?_toArray, List.getElem?_cons_zero, List.getElem?_cons_succ, Option.getD_some, List.getElem_toArray, List.getElem_cons_succ, List.getElem_cons_zero]; with_reducible rfl))
      have hb : Below x0.heap.size x0 (x0.alloc (.cells #[.slice none 0 0] 26)) := (Below.refl _ _).alloc (Nat.le_refl _) _
      have hI' := hI.out.add (NumAt.zero x0)
      have lt_wheapsize_g8 := hI.out.lt (hsa)
      have lt_wheapsizep1_g8 := hI.out.lt (hsm)
      obtain ⟨x1, hx1⟩ : ∃ W, x0.alloc (.cells #[.slice none 0 0] 26) = W := ⟨_, rfl⟩
      rw [hx1] at hI' hb ⊢
      replace n0 := Lib.hid (n0.out.below hb)
      replace n1 := Lib.hid (n1.out.below hb)
      replace n2 := Lib.hid (n2.out.below hb)
      obtain ⟨g8, hhg8⟩ : ∃ g, x0.heap.size = g := ⟨_, rfl⟩
      rw [hhg8] at hI' lt_wheapsize_g8 lt_wheapsizep1_g8 ⊢
      replace hI := Lib.hid hI'
      clear hb hI' hx1 hhg8
      refine Rt.ord_nil ?_
      refine Rt.tree_two ?_ ?_
      · refine ord_call rfl rfl rfl (by go_simp; exact ⟨rfl, rfl⟩) ?_
        refine (mod_N n1.out n2.out haB (Nat.le_trans hmB (by decide))).mono ?_
        rintro e x2 ⟨v3, rfl, n3, hb⟩
        obtain ⟨v3a, v3l, v3c, rfl⟩ := n3.shape
        refine ⟨_, rfl, hb, ?_⟩
        rw [hm2] at n3
        replace n3 := Lib.hid n3
        replace hI := Lib.hid (hI.out.below hb)
        replace n0 := Lib.hid (n0.out.below hb)
        replace n1 := Lib.hid (n1.out.below hb)
        replace n2 := Lib.hid (n2.out.below hb)
        clear hb
        simp only [Act.put, Act.eval, List.setIfInBounds_toArray, List.set_cons_zero, List.set_cons_succ, Array.getD_eq_getD_getElem?, List.getElem?_toArray, List.getElem?_cons_zero, List.getElem?_cons_succ, Option.getD_some, List.getElem_toArray, List.getElem_cons_succ, List.getElem_cons_zero]
        refine Rt.ord_nil ?_
        refine Rt.tree_op ?_
        apply ord_new rfl rfl rfl; (· (go_simp; exact ⟨rfl, rfl⟩)); (· (exact (Below.refl _ _).alloc (Nat.le_refl _) _)); (· (simp only [Act.put, Act.eval, List.setIfInBounds_toArray, List.set_cons_zero, List.set_cons_succ, Array.getD_eq_getD_getElem?, List.getElem?_toArray, List.getElem?_cons_zero, List.getElem?_cons_succ, Option.getD_some, List.getElem_toArray, List.getElem_cons_succ, List.getElem_cons_zero]; with_reducible rfl))
        have hb : Below x2.heap.size x2 (x2.alloc (.cells #[.slice none 0 0] 26)) := (Below.refl _ _).alloc (Nat.le_refl _) _
        have hI' := hI.out.add (NumAt.zero x2)
        have lt_wheapsize_g7 := hI.out.lt ((up_other (by omega)).trans (hsa))
        have lt_wheapsizep1_g7 := hI.out.lt ((up_other (by omega)).trans (hsm))
        have lt_g8_g7 := hI.out.lt (up_same _ _ _)
        obtain ⟨x3, hx3⟩ : ∃ W, x2.alloc (.cells #[.slice none 0 0] 26) = W := ⟨_, rfl⟩
        rw [hx3] at hI' hb ⊢
        replace n0 := Lib.hid (n0.out.below hb)
        replace n1 := Lib.hid (n1.out.below hb)
        replace n2 := Lib.hid (n2.out.below hb)
        replace n3 := Lib.hid (n3.out.below hb)
        obtain ⟨g7, hhg7⟩ : ∃ g, x2.heap.size = g := ⟨_, rfl⟩
        rw [hhg7] at hI' lt_wheapsize_g7 lt_wheapsizep1_g7 lt_g8_g7 ⊢
        replace hI := Lib.hid hI'
        clear hb hI' hx3 hhg7
        refine Rt.ord_nil ?_
        refine Rt.tree_op ?_
        have hv := (hI.out.vars _ _ (up_same _ _ _)).2
        obtain ⟨qa, ql, qc, qb, qn⟩ := id hv
        have cc := qb.cell
        have ff := qb.frozen
        clear qb qn
        apply ord_do rfl rfl rfl; (· (go_simp; with_reducible rfl)); (· (simp only [Act.put, Act.eval, List.setIfInBounds_toArray, List.set_cons_zero, List.set_cons_succ, Array.getD_eq_getD_getElem?, List.getElem?_toArray, List.getElem?_cons_zero, List.getElem?_cons_succ, Option.getD_some, List.getElem_toArray, List.getElem_cons_succ, List.getElem_cons_zero]; with_reducible rfl))
        clear cc ff
        have hI' := hI.out.set (up_same _ _ _) n0.out
        obtain ⟨x4, hx4⟩ : ∃ W, x3.setCell ⟨g7, 0, none⟩ (.slice v0a v0l v0c) = W := ⟨_, rfl⟩
        replace n0 := Lib.hid (n0.out.otherV hv (.slice v0a v0l v0c))
        replace n1 := Lib.hid (n1.out.otherV hv (.slice v0a v0l v0c))
        replace n2 := Lib.hid (n2.out.otherV hv (.slice v0a v0l v0c))
        replace n3 := Lib.hid (n3.out.otherV hv (.slice v0a v0l v0c))
        rw [hx4] at hI' n0 n1 n2 n3 ⊢
        replace hI := Lib.hid hI'
        clear hI' hx4 hv
        refine Rt.ord_nil ?_
        refine Rt.tree_op ?_
        have hv := (hI.out.vars _ _ ((up_other (by omega)).trans ((up_other (by omega)).trans (up_same _ _ _)))).2
        obtain ⟨qa, ql, qc, qb, qn⟩ := id hv
        have cc := qb.cell
        have ff := qb.frozen
        clear qb qn
        apply ord_do rfl rfl rfl; (· (go_simp; with_reducible rfl)); (· (simp only [Act.put, Act.eval, List.setIfInBounds_toArray, List.set_cons_zero, List.set_cons_succ, Array.getD_eq_getD_getElem?, List.getElem?_toArray, List.getElem?_cons_zero, List.getElem?_cons_succ, Option.getD_some, List.getElem_toArray, List.getElem_cons_succ, List.getElem_cons_zero]; with_reducible rfl))
        clear cc ff
        have hI' := hI.out.set ((up_other (by omega)).trans ((up_other (by omega)).trans (up_same _ _ _))) n3.out
        obtain ⟨x5, hx5⟩ : ∃ W, x4.setCell ⟨g8, 0, none⟩ (.slice v3a v3l v3c) = W := ⟨_, rfl⟩
        replace n0 := Lib.hid (n0.out.otherV hv (.slice v3a v3l v3c))
        replace n1 := Lib.hid (n1.out.otherV hv (.slice v3a v3l v3c))
        replace n2 := Lib.hid (n2.out.otherV hv (.slice v3a v3l v3c))
        replace n3 := Lib.hid (n3.out.otherV hv (.slice v3a v3l v3c))
        rw [hx5] at hI' n0 n1 n2 n3 ⊢
        replace hI := Lib.hid hI'
        clear hI' hx5 hv
        refine Rt.ord_nil ?_
        refine Rt.tree_fin ?_
        go_wp2_with fail
        go_meet
        case rel => exact ⟨g7, g8, _, rfl, rfl, hI, Lib.hid ⟨(up_other (by omega)).trans ((up_other (by omega)).trans ((up_other (by omega)).trans ((up_other (by omega)).trans (hsm)))), (up_other (by omega)).trans (up_same _ _ _), up_same _ _ _⟩, Lib.hid (by omega)⟩
      · apply ord_new rfl rfl rfl; (· (go_simp; exact ⟨rfl, rfl⟩)); (· (exact (Below.refl _ _).alloc (Nat.le_refl _) _)); (· (simp only [Act.put, Act.eval, List.setIfInBounds_toArray, List.set_cons_zero, List.set_cons_succ, Array.getD_eq_getD_getElem?, List.getElem?_toArray, List.getElem?_cons_zero, List.getElem?_cons_succ, Option.getD_some, List.getElem_toArray, List.getElem_cons_succ, List.getElem_cons_zero]; with_reducible rfl))
        have hb : Below x1.heap.size x1 (x1.alloc (.cells #[.slice none 0 0] 26)) := (Below.refl _ _).alloc (Nat.le_refl _) _
        have hI' := hI.out.add (NumAt.zero x1)
        have lt_wheapsize_g7 := hI.out.lt ((up_other (by omega)).trans (hsa))
        have lt_wheapsizep1_g7 := hI.out.lt ((up_other (by omega)).trans (hsm))
        have lt_g8_g7 := hI.out.lt (up_same _ _ _)
        obtain ⟨x2, hx2⟩ : ∃ W, x1.alloc (.cells #[.slice none 0 0] 26) = W := ⟨_, rfl⟩
        rw [hx2] at hI' hb ⊢
        replace n0 := Lib.hid (n0.out.below hb)
        replace n1 := Lib.hid (n1.out.below hb)
        replace n2 := Lib.hid (n2.out.below hb)
        obtain ⟨g7, hhg7⟩ : ∃ g, x1.heap.size = g := ⟨_, rfl⟩
        rw [hhg7] at hI' lt_wheapsize_g7 lt_wheapsizep1_g7 lt_g8_g7 ⊢
        replace hI := Lib.hid hI'
        clear hb hI' hx2 hhg7
        refine Rt.ord_nil ?_
        refine Rt.tree_op ?_
        refine ord_call rfl rfl rfl (by go_simp; exact ⟨rfl, rfl⟩) ?_
        refine (mod_N n1.out n2.out haB (Nat.le_trans hmB (by decide))).mono ?_
        rintro e x3 ⟨v3, rfl, n3, hb⟩
        obtain ⟨v3a, v3l, v3c, rfl⟩ := n3.shape
        refine ⟨_, rfl, hb, ?_⟩
        rw [hm2] at n3
        replace n3 := Lib.hid n3
        replace hI := Lib.hid (hI.out.below hb)
        replace n0 := Lib.hid (n0.out.below hb)
        replace n1 := Lib.hid (n1.out.below hb)
        replace n2 := Lib.hid (n2.out.below hb)
        clear hb
        simp only [Act.put, Act.eval, List.setIfInBounds_toArray, List.set_cons_zero, List.set_cons_succ, Array.getD_eq_getD_getElem?, List.getElem?_toArray, List.getElem?_cons_zero, List.getElem?_cons_succ, Option.getD_some, List.getElem_toArray, List.getElem_cons_succ, List.getElem_cons_zero]
        refine Rt.ord_nil ?_
        refine Rt.tree_op ?_
        have hv := (hI.out.vars _ _ (up_same _ _ _)).2
        obtain ⟨qa, ql, qc, qb, qn⟩ := id hv
        have cc := qb.cell
        have ff := qb.frozen
        clear qb qn
        apply ord_do rfl rfl rfl; (· (go_simp; with_reducible rfl)); (· (simp only [Act.put, Act.eval, List.setIfInBounds_toArray, List.set_cons_zero, List.set_cons_succ, Array.getD_eq_getD_getElem?, List.getElem?_toArray, List.getElem?_cons_zero, List.getElem?_cons_succ, Option.getD_some, List.getElem_toArray, List.getElem_cons_succ, List.getElem_cons_zero]; with_reducible rfl))
        clear cc ff
        have hI' := hI.out.set (up_same _ _ _) n0.out
        obtain ⟨x4, hx4⟩ : ∃ W, x3.setCell ⟨g7, 0, none⟩ (.slice v0a v0l v0c) = W := ⟨_, rfl⟩
        replace n0 := Lib.hid (n0.out.otherV hv (.slice v0a v0l v0c))
        replace n1 := Lib.hid (n1.out.otherV hv (.slice v0a v0l v0c))
        replace n2 := Lib.hid (n2.out.otherV hv (.slice v0a v0l v0c))
        replace n3 := Lib.hid (n3.out.otherV hv (.slice v0a v0l v0c))
        rw [hx4] at hI' n0 n1 n2 n3 ⊢
        replace hI := Lib.hid hI'
        clear hI' hx4 hv
        refine Rt.ord_nil ?_
        refine Rt.tree_op ?_
        have hv := (hI.out.vars _ _ ((up_other (by omega)).trans ((up_other (by omega)).trans (up_same _ _ _)))).2
        obtain ⟨qa, ql, qc, qb, qn⟩ := id hv
        have cc := qb.cell
        have ff := qb.frozen
        clear qb qn
        apply ord_do rfl rfl rfl; (· (go_simp; with_reducible rfl)); (· (simp only [Act.put, Act.eval, List.setIfInBounds_toArray, List.set_cons_zero, List.set_cons_succ, Array.getD_eq_getD_getElem?, List.getElem?_toArray, List.getElem?_cons_zero, List.getElem?_cons_succ, Option.getD_some, List.getElem_toArray, List.getElem_cons_succ, List.getElem_cons_zero]; with_reducible rfl))
        clear cc ff
        have hI' := hI.out.set ((up_other (by omega)).trans ((up_other (by omega)).trans (up_same _ _ _))) n3.out
        obtain ⟨x5, hx5⟩ : ∃ W, x4.setCell ⟨g8, 0, none⟩ (.slice v3a v3l v3c) = W := ⟨_, rfl⟩
        replace n0 := Lib.hid (n0.out.otherV hv (.slice v3a v3l v3c))
        replace n1 := Lib.hid (n1.out.otherV hv (.slice v3a v3l v3c))
        replace n2 := Lib.hid (n2.out.otherV hv (.slice v3a v3l v3c))
        replace n3 := Lib.hid (n3.out.otherV hv (.slice v3a v3l v3c))
        rw [hx5] at hI' n0 n1 n2 n3 ⊢
        replace hI := Lib.hid hI'
        clear hI' hx5 hv
        refine Rt.ord_nil ?_
        refine Rt.tree_fin ?_
        go_wp2_with fail
        go_meet
        case rel => exact ⟨g7, g8, _, rfl, rfl, hI, Lib.hid ⟨(up_other (by omega)).trans ((up_other (by omega)).trans ((up_other (by omega)).trans ((up_other (by omega)).trans (hsm)))), (up_other (by omega)).trans (up_same _ _ _), up_same _ _ _⟩, Lib.hid (by omega)⟩
  case rest =>
    obtain ⟨g7, g8, S, rfl, rfl, hI, hL, hnd⟩ := hcut
    clear hsmH hsaH
    go_upto_region 5 with (fail)
    go_cut [9, 10] from 27 to 30 (fun s9 s10 wx => ∃ (g9 g10 : Nat) (S : Nat → Option Nat), s9 = .pointer (some ⟨g9, 0, none⟩) ∧ s10 = .pointer (some ⟨g10, 0, none⟩) ∧ Hid (St w wx (w.heap.size + 2) S) ∧ Hid (S (w.heap.size + 1) = some m ∧ S g7 = some m ∧ S g8 = some (a % m) ∧ S g9 = some 0 ∧ S g10 = some (1 % m)) ∧ Hid (w.heap.size + 1 < g7 ∧ w.heap.size + 1 < g8 ∧ g7 ≠ g8 ∧ g7 < g9 ∧ g8 < g9 ∧ g7 < g10 ∧ g8 < g10 ∧ g9 ≠ g10))
    case first =>
      obtain ⟨hsm, hs7, hs8⟩ := hL.out
      have hnd' := hnd.out
      have hwb : Below wc.heap.size wc wc.drew := (Below.refl _ _).drew
      replace hI := Lib.hid (hI.out.below hwb)
      clear hwb
      refine Rt.wp_region_tree [0, 2, 1, 2, 2, 2, 3, 3] (.op 0 (.op 2 (.three 1 (.three 3 (.two 4 (.op 5 (.op 6 (.op 7 .fin))) 5 (.op 4 (.op 6 (.op 7 .fin)))) 4 (.two 3 (.op 5 (.op 6 (.op 7 .fin))) 5 (.op 3 (.op 6 (.op 7 .fin)))) 5 (.two 3 (.op 4 (.op 6 (.op 7 .fin))) 4 (.op 3 (.op 6 (.op 7 .fin))))) 4 (.two 1 (.two 3 (.op 5 (.op 6 (.op 7 .fin))) 5 (.op 3 (.op 6 (.op 7 .fin)))) 5 (.op 1 (.op 3 (.op 6 (.op 7 .fin))))) 5 (.two 1 (.two 3 (.op 4 (.op 6 (.op 7 .fin))) 4 (.op 3 (.op 6 (.op 7 .fin)))) 4 (.op 1 (.op 3 (.op 6 (.op 7 .fin)))))))) (by kernel_rfl) (by kernel_rfl) ?_
      obtain ⟨x0, hx0⟩ : ∃ W, wc.drew = W := ⟨_, rfl⟩
      rw [hx0] at hI ⊢
      clear hx0
      obtain ⟨v2a, v2l, v2c, z2, n2⟩ := (hI.out.vars _ _ (hsm)).2
      replace z2 := z2.cell
      replace n2 := Lib.hid n2
      refine Rt.tree_op ?_
      apply ord_pure rfl rfl rfl; (· (intro w; go_simp; with_reducible rfl)); (· (simp only [Act.put, Act.eval, List.setIfInBounds_toArray, List.set_cons_zero, List.set_cons_succ, Array.getD_eq_getD_getElem?, List.getElem?_toArray, List.getElem?_cons_zero, List.getElem?_cons_succ, Option.getD_some, List.getElem_toArray, List.getElem_cons_succ, List.getElem_cons_zero]; with_reducible rfl))
      have n0 := Lib.hid (NumAt.zero x0)
      refine Rt.ord_nil ?_
      refine Rt.tree_op ?_
      apply ord_read rfl rfl rfl; (· (intro W hW; have gg := cell_up hW z2; go_simp; with_reducible rfl)); (· (simp only [Act.put, Act.eval, List.setIfInBounds_toArray, List.set_cons_zero, List.set_cons_succ, Array.getD_eq_getD_getElem?, List.getElem?_toArray, List.getElem?_cons_zero, List.getElem?_cons_succ, Option.getD_some, List.getElem_toArray, List.getElem_cons_succ, List.getElem_cons_zero]; with_reducible rfl))
      clear z2
      refine Rt.ord_nil ?_
      refine Rt.tree_three ?_ ?_ ?_
      · refine ord_call rfl rfl rfl (by go_simp; exact ⟨rfl, rfl⟩) ?_
        refine (Small_1 _).mono ?_
        rintro e x1 ⟨v1, rfl, n1, hb⟩
        obtain ⟨v1a, v1l, v1c, rfl⟩ := n1.shape
        refine ⟨_, rfl, hb, ?_⟩
        replace n1 := Lib.hid n1
        replace hI := Lib.hid (hI.out.below hb)
        replace n2 := Lib.hid (n2.out.below hb)
        replace n0 := Lib.hid (n0.out.below hb)
        clear hb
        simp only [Act.put, Act.eval, List.setIfInBounds_toArray, List.set_cons_zero, List.set_cons_succ, Array.getD_eq_getD_getElem?, List.getElem?_toArray, List.getElem?_cons_zero, List.getElem?_cons_succ, Option.getD_some, List.getElem_toArray, List.getElem_cons_succ, List.getElem_cons_zero]
        refine Rt.ord_nil ?_
        refine Rt.tree_three ?_ ?_ ?_
        · refine ord_call rfl rfl rfl (by go_simp; exact ⟨rfl, rfl⟩) ?_
          refine (mod_N n1.out n2.out (by decide) (Nat.le_trans hmB (by decide))).mono ?_
          rintro e x2 ⟨v3, rfl, n3, hb⟩
          obtain ⟨v3a, v3l, v3c, rfl⟩ := n3.shape
          refine ⟨_, rfl, hb, ?_⟩
          rw [hm1] at n3
          replace n3 := Lib.hid n3
          replace hI := Lib.hid (hI.out.below hb)
          replace n2 := Lib.hid (n2.out.below hb)
          replace n0 := Lib.hid (n0.out.below hb)
          replace n1 := Lib.hid (n1.out.below hb)
          clear hb
          simp only [Act.put, Act.eval, List.setIfInBounds_toArray, List.set_cons_zero, List.set_cons_succ, Array.getD_eq_getD_getElem?, List.getElem?_toArray, List.getElem?_cons_zero, List.getElem?_cons_succ, Option.getD_some, List.getElem_toArray, List.getElem_cons_succ, List.getElem_cons_zero]
          refine Rt.ord_nil ?_
          refine Rt.tree_two ?_ ?_
          · apply ord_new rfl rfl rfl; (· (go_simp; exact ⟨rfl, rfl⟩)); (· (exact (Below.refl _ _).alloc (Nat.le_refl _) _)); (· (simp only [Act.put, Act.eval, List.setIfInBounds_toArray, List.set_cons_zero, List.set_cons_succ, Array.getD_eq_getD_getElem?, List.getElem?_toArray, List.getElem?_cons_zero, List.getElem?_cons_succ, Option.getD_some, List.getElem_toArray, List.getElem_cons_succ, List.getElem_cons_zero]; with_reducible rfl))
            have hb : Below x2.heap.size x2 (x2.alloc (.cells #[.slice none 0 0] 26)) := (Below.refl _ _).alloc (Nat.le_refl _) _
            have hI' := hI.out.add (NumAt.zero x2)
            have lt_wheapsizep1_g9 := hI.out.lt (hsm)
            have lt_g7_g9 := hI.out.lt (hs7)
            have lt_g8_g9 := hI.out.lt (hs8)
            obtain ⟨x3, hx3⟩ : ∃ W, x2.alloc (.cells #[.slice none 0 0] 26) = W := ⟨_, rfl⟩
            rw [hx3] at hI' hb ⊢
            replace n2 := Lib.hid (n2.out.below hb)
            replace n0 := Lib.hid (n0.out.below hb)
            replace n1 := Lib.hid (n1.out.below hb)
            replace n3 := Lib.hid (n3.out.below hb)
            obtain ⟨g9, hhg9⟩ : ∃ g, x2.heap.size = g := ⟨_, rfl⟩
            rw [hhg9] at hI' lt_wheapsizep1_g9 lt_g7_g9 lt_g8_g9 ⊢
            replace hI := Lib.hid hI'
            clear hb hI' hx3 hhg9
            refine Rt.ord_nil ?_
            refine Rt.tree_op ?_
            apply ord_new rfl rfl rfl; (· (go_simp; exact ⟨rfl, rfl⟩)); (· (exact (Below.refl _ _).alloc (Nat.le_refl _) _)); (· (simp only [Act.put, Act.eval, List.setIfInBounds_toArray, List.set_cons_zero, List.set_cons_succ, Array.getD_eq_getD_getElem?, List.getElem?_toArray, List.getElem?_cons_zero, List.getElem?_cons_succ, Option.getD_some, List.getElem_toArray, List.getElem_cons_succ, List.getElem_cons_zero]; with_reducible rfl))
            have hb : Below x3.heap.size x3 (x3.alloc (.cells #[.slice none 0 0] 26)) := (Below.refl _ _).alloc (Nat.le_refl _) _
            have hI' := hI.out.add (NumAt.zero x3)
            have lt_wheapsizep1_g10 := hI.out.lt ((up_other (by omega)).trans (hsm))
            have lt_g7_g10 := hI.out.lt ((up_other (by omega)).trans (hs7))
            have lt_g8_g10 := hI.out.lt ((up_other (by omega)).trans (hs8))
            have lt_g9_g10 := hI.out.lt (up_same _ _ _)
            obtain ⟨x4, hx4⟩ : ∃ W, x3.alloc (.cells #[.slice none 0 0] 26) = W := ⟨_, rfl⟩
            rw [hx4] at hI' hb ⊢
            replace n2 := Lib.hid (n2.out.below hb)
            replace n0 := Lib.hid (n0.out.below hb)
            replace n1 := Lib.hid (n1.out.below hb)
            replace n3 := Lib.hid (n3.out.below hb)
            obtain ⟨g10, hhg10⟩ : ∃ g, x3.heap.size = g := ⟨_, rfl⟩
            rw [hhg10] at hI' lt_wheapsizep1_g10 lt_g7_g10 lt_g8_g10 lt_g9_g10 ⊢
            replace hI := Lib.hid hI'
            clear hb hI' hx4 hhg10
            refine Rt.ord_nil ?_
            refine Rt.tree_op ?_
            have hv := (hI.out.vars _ _ ((up_other (by omega)).trans (up_same _ _ _))).2
            obtain ⟨qa, ql, qc, qb, qn⟩ := id hv
            have cc := qb.cell
            have ff := qb.frozen
            clear qb qn
            apply ord_do rfl rfl rfl; (· (go_simp; with_reducible rfl)); (· (simp only [Act.put, Act.eval, List.setIfInBounds_toArray, List.set_cons_zero, List.set_cons_succ, Array.getD_eq_getD_getElem?, List.getElem?_toArray, List.getElem?_cons_zero, List.getElem?_cons_succ, Option.getD_some, List.getElem_toArray, List.getElem_cons_succ, List.getElem_cons_zero]; with_reducible rfl))
            clear cc ff
            have hI' := hI.out.set ((up_other (by omega)).trans (up_same _ _ _)) n0.out
            obtain ⟨x5, hx5⟩ : ∃ W, x4.setCell ⟨g9, 0, none⟩ (.slice none 0 0) = W := ⟨_, rfl⟩
            replace n2 := Lib.hid (n2.out.otherV hv (.slice none 0 0))
            replace n0 := Lib.hid (n0.out.otherV hv (.slice none 0 0))
            replace n1 := Lib.hid (n1.out.otherV hv (.slice none 0 0))
            replace n3 := Lib.hid (n3.out.otherV hv (.slice none 0 0))
            rw [hx5] at hI' n2 n0 n1 n3 ⊢
            replace hI := Lib.hid hI'
            clear hI' hx5 hv
            refine Rt.ord_nil ?_
            refine Rt.tree_op ?_
            have hv := (hI.out.vars _ _ ((up_other (by omega)).trans (up_same _ _ _))).2
            obtain ⟨qa, ql, qc, qb, qn⟩ := id hv
            have cc := qb.cell
            have ff := qb.frozen
            clear qb qn
            apply ord_do rfl rfl rfl; (· (go_simp; with_reducible rfl)); (· (simp only [Act.put, Act.eval, List.setIfInBounds_toArray, List.set_cons_zero, List.set_cons_succ, Array.getD_eq_getD_getElem?, List.getElem?_toArray, List.getElem?_cons_zero, List.getElem?_cons_succ, Option.getD_some, List.getElem_toArray, List.getElem_cons_succ, List.getElem_cons_zero]; with_reducible rfl))
            clear cc ff
            have hI' := hI.out.set ((up_other (by omega)).trans (up_same _ _ _)) n3.out
            obtain ⟨x6, hx6⟩ : ∃ W, x5.setCell ⟨g10, 0, none⟩ (.slice v3a v3l v3c) = W := ⟨_, rfl⟩
            replace n2 := Lib.hid (n2.out.otherV hv (.slice v3a v3l v3c))
            replace n0 := Lib.hid (n0.out.otherV hv (.slice v3a v3l v3c))
            replace n1 := Lib.hid (n1.out.otherV hv (.slice v3a v3l v3c))
            replace n3 := Lib.hid (n3.out.otherV hv (.slice v3a v3l v3c))
            rw [hx6] at hI' n2 n0 n1 n3 ⊢
            replace hI := Lib.hid hI'
            clear hI' hx6 hv
            refine Rt.ord_nil ?_
            refine Rt.tree_fin ?_
            go_wp2_with fail
            go_meet
            case rel => exact ⟨g9, g10, _, rfl, rfl, hI, Lib.hid ⟨(up_other (by omega)).trans ((up_other (by omega)).trans ((up_other (by omega)).trans ((up_other (by omega)).trans (hsm)))), (up_other (by omega)).trans ((up_other (by omega)).trans ((up_other (by omega)).trans ((up_other (by omega)).trans (hs7)))), (up_other (by omega)).trans ((up_other (by omega)).trans ((up_other (by omega)).trans ((up_other (by omega)).trans (hs8)))), (up_other (by omega)).trans (up_same _ _ _), up_same _ _ _⟩, Lib.hid (by omega)⟩
          · apply ord_new rfl rfl rfl; (· (go_simp; exact ⟨rfl, rfl⟩)); (· (exact (Below.refl _ _).alloc (Nat.le_refl _) _)); (· (simp only [Act.put, Act.eval, List.setIfInBounds_toArray, List.set_cons_zero, List.set_cons_succ, Array.getD_eq_getD_getElem?, List.getElem?_toArray, List.getElem?_cons_zero, List.getElem?_cons_succ, Option.getD_some, List.getElem_toArray, List.getElem_cons_succ, List.getElem_cons_zero]; with_reducible rfl))
            have hb : Below x2.heap.size x2 (x2.alloc (.cells #[.slice none 0 0] 26)) := (Below.refl _ _).alloc (Nat.le_refl _) _
            have hI' := hI.out.add (NumAt.zero x2)
            have lt_wheapsizep1_g10 := hI.out.lt (hsm)
            have lt_g7_g10 := hI.out.lt (hs7)
            have lt_g8_g10 := hI.out.lt (hs8)
            obtain ⟨x3, hx3⟩ : ∃ W, x2.alloc (.cells #[.slice none 0 0] 26) = W := ⟨_, rfl⟩
            rw [hx3] at hI' hb ⊢
            replace n2 := Lib.hid (n2.out.below hb)
            replace n0 := Lib.hid (n0.out.below hb)
            replace n1 := Lib.hid (n1.out.below hb)
            replace n3 := Lib.hid (n3.out.below hb)
            obtain ⟨g10, hhg10⟩ : ∃ g, x2.heap.size = g := ⟨_, rfl⟩
            rw [hhg10] at hI' lt_wheapsizep1_g10 lt_g7_g10 lt_g8_g10 ⊢
            replace hI := Lib.hid hI'
            clear hb hI' hx3 hhg10
            refine Rt.ord_nil ?_
            refine Rt.tree_op ?_
            apply ord_new rfl rfl rfl; (· (go_simp; exact ⟨rfl, rfl⟩)); (· (exact (Below.refl _ _).alloc (Nat.le_refl _) _)); (· (simp only [Act.put, Act.eval, List.setIfInBounds_toArray, List.set_cons_zero, List.set_cons_succ, Array.getD_eq_getD_getElem?, List.getElem?_toArray, List.getElem?_cons_zero, List.getElem?_cons_succ, Option.getD_some, List.getElem_toArray, List.getElem_cons_succ, List.getElem_cons_zero]; with_reducible rfl))
            have hb : Below x3.heap.size x3 (x3.alloc (.cells #[.slice none 0 0] 26)) := (Below.refl _ _).alloc (Nat.le_refl _) _
            have hI' := hI.out.add (NumAt.zero x3)
            have lt_wheapsizep1_g9 := hI.out.lt ((up_other (by omega)).trans (hsm))
            have lt_g7_g9 := hI.out.lt ((up_other (by omega)).trans (hs7))
            have lt_g8_g9 := hI.out.lt ((up_other (by omega)).trans (hs8))
            have lt_g10_g9 := hI.out.lt (up_same _ _ _)
            obtain ⟨x4, hx4⟩ : ∃ W, x3.alloc (.cells #[.slice none 0 0] 26) = W := ⟨_, rfl⟩
            rw [hx4] at hI' hb ⊢
            replace n2 := Lib.hid (n2.out.below hb)
            replace n0 := Lib.hid (n0.out.below hb)
            replace n1 := Lib.hid (n1.out.below hb)
            replace n3 := Lib.hid (n3.out.below hb)
            obtain ⟨g9, hhg9⟩ : ∃ g, x3.heap.size = g := ⟨_, rfl⟩
            rw [hhg9] at hI' lt_wheapsizep1_g9 lt_g7_g9 lt_g8_g9 lt_g10_g9 ⊢
            replace hI := Lib.hid hI'
            clear hb hI' hx4 hhg9
            refine Rt.ord_nil ?_
            refine Rt.tree_op ?_
            have hv := (hI.out.vars _ _ (up_same _ _ _)).2
            obtain ⟨qa, ql, qc, qb, qn⟩ := id hv
            have cc := qb.cell
            have ff := qb.frozen
            clear qb qn
            apply ord_do rfl rfl rfl; (· (go_simp; with_reducible rfl)); (· (simp only [Act.put, Act.eval, List.setIfInBounds_toArray, List.set_cons_zero, List.set_cons_succ, Array.getD_eq_getD_getElem?, List.getElem?_toArray, List.getElem?_cons_zero, List.getElem?_cons_succ, Option.getD_some, List.getElem_toArray, List.getElem_cons_succ, List.getElem_cons_zero]; with_reducible rfl))
            clear cc ff
            have hI' := hI.out.set (up_same _ _ _) n0.out
            obtain ⟨x5, hx5⟩ : ∃ W, x4.setCell ⟨g9, 0, none⟩ (.slice none 0 0) = W := ⟨_, rfl⟩
            replace n2 := Lib.hid (n2.out.otherV hv (.slice none 0 0))
            replace n0 := Lib.hid (n0.out.otherV hv (.slice none 0 0))
            replace n1 := Lib.hid (n1.out.otherV hv (.slice none 0 0))
            replace n3 := Lib.hid (n3.out.otherV hv (.slice none 0 0))
            rw [hx5] at hI' n2 n0 n1 n3 ⊢
            replace hI := Lib.hid hI'
            clear hI' hx5 hv
            refine Rt.ord_nil ?_
            refine Rt.tree_op ?_
            have hv := (hI.out.vars _ _ ((up_other (by omega)).trans ((up_other (by omega)).trans (up_same _ _ _)))).2
            obtain ⟨qa, ql, qc, qb, qn⟩ := id hv
            have cc := qb.cell
            have ff := qb.frozen
            clear qb qn
            apply ord_do rfl rfl rfl; (· (go_simp; with_reducible rfl)); (· (simp only [Act.put, Act.eval, List.setIfInBounds_toArray, List.set_cons_zero, List.set_cons_succ, Array.getD_eq_getD_getElem?, List.getElem?_toArray, List.getElem?_cons_zero, List.getElem?_cons_succ, Option.getD_some, List.getElem_toArray, List.getElem_cons_succ, List.getElem_cons_zero]; with_reducible rfl))
            clear cc ff
            have hI' := hI.out.set ((up_other (by omega)).trans ((up_other (by omega)).trans (up_same _ _ _))) n3.out
            obtain ⟨x6, hx6⟩ : ∃ W, x5.setCell ⟨g10, 0, none⟩ (.slice v3a v3l v3c) = W := ⟨_, rfl⟩
            replace n2 := Lib.hid (n2.out.otherV hv (.slice v3a v3l v3c))
            replace n0 := Lib.hid (n0.out.otherV hv (.slice v3a v3l v3c))
            replace n1 := Lib.hid (n1.out.otherV hv (.slice v3a v3l v3c))
            replace n3 := Lib.hid (n3.out.otherV hv (.slice v3a v3l v3c))
            rw [hx6] at hI' n2 n0 n1 n3 ⊢
            replace hI := Lib.hid hI'
            clear hI' hx6 hv
            refine Rt.ord_nil ?_
            refine Rt.tree_fin ?_
            go_wp2_with fail
            go_meet
            case rel => exact ⟨g9, g10, _, rfl, rfl, hI, Lib.hid ⟨(up_other (by omega)).trans ((up_other (by omega)).trans ((up_other (by omega)).trans ((up_other (by omega)).trans (hsm)))), (up_other (by omega)).trans ((up_other (by omega)).trans ((up_other (by omega)).trans ((up_other (by omega)).trans (hs7)))), (up_other (by omega)).trans ((up_other (by omega)).trans ((up_other (by omega)).trans ((up_other (by omega)).trans (hs8)))), (up_other (by omega)).trans (up_same _ _ _), up_same _ _ _⟩, Lib.hid (by omega)⟩
        · apply ord_new rfl rfl rfl; (· (go_simp; exact ⟨rfl, rfl⟩)); (· (exact (Below.refl _ _).alloc (Nat.le_refl _) _)); (· (simp only [Act.put, Act.eval, List.setIfInBounds_toArray, List.set_cons_zero, List.set_cons_succ, Array.getD_eq_getD_getElem?, List.getElem?_toArray, List.getElem?_cons_zero, List.getElem?_cons_succ, Option.getD_some, List.getElem_toArray, List.getElem_cons_succ, List.getElem_cons_zero]; with_reducible rfl))
          have hb : Below x1.heap.size x1 (x1.alloc (.cells #[.slice none 0 0] 26)) := (Below.refl _ _).alloc (Nat.le_refl _) _
          have hI' := hI.out.add (NumAt.zero x1)
          have lt_wheapsizep1_g9 := hI.out.lt (hsm)
          have lt_g7_g9 := hI.out.lt (hs7)
          have lt_g8_g9 := hI.out.lt (hs8)
          obtain ⟨x2, hx2⟩ : ∃ W, x1.alloc (.cells #[.slice none 0 0] 26) = W := ⟨_, rfl⟩
          rw [hx2] at hI' hb ⊢
          replace n2 := Lib.hid (n2.out.below hb)
          replace n0 := Lib.hid (n0.out.below hb)
          replace n1 := Lib.hid (n1.out.below hb)
          obtain ⟨g9, hhg9⟩ : ∃ g, x1.heap.size = g := ⟨_, rfl⟩
          rw [hhg9] at hI' lt_wheapsizep1_g9 lt_g7_g9 lt_g8_g9 ⊢
          replace hI := Lib.hid hI'
          clear hb hI' hx2 hhg9
          refine Rt.ord_nil ?_
          refine Rt.tree_two ?_ ?_
          · refine ord_call rfl rfl rfl (by go_simp; exact ⟨rfl, rfl⟩) ?_
            refine (mod_N n1.out n2.out (by decide) (Nat.le_trans hmB (by decide))).mono ?_
            rintro e x3 ⟨v3, rfl, n3, hb⟩
            obtain ⟨v3a, v3l, v3c, rfl⟩ := n3.shape
            refine ⟨_, rfl, hb, ?_⟩
            rw [hm1] at n3
            replace n3 := Lib.hid n3
            replace hI := Lib.hid (hI.out.below hb)
            replace n2 := Lib.hid (n2.out.below hb)
            replace n0 := Lib.hid (n0.out.below hb)
            replace n1 := Lib.hid (n1.out.below hb)
            clear hb
            simp only [Act.put, Act.eval, List.setIfInBounds_toArray, List.set_cons_zero, List.set_cons_succ, Array.getD_eq_getD_getElem?, List.getElem?_toArray, List.getElem?_cons_zero, List.getElem?_cons_succ, Option.getD_some, List.getElem_toArray, List.getElem_cons_succ, List.getElem_cons_zero]
            refine Rt.ord_nil ?_
            refine Rt.tree_op ?_
            apply ord_new rfl rfl rfl; (· (go_simp; exact ⟨rfl, rfl⟩)); (· (exact (Below.refl _ _).alloc (Nat.le_refl _) _)); (· (simp only [Act.put, Act.eval, List.setIfInBounds_toArray, List.set_cons_zero, List.set_cons_succ, Array.getD_eq_getD_getElem?, List.getElem?_toArray, List.getElem?_cons_zero, List.getElem?_cons_succ, Option.getD_some, List.getElem_toArray, List.getElem_cons_succ, List.getElem_cons_zero]; with_reducible rfl))
            have hb : Below x3.heap.size x3 (x3.alloc (.cells #[.slice none 0 0] 26)) := (Below.refl _ _).alloc (Nat.le_refl _) _
            have hI' := hI.out.add (NumAt.zero x3)
            have lt_wheapsizep1_g10 := hI.out.lt ((up_other (by omega)).trans (hsm))
            have lt_g7_g10 := hI.out.lt ((up_other (by omega)).trans (hs7))
            have lt_g8_g10 := hI.out.lt ((up_other (by omega)).trans (hs8))
            have lt_g9_g10 := hI.out.lt (up_same _ _ _)
            obtain ⟨x4, hx4⟩ : ∃ W, x3.alloc (.cells #[.slice none 0 0] 26) = W := ⟨_, rfl⟩
            rw [hx4] at hI' hb ⊢
            replace n2 := Lib.hid (n2.out.below hb)
            replace n0 := Lib.hid (n0.out.below hb)
            replace n1 := Lib.hid (n1.out.below hb)
            replace n3 := Lib.hid (n3.out.below hb)
            obtain ⟨g10, hhg10⟩ : ∃ g, x3.heap.size = g := ⟨_, rfl⟩
            rw [hhg10] at hI' lt_wheapsizep1_g10 lt_g7_g10 lt_g8_g10 lt_g9_g10 ⊢
            replace hI := Lib.hid hI'
            clear hb hI' hx4 hhg10
            refine Rt.ord_nil ?_
            refine Rt.tree_op ?_
            have hv := (hI.out.vars _ _ ((up_other (by omega)).trans (up_same _ _ _))).2
            obtain ⟨qa, ql, qc, qb, qn⟩ := id hv
            have cc := qb.cell
            have ff := qb.frozen
            clear qb qn
            apply ord_do rfl rfl rfl; (· (go_simp; with_reducible rfl)); (· (simp only [Act.put, Act.eval, List.setIfInBounds_toArray, List.set_cons_zero, List.set_cons_succ, Array.getD_eq_getD_getElem?, List.getElem?_toArray, List.getElem?_cons_zero, List.getElem?_cons_succ, Option.getD_some, List.getElem_toArray, List.getElem_cons_succ, List.getElem_cons_zero]; with_reducible rfl))
            clear cc ff
            have hI' := hI.out.set ((up_other (by omega)).trans (up_same _ _ _)) n0.out
            obtain ⟨x5, hx5⟩ : ∃ W, x4.setCell ⟨g9, 0, none⟩ (.slice none 0 0) = W := ⟨_, rfl⟩
            replace n2 := Lib.hid (n2.out.otherV hv (.slice none 0 0))
            replace n0 := Lib.hid (n0.out.otherV hv (.slice none 0 0))
            replace n1 := Lib.hid (n1.out.otherV hv (.slice none 0 0))
            replace n3 := Lib.hid (n3.out.otherV hv (.slice none 0 0))
            rw [hx5] at hI' n2 n0 n1 n3 ⊢
            replace hI := Lib.hid hI'
            clear hI' hx5 hv
            refine Rt.ord_nil ?_
            refine Rt.tree_op ?_
            have hv := (hI.out.vars _ _ ((up_other (by omega)).trans (up_same _ _ _))).2
            obtain ⟨qa, ql, qc, qb, qn⟩ := id hv
            have cc := qb.cell
            have ff := qb.frozen
            clear qb qn
            apply ord_do rfl rfl rfl; (· (go_simp; with_reducible rfl)); (· (simp only [Act.put, Act.eval, List.setIfInBounds_toArray, List.set_cons_zero, List.set_cons_succ, Array.getD_eq_getD_getElem?, List.getElem?_toArray, List.getElem?_cons_zero, List.getElem?_cons_succ, Option.getD_some, List.getElem_toArray, List.getElem_cons_succ, List.getElem_cons_zero]; with_reducible rfl))
            clear cc ff
            have hI' := hI.out.set ((up_other (by omega)).trans (up_same _ _ _)) n3.out
            obtain ⟨x6, hx6⟩ : ∃ W, x5.setCell ⟨g10, 0, none⟩ (.slice v3a v3l v3c) = W := ⟨_, rfl⟩
            replace n2 := Lib.hid (n2.out.otherV hv (.slice v3a v3l v3c))
            replace n0 := Lib.hid (n0.out.otherV hv (.slice v3a v3l v3c))
            replace n1 := Lib.hid (n1.out.otherV hv (.slice v3a v3l v3c))
            replace n3 := Lib.hid (n3.out.otherV hv (.slice v3a v3l v3c))
            rw [hx6] at hI' n2 n0 n1 n3 ⊢
            replace hI := Lib.hid hI'
            clear hI' hx6 hv
            refine Rt.ord_nil ?_
            refine Rt.tree_fin ?_
            go_wp2_with fail
            go_meet
            case rel => exact ⟨g9, g10, _, rfl, rfl, hI, Lib.hid ⟨(up_other (by omega)).trans ((up_other (by omega)).trans ((up_other (by omega)).trans ((up_other (by omega)).trans (hsm)))), (up_other (by omega)).trans ((up_other (by omega)).trans ((up_other (by omega)).trans ((up_other (by omega)).trans (hs7)))), (up_other (by omega)).trans ((up_other (by omega)).trans ((up_other (by omega)).trans ((up_other (by omega)).trans (hs8)))), (up_other (by omega)).trans (up_same _ _ _), up_same _ _ _⟩, Lib.hid (by omega)⟩
          · apply ord_new rfl rfl rfl; (· (go_simp; exact ⟨rfl, rfl⟩)); (· (exact (Below.refl _ _).alloc (Nat.le_refl _) _)); (· (simp only [Act.put, Act.eval, List.setIfInBounds_toArray, List.set_cons_zero, List.set_cons_succ, Array.getD_eq_getD_getElem?, List.getElem?_toArray, List.getElem?_cons_zero, List.getElem?_cons_succ, Option.getD_some, List.getElem_toArray, List.getElem_cons_succ, List.getElem_cons_zero]; with_reducible rfl))
            have hb : Below x2.heap.size x2 (x2.alloc (.cells #[.slice none 0 0] 26)) := (Below.refl _ _).alloc (Nat.le_refl _) _
            have hI' := hI.out.add (NumAt.zero x2)
            have lt_wheapsizep1_g10 := hI.out.lt ((up_other (by omega)).trans (hsm))
            have lt_g7_g10 := hI.out.lt ((up_other (by omega)).trans (hs7))
            have lt_g8_g10 := hI.out.lt ((up_other (by omega)).trans (hs8))
            have lt_g9_g10 := hI.out.lt (up_same _ _ _)
            obtain ⟨x3, hx3⟩ : ∃ W, x2.alloc (.cells #[.slice none 0 0] 26) = W := ⟨_, rfl⟩
            rw [hx3] at hI' hb ⊢
            replace n2 := Lib.hid (n2.out.below hb)
            replace n0 := Lib.hid (n0.out.below hb)
            replace n1 := Lib.hid (n1.out.below hb)
            obtain ⟨g10, hhg10⟩ : ∃ g, x2.heap.size = g := ⟨_, rfl⟩
            rw [hhg10] at hI' lt_wheapsizep1_g10 lt_g7_g10 lt_g8_g10 lt_g9_g10 ⊢
            replace hI := Lib.hid hI'
            clear hb hI' hx3 hhg10
            refine Rt.ord_nil ?_
            refine Rt.tree_op ?_
            refine ord_call rfl rfl rfl (by go_simp; exact ⟨rfl, rfl⟩) ?_
            refine (mod_N n1.out n2.out (by decide) (Nat.le_trans hmB (by decide))).mono ?_
            rintro e x4 ⟨v3, rfl, n3, hb⟩
            obtain ⟨v3a, v3l, v3c, rfl⟩ := n3.shape
            refine ⟨_, rfl, hb, ?_⟩
            rw [hm1] at n3
            replace n3 := Lib.hid n3
            replace hI := Lib.hid (hI.out.below hb)
            replace n2 := Lib.hid (n2.out.below hb)
            replace n0 := Lib.hid (n0.out.below hb)
            replace n1 := Lib.hid (n1.out.below hb)
            clear hb
            simp only [Act.put, Act.eval, List.setIfInBounds_toArray, List.set_cons_zero, List.set_cons_succ, Array.getD_eq_getD_getElem?, List.getElem?_toArray, List.getElem?_cons_zero, List.getElem?_cons_succ, Option.getD_some, List.getElem_toArray, List.getElem_cons_succ, List.getElem_cons_zero]
            refine Rt.ord_nil ?_
            refine Rt.tree_op ?_
            have hv := (hI.out.vars _ _ ((up_other (by omega)).trans (up_same _ _ _))).2
            obtain ⟨qa, ql, qc, qb, qn⟩ := id hv
            have cc := qb.cell
            have ff := qb.frozen
            clear qb qn
            apply ord_do rfl rfl rfl; (· (go_simp; with_reducible rfl)); (· (simp only [Act.put, Act.eval, List.setIfInBounds_toArray, List.set_cons_zero, List.set_cons_succ, Array.getD_eq_getD_getElem?, List.getElem?_toArray, List.getElem?_cons_zero, List.getElem?_cons_succ, Option.getD_some, List.getElem_toArray, List.getElem_cons_succ, List.getElem_cons_zero]; with_reducible rfl))
            clear cc ff
            have hI' := hI.out.set ((up_other (by omega)).trans (up_same _ _ _)) n0.out
            obtain ⟨x5, hx5⟩ : ∃ W, x4.setCell ⟨g9, 0, none⟩ (.slice none 0 0) = W := ⟨_, rfl⟩
            replace n2 := Lib.hid (n2.out.otherV hv (.slice none 0 0))
            replace n0 := Lib.hid (n0.out.otherV hv (.slice none 0 0))
            replace n1 := Lib.hid (n1.out.otherV hv (.slice none 0 0))
            replace n3 := Lib.hid (n3.out.otherV hv (.slice none 0 0))
            rw [hx5] at hI' n2 n0 n1 n3 ⊢
            replace hI := Lib.hid hI'
            clear hI' hx5 hv
            refine Rt.ord_nil ?_
            refine Rt.tree_op ?_
            have hv := (hI.out.vars _ _ ((up_other (by omega)).trans (up_same _ _ _))).2
            obtain ⟨qa, ql, qc, qb, qn⟩ := id hv
            have cc := qb.cell
            have ff := qb.frozen
            clear qb qn
            apply ord_do rfl rfl rfl; (· (go_simp; with_reducible rfl)); (· (simp only [Act.put, Act.eval, List.setIfInBounds_toArray, List.set_cons_zero, List.set_cons_succ, Array.getD_eq_getD_getElem?, List.getElem?_toArray, List.getElem?_cons_zero, List.getElem?_cons_succ, Option.getD_some, List.getElem_toArray, List.getElem_cons_succ, List.getElem_cons_zero]; with_reducible rfl))
            clear cc ff
            have hI' := hI.out.set ((up_other (by omega)).trans (up_same _ _ _)) n3.out
            obtain ⟨x6, hx6⟩ : ∃ W, x5.setCell ⟨g10, 0, none⟩ (.slice v3a v3l v3c) = W := ⟨_, rfl⟩
            replace n2 := Lib.hid (n2.out.otherV hv (.slice v3a v3l v3c))
            replace n0 := Lib.hid (n0.out.otherV hv (.slice v3a v3l v3c))
            replace n1 := Lib.hid (n1.out.otherV hv (.slice v3a v3l v3c))
            replace n3 := Lib.hid (n3.out.otherV hv (.slice v3a v3l v3c))
            rw [hx6] at hI' n2 n0 n1 n3 ⊢
            replace hI := Lib.hid hI'
            clear hI' hx6 hv
            refine Rt.ord_nil ?_
            refine Rt.tree_fin ?_
            go_wp2_with fail
            go_meet
            case rel => exact ⟨g9, g10, _, rfl, rfl, hI, Lib.hid ⟨(up_other (by omega)).trans ((up_other (by omega)).trans ((up_other (by omega)).trans ((up_other (by omega)).trans (hsm)))), (up_other (by omega)).trans ((up_other (by omega)).trans ((up_other (by omega)).trans ((up_other (by omega)).trans (hs7)))), (up_other (by omega)).trans ((up_other (by omega)).trans ((up_other (by omega)).trans ((up_other (by omega)).trans (hs8)))), (up_other (by omega)).trans (up_same _ _ _), up_same _ _ _⟩, Lib.hid (by omega)⟩
        · apply ord_new rfl rfl rfl; (· (go_simp; exact ⟨rfl, rfl⟩)); (· (exact (Below.refl _ _).alloc (Nat.le_refl _) _)); (· (simp only [Act.put, Act.eval, List.setIfInBounds_toArray, List.set_cons_zero, List.set_cons_succ, Array.getD_eq_getD_getElem?, List.getElem?_toArray, List.getElem?_cons_zero, List.getElem?_cons_succ, Option.getD_some, List.getElem_toArray, List.getElem_cons_succ, List.getElem_cons_zero]; with_reducible rfl))
          have hb : Below x1.heap.size x1 (x1.alloc (.cells #[.slice none 0 0] 26)) := (Below.refl _ _).alloc (Nat.le_refl _) _
          have hI' := hI.out.add (NumAt.zero x1)
          have lt_wheapsizep1_g10 := hI.out.lt (hsm)
          have lt_g7_g10 := hI.out.lt (hs7)
          have lt_g8_g10 := hI.out.lt (hs8)
          obtain ⟨x2, hx2⟩ : ∃ W, x1.alloc (.cells #[.slice none 0 0] 26) = W := ⟨_, rfl⟩
          rw [hx2] at hI' hb ⊢
          replace n2 := Lib.hid (n2.out.below hb)
          replace n0 := Lib.hid (n0.out.below hb)
          replace n1 := Lib.hid (n1.out.below hb)
          obtain ⟨g10, hhg10⟩ : ∃ g, x1.heap.size = g := ⟨_, rfl⟩
          rw [hhg10] at hI' lt_wheapsizep1_g10 lt_g7_g10 lt_g8_g10 ⊢
          replace hI := Lib.hid hI'
          clear hb hI' hx2 hhg10
          refine Rt.ord_nil ?_
          refine Rt.tree_two ?_ ?_
          · refine ord_call rfl rfl rfl (by go_simp; exact ⟨rfl, rfl⟩) ?_
            refine (mod_N n1.out n2.out (by decide) (Nat.le_trans hmB (by decide))).mono ?_
            rintro e x3 ⟨v3, rfl, n3, hb⟩
            obtain ⟨v3a, v3l, v3c, rfl⟩ := n3.shape
            refine ⟨_, rfl, hb, ?_⟩
            rw [hm1] at n3
            replace n3 := Lib.hid n3
            replace hI := Lib.hid (hI.out.below hb)
            replace n2 := Lib.hid (n2.out.below hb)
            replace n0 := Lib.hid (n0.out.below hb)
            replace n1 := Lib.hid (n1.out.below hb)
            clear hb
            simp only [Act.put, Act.eval, List.setIfInBounds_toArray, List.set_cons_zero, List.set_cons_succ, Array.getD_eq_getD_getElem?, List.getElem?_toArray, List.getElem?_cons_zero, List.getElem?_cons_succ, Option.getD_some, List.getElem_toArray, List.getElem_cons_succ, List.getElem_cons_zero]
            refine Rt.ord_nil ?_
            refine Rt.tree_op ?_
            apply ord_new rfl rfl rfl; (· (go_simp; exact ⟨rfl, rfl⟩)); (· (exact (Below.refl _ _).alloc (Nat.le_refl _) _)); (· (simp only [Act.put, Act.eval, List.setIfInBounds_toArray, List.set_cons_zero, List.set_cons_succ, Array.getD_eq_getD_getElem?, List.getElem?_toArray, List.getElem?_cons_zero, List.getElem?_cons_succ, Option.getD_some, List.getElem_toArray, List.getElem_cons_succ, List.getElem_cons_zero]; with_reducible rfl))
            have hb : Below x3.heap.size x3 (x3.alloc (.cells #[.slice none 0 0] 26)) := (Below.refl _ _).alloc (Nat.le_refl _) _
            have hI' := hI.out.add (NumAt.zero x3)
            have lt_wheapsizep1_g9 := hI.out.lt ((up_other (by omega)).trans (hsm))
            have lt_g7_g9 := hI.out.lt ((up_other (by omega)).trans (hs7))
            have lt_g8_g9 := hI.out.lt ((up_other (by omega)).trans (hs8))
            have lt_g10_g9 := hI.out.lt (up_same _ _ _)
            obtain ⟨x4, hx4⟩ : ∃ W, x3.alloc (.cells #[.slice none 0 0] 26) = W := ⟨_, rfl⟩
            rw [hx4] at hI' hb ⊢
            replace n2 := Lib.hid (n2.out.below hb)
            replace n0 := Lib.hid (n0.out.below hb)
            replace n1 := Lib.hid (n1.out.below hb)
            replace n3 := Lib.hid (n3.out.below hb)
            obtain ⟨g9, hhg9⟩ : ∃ g, x3.heap.size = g := ⟨_, rfl⟩
            rw [hhg9] at hI' lt_wheapsizep1_g9 lt_g7_g9 lt_g8_g9 lt_g10_g9 ⊢
            replace hI := Lib.hid hI'
            clear hb hI' hx4 hhg9
            refine Rt.ord_nil ?_
            refine Rt.tree_op ?_
            have hv := (hI.out.vars _ _ (up_same _ _ _)).2
            obtain ⟨qa, ql, qc, qb, qn⟩ := id hv
            have cc := qb.cell
            have ff := qb.frozen
            clear qb qn
            apply ord_do rfl rfl rfl; (· (go_simp; with_reducible rfl)); (· (simp only [Act.put, Act.eval, List.setIfInBounds_toArray, List.set_cons_zero, List.set_cons_succ, Array.getD_eq_getD_getElem?, List.getElem?_toArray, List.getElem?_cons_zero, List.getElem?_cons_succ, Option.getD_some, List.getElem_toArray, List.getElem_cons_succ, List.getElem_cons_zero]; with_reducible rfl))
            clear cc ff
            have hI' := hI.out.set (up_same _ _ _) n0.out
            obtain ⟨x5, hx5⟩ : ∃ W, x4.setCell ⟨g9, 0, none⟩ (.slice none 0 0) = W := ⟨_, rfl⟩
            replace n2 := Lib.hid (n2.out.otherV hv (.slice none 0 0))
            replace n0 := Lib.hid (n0.out.otherV hv (.slice none 0 0))
            replace n1 := Lib.hid (n1.out.otherV hv (.slice none 0 0))
            replace n3 := Lib.hid (n3.out.otherV hv (.slice none 0 0))
            rw [hx5] at hI' n2 n0 n1 n3 ⊢
            replace hI := Lib.hid hI'
            clear hI' hx5 hv
            refine Rt.ord_nil ?_
            refine Rt.tree_op ?_
            have hv := (hI.out.vars _ _ ((up_other (by omega)).trans ((up_other (by omega)).trans (up_same _ _ _)))).2
            obtain ⟨qa, ql, qc, qb, qn⟩ := id hv
            have cc := qb.cell
            have ff := qb.frozen
            clear qb qn
            apply ord_do rfl rfl rfl; (· (go_simp; with_reducible rfl)); (· (simp only [Act.put, Act.eval, List.setIfInBounds_toArray, List.set_cons_zero, List.set_cons_succ, Array.getD_eq_getD_getElem?, List.getElem?_toArray, List.getElem?_cons_zero, List.getElem?_cons_succ, Option.getD_some, List.getElem_toArray, List.getElem_cons_succ, List.getElem_cons_zero]; with_reducible rfl))
            clear cc ff
            have hI' := hI.out.set ((up_other (by omega)).trans ((up_other (by omega)).trans (up_same _ _ _))) n3.out
            obtain ⟨x6, hx6⟩ : ∃ W, x5.setCell ⟨g10, 0, none⟩ (.slice v3a v3l v3c) = W := ⟨_, rfl⟩
            replace n2 := Lib.hid (n2.out.otherV hv (.slice v3a v3l v3c))
            replace n0 := Lib.hid (n0.out.otherV hv (.slice v3a v3l v3c))
            replace n1 := Lib.hid (n1.out.otherV hv (.slice v3a v3l v3c))
            replace n3 := Lib.hid (n3.out.otherV hv (.slice v3a v3l v3c))
            rw [hx6] at hI' n2 n0 n1 n3 ⊢
            replace hI := Lib.hid hI'
            clear hI' hx6 hv
            refine Rt.ord_nil ?_
            refine Rt.tree_fin ?_
            go_wp2_with fail
            go_meet
            case rel => exact ⟨g9, g10, _, rfl, rfl, hI, Lib.hid ⟨(up_other (by omega)).trans ((up_other (by omega)).trans ((up_other (by omega)).trans ((up_other (by omega)).trans (hsm)))), (up_other (by omega)).trans ((up_other (by omega)).trans ((up_other (by omega)).trans ((up_other (by omega)).trans (hs7)))), (up_other (by omega)).trans ((up_other (by omega)).trans ((up_other (by omega)).trans ((up_other (by omega)).trans (hs8)))), (up_other (by omega)).trans (up_same _ _ _), up_same _ _ _⟩, Lib.hid (by omega)⟩
          · apply ord_new rfl rfl rfl; (· (go_simp; exact ⟨rfl, rfl⟩)); (· (exact (Below.refl _ _).alloc (Nat.le_refl _) _)); (· (simp only [Act.put, Act.eval, List.setIfInBounds_toArray, List.set_cons_zero, List.set_cons_succ, Array.getD_eq_getD_getElem?, List.getElem?_toArray, List.getElem?_cons_zero, List.getElem?_cons_succ, Option.getD_some, List.getElem_toArray, List.getElem_cons_succ, List.getElem_cons_zero]; with_reducible rfl))
            have hb : Below x2.heap.size x2 (x2.alloc (.cells #[.slice none 0 0] 26)) := (Below.refl _ _).alloc (Nat.le_refl _) _
            have hI' := hI.out.add (NumAt.zero x2)
            have lt_wheapsizep1_g9 := hI.out.lt ((up_other (by omega)).trans (hsm))
            have lt_g7_g9 := hI.out.lt ((up_other (by omega)).trans (hs7))
            have lt_g8_g9 := hI.out.lt ((up_other (by omega)).trans (hs8))
            have lt_g10_g9 := hI.out.lt (up_same _ _ _)
            obtain ⟨x3, hx3⟩ : ∃ W, x2.alloc (.cells #[.slice none 0 0] 26) = W := ⟨_, rfl⟩
            rw [hx3] at hI' hb ⊢
            replace n2 := Lib.hid (n2.out.below hb)
            replace n0 := Lib.hid (n0.out.below hb)
            replace n1 := Lib.hid (n1.out.below hb)
            obtain ⟨g9, hhg9⟩ : ∃ g, x2.heap.size = g := ⟨_, rfl⟩
            rw [hhg9] at hI' lt_wheapsizep1_g9 lt_g7_g9 lt_g8_g9 lt_g10_g9 ⊢
            replace hI := Lib.hid hI'
            clear hb hI' hx3 hhg9
            refine Rt.ord_nil ?_
            refine Rt.tree_op ?_
            refine ord_call rfl rfl rfl (by go_simp; exact ⟨rfl, rfl⟩) ?_
            refine (mod_N n1.out n2.out (by decide) (Nat.le_trans hmB (by decide))).mono ?_
            rintro e x4 ⟨v3, rfl, n3, hb⟩
            obtain ⟨v3a, v3l, v3c, rfl⟩ := n3.shape
            refine ⟨_, rfl, hb, ?_⟩
            rw [hm1] at n3
            replace n3 := Lib.hid n3
            replace hI := Lib.hid (hI.out.below hb)
            replace n2 := Lib.hid (n2.out.below hb)
            replace n0 := Lib.hid (n0.out.below hb)
            replace n1 := Lib.hid (n1.out.below hb)
            clear hb
            simp only [Act.put, Act.eval, List.setIfInBounds_toArray, List.set_cons_zero, List.set_cons_succ, Array.getD_eq_getD_getElem?, List.getElem?_toArray, List.getElem?_cons_zero, List.getElem?_cons_succ, Option.getD_some, List.getElem_toArray, List.getElem_cons_succ, List.getElem_cons_zero]
            refine Rt.ord_nil ?_
            refine Rt.tree_op ?_
            have hv := (hI.out.vars _ _ (up_same _ _ _)).2
            obtain ⟨qa, ql, qc, qb, qn⟩ := id hv
            have cc := qb.cell
            have ff := qb.frozen
            clear qb qn
            apply ord_do rfl rfl rfl; (· (go_simp; with_reducible rfl)); (· (simp only [Act.put, Act.eval, List.setIfInBounds_toArray, List.set_cons_zero, List.set_cons_succ, Array.getD_eq_getD_getElem?, List.getElem?_toArray, List.getElem?_cons_zero, List.getElem?_cons_succ, Option.getD_some, List.getElem_toArray, List.getElem_cons_succ, List.getElem_cons_zero]; with_reducible rfl))
            clear cc ff
            have hI' := hI.out.set (up_same _ _ _) n0.out
            obtain ⟨x5, hx5⟩ : ∃ W, x4.setCell ⟨g9, 0, none⟩ (.slice none 0 0) = W := ⟨_, rfl⟩
            replace n2 := Lib.hid (n2.out.otherV hv (.slice none 0 0))
            replace n0 := Lib.hid (n0.out.otherV hv (.slice none 0 0))
            replace n1 := Lib.hid (n1.out.otherV hv (.slice none 0 0))
            replace n3 := Lib.hid (n3.out.otherV hv (.slice none 0 0))
            rw [hx5] at hI' n2 n0 n1 n3 ⊢
            replace hI := Lib.hid hI'
            clear hI' hx5 hv
            refine Rt.ord_nil ?_
            refine Rt.tree_op ?_
            have hv := (hI.out.vars _ _ ((up_other (by omega)).trans ((up_other (by omega)).trans (up_same _ _ _)))).2
            obtain ⟨qa, ql, qc, qb, qn⟩ := id hv
            have cc := qb.cell
            have ff := qb.frozen
            clear qb qn
            apply ord_do rfl rfl rfl; (· (go_simp; with_reducible rfl)); (· (simp only [Act.put, Act.eval, List.setIfInBounds_toArray, List.set_cons_zero, List.set_cons_succ, Array.getD_eq_getD_getElem?, List.getElem?_toArray, List.getElem?_cons_zero, List.getElem?_cons_succ, Option.getD_some, List.getElem_toArray, List.getElem_cons_succ, List.getElem_cons_zero]; with_reducible rfl))
            clear cc ff
            have hI' := hI.out.set ((up_other (by omega)).trans ((up_other (by omega)).trans (up_same _ _ _))) n3.out
            obtain ⟨x6, hx6⟩ : ∃ W, x5.setCell ⟨g10, 0, none⟩ (.slice v3a v3l v3c) = W := ⟨_, rfl⟩
            replace n2 := Lib.hid (n2.out.otherV hv (.slice v3a v3l v3c))
            replace n0 := Lib.hid (n0.out.otherV hv (.slice v3a v3l v3c))
            replace n1 := Lib.hid (n1.out.otherV hv (.slice v3a v3l v3c))
            replace n3 := Lib.hid (n3.out.otherV hv (.slice v3a v3l v3c))
            rw [hx6] at hI' n2 n0 n1 n3 ⊢
            replace hI := Lib.hid hI'
            clear hI' hx6 hv
            refine Rt.ord_nil ?_
            refine Rt.tree_fin ?_
            go_wp2_with fail
            go_meet
            case rel => exact ⟨g9, g10, _, rfl, rfl, hI, Lib.hid ⟨(up_other (by omega)).trans ((up_other (by omega)).trans ((up_other (by omega)).trans ((up_other (by omega)).trans (hsm)))), (up_other (by omega)).trans ((up_other (by omega)).trans ((up_other (by omega)).trans ((up_other (by omega)).trans (hs7)))), (up_other (by omega)).trans ((up_other (by omega)).trans ((up_other (by omega)).trans ((up_other (by omega)).trans (hs8)))), (up_other (by omega)).trans (up_same _ _ _), up_same _ _ _⟩, Lib.hid (by omega)⟩
      · apply ord_new rfl rfl rfl; (· (go_simp; exact ⟨rfl, rfl⟩)); (· (exact (Below.refl _ _).alloc (Nat.le_refl _) _)); (· (simp only [Act.put, Act.eval, List.setIfInBounds_toArray, List.set_cons_zero, List.set_cons_succ, Array.getD_eq_getD_getElem?, List.getElem?_toArray, List.getElem?_cons_zero, List.getElem?_cons_succ, Option.getD_some, List.getElem_toArray, List.getElem_cons_succ, List.getElem_cons_zero]; with_reducible rfl))
        have hb : Below x0.heap.size x0 (x0.alloc (.cells #[.slice none 0 0] 26)) := (Below.refl _ _).alloc (Nat.le_refl _) _
        have hI' := hI.out.add (NumAt.zero x0)
        have lt_wheapsizep1_g9 := hI.out.lt (hsm)
        have lt_g7_g9 := hI.out.lt (hs7)
        have lt_g8_g9 := hI.out.lt (hs8)
        obtain ⟨x1, hx1⟩ : ∃ W, x0.alloc (.cells #[.slice none 0 0] 26) = W := ⟨_, rfl⟩
        rw [hx1] at hI' hb ⊢
        replace n2 := Lib.hid (n2.out.below hb)
        replace n0 := Lib.hid (n0.out.below hb)
        obtain ⟨g9, hhg9⟩ : ∃ g, x0.heap.size = g := ⟨_, rfl⟩
        rw [hhg9] at hI' lt_wheapsizep1_g9 lt_g7_g9 lt_g8_g9 ⊢
        replace hI := Lib.hid hI'
        clear hb hI' hx1 hhg9
        refine Rt.ord_nil ?_
        refine Rt.tree_two ?_ ?_
        · refine ord_call rfl rfl rfl (by go_simp; exact ⟨rfl, rfl⟩) ?_
          refine (Small_1 _).mono ?_
          rintro e x2 ⟨v1, rfl, n1, hb⟩
          obtain ⟨v1a, v1l, v1c, rfl⟩ := n1.shape
          refine ⟨_, rfl, hb, ?_⟩
          replace n1 := Lib.hid n1
          replace hI := Lib.hid (hI.out.below hb)
          replace n2 := Lib.hid (n2.out.below hb)
          replace n0 := Lib.hid (n0.out.below hb)
          clear hb
          simp only [Act.put, Act.eval, List.setIfInBounds_toArray, List.set_cons_zero, List.set_cons_succ, Array.getD_eq_getD_getElem?, List.getElem?_toArray, List.getElem?_cons_zero, List.getElem?_cons_succ, Option.getD_some, List.getElem_toArray, List.getElem_cons_succ, List.getElem_cons_zero]
          refine Rt.ord_nil ?_
          refine Rt.tree_two ?_ ?_
          · refine ord_call rfl rfl rfl (by go_simp; exact ⟨rfl, rfl⟩) ?_
            refine (mod_N n1.out n2.out (by decide) (Nat.le_trans hmB (by decide))).mono ?_
            rintro e x3 ⟨v3, rfl, n3, hb⟩
            obtain ⟨v3a, v3l, v3c, rfl⟩ := n3.shape
            refine ⟨_, rfl, hb, ?_⟩
            rw [hm1] at n3
            replace n3 := Lib.hid n3
            replace hI := Lib.hid (hI.out.below hb)
            replace n2 := Lib.hid (n2.out.below hb)
            replace n0 := Lib.hid (n0.out.below hb)
            replace n1 := Lib.hid (n1.out.below hb)
            clear hb
            simp only [Act.put, Act.eval, List.setIfInBounds_toArray, List.set_cons_zero, List.set_cons_succ, Array.getD_eq_getD_getElem?, List.getElem?_toArray, List.getElem?_cons_zero, List.getElem?_cons_succ, Option.getD_some, List.getElem_toArray, List.getElem_cons_succ, List.getElem_cons_zero]
            refine Rt.ord_nil ?_
            refine Rt.tree_op ?_
            apply ord_new rfl rfl rfl; (· (go_simp; exact ⟨rfl, rfl⟩)); (· (exact (Below.refl _ _).alloc (Nat.le_refl _) _)); (· (simp only [Act.put, Act.eval, List.setIfInBounds_toArray, List.set_cons_zero, List.set_cons_succ, Array.getD_eq_getD_getElem?, List.getElem?_toArray, List.getElem?_cons_zero, List.getElem?_cons_succ, Option.getD_some, List.getElem_toArray, List.getElem_cons_succ, List.getElem_cons_zero]; with_reducible rfl))
            have hb : Below x3.heap.size x3 (x3.alloc (.cells #[.slice none 0 0] 26)) := (Below.refl _ _).alloc (Nat.le_refl _) _
            have hI' := hI.out.add (NumAt.zero x3)
            have lt_wheapsizep1_g10 := hI.out.lt ((up_other (by omega)).trans (hsm))
            have lt_g7_g10 := hI.out.lt ((up_other (by omega)).trans (hs7))
            have lt_g8_g10 := hI.out.lt ((up_other (by omega)).trans (hs8))
            have lt_g9_g10 := hI.out.lt (up_same _ _ _)
            obtain ⟨x4, hx4⟩ : ∃ W, x3.alloc (.cells #[.slice none 0 0] 26) = W := ⟨_, rfl⟩
            rw [hx4] at hI' hb ⊢
            replace n2 := Lib.hid (n2.out.below hb)
            replace n0 := Lib.hid (n0.out.below hb)
            replace n1 := Lib.hid (n1.out.below hb)
            replace n3 := Lib.hid (n3.out.below hb)
            obtain ⟨g10, hhg10⟩ : ∃ g, x3.heap.size = g := ⟨_, rfl⟩
            rw [hhg10] at hI' lt_wheapsizep1_g10 lt_g7_g10 lt_g8_g10 lt_g9_g10 ⊢
            replace hI := Lib.hid hI'
            clear hb hI' hx4 hhg10
            refine Rt.ord_nil ?_
            refine Rt.tree_op ?_
            have hv := (hI.out.vars _ _ ((up_other (by omega)).trans (up_same _ _ _))).2
            obtain ⟨qa, ql, qc, qb, qn⟩ := id hv
            have cc := qb.cell
            have ff := qb.frozen
            clear qb qn
            apply ord_do rfl rfl rfl; (· (go_simp; with_reducible rfl)); (· (simp only [Act.put, Act.eval, List.setIfInBounds_toArray, List.set_cons_zero, List.set_cons_succ, Array.getD_eq_getD_getElem?, List.getElem?_toArray, List.getElem?_cons_zero, List.getElem?_cons_succ, Option.getD_some, List.getElem_toArray, List.getElem_cons_succ, List.getElem_cons_zero]; with_reducible rfl))
            clear cc ff
            have hI' := hI.out.set ((up_other (by omega)).trans (up_same _ _ _)) n0.out
            obtain ⟨x5, hx5⟩ : ∃ W, x4.setCell ⟨g9, 0, none⟩ (.slice none 0 0) = W := ⟨_, rfl⟩
            replace n2 := Lib.hid (n2.out.otherV hv (.slice none 0 0))
            replace n0 := Lib.hid (n0.out.otherV hv (.slice none 0 0))
            replace n1 := Lib.hid (n1.out.otherV hv (.slice none 0 0))
            replace n3 := Lib.hid (n3.out.otherV hv (.slice none 0 0))
            rw [hx5] at hI' n2 n0 n1 n3 ⊢
            replace hI := Lib.hid hI'
            clear hI' hx5 hv
            refine Rt.ord_nil ?_
            refine Rt.tree_op ?_
            have hv := (hI.out.vars _ _ ((up_other (by omega)).trans (up_same _ _ _))).2
            obtain ⟨qa, ql, qc, qb, qn⟩ := id hv
            have cc := qb.cell
            have ff := qb.frozen
            clear qb qn
            apply ord_do rfl rfl rfl; (· (go_simp; with_reducible rfl)); (· (simp only [Act.put, Act.eval, List.setIfInBounds_toArray, List.set_cons_zero, List.set_cons_succ, Array.getD_eq_getD_getElem?, List.getElem?_toArray, List.getElem?_cons_zero, List.getElem?_cons_succ, Option.getD_some, List.getElem_toArray, List.getElem_cons_succ, List.getElem_cons_zero]; with_reducible rfl))
            clear cc ff
            have hI' := hI.out.set ((up_other (by omega)).trans (up_same _ _ _)) n3.out
            obtain ⟨x6, hx6⟩ : ∃ W, x5.setCell ⟨g10, 0, none⟩ (.slice v3a v3l v3c) = W := ⟨_, rfl⟩
            replace n2 := Lib.hid (n2.out.otherV hv (.slice v3a v3l v3c))
            replace n0 := Lib.hid (n0.out.otherV hv (.slice v3a v3l v3c))
            replace n1 := Lib.hid (n1.out.otherV hv (.slice v3a v3l v3c))
            replace n3 := Lib.hid (n3.out.otherV hv (.slice v3a v3l v3c))
            rw [hx6] at hI' n2 n0 n1 n3 ⊢
            replace hI := Lib.hid hI'
            clear hI' hx6 hv
            refine Rt.ord_nil ?_
            refine Rt.tree_fin ?_
            go_wp2_with fail
            go_meet
            case rel => exact ⟨g9, g10, _, rfl, rfl, hI, Lib.hid ⟨(up_other (by omega)).trans ((up_other (by omega)).trans ((up_other (by omega)).trans ((up_other (by omega)).trans (hsm)))), (up_other (by omega)).trans ((up_other (by omega)).trans ((up_other (by omega)).trans ((up_other (by omega)).trans (hs7)))), (up_other (by omega)).trans ((up_other (by omega)).trans ((up_other (by omega)).trans ((up_other (by omega)).trans (hs8)))), (up_other (by omega)).trans (up_same _ _ _), up_same _ _ _⟩, Lib.hid (by omega)⟩
          · apply ord_new rfl rfl rfl; (· (go_simp; exact ⟨rfl, rfl⟩)); (· (exact (Below.refl _ _).alloc (Nat.le_refl _) _)); (· (simp only [Act.put, Act.eval, List.setIfInBounds_toArray, List.set_cons_zero, List.set_cons_succ, Array.getD_eq_getD_getElem?, List.getElem?_toArray, List.getElem?_cons_zero, List.getElem?_cons_succ, Option.getD_some, List.getElem_toArray, List.getElem_cons_succ, List.getElem_cons_zero]; with_reducible rfl))
            have hb : Below x2.heap.size x2 (x2.alloc (.cells #[.slice none 0 0] 26)) := (Below.refl _ _).alloc (Nat.le_refl _) _
            have hI' := hI.out.add (NumAt.zero x2)
            have lt_wheapsizep1_g10 := hI.out.lt ((up_other (by omega)).trans (hsm))
            have lt_g7_g10 := hI.out.lt ((up_other (by omega)).trans (hs7))
            have lt_g8_g10 := hI.out.lt ((up_other (by omega)).trans (hs8))
            have lt_g9_g10 := hI.out.lt (up_same _ _ _)
            obtain ⟨x3, hx3⟩ : ∃ W, x2.alloc (.cells #[.slice none 0 0] 26) = W := ⟨_, rfl⟩
            rw [hx3] at hI' hb ⊢
            replace n2 := Lib.hid (n2.out.below hb)
            replace n0 := Lib.hid (n0.out.below hb)
            replace n1 := Lib.hid (n1.out.below hb)
            obtain ⟨g10, hhg10⟩ : ∃ g, x2.heap.size = g := ⟨_, rfl⟩
            rw [hhg10] at hI' lt_wheapsizep1_g10 lt_g7_g10 lt_g8_g10 lt_g9_g10 ⊢
            replace hI := Lib.hid hI'
            clear hb hI' hx3 hhg10
            refine Rt.ord_nil ?_
            refine Rt.tree_op ?_
            refine ord_call rfl rfl rfl (by go_simp; exact ⟨rfl, rfl⟩) ?_
            refine (mod_N n1.out n2.out (by decide) (Nat.le_trans hmB (by decide))).mono ?_
            rintro e x4 ⟨v3, rfl, n3, hb⟩
            obtain ⟨v3a, v3l, v3c, rfl⟩ := n3.shape
            refine ⟨_, rfl, hb, ?_⟩
            rw [hm1] at n3
            replace n3 := Lib.hid n3
            replace hI := Lib.hid (hI.out.below hb)
            replace n2 := Lib.hid (n2.out.below hb)
            replace n0 := Lib.hid (n0.out.below hb)
            replace n1 := Lib.hid (n1.out.below hb)
            clear hb
            simp only [Act.put, Act.eval, List.setIfInBounds_toArray, List.set_cons_zero, List.set_cons_succ, Array.getD_eq_getD_getElem?, List.getElem?_toArray, List.getElem?_cons_zero, List.getElem?_cons_succ, Option.getD_some, List.getElem_toArray, List.getElem_cons_succ, List.getElem_cons_zero]
            refine Rt.ord_nil ?_
            refine Rt.tree_op ?_
            have hv := (hI.out.vars _ _ ((up_other (by omega)).trans (up_same _ _ _))).2
            obtain ⟨qa, ql, qc, qb, qn⟩ := id hv
            have cc := qb.cell
            have ff := qb.frozen
            clear qb qn
            apply ord_do rfl rfl rfl; (· (go_simp; with_reducible rfl)); (· (simp only [Act.put, Act.eval, List.setIfInBounds_toArray, List.set_cons_zero, List.set_cons_succ, Array.getD_eq_getD_getElem?, List.getElem?_toArray, List.getElem?_cons_zero, List.getElem?_cons_succ, Option.getD_some, List.getElem_toArray, List.getElem_cons_succ, List.getElem_cons_zero]; with_reducible rfl))
            clear cc ff
            have hI' := hI.out.set ((up_other (by omega)).trans (up_same _ _ _)) n0.out
            obtain ⟨x5, hx5⟩ : ∃ W, x4.setCell ⟨g9, 0, none⟩ (.slice none 0 0) = W := ⟨_, rfl⟩
            replace n2 := Lib.hid (n2.out.otherV hv (.slice none 0 0))
            replace n0 := Lib.hid (n0.out.otherV hv (.slice none 0 0))
            replace n1 := Lib.hid (n1.out.otherV hv (.slice none 0 0))
            replace n3 := Lib.hid (n3.out.otherV hv (.slice none 0 0))
            rw [hx5] at hI' n2 n0 n1 n3 ⊢
            replace hI := Lib.hid hI'
            clear hI' hx5 hv
            refine Rt.ord_nil ?_
            refine Rt.tree_op ?_
            have hv := (hI.out.vars _ _ ((up_other (by omega)).trans (up_same _ _ _))).2
            obtain ⟨qa, ql, qc, qb, qn⟩ := id hv
            have cc := qb.cell
            have ff := qb.frozen
            clear qb qn
            apply ord_do rfl rfl rfl; (· (go_simp; with_reducible rfl)); (· (simp only [Act.put, Act.eval, List.setIfInBounds_toArray, List.set_cons_zero, List.set_cons_succ, Array.getD_eq_getD_getElem?, List.getElem?_toArray, List.getElem?_cons_zero, List.getElem?_cons_succ, Option.getD_some, List.getElem_toArray, List.getElem_cons_succ, List.getElem_cons_zero]; with_reducible rfl))
            clear cc ff
            have hI' := hI.out.set ((up_other (by omega)).trans (up_same _ _ _)) n3.out
            obtain ⟨x6, hx6⟩ : ∃ W, x5.setCell ⟨g10, 0, none⟩ (.slice v3a v3l v3c) = W := ⟨_, rfl⟩
            replace n2 := Lib.hid (n2.out.otherV hv (.slice v3a v3l v3c))
            replace n0 := Lib.hid (n0.out.otherV hv (.slice v3a v3l v3c))
            replace n1 := Lib.hid (n1.out.otherV hv (.slice v3a v3l v3c))
            replace n3 := Lib.hid (n3.out.otherV hv (.slice v3a v3l v3c))
            rw [hx6] at hI' n2 n0 n1 n3 ⊢
            replace hI := Lib.hid hI'
            clear hI' hx6 hv
            refine Rt.ord_nil ?_
            refine Rt.tree_fin ?_
            go_wp2_with fail
            go_meet
            case rel => exact ⟨g9, g10, _, rfl, rfl, hI, Lib.hid ⟨(up_other (by omega)).trans ((up_other (by omega)).trans ((up_other (by omega)).trans ((up_other (by omega)).trans (hsm)))), (up_other (by omega)).trans ((up_other (by omega)).trans ((up_other (by omega)).trans ((up_other (by omega)).trans (hs7)))), (up_other (by omega)).trans ((up_other (by omega)).trans ((up_other (by omega)).trans ((up_other (by omega)).trans (hs8)))), (up_other (by omega)).trans (up_same _ _ _), up_same _ _ _⟩, Lib.hid (by omega)⟩
        · apply ord_new rfl rfl rfl; (· (go_simp; exact ⟨rfl, rfl⟩)); (· (exact (Below.refl _ _).alloc (Nat.le_refl _) _)); (· (simp only [Act.put, Act.eval, List.setIfInBounds_toArray, List.set_cons_zero, List.set_cons_succ, Array.getD_eq_getD_getElem?, List.getElem?_toArray, List.getElem?_cons_zero, List.getElem?_cons_succ, Option.getD_some, List.getElem_toArray, List.getElem_cons_succ, List.getElem_cons_zero]; with_reducible rfl))
          have hb : Below x1.heap.size x1 (x1.alloc (.cells #[.slice none 0 0] 26)) := (Below.refl _ _).alloc (Nat.le_refl _) _
          have hI' := hI.out.add (NumAt.zero x1)
          have lt_wheapsizep1_g10 := hI.out.lt ((up_other (by omega)).trans (hsm))
          have lt_g7_g10 := hI.out.lt ((up_other (by omega)).trans (hs7))
          have lt_g8_g10 := hI.out.lt ((up_other (by omega)).trans (hs8))
          have lt_g9_g10 := hI.out.lt (up_same _ _ _)
          obtain ⟨x2, hx2⟩ : ∃ W, x1.alloc (.cells #[.slice none 0 0] 26) = W := ⟨_, rfl⟩
          rw [hx2] at hI' hb ⊢
          replace n2 := Lib.hid (n2.out.below hb)
          replace n0 := Lib.hid (n0.out.below hb)
          obtain ⟨g10, hhg10⟩ : ∃ g, x1.heap.size = g := ⟨_, rfl⟩
          rw [hhg10] at hI' lt_wheapsizep1_g10 lt_g7_g10 lt_g8_g10 lt_g9_g10 ⊢
          replace hI := Lib.hid hI'
          clear hb hI' hx2 hhg10
          refine Rt.ord_nil ?_
          refine Rt.tree_op ?_
          refine ord_call rfl rfl rfl (by go_simp; exact ⟨rfl, rfl⟩) ?_
          refine (Small_1 _).mono ?_
          rintro e x3 ⟨v1, rfl, n1, hb⟩
          obtain ⟨v1a, v1l, v1c, rfl⟩ := n1.shape
          refine ⟨_, rfl, hb, ?_⟩
          replace n1 := Lib.hid n1
          replace hI := Lib.hid (hI.out.below hb)
          replace n2 := Lib.hid (n2.out.below hb)
          replace n0 := Lib.hid (n0.out.below hb)
          clear hb
          simp only [Act.put, Act.eval, List.setIfInBounds_toArray, List.set_cons_zero, List.set_cons_succ, Array.getD_eq_getD_getElem?, List.getElem?_toArray, List.getElem?_cons_zero, List.getElem?_cons_succ, Option.getD_some, List.getElem_toArray, List.getElem_cons_succ, List.getElem_cons_zero]
          refine Rt.ord_nil ?_
          refine Rt.tree_op ?_
          refine ord_call rfl rfl rfl (by go_simp; exact ⟨rfl, rfl⟩) ?_
          refine (mod_N n1.out n2.out (by decide) (Nat.le_trans hmB (by decide))).mono ?_
          rintro e x4 ⟨v3, rfl, n3, hb⟩
          obtain ⟨v3a, v3l, v3c, rfl⟩ := n3.shape
          refine ⟨_, rfl, hb, ?_⟩
          rw [hm1] at n3
          replace n3 := Lib.hid n3
          replace hI := Lib.hid (hI.out.below hb)
          replace n2 := Lib.hid (n2.out.below hb)
          replace n0 := Lib.hid (n0.out.below hb)
          replace n1 := Lib.hid (n1.out.below hb)
          clear hb
          simp only [Act.put, Act.eval, List.setIfInBounds_toArray, List.set_cons_zero, List.set_cons_succ, Array.getD_eq_getD_getElem?, List.getElem?_toArray, List.getElem?_cons_zero, List.getElem?_cons_succ, Option.getD_some, List.getElem_toArray, List.getElem_cons_succ, List.getElem_cons_zero]
          refine Rt.ord_nil ?_
          refine Rt.tree_op ?_
          have hv := (hI.out.vars _ _ ((up_other (by omega)).trans (up_same _ _ _))).2
          obtain ⟨qa, ql, qc, qb, qn⟩ := id hv
          have cc := qb.cell
          have ff := qb.frozen
          clear qb qn
          apply ord_do rfl rfl rfl; (· (go_simp; with_reducible rfl)); (· (simp only [Act.put, Act.eval, List.setIfInBounds_toArray, List.set_cons_zero, List.set_cons_succ, Array.getD_eq_getD_getElem?, List.getElem?_toArray, List.getElem?_cons_zero, List.getElem?_cons_succ, Option.getD_some, List.getElem_toArray, List.getElem_cons_succ, List.getElem_cons_zero]; with_reducible rfl))
          clear cc ff
          have hI' := hI.out.set ((up_other (by omega)).trans (up_same _ _ _)) n0.out
          obtain ⟨x5, hx5⟩ : ∃ W, x4.setCell ⟨g9, 0, none⟩ (.slice none 0 0) = W := ⟨_, rfl⟩
          replace n2 := Lib.hid (n2.out.otherV hv (.slice none 0 0))
          replace n0 := Lib.hid (n0.out.otherV hv (.slice none 0 0))
          replace n1 := Lib.hid (n1.out.otherV hv (.slice none 0 0))
          replace n3 := Lib.hid (n3.out.otherV hv (.slice none 0 0))
          rw [hx5] at hI' n2 n0 n1 n3 ⊢
          replace hI := Lib.hid hI'
          clear hI' hx5 hv
          refine Rt.ord_nil ?_
          refine Rt.tree_op ?_
          have hv := (hI.out.vars _ _ ((up_other (by omega)).trans (up_same _ _ _))).2
          obtain ⟨qa, ql, qc, qb, qn⟩ := id hv
          have cc := qb.cell
          have ff := qb.frozen
          clear qb qn
          apply ord_do rfl rfl rfl; (· (go_simp; with_reducible rfl)); (· (simp only [Act.put, Act.eval, List.setIfInBounds_toArray, List.set_cons_zero, List.set_cons_succ, Array.getD_eq_getD_getElem?, List.getElem?_toArray, List.getElem?_cons_zero, List.getElem?_cons_succ, Option.getD_some, List.getElem_toArray, List.getElem_cons_succ, List.getElem_cons_zero]; with_reducible rfl))
          clear cc ff
          have hI' := hI.out.set ((up_other (by omega)).trans (up_same _ _ _)) n3.out
          obtain ⟨x6, hx6⟩ : ∃ W, x5.setCell ⟨g10, 0, none⟩ (.slice v3a v3l v3c) = W := ⟨_, rfl⟩
          replace n2 := Lib.hid (n2.out.otherV hv (.slice v3a v3l v3c))
          replace n0 := Lib.hid (n0.out.otherV hv (.slice v3a v3l v3c))
          replace n1 := Lib.hid (n1.out.otherV hv (.slice v3a v3l v3c))
          replace n3 := Lib.hid (n3.out.otherV hv (.slice v3a v3l v3c))
          rw [hx6] at hI' n2 n0 n1 n3 ⊢
          replace hI := Lib.hid hI'
          clear hI' hx6 hv
          refine Rt.ord_nil ?_
          refine Rt.tree_fin ?_
          go_wp2_with fail
          go_meet
          case rel => exact ⟨g9, g10, _, rfl, rfl, hI, Lib.hid ⟨(up_other (by omega)).trans ((up_other (by omega)).trans ((up_other (by omega)).trans ((up_other (by omega)).trans (hsm)))), (up_other (by omega)).trans ((up_other (by omega)).trans ((up_other (by omega)).trans ((up_other (by omega)).trans (hs7)))), (up_other (by omega)).trans ((up_other (by omega)).trans ((up_other (by omega)).trans ((up_other (by omega)).trans (hs8)))), (up_other (by omega)).trans (up_same _ _ _), up_same _ _ _⟩, Lib.hid (by omega)⟩
      · apply ord_new rfl rfl rfl; (· (go_simp; exact ⟨rfl, rfl⟩)); (· (exact (Below.refl _ _).alloc (Nat.le_refl _) _)); (· (simp only [Act.put, Act.eval, List.setIfInBounds_toArray, List.set_cons_zero, List.set_cons_succ, Array.getD_eq_getD_getElem?, List.getElem?_toArray, List.getElem?_cons_zero, List.getElem?_cons_succ, Option.getD_some, List.getElem_toArray, List.getElem_cons_succ, List.getElem_cons_zero]; with_reducible rfl))
        have hb : Below x0.heap.size x0 (x0.alloc (.cells #[.slice none 0 0] 26)) := (Below.refl _ _).alloc (Nat.le_refl _) _
        have hI' := hI.out.add (NumAt.zero x0)
        have lt_wheapsizep1_g10 := hI.out.lt (hsm)
        have lt_g7_g10 := hI.out.lt (hs7)
        have lt_g8_g10 := hI.out.lt (hs8)
        obtain ⟨x1, hx1⟩ : ∃ W, x0.alloc (.cells #[.slice none 0 0] 26) = W := ⟨_, rfl⟩
        rw [hx1] at hI' hb ⊢
        replace n2 := Lib.hid (n2.out.below hb)
        replace n0 := Lib.hid (n0.out.below hb)
        obtain ⟨g10, hhg10⟩ : ∃ g, x0.heap.size = g := ⟨_, rfl⟩
        rw [hhg10] at hI' lt_wheapsizep1_g10 lt_g7_g10 lt_g8_g10 ⊢
        replace hI := Lib.hid hI'
        clear hb hI' hx1 hhg10
        refine Rt.ord_nil ?_
        refine Rt.tree_two ?_ ?_
        · refine ord_call rfl rfl rfl (by go_simp; exact ⟨rfl, rfl⟩) ?_
          refine (Small_1 _).mono ?_
          rintro e x2 ⟨v1, rfl, n1, hb⟩
          obtain ⟨v1a, v1l, v1c, rfl⟩ := n1.shape
          refine ⟨_, rfl, hb, ?_⟩
          replace n1 := Lib.hid n1
          replace hI := Lib.hid (hI.out.below hb)
          replace n2 := Lib.hid (n2.out.below hb)
          replace n0 := Lib.hid (n0.out.below hb)
          clear hb
          simp only [Act.put, Act.eval, List.setIfInBounds_toArray, List.set_cons_zero, List.set_cons_succ, Array.getD_eq_getD_getElem?, List.getElem?_toArray, List.getElem?_cons_zero, List.getElem?_cons_succ, Option.getD_some, List.getElem_toArray, List.getElem_cons_succ, List.getElem_cons_zero]
          refine Rt.ord_nil ?_
          refine Rt.tree_two ?_ ?_
          · refine ord_call rfl rfl rfl (by go_simp; exact ⟨rfl, rfl⟩) ?_
            refine (mod_N n1.out n2.out (by decide) (Nat.le_trans hmB (by decide))).mono ?_
            rintro e x3 ⟨v3, rfl, n3, hb⟩
            obtain ⟨v3a, v3l, v3c, rfl⟩ := n3.shape
            refine ⟨_, rfl, hb, ?_⟩
            rw [hm1] at n3
            replace n3 := Lib.hid n3
            replace hI := Lib.hid (hI.out.below hb)
            replace n2 := Lib.hid (n2.out.below hb)
            replace n0 := Lib.hid (n0.out.below hb)
            replace n1 := Lib.hid (n1.out.below hb)
            clear hb
            simp only [Act.put, Act.eval, List.setIfInBounds_toArray, List.set_cons_zero, List.set_cons_succ, Array.getD_eq_getD_getElem?, List.getElem?_toArray, List.getElem?_cons_zero, List.getElem?_cons_succ, Option.getD_some, List.getElem_toArray, List.getElem_cons_succ, List.getElem_cons_zero]
            refine Rt.ord_nil ?_
            refine Rt.tree_op ?_
            apply ord_new rfl rfl rfl; (· (go_simp; exact ⟨rfl, rfl⟩)); (· (exact (Below.refl _ _).alloc (Nat.le_refl _) _)); (· (simp only [Act.put, Act.eval, List.setIfInBounds_toArray, List.set_cons_zero, List.set_cons_succ, Array.getD_eq_getD_getElem?, List.getElem?_toArray, List.getElem?_cons_zero, List.getElem?_cons_succ, Option.getD_some, List.getElem_toArray, List.getElem_cons_succ, List.getElem_cons_zero]; with_reducible rfl))
            have hb : Below x3.heap.size x3 (x3.alloc (.cells #[.slice none 0 0] 26)) := (Below.refl _ _).alloc (Nat.le_refl _) _
            have hI' := hI.out.add (NumAt.zero x3)
            have lt_wheapsizep1_g9 := hI.out.lt ((up_other (by omega)).trans (hsm))
            have lt_g7_g9 := hI.out.lt ((up_other (by omega)).trans (hs7))
            have lt_g8_g9 := hI.out.lt ((up_other (by omega)).trans (hs8))
            have lt_g10_g9 := hI.out.lt (up_same _ _ _)
            obtain ⟨x4, hx4⟩ : ∃ W, x3.alloc (.cells #[.slice none 0 0] 26) = W := ⟨_, rfl⟩
            rw [hx4] at hI' hb ⊢
            replace n2 := Lib.hid (n2.out.below hb)
            replace n0 := Lib.hid (n0.out.below hb)
            replace n1 := Lib.hid (n1.out.below hb)
            replace n3 := Lib.hid (n3.out.below hb)
            obtain ⟨g9, hhg9⟩ : ∃ g, x3.heap.size = g := ⟨_, rfl⟩
            rw [hhg9] at hI' lt_wheapsizep1_g9 lt_g7_g9 lt_g8_g9 lt_g10_g9 ⊢
            replace hI := Lib.hid hI'
            clear hb hI' hx4 hhg9
            refine Rt.ord_nil ?_
            refine Rt.tree_op ?_
            have hv := (hI.out.vars _ _ (up_same _ _ _)).2
            obtain ⟨qa, ql, qc, qb, qn⟩ := id hv
            have cc := qb.cell
            have ff := qb.frozen
            clear qb qn
            apply ord_do rfl rfl rfl; (· (go_simp; with_reducible rfl)); (· (simp only [Act.put, Act.eval, List.setIfInBounds_toArray, List.set_cons_zero, List.set_cons_succ, Array.getD_eq_getD_getElem?, List.getElem?_toArray, List.getElem?_cons_zero, List.getElem?_cons_succ, Option.getD_some, List.getElem_toArray, List.getElem_cons_succ, List.getElem_cons_zero]; with_reducible rfl))
            clear cc ff
            have hI' := hI.out.set (up_same _ _ _) n0.out
            obtain ⟨x5, hx5⟩ : ∃ W, x4.setCell ⟨g9, 0, none⟩ (.slice none 0 0) = W := ⟨_, rfl⟩
            replace n2 := Lib.hid (n2.out.otherV hv (.slice none 0 0))
            replace n0 := Lib.hid (n0.out.otherV hv (.slice none 0 0))
            replace n1 := Lib.hid (n1.out.otherV hv (.slice none 0 0))
            replace n3 := Lib.hid (n3.out.otherV hv (.slice none 0 0))
            rw [hx5] at hI' n2 n0 n1 n3 ⊢
            replace hI := Lib.hid hI'
            clear hI' hx5 hv
            refine Rt.ord_nil ?_
            refine Rt.tree_op ?_
            have hv := (hI.out.vars _ _ ((up_other (by omega)).trans ((up_other (by omega)).trans (up_same _ _ _)))).2
            obtain ⟨qa, ql, qc, qb, qn⟩ := id hv
            have cc := qb.cell
            have ff := qb.frozen
            clear qb qn
            apply ord_do rfl rfl rfl; (· (go_simp; with_reducible rfl)); (· (simp only [Act.put, Act.eval, List.setIfInBounds_toArray, List.set_cons_zero, List.set_cons_succ, Array.getD_eq_getD_getElem?, List.getElem?_toArray, List.getElem?_cons_zero, List.getElem?_cons_succ, Option.getD_some, List.getElem_toArray, List.getElem_cons_succ, List.getElem_cons_zero]; with_reducible rfl))
            clear cc ff
            have hI' := hI.out.set ((up_other (by omega)).trans ((up_other (by omega)).trans (up_same _ _ _))) n3.out
            obtain ⟨x6, hx6⟩ : ∃ W, x5.setCell ⟨g10, 0, none⟩ (.slice v3a v3l v3c) = W := ⟨_, rfl⟩
            replace n2 := Lib.hid (n2.out.otherV hv (.slice v3a v3l v3c))
            replace n0 := Lib.hid (n0.out.otherV hv (.slice v3a v3l v3c))
            replace n1 := Lib.hid (n1.out.otherV hv (.slice v3a v3l v3c))
            replace n3 := Lib.hid (n3.out.otherV hv (.slice v3a v3l v3c))
            rw [hx6] at hI' n2 n0 n1 n3 ⊢
            replace hI := Lib.hid hI'
            clear hI' hx6 hv
            refine Rt.ord_nil ?_
            refine Rt.tree_fin ?_
            go_wp2_with fail
            go_meet
            case rel => exact ⟨g9, g10, _, rfl, rfl, hI, Lib.hid ⟨(up_other (by omega)).trans ((up_other (by omega)).trans ((up_other (by omega)).trans ((up_other (by omega)).trans (hsm)))), (up_other (by omega)).trans ((up_other (by omega)).trans ((up_other (by omega)).trans ((up_other (by omega)).trans (hs7)))), (up_other (by omega)).trans ((up_other (by omega)).trans ((up_other (by omega)).trans ((up_other (by omega)).trans (hs8)))), (up_other (by omega)).trans (up_same _ _ _), up_same _ _ _⟩, Lib.hid (by omega)⟩
          · apply ord_new rfl rfl rfl; (· (go_simp; exact ⟨rfl, rfl⟩)); (· (exact (Below.refl _ _).alloc (Nat.le_refl _) _)); (· (simp only [Act.put, Act.eval, List.setIfInBounds_toArray, List.set_cons_zero, List.set_cons_succ, Array.getD_eq_getD_getElem?, List.getElem?_toArray, List.getElem?_cons_zero, List.getElem?_cons_succ, Option.getD_some, List.getElem_toArray, List.getElem_cons_succ, List.getElem_cons_zero]; with_reducible rfl))
            have hb : Below x2.heap.size x2 (x2.alloc (.cells #[.slice none 0 0] 26)) := (Below.refl _ _).alloc (Nat.le_refl _) _
            have hI' := hI.out.add (NumAt.zero x2)
            have lt_wheapsizep1_g9 := hI.out.lt ((up_other (by omega)).trans (hsm))
            have lt_g7_g9 := hI.out.lt ((up_other (by omega)).trans (hs7))
            have lt_g8_g9 := hI.out.lt ((up_other (by omega)).trans (hs8))
            have lt_g10_g9 := hI.out.lt (up_same _ _ _)
            obtain ⟨x3, hx3⟩ : ∃ W, x2.alloc (.cells #[.slice none 0 0] 26) = W := ⟨_, rfl⟩
            rw [hx3] at hI' hb ⊢
            replace n2 := Lib.hid (n2.out.below hb)
            replace n0 := Lib.hid (n0.out.below hb)
            replace n1 := Lib.hid (n1.out.below hb)
            obtain ⟨g9, hhg9⟩ : ∃ g, x2.heap.size = g := ⟨_, rfl⟩
            rw [hhg9] at hI' lt_wheapsizep1_g9 lt_g7_g9 lt_g8_g9 lt_g10_g9 ⊢
            replace hI := Lib.hid hI'
            clear hb hI' hx3 hhg9
            refine Rt.ord_nil ?_
            refine Rt.tree_op ?_
            refine ord_call rfl rfl rfl (by go_simp; exact ⟨rfl, rfl⟩) ?_
            refine (mod_N n1.out n2.out (by decide) (Nat.le_trans hmB (by decide))).mono ?_
            rintro e x4 ⟨v3, rfl, n3, hb⟩
            obtain ⟨v3a, v3l, v3c, rfl⟩ := n3.shape
            refine ⟨_, rfl, hb, ?_⟩
            rw [hm1] at n3
            replace n3 := Lib.hid n3
            replace hI := Lib.hid (hI.out.below hb)
            replace n2 := Lib.hid (n2.out.below hb)
            replace n0 := Lib.hid (n0.out.below hb)
            replace n1 := Lib.hid (n1.out.below hb)
            clear hb
            simp only [Act.put, Act.eval, List.setIfInBounds_toArray, List.set_cons_zero, List.set_cons_succ, Array.getD_eq_getD_getElem?, List.getElem?_toArray, List.getElem?_cons_zero, List.getElem?_cons_succ, Option.getD_some, List.getElem_toArray, List.getElem_cons_succ, List.getElem_cons_zero]
            refine Rt.ord_nil ?_
            refine Rt.tree_op ?_
            have hv := (hI.out.vars _ _ (up_same _ _ _)).2
            obtain ⟨qa, ql, qc, qb, qn⟩ := id hv
            have cc := qb.cell
            have ff := qb.frozen
            clear qb qn
            apply ord_do rfl rfl rfl; (· (go_simp; with_reducible rfl)); (· (simp only [Act.put, Act.eval, List.setIfInBounds_toArray, List.set_cons_zero, List.set_cons_succ, Array.getD_eq_getD_getElem?, List.getElem?_toArray, List.getElem?_cons_zero, List.getElem?_cons_succ, Option.getD_some, List.getElem_toArray, List.getElem_cons_succ, List.getElem_cons_zero]; with_reducible rfl))
            clear cc ff
            have hI' := hI.out.set (up_same _ _ _) n0.out
            obtain ⟨x5, hx5⟩ : ∃ W, x4.setCell ⟨g9, 0, none⟩ (.slice none 0 0) = W := ⟨_, rfl⟩
            replace n2 := Lib.hid (n2.out.otherV hv (.slice none 0 0))
            replace n0 := Lib.hid (n0.out.otherV hv (.slice none 0 0))
            replace n1 := Lib.hid (n1.out.otherV hv (.slice none 0 0))
            replace n3 := Lib.hid (n3.out.otherV hv (.slice none 0 0))
            rw [hx5] at hI' n2 n0 n1 n3 ⊢
            replace hI := Lib.hid hI'
            clear hI' hx5 hv
            refine Rt.ord_nil ?_
            refine Rt.tree_op ?_
            have hv := (hI.out.vars _ _ ((up_other (by omega)).trans ((up_other (by omega)).trans (up_same _ _ _)))).2
            obtain ⟨qa, ql, qc, qb, qn⟩ := id hv
            have cc := qb.cell
            have ff := qb.frozen
            clear qb qn
            apply ord_do rfl rfl rfl; (· (go_simp; with_reducible rfl)); (· (simp only [Act.put, Act.eval, List.setIfInBounds_toArray, List.set_cons_zero, List.set_cons_succ, Array.getD_eq_getD_getElem?, List.getElem?_toArray, List.getElem?_cons_zero, List.getElem?_cons_succ, Option.getD_some, List.getElem_toArray, List.getElem_cons_succ, List.getElem_cons_zero]; with_reducible rfl))
            clear cc ff
            have hI' := hI.out.set ((up_other (by omega)).trans ((up_other (by omega)).trans (up_same _ _ _))) n3.out
            obtain ⟨x6, hx6⟩ : ∃ W, x5.setCell ⟨g10, 0, none⟩ (.slice v3a v3l v3c) = W := ⟨_, rfl⟩
            replace n2 := Lib.hid (n2.out.otherV hv (.slice v3a v3l v3c))
            replace n0 := Lib.hid (n0.out.otherV hv (.slice v3a v3l v3c))
            replace n1 := Lib.hid (n1.out.otherV hv (.slice v3a v3l v3c))
            replace n3 := Lib.hid (n3.out.otherV hv (.slice v3a v3l v3c))
            rw [hx6] at hI' n2 n0 n1 n3 ⊢
            replace hI := Lib.hid hI'
            clear hI' hx6 hv
            refine Rt.ord_nil ?_
            refine Rt.tree_fin ?_
            go_wp2_with fail
            go_meet
            case rel => exact ⟨g9, g10, _, rfl, rfl, hI, Lib.hid ⟨(up_other (by omega)).trans ((up_other (by omega)).trans ((up_other (by omega)).trans ((up_other (by omega)).trans (hsm)))), (up_other (by omega)).trans ((up_other (by omega)).trans ((up_other (by omega)).trans ((up_other (by omega)).trans (hs7)))), (up_other (by omega)).trans ((up_other (by omega)).trans ((up_other (by omega)).trans ((up_other (by omega)).trans (hs8)))), (up_other (by omega)).trans (up_same _ _ _), up_same _ _ _⟩, Lib.hid (by omega)⟩
        · apply ord_new rfl rfl rfl; (· (go_simp; exact ⟨rfl, rfl⟩)); (· (exact (Below.refl _ _).alloc (Nat.le_refl _) _)); (· (simp only [Act.put, Act.eval, List.setIfInBounds_toArray, List.set_cons_zero, List.set_cons_succ, Array.getD_eq_getD_getElem?, List.getElem?_toArray, List.getElem?_cons_zero, List.getElem?_cons_succ, Option.getD_some, List.getElem_toArray, List.getElem_cons_succ, List.getElem_cons_zero]; with_reducible rfl))
          have hb : Below x1.heap.size x1 (x1.alloc (.cells #[.slice none 0 0] 26)) := (Below.refl _ _).alloc (Nat.le_refl _) _
          have hI' := hI.out.add (NumAt.zero x1)
          have lt_wheapsizep1_g9 := hI.out.lt ((up_other (by omega)).trans (hsm))
          have lt_g7_g9 := hI.out.lt ((up_other (by omega)).trans (hs7))
          have lt_g8_g9 := hI.out.lt ((up_other (by omega)).trans (hs8))
          have lt_g10_g9 := hI.out.lt (up_same _ _ _)
          obtain ⟨x2, hx2⟩ : ∃ W, x1.alloc (.cells #[.slice none 0 0] 26) = W := ⟨_, rfl⟩
          rw [hx2] at hI' hb ⊢
          replace n2 := Lib.hid (n2.out.below hb)
          replace n0 := Lib.hid (n0.out.below hb)
          obtain ⟨g9, hhg9⟩ : ∃ g, x1.heap.size = g := ⟨_, rfl⟩
          rw [hhg9] at hI' lt_wheapsizep1_g9 lt_g7_g9 lt_g8_g9 lt_g10_g9 ⊢
          replace hI := Lib.hid hI'
          clear hb hI' hx2 hhg9
          refine Rt.ord_nil ?_
          refine Rt.tree_op ?_
          refine ord_call rfl rfl rfl (by go_simp; exact ⟨rfl, rfl⟩) ?_
          refine (Small_1 _).mono ?_
          rintro e x3 ⟨v1, rfl, n1, hb⟩
          obtain ⟨v1a, v1l, v1c, rfl⟩ := n1.shape
          refine ⟨_, rfl, hb, ?_⟩
          replace n1 := Lib.hid n1
          replace hI := Lib.hid (hI.out.below hb)
          replace n2 := Lib.hid (n2.out.below hb)
          replace n0 := Lib.hid (n0.out.below hb)
          clear hb
          simp only [Act.put, Act.eval, List.setIfInBounds_toArray, List.set_cons_zero, List.set_cons_succ, Array.getD_eq_getD_getElem?, List.getElem?_toArray, List.getElem?_cons_zero, List.getElem?_cons_succ, Option.getD_some, List.getElem_toArray, List.getElem_cons_succ, List.getElem_cons_zero]
          refine Rt.ord_nil ?_
          refine Rt.tree_op ?_
          refine ord_call rfl rfl rfl (by go_simp; exact ⟨rfl, rfl⟩) ?_
          refine (mod_N n1.out n2.out (by decide) (Nat.le_trans hmB (by decide))).mono ?_
          rintro e x4 ⟨v3, rfl, n3, hb⟩
          obtain ⟨v3a, v3l, v3c, rfl⟩ := n3.shape
          refine ⟨_, rfl, hb, ?_⟩
          rw [hm1] at n3
          replace n3 := Lib.hid n3
          replace hI := Lib.hid (hI.out.below hb)
          replace n2 := Lib.hid (n2.out.below hb)
          replace n0 := Lib.hid (n0.out.below hb)
          replace n1 := Lib.hid (n1.out.below hb)
          clear hb
          simp only [Act.put, Act.eval, List.setIfInBounds_toArray, List.set_cons_zero, List.set_cons_succ, Array.getD_eq_getD_getElem?, List.getElem?_toArray, List.getElem?_cons_zero, List.getElem?_cons_succ, Option.getD_some, List.getElem_toArray, List.getElem_cons_succ, List.getElem_cons_zero]
          refine Rt.ord_nil ?_
          refine Rt.tree_op ?_
          have hv := (hI.out.vars _ _ (up_same _ _ _)).2
          obtain ⟨qa, ql, qc, qb, qn⟩ := id hv
          have cc := qb.cell
          have ff := qb.frozen
          clear qb qn
          apply ord_do rfl rfl rfl; (· (go_simp; with_reducible rfl)); (· (simp only [Act.put, Act.eval, List.setIfInBounds_toArray, List.set_cons_zero, List.set_cons_succ, Array.getD_eq_getD_getElem?, List.getElem?_toArray, List.getElem?_cons_zero, List.getElem?_cons_succ, Option.getD_some, List.getElem_toArray, List.getElem_cons_succ, List.getElem_cons_zero]; with_reducible rfl))
          clear cc ff
          have hI' := hI.out.set (up_same _ _ _) n0.out
          obtain ⟨x5, hx5⟩ : ∃ W, x4.setCell ⟨g9, 0, none⟩ (.slice none 0 0) = W := ⟨_, rfl⟩
          replace n2 := Lib.hid (n2.out.otherV hv (.slice none 0 0))
          replace n0 := Lib.hid (n0.out.otherV hv (.slice none 0 0))
          replace n1 := Lib.hid (n1.out.otherV hv (.slice none 0 0))
          replace n3 := Lib.hid (n3.out.otherV hv (.slice none 0 0))
          rw [hx5] at hI' n2 n0 n1 n3 ⊢
          replace hI := Lib.hid hI'
          clear hI' hx5 hv
          refine Rt.ord_nil ?_
          refine Rt.tree_op ?_
          have hv := (hI.out.vars _ _ ((up_other (by omega)).trans ((up_other (by omega)).trans (up_same _ _ _)))).2
          obtain ⟨qa, ql, qc, qb, qn⟩ := id hv
          have cc := qb.cell
          have ff := qb.frozen
          clear qb qn
          apply ord_do rfl rfl rfl; (· (go_simp; with_reducible rfl)); (· (simp only [Act.put, Act.eval, List.setIfInBounds_toArray, List.set_cons_zero, List.set_cons_succ, Array.getD_eq_getD_getElem?, List.getElem?_toArray, List.getElem?_cons_zero, List.getElem?_cons_succ, Option.getD_some, List.getElem_toArray, List.getElem_cons_succ, List.getElem_cons_zero]; with_reducible rfl))
          clear cc ff
          have hI' := hI.out.set ((up_other (by omega)).trans ((up_other (by omega)).trans (up_same _ _ _))) n3.out
          obtain ⟨x6, hx6⟩ : ∃ W, x5.setCell ⟨g10, 0, none⟩ (.slice v3a v3l v3c) = W := ⟨_, rfl⟩
          replace n2 := Lib.hid (n2.out.otherV hv (.slice v3a v3l v3c))
          replace n0 := Lib.hid (n0.out.otherV hv (.slice v3a v3l v3c))
          replace n1 := Lib.hid (n1.out.otherV hv (.slice v3a v3l v3c))
          replace n3 := Lib.hid (n3.out.otherV hv (.slice v3a v3l v3c))
          rw [hx6] at hI' n2 n0 n1 n3 ⊢
          replace hI := Lib.hid hI'
          clear hI' hx6 hv
          refine Rt.ord_nil ?_
          refine Rt.tree_fin ?_
          go_wp2_with fail
          go_meet
          case rel => exact ⟨g9, g10, _, rfl, rfl, hI, Lib.hid ⟨(up_other (by omega)).trans ((up_other (by omega)).trans ((up_other (by omega)).trans ((up_other (by omega)).trans (hsm)))), (up_other (by omega)).trans ((up_other (by omega)).trans ((up_other (by omega)).trans ((up_other (by omega)).trans (hs7)))), (up_other (by omega)).trans ((up_other (by omega)).trans ((up_other (by omega)).trans ((up_other (by omega)).trans (hs8)))), (up_other (by omega)).trans (up_same _ _ _), up_same _ _ _⟩, Lib.hid (by omega)⟩
    case rest =>
      obtain ⟨g9, g10, S, rfl, rfl, hI, hL, hnd⟩ := hcut
      go_wp2_with fail
      have hmp := Nat.pos_of_ne_zero hm0
      have ham := Nat.mod_lt a hmp
      have h1m := Nat.mod_lt 1 hmp
      go_loopg [] (a % m + 1) (fun k wr => ∃ (s : IV) (S : Nat → Option Nat), Hid (s.r < k ∧ ivRun m k s = F) ∧ Hid (St w wr (w.heap.size + 2) S) ∧ Hid (S (w.heap.size + 1) = some m ∧ S g7 = some s.old ∧ S g8 = some s.r ∧ S g9 = some s.had ∧ S g10 = some s.have_) ∧ Hid (s.old ≤ m ∧ s.r < m ∧ s.had < m ∧ s.have_ < m))
      case atStart => exact ⟨ivFirst a m, S, Lib.hid ⟨Nat.lt_succ_self _, hF⟩, hI, hL, Lib.hid ⟨Nat.le_refl _, ham, hmp, h1m⟩⟩
      case round =>
        obtain ⟨s, S, hk, hI, hL, hB⟩ := hrel
        obtain ⟨hsm, hs7, hs8, hs9, hs10⟩ := hL.out
        obtain ⟨hb7, hb8, hb9, hb10⟩ := hB.out
        have hoB : blen s.old ≤ 2048 := by rcases Nat.lt_or_eq_of_le hb7 with h | h; exact Nat.le_trans (blen_lt_le h) hmB; rw [h]; exact hmB
        have hrB : blen s.r ≤ 2048 := Nat.le_trans (blen_lt_le hb8) hmB
        have hhB : blen s.had ≤ 2048 := Nat.le_trans (blen_lt_le hb9) hmB
        have hvB : blen s.have_ ≤ 2048 := Nat.le_trans (blen_lt_le hb10) hmB
        obtain ⟨v8a, v8l, v8c, z8, n8⟩ := (hI.out.vars _ _ hs8).2
        replace z8 := z8.cell
        have hl8 := n8.len_zero
        replace n8 := Lib.hid n8
        clear hL hB
        by_cases hr0 : s.r = 0
        · have hl0 : v8l = 0 := hl8.2 hr0
          subst hl0
          have hFs : F = s := by
            obtain ⟨h1, h2⟩ := hk.out
            obtain ⟨n, rfl⟩ : ∃ n, gk = n + 1 := ⟨gk - 1, by omega⟩
            unfold ivRun at h2
            rw [if_pos hr0] at h2
            exact h2.symm
          subst hFs
          clear hl8 hk n8
          go_upto_region 13 with (fail)
          clear z8
          have hwb : Below wr.heap.size wr wr.drew := (Below.refl _ _).drew
          replace hI := Lib.hid (hI.out.below hwb)
          clear hwb
          refine Rt.wp_region_tree [1, 2, 2, 0] (.op 0 (.op 1 (.op 2 (.op 3 .fin)))) (by kernel_rfl) (by kernel_rfl) ?_
          obtain ⟨x0, hx0⟩ : ∃ W, wr.drew = W := ⟨_, rfl⟩
          rw [hx0] at hI ⊢
          clear hx0
          obtain ⟨v0a, v0l, v0c, z0, n0⟩ := (hI.out.vars _ _ (hs7)).2
          replace z0 := z0.cell
          replace n0 := Lib.hid n0
          refine Rt.tree_op ?_
          apply ord_read rfl rfl rfl; (· (intro W hW; have gg := cell_up hW z0; go_simp; with_reducible rfl)); (· (simp only [Act.put, Act.eval, List.setIfInBounds_toArray, List.set_cons_zero, List.set_cons_succ, Array.getD_eq_getD_getElem?, List.getElem?_toArray, List.getElem?_cons_zero, List.getElem?_cons_succ, Option.getD_some, List.getElem_toArray, List.getElem_cons_succ, List.getElem_cons_zero]; with_reducible rfl))
          clear z0
          refine Rt.ord_nil ?_
          refine Rt.tree_op ?_
          refine ord_call rfl rfl rfl (by go_simp; exact ⟨rfl, rfl⟩) ?_
          refine (Small_1 _).mono ?_
          rintro e x1 ⟨v1, rfl, n1, hb⟩
          obtain ⟨v1a, v1l, v1c, rfl⟩ := n1.shape
          refine ⟨_, rfl, hb, ?_⟩
          replace n1 := Lib.hid n1
          replace hI := Lib.hid (hI.out.below hb)
          replace n0 := Lib.hid (n0.out.below hb)
          clear hb
          simp only [Act.put, Act.eval, List.setIfInBounds_toArray, List.set_cons_zero, List.set_cons_succ, Array.getD_eq_getD_getElem?, List.getElem?_toArray, List.getElem?_cons_zero, List.getElem?_cons_succ, Option.getD_some, List.getElem_toArray, List.getElem_cons_succ, List.getElem_cons_zero]
          refine Rt.ord_nil ?_
          refine Rt.tree_op ?_
          refine ord_call rfl rfl rfl (by go_simp; exact ⟨rfl, rfl⟩) ?_
          refine (Cmp_N n0.out n1.out (Nat.le_trans hoB (by decide)) (by decide)).mono ?_
          rintro e x2 ⟨rfl, hb⟩
          refine ⟨_, rfl, hb, ?_⟩
          replace hI := Lib.hid (hI.out.below hb)
          replace n0 := Lib.hid (n0.out.below hb)
          replace n1 := Lib.hid (n1.out.below hb)
          clear hb
          simp only [Act.put, Act.eval, List.setIfInBounds_toArray, List.set_cons_zero, List.set_cons_succ, Array.getD_eq_getD_getElem?, List.getElem?_toArray, List.getElem?_cons_zero, List.getElem?_cons_succ, Option.getD_some, List.getElem_toArray, List.getElem_cons_succ, List.getElem_cons_zero]
          refine Rt.ord_nil ?_
          refine Rt.tree_op ?_
          apply ord_pure rfl rfl rfl; (· (intro w; go_simp; with_reducible rfl)); (· (simp only [Act.put, Act.eval, List.setIfInBounds_toArray, List.set_cons_zero, List.set_cons_succ, Array.getD_eq_getD_getElem?, List.getElem?_toArray, List.getElem?_cons_zero, List.getElem?_cons_succ, Option.getD_some, List.getElem_toArray, List.getElem_cons_succ, List.getElem_cons_zero]; with_reducible rfl))
          refine Rt.ord_nil ?_
          refine Rt.tree_fin ?_
          have hsH := Lib.hid (show True from trivial)
          obtain ⟨cv, hcv⟩ : ∃ z, cmpN F.old 1 = z := ⟨_, rfl⟩
          rw [hcv]
          clear n0 n1 hsH
          by_cases h1 : F.old = 1
          · have hcv0 : (cv != 0) = false := by rw [← hcv, h1]; decide
            clear hcv
            obtain ⟨v9a, v9l, v9c, z9, n9⟩ := (hI.out.vars _ _ hs9).2
            obtain ⟨vma, vml, vmc, zm, nm⟩ := (hI.out.vars _ _ hsm).2
            replace z9 := z9.cell
            replace zm := zm.cell
            have hMd := mod_N n9 nm (Nat.le_trans hhB (by decide)) (Nat.le_trans hmB (by decide))
            rw [show onDiv m (F.had % m) = F.had % m from by unfold onDiv; rw [if_neg hm0]] at hMd
            have hMdH := Lib.hid hMd
            clear hMd n9 nm
            go_wp2_with fail
            refine hMdH.out.mono ?_
            rintro e w5 ⟨r5, rfl, hn5, hb5⟩
            obtain ⟨a5, l5, c5, rfl⟩ := hn5.shape
            have hI5 := hI.out.below hb5
            have z3 := hI5.vr.cell
            have f3 := hI5.vr.frozen
            have hnH := Lib.hid hn5
            have hIH := Lib.hid hI5
            clear hn5 hI5 hb5 z9 zm hI hMdH
            go_wp2_with fail
            have r0 := (hIH.out.vr.set (.slice a5 l5 c5)).cell
            have hE := hIH.out.bel.setCell (p := ⟨w.heap.size + 2, 0, none⟩) (Nat.le_add_right _ _) (.slice a5 l5 c5)
            have hN3 := hnH.out.fresh hIH.out.vr (fun d h => by cases h) (.slice a5 l5 c5)
            obtain ⟨W3, hW3⟩ : ∃ W, w5.setCell ⟨w.heap.size + 2, 0, none⟩ (.slice a5 l5 c5) = W := ⟨_, rfl⟩
            rw [hW3] at r0 hE hN3 ⊢
            refine bodyPost_ret (v := .tuple #[.agg #[.slice a5 l5 c5], .int .i64 0]) (by simp [results, Tryd.results24, go_sem, r0]) rfl ⟨_, rfl, hN3, hE⟩
          · have hcv0 : (cv != 0) = true := by rw [← hcv]; unfold cmpN; split; decide; split; decide; omega
            clear hcv
            have z3 := hI.out.vr.cell
            have f3 := hI.out.vr.frozen
            obtain ⟨wf, hwf⟩ : ∃ W, x2 = W := ⟨_, rfl⟩
            rw [hwf] at hI z3 f3 ⊢
            go_wp2_with fail
            have r0 := (hI.out.vr.set (.slice none 0 0)).cell
            have hE := hI.out.bel.setCell (p := ⟨w.heap.size + 2, 0, none⟩) (Nat.le_add_right _ _) (.slice none 0 0)
            obtain ⟨W3, hW3⟩ : ∃ W, wf.setCell ⟨w.heap.size + 2, 0, none⟩ (.slice none 0 0) = W := ⟨_, rfl⟩
            rw [hW3] at r0 hE ⊢
            refine bodyPost_ret (v := .tuple #[.agg #[.slice none 0 0], .int .i64 13]) (by simp [results, Tryd.results24, go_sem, r0]) rfl ⟨_, rfl, NumAt.zero _, hE⟩
        · have hl0 : (0 : Int) < (v8l : Int) := by have := fun h => hr0 (hl8.1 h); omega
          have hrp := Nat.pos_of_ne_zero hr0
          obtain ⟨v7a, v7l, v7c, z7, n7⟩ := (hI.out.vars _ _ hs7).2
          replace z7 := z7.cell
          have hDv := Div_N n7 n8.out (Nat.le_trans hoB (by decide)) (Nat.le_trans hrB (by decide))
          rw [show divE s.r = 0 from by unfold divE; rw [if_neg hr0], show onDiv s.r (s.old % s.r) = s.old % s.r from by unfold onDiv; rw [if_neg hr0]] at hDv
          have hDH := Lib.hid hDv
          clear hDv n7 hl8 n8
          go_wp2_with fail
          refine hDH.out.mono ?_
          rintro e w3 ⟨r1, r2, rfl, hn1, hn2, hb3⟩
          obtain ⟨a1, l1, c1, rfl⟩ := hn1.shape
          obtain ⟨a2, l2, c2, rfl⟩ := hn2.shape
          have hI2 := hI.out.below hb3
          have hb4 : Below w3.heap.size w3 (w3.alloc (.cells #[.slice a1 l1 c1] 26)) := (Below.refl _ _).alloc (Nat.le_refl _) _
          have m_7 := hI2.lt hs7
          have m_8 := hI2.lt hs8
          have m_9 := hI2.lt hs9
          have m_10 := hI2.lt hs10
          have m_m := hI2.lt hsm
          replace hI2 := (hI2.add hn1).add (hn2.below hb4)
          rw [World.size_alloc] at hI2
          replace hI := Lib.hid hI2
          clear hI2 hb3 hb4 hn1 hn2 hDH z7 z8
          go_upto_region 8 with (fail)
          obtain ⟨wy, hwy⟩ : ∃ W, (w3.alloc (.cells #[.slice a1 l1 c1] 26)).alloc (.cells #[.slice a2 l2 c2] 26) = W := ⟨_, rfl⟩
          rw [hwy] at hI ⊢
          obtain ⟨g11, hg11⟩ : ∃ g, w3.heap.size = g := ⟨_, rfl⟩
          rw [hg11] at hI m_7 m_8 m_9 m_10 m_m ⊢
          obtain ⟨g12, hg12⟩ : ∃ g, g11 + 1 = g := ⟨_, rfl⟩
          rw [hg12] at hI ⊢
          obtain ⟨S2, hS2⟩ : ∃ T, up (up S g11 (s.old / s.r)) g12 (s.old % s.r) = T := ⟨_, rfl⟩
          rw [hS2] at hI
          have hT : Hid (S2 (w.heap.size + 1) = some m ∧ S2 g7 = some s.old ∧ S2 g8 = some s.r ∧ S2 g9 = some s.had ∧ S2 g10 = some s.have_ ∧ S2 g11 = some (s.old / s.r) ∧ S2 g12 = some (s.old % s.r)) := Lib.hid (by
            rw [← hS2]
            refine ⟨(up_other (by omega)).trans ((up_other (by omega)).trans hsm), (up_other (by omega)).trans ((up_other (by omega)).trans hs7), (up_other (by omega)).trans ((up_other (by omega)).trans hs8), (up_other (by omega)).trans ((up_other (by omega)).trans hs9), (up_other (by omega)).trans ((up_other (by omega)).trans hs10), (up_other (by omega)).trans (up_same _ _ _), up_same _ _ _⟩)
          have hnd2 : Hid (w.heap.size + 1 < g7 ∧ w.heap.size + 1 < g8 ∧ g7 ≠ g8 ∧ g7 < g9 ∧ g8 < g9 ∧ g7 < g10 ∧ g8 < g10 ∧ g9 ≠ g10 ∧ g9 < g11 ∧ g10 < g11 ∧ g11 < g12) := Lib.hid (by
            have hnd' := hnd.out
            omega)
          clear hwy hg11 hg12 hS2 m_7 m_8 m_9 m_10 m_m hsm hs7 hs8 hs9 hs10
          have hqB : blen (s.old / s.r) ≤ 2048 := by
            have : s.old / s.r ≤ m := Nat.le_trans (Nat.div_le_self _ _) hb7
            rcases Nat.lt_or_eq_of_le this with h | h
            · exact Nat.le_trans (blen_lt_le h) hmB
            · rw [h]; exact hmB
          have hm3 : onDiv m (s.old / s.r * s.have_ % m) = s.old / s.r * s.have_ % m := by unfold onDiv; rw [if_neg hm0]
          go_cut [14] from 31 to 63 (fun s14 wx => ∃ (g14 : Nat) (S : Nat → Option Nat), s14 = .pointer (some ⟨g14, 0, none⟩) ∧ Hid (St w wx (w.heap.size + 2) S) ∧ Hid (S (w.heap.size + 1) = some m ∧ S g7 = some s.old ∧ S g8 = some s.r ∧ S g9 = some s.had ∧ S g10 = some s.have_ ∧ S g11 = some (s.old / s.r) ∧ S g12 = some (s.old % s.r) ∧ S g14 = some (s.old / s.r * s.have_ % m)) ∧ Hid (w.heap.size + 1 < g7 ∧ w.heap.size + 1 < g8 ∧ g7 ≠ g8 ∧ g7 < g9 ∧ g8 < g9 ∧ g7 < g10 ∧ g8 < g10 ∧ g9 ≠ g10 ∧ g9 < g11 ∧ g10 < g11 ∧ g11 < g12 ∧ g12 < g14))
          case first =>
            obtain ⟨hsm, hs7, hs8, hs9, hs10, hs11, hs12⟩ := hT.out
            have hnd' := hnd2.out
            have hwb : Below wy.heap.size wy wy.drew := (Below.refl _ _).drew
            replace hI := Lib.hid (hI.out.below hwb)
            clear hwb
            refine Rt.wp_region_tree [1, 1, 2, 1, 2, 2, 3] (.op 0 (.op 1 (.op 3 (.two 2 (.two 4 (.op 5 (.op 6 .fin)) 5 (.op 4 (.op 6 .fin))) 5 (.op 2 (.op 4 (.op 6 .fin))))))) (by kernel_rfl) (by kernel_rfl) ?_
            obtain ⟨x0, hx0⟩ : ∃ W, wy.drew = W := ⟨_, rfl⟩
            rw [hx0] at hI ⊢
            clear hx0
            obtain ⟨v0a, v0l, v0c, z0, n0⟩ := (hI.out.vars _ _ (hs11)).2
            replace z0 := z0.cell
            replace n0 := Lib.hid n0
            obtain ⟨v1a, v1l, v1c, z1, n1⟩ := (hI.out.vars _ _ (hs10)).2
            replace z1 := z1.cell
            replace n1 := Lib.hid n1
            obtain ⟨v3a, v3l, v3c, z3, n3⟩ := (hI.out.vars _ _ (hsm)).2
            replace z3 := z3.cell
            replace n3 := Lib.hid n3
            refine Rt.tree_op ?_
            apply ord_read rfl rfl rfl; (· (intro W hW; have gg := cell_up hW z0; go_simp; with_reducible rfl)); (· (simp only [Act.put, Act.eval, List.setIfInBounds_toArray, List.set_cons_zero, List.set_cons_succ, Array.getD_eq_getD_getElem?, List.getElem?_toArray, List.getElem?_cons_zero, List.getElem?_cons_succ, Option.getD_some, List.getElem_toArray, List.getElem_cons_succ, List.getElem_cons_zero]; with_reducible rfl))
            clear z0
            refine Rt.ord_nil ?_
            refine Rt.tree_op ?_
            apply ord_read rfl rfl rfl; (· (intro W hW; have gg := cell_up hW z1; go_simp; with_reducible rfl)); (· (simp only [Act.put, Act.eval, List.setIfInBounds_toArray, List.set_cons_zero, List.set_cons_succ, Array.getD_eq_getD_getElem?, List.getElem?_toArray, List.getElem?_cons_zero, List.getElem?_cons_succ, Option.getD_some, List.getElem_toArray, List.getElem_cons_succ, List.getElem_cons_zero]; with_reducible rfl))
            clear z1
            refine Rt.ord_nil ?_
            refine Rt.tree_op ?_
            apply ord_read rfl rfl rfl; (· (intro W hW; have gg := cell_up hW z3; go_simp; with_reducible rfl)); (· (simp only [Act.put, Act.eval, List.setIfInBounds_toArray, List.set_cons_zero, List.set_cons_succ, Array.getD_eq_getD_getElem?, List.getElem?_toArray, List.getElem?_cons_zero, List.getElem?_cons_succ, Option.getD_some, List.getElem_toArray, List.getElem_cons_succ, List.getElem_cons_zero]; with_reducible rfl))
            clear z3
            refine Rt.ord_nil ?_
            refine Rt.tree_two ?_ ?_
            · refine ord_call rfl rfl rfl (by go_simp; exact ⟨rfl, rfl⟩) ?_
              refine (mul_N n0.out n1.out (Nat.le_trans hqB (by decide)) (Nat.le_trans hvB (by decide))).mono ?_
              rintro e x1 ⟨v2, rfl, n2, hb⟩
              obtain ⟨v2a, v2l, v2c, rfl⟩ := n2.shape
              refine ⟨_, rfl, hb, ?_⟩
              replace n2 := Lib.hid n2
              replace hI := Lib.hid (hI.out.below hb)
              replace n0 := Lib.hid (n0.out.below hb)
              replace n1 := Lib.hid (n1.out.below hb)
              replace n3 := Lib.hid (n3.out.below hb)
              clear hb
              simp only [Act.put, Act.eval, List.setIfInBounds_toArray, List.set_cons_zero, List.set_cons_succ, Array.getD_eq_getD_getElem?, List.getElem?_toArray, List.getElem?_cons_zero, List.getElem?_cons_succ, Option.getD_some, List.getElem_toArray, List.getElem_cons_succ, List.getElem_cons_zero]
              refine Rt.ord_nil ?_
              refine Rt.tree_two ?_ ?_
              · refine ord_call rfl rfl rfl (by go_simp; exact ⟨rfl, rfl⟩) ?_
                refine (mod_N n2.out n3.out (Nat.le_trans (blen_mul _ _) (by omega)) (Nat.le_trans hmB (by decide))).mono ?_
                rintro e x2 ⟨v4, rfl, n4, hb⟩
                obtain ⟨v4a, v4l, v4c, rfl⟩ := n4.shape
                refine ⟨_, rfl, hb, ?_⟩
                rw [hm3] at n4
                replace n4 := Lib.hid n4
                replace hI := Lib.hid (hI.out.below hb)
                replace n0 := Lib.hid (n0.out.below hb)
                replace n1 := Lib.hid (n1.out.below hb)
                replace n3 := Lib.hid (n3.out.below hb)
                replace n2 := Lib.hid (n2.out.below hb)
                clear hb
                simp only [Act.put, Act.eval, List.setIfInBounds_toArray, List.set_cons_zero, List.set_cons_succ, Array.getD_eq_getD_getElem?, List.getElem?_toArray, List.getElem?_cons_zero, List.getElem?_cons_succ, Option.getD_some, List.getElem_toArray, List.getElem_cons_succ, List.getElem_cons_zero]
                refine Rt.ord_nil ?_
                refine Rt.tree_op ?_
                apply ord_new rfl rfl rfl; (· (go_simp; exact ⟨rfl, rfl⟩)); (· (exact (Below.refl _ _).alloc (Nat.le_refl _) _)); (· (simp only [Act.put, Act.eval, List.setIfInBounds_toArray, List.set_cons_zero, List.set_cons_succ, Array.getD_eq_getD_getElem?, List.getElem?_toArray, List.getElem?_cons_zero, List.getElem?_cons_succ, Option.getD_some, List.getElem_toArray, List.getElem_cons_succ, List.getElem_cons_zero]; with_reducible rfl))
                have hb : Below x2.heap.size x2 (x2.alloc (.cells #[.slice none 0 0] 26)) := (Below.refl _ _).alloc (Nat.le_refl _) _
                have hI' := hI.out.add (NumAt.zero x2)
                have lt_wheapsizep1_g14 := hI.out.lt (hsm)
                have lt_g7_g14 := hI.out.lt (hs7)
                have lt_g8_g14 := hI.out.lt (hs8)
                have lt_g9_g14 := hI.out.lt (hs9)
                have lt_g10_g14 := hI.out.lt (hs10)
                have lt_g11_g14 := hI.out.lt (hs11)
                have lt_g12_g14 := hI.out.lt (hs12)
                obtain ⟨x3, hx3⟩ : ∃ W, x2.alloc (.cells #[.slice none 0 0] 26) = W := ⟨_, rfl⟩
                rw [hx3] at hI' hb ⊢
                replace n0 := Lib.hid (n0.out.below hb)
                replace n1 := Lib.hid (n1.out.below hb)
                replace n3 := Lib.hid (n3.out.below hb)
                replace n2 := Lib.hid (n2.out.below hb)
                replace n4 := Lib.hid (n4.out.below hb)
                obtain ⟨g14, hhg14⟩ : ∃ g, x2.heap.size = g := ⟨_, rfl⟩
                rw [hhg14] at hI' lt_wheapsizep1_g14 lt_g7_g14 lt_g8_g14 lt_g9_g14 lt_g10_g14 lt_g11_g14 lt_g12_g14 ⊢
                replace hI := Lib.hid hI'
                clear hb hI' hx3 hhg14
                refine Rt.ord_nil ?_
                refine Rt.tree_op ?_
                have hv := (hI.out.vars _ _ (up_same _ _ _)).2
                obtain ⟨qa, ql, qc, qb, qn⟩ := id hv
                have cc := qb.cell
                have ff := qb.frozen
                clear qb qn
                apply ord_do rfl rfl rfl; (· (go_simp; with_reducible rfl)); (· (simp only [Act.put, Act.eval, List.setIfInBounds_toArray, List.set_cons_zero, List.set_cons_succ, Array.getD_eq_getD_getElem?, List.getElem?_toArray, List.getElem?_cons_zero, List.getElem?_cons_succ, Option.getD_some, List.getElem_toArray, List.getElem_cons_succ, List.getElem_cons_zero]; with_reducible rfl))
                clear cc ff
                have hI' := hI.out.set (up_same _ _ _) n4.out
                obtain ⟨x4, hx4⟩ : ∃ W, x3.setCell ⟨g14, 0, none⟩ (.slice v4a v4l v4c) = W := ⟨_, rfl⟩
                replace n0 := Lib.hid (n0.out.otherV hv (.slice v4a v4l v4c))
                replace n1 := Lib.hid (n1.out.otherV hv (.slice v4a v4l v4c))
                replace n3 := Lib.hid (n3.out.otherV hv (.slice v4a v4l v4c))
                replace n2 := Lib.hid (n2.out.otherV hv (.slice v4a v4l v4c))
                replace n4 := Lib.hid (n4.out.otherV hv (.slice v4a v4l v4c))
                rw [hx4] at hI' n0 n1 n3 n2 n4 ⊢
                replace hI := Lib.hid hI'
                clear hI' hx4 hv
                refine Rt.ord_nil ?_
                refine Rt.tree_fin ?_
                go_wp2_with fail
                go_meet
                case rel => exact ⟨g14, _, rfl, hI, Lib.hid ⟨(up_other (by omega)).trans ((up_other (by omega)).trans (hsm)), (up_other (by omega)).trans ((up_other (by omega)).trans (hs7)), (up_other (by omega)).trans ((up_other (by omega)).trans (hs8)), (up_other (by omega)).trans ((up_other (by omega)).trans (hs9)), (up_other (by omega)).trans ((up_other (by omega)).trans (hs10)), (up_other (by omega)).trans ((up_other (by omega)).trans (hs11)), (up_other (by omega)).trans ((up_other (by omega)).trans (hs12)), up_same _ _ _⟩, Lib.hid (by omega)⟩
              · apply ord_new rfl rfl rfl; (· (go_simp; exact ⟨rfl, rfl⟩)); (· (exact (Below.refl _ _).alloc (Nat.le_refl _) _)); (· (simp only [Act.put, Act.eval, List.setIfInBounds_toArray, List.set_cons_zero, List.set_cons_succ, Array.getD_eq_getD_getElem?, List.getElem?_toArray, List.getElem?_cons_zero, List.getElem?_cons_succ, Option.getD_some, List.getElem_toArray, List.getElem_cons_succ, List.getElem_cons_zero]; with_reducible rfl))
                have hb : Below x1.heap.size x1 (x1.alloc (.cells #[.slice none 0 0] 26)) := (Below.refl _ _).alloc (Nat.le_refl _) _
                have hI' := hI.out.add (NumAt.zero x1)
                have lt_wheapsizep1_g14 := hI.out.lt (hsm)
                have lt_g7_g14 := hI.out.lt (hs7)
                have lt_g8_g14 := hI.out.lt (hs8)
                have lt_g9_g14 := hI.out.lt (hs9)
                have lt_g10_g14 := hI.out.lt (hs10)
                have lt_g11_g14 := hI.out.lt (hs11)
                have lt_g12_g14 := hI.out.lt (hs12)
                obtain ⟨x2, hx2⟩ : ∃ W, x1.alloc (.cells #[.slice none 0 0] 26) = W := ⟨_, rfl⟩
                rw [hx2] at hI' hb ⊢
                replace n0 := Lib.hid (n0.out.below hb)
                replace n1 := Lib.hid (n1.out.below hb)
                replace n3 := Lib.hid (n3.out.below hb)
                replace n2 := Lib.hid (n2.out.below hb)
                obtain ⟨g14, hhg14⟩ : ∃ g, x1.heap.size = g := ⟨_, rfl⟩
                rw [hhg14] at hI' lt_wheapsizep1_g14 lt_g7_g14 lt_g8_g14 lt_g9_g14 lt_g10_g14 lt_g11_g14 lt_g12_g14 ⊢
                replace hI := Lib.hid hI'
                clear hb hI' hx2 hhg14
                refine Rt.ord_nil ?_
                refine Rt.tree_op ?_
                refine ord_call rfl rfl rfl (by go_simp; exact ⟨rfl, rfl⟩) ?_
                refine (mod_N n2.out n3.out (Nat.le_trans (blen_mul _ _) (by omega)) (Nat.le_trans hmB (by decide))).mono ?_
                rintro e x3 ⟨v4, rfl, n4, hb⟩
                obtain ⟨v4a, v4l, v4c, rfl⟩ := n4.shape
                refine ⟨_, rfl, hb, ?_⟩
                rw [hm3] at n4
                replace n4 := Lib.hid n4
                replace hI := Lib.hid (hI.out.below hb)
                replace n0 := Lib.hid (n0.out.below hb)
                replace n1 := Lib.hid (n1.out.below hb)
                replace n3 := Lib.hid (n3.out.below hb)
                replace n2 := Lib.hid (n2.out.below hb)
                clear hb
                simp only [Act.put, Act.eval, List.setIfInBounds_toArray, List.set_cons_zero, List.set_cons_succ, Array.getD_eq_getD_getElem?, List.getElem?_toArray, List.getElem?_cons_zero, List.getElem?_cons_succ, Option.getD_some, List.getElem_toArray, List.getElem_cons_succ, List.getElem_cons_zero]
                refine Rt.ord_nil ?_
                refine Rt.tree_op ?_
                have hv := (hI.out.vars _ _ (up_same _ _ _)).2
                obtain ⟨qa, ql, qc, qb, qn⟩ := id hv
                have cc := qb.cell
                have ff := qb.frozen
                clear qb qn
                apply ord_do rfl rfl rfl; (· (go_simp; with_reducible rfl)); (· (simp only [Act.put, Act.eval, List.setIfInBounds_toArray, List.set_cons_zero, List.set_cons_succ, Array.getD_eq_getD_getElem?, List.getElem?_toArray, List.getElem?_cons_zero, List.getElem?_cons_succ, Option.getD_some, List.getElem_toArray, List.getElem_cons_succ, List.getElem_cons_zero]; with_reducible rfl))
                clear cc ff
                have hI' := hI.out.set (up_same _ _ _) n4.out
                obtain ⟨x4, hx4⟩ : ∃ W, x3.setCell ⟨g14, 0, none⟩ (.slice v4a v4l v4c) = W := ⟨_, rfl⟩
                replace n0 := Lib.hid (n0.out.otherV hv (.slice v4a v4l v4c))
                replace n1 := Lib.hid (n1.out.otherV hv (.slice v4a v4l v4c))
                replace n3 := Lib.hid (n3.out.otherV hv (.slice v4a v4l v4c))
                replace n2 := Lib.hid (n2.out.otherV hv (.slice v4a v4l v4c))
                replace n4 := Lib.hid (n4.out.otherV hv (.slice v4a v4l v4c))
                rw [hx4] at hI' n0 n1 n3 n2 n4 ⊢
                replace hI := Lib.hid hI'
                clear hI' hx4 hv
                refine Rt.ord_nil ?_
                refine Rt.tree_fin ?_
                go_wp2_with fail
                go_meet
                case rel => exact ⟨g14, _, rfl, hI, Lib.hid ⟨(up_other (by omega)).trans ((up_other (by omega)).trans (hsm)), (up_other (by omega)).trans ((up_other (by omega)).trans (hs7)), (up_other (by omega)).trans ((up_other (by omega)).trans (hs8)), (up_other (by omega)).trans ((up_other (by omega)).trans (hs9)), (up_other (by omega)).trans ((up_other (by omega)).trans (hs10)), (up_other (by omega)).trans ((up_other (by omega)).trans (hs11)), (up_other (by omega)).trans ((up_other (by omega)).trans (hs12)), up_same _ _ _⟩, Lib.hid (by omega)⟩
            · apply ord_new rfl rfl rfl; (· (go_simp; exact ⟨rfl, rfl⟩)); (· (exact (Below.refl _ _).alloc (Nat.le_refl _) _)); (· (simp only [Act.put, Act.eval, List.setIfInBounds_toArray, List.set_cons_zero, List.set_cons_succ, Array.getD_eq_getD_getElem?, List.getElem?_toArray, List.getElem?_cons_zero, List.getElem?_cons_succ, Option.getD_some, List.getElem_toArray, List.getElem_cons_succ, List.getElem_cons_zero]; with_reducible rfl))
              have hb : Below x0.heap.size x0 (x0.alloc (.cells #[.slice none 0 0] 26)) := (Below.refl _ _).alloc (Nat.le_refl _) _
              have hI' := hI.out.add (NumAt.zero x0)
              have lt_wheapsizep1_g14 := hI.out.lt (hsm)
              have lt_g7_g14 := hI.out.lt (hs7)
              have lt_g8_g14 := hI.out.lt (hs8)
              have lt_g9_g14 := hI.out.lt (hs9)
              have lt_g10_g14 := hI.out.lt (hs10)
              have lt_g11_g14 := hI.out.lt (hs11)
              have lt_g12_g14 := hI.out.lt (hs12)
              obtain ⟨x1, hx1⟩ : ∃ W, x0.alloc (.cells #[.slice none 0 0] 26) = W := ⟨_, rfl⟩
              rw [hx1] at hI' hb ⊢
              replace n0 := Lib.hid (n0.out.below hb)
              replace n1 := Lib.hid (n1.out.below hb)
              replace n3 := Lib.hid (n3.out.below hb)
              obtain ⟨g14, hhg14⟩ : ∃ g, x0.heap.size = g := ⟨_, rfl⟩
              rw [hhg14] at hI' lt_wheapsizep1_g14 lt_g7_g14 lt_g8_g14 lt_g9_g14 lt_g10_g14 lt_g11_g14 lt_g12_g14 ⊢
              replace hI := Lib.hid hI'
              clear hb hI' hx1 hhg14
              refine Rt.ord_nil ?_
              refine Rt.tree_op ?_
              refine ord_call rfl rfl rfl (by go_simp; exact ⟨rfl, rfl⟩) ?_
              refine (mul_N n0.out n1.out (Nat.le_trans hqB (by decide)) (Nat.le_trans hvB (by decide))).mono ?_
              rintro e x2 ⟨v2, rfl, n2, hb⟩
              obtain ⟨v2a, v2l, v2c, rfl⟩ := n2.shape
              refine ⟨_, rfl, hb, ?_⟩
              replace n2 := Lib.hid n2
              replace hI := Lib.hid (hI.out.below hb)
              replace n0 := Lib.hid (n0.out.below hb)
              replace n1 := Lib.hid (n1.out.below hb)
              replace n3 := Lib.hid (n3.out.below hb)
              clear hb
              simp only [Act.put, Act.eval, List.setIfInBounds_toArray, List.set_cons_zero, List.set_cons_succ, Array.getD_eq_getD_getElem?, List.getElem?_toArray, List.getElem?_cons_zero, List.getElem?_cons_succ, Option.getD_some, List.getElem_toArray, List.getElem_cons_succ, List.getElem_cons_zero]
              refine Rt.ord_nil ?_
              refine Rt.tree_op ?_
              refine ord_call rfl rfl rfl (by go_simp; exact ⟨rfl, rfl⟩) ?_
              refine (mod_N n2.out n3.out (Nat.le_trans (blen_mul _ _) (by omega)) (Nat.le_trans hmB (by decide))).mono ?_
              rintro e x3 ⟨v4, rfl, n4, hb⟩
              obtain ⟨v4a, v4l, v4c, rfl⟩ := n4.shape
              refine ⟨_, rfl, hb, ?_⟩
              rw [hm3] at n4
              replace n4 := Lib.hid n4
              replace hI := Lib.hid (hI.out.below hb)
              replace n0 := Lib.hid (n0.out.below hb)
              replace n1 := Lib.hid (n1.out.below hb)
              replace n3 := Lib.hid (n3.out.below hb)
              replace n2 := Lib.hid (n2.out.below hb)
              clear hb
              simp only [Act.put, Act.eval, List.setIfInBounds_toArray, List.set_cons_zero, List.set_cons_succ, Array.getD_eq_getD_getElem?, List.getElem?_toArray, List.getElem?_cons_zero, List.getElem?_cons_succ, Option.getD_some, List.getElem_toArray, List.getElem_cons_succ, List.getElem_cons_zero]
              refine Rt.ord_nil ?_
              refine Rt.tree_op ?_
              have hv := (hI.out.vars _ _ (up_same _ _ _)).2
              obtain ⟨qa, ql, qc, qb, qn⟩ := id hv
              have cc := qb.cell
              have ff := qb.frozen
              clear qb qn
              apply ord_do rfl rfl rfl; (· (go_simp; with_reducible rfl)); (· (simp only [Act.put, Act.eval, List.setIfInBounds_toArray, List.set_cons_zero, List.set_cons_succ, Array.getD_eq_getD_getElem?, List.getElem?_toArray, List.getElem?_cons_zero, List.getElem?_cons_succ, Option.getD_some, List.getElem_toArray, List.getElem_cons_succ, List.getElem_cons_zero]; with_reducible rfl))
              clear cc ff
              have hI' := hI.out.set (up_same _ _ _) n4.out
              obtain ⟨x4, hx4⟩ : ∃ W, x3.setCell ⟨g14, 0, none⟩ (.slice v4a v4l v4c) = W := ⟨_, rfl⟩
              replace n0 := Lib.hid (n0.out.otherV hv (.slice v4a v4l v4c))
              replace n1 := Lib.hid (n1.out.otherV hv (.slice v4a v4l v4c))
              replace n3 := Lib.hid (n3.out.otherV hv (.slice v4a v4l v4c))
              replace n2 := Lib.hid (n2.out.otherV hv (.slice v4a v4l v4c))
              replace n4 := Lib.hid (n4.out.otherV hv (.slice v4a v4l v4c))
              rw [hx4] at hI' n0 n1 n3 n2 n4 ⊢
              replace hI := Lib.hid hI'
              clear hI' hx4 hv
              refine Rt.ord_nil ?_
              refine Rt.tree_fin ?_
              go_wp2_with fail
              go_meet
              case rel => exact ⟨g14, _, rfl, hI, Lib.hid ⟨(up_other (by omega)).trans ((up_other (by omega)).trans (hsm)), (up_other (by omega)).trans ((up_other (by omega)).trans (hs7)), (up_other (by omega)).trans ((up_other (by omega)).trans (hs8)), (up_other (by omega)).trans ((up_other (by omega)).trans (hs9)), (up_other (by omega)).trans ((up_other (by omega)).trans (hs10)), (up_other (by omega)).trans ((up_other (by omega)).trans (hs11)), (up_other (by omega)).trans ((up_other (by omega)).trans (hs12)), up_same _ _ _⟩, Lib.hid (by omega)⟩
          case rest =>
            clear hI hT hnd2
            obtain ⟨g14, S3, rfl, hI, hL, hnd3⟩ := hcut
            obtain ⟨t, ht⟩ : ∃ t, s.old / s.r * s.have_ % m = t := ⟨_, rfl⟩
            have htm : t < m := by rw [← ht]; exact Nat.mod_lt _ hmp
            have htB : blen t ≤ 2048 := Nat.le_trans (blen_lt_le htm) hmB
            rw [ht] at hL
            have htH := Lib.hid ht
            clear ht hm3
            have hnd' := hnd3.out
            have hndH := Lib.hid hnd'
            obtain ⟨v9a, v9l, v9c, z9, n9⟩ := (hI.out.vars _ _ hL.out.2.2.2.1).2
            obtain ⟨v14a, v14l, v14c, z14, n14⟩ := (hI.out.vars _ _ hL.out.2.2.2.2.2.2.2).2
            replace z9 := z9.cell
            replace z14 := z14.cell
            have hCm := Cmp_N n9 n14 (Nat.le_trans hhB (by decide)) (Nat.le_trans htB (by decide))
            obtain ⟨cv, hcv⟩ : ∃ z, cmpN s.had t = z := ⟨_, rfl⟩
            rw [hcv] at hCm
            have hCmH := Lib.hid hCm
            clear hCm n9 n14 hnd'
            by_cases hlt : s.had < t
            · have hcv0 : cv < 0 := by rw [← hcv]; unfold cmpN; rw [if_pos hlt]; decide
              clear hcv
              go_upto_region 10 with (go_at_call 21; refine hCmH.out.mono ?_; rintro e w4 ⟨rfl, hb4⟩; replace hI := Lib.hid (hI.out.below hb4); clear hb4 z9 z14)
              obtain ⟨v9a, v9l, v9c, z9, n9⟩ := (hI.out.vars _ _ hL.out.2.2.2.1).2
              obtain ⟨vma, vml, vmc, zm, nm⟩ := (hI.out.vars _ _ hL.out.1).2
              replace z9 := z9.cell
              replace zm := zm.cell
              have hAd := Lib.hid (add_N n9 nm (Nat.le_trans hhB (by decide)) (Nat.le_trans hmB (by decide)))
              clear n9 nm hCmH
              go_wp2_with fail
              refine hAd.out.mono ?_
              rintro e w5 ⟨r5, rfl, hn5, hb5⟩
              obtain ⟨a5, l5, c5, rfl⟩ := hn5.shape
              replace hI := Lib.hid (hI.out.below hb5)
              obtain ⟨v9a', v9l', v9c', y9, n9⟩ := (hI.out.vars _ _ hL.out.2.2.2.1).2
              have z9' := y9.cell
              have f9' := y9.frozen
              have hI' := hI.out.set hL.out.2.2.2.1 hn5
              clear n9 y9 hb5 z9 zm hAd
              go_upto_region 11 with (fail)
              obtain ⟨wt, hwt⟩ : ∃ W, w5.setCell ⟨g9, 0, none⟩ (.slice a5 l5 c5) = W := ⟨_, rfl⟩
              rw [hwt] at hI' ⊢
              obtain ⟨S4, hS4⟩ : ∃ T, up S3 g9 (s.had + m) = T := ⟨_, rfl⟩
              rw [hS4] at hI'
              have hL4 : Hid (S4 (w.heap.size + 1) = some m ∧ S4 g7 = some s.old ∧ S4 g8 = some s.r ∧ S4 g9 = some (s.had + m) ∧ S4 g10 = some s.have_ ∧ S4 g11 = some (s.old / s.r) ∧ S4 g12 = some (s.old % s.r) ∧ S4 g14 = some t) := Lib.hid (by
                have hnd' := hndH.out
                obtain ⟨h1, h2, h3, h4, h5, h6, h7, h8⟩ := hL.out
                rw [← hS4]
                exact ⟨(up_other (by omega)).trans h1, (up_other (by omega)).trans h2, (up_other (by omega)).trans h3, up_same _ _ _, (up_other (by omega)).trans h5, (up_other (by omega)).trans h6, (up_other (by omega)).trans h7, (up_other (by omega)).trans h8⟩)
              clear hI hL hn5 hwt hS4 z9' f9'
              have hI := Lib.hid hI'
              clear hI'
              obtain ⟨hp, hhp⟩ : ∃ z, s.had + m = z := ⟨_, rfl⟩
              rw [hhp] at hL4
              have hpv : Hid ((if s.had < t then s.had + m else s.had) = hp) := Lib.hid (by rw [if_pos hlt]; exact hhp)
              have hpt : ¬ hp < t := by omega
              have hpB : blen hp ≤ 5000 := by rw [← hhp]; exact Nat.le_trans (blen_add _ _) (by omega)
              clear hhp hlt
              obtain ⟨v9a, v9l, v9c, z9, n9⟩ := (hI.out.vars _ _ hL4.out.2.2.2.1).2
              obtain ⟨v14a, v14l, v14c, z14, n14⟩ := (hI.out.vars _ _ hL4.out.2.2.2.2.2.2.2).2
              replace z9 := z9.cell
              replace z14 := z14.cell
              have hSb := Sub_N n9 n14 (Nat.le_trans hpB (by decide)) (Nat.le_trans htB (by decide))
              rw [if_neg hpt] at hSb
              have hSbH := Lib.hid hSb
              clear hSb n9 n14
              go_wp2_with fail
              refine hSbH.out.mono ?_
              rintro e w6 ⟨r6, rfl, hn6, hb6⟩
              obtain ⟨a6, l6, c6, rfl⟩ := hn6.shape
              have hI6 := hI.out.below hb6
              have m_7 := hI6.lt hL4.out.2.1
              have m_8 := hI6.lt hL4.out.2.2.1
              have m_9 := hI6.lt hL4.out.2.2.2.1
              have m_10 := hI6.lt hL4.out.2.2.2.2.1
              have m_12 := hI6.lt hL4.out.2.2.2.2.2.2.1
              have m_14 := hI6.lt hL4.out.2.2.2.2.2.2.2
              have m_m := hI6.lt hL4.out.1
              replace hI6 := hI6.add hn6
              clear z9 z14 hSbH hb6 hn6
              go_upto_region 12 with (fail)
              obtain ⟨w7, hw7⟩ : ∃ W, w6.alloc (.cells #[.slice a6 l6 c6] 26) = W := ⟨_, rfl⟩
              rw [hw7] at hI6 ⊢
              obtain ⟨g15, hg15⟩ : ∃ g, w6.heap.size = g := ⟨_, rfl⟩
              rw [hg15] at hI6 m_7 m_8 m_9 m_10 m_12 m_14 m_m ⊢
              obtain ⟨S5, hS5⟩ : ∃ T, up S4 g15 (hp - t) = T := ⟨_, rfl⟩
              rw [hS5] at hI6
              have hL5 : Hid (S5 (w.heap.size + 1) = some m ∧ S5 g7 = some s.old ∧ S5 g8 = some s.r ∧ S5 g9 = some hp ∧ S5 g10 = some s.have_ ∧ S5 g12 = some (s.old % s.r) ∧ S5 g15 = some (hp - t)) := Lib.hid (by
                obtain ⟨h1, h2, h3, h4, h5, h6, h7, h8⟩ := hL4.out
                rw [← hS5]
                exact ⟨(up_other (by omega)).trans h1, (up_other (by omega)).trans h2, (up_other (by omega)).trans h3, (up_other (by omega)).trans h4, (up_other (by omega)).trans h5, (up_other (by omega)).trans h7, up_same _ _ _⟩)
              have hwb : Below w7.heap.size w7 w7.drew := (Below.refl _ _).drew
              replace hI6 := hI6.below hwb
              obtain ⟨w8, hw8⟩ : ∃ W, w7.drew = W := ⟨_, rfl⟩
              rw [hw8] at hI6
              have hnd5 := Lib.hid (show g14 < g15 from m_14)
              clear hwb hI hL4 hw7 hg15 hS5 m_7 m_8 m_9 m_10 m_12 m_14 m_m
              obtain ⟨v7a, v7l, v7c, y7, n7⟩ := (hI6.vars _ _ hL5.out.2.1).2
              obtain ⟨v8a, v8l, v8c, y8, n8⟩ := (hI6.vars _ _ hL5.out.2.2.1).2
              obtain ⟨v9a, v9l, v9c, y9, n9⟩ := (hI6.vars _ _ hL5.out.2.2.2.1).2
              obtain ⟨v10a, v10l, v10c, y10, n10⟩ := (hI6.vars _ _ hL5.out.2.2.2.2.1).2
              obtain ⟨v12a, v12l, v12c, y12, n12⟩ := (hI6.vars _ _ hL5.out.2.2.2.2.2.1).2
              obtain ⟨v15a, v15l, v15c, y15, n15⟩ := (hI6.vars _ _ hL5.out.2.2.2.2.2.2).2
              have q7 := (hI6.vars _ _ hL5.out.2.1).2
              have hJ7 := hI6.set hL5.out.2.1 n8
              have k8 := (hJ7.vars _ _ ((up_other (by have := hndH.out; omega)).trans hL5.out.2.2.1)).2
              have hJ8 := hJ7.set ((up_other (by have := hndH.out; omega)).trans hL5.out.2.2.1) (n12.otherV q7 (.slice v8a v8l v8c))
              have k9 := (hJ8.vars _ _ ((up_other (by have := hndH.out; omega)).trans ((up_other (by have := hndH.out; omega)).trans hL5.out.2.2.2.1))).2
              have hJ9 := hJ8.set ((up_other (by have := hndH.out; omega)).trans ((up_other (by have := hndH.out; omega)).trans hL5.out.2.2.2.1)) ((n10.otherV q7 (.slice v8a v8l v8c)).otherV k8 (.slice v12a v12l v12c))
              have hJ10 := Lib.hid (hJ9.set ((up_other (by have := hndH.out; omega)).trans ((up_other (by have := hndH.out; omega)).trans ((up_other (by have := hndH.out; omega)).trans hL5.out.2.2.2.2.1))) (((n15.otherV q7 (.slice v8a v8l v8c)).otherV k8 (.slice v12a v12l v12c)).otherV k9 (.slice v10a v10l v10c)))
              have z7 := y7.cell
              have z8 := y8.cell
              have z9 := y9.cell
              have z10 := y10.cell
              have z12 := y12.cell
              have z15 := y15.cell
              have f7 := y7.frozen
              have f8 := y8.frozen
              have f9 := y9.frozen
              have f10 := y10.frozen
              clear y7 y8 y9 y10 y12 y15 n7 n8 n9 n10 n12 n15 q7 hJ7 k8 hJ8 k9 hJ9 hI6
              have e_g7_g8 : g7 ≠ g8 := by have := hndH.out; have := hnd5.out; omega
              have e_g7_g9 : g7 ≠ g9 := by have := hndH.out; have := hnd5.out; omega
              have e_g7_g10 : g7 ≠ g10 := by have := hndH.out; have := hnd5.out; omega
              have e_g8_g7 : g8 ≠ g7 := by have := hndH.out; have := hnd5.out; omega
              have e_g8_g9 : g8 ≠ g9 := by have := hndH.out; have := hnd5.out; omega
              have e_g8_g10 : g8 ≠ g10 := by have := hndH.out; have := hnd5.out; omega
              have e_g9_g7 : g9 ≠ g7 := by have := hndH.out; have := hnd5.out; omega
              have e_g9_g8 : g9 ≠ g8 := by have := hndH.out; have := hnd5.out; omega
              have e_g9_g10 : g9 ≠ g10 := by have := hndH.out; have := hnd5.out; omega
              have e_g10_g7 : g10 ≠ g7 := by have := hndH.out; have := hnd5.out; omega
              have e_g10_g8 : g10 ≠ g8 := by have := hndH.out; have := hnd5.out; omega
              have e_g10_g9 : g10 ≠ g9 := by have := hndH.out; have := hnd5.out; omega
              have e_g12_g7 : g12 ≠ g7 := by have := hndH.out; have := hnd5.out; omega
              have e_g12_g8 : g12 ≠ g8 := by have := hndH.out; have := hnd5.out; omega
              have e_g12_g9 : g12 ≠ g9 := by have := hndH.out; have := hnd5.out; omega
              have e_g12_g10 : g12 ≠ g10 := by have := hndH.out; have := hnd5.out; omega
              have e_g15_g7 : g15 ≠ g7 := by have := hndH.out; have := hnd5.out; omega
              have e_g15_g8 : g15 ≠ g8 := by have := hndH.out; have := hnd5.out; omega
              have e_g15_g9 : g15 ≠ g9 := by have := hndH.out; have := hnd5.out; omega
              have e_g15_g10 : g15 ≠ g10 := by have := hndH.out; have := hnd5.out; omega
              go_region
              go_wp2_with fail
              have hstep : ivStep m s = ⟨s.r, s.old % s.r, s.have_, hp - t⟩ := by
                unfold ivStep
                dsimp only
                rw [htH.out, hpv.out]
              have hkk : Hid (s.old % s.r < gk - 1 ∧ ivRun m (gk - 1) ⟨s.r, s.old % s.r, s.have_, hp - t⟩ = F) := Lib.hid (by
                obtain ⟨h1, h2⟩ := hk.out
                obtain ⟨n, rfl⟩ : ∃ n, gk = n + 1 := ⟨gk - 1, by omega⟩
                unfold ivRun at h2
                rw [if_neg hr0, hstep] at h2
                have := Nat.mod_lt s.old hrp
                exact ⟨by omega, h2⟩)
              have hgk : gk - 1 < gk := by have := hk.out.1; omega
              have hpm : Hid (hp - t < m) := Lib.hid (by have h := hpv.out; split at h <;> omega)
              have hLn : Hid (_ ∧ _ ∧ _ ∧ _ ∧ _) := Lib.hid ⟨(up_other (S := up (up (up S5 g7 s.r) g8 (s.old % s.r)) g9 s.have_) (n := hp - t) (show w.heap.size + 1 ≠ g10 by have := hndH.out; omega)).trans ((up_other (by have := hndH.out; omega)).trans ((up_other (by have := hndH.out; omega)).trans ((up_other (by have := hndH.out; omega)).trans hL5.out.1))), (up_other (S := up (up (up S5 g7 s.r) g8 (s.old % s.r)) g9 s.have_) (n := hp - t) e_g7_g10).trans ((up_other e_g7_g9).trans ((up_other e_g7_g8).trans (up_same _ _ _))), (up_other (S := up (up (up S5 g7 s.r) g8 (s.old % s.r)) g9 s.have_) (n := hp - t) e_g8_g10).trans ((up_other e_g8_g9).trans (up_same _ _ _)), (up_other (S := up (up (up S5 g7 s.r) g8 (s.old % s.r)) g9 s.have_) (n := hp - t) e_g9_g10).trans (up_same _ _ _), up_same (up (up (up S5 g7 s.r) g8 (s.old % s.r)) g9 s.have_) g10 (hp - t)⟩
              go_roundg (gk - 1)
              case measure => exact hgk
              case rel => exact ⟨⟨s.r, s.old % s.r, s.have_, hp - t⟩, _, hkk, hJ10, hLn, Lib.hid ⟨Nat.le_of_lt hb8, Nat.lt_trans (Nat.mod_lt _ hrp) hb8, hb10, hpm.out⟩⟩
            · have hcv0 : ¬ cv < 0 := by rw [← hcv]; unfold cmpN; rw [if_neg hlt]; split <;> decide
              clear hcv
              go_upto_region 11 with (go_at_call 21; refine hCmH.out.mono ?_; rintro e wt ⟨rfl, hb4⟩; replace hI := Lib.hid (hI.out.below hb4); clear hb4 z9 z14)
              obtain ⟨S4, hS4⟩ : ∃ T, S3 = T := ⟨_, rfl⟩
              rw [hS4] at hI
              have hL4 : Hid (S4 (w.heap.size + 1) = some m ∧ S4 g7 = some s.old ∧ S4 g8 = some s.r ∧ S4 g9 = some s.had ∧ S4 g10 = some s.have_ ∧ S4 g11 = some (s.old / s.r) ∧ S4 g12 = some (s.old % s.r) ∧ S4 g14 = some t) := Lib.hid (by rw [← hS4]; exact hL.out)
              obtain ⟨hp, hhp⟩ : ∃ z, s.had = z := ⟨_, rfl⟩
              have hpv : Hid ((if s.had < t then s.had + m else s.had) = hp) := Lib.hid (by rw [if_neg hlt]; exact hhp)
              have hpt : ¬ hp < t := by omega
              have hpB : blen hp ≤ 5000 := by rw [← hhp]; omega
              rw [hhp] at hL4
              clear hhp hlt hS4 hL hCmH
              obtain ⟨v9a, v9l, v9c, z9, n9⟩ := (hI.out.vars _ _ hL4.out.2.2.2.1).2
              obtain ⟨v14a, v14l, v14c, z14, n14⟩ := (hI.out.vars _ _ hL4.out.2.2.2.2.2.2.2).2
              replace z9 := z9.cell
              replace z14 := z14.cell
              have hSb := Sub_N n9 n14 (Nat.le_trans hpB (by decide)) (Nat.le_trans htB (by decide))
              rw [if_neg hpt] at hSb
              have hSbH := Lib.hid hSb
              clear hSb n9 n14
              go_wp2_with fail
              refine hSbH.out.mono ?_
              rintro e w6 ⟨r6, rfl, hn6, hb6⟩
              obtain ⟨a6, l6, c6, rfl⟩ := hn6.shape
              have hI6 := hI.out.below hb6
              have m_7 := hI6.lt hL4.out.2.1
              have m_8 := hI6.lt hL4.out.2.2.1
              have m_9 := hI6.lt hL4.out.2.2.2.1
              have m_10 := hI6.lt hL4.out.2.2.2.2.1
              have m_12 := hI6.lt hL4.out.2.2.2.2.2.2.1
              have m_14 := hI6.lt hL4.out.2.2.2.2.2.2.2
              have m_m := hI6.lt hL4.out.1
              replace hI6 := hI6.add hn6
              clear z9 z14 hSbH hb6 hn6
              go_upto_region 12 with (fail)
              obtain ⟨w7, hw7⟩ : ∃ W, w6.alloc (.cells #[.slice a6 l6 c6] 26) = W := ⟨_, rfl⟩
              rw [hw7] at hI6 ⊢
              obtain ⟨g15, hg15⟩ : ∃ g, w6.heap.size = g := ⟨_, rfl⟩
              rw [hg15] at hI6 m_7 m_8 m_9 m_10 m_12 m_14 m_m ⊢
              obtain ⟨S5, hS5⟩ : ∃ T, up S4 g15 (hp - t) = T := ⟨_, rfl⟩
              rw [hS5] at hI6
              have hL5 : Hid (S5 (w.heap.size + 1) = some m ∧ S5 g7 = some s.old ∧ S5 g8 = some s.r ∧ S5 g9 = some hp ∧ S5 g10 = some s.have_ ∧ S5 g12 = some (s.old % s.r) ∧ S5 g15 = some (hp - t)) := Lib.hid (by
                obtain ⟨h1, h2, h3, h4, h5, h6, h7, h8⟩ := hL4.out
                rw [← hS5]
                exact ⟨(up_other (by omega)).trans h1, (up_other (by omega)).trans h2, (up_other (by omega)).trans h3, (up_other (by omega)).trans h4, (up_other (by omega)).trans h5, (up_other (by omega)).trans h7, up_same _ _ _⟩)
              have hwb : Below w7.heap.size w7 w7.drew := (Below.refl _ _).drew
              replace hI6 := hI6.below hwb
              obtain ⟨w8, hw8⟩ : ∃ W, w7.drew = W := ⟨_, rfl⟩
              rw [hw8] at hI6
              have hnd5 := Lib.hid (show g14 < g15 from m_14)
              clear hwb hI hL4 hw7 hg15 hS5 m_7 m_8 m_9 m_10 m_12 m_14 m_m
              obtain ⟨v7a, v7l, v7c, y7, n7⟩ := (hI6.vars _ _ hL5.out.2.1).2
              obtain ⟨v8a, v8l, v8c, y8, n8⟩ := (hI6.vars _ _ hL5.out.2.2.1).2
              obtain ⟨v9a, v9l, v9c, y9, n9⟩ := (hI6.vars _ _ hL5.out.2.2.2.1).2
              obtain ⟨v10a, v10l, v10c, y10, n10⟩ := (hI6.vars _ _ hL5.out.2.2.2.2.1).2
              obtain ⟨v12a, v12l, v12c, y12, n12⟩ := (hI6.vars _ _ hL5.out.2.2.2.2.2.1).2
              obtain ⟨v15a, v15l, v15c, y15, n15⟩ := (hI6.vars _ _ hL5.out.2.2.2.2.2.2).2
              have q7 := (hI6.vars _ _ hL5.out.2.1).2
              have hJ7 := hI6.set hL5.out.2.1 n8
              have k8 := (hJ7.vars _ _ ((up_other (by have := hndH.out; omega)).trans hL5.out.2.2.1)).2
              have hJ8 := hJ7.set ((up_other (by have := hndH.out; omega)).trans hL5.out.2.2.1) (n12.otherV q7 (.slice v8a v8l v8c))
              have k9 := (hJ8.vars _ _ ((up_other (by have := hndH.out; omega)).trans ((up_other (by have := hndH.out; omega)).trans hL5.out.2.2.2.1))).2
              have hJ9 := hJ8.set ((up_other (by have := hndH.out; omega)).trans ((up_other (by have := hndH.out; omega)).trans hL5.out.2.2.2.1)) ((n10.otherV q7 (.slice v8a v8l v8c)).otherV k8 (.slice v12a v12l v12c))
              have hJ10 := Lib.hid (hJ9.set ((up_other (by have := hndH.out; omega)).trans ((up_other (by have := hndH.out; omega)).trans ((up_other (by have := hndH.out; omega)).trans hL5.out.2.2.2.2.1))) (((n15.otherV q7 (.slice v8a v8l v8c)).otherV k8 (.slice v12a v12l v12c)).otherV k9 (.slice v10a v10l v10c)))
              have z7 := y7.cell
              have z8 := y8.cell
              have z9 := y9.cell
              have z10 := y10.cell
              have z12 := y12.cell
              have z15 := y15.cell
              have f7 := y7.frozen
              have f8 := y8.frozen
              have f9 := y9.frozen
              have f10 := y10.frozen
              clear y7 y8 y9 y10 y12 y15 n7 n8 n9 n10 n12 n15 q7 hJ7 k8 hJ8 k9 hJ9 hI6
              have e_g7_g8 : g7 ≠ g8 := by have := hndH.out; have := hnd5.out; omega
              have e_g7_g9 : g7 ≠ g9 := by have := hndH.out; have := hnd5.out; omega
              have e_g7_g10 : g7 ≠ g10 := by have := hndH.out; have := hnd5.out; omega
              have e_g8_g7 : g8 ≠ g7 := by have := hndH.out; have := hnd5.out; omega
              have e_g8_g9 : g8 ≠ g9 := by have := hndH.out; have := hnd5.out; omega
              have e_g8_g10 : g8 ≠ g10 := by have := hndH.out; have := hnd5.out; omega
              have e_g9_g7 : g9 ≠ g7 := by have := hndH.out; have := hnd5.out; omega
              have e_g9_g8 : g9 ≠ g8 := by have := hndH.out; have := hnd5.out; omega
              have e_g9_g10 : g9 ≠ g10 := by have := hndH.out; have := hnd5.out; omega
              have e_g10_g7 : g10 ≠ g7 := by have := hndH.out; have := hnd5.out; omega
              have e_g10_g8 : g10 ≠ g8 := by have := hndH.out; have := hnd5.out; omega
              have e_g10_g9 : g10 ≠ g9 := by have := hndH.out; have := hnd5.out; omega
              have e_g12_g7 : g12 ≠ g7 := by have := hndH.out; have := hnd5.out; omega
              have e_g12_g8 : g12 ≠ g8 := by have := hndH.out; have := hnd5.out; omega
              have e_g12_g9 : g12 ≠ g9 := by have := hndH.out; have := hnd5.out; omega
              have e_g12_g10 : g12 ≠ g10 := by have := hndH.out; have := hnd5.out; omega
              have e_g15_g7 : g15 ≠ g7 := by have := hndH.out; have := hnd5.out; omega
              have e_g15_g8 : g15 ≠ g8 := by have := hndH.out; have := hnd5.out; omega
              have e_g15_g9 : g15 ≠ g9 := by have := hndH.out; have := hnd5.out; omega
              have e_g15_g10 : g15 ≠ g10 := by have := hndH.out; have := hnd5.out; omega
              go_region
              go_wp2_with fail
              have hstep : ivStep m s = ⟨s.r, s.old % s.r, s.have_, hp - t⟩ := by
                unfold ivStep
                dsimp only
                rw [htH.out, hpv.out]
              have hkk : Hid (s.old % s.r < gk - 1 ∧ ivRun m (gk - 1) ⟨s.r, s.old % s.r, s.have_, hp - t⟩ = F) := Lib.hid (by
                obtain ⟨h1, h2⟩ := hk.out
                obtain ⟨n, rfl⟩ : ∃ n, gk = n + 1 := ⟨gk - 1, by omega⟩
                unfold ivRun at h2
                rw [if_neg hr0, hstep] at h2
                have := Nat.mod_lt s.old hrp
                exact ⟨by omega, h2⟩)
              have hgk : gk - 1 < gk := by have := hk.out.1; omega
              have hpm : Hid (hp - t < m) := Lib.hid (by have h := hpv.out; split at h <;> omega)
              have hLn : Hid (_ ∧ _ ∧ _ ∧ _ ∧ _) := Lib.hid ⟨(up_other (S := up (up (up S5 g7 s.r) g8 (s.old % s.r)) g9 s.have_) (n := hp - t) (show w.heap.size + 1 ≠ g10 by have := hndH.out; omega)).trans ((up_other (by have := hndH.out; omega)).trans ((up_other (by have := hndH.out; omega)).trans ((up_other (by have := hndH.out; omega)).trans hL5.out.1))), (up_other (S := up (up (up S5 g7 s.r) g8 (s.old % s.r)) g9 s.have_) (n := hp - t) e_g7_g10).trans ((up_other e_g7_g9).trans ((up_other e_g7_g8).trans (up_same _ _ _))), (up_other (S := up (up (up S5 g7 s.r) g8 (s.old % s.r)) g9 s.have_) (n := hp - t) e_g8_g10).trans ((up_other e_g8_g9).trans (up_same _ _ _)), (up_other (S := up (up (up S5 g7 s.r) g8 (s.old % s.r)) g9 s.have_) (n := hp - t) e_g9_g10).trans (up_same _ _ _), up_same (up (up (up S5 g7 s.r) g8 (s.old % s.r)) g9 s.have_) g10 (hp - t)⟩
              go_roundg (gk - 1)
              case measure => exact hgk
              case rel => exact ⟨⟨s.r, s.old % s.r, s.have_, hp - t⟩, _, hkk, hJ10, hLn, Lib.hid ⟨Nat.le_of_lt hb8, Nat.lt_trans (Nat.mod_lt _ hrp) hb8, hb10, hpm.out⟩⟩
end Go.Proofs.YtffehdfddkgggaaDoor.Nu
