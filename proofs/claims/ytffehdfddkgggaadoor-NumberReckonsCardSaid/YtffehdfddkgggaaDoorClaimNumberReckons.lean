/- guidepostlaw05.NumberReckons: for every input it returns true, and each argument reads behind the call as before; the listed variables are tied to the program's text. -/
import Derived.Test.YtffehdfddkgggaaDoorMFC
import Derived.Test.YtffehdfddkgggaaDoorRows
import Derived.Test.YtffehdfddkgggaaDoorCards
import Derived.Test.YtffehdfddkgggaaDoorTie
import Derived.WalkKit
import Derived.ProofKit
import Derived.OpenShut
import Derived.ShutString
import Derived.ChangeOld
import Derived.Below
import Derived.SizedLaws
import Derived.Carry
import Derived.LaidMore
import Derived.Lay
import Derived.SevenTiedAt
/- guidepostlaw05.NumberReckons: the walk. -/
namespace Go.Proofs.YtffehdfddkgggaaDoor.Nu
open Go.RowKit Rt
set_option linter.unusedSimpArgs false
set_option linter.unusedVariables false
theorem cmpN_self (n : Nat) : cmpN n n = 0 := by unfold cmpN; rw [if_neg (Nat.lt_irrefl _), if_neg (Nat.lt_irrefl _)]
theorem cmpN_lt {n m : Nat} (h : n < m) : cmpN n m = -1 := by unfold cmpN; rw [if_pos h]
theorem cmpN_ge {n m : Nat} (h : ¬ n < m) : 0 ≤ cmpN n m := by unfold cmpN; rw [if_neg h]; split <;> decide
theorem Long_B {w : World} {v : Value} {n : Nat} (h : NumAt w v n) (hb : blen n ≤ 1000000) : Calls Tryd.prog 34 #[v] w fun e w' => e = .returned (.int .i64 (errN n)) ∧ Below w.heap.size w w' :=
  (Long_N h hb).mono fun e w' ⟨h1, h2⟩ => ⟨h1, h2 ▸ Below.refl _ _⟩
theorem capN_le (n : Nat) : blen (capN n) ≤ 4096 := by
  unfold capN; split
  · exact Nat.zero_le _
  · omega
theorem is_cap (n : Nat) : (errN n ≠ 0 ∧ capN n = 0) ∨ (errN n = 0 ∧ capN n = n) := by
  unfold errN capN
  by_cases h : 4096 < blen n
  · exact .inl ⟨by rw [if_pos h]; decide, if_pos h⟩
  · exact .inr ⟨if_neg h, if_neg h⟩
theorem cap_is {e : Int} {c n : Nat} (h : (e ≠ 0 ∧ c = 0) ∨ (e = 0 ∧ c = n)) : (e ≠ 0 ∧ e = e ∧ c = 0) ∨ (e = 0 ∧ e = 0 ∧ c = n) :=
  h.elim (fun ⟨h1, h2⟩ => .inl ⟨h1, rfl, h2⟩) (fun ⟨h1, h2⟩ => .inr ⟨h1, h1, h2⟩)
theorem len_zero {w : World} {a : Option Addr} {l c : Nat} (h : NumAt w (.slice a l c) 0) : l = 0 := by
  obtain ⟨L, hN, hL, hS⟩ := h
  obtain rfl := (norm_zero hN).1 hL
  obtain ⟨a', c', h1, -, -⟩ := hS
  injection h1
theorem len_pos {w : World} {a : Option Addr} {l c n : Nat} (h : NumAt w (.slice a l c) n) (h0 : n ≠ 0) : 0 < l := by
  obtain ⟨L, hN, hL, hS⟩ := h
  obtain ⟨a', c', h1, -, -⟩ := hS
  injection h1 with h1 h2 h3
  subst h2
  rcases Nat.eq_zero_or_pos L.length with e | e
  · exact absurd (hL ▸ (norm_zero hN).2 (List.eq_nil_of_length_eq_zero e)) h0
  · exact e
set_option maxHeartbeats 8000000 in
set_option maxRecDepth 100000 in
theorem NumberReckons_any (s t : ByteArray) (hss : s.size ≤ 140737488355328) (hst : t.size ≤ 140737488355328) (w : World) :
    Calls Tryd.prog 7 #[.string s, .string t] w fun e w' => e = .returned (.bool true) ∧ Below w.heap.size w w' := by
  obtain ⟨a0, ha0⟩ : ∃ z, capN (numS s) = z := ⟨_, rfl⟩
  obtain ⟨b0, hb00⟩ : ∃ z, capN (numS t) = z := ⟨_, rfl⟩
  obtain ⟨es, hes⟩ : ∃ z, errN (numS s) = z := ⟨_, rfl⟩
  obtain ⟨et, het⟩ : ∃ z, errN (numS t) = z := ⟨_, rfl⟩
  have haE := Lib.hid ha0
  have hbE := Lib.hid hb00
  replace hes := Lib.hid hes
  replace het := Lib.hid het
  have hA : Hid (blen a0 ≤ 4096) := Lib.hid (by rw [← ha0]; exact capN_le _)
  have hB : Hid (blen b0 ≤ 4096) := Lib.hid (by rw [← hb00]; exact capN_le _)
  have hS : Hid (blen (a0 + b0) ≤ 8193) := Lib.hid (Nat.le_trans (blen_add _ _) (by have := hA.out; have := hB.out; omega))
  have hP : Hid (blen (a0 * b0) ≤ 8193) := Lib.hid (Nat.le_trans (blen_mul _ _) (by have := hA.out; have := hB.out; omega))
  have hC := Lib.hid (capN_le (a0 + b0))
  have hD := Lib.hid (capN_le (a0 * b0))
  have fc0 := is_cap (a0 + b0)
  have fd0 := is_cap (a0 * b0)
  obtain ⟨ec, hec⟩ : ∃ z, errN (a0 + b0) = z := ⟨_, rfl⟩
  obtain ⟨ed, hed⟩ : ∃ z, errN (a0 * b0) = z := ⟨_, rfl⟩
  obtain ⟨c0, hc0⟩ : ∃ z, capN (a0 + b0) = z := ⟨_, rfl⟩
  obtain ⟨d0, hd0⟩ : ∃ z, capN (a0 * b0) = z := ⟨_, rfl⟩
  rw [hc0] at hC
  rw [hd0] at hD
  rw [hec, hc0] at fc0
  rw [hed, hd0] at fd0
  have fc := Lib.hid (And.intro hec (And.intro hc0 fc0))
  have fd := Lib.hid (And.intro hed (And.intro hd0 fd0))
  have hK : Hid (blen (a0 - b0) ≤ 4096) := Lib.hid (Nat.le_trans (blen_mono (Nat.sub_le _ _)) hA.out)
  have hQ : Hid (blen (a0 / b0) ≤ 4096) := Lib.hid (Nat.le_trans (blen_mono (Nat.div_le_self _ _)) hA.out)
  have hR : Hid (blen (a0 % b0) ≤ 4096) := Lib.hid (Nat.le_trans (blen_mono (Nat.mod_le _ _)) hA.out)
  clear ha0 hb00 hec hed hc0 hd0 fc0 fd0
  by_cases hl : a0 < b0
  · have hlt := Lib.hid hl
    have hz : Hid (blen (a0 - b0) = 0) := Lib.hid (by rw [Nat.sub_eq_zero_of_le (Nat.le_of_lt hl)]; exact blen_zero)
    have hb0 : Hid (b0 ≠ 0) := Lib.hid (Nat.ne_of_gt (Nat.lt_of_le_of_lt (Nat.zero_le _) hl))
    have hdE : Hid (divE b0 = 0) := Lib.hid (by unfold divE; rw [if_neg hb0.out])
    have hr0 : Hid (onDiv b0 (a0 % b0) = a0 % b0) := Lib.hid (by unfold onDiv; rw [if_neg hb0.out])
    clear hl
    go_enter Tryd.func7, Tryd.ntmps7
    have hE := Lib.hid (Below.refl w.heap.size w)
    have hC1 := Lib.hid (examples_any w)
    go_wp2_with fail
    refine hC1.out.mono ?_
    rintro e w1 ⟨rfl, hb⟩
    replace hE := Lib.hid (hE.out.trans (hb.mono hE.out.size))
    clear hb hC1 
    have hC2 := Lib.hid (Of_N s w1)
    go_wp2_with fail
    refine hC2.out.mono ?_
    rintro e w2 ⟨va, rfl, na, hb⟩
    obtain ⟨vaa, val, vac, rfl⟩ := na.shape
    rw [hes.out]
    rw [haE.out] at na
    replace na := Lib.hid na
    replace hE := Lib.hid (hE.out.trans (hb.mono hE.out.size))
    clear hb hC2 
    go_upto_region 3 with (fail)
    have hb : Below w2.heap.size w2 (w2.alloc (.cells #[.slice vaa val vac] 26)) := (Below.refl _ _).alloc (Nat.le_refl _) _
    have a' := Var.made na.out
    replace na := Lib.hid (na.out.below hb)
    replace hE := Lib.hid (hE.out.trans (hb.mono hE.out.size))
    have a := Lib.hid a'
    clear hb a'
    obtain ⟨w3, hw⟩ : ∃ W, (w2.alloc (.cells #[.slice vaa val vac] 26)) = W := ⟨_, rfl⟩
    rw [hw] at hE na a ⊢
    clear hw
    obtain ⟨ga, hga⟩ : ∃ g, w2.heap.size = g := ⟨_, rfl⟩
    rw [hga] at a ⊢
    clear hga
    clear na
    have hC4 := Lib.hid (Of_N t w3)
    go_wp2_with fail
    refine hC4.out.mono ?_
    rintro e w4 ⟨vb, rfl, nb, hb⟩
    obtain ⟨vba, vbl, vbc, rfl⟩ := nb.shape
    rw [het.out]
    rw [hbE.out] at nb
    replace a := Lib.hid (a.out.below hb)
    replace nb := Lib.hid nb
    replace hE := Lib.hid (hE.out.trans (hb.mono hE.out.size))
    clear hb hC4 
    go_upto_region 4 with (fail)
    have hb : Below w4.heap.size w4 (w4.alloc (.cells #[.slice vba vbl vbc] 26)) := (Below.refl _ _).alloc (Nat.le_refl _) _
    have b' := Var.made nb.out
    replace a := Lib.hid (a.out.below hb)
    replace nb := Lib.hid (nb.out.below hb)
    replace hE := Lib.hid (hE.out.trans (hb.mono hE.out.size))
    have b := Lib.hid b'
    clear hb b'
    obtain ⟨w5, hw⟩ : ∃ W, (w4.alloc (.cells #[.slice vba vbl vbc] 26)) = W := ⟨_, rfl⟩
    rw [hw] at hE a nb b ⊢
    clear hw
    obtain ⟨gb, hgb⟩ : ∃ g, w4.heap.size = g := ⟨_, rfl⟩
    rw [hgb] at b ⊢
    clear hgb
    clear nb
    have hC6 := Lib.hid (ROf_N s hss w5)
    go_wp2_with fail
    refine hC6.out.mono ?_
    rintro e w6 ⟨vx, rfl, nx, hb⟩
    obtain ⟨vxa, vxl, vxc, rfl⟩ := nx.shape
    rw [hes.out]
    rw [haE.out] at nx
    replace a := Lib.hid (a.out.below hb)
    replace b := Lib.hid (b.out.below hb)
    replace nx := Lib.hid nx
    replace hE := Lib.hid (hE.out.trans (hb.mono hE.out.size))
    clear hb hC6 
    have hC7 := Lib.hid (ROf_N t hst w6)
    go_wp2_with fail
    refine hC7.out.mono ?_
    rintro e w7 ⟨vy, rfl, ny, hb⟩
    obtain ⟨vya, vyl, vyc, rfl⟩ := ny.shape
    rw [het.out]
    rw [hbE.out] at ny
    have hyl : 0 < vyl := len_pos ny hb0.out
    have hyl2 : (0 : Int) < (vyl : Int) := Int.natCast_pos.2 hyl
    replace a := Lib.hid (a.out.below hb)
    replace b := Lib.hid (b.out.below hb)
    replace nx := Lib.hid (nx.out.below hb)
    replace ny := Lib.hid ny
    replace hE := Lib.hid (hE.out.trans (hb.mono hE.out.size))
    clear hb hC7 
    obtain ⟨aa, al, ac, ab, an⟩ := a.out
    have za := ab.cell
    replace an := Lib.hid an
    clear ab
    obtain ⟨ba, bl, bc, bb, bn⟩ := b.out
    have zb := bb.cell
    replace bn := Lib.hid bn
    clear bb
    have hC8 := Lib.hid (Add_N an.out bn.out (Nat.le_trans hA.out (by decide)) (Nat.le_trans hB.out (by decide)))
    go_wp2_with fail
    refine hC8.out.mono ?_
    rintro e w8 ⟨tc, rfl, nc, hb⟩
    obtain ⟨tca, tcl, tcc, rfl⟩ := nc.shape
    rw [fc.out.1]
    rw [fc.out.2.1] at nc
    replace a := Lib.hid (a.out.below hb)
    replace b := Lib.hid (b.out.below hb)
    replace nx := Lib.hid (nx.out.below hb)
    replace ny := Lib.hid (ny.out.below hb)
    replace nc := Lib.hid nc
    replace hE := Lib.hid (hE.out.trans (hb.mono hE.out.size))
    clear hb hC8 za an zb bn
    go_upto_region 7 with (fail)
    have hb : Below w8.heap.size w8 (w8.alloc (.cells #[.slice tca tcl tcc] 26)) := (Below.refl _ _).alloc (Nat.le_refl _) _
    have c' := Var.made nc.out
    replace a := Lib.hid (a.out.below hb)
    replace b := Lib.hid (b.out.below hb)
    replace nx := Lib.hid (nx.out.below hb)
    replace ny := Lib.hid (ny.out.below hb)
    replace nc := Lib.hid (nc.out.below hb)
    replace hE := Lib.hid (hE.out.trans (hb.mono hE.out.size))
    have c := Lib.hid c'
    clear hb c'
    obtain ⟨w9, hw⟩ : ∃ W, (w8.alloc (.cells #[.slice tca tcl tcc] 26)) = W := ⟨_, rfl⟩
    rw [hw] at hE a b nx ny nc c ⊢
    clear hw
    obtain ⟨gc, hgc⟩ : ∃ g, w8.heap.size = g := ⟨_, rfl⟩
    rw [hgc] at c ⊢
    clear hgc
    clear nc
    have hC10 := Lib.hid (RAdd_N nx.out ny.out (Nat.le_trans hA.out (by decide)) (Nat.le_trans hB.out (by decide)))
    go_wp2_with fail
    refine hC10.out.mono ?_
    rintro e w10 ⟨rc, rfl, mc, hb⟩
    obtain ⟨rca, rcl, rcc, rfl⟩ := mc.shape
    replace a := Lib.hid (a.out.below hb)
    replace b := Lib.hid (b.out.below hb)
    replace nx := Lib.hid (nx.out.below hb)
    replace ny := Lib.hid (ny.out.below hb)
    replace c := Lib.hid (c.out.below hb)
    replace mc := Lib.hid mc
    replace hE := Lib.hid (hE.out.trans (hb.mono hE.out.size))
    clear hb hC10 
    obtain ⟨ca, cl, cc, cb, cn⟩ := c.out
    have zc := cb.cell
    replace cn := Lib.hid cn
    clear cb
    go_upto_region 8 with (fail)
    have hb : Below w10.heap.size w10 w10.drew := (Below.refl _ _).drew
    replace a := Lib.hid (a.out.below hb)
    replace b := Lib.hid (b.out.below hb)
    replace nx := Lib.hid (nx.out.below hb)
    replace ny := Lib.hid (ny.out.below hb)
    replace c := Lib.hid (c.out.below hb)
    replace mc := Lib.hid (mc.out.below hb)
    replace cn := Lib.hid (cn.out.below hb)
    replace zc := (hb.cell (World.block_lt_of_cell? _ _ zc)).trans zc
    replace hE := Lib.hid (hE.out.trans (hb.mono hE.out.size))
    clear hb
    refine Rt.wp_region_ordM [1, 0, 0, 0, 2, 2, 0] [0, 1, 2, 3, 4, 5, 6] (by kernel_rfl) (by kernel_rfl) ?_
    obtain ⟨w11, hw⟩ : ∃ W, w10.drew = W := ⟨_, rfl⟩
    rw [hw] at hE a b nx ny c mc cn zc ⊢
    clear hw
    apply ord_read rfl rfl rfl; (· (intro W hW; have g0 := cell_up hW zc; go_simp; with_reducible rfl)); (· (simp only [Act.put, Act.eval, List.setIfInBounds_toArray, List.set_cons_zero, List.set_cons_succ, Array.getD_eq_getD_getElem?, List.getElem?_toArray, List.getElem?_cons_zero, List.getElem?_cons_succ, Option.getD_some, List.getElem_toArray, List.getElem_cons_succ, List.getElem_cons_zero]; with_reducible rfl))
    apply ord_move rfl rfl rfl rfl; (· (simp only [Act.put, Act.eval, List.setIfInBounds_toArray, List.set_cons_zero, List.set_cons_succ, Array.getD_eq_getD_getElem?, List.getElem?_toArray, List.getElem?_cons_zero, List.getElem?_cons_succ, Option.getD_some, List.getElem_toArray, List.getElem_cons_succ, List.getElem_cons_zero]; with_reducible rfl))
    apply ord_move rfl rfl rfl rfl; (· (simp only [Act.put, Act.eval, List.setIfInBounds_toArray, List.set_cons_zero, List.set_cons_succ, Array.getD_eq_getD_getElem?, List.getElem?_toArray, List.getElem?_cons_zero, List.getElem?_cons_succ, Option.getD_some, List.getElem_toArray, List.getElem_cons_succ, List.getElem_cons_zero]; with_reducible rfl))
    apply ord_move rfl rfl rfl rfl; (· (simp only [Act.put, Act.eval, List.setIfInBounds_toArray, List.set_cons_zero, List.set_cons_succ, Array.getD_eq_getD_getElem?, List.getElem?_toArray, List.getElem?_cons_zero, List.getElem?_cons_succ, Option.getD_some, List.getElem_toArray, List.getElem_cons_succ, List.getElem_cons_zero]; with_reducible rfl))
    refine ord_call rfl rfl rfl (by go_simp; exact ⟨rfl, rfl⟩) ?_
    refine (Long_B mc.out (Nat.le_trans hS.out (by decide))).mono ?_
    rintro e w12 ⟨rfl, hb⟩
    refine ⟨_, rfl, hb, ?_⟩
    rw [fc.out.1]
    replace a := Lib.hid (a.out.below hb)
    replace b := Lib.hid (b.out.below hb)
    replace nx := Lib.hid (nx.out.below hb)
    replace ny := Lib.hid (ny.out.below hb)
    replace c := Lib.hid (c.out.below hb)
    replace mc := Lib.hid (mc.out.below hb)
    replace cn := Lib.hid (cn.out.below hb)
    replace zc := (hb.cell (World.block_lt_of_cell? _ _ zc)).trans zc
    replace hE := Lib.hid (hE.out.trans (hb.mono hE.out.size))
    clear hb
    simp only [Act.put, Act.eval, List.setIfInBounds_toArray, List.set_cons_zero, List.set_cons_succ, Array.getD_eq_getD_getElem?, List.getElem?_toArray, List.getElem?_cons_zero, List.getElem?_cons_succ, Option.getD_some, List.getElem_toArray, List.getElem_cons_succ, List.getElem_cons_zero]
    refine ord_call rfl rfl rfl (by go_simp; exact ⟨rfl, rfl⟩) ?_
    refine (is_true cn.out mc.out (Nat.le_trans hC.out (by decide)) (Nat.le_trans hS.out (by decide)) ec ec (cap_is fc.out.2.2)).mono ?_
    rintro e w13 ⟨rfl, hb⟩
    refine ⟨_, rfl, hb, ?_⟩
    replace a := Lib.hid (a.out.below hb)
    replace b := Lib.hid (b.out.below hb)
    replace nx := Lib.hid (nx.out.below hb)
    replace ny := Lib.hid (ny.out.below hb)
    replace c := Lib.hid (c.out.below hb)
    replace mc := Lib.hid (mc.out.below hb)
    replace cn := Lib.hid (cn.out.below hb)
    replace zc := (hb.cell (World.block_lt_of_cell? _ _ zc)).trans zc
    replace hE := Lib.hid (hE.out.trans (hb.mono hE.out.size))
    clear hb
    simp only [Act.put, Act.eval, List.setIfInBounds_toArray, List.set_cons_zero, List.set_cons_succ, Array.getD_eq_getD_getElem?, List.getElem?_toArray, List.getElem?_cons_zero, List.getElem?_cons_succ, Option.getD_some, List.getElem_toArray, List.getElem_cons_succ, List.getElem_cons_zero]
    apply ord_assign rfl rfl rfl rfl; (· (simp only [Act.put, Act.eval, List.setIfInBounds_toArray, List.set_cons_zero, List.set_cons_succ, Array.getD_eq_getD_getElem?, List.getElem?_toArray, List.getElem?_cons_zero, List.getElem?_cons_succ, Option.getD_some, List.getElem_toArray, List.getElem_cons_succ, List.getElem_cons_zero]; with_reducible rfl))
    with_reducible refine ord_nil ?_
    clear zc cn
    clear mc
    obtain ⟨aa, al, ac, ab, an⟩ := a.out
    have za := ab.cell
    replace an := Lib.hid an
    clear ab
    obtain ⟨ba, bl, bc, bb, bn⟩ := b.out
    have zb := bb.cell
    replace bn := Lib.hid bn
    clear bb
    have hC14 := Lib.hid (Mul_N an.out bn.out (Nat.le_trans hA.out (by decide)) (Nat.le_trans hB.out (by decide)))
    go_wp2_with fail
    refine hC14.out.mono ?_
    rintro e w14 ⟨td, rfl, nd, hb⟩
    obtain ⟨tda, tdl, tdc, rfl⟩ := nd.shape
    rw [fd.out.1]
    rw [fd.out.2.1] at nd
    replace a := Lib.hid (a.out.below hb)
    replace b := Lib.hid (b.out.below hb)
    replace nx := Lib.hid (nx.out.below hb)
    replace ny := Lib.hid (ny.out.below hb)
    replace c := Lib.hid (c.out.below hb)
    replace nd := Lib.hid nd
    replace hE := Lib.hid (hE.out.trans (hb.mono hE.out.size))
    clear hb hC14 za an zb bn
    go_upto_region 10 with (fail)
    have hb : Below w14.heap.size w14 (w14.alloc (.cells #[.slice tda tdl tdc] 26)) := (Below.refl _ _).alloc (Nat.le_refl _) _
    have d' := Var.made nd.out
    replace a := Lib.hid (a.out.below hb)
    replace b := Lib.hid (b.out.below hb)
    replace nx := Lib.hid (nx.out.below hb)
    replace ny := Lib.hid (ny.out.below hb)
    replace c := Lib.hid (c.out.below hb)
    replace nd := Lib.hid (nd.out.below hb)
    replace hE := Lib.hid (hE.out.trans (hb.mono hE.out.size))
    have d := Lib.hid d'
    clear hb d'
    obtain ⟨w15, hw⟩ : ∃ W, (w14.alloc (.cells #[.slice tda tdl tdc] 26)) = W := ⟨_, rfl⟩
    rw [hw] at hE a b nx ny c nd d ⊢
    clear hw
    obtain ⟨gd, hgd⟩ : ∃ g, w14.heap.size = g := ⟨_, rfl⟩
    rw [hgd] at d ⊢
    clear hgd
    clear nd
    have hC16 := Lib.hid (RMul_N nx.out ny.out (Nat.le_trans hA.out (by decide)) (Nat.le_trans hB.out (by decide)))
    go_wp2_with fail
    refine hC16.out.mono ?_
    rintro e w16 ⟨rd, rfl, md, hb⟩
    obtain ⟨rda, rdl, rdc, rfl⟩ := md.shape
    replace a := Lib.hid (a.out.below hb)
    replace b := Lib.hid (b.out.below hb)
    replace nx := Lib.hid (nx.out.below hb)
    replace ny := Lib.hid (ny.out.below hb)
    replace c := Lib.hid (c.out.below hb)
    replace d := Lib.hid (d.out.below hb)
    replace md := Lib.hid md
    replace hE := Lib.hid (hE.out.trans (hb.mono hE.out.size))
    clear hb hC16 
    obtain ⟨da, dl, dc, db, dn⟩ := d.out
    have zd := db.cell
    replace dn := Lib.hid dn
    clear db
    go_upto_region 11 with (fail)
    have hb : Below w16.heap.size w16 w16.drew := (Below.refl _ _).drew
    replace a := Lib.hid (a.out.below hb)
    replace b := Lib.hid (b.out.below hb)
    replace nx := Lib.hid (nx.out.below hb)
    replace ny := Lib.hid (ny.out.below hb)
    replace c := Lib.hid (c.out.below hb)
    replace d := Lib.hid (d.out.below hb)
    replace md := Lib.hid (md.out.below hb)
    replace dn := Lib.hid (dn.out.below hb)
    replace zd := (hb.cell (World.block_lt_of_cell? _ _ zd)).trans zd
    replace hE := Lib.hid (hE.out.trans (hb.mono hE.out.size))
    clear hb
    refine Rt.wp_region_ordM [1, 0, 0, 0, 2, 2, 0] [0, 1, 2, 3, 4, 5, 6] (by kernel_rfl) (by kernel_rfl) ?_
    obtain ⟨w17, hw⟩ : ∃ W, w16.drew = W := ⟨_, rfl⟩
    rw [hw] at hE a b nx ny c d md dn zd ⊢
    clear hw
    apply ord_read rfl rfl rfl; (· (intro W hW; have g0 := cell_up hW zd; go_simp; with_reducible rfl)); (· (simp only [Act.put, Act.eval, List.setIfInBounds_toArray, List.set_cons_zero, List.set_cons_succ, Array.getD_eq_getD_getElem?, List.getElem?_toArray, List.getElem?_cons_zero, List.getElem?_cons_succ, Option.getD_some, List.getElem_toArray, List.getElem_cons_succ, List.getElem_cons_zero]; with_reducible rfl))
    apply ord_move rfl rfl rfl rfl; (· (simp only [Act.put, Act.eval, List.setIfInBounds_toArray, List.set_cons_zero, List.set_cons_succ, Array.getD_eq_getD_getElem?, List.getElem?_toArray, List.getElem?_cons_zero, List.getElem?_cons_succ, Option.getD_some, List.getElem_toArray, List.getElem_cons_succ, List.getElem_cons_zero]; with_reducible rfl))
    apply ord_move rfl rfl rfl rfl; (· (simp only [Act.put, Act.eval, List.setIfInBounds_toArray, List.set_cons_zero, List.set_cons_succ, Array.getD_eq_getD_getElem?, List.getElem?_toArray, List.getElem?_cons_zero, List.getElem?_cons_succ, Option.getD_some, List.getElem_toArray, List.getElem_cons_succ, List.getElem_cons_zero]; with_reducible rfl))
    apply ord_move rfl rfl rfl rfl; (· (simp only [Act.put, Act.eval, List.setIfInBounds_toArray, List.set_cons_zero, List.set_cons_succ, Array.getD_eq_getD_getElem?, List.getElem?_toArray, List.getElem?_cons_zero, List.getElem?_cons_succ, Option.getD_some, List.getElem_toArray, List.getElem_cons_succ, List.getElem_cons_zero]; with_reducible rfl))
    refine ord_call rfl rfl rfl (by go_simp; exact ⟨rfl, rfl⟩) ?_
    refine (Long_B md.out (Nat.le_trans hP.out (by decide))).mono ?_
    rintro e w18 ⟨rfl, hb⟩
    refine ⟨_, rfl, hb, ?_⟩
    rw [fd.out.1]
    replace a := Lib.hid (a.out.below hb)
    replace b := Lib.hid (b.out.below hb)
    replace nx := Lib.hid (nx.out.below hb)
    replace ny := Lib.hid (ny.out.below hb)
    replace c := Lib.hid (c.out.below hb)
    replace d := Lib.hid (d.out.below hb)
    replace md := Lib.hid (md.out.below hb)
    replace dn := Lib.hid (dn.out.below hb)
    replace zd := (hb.cell (World.block_lt_of_cell? _ _ zd)).trans zd
    replace hE := Lib.hid (hE.out.trans (hb.mono hE.out.size))
    clear hb
    simp only [Act.put, Act.eval, List.setIfInBounds_toArray, List.set_cons_zero, List.set_cons_succ, Array.getD_eq_getD_getElem?, List.getElem?_toArray, List.getElem?_cons_zero, List.getElem?_cons_succ, Option.getD_some, List.getElem_toArray, List.getElem_cons_succ, List.getElem_cons_zero]
    refine ord_call rfl rfl rfl (by go_simp; exact ⟨rfl, rfl⟩) ?_
    refine (is_true dn.out md.out (Nat.le_trans hD.out (by decide)) (Nat.le_trans hP.out (by decide)) ed ed (cap_is fd.out.2.2)).mono ?_
    rintro e w19 ⟨rfl, hb⟩
    refine ⟨_, rfl, hb, ?_⟩
    replace a := Lib.hid (a.out.below hb)
    replace b := Lib.hid (b.out.below hb)
    replace nx := Lib.hid (nx.out.below hb)
    replace ny := Lib.hid (ny.out.below hb)
    replace c := Lib.hid (c.out.below hb)
    replace d := Lib.hid (d.out.below hb)
    replace md := Lib.hid (md.out.below hb)
    replace dn := Lib.hid (dn.out.below hb)
    replace zd := (hb.cell (World.block_lt_of_cell? _ _ zd)).trans zd
    replace hE := Lib.hid (hE.out.trans (hb.mono hE.out.size))
    clear hb
    simp only [Act.put, Act.eval, List.setIfInBounds_toArray, List.set_cons_zero, List.set_cons_succ, Array.getD_eq_getD_getElem?, List.getElem?_toArray, List.getElem?_cons_zero, List.getElem?_cons_succ, Option.getD_some, List.getElem_toArray, List.getElem_cons_succ, List.getElem_cons_zero]
    apply ord_assign rfl rfl rfl rfl; (· (simp only [Act.put, Act.eval, List.setIfInBounds_toArray, List.set_cons_zero, List.set_cons_succ, Array.getD_eq_getD_getElem?, List.getElem?_toArray, List.getElem?_cons_zero, List.getElem?_cons_succ, Option.getD_some, List.getElem_toArray, List.getElem_cons_succ, List.getElem_cons_zero]; with_reducible rfl))
    with_reducible refine ord_nil ?_
    clear zd dn
    clear md
    obtain ⟨aa, al, ac, ab, an⟩ := a.out
    have za := ab.cell
    replace an := Lib.hid an
    clear ab
    obtain ⟨ba, bl, bc, bb, bn⟩ := b.out
    have zb := bb.cell
    replace bn := Lib.hid bn
    clear bb
    have hC20 := Lib.hid (Sub_N an.out bn.out (Nat.le_trans hA.out (by decide)) (Nat.le_trans hB.out (by decide)))
    go_wp2_with fail
    refine hC20.out.mono ?_
    rintro e w20 ⟨tk, rfl, nk, hb⟩
    obtain ⟨tka, tkl, tkc, rfl⟩ := nk.shape
    rw [if_pos hlt.out]
    replace a := Lib.hid (a.out.below hb)
    replace b := Lib.hid (b.out.below hb)
    replace nx := Lib.hid (nx.out.below hb)
    replace ny := Lib.hid (ny.out.below hb)
    replace c := Lib.hid (c.out.below hb)
    replace d := Lib.hid (d.out.below hb)
    replace nk := Lib.hid nk
    replace hE := Lib.hid (hE.out.trans (hb.mono hE.out.size))
    clear hb hC20 za an zb bn
    go_upto_region 13 with (fail)
    have hb : Below w20.heap.size w20 (w20.alloc (.cells #[.slice tka tkl tkc] 26)) := (Below.refl _ _).alloc (Nat.le_refl _) _
    have k' := Var.made nk.out
    replace a := Lib.hid (a.out.below hb)
    replace b := Lib.hid (b.out.below hb)
    replace nx := Lib.hid (nx.out.below hb)
    replace ny := Lib.hid (ny.out.below hb)
    replace c := Lib.hid (c.out.below hb)
    replace d := Lib.hid (d.out.below hb)
    replace nk := Lib.hid (nk.out.below hb)
    replace hE := Lib.hid (hE.out.trans (hb.mono hE.out.size))
    have k := Lib.hid k'
    clear hb k'
    obtain ⟨w21, hw⟩ : ∃ W, (w20.alloc (.cells #[.slice tka tkl tkc] 26)) = W := ⟨_, rfl⟩
    rw [hw] at hE a b nx ny c d nk k ⊢
    clear hw
    obtain ⟨gk, hgk⟩ : ∃ g, w20.heap.size = g := ⟨_, rfl⟩
    rw [hgk] at k ⊢
    clear hgk
    clear nk
    obtain ⟨ka, kl, kc, kb, kn⟩ := k.out
    have zk := kb.cell
    replace kn := Lib.hid kn
    clear kb
    have hC22 := Lib.hid (kn.out.bits (Nat.le_trans hK.out (by decide)))
    go_wp2_with fail
    refine hC22.out.mono ?_
    rintro e w22 ⟨rfl, hb⟩
    rw [hz.out]
    replace a := Lib.hid (a.out.below hb)
    replace b := Lib.hid (b.out.below hb)
    replace nx := Lib.hid (nx.out.below hb)
    replace ny := Lib.hid (ny.out.below hb)
    replace c := Lib.hid (c.out.below hb)
    replace d := Lib.hid (d.out.below hb)
    replace k := Lib.hid (k.out.below hb)
    replace hE := Lib.hid (hE.out.trans (hb.mono hE.out.size))
    clear hb hC22 zk kn
    have hC23 := Lib.hid (RCmp_N nx.out ny.out (Nat.le_trans hA.out (by decide)) (Nat.le_trans hB.out (by decide)))
    go_wp2_with fail
    refine hC23.out.mono ?_
    rintro e w23 ⟨rfl, hb⟩
    rw [cmpN_lt hlt.out]
    replace a := Lib.hid (a.out.below hb)
    replace b := Lib.hid (b.out.below hb)
    replace nx := Lib.hid (nx.out.below hb)
    replace ny := Lib.hid (ny.out.below hb)
    replace c := Lib.hid (c.out.below hb)
    replace d := Lib.hid (d.out.below hb)
    replace k := Lib.hid (k.out.below hb)
    replace hE := Lib.hid (hE.out.trans (hb.mono hE.out.size))
    clear hb hC23 
    obtain ⟨aa, al, ac, ab, an⟩ := a.out
    have za := ab.cell
    replace an := Lib.hid an
    clear ab
    obtain ⟨ba, bl, bc, bb, bn⟩ := b.out
    have zb := bb.cell
    replace bn := Lib.hid bn
    clear bb
    have hC24 := Lib.hid (Div_N an.out bn.out (Nat.le_trans hA.out (by decide)) (Nat.le_trans hB.out (by decide)))
    go_wp2_with fail
    refine hC24.out.mono ?_
    rintro e w24 ⟨tq, tr, rfl, nq, nr, hb⟩
    obtain ⟨tqa, tql, tqc, rfl⟩ := nq.shape
    obtain ⟨tra, trl, trc, rfl⟩ := nr.shape
    rw [hdE.out]
    rw [hr0.out] at nr
    replace a := Lib.hid (a.out.below hb)
    replace b := Lib.hid (b.out.below hb)
    replace nx := Lib.hid (nx.out.below hb)
    replace ny := Lib.hid (ny.out.below hb)
    replace c := Lib.hid (c.out.below hb)
    replace d := Lib.hid (d.out.below hb)
    replace k := Lib.hid (k.out.below hb)
    replace nq := Lib.hid nq
    replace nr := Lib.hid nr
    replace hE := Lib.hid (hE.out.trans (hb.mono hE.out.size))
    clear hb hC24 za an zb bn
    go_upto_region 17 with (fail)
    have hb : Below w24.heap.size w24 (w24.alloc (.cells #[.slice tqa tql tqc] 26)) := (Below.refl _ _).alloc (Nat.le_refl _) _
    have q' := Var.made nq.out
    replace a := Lib.hid (a.out.below hb)
    replace b := Lib.hid (b.out.below hb)
    replace nx := Lib.hid (nx.out.below hb)
    replace ny := Lib.hid (ny.out.below hb)
    replace c := Lib.hid (c.out.below hb)
    replace d := Lib.hid (d.out.below hb)
    replace k := Lib.hid (k.out.below hb)
    replace nq := Lib.hid (nq.out.below hb)
    replace nr := Lib.hid (nr.out.below hb)
    replace hE := Lib.hid (hE.out.trans (hb.mono hE.out.size))
    have q := Lib.hid q'
    clear hb q'
    have hb : Below (w24.alloc (.cells #[.slice tqa tql tqc] 26)).heap.size (w24.alloc (.cells #[.slice tqa tql tqc] 26)) ((w24.alloc (.cells #[.slice tqa tql tqc] 26)).alloc (.cells #[.slice tra trl trc] 26)) := (Below.refl _ _).alloc (Nat.le_refl _) _
    have r' := Var.made nr.out
    replace a := Lib.hid (a.out.below hb)
    replace b := Lib.hid (b.out.below hb)
    replace nx := Lib.hid (nx.out.below hb)
    replace ny := Lib.hid (ny.out.below hb)
    replace c := Lib.hid (c.out.below hb)
    replace d := Lib.hid (d.out.below hb)
    replace k := Lib.hid (k.out.below hb)
    replace nq := Lib.hid (nq.out.below hb)
    replace nr := Lib.hid (nr.out.below hb)
    replace q := Lib.hid (q.out.below hb)
    replace hE := Lib.hid (hE.out.trans (hb.mono hE.out.size))
    have r := Lib.hid r'
    clear hb r'
    simp only [World.size_alloc] at r
    obtain ⟨w25, hw⟩ : ∃ W, ((w24.alloc (.cells #[.slice tqa tql tqc] 26)).alloc (.cells #[.slice tra trl trc] 26)) = W := ⟨_, rfl⟩
    rw [hw] at hE a b nx ny c d k nq nr q r ⊢
    clear hw
    obtain ⟨gq, hgq⟩ : ∃ g, w24.heap.size = g := ⟨_, rfl⟩
    obtain ⟨gr, hgr⟩ : ∃ g, w24.heap.size + 1 = g := ⟨_, rfl⟩
    rw [hgr] at r ⊢
    rw [hgq] at q ⊢
    clear hgq hgr
    clear nq
    clear nr
    have hC26 := Lib.hid (RDiv_N nx.out ny.out (Nat.le_trans hA.out (by decide)) (Nat.le_trans hB.out (by decide)) hb0.out)
    go_wp2_with fail
    refine hC26.out.mono ?_
    rintro e w26 ⟨rq, rr, rfl, mq, mr, hb⟩
    obtain ⟨rqa, rql, rqc, rfl⟩ := mq.shape
    obtain ⟨rra, rrl, rrc, rfl⟩ := mr.shape
    replace a := Lib.hid (a.out.below hb)
    replace b := Lib.hid (b.out.below hb)
    replace nx := Lib.hid (nx.out.below hb)
    replace ny := Lib.hid (ny.out.below hb)
    replace c := Lib.hid (c.out.below hb)
    replace d := Lib.hid (d.out.below hb)
    replace k := Lib.hid (k.out.below hb)
    replace q := Lib.hid (q.out.below hb)
    replace r := Lib.hid (r.out.below hb)
    replace mq := Lib.hid mq
    replace mr := Lib.hid mr
    replace hE := Lib.hid (hE.out.trans (hb.mono hE.out.size))
    clear hb hC26 
    obtain ⟨qa, ql, qc, qb, qn⟩ := q.out
    have zq := qb.cell
    replace qn := Lib.hid qn
    clear qb
    have hC27 := Lib.hid (is_true qn.out mq.out (Nat.le_trans hQ.out (by decide)) (Nat.le_trans hQ.out (by decide)) 0 0 (.inr ⟨rfl, rfl, rfl⟩))
    go_wp2_with fail
    refine hC27.out.mono ?_
    rintro e w27 ⟨rfl, hb⟩
    replace a := Lib.hid (a.out.below hb)
    replace b := Lib.hid (b.out.below hb)
    replace nx := Lib.hid (nx.out.below hb)
    replace ny := Lib.hid (ny.out.below hb)
    replace c := Lib.hid (c.out.below hb)
    replace d := Lib.hid (d.out.below hb)
    replace k := Lib.hid (k.out.below hb)
    replace q := Lib.hid (q.out.below hb)
    replace r := Lib.hid (r.out.below hb)
    replace mq := Lib.hid (mq.out.below hb)
    replace mr := Lib.hid (mr.out.below hb)
    replace hE := Lib.hid (hE.out.trans (hb.mono hE.out.size))
    clear hb hC27 zq qn
    obtain ⟨ra, rl, rc, rb, rn⟩ := r.out
    have zr := rb.cell
    replace rn := Lib.hid rn
    clear rb
    have hC28 := Lib.hid (is_true rn.out mr.out (Nat.le_trans hR.out (by decide)) (Nat.le_trans hR.out (by decide)) 0 0 (.inr ⟨rfl, rfl, rfl⟩))
    go_wp2_with fail
    refine hC28.out.mono ?_
    rintro e w28 ⟨rfl, hb⟩
    replace a := Lib.hid (a.out.below hb)
    replace b := Lib.hid (b.out.below hb)
    replace nx := Lib.hid (nx.out.below hb)
    replace ny := Lib.hid (ny.out.below hb)
    replace c := Lib.hid (c.out.below hb)
    replace d := Lib.hid (d.out.below hb)
    replace k := Lib.hid (k.out.below hb)
    replace q := Lib.hid (q.out.below hb)
    replace r := Lib.hid (r.out.below hb)
    replace mq := Lib.hid (mq.out.below hb)
    replace mr := Lib.hid (mr.out.below hb)
    replace hE := Lib.hid (hE.out.trans (hb.mono hE.out.size))
    clear hb hC28 zr rn
    obtain ⟨aa, al, ac, ab, an⟩ := a.out
    have za := ab.cell
    replace an := Lib.hid an
    clear ab
    have hC29 := Lib.hid (is_true an.out nx.out (Nat.le_trans hA.out (by decide)) (Nat.le_trans hA.out (by decide)) 0 0 (.inr ⟨rfl, rfl, rfl⟩))
    go_wp2_with fail
    refine hC29.out.mono ?_
    rintro e w29 ⟨rfl, hb⟩
    replace a := Lib.hid (a.out.below hb)
    replace b := Lib.hid (b.out.below hb)
    replace nx := Lib.hid (nx.out.below hb)
    replace ny := Lib.hid (ny.out.below hb)
    replace c := Lib.hid (c.out.below hb)
    replace d := Lib.hid (d.out.below hb)
    replace k := Lib.hid (k.out.below hb)
    replace q := Lib.hid (q.out.below hb)
    replace r := Lib.hid (r.out.below hb)
    replace mq := Lib.hid (mq.out.below hb)
    replace mr := Lib.hid (mr.out.below hb)
    replace hE := Lib.hid (hE.out.trans (hb.mono hE.out.size))
    clear hb hC29 za an
    obtain ⟨ba, bl, bc, bb, bn⟩ := b.out
    have zb := bb.cell
    replace bn := Lib.hid bn
    clear bb
    have hC30 := Lib.hid (is_true bn.out ny.out (Nat.le_trans hB.out (by decide)) (Nat.le_trans hB.out (by decide)) 0 0 (.inr ⟨rfl, rfl, rfl⟩))
    go_wp2_with fail
    refine hC30.out.mono ?_
    rintro e w30 ⟨rfl, hb⟩
    replace a := Lib.hid (a.out.below hb)
    replace b := Lib.hid (b.out.below hb)
    replace nx := Lib.hid (nx.out.below hb)
    replace ny := Lib.hid (ny.out.below hb)
    replace c := Lib.hid (c.out.below hb)
    replace d := Lib.hid (d.out.below hb)
    replace k := Lib.hid (k.out.below hb)
    replace q := Lib.hid (q.out.below hb)
    replace r := Lib.hid (r.out.below hb)
    replace mq := Lib.hid (mq.out.below hb)
    replace mr := Lib.hid (mr.out.below hb)
    replace hE := Lib.hid (hE.out.trans (hb.mono hE.out.size))
    clear hb hC30 zb bn
    go_wp2_with fail
    go_ret
    exact ⟨rfl, hE.out⟩
  · have hge := Lib.hid hl
    have hge0 := cmpN_ge hl
    obtain ⟨cv, hcv0⟩ : ∃ z, cmpN a0 b0 = z := ⟨_, rfl⟩
    rw [hcv0] at hge0
    have hcv := Lib.hid hcv0
    clear hl hcv0
    by_cases h0 : b0 = 0
    · have hb00 := Lib.hid h0
      have hdE : Hid (divE b0 = 1) := Lib.hid (by unfold divE; rw [if_pos h0])
      have hq0 : Hid (a0 / b0 = 0) := Lib.hid (by rw [h0, Nat.div_zero])
      have hr0 : Hid (onDiv b0 (a0 % b0) = 0) := Lib.hid (by unfold onDiv; rw [if_pos h0])
      clear h0
      go_enter Tryd.func7, Tryd.ntmps7
      have hE := Lib.hid (Below.refl w.heap.size w)
      have hC1 := Lib.hid (examples_any w)
      go_wp2_with fail
      refine hC1.out.mono ?_
      rintro e w1 ⟨rfl, hb⟩
      replace hE := Lib.hid (hE.out.trans (hb.mono hE.out.size))
      clear hb hC1 
      have hC2 := Lib.hid (Of_N s w1)
      go_wp2_with fail
      refine hC2.out.mono ?_
      rintro e w2 ⟨va, rfl, na, hb⟩
      obtain ⟨vaa, val, vac, rfl⟩ := na.shape
      rw [hes.out]
      rw [haE.out] at na
      replace na := Lib.hid na
      replace hE := Lib.hid (hE.out.trans (hb.mono hE.out.size))
      clear hb hC2 
      go_upto_region 3 with (fail)
      have hb : Below w2.heap.size w2 (w2.alloc (.cells #[.slice vaa val vac] 26)) := (Below.refl _ _).alloc (Nat.le_refl _) _
      have a' := Var.made na.out
      replace na := Lib.hid (na.out.below hb)
      replace hE := Lib.hid (hE.out.trans (hb.mono hE.out.size))
      have a := Lib.hid a'
      clear hb a'
      obtain ⟨w3, hw⟩ : ∃ W, (w2.alloc (.cells #[.slice vaa val vac] 26)) = W := ⟨_, rfl⟩
      rw [hw] at hE na a ⊢
      clear hw
      obtain ⟨ga, hga⟩ : ∃ g, w2.heap.size = g := ⟨_, rfl⟩
      rw [hga] at a ⊢
      clear hga
      clear na
      have hC4 := Lib.hid (Of_N t w3)
      go_wp2_with fail
      refine hC4.out.mono ?_
      rintro e w4 ⟨vb, rfl, nb, hb⟩
      obtain ⟨vba, vbl, vbc, rfl⟩ := nb.shape
      rw [het.out]
      rw [hbE.out] at nb
      replace a := Lib.hid (a.out.below hb)
      replace nb := Lib.hid nb
      replace hE := Lib.hid (hE.out.trans (hb.mono hE.out.size))
      clear hb hC4 
      go_upto_region 4 with (fail)
      have hb : Below w4.heap.size w4 (w4.alloc (.cells #[.slice vba vbl vbc] 26)) := (Below.refl _ _).alloc (Nat.le_refl _) _
      have b' := Var.made nb.out
      replace a := Lib.hid (a.out.below hb)
      replace nb := Lib.hid (nb.out.below hb)
      replace hE := Lib.hid (hE.out.trans (hb.mono hE.out.size))
      have b := Lib.hid b'
      clear hb b'
      obtain ⟨w5, hw⟩ : ∃ W, (w4.alloc (.cells #[.slice vba vbl vbc] 26)) = W := ⟨_, rfl⟩
      rw [hw] at hE a nb b ⊢
      clear hw
      obtain ⟨gb, hgb⟩ : ∃ g, w4.heap.size = g := ⟨_, rfl⟩
      rw [hgb] at b ⊢
      clear hgb
      clear nb
      have hC6 := Lib.hid (ROf_N s hss w5)
      go_wp2_with fail
      refine hC6.out.mono ?_
      rintro e w6 ⟨vx, rfl, nx, hb⟩
      obtain ⟨vxa, vxl, vxc, rfl⟩ := nx.shape
      rw [hes.out]
      rw [haE.out] at nx
      replace a := Lib.hid (a.out.below hb)
      replace b := Lib.hid (b.out.below hb)
      replace nx := Lib.hid nx
      replace hE := Lib.hid (hE.out.trans (hb.mono hE.out.size))
      clear hb hC6 
      have hC7 := Lib.hid (ROf_N t hst w6)
      go_wp2_with fail
      refine hC7.out.mono ?_
      rintro e w7 ⟨vy, rfl, ny, hb⟩
      obtain ⟨vya, vyl, vyc, rfl⟩ := ny.shape
      rw [het.out]
      rw [hbE.out] at ny
      obtain rfl : vyl = 0 := len_zero (hb00.out ▸ ny)
      replace a := Lib.hid (a.out.below hb)
      replace b := Lib.hid (b.out.below hb)
      replace nx := Lib.hid (nx.out.below hb)
      replace ny := Lib.hid ny
      replace hE := Lib.hid (hE.out.trans (hb.mono hE.out.size))
      clear hb hC7 
      obtain ⟨aa, al, ac, ab, an⟩ := a.out
      have za := ab.cell
      replace an := Lib.hid an
      clear ab
      obtain ⟨ba, bl, bc, bb, bn⟩ := b.out
      have zb := bb.cell
      replace bn := Lib.hid bn
      clear bb
      have hC8 := Lib.hid (Add_N an.out bn.out (Nat.le_trans hA.out (by decide)) (Nat.le_trans hB.out (by decide)))
      go_wp2_with fail
      refine hC8.out.mono ?_
      rintro e w8 ⟨tc, rfl, nc, hb⟩
      obtain ⟨tca, tcl, tcc, rfl⟩ := nc.shape
      rw [fc.out.1]
      rw [fc.out.2.1] at nc
      replace a := Lib.hid (a.out.below hb)
      replace b := Lib.hid (b.out.below hb)
      replace nx := Lib.hid (nx.out.below hb)
      replace ny := Lib.hid (ny.out.below hb)
      replace nc := Lib.hid nc
      replace hE := Lib.hid (hE.out.trans (hb.mono hE.out.size))
      clear hb hC8 za an zb bn
      go_upto_region 7 with (fail)
      have hb : Below w8.heap.size w8 (w8.alloc (.cells #[.slice tca tcl tcc] 26)) := (Below.refl _ _).alloc (Nat.le_refl _) _
      have c' := Var.made nc.out
      replace a := Lib.hid (a.out.below hb)
      replace b := Lib.hid (b.out.below hb)
      replace nx := Lib.hid (nx.out.below hb)
      replace ny := Lib.hid (ny.out.below hb)
      replace nc := Lib.hid (nc.out.below hb)
      replace hE := Lib.hid (hE.out.trans (hb.mono hE.out.size))
      have c := Lib.hid c'
      clear hb c'
      obtain ⟨w9, hw⟩ : ∃ W, (w8.alloc (.cells #[.slice tca tcl tcc] 26)) = W := ⟨_, rfl⟩
      rw [hw] at hE a b nx ny nc c ⊢
      clear hw
      obtain ⟨gc, hgc⟩ : ∃ g, w8.heap.size = g := ⟨_, rfl⟩
      rw [hgc] at c ⊢
      clear hgc
      clear nc
      have hC10 := Lib.hid (RAdd_N nx.out ny.out (Nat.le_trans hA.out (by decide)) (Nat.le_trans hB.out (by decide)))
      go_wp2_with fail
      refine hC10.out.mono ?_
      rintro e w10 ⟨rc, rfl, mc, hb⟩
      obtain ⟨rca, rcl, rcc, rfl⟩ := mc.shape
      replace a := Lib.hid (a.out.below hb)
      replace b := Lib.hid (b.out.below hb)
      replace nx := Lib.hid (nx.out.below hb)
      replace ny := Lib.hid (ny.out.below hb)
      replace c := Lib.hid (c.out.below hb)
      replace mc := Lib.hid mc
      replace hE := Lib.hid (hE.out.trans (hb.mono hE.out.size))
      clear hb hC10 
      obtain ⟨ca, cl, cc, cb, cn⟩ := c.out
      have zc := cb.cell
      replace cn := Lib.hid cn
      clear cb
      go_upto_region 8 with (fail)
      have hb : Below w10.heap.size w10 w10.drew := (Below.refl _ _).drew
      replace a := Lib.hid (a.out.below hb)
      replace b := Lib.hid (b.out.below hb)
      replace nx := Lib.hid (nx.out.below hb)
      replace ny := Lib.hid (ny.out.below hb)
      replace c := Lib.hid (c.out.below hb)
      replace mc := Lib.hid (mc.out.below hb)
      replace cn := Lib.hid (cn.out.below hb)
      replace zc := (hb.cell (World.block_lt_of_cell? _ _ zc)).trans zc
      replace hE := Lib.hid (hE.out.trans (hb.mono hE.out.size))
      clear hb
      refine Rt.wp_region_ordM [1, 0, 0, 0, 2, 2, 0] [0, 1, 2, 3, 4, 5, 6] (by kernel_rfl) (by kernel_rfl) ?_
      obtain ⟨w11, hw⟩ : ∃ W, w10.drew = W := ⟨_, rfl⟩
      rw [hw] at hE a b nx ny c mc cn zc ⊢
      clear hw
      apply ord_read rfl rfl rfl; (· (intro W hW; have g0 := cell_up hW zc; go_simp; with_reducible rfl)); (· (simp only [Act.put, Act.eval, List.setIfInBounds_toArray, List.set_cons_zero, List.set_cons_succ, Array.getD_eq_getD_getElem?, List.getElem?_toArray, List.getElem?_cons_zero, List.getElem?_cons_succ, Option.getD_some, List.getElem_toArray, List.getElem_cons_succ, List.getElem_cons_zero]; with_reducible rfl))
      apply ord_move rfl rfl rfl rfl; (· (simp only [Act.put, Act.eval, List.setIfInBounds_toArray, List.set_cons_zero, List.set_cons_succ, Array.getD_eq_getD_getElem?, List.getElem?_toArray, List.getElem?_cons_zero, List.getElem?_cons_succ, Option.getD_some, List.getElem_toArray, List.getElem_cons_succ, List.getElem_cons_zero]; with_reducible rfl))
      apply ord_move rfl rfl rfl rfl; (· (simp only [Act.put, Act.eval, List.setIfInBounds_toArray, List.set_cons_zero, List.set_cons_succ, Array.getD_eq_getD_getElem?, List.getElem?_toArray, List.getElem?_cons_zero, List.getElem?_cons_succ, Option.getD_some, List.getElem_toArray, List.getElem_cons_succ, List.getElem_cons_zero]; with_reducible rfl))
      apply ord_move rfl rfl rfl rfl; (· (simp only [Act.put, Act.eval, List.setIfInBounds_toArray, List.set_cons_zero, List.set_cons_succ, Array.getD_eq_getD_getElem?, List.getElem?_toArray, List.getElem?_cons_zero, List.getElem?_cons_succ, Option.getD_some, List.getElem_toArray, List.getElem_cons_succ, List.getElem_cons_zero]; with_reducible rfl))
      refine ord_call rfl rfl rfl (by go_simp; exact ⟨rfl, rfl⟩) ?_
      refine (Long_B mc.out (Nat.le_trans hS.out (by decide))).mono ?_
      rintro e w12 ⟨rfl, hb⟩
      refine ⟨_, rfl, hb, ?_⟩
      rw [fc.out.1]
      replace a := Lib.hid (a.out.below hb)
      replace b := Lib.hid (b.out.below hb)
      replace nx := Lib.hid (nx.out.below hb)
      replace ny := Lib.hid (ny.out.below hb)
      replace c := Lib.hid (c.out.below hb)
      replace mc := Lib.hid (mc.out.below hb)
      replace cn := Lib.hid (cn.out.below hb)
      replace zc := (hb.cell (World.block_lt_of_cell? _ _ zc)).trans zc
      replace hE := Lib.hid (hE.out.trans (hb.mono hE.out.size))
      clear hb
      simp only [Act.put, Act.eval, List.setIfInBounds_toArray, List.set_cons_zero, List.set_cons_succ, Array.getD_eq_getD_getElem?, List.getElem?_toArray, List.getElem?_cons_zero, List.getElem?_cons_succ, Option.getD_some, List.getElem_toArray, List.getElem_cons_succ, List.getElem_cons_zero]
      refine ord_call rfl rfl rfl (by go_simp; exact ⟨rfl, rfl⟩) ?_
      refine (is_true cn.out mc.out (Nat.le_trans hC.out (by decide)) (Nat.le_trans hS.out (by decide)) ec ec (cap_is fc.out.2.2)).mono ?_
      rintro e w13 ⟨rfl, hb⟩
      refine ⟨_, rfl, hb, ?_⟩
      replace a := Lib.hid (a.out.below hb)
      replace b := Lib.hid (b.out.below hb)
      replace nx := Lib.hid (nx.out.below hb)
      replace ny := Lib.hid (ny.out.below hb)
      replace c := Lib.hid (c.out.below hb)
      replace mc := Lib.hid (mc.out.below hb)
      replace cn := Lib.hid (cn.out.below hb)
      replace zc := (hb.cell (World.block_lt_of_cell? _ _ zc)).trans zc
      replace hE := Lib.hid (hE.out.trans (hb.mono hE.out.size))
      clear hb
      simp only [Act.put, Act.eval, List.setIfInBounds_toArray, List.set_cons_zero, List.set_cons_succ, Array.getD_eq_getD_getElem?, List.getElem?_toArray, List.getElem?_cons_zero, List.getElem?_cons_succ, Option.getD_some, List.getElem_toArray, List.getElem_cons_succ, List.getElem_cons_zero]
      apply ord_assign rfl rfl rfl rfl; (· (simp only [Act.put, Act.eval, List.setIfInBounds_toArray, List.set_cons_zero, List.set_cons_succ, Array.getD_eq_getD_getElem?, List.getElem?_toArray, List.getElem?_cons_zero, List.getElem?_cons_succ, Option.getD_some, List.getElem_toArray, List.getElem_cons_succ, List.getElem_cons_zero]; with_reducible rfl))
      with_reducible refine ord_nil ?_
      clear zc cn
      clear mc
      obtain ⟨aa, al, ac, ab, an⟩ := a.out
      have za := ab.cell
      replace an := Lib.hid an
      clear ab
      obtain ⟨ba, bl, bc, bb, bn⟩ := b.out
      have zb := bb.cell
      replace bn := Lib.hid bn
      clear bb
      have hC14 := Lib.hid (Mul_N an.out bn.out (Nat.le_trans hA.out (by decide)) (Nat.le_trans hB.out (by decide)))
      go_wp2_with fail
      refine hC14.out.mono ?_
      rintro e w14 ⟨td, rfl, nd, hb⟩
      obtain ⟨tda, tdl, tdc, rfl⟩ := nd.shape
      rw [fd.out.1]
      rw [fd.out.2.1] at nd
      replace a := Lib.hid (a.out.below hb)
      replace b := Lib.hid (b.out.below hb)
      replace nx := Lib.hid (nx.out.below hb)
      replace ny := Lib.hid (ny.out.below hb)
      replace c := Lib.hid (c.out.below hb)
      replace nd := Lib.hid nd
      replace hE := Lib.hid (hE.out.trans (hb.mono hE.out.size))
      clear hb hC14 za an zb bn
      go_upto_region 10 with (fail)
      have hb : Below w14.heap.size w14 (w14.alloc (.cells #[.slice tda tdl tdc] 26)) := (Below.refl _ _).alloc (Nat.le_refl _) _
      have d' := Var.made nd.out
      replace a := Lib.hid (a.out.below hb)
      replace b := Lib.hid (b.out.below hb)
      replace nx := Lib.hid (nx.out.below hb)
      replace ny := Lib.hid (ny.out.below hb)
      replace c := Lib.hid (c.out.below hb)
      replace nd := Lib.hid (nd.out.below hb)
      replace hE := Lib.hid (hE.out.trans (hb.mono hE.out.size))
      have d := Lib.hid d'
      clear hb d'
      obtain ⟨w15, hw⟩ : ∃ W, (w14.alloc (.cells #[.slice tda tdl tdc] 26)) = W := ⟨_, rfl⟩
      rw [hw] at hE a b nx ny c nd d ⊢
      clear hw
      obtain ⟨gd, hgd⟩ : ∃ g, w14.heap.size = g := ⟨_, rfl⟩
      rw [hgd] at d ⊢
      clear hgd
      clear nd
      have hC16 := Lib.hid (RMul_N nx.out ny.out (Nat.le_trans hA.out (by decide)) (Nat.le_trans hB.out (by decide)))
      go_wp2_with fail
      refine hC16.out.mono ?_
      rintro e w16 ⟨rd, rfl, md, hb⟩
      obtain ⟨rda, rdl, rdc, rfl⟩ := md.shape
      replace a := Lib.hid (a.out.below hb)
      replace b := Lib.hid (b.out.below hb)
      replace nx := Lib.hid (nx.out.below hb)
      replace ny := Lib.hid (ny.out.below hb)
      replace c := Lib.hid (c.out.below hb)
      replace d := Lib.hid (d.out.below hb)
      replace md := Lib.hid md
      replace hE := Lib.hid (hE.out.trans (hb.mono hE.out.size))
      clear hb hC16 
      obtain ⟨da, dl, dc, db, dn⟩ := d.out
      have zd := db.cell
      replace dn := Lib.hid dn
      clear db
      go_upto_region 11 with (fail)
      have hb : Below w16.heap.size w16 w16.drew := (Below.refl _ _).drew
      replace a := Lib.hid (a.out.below hb)
      replace b := Lib.hid (b.out.below hb)
      replace nx := Lib.hid (nx.out.below hb)
      replace ny := Lib.hid (ny.out.below hb)
      replace c := Lib.hid (c.out.below hb)
      replace d := Lib.hid (d.out.below hb)
      replace md := Lib.hid (md.out.below hb)
      replace dn := Lib.hid (dn.out.below hb)
      replace zd := (hb.cell (World.block_lt_of_cell? _ _ zd)).trans zd
      replace hE := Lib.hid (hE.out.trans (hb.mono hE.out.size))
      clear hb
      refine Rt.wp_region_ordM [1, 0, 0, 0, 2, 2, 0] [0, 1, 2, 3, 4, 5, 6] (by kernel_rfl) (by kernel_rfl) ?_
      obtain ⟨w17, hw⟩ : ∃ W, w16.drew = W := ⟨_, rfl⟩
      rw [hw] at hE a b nx ny c d md dn zd ⊢
      clear hw
      apply ord_read rfl rfl rfl; (· (intro W hW; have g0 := cell_up hW zd; go_simp; with_reducible rfl)); (· (simp only [Act.put, Act.eval, List.setIfInBounds_toArray, List.set_cons_zero, List.set_cons_succ, Array.getD_eq_getD_getElem?, List.getElem?_toArray, List.getElem?_cons_zero, List.getElem?_cons_succ, Option.getD_some, List.getElem_toArray, List.getElem_cons_succ, List.getElem_cons_zero]; with_reducible rfl))
      apply ord_move rfl rfl rfl rfl; (· (simp only [Act.put, Act.eval, List.setIfInBounds_toArray, List.set_cons_zero, List.set_cons_succ, Array.getD_eq_getD_getElem?, List.getElem?_toArray, List.getElem?_cons_zero, List.getElem?_cons_succ, Option.getD_some, List.getElem_toArray, List.getElem_cons_succ, List.getElem_cons_zero]; with_reducible rfl))
      apply ord_move rfl rfl rfl rfl; (· (simp only [Act.put, Act.eval, List.setIfInBounds_toArray, List.set_cons_zero, List.set_cons_succ, Array.getD_eq_getD_getElem?, List.getElem?_toArray, List.getElem?_cons_zero, List.getElem?_cons_succ, Option.getD_some, List.getElem_toArray, List.getElem_cons_succ, List.getElem_cons_zero]; with_reducible rfl))
      apply ord_move rfl rfl rfl rfl; (· (simp only [Act.put, Act.eval, List.setIfInBounds_toArray, List.set_cons_zero, List.set_cons_succ, Array.getD_eq_getD_getElem?, List.getElem?_toArray, List.getElem?_cons_zero, List.getElem?_cons_succ, Option.getD_some, List.getElem_toArray, List.getElem_cons_succ, List.getElem_cons_zero]; with_reducible rfl))
      refine ord_call rfl rfl rfl (by go_simp; exact ⟨rfl, rfl⟩) ?_
      refine (Long_B md.out (Nat.le_trans hP.out (by decide))).mono ?_
      rintro e w18 ⟨rfl, hb⟩
      refine ⟨_, rfl, hb, ?_⟩
      rw [fd.out.1]
      replace a := Lib.hid (a.out.below hb)
      replace b := Lib.hid (b.out.below hb)
      replace nx := Lib.hid (nx.out.below hb)
      replace ny := Lib.hid (ny.out.below hb)
      replace c := Lib.hid (c.out.below hb)
      replace d := Lib.hid (d.out.below hb)
      replace md := Lib.hid (md.out.below hb)
      replace dn := Lib.hid (dn.out.below hb)
      replace zd := (hb.cell (World.block_lt_of_cell? _ _ zd)).trans zd
      replace hE := Lib.hid (hE.out.trans (hb.mono hE.out.size))
      clear hb
      simp only [Act.put, Act.eval, List.setIfInBounds_toArray, List.set_cons_zero, List.set_cons_succ, Array.getD_eq_getD_getElem?, List.getElem?_toArray, List.getElem?_cons_zero, List.getElem?_cons_succ, Option.getD_some, List.getElem_toArray, List.getElem_cons_succ, List.getElem_cons_zero]
      refine ord_call rfl rfl rfl (by go_simp; exact ⟨rfl, rfl⟩) ?_
      refine (is_true dn.out md.out (Nat.le_trans hD.out (by decide)) (Nat.le_trans hP.out (by decide)) ed ed (cap_is fd.out.2.2)).mono ?_
      rintro e w19 ⟨rfl, hb⟩
      refine ⟨_, rfl, hb, ?_⟩
      replace a := Lib.hid (a.out.below hb)
      replace b := Lib.hid (b.out.below hb)
      replace nx := Lib.hid (nx.out.below hb)
      replace ny := Lib.hid (ny.out.below hb)
      replace c := Lib.hid (c.out.below hb)
      replace d := Lib.hid (d.out.below hb)
      replace md := Lib.hid (md.out.below hb)
      replace dn := Lib.hid (dn.out.below hb)
      replace zd := (hb.cell (World.block_lt_of_cell? _ _ zd)).trans zd
      replace hE := Lib.hid (hE.out.trans (hb.mono hE.out.size))
      clear hb
      simp only [Act.put, Act.eval, List.setIfInBounds_toArray, List.set_cons_zero, List.set_cons_succ, Array.getD_eq_getD_getElem?, List.getElem?_toArray, List.getElem?_cons_zero, List.getElem?_cons_succ, Option.getD_some, List.getElem_toArray, List.getElem_cons_succ, List.getElem_cons_zero]
      apply ord_assign rfl rfl rfl rfl; (· (simp only [Act.put, Act.eval, List.setIfInBounds_toArray, List.set_cons_zero, List.set_cons_succ, Array.getD_eq_getD_getElem?, List.getElem?_toArray, List.getElem?_cons_zero, List.getElem?_cons_succ, Option.getD_some, List.getElem_toArray, List.getElem_cons_succ, List.getElem_cons_zero]; with_reducible rfl))
      with_reducible refine ord_nil ?_
      clear zd dn
      clear md
      obtain ⟨aa, al, ac, ab, an⟩ := a.out
      have za := ab.cell
      replace an := Lib.hid an
      clear ab
      obtain ⟨ba, bl, bc, bb, bn⟩ := b.out
      have zb := bb.cell
      replace bn := Lib.hid bn
      clear bb
      have hC20 := Lib.hid (Sub_N an.out bn.out (Nat.le_trans hA.out (by decide)) (Nat.le_trans hB.out (by decide)))
      go_wp2_with fail
      refine hC20.out.mono ?_
      rintro e w20 ⟨tk, rfl, nk, hb⟩
      obtain ⟨tka, tkl, tkc, rfl⟩ := nk.shape
      rw [if_neg hge.out]
      replace a := Lib.hid (a.out.below hb)
      replace b := Lib.hid (b.out.below hb)
      replace nx := Lib.hid (nx.out.below hb)
      replace ny := Lib.hid (ny.out.below hb)
      replace c := Lib.hid (c.out.below hb)
      replace d := Lib.hid (d.out.below hb)
      replace nk := Lib.hid nk
      replace hE := Lib.hid (hE.out.trans (hb.mono hE.out.size))
      clear hb hC20 za an zb bn
      go_upto_region 13 with (fail)
      have hb : Below w20.heap.size w20 (w20.alloc (.cells #[.slice tka tkl tkc] 26)) := (Below.refl _ _).alloc (Nat.le_refl _) _
      have k' := Var.made nk.out
      replace a := Lib.hid (a.out.below hb)
      replace b := Lib.hid (b.out.below hb)
      replace nx := Lib.hid (nx.out.below hb)
      replace ny := Lib.hid (ny.out.below hb)
      replace c := Lib.hid (c.out.below hb)
      replace d := Lib.hid (d.out.below hb)
      replace nk := Lib.hid (nk.out.below hb)
      replace hE := Lib.hid (hE.out.trans (hb.mono hE.out.size))
      have k := Lib.hid k'
      clear hb k'
      obtain ⟨w21, hw⟩ : ∃ W, (w20.alloc (.cells #[.slice tka tkl tkc] 26)) = W := ⟨_, rfl⟩
      rw [hw] at hE a b nx ny c d nk k ⊢
      clear hw
      obtain ⟨gk, hgk⟩ : ∃ g, w20.heap.size = g := ⟨_, rfl⟩
      rw [hgk] at k ⊢
      clear hgk
      clear nk
      have hC22 := Lib.hid (RCmp_N nx.out ny.out (Nat.le_trans hA.out (by decide)) (Nat.le_trans hB.out (by decide)))
      go_wp2_with fail
      refine hC22.out.mono ?_
      rintro e w22 ⟨rfl, hb⟩
      rw [hcv.out]
      replace a := Lib.hid (a.out.below hb)
      replace b := Lib.hid (b.out.below hb)
      replace nx := Lib.hid (nx.out.below hb)
      replace ny := Lib.hid (ny.out.below hb)
      replace c := Lib.hid (c.out.below hb)
      replace d := Lib.hid (d.out.below hb)
      replace k := Lib.hid (k.out.below hb)
      replace hE := Lib.hid (hE.out.trans (hb.mono hE.out.size))
      clear hb hC22 
      obtain ⟨ka, kl, kc, kb, kn⟩ := k.out
      have zk := kb.cell
      replace kn := Lib.hid kn
      clear kb
      go_upto_region 15 with (fail)
      have hb : Below w22.heap.size w22 w22.drew := (Below.refl _ _).drew
      replace a := Lib.hid (a.out.below hb)
      replace b := Lib.hid (b.out.below hb)
      replace nx := Lib.hid (nx.out.below hb)
      replace ny := Lib.hid (ny.out.below hb)
      replace c := Lib.hid (c.out.below hb)
      replace d := Lib.hid (d.out.below hb)
      replace k := Lib.hid (k.out.below hb)
      replace kn := Lib.hid (kn.out.below hb)
      replace zk := (hb.cell (World.block_lt_of_cell? _ _ zk)).trans zk
      replace hE := Lib.hid (hE.out.trans (hb.mono hE.out.size))
      clear hb
      refine Rt.wp_region_ordM [1, 0, 0, 0, 2, 2, 0] [0, 1, 2, 3, 4, 5, 6] (by kernel_rfl) (by kernel_rfl) ?_
      obtain ⟨w23, hw⟩ : ∃ W, w22.drew = W := ⟨_, rfl⟩
      rw [hw] at hE a b nx ny c d k kn zk ⊢
      clear hw
      apply ord_read rfl rfl rfl; (· (intro W hW; have g0 := cell_up hW zk; go_simp; with_reducible rfl)); (· (simp only [Act.put, Act.eval, List.setIfInBounds_toArray, List.set_cons_zero, List.set_cons_succ, Array.getD_eq_getD_getElem?, List.getElem?_toArray, List.getElem?_cons_zero, List.getElem?_cons_succ, Option.getD_some, List.getElem_toArray, List.getElem_cons_succ, List.getElem_cons_zero]; with_reducible rfl))
      apply ord_move rfl rfl rfl rfl; (· (simp only [Act.put, Act.eval, List.setIfInBounds_toArray, List.set_cons_zero, List.set_cons_succ, Array.getD_eq_getD_getElem?, List.getElem?_toArray, List.getElem?_cons_zero, List.getElem?_cons_succ, Option.getD_some, List.getElem_toArray, List.getElem_cons_succ, List.getElem_cons_zero]; with_reducible rfl))
      apply ord_move rfl rfl rfl rfl; (· (simp only [Act.put, Act.eval, List.setIfInBounds_toArray, List.set_cons_zero, List.set_cons_succ, Array.getD_eq_getD_getElem?, List.getElem?_toArray, List.getElem?_cons_zero, List.getElem?_cons_succ, Option.getD_some, List.getElem_toArray, List.getElem_cons_succ, List.getElem_cons_zero]; with_reducible rfl))
      apply ord_move rfl rfl rfl rfl; (· (simp only [Act.put, Act.eval, List.setIfInBounds_toArray, List.set_cons_zero, List.set_cons_succ, Array.getD_eq_getD_getElem?, List.getElem?_toArray, List.getElem?_cons_zero, List.getElem?_cons_succ, Option.getD_some, List.getElem_toArray, List.getElem_cons_succ, List.getElem_cons_zero]; with_reducible rfl))
      refine ord_call rfl rfl rfl (by go_simp; exact ⟨rfl, rfl⟩) ?_
      refine (RSub_N nx.out ny.out (Nat.le_trans hA.out (by decide)) (Nat.le_trans hB.out (by decide)) (Nat.not_lt.1 hge.out)).mono ?_
      rintro e w24 ⟨rk, rfl, mk, hb, -⟩
      obtain ⟨rka, rkl, rkc, rfl⟩ := mk.shape
      refine ⟨_, rfl, hb, ?_⟩
      replace a := Lib.hid (a.out.below hb)
      replace b := Lib.hid (b.out.below hb)
      replace nx := Lib.hid (nx.out.below hb)
      replace ny := Lib.hid (ny.out.below hb)
      replace c := Lib.hid (c.out.below hb)
      replace d := Lib.hid (d.out.below hb)
      replace k := Lib.hid (k.out.below hb)
      replace kn := Lib.hid (kn.out.below hb)
      replace zk := (hb.cell (World.block_lt_of_cell? _ _ zk)).trans zk
      replace hE := Lib.hid (hE.out.trans (hb.mono hE.out.size))
      replace mk := Lib.hid mk
      clear hb
      simp only [Act.put, Act.eval, List.setIfInBounds_toArray, List.set_cons_zero, List.set_cons_succ, Array.getD_eq_getD_getElem?, List.getElem?_toArray, List.getElem?_cons_zero, List.getElem?_cons_succ, Option.getD_some, List.getElem_toArray, List.getElem_cons_succ, List.getElem_cons_zero]
      refine ord_call rfl rfl rfl (by go_simp; exact ⟨rfl, rfl⟩) ?_
      refine (is_true kn.out mk.out (Nat.le_trans hK.out (by decide)) (Nat.le_trans hK.out (by decide)) 0 0 (.inr ⟨rfl, rfl, rfl⟩)).mono ?_
      rintro e w25 ⟨rfl, hb⟩
      refine ⟨_, rfl, hb, ?_⟩
      replace a := Lib.hid (a.out.below hb)
      replace b := Lib.hid (b.out.below hb)
      replace nx := Lib.hid (nx.out.below hb)
      replace ny := Lib.hid (ny.out.below hb)
      replace c := Lib.hid (c.out.below hb)
      replace d := Lib.hid (d.out.below hb)
      replace k := Lib.hid (k.out.below hb)
      replace mk := Lib.hid (mk.out.below hb)
      replace kn := Lib.hid (kn.out.below hb)
      replace zk := (hb.cell (World.block_lt_of_cell? _ _ zk)).trans zk
      replace hE := Lib.hid (hE.out.trans (hb.mono hE.out.size))
      clear hb
      simp only [Act.put, Act.eval, List.setIfInBounds_toArray, List.set_cons_zero, List.set_cons_succ, Array.getD_eq_getD_getElem?, List.getElem?_toArray, List.getElem?_cons_zero, List.getElem?_cons_succ, Option.getD_some, List.getElem_toArray, List.getElem_cons_succ, List.getElem_cons_zero]
      apply ord_assign rfl rfl rfl rfl; (· (simp only [Act.put, Act.eval, List.setIfInBounds_toArray, List.set_cons_zero, List.set_cons_succ, Array.getD_eq_getD_getElem?, List.getElem?_toArray, List.getElem?_cons_zero, List.getElem?_cons_succ, Option.getD_some, List.getElem_toArray, List.getElem_cons_succ, List.getElem_cons_zero]; with_reducible rfl))
      with_reducible refine ord_nil ?_
      clear zk kn
      clear mk
      obtain ⟨aa, al, ac, ab, an⟩ := a.out
      have za := ab.cell
      replace an := Lib.hid an
      clear ab
      obtain ⟨ba, bl, bc, bb, bn⟩ := b.out
      have zb := bb.cell
      replace bn := Lib.hid bn
      clear bb
      have hC26 := Lib.hid (Div_N an.out bn.out (Nat.le_trans hA.out (by decide)) (Nat.le_trans hB.out (by decide)))
      go_wp2_with fail
      refine hC26.out.mono ?_
      rintro e w26 ⟨tq, tr, rfl, nq, nr, hb⟩
      obtain ⟨tqa, tql, tqc, rfl⟩ := nq.shape
      obtain ⟨tra, trl, trc, rfl⟩ := nr.shape
      rw [hdE.out]
      rw [hq0.out] at nq
      rw [hr0.out] at nr
      replace a := Lib.hid (a.out.below hb)
      replace b := Lib.hid (b.out.below hb)
      replace nx := Lib.hid (nx.out.below hb)
      replace ny := Lib.hid (ny.out.below hb)
      replace c := Lib.hid (c.out.below hb)
      replace d := Lib.hid (d.out.below hb)
      replace k := Lib.hid (k.out.below hb)
      replace nq := Lib.hid nq
      replace nr := Lib.hid nr
      replace hE := Lib.hid (hE.out.trans (hb.mono hE.out.size))
      clear hb hC26 za an zb bn
      go_upto_region 17 with (fail)
      have hb : Below w26.heap.size w26 (w26.alloc (.cells #[.slice tqa tql tqc] 26)) := (Below.refl _ _).alloc (Nat.le_refl _) _
      have q' := Var.made nq.out
      replace a := Lib.hid (a.out.below hb)
      replace b := Lib.hid (b.out.below hb)
      replace nx := Lib.hid (nx.out.below hb)
      replace ny := Lib.hid (ny.out.below hb)
      replace c := Lib.hid (c.out.below hb)
      replace d := Lib.hid (d.out.below hb)
      replace k := Lib.hid (k.out.below hb)
      replace nq := Lib.hid (nq.out.below hb)
      replace nr := Lib.hid (nr.out.below hb)
      replace hE := Lib.hid (hE.out.trans (hb.mono hE.out.size))
      have q := Lib.hid q'
      clear hb q'
      have hb : Below (w26.alloc (.cells #[.slice tqa tql tqc] 26)).heap.size (w26.alloc (.cells #[.slice tqa tql tqc] 26)) ((w26.alloc (.cells #[.slice tqa tql tqc] 26)).alloc (.cells #[.slice tra trl trc] 26)) := (Below.refl _ _).alloc (Nat.le_refl _) _
      have r' := Var.made nr.out
      replace a := Lib.hid (a.out.below hb)
      replace b := Lib.hid (b.out.below hb)
      replace nx := Lib.hid (nx.out.below hb)
      replace ny := Lib.hid (ny.out.below hb)
      replace c := Lib.hid (c.out.below hb)
      replace d := Lib.hid (d.out.below hb)
      replace k := Lib.hid (k.out.below hb)
      replace nq := Lib.hid (nq.out.below hb)
      replace nr := Lib.hid (nr.out.below hb)
      replace q := Lib.hid (q.out.below hb)
      replace hE := Lib.hid (hE.out.trans (hb.mono hE.out.size))
      have r := Lib.hid r'
      clear hb r'
      simp only [World.size_alloc] at r
      obtain ⟨w27, hw⟩ : ∃ W, ((w26.alloc (.cells #[.slice tqa tql tqc] 26)).alloc (.cells #[.slice tra trl trc] 26)) = W := ⟨_, rfl⟩
      rw [hw] at hE a b nx ny c d k nq nr q r ⊢
      clear hw
      obtain ⟨gq, hgq⟩ : ∃ g, w26.heap.size = g := ⟨_, rfl⟩
      obtain ⟨gr, hgr⟩ : ∃ g, w26.heap.size + 1 = g := ⟨_, rfl⟩
      rw [hgr] at r ⊢
      rw [hgq] at q ⊢
      clear hgq hgr
      clear nq
      clear nr
      obtain ⟨qa, ql, qc, qb, qn⟩ := q.out
      have zq := qb.cell
      replace qn := Lib.hid qn
      clear qb
      have hC28 := Lib.hid (qn.out.bits (by decide))
      go_wp2_with fail
      refine hC28.out.mono ?_
      rintro e w28 ⟨rfl, hb⟩
      rw [blen_zero]
      replace a := Lib.hid (a.out.below hb)
      replace b := Lib.hid (b.out.below hb)
      replace nx := Lib.hid (nx.out.below hb)
      replace ny := Lib.hid (ny.out.below hb)
      replace c := Lib.hid (c.out.below hb)
      replace d := Lib.hid (d.out.below hb)
      replace k := Lib.hid (k.out.below hb)
      replace q := Lib.hid (q.out.below hb)
      replace r := Lib.hid (r.out.below hb)
      replace hE := Lib.hid (hE.out.trans (hb.mono hE.out.size))
      clear hb hC28 zq qn
      obtain ⟨ra, rl, rc, rb, rn⟩ := r.out
      have zr := rb.cell
      replace rn := Lib.hid rn
      clear rb
      have hC29 := Lib.hid (rn.out.bits (by decide))
      go_wp2_with fail
      refine hC29.out.mono ?_
      rintro e w29 ⟨rfl, hb⟩
      rw [blen_zero]
      replace a := Lib.hid (a.out.below hb)
      replace b := Lib.hid (b.out.below hb)
      replace nx := Lib.hid (nx.out.below hb)
      replace ny := Lib.hid (ny.out.below hb)
      replace c := Lib.hid (c.out.below hb)
      replace d := Lib.hid (d.out.below hb)
      replace k := Lib.hid (k.out.below hb)
      replace q := Lib.hid (q.out.below hb)
      replace r := Lib.hid (r.out.below hb)
      replace hE := Lib.hid (hE.out.trans (hb.mono hE.out.size))
      clear hb hC29 zr rn
      obtain ⟨aa, al, ac, ab, an⟩ := a.out
      have za := ab.cell
      replace an := Lib.hid an
      clear ab
      have hC30 := Lib.hid (is_true an.out nx.out (Nat.le_trans hA.out (by decide)) (Nat.le_trans hA.out (by decide)) 0 0 (.inr ⟨rfl, rfl, rfl⟩))
      go_wp2_with fail
      refine hC30.out.mono ?_
      rintro e w30 ⟨rfl, hb⟩
      replace a := Lib.hid (a.out.below hb)
      replace b := Lib.hid (b.out.below hb)
      replace nx := Lib.hid (nx.out.below hb)
      replace ny := Lib.hid (ny.out.below hb)
      replace c := Lib.hid (c.out.below hb)
      replace d := Lib.hid (d.out.below hb)
      replace k := Lib.hid (k.out.below hb)
      replace q := Lib.hid (q.out.below hb)
      replace r := Lib.hid (r.out.below hb)
      replace hE := Lib.hid (hE.out.trans (hb.mono hE.out.size))
      clear hb hC30 za an
      obtain ⟨ba, bl, bc, bb, bn⟩ := b.out
      have zb := bb.cell
      replace bn := Lib.hid bn
      clear bb
      have hC31 := Lib.hid (is_true bn.out ny.out (Nat.le_trans hB.out (by decide)) (Nat.le_trans hB.out (by decide)) 0 0 (.inr ⟨rfl, rfl, rfl⟩))
      go_wp2_with fail
      refine hC31.out.mono ?_
      rintro e w31 ⟨rfl, hb⟩
      replace a := Lib.hid (a.out.below hb)
      replace b := Lib.hid (b.out.below hb)
      replace nx := Lib.hid (nx.out.below hb)
      replace ny := Lib.hid (ny.out.below hb)
      replace c := Lib.hid (c.out.below hb)
      replace d := Lib.hid (d.out.below hb)
      replace k := Lib.hid (k.out.below hb)
      replace q := Lib.hid (q.out.below hb)
      replace r := Lib.hid (r.out.below hb)
      replace hE := Lib.hid (hE.out.trans (hb.mono hE.out.size))
      clear hb hC31 zb bn
      go_wp2_with fail
      go_ret
      exact ⟨rfl, hE.out⟩
    · have hb0 := Lib.hid h0
      have hdE : Hid (divE b0 = 0) := Lib.hid (by unfold divE; rw [if_neg h0])
      have hr0 : Hid (onDiv b0 (a0 % b0) = a0 % b0) := Lib.hid (by unfold onDiv; rw [if_neg h0])
      clear h0
      go_enter Tryd.func7, Tryd.ntmps7
      have hE := Lib.hid (Below.refl w.heap.size w)
      have hC1 := Lib.hid (examples_any w)
      go_wp2_with fail
      refine hC1.out.mono ?_
      rintro e w1 ⟨rfl, hb⟩
      replace hE := Lib.hid (hE.out.trans (hb.mono hE.out.size))
      clear hb hC1 
      have hC2 := Lib.hid (Of_N s w1)
      go_wp2_with fail
      refine hC2.out.mono ?_
      rintro e w2 ⟨va, rfl, na, hb⟩
      obtain ⟨vaa, val, vac, rfl⟩ := na.shape
      rw [hes.out]
      rw [haE.out] at na
      replace na := Lib.hid na
      replace hE := Lib.hid (hE.out.trans (hb.mono hE.out.size))
      clear hb hC2 
      go_upto_region 3 with (fail)
      have hb : Below w2.heap.size w2 (w2.alloc (.cells #[.slice vaa val vac] 26)) := (Below.refl _ _).alloc (Nat.le_refl _) _
      have a' := Var.made na.out
      replace na := Lib.hid (na.out.below hb)
      replace hE := Lib.hid (hE.out.trans (hb.mono hE.out.size))
      have a := Lib.hid a'
      clear hb a'
      obtain ⟨w3, hw⟩ : ∃ W, (w2.alloc (.cells #[.slice vaa val vac] 26)) = W := ⟨_, rfl⟩
      rw [hw] at hE na a ⊢
      clear hw
      obtain ⟨ga, hga⟩ : ∃ g, w2.heap.size = g := ⟨_, rfl⟩
      rw [hga] at a ⊢
      clear hga
      clear na
      have hC4 := Lib.hid (Of_N t w3)
      go_wp2_with fail
      refine hC4.out.mono ?_
      rintro e w4 ⟨vb, rfl, nb, hb⟩
      obtain ⟨vba, vbl, vbc, rfl⟩ := nb.shape
      rw [het.out]
      rw [hbE.out] at nb
      replace a := Lib.hid (a.out.below hb)
      replace nb := Lib.hid nb
      replace hE := Lib.hid (hE.out.trans (hb.mono hE.out.size))
      clear hb hC4 
      go_upto_region 4 with (fail)
      have hb : Below w4.heap.size w4 (w4.alloc (.cells #[.slice vba vbl vbc] 26)) := (Below.refl _ _).alloc (Nat.le_refl _) _
      have b' := Var.made nb.out
      replace a := Lib.hid (a.out.below hb)
      replace nb := Lib.hid (nb.out.below hb)
      replace hE := Lib.hid (hE.out.trans (hb.mono hE.out.size))
      have b := Lib.hid b'
      clear hb b'
      obtain ⟨w5, hw⟩ : ∃ W, (w4.alloc (.cells #[.slice vba vbl vbc] 26)) = W := ⟨_, rfl⟩
      rw [hw] at hE a nb b ⊢
      clear hw
      obtain ⟨gb, hgb⟩ : ∃ g, w4.heap.size = g := ⟨_, rfl⟩
      rw [hgb] at b ⊢
      clear hgb
      clear nb
      have hC6 := Lib.hid (ROf_N s hss w5)
      go_wp2_with fail
      refine hC6.out.mono ?_
      rintro e w6 ⟨vx, rfl, nx, hb⟩
      obtain ⟨vxa, vxl, vxc, rfl⟩ := nx.shape
      rw [hes.out]
      rw [haE.out] at nx
      replace a := Lib.hid (a.out.below hb)
      replace b := Lib.hid (b.out.below hb)
      replace nx := Lib.hid nx
      replace hE := Lib.hid (hE.out.trans (hb.mono hE.out.size))
      clear hb hC6 
      have hC7 := Lib.hid (ROf_N t hst w6)
      go_wp2_with fail
      refine hC7.out.mono ?_
      rintro e w7 ⟨vy, rfl, ny, hb⟩
      obtain ⟨vya, vyl, vyc, rfl⟩ := ny.shape
      rw [het.out]
      rw [hbE.out] at ny
      have hyl : 0 < vyl := len_pos ny hb0.out
      have hyl2 : (0 : Int) < (vyl : Int) := Int.natCast_pos.2 hyl
      replace a := Lib.hid (a.out.below hb)
      replace b := Lib.hid (b.out.below hb)
      replace nx := Lib.hid (nx.out.below hb)
      replace ny := Lib.hid ny
      replace hE := Lib.hid (hE.out.trans (hb.mono hE.out.size))
      clear hb hC7 
      obtain ⟨aa, al, ac, ab, an⟩ := a.out
      have za := ab.cell
      replace an := Lib.hid an
      clear ab
      obtain ⟨ba, bl, bc, bb, bn⟩ := b.out
      have zb := bb.cell
      replace bn := Lib.hid bn
      clear bb
      have hC8 := Lib.hid (Add_N an.out bn.out (Nat.le_trans hA.out (by decide)) (Nat.le_trans hB.out (by decide)))
      go_wp2_with fail
      refine hC8.out.mono ?_
      rintro e w8 ⟨tc, rfl, nc, hb⟩
      obtain ⟨tca, tcl, tcc, rfl⟩ := nc.shape
      rw [fc.out.1]
      rw [fc.out.2.1] at nc
      replace a := Lib.hid (a.out.below hb)
      replace b := Lib.hid (b.out.below hb)
      replace nx := Lib.hid (nx.out.below hb)
      replace ny := Lib.hid (ny.out.below hb)
      replace nc := Lib.hid nc
      replace hE := Lib.hid (hE.out.trans (hb.mono hE.out.size))
      clear hb hC8 za an zb bn
      go_upto_region 7 with (fail)
      have hb : Below w8.heap.size w8 (w8.alloc (.cells #[.slice tca tcl tcc] 26)) := (Below.refl _ _).alloc (Nat.le_refl _) _
      have c' := Var.made nc.out
      replace a := Lib.hid (a.out.below hb)
      replace b := Lib.hid (b.out.below hb)
      replace nx := Lib.hid (nx.out.below hb)
      replace ny := Lib.hid (ny.out.below hb)
      replace nc := Lib.hid (nc.out.below hb)
      replace hE := Lib.hid (hE.out.trans (hb.mono hE.out.size))
      have c := Lib.hid c'
      clear hb c'
      obtain ⟨w9, hw⟩ : ∃ W, (w8.alloc (.cells #[.slice tca tcl tcc] 26)) = W := ⟨_, rfl⟩
      rw [hw] at hE a b nx ny nc c ⊢
      clear hw
      obtain ⟨gc, hgc⟩ : ∃ g, w8.heap.size = g := ⟨_, rfl⟩
      rw [hgc] at c ⊢
      clear hgc
      clear nc
      have hC10 := Lib.hid (RAdd_N nx.out ny.out (Nat.le_trans hA.out (by decide)) (Nat.le_trans hB.out (by decide)))
      go_wp2_with fail
      refine hC10.out.mono ?_
      rintro e w10 ⟨rc, rfl, mc, hb⟩
      obtain ⟨rca, rcl, rcc, rfl⟩ := mc.shape
      replace a := Lib.hid (a.out.below hb)
      replace b := Lib.hid (b.out.below hb)
      replace nx := Lib.hid (nx.out.below hb)
      replace ny := Lib.hid (ny.out.below hb)
      replace c := Lib.hid (c.out.below hb)
      replace mc := Lib.hid mc
      replace hE := Lib.hid (hE.out.trans (hb.mono hE.out.size))
      clear hb hC10 
      obtain ⟨ca, cl, cc, cb, cn⟩ := c.out
      have zc := cb.cell
      replace cn := Lib.hid cn
      clear cb
      go_upto_region 8 with (fail)
      have hb : Below w10.heap.size w10 w10.drew := (Below.refl _ _).drew
      replace a := Lib.hid (a.out.below hb)
      replace b := Lib.hid (b.out.below hb)
      replace nx := Lib.hid (nx.out.below hb)
      replace ny := Lib.hid (ny.out.below hb)
      replace c := Lib.hid (c.out.below hb)
      replace mc := Lib.hid (mc.out.below hb)
      replace cn := Lib.hid (cn.out.below hb)
      replace zc := (hb.cell (World.block_lt_of_cell? _ _ zc)).trans zc
      replace hE := Lib.hid (hE.out.trans (hb.mono hE.out.size))
      clear hb
      refine Rt.wp_region_ordM [1, 0, 0, 0, 2, 2, 0] [0, 1, 2, 3, 4, 5, 6] (by kernel_rfl) (by kernel_rfl) ?_
      obtain ⟨w11, hw⟩ : ∃ W, w10.drew = W := ⟨_, rfl⟩
      rw [hw] at hE a b nx ny c mc cn zc ⊢
      clear hw
      apply ord_read rfl rfl rfl; (· (intro W hW; have g0 := cell_up hW zc; go_simp; with_reducible rfl)); (· (simp only [Act.put, Act.eval, List.setIfInBounds_toArray, List.set_cons_zero, List.set_cons_succ, Array.getD_eq_getD_getElem?, List.getElem?_toArray, List.getElem?_cons_zero, List.getElem?_cons_succ, Option.getD_some, List.getElem_toArray, List.getElem_cons_succ, List.getElem_cons_zero]; with_reducible rfl))
      apply ord_move rfl rfl rfl rfl; (· (simp only [Act.put, Act.eval, List.setIfInBounds_toArray, List.set_cons_zero, List.set_cons_succ, Array.getD_eq_getD_getElem?, List.getElem?_toArray, List.getElem?_cons_zero, List.getElem?_cons_succ, Option.getD_some, List.getElem_toArray, List.getElem_cons_succ, List.getElem_cons_zero]; with_reducible rfl))
      apply ord_move rfl rfl rfl rfl; (· (simp only [Act.put, Act.eval, List.setIfInBounds_toArray, List.set_cons_zero, List.set_cons_succ, Array.getD_eq_getD_getElem?, List.getElem?_toArray, List.getElem?_cons_zero, List.getElem?_cons_succ, Option.getD_some, List.getElem_toArray, List.getElem_cons_succ, List.getElem_cons_zero]; with_reducible rfl))
      apply ord_move rfl rfl rfl rfl; (· (simp only [Act.put, Act.eval, List.setIfInBounds_toArray, List.set_cons_zero, List.set_cons_succ, Array.getD_eq_getD_getElem?, List.getElem?_toArray, List.getElem?_cons_zero, List.getElem?_cons_succ, Option.getD_some, List.getElem_toArray, List.getElem_cons_succ, List.getElem_cons_zero]; with_reducible rfl))
      refine ord_call rfl rfl rfl (by go_simp; exact ⟨rfl, rfl⟩) ?_
      refine (Long_B mc.out (Nat.le_trans hS.out (by decide))).mono ?_
      rintro e w12 ⟨rfl, hb⟩
      refine ⟨_, rfl, hb, ?_⟩
      rw [fc.out.1]
      replace a := Lib.hid (a.out.below hb)
      replace b := Lib.hid (b.out.below hb)
      replace nx := Lib.hid (nx.out.below hb)
      replace ny := Lib.hid (ny.out.below hb)
      replace c := Lib.hid (c.out.below hb)
      replace mc := Lib.hid (mc.out.below hb)
      replace cn := Lib.hid (cn.out.below hb)
      replace zc := (hb.cell (World.block_lt_of_cell? _ _ zc)).trans zc
      replace hE := Lib.hid (hE.out.trans (hb.mono hE.out.size))
      clear hb
      simp only [Act.put, Act.eval, List.setIfInBounds_toArray, List.set_cons_zero, List.set_cons_succ, Array.getD_eq_getD_getElem?, List.getElem?_toArray, List.getElem?_cons_zero, List.getElem?_cons_succ, Option.getD_some, List.getElem_toArray, List.getElem_cons_succ, List.getElem_cons_zero]
      refine ord_call rfl rfl rfl (by go_simp; exact ⟨rfl, rfl⟩) ?_
      refine (is_true cn.out mc.out (Nat.le_trans hC.out (by decide)) (Nat.le_trans hS.out (by decide)) ec ec (cap_is fc.out.2.2)).mono ?_
      rintro e w13 ⟨rfl, hb⟩
      refine ⟨_, rfl, hb, ?_⟩
      replace a := Lib.hid (a.out.below hb)
      replace b := Lib.hid (b.out.below hb)
      replace nx := Lib.hid (nx.out.below hb)
      replace ny := Lib.hid (ny.out.below hb)
      replace c := Lib.hid (c.out.below hb)
      replace mc := Lib.hid (mc.out.below hb)
      replace cn := Lib.hid (cn.out.below hb)
      replace zc := (hb.cell (World.block_lt_of_cell? _ _ zc)).trans zc
      replace hE := Lib.hid (hE.out.trans (hb.mono hE.out.size))
      clear hb
      simp only [Act.put, Act.eval, List.setIfInBounds_toArray, List.set_cons_zero, List.set_cons_succ, Array.getD_eq_getD_getElem?, List.getElem?_toArray, List.getElem?_cons_zero, List.getElem?_cons_succ, Option.getD_some, List.getElem_toArray, List.getElem_cons_succ, List.getElem_cons_zero]
      apply ord_assign rfl rfl rfl rfl; (· (simp only [Act.put, Act.eval, List.setIfInBounds_toArray, List.set_cons_zero, List.set_cons_succ, Array.getD_eq_getD_getElem?, List.getElem?_toArray, List.getElem?_cons_zero, List.getElem?_cons_succ, Option.getD_some, List.getElem_toArray, List.getElem_cons_succ, List.getElem_cons_zero]; with_reducible rfl))
      with_reducible refine ord_nil ?_
      clear zc cn
      clear mc
      obtain ⟨aa, al, ac, ab, an⟩ := a.out
      have za := ab.cell
      replace an := Lib.hid an
      clear ab
      obtain ⟨ba, bl, bc, bb, bn⟩ := b.out
      have zb := bb.cell
      replace bn := Lib.hid bn
      clear bb
      have hC14 := Lib.hid (Mul_N an.out bn.out (Nat.le_trans hA.out (by decide)) (Nat.le_trans hB.out (by decide)))
      go_wp2_with fail
      refine hC14.out.mono ?_
      rintro e w14 ⟨td, rfl, nd, hb⟩
      obtain ⟨tda, tdl, tdc, rfl⟩ := nd.shape
      rw [fd.out.1]
      rw [fd.out.2.1] at nd
      replace a := Lib.hid (a.out.below hb)
      replace b := Lib.hid (b.out.below hb)
      replace nx := Lib.hid (nx.out.below hb)
      replace ny := Lib.hid (ny.out.below hb)
      replace c := Lib.hid (c.out.below hb)
      replace nd := Lib.hid nd
      replace hE := Lib.hid (hE.out.trans (hb.mono hE.out.size))
      clear hb hC14 za an zb bn
      go_upto_region 10 with (fail)
      have hb : Below w14.heap.size w14 (w14.alloc (.cells #[.slice tda tdl tdc] 26)) := (Below.refl _ _).alloc (Nat.le_refl _) _
      have d' := Var.made nd.out
      replace a := Lib.hid (a.out.below hb)
      replace b := Lib.hid (b.out.below hb)
      replace nx := Lib.hid (nx.out.below hb)
      replace ny := Lib.hid (ny.out.below hb)
      replace c := Lib.hid (c.out.below hb)
      replace nd := Lib.hid (nd.out.below hb)
      replace hE := Lib.hid (hE.out.trans (hb.mono hE.out.size))
      have d := Lib.hid d'
      clear hb d'
      obtain ⟨w15, hw⟩ : ∃ W, (w14.alloc (.cells #[.slice tda tdl tdc] 26)) = W := ⟨_, rfl⟩
      rw [hw] at hE a b nx ny c nd d ⊢
      clear hw
      obtain ⟨gd, hgd⟩ : ∃ g, w14.heap.size = g := ⟨_, rfl⟩
      rw [hgd] at d ⊢
      clear hgd
      clear nd
      have hC16 := Lib.hid (RMul_N nx.out ny.out (Nat.le_trans hA.out (by decide)) (Nat.le_trans hB.out (by decide)))
      go_wp2_with fail
      refine hC16.out.mono ?_
      rintro e w16 ⟨rd, rfl, md, hb⟩
      obtain ⟨rda, rdl, rdc, rfl⟩ := md.shape
      replace a := Lib.hid (a.out.below hb)
      replace b := Lib.hid (b.out.below hb)
      replace nx := Lib.hid (nx.out.below hb)
      replace ny := Lib.hid (ny.out.below hb)
      replace c := Lib.hid (c.out.below hb)
      replace d := Lib.hid (d.out.below hb)
      replace md := Lib.hid md
      replace hE := Lib.hid (hE.out.trans (hb.mono hE.out.size))
      clear hb hC16 
      obtain ⟨da, dl, dc, db, dn⟩ := d.out
      have zd := db.cell
      replace dn := Lib.hid dn
      clear db
      go_upto_region 11 with (fail)
      have hb : Below w16.heap.size w16 w16.drew := (Below.refl _ _).drew
      replace a := Lib.hid (a.out.below hb)
      replace b := Lib.hid (b.out.below hb)
      replace nx := Lib.hid (nx.out.below hb)
      replace ny := Lib.hid (ny.out.below hb)
      replace c := Lib.hid (c.out.below hb)
      replace d := Lib.hid (d.out.below hb)
      replace md := Lib.hid (md.out.below hb)
      replace dn := Lib.hid (dn.out.below hb)
      replace zd := (hb.cell (World.block_lt_of_cell? _ _ zd)).trans zd
      replace hE := Lib.hid (hE.out.trans (hb.mono hE.out.size))
      clear hb
      refine Rt.wp_region_ordM [1, 0, 0, 0, 2, 2, 0] [0, 1, 2, 3, 4, 5, 6] (by kernel_rfl) (by kernel_rfl) ?_
      obtain ⟨w17, hw⟩ : ∃ W, w16.drew = W := ⟨_, rfl⟩
      rw [hw] at hE a b nx ny c d md dn zd ⊢
      clear hw
      apply ord_read rfl rfl rfl; (· (intro W hW; have g0 := cell_up hW zd; go_simp; with_reducible rfl)); (· (simp only [Act.put, Act.eval, List.setIfInBounds_toArray, List.set_cons_zero, List.set_cons_succ, Array.getD_eq_getD_getElem?, List.getElem?_toArray, List.getElem?_cons_zero, List.getElem?_cons_succ, Option.getD_some, List.getElem_toArray, List.getElem_cons_succ, List.getElem_cons_zero]; with_reducible rfl))
      apply ord_move rfl rfl rfl rfl; (· (simp only [Act.put, Act.eval, List.setIfInBounds_toArray, List.set_cons_zero, List.set_cons_succ, Array.getD_eq_getD_getElem?, List.getElem?_toArray, List.getElem?_cons_zero, List.getElem?_cons_succ, Option.getD_some, List.getElem_toArray, List.getElem_cons_succ, List.getElem_cons_zero]; with_reducible rfl))
      apply ord_move rfl rfl rfl rfl; (· (simp only [Act.put, Act.eval, List.setIfInBounds_toArray, List.set_cons_zero, List.set_cons_succ, Array.getD_eq_getD_getElem?, List.getElem?_toArray, List.getElem?_cons_zero, List.getElem?_cons_succ, Option.getD_some, List.getElem_toArray, List.getElem_cons_succ, List.getElem_cons_zero]; with_reducible rfl))
      apply ord_move rfl rfl rfl rfl; (· (simp only [Act.put, Act.eval, List.setIfInBounds_toArray, List.set_cons_zero, List.set_cons_succ, Array.getD_eq_getD_getElem?, List.getElem?_toArray, List.getElem?_cons_zero, List.getElem?_cons_succ, Option.getD_some, List.getElem_toArray, List.getElem_cons_succ, List.getElem_cons_zero]; with_reducible rfl))
      refine ord_call rfl rfl rfl (by go_simp; exact ⟨rfl, rfl⟩) ?_
      refine (Long_B md.out (Nat.le_trans hP.out (by decide))).mono ?_
      rintro e w18 ⟨rfl, hb⟩
      refine ⟨_, rfl, hb, ?_⟩
      rw [fd.out.1]
      replace a := Lib.hid (a.out.below hb)
      replace b := Lib.hid (b.out.below hb)
      replace nx := Lib.hid (nx.out.below hb)
      replace ny := Lib.hid (ny.out.below hb)
      replace c := Lib.hid (c.out.below hb)
      replace d := Lib.hid (d.out.below hb)
      replace md := Lib.hid (md.out.below hb)
      replace dn := Lib.hid (dn.out.below hb)
      replace zd := (hb.cell (World.block_lt_of_cell? _ _ zd)).trans zd
      replace hE := Lib.hid (hE.out.trans (hb.mono hE.out.size))
      clear hb
      simp only [Act.put, Act.eval, List.setIfInBounds_toArray, List.set_cons_zero, List.set_cons_succ, Array.getD_eq_getD_getElem?, List.getElem?_toArray, List.getElem?_cons_zero, List.getElem?_cons_succ, Option.getD_some, List.getElem_toArray, List.getElem_cons_succ, List.getElem_cons_zero]
      refine ord_call rfl rfl rfl (by go_simp; exact ⟨rfl, rfl⟩) ?_
      refine (is_true dn.out md.out (Nat.le_trans hD.out (by decide)) (Nat.le_trans hP.out (by decide)) ed ed (cap_is fd.out.2.2)).mono ?_
      rintro e w19 ⟨rfl, hb⟩
      refine ⟨_, rfl, hb, ?_⟩
      replace a := Lib.hid (a.out.below hb)
      replace b := Lib.hid (b.out.below hb)
      replace nx := Lib.hid (nx.out.below hb)
      replace ny := Lib.hid (ny.out.below hb)
      replace c := Lib.hid (c.out.below hb)
      replace d := Lib.hid (d.out.below hb)
      replace md := Lib.hid (md.out.below hb)
      replace dn := Lib.hid (dn.out.below hb)
      replace zd := (hb.cell (World.block_lt_of_cell? _ _ zd)).trans zd
      replace hE := Lib.hid (hE.out.trans (hb.mono hE.out.size))
      clear hb
      simp only [Act.put, Act.eval, List.setIfInBounds_toArray, List.set_cons_zero, List.set_cons_succ, Array.getD_eq_getD_getElem?, List.getElem?_toArray, List.getElem?_cons_zero, List.getElem?_cons_succ, Option.getD_some, List.getElem_toArray, List.getElem_cons_succ, List.getElem_cons_zero]
      apply ord_assign rfl rfl rfl rfl; (· (simp only [Act.put, Act.eval, List.setIfInBounds_toArray, List.set_cons_zero, List.set_cons_succ, Array.getD_eq_getD_getElem?, List.getElem?_toArray, List.getElem?_cons_zero, List.getElem?_cons_succ, Option.getD_some, List.getElem_toArray, List.getElem_cons_succ, List.getElem_cons_zero]; with_reducible rfl))
      with_reducible refine ord_nil ?_
      clear zd dn
      clear md
      obtain ⟨aa, al, ac, ab, an⟩ := a.out
      have za := ab.cell
      replace an := Lib.hid an
      clear ab
      obtain ⟨ba, bl, bc, bb, bn⟩ := b.out
      have zb := bb.cell
      replace bn := Lib.hid bn
      clear bb
      have hC20 := Lib.hid (Sub_N an.out bn.out (Nat.le_trans hA.out (by decide)) (Nat.le_trans hB.out (by decide)))
      go_wp2_with fail
      refine hC20.out.mono ?_
      rintro e w20 ⟨tk, rfl, nk, hb⟩
      obtain ⟨tka, tkl, tkc, rfl⟩ := nk.shape
      rw [if_neg hge.out]
      replace a := Lib.hid (a.out.below hb)
      replace b := Lib.hid (b.out.below hb)
      replace nx := Lib.hid (nx.out.below hb)
      replace ny := Lib.hid (ny.out.below hb)
      replace c := Lib.hid (c.out.below hb)
      replace d := Lib.hid (d.out.below hb)
      replace nk := Lib.hid nk
      replace hE := Lib.hid (hE.out.trans (hb.mono hE.out.size))
      clear hb hC20 za an zb bn
      go_upto_region 13 with (fail)
      have hb : Below w20.heap.size w20 (w20.alloc (.cells #[.slice tka tkl tkc] 26)) := (Below.refl _ _).alloc (Nat.le_refl _) _
      have k' := Var.made nk.out
      replace a := Lib.hid (a.out.below hb)
      replace b := Lib.hid (b.out.below hb)
      replace nx := Lib.hid (nx.out.below hb)
      replace ny := Lib.hid (ny.out.below hb)
      replace c := Lib.hid (c.out.below hb)
      replace d := Lib.hid (d.out.below hb)
      replace nk := Lib.hid (nk.out.below hb)
      replace hE := Lib.hid (hE.out.trans (hb.mono hE.out.size))
      have k := Lib.hid k'
      clear hb k'
      obtain ⟨w21, hw⟩ : ∃ W, (w20.alloc (.cells #[.slice tka tkl tkc] 26)) = W := ⟨_, rfl⟩
      rw [hw] at hE a b nx ny c d nk k ⊢
      clear hw
      obtain ⟨gk, hgk⟩ : ∃ g, w20.heap.size = g := ⟨_, rfl⟩
      rw [hgk] at k ⊢
      clear hgk
      clear nk
      have hC22 := Lib.hid (RCmp_N nx.out ny.out (Nat.le_trans hA.out (by decide)) (Nat.le_trans hB.out (by decide)))
      go_wp2_with fail
      refine hC22.out.mono ?_
      rintro e w22 ⟨rfl, hb⟩
      rw [hcv.out]
      replace a := Lib.hid (a.out.below hb)
      replace b := Lib.hid (b.out.below hb)
      replace nx := Lib.hid (nx.out.below hb)
      replace ny := Lib.hid (ny.out.below hb)
      replace c := Lib.hid (c.out.below hb)
      replace d := Lib.hid (d.out.below hb)
      replace k := Lib.hid (k.out.below hb)
      replace hE := Lib.hid (hE.out.trans (hb.mono hE.out.size))
      clear hb hC22 
      obtain ⟨ka, kl, kc, kb, kn⟩ := k.out
      have zk := kb.cell
      replace kn := Lib.hid kn
      clear kb
      go_upto_region 15 with (fail)
      have hb : Below w22.heap.size w22 w22.drew := (Below.refl _ _).drew
      replace a := Lib.hid (a.out.below hb)
      replace b := Lib.hid (b.out.below hb)
      replace nx := Lib.hid (nx.out.below hb)
      replace ny := Lib.hid (ny.out.below hb)
      replace c := Lib.hid (c.out.below hb)
      replace d := Lib.hid (d.out.below hb)
      replace k := Lib.hid (k.out.below hb)
      replace kn := Lib.hid (kn.out.below hb)
      replace zk := (hb.cell (World.block_lt_of_cell? _ _ zk)).trans zk
      replace hE := Lib.hid (hE.out.trans (hb.mono hE.out.size))
      clear hb
      refine Rt.wp_region_ordM [1, 0, 0, 0, 2, 2, 0] [0, 1, 2, 3, 4, 5, 6] (by kernel_rfl) (by kernel_rfl) ?_
      obtain ⟨w23, hw⟩ : ∃ W, w22.drew = W := ⟨_, rfl⟩
      rw [hw] at hE a b nx ny c d k kn zk ⊢
      clear hw
      apply ord_read rfl rfl rfl; (· (intro W hW; have g0 := cell_up hW zk; go_simp; with_reducible rfl)); (· (simp only [Act.put, Act.eval, List.setIfInBounds_toArray, List.set_cons_zero, List.set_cons_succ, Array.getD_eq_getD_getElem?, List.getElem?_toArray, List.getElem?_cons_zero, List.getElem?_cons_succ, Option.getD_some, List.getElem_toArray, List.getElem_cons_succ, List.getElem_cons_zero]; with_reducible rfl))
      apply ord_move rfl rfl rfl rfl; (· (simp only [Act.put, Act.eval, List.setIfInBounds_toArray, List.set_cons_zero, List.set_cons_succ, Array.getD_eq_getD_getElem?, List.getElem?_toArray, List.getElem?_cons_zero, List.getElem?_cons_succ, Option.getD_some, List.getElem_toArray, List.getElem_cons_succ, List.getElem_cons_zero]; with_reducible rfl))
      apply ord_move rfl rfl rfl rfl; (· (simp only [Act.put, Act.eval, List.setIfInBounds_toArray, List.set_cons_zero, List.set_cons_succ, Array.getD_eq_getD_getElem?, List.getElem?_toArray, List.getElem?_cons_zero, List.getElem?_cons_succ, Option.getD_some, List.getElem_toArray, List.getElem_cons_succ, List.getElem_cons_zero]; with_reducible rfl))
      apply ord_move rfl rfl rfl rfl; (· (simp only [Act.put, Act.eval, List.setIfInBounds_toArray, List.set_cons_zero, List.set_cons_succ, Array.getD_eq_getD_getElem?, List.getElem?_toArray, List.getElem?_cons_zero, List.getElem?_cons_succ, Option.getD_some, List.getElem_toArray, List.getElem_cons_succ, List.getElem_cons_zero]; with_reducible rfl))
      refine ord_call rfl rfl rfl (by go_simp; exact ⟨rfl, rfl⟩) ?_
      refine (RSub_N nx.out ny.out (Nat.le_trans hA.out (by decide)) (Nat.le_trans hB.out (by decide)) (Nat.not_lt.1 hge.out)).mono ?_
      rintro e w24 ⟨rk, rfl, mk, hb, -⟩
      obtain ⟨rka, rkl, rkc, rfl⟩ := mk.shape
      refine ⟨_, rfl, hb, ?_⟩
      replace a := Lib.hid (a.out.below hb)
      replace b := Lib.hid (b.out.below hb)
      replace nx := Lib.hid (nx.out.below hb)
      replace ny := Lib.hid (ny.out.below hb)
      replace c := Lib.hid (c.out.below hb)
      replace d := Lib.hid (d.out.below hb)
      replace k := Lib.hid (k.out.below hb)
      replace kn := Lib.hid (kn.out.below hb)
      replace zk := (hb.cell (World.block_lt_of_cell? _ _ zk)).trans zk
      replace hE := Lib.hid (hE.out.trans (hb.mono hE.out.size))
      replace mk := Lib.hid mk
      clear hb
      simp only [Act.put, Act.eval, List.setIfInBounds_toArray, List.set_cons_zero, List.set_cons_succ, Array.getD_eq_getD_getElem?, List.getElem?_toArray, List.getElem?_cons_zero, List.getElem?_cons_succ, Option.getD_some, List.getElem_toArray, List.getElem_cons_succ, List.getElem_cons_zero]
      refine ord_call rfl rfl rfl (by go_simp; exact ⟨rfl, rfl⟩) ?_
      refine (is_true kn.out mk.out (Nat.le_trans hK.out (by decide)) (Nat.le_trans hK.out (by decide)) 0 0 (.inr ⟨rfl, rfl, rfl⟩)).mono ?_
      rintro e w25 ⟨rfl, hb⟩
      refine ⟨_, rfl, hb, ?_⟩
      replace a := Lib.hid (a.out.below hb)
      replace b := Lib.hid (b.out.below hb)
      replace nx := Lib.hid (nx.out.below hb)
      replace ny := Lib.hid (ny.out.below hb)
      replace c := Lib.hid (c.out.below hb)
      replace d := Lib.hid (d.out.below hb)
      replace k := Lib.hid (k.out.below hb)
      replace mk := Lib.hid (mk.out.below hb)
      replace kn := Lib.hid (kn.out.below hb)
      replace zk := (hb.cell (World.block_lt_of_cell? _ _ zk)).trans zk
      replace hE := Lib.hid (hE.out.trans (hb.mono hE.out.size))
      clear hb
      simp only [Act.put, Act.eval, List.setIfInBounds_toArray, List.set_cons_zero, List.set_cons_succ, Array.getD_eq_getD_getElem?, List.getElem?_toArray, List.getElem?_cons_zero, List.getElem?_cons_succ, Option.getD_some, List.getElem_toArray, List.getElem_cons_succ, List.getElem_cons_zero]
      apply ord_assign rfl rfl rfl rfl; (· (simp only [Act.put, Act.eval, List.setIfInBounds_toArray, List.set_cons_zero, List.set_cons_succ, Array.getD_eq_getD_getElem?, List.getElem?_toArray, List.getElem?_cons_zero, List.getElem?_cons_succ, Option.getD_some, List.getElem_toArray, List.getElem_cons_succ, List.getElem_cons_zero]; with_reducible rfl))
      with_reducible refine ord_nil ?_
      clear zk kn
      clear mk
      obtain ⟨aa, al, ac, ab, an⟩ := a.out
      have za := ab.cell
      replace an := Lib.hid an
      clear ab
      obtain ⟨ba, bl, bc, bb, bn⟩ := b.out
      have zb := bb.cell
      replace bn := Lib.hid bn
      clear bb
      have hC26 := Lib.hid (Div_N an.out bn.out (Nat.le_trans hA.out (by decide)) (Nat.le_trans hB.out (by decide)))
      go_wp2_with fail
      refine hC26.out.mono ?_
      rintro e w26 ⟨tq, tr, rfl, nq, nr, hb⟩
      obtain ⟨tqa, tql, tqc, rfl⟩ := nq.shape
      obtain ⟨tra, trl, trc, rfl⟩ := nr.shape
      rw [hdE.out]
      rw [hr0.out] at nr
      replace a := Lib.hid (a.out.below hb)
      replace b := Lib.hid (b.out.below hb)
      replace nx := Lib.hid (nx.out.below hb)
      replace ny := Lib.hid (ny.out.below hb)
      replace c := Lib.hid (c.out.below hb)
      replace d := Lib.hid (d.out.below hb)
      replace k := Lib.hid (k.out.below hb)
      replace nq := Lib.hid nq
      replace nr := Lib.hid nr
      replace hE := Lib.hid (hE.out.trans (hb.mono hE.out.size))
      clear hb hC26 za an zb bn
      go_upto_region 17 with (fail)
      have hb : Below w26.heap.size w26 (w26.alloc (.cells #[.slice tqa tql tqc] 26)) := (Below.refl _ _).alloc (Nat.le_refl _) _
      have q' := Var.made nq.out
      replace a := Lib.hid (a.out.below hb)
      replace b := Lib.hid (b.out.below hb)
      replace nx := Lib.hid (nx.out.below hb)
      replace ny := Lib.hid (ny.out.below hb)
      replace c := Lib.hid (c.out.below hb)
      replace d := Lib.hid (d.out.below hb)
      replace k := Lib.hid (k.out.below hb)
      replace nq := Lib.hid (nq.out.below hb)
      replace nr := Lib.hid (nr.out.below hb)
      replace hE := Lib.hid (hE.out.trans (hb.mono hE.out.size))
      have q := Lib.hid q'
      clear hb q'
      have hb : Below (w26.alloc (.cells #[.slice tqa tql tqc] 26)).heap.size (w26.alloc (.cells #[.slice tqa tql tqc] 26)) ((w26.alloc (.cells #[.slice tqa tql tqc] 26)).alloc (.cells #[.slice tra trl trc] 26)) := (Below.refl _ _).alloc (Nat.le_refl _) _
      have r' := Var.made nr.out
      replace a := Lib.hid (a.out.below hb)
      replace b := Lib.hid (b.out.below hb)
      replace nx := Lib.hid (nx.out.below hb)
      replace ny := Lib.hid (ny.out.below hb)
      replace c := Lib.hid (c.out.below hb)
      replace d := Lib.hid (d.out.below hb)
      replace k := Lib.hid (k.out.below hb)
      replace nq := Lib.hid (nq.out.below hb)
      replace nr := Lib.hid (nr.out.below hb)
      replace q := Lib.hid (q.out.below hb)
      replace hE := Lib.hid (hE.out.trans (hb.mono hE.out.size))
      have r := Lib.hid r'
      clear hb r'
      simp only [World.size_alloc] at r
      obtain ⟨w27, hw⟩ : ∃ W, ((w26.alloc (.cells #[.slice tqa tql tqc] 26)).alloc (.cells #[.slice tra trl trc] 26)) = W := ⟨_, rfl⟩
      rw [hw] at hE a b nx ny c d k nq nr q r ⊢
      clear hw
      obtain ⟨gq, hgq⟩ : ∃ g, w26.heap.size = g := ⟨_, rfl⟩
      obtain ⟨gr, hgr⟩ : ∃ g, w26.heap.size + 1 = g := ⟨_, rfl⟩
      rw [hgr] at r ⊢
      rw [hgq] at q ⊢
      clear hgq hgr
      clear nq
      clear nr
      have hC28 := Lib.hid (RDiv_N nx.out ny.out (Nat.le_trans hA.out (by decide)) (Nat.le_trans hB.out (by decide)) hb0.out)
      go_wp2_with fail
      refine hC28.out.mono ?_
      rintro e w28 ⟨rq, rr, rfl, mq, mr, hb⟩
      obtain ⟨rqa, rql, rqc, rfl⟩ := mq.shape
      obtain ⟨rra, rrl, rrc, rfl⟩ := mr.shape
      replace a := Lib.hid (a.out.below hb)
      replace b := Lib.hid (b.out.below hb)
      replace nx := Lib.hid (nx.out.below hb)
      replace ny := Lib.hid (ny.out.below hb)
      replace c := Lib.hid (c.out.below hb)
      replace d := Lib.hid (d.out.below hb)
      replace k := Lib.hid (k.out.below hb)
      replace q := Lib.hid (q.out.below hb)
      replace r := Lib.hid (r.out.below hb)
      replace mq := Lib.hid mq
      replace mr := Lib.hid mr
      replace hE := Lib.hid (hE.out.trans (hb.mono hE.out.size))
      clear hb hC28 
      obtain ⟨qa, ql, qc, qb, qn⟩ := q.out
      have zq := qb.cell
      replace qn := Lib.hid qn
      clear qb
      have hC29 := Lib.hid (is_true qn.out mq.out (Nat.le_trans hQ.out (by decide)) (Nat.le_trans hQ.out (by decide)) 0 0 (.inr ⟨rfl, rfl, rfl⟩))
      go_wp2_with fail
      refine hC29.out.mono ?_
      rintro e w29 ⟨rfl, hb⟩
      replace a := Lib.hid (a.out.below hb)
      replace b := Lib.hid (b.out.below hb)
      replace nx := Lib.hid (nx.out.below hb)
      replace ny := Lib.hid (ny.out.below hb)
      replace c := Lib.hid (c.out.below hb)
      replace d := Lib.hid (d.out.below hb)
      replace k := Lib.hid (k.out.below hb)
      replace q := Lib.hid (q.out.below hb)
      replace r := Lib.hid (r.out.below hb)
      replace mq := Lib.hid (mq.out.below hb)
      replace mr := Lib.hid (mr.out.below hb)
      replace hE := Lib.hid (hE.out.trans (hb.mono hE.out.size))
      clear hb hC29 zq qn
      obtain ⟨ra, rl, rc, rb, rn⟩ := r.out
      have zr := rb.cell
      replace rn := Lib.hid rn
      clear rb
      have hC30 := Lib.hid (is_true rn.out mr.out (Nat.le_trans hR.out (by decide)) (Nat.le_trans hR.out (by decide)) 0 0 (.inr ⟨rfl, rfl, rfl⟩))
      go_wp2_with fail
      refine hC30.out.mono ?_
      rintro e w30 ⟨rfl, hb⟩
      replace a := Lib.hid (a.out.below hb)
      replace b := Lib.hid (b.out.below hb)
      replace nx := Lib.hid (nx.out.below hb)
      replace ny := Lib.hid (ny.out.below hb)
      replace c := Lib.hid (c.out.below hb)
      replace d := Lib.hid (d.out.below hb)
      replace k := Lib.hid (k.out.below hb)
      replace q := Lib.hid (q.out.below hb)
      replace r := Lib.hid (r.out.below hb)
      replace mq := Lib.hid (mq.out.below hb)
      replace mr := Lib.hid (mr.out.below hb)
      replace hE := Lib.hid (hE.out.trans (hb.mono hE.out.size))
      clear hb hC30 zr rn
      obtain ⟨aa, al, ac, ab, an⟩ := a.out
      have za := ab.cell
      replace an := Lib.hid an
      clear ab
      have hC31 := Lib.hid (is_true an.out nx.out (Nat.le_trans hA.out (by decide)) (Nat.le_trans hA.out (by decide)) 0 0 (.inr ⟨rfl, rfl, rfl⟩))
      go_wp2_with fail
      refine hC31.out.mono ?_
      rintro e w31 ⟨rfl, hb⟩
      replace a := Lib.hid (a.out.below hb)
      replace b := Lib.hid (b.out.below hb)
      replace nx := Lib.hid (nx.out.below hb)
      replace ny := Lib.hid (ny.out.below hb)
      replace c := Lib.hid (c.out.below hb)
      replace d := Lib.hid (d.out.below hb)
      replace k := Lib.hid (k.out.below hb)
      replace q := Lib.hid (q.out.below hb)
      replace r := Lib.hid (r.out.below hb)
      replace mq := Lib.hid (mq.out.below hb)
      replace mr := Lib.hid (mr.out.below hb)
      replace hE := Lib.hid (hE.out.trans (hb.mono hE.out.size))
      clear hb hC31 za an
      obtain ⟨ba, bl, bc, bb, bn⟩ := b.out
      have zb := bb.cell
      replace bn := Lib.hid bn
      clear bb
      have hC32 := Lib.hid (is_true bn.out ny.out (Nat.le_trans hB.out (by decide)) (Nat.le_trans hB.out (by decide)) 0 0 (.inr ⟨rfl, rfl, rfl⟩))
      go_wp2_with fail
      refine hC32.out.mono ?_
      rintro e w32 ⟨rfl, hb⟩
      replace a := Lib.hid (a.out.below hb)
      replace b := Lib.hid (b.out.below hb)
      replace nx := Lib.hid (nx.out.below hb)
      replace ny := Lib.hid (ny.out.below hb)
      replace c := Lib.hid (c.out.below hb)
      replace d := Lib.hid (d.out.below hb)
      replace k := Lib.hid (k.out.below hb)
      replace q := Lib.hid (q.out.below hb)
      replace r := Lib.hid (r.out.below hb)
      replace mq := Lib.hid (mq.out.below hb)
      replace mr := Lib.hid (mr.out.below hb)
      replace hE := Lib.hid (hE.out.trans (hb.mono hE.out.size))
      clear hb hC32 zb bn
      go_wp2_with fail
      go_ret
      exact ⟨rfl, hE.out⟩
end Go.Proofs.YtffehdfddkgggaaDoor.Nu

namespace Go.Proofs.YtffehdfddkgggaaDoor.numberReckons
open Go.ChangeShapes Go.WideShapes Go.ChangeAt Go.RowKit
open Go.ChangeMaps (open_string shut_string)
set_option linter.unusedVariables false
set_option linter.unusedSimpArgs false
theorem laidOut : laidOutB Tryd.prog = true := by kernel_rfl
theorem own : ownKnob Tryd.prog.godebug = none := by kernel_rfl
set_option maxRecDepth 100000 in
theorem lifted (os : Os) (started : os.Started) (H : Type) (enc : TypeId × Value → H) :
    ReturnsInHanded {} Tryd.checked os 7 .any (fun w args => (Rows.numberReckonsSpec.pre enc Tryd.prog Tryd.f7 [] false w args ∧ laidMetH Tryd.prog Rows.numberReckonsRow.laid w) ∧ sizedMet enc Tryd.prog Tryd.f7 (OpenSpec.ofChange Rows.numberReckonsSpec) false w args)
      (Rows.numberReckonsSpec.post enc Tryd.prog Tryd.f7 false true false false) := by
  refine returnsInHanded_of_change_and (C := Tryd.checked) (X := fun w _ => laidMetH Tryd.prog Rows.numberReckonsRow.laid w) (fun _ _ _ hh h => h.of_heap hh) own started (by kernel_rfl) Tryd.func7
    (ChangeSpec.witness_shaped (enc := enc) (C := Tryd.checked) (os := os) (X := fun w _ => laidMetH Tryd.prog Rows.numberReckonsRow.laid w) false (World.laidAll Tryd.prog os Rows.numberReckonsRow.laid) #[.string ByteArray.empty, .string ByteArray.empty] 8 (World.laidAll_os _ _ _)
      (World.shaped_of_ZipB (by kernel_rfl) (by kernel_rfl)) (by kernel_rfl) (by kernel_rfl) (by kernel_rfl)
      (by rw [MakeChecks.laidMetH_plain _ _ _ (by kernel_rfl)]; exact laidMet_laidAll _ (by kernel_rfl) (by kernel_rfl))) ?_
  intro W base args ds gs before hval0 hW _ hsz0 _ _
  have hsz : (DataW.weightsEach Tryd.prog (Tryd.f7.params.toList ++ Rows.numberReckonsSpec.plain.varTypes Tryd.prog) (ds ++ gs)).all (· ≤ reachBytes) = true := hsz0
  have hval : ∀ (j : Nat) t v, Tryd.f7.params[j]? = some t → args[j]? = some v → Value.okWide Tryd.prog W .any base t v := hval0
  have hW' := hW
  obtain ⟨p, q, hA0, hV, rfl, hfz, hnd⟩ := hW
  have hA : DataW.TrodAll enc Tryd.prog W 0 (fun _ => true) true Tryd.f7.params.toList args.toList ds p := hA0
  rw [Tryd.params7] at hA hval hsz
  obtain ⟨v0, vs0, d0, ds0, p0, q0, hargs, rfl, rfl, h0, r0⟩ := trodAll_cons hA
  obtain ⟨v1, vs1, d1, ds1, p1, q1, rfl, rfl, rfl, h1, r1⟩ := trodAll_cons r0
  obtain ⟨rfl, rfl, rfl⟩ := trodAll_nil r1
  obtain rfl : args = #[v0, v1] := by cases args; simp_all
  obtain ⟨rfl, rfl⟩ := trodVars_none hV
  obtain ⟨a0, rfl, rfl, rfl, y0⟩ := open_string Tryd.underlying9 (hval 0 9 v0 rfl rfl) h0
  have n0 : a0.size ≤ 140737488351232 := by
    have z := sized_string hsz (j := 0) (t := 9) rfl rfl
    have hr : reachBytes = 140737488351232 := by decide
    rw [hr] at z
    have e2 : a0.data.toList.length = a0.size := Array.length_toList
    rw [e2] at z
    exact z
  obtain ⟨a1, rfl, rfl, rfl, y1⟩ := open_string Tryd.underlying9 (hval 1 9 v1 rfl rfl) h1
  have n1 : a1.size ≤ 140737488351232 := by
    have z := sized_string hsz (j := 1) (t := 9) rfl rfl
    have hr : reachBytes = 140737488351232 := by decide
    rw [hr] at z
    have e2 : a1.data.toList.length = a1.size := Array.length_toList
    rw [e2] at z
    exact z
  clear hA0 hval0 hsz0 hsz
  refine (Nu.NumberReckons_any a0 a1 (by omega) (by omega) W).mono fun e W' ⟨he, bel⟩ => ?_
  subst he
  exact ⟨_, rfl, _, _, _, [], _, [], hW', trodAll_mk1 (shut_bool Tryd.underlying4 _), (trodAll_cons_mk (shut_string Tryd.underlying9 y0) (trodAll_cons_mk (shut_string Tryd.underlying9 y1) trodAll_mk0)), rfl, bel.frame _, fun h => by cases h⟩
theorem over : Rows.numberReckonsRow.holds Tryd.pinned (OpenSpec.ofChange Rows.numberReckonsSpec) :=
  OpenClaim.holds_of_wide 7 Tryd.f7 rfl rfl rfl rfl rfl rfl rfl ⟨rfl, rfl, rfl, rfl, rfl⟩ rfl rfl rfl rfl rfl (by kernel_rfl) Tryd.func7 (by kernel_rfl)
    (of_decide_eq_true (by kernel_rfl)) (by unfold Func.isWrapper; first | (rw [if_pos (by decide +kernel)]; kernel_rfl) | (rw [if_neg (by decide +kernel)]; exact ⟨rfl, rfl⟩))
    (fun os started H enc _ => lifted os started H enc)
theorem card : Rows.NumberReckonsCardSaid :=
  Claim7.holds_tied_plain_at .later [] [.data, .pinned] true (true, "acad1c1d1f756dec29b6445e289ef38fbf9a36fc57db2a92c0a2a1121c828621") false
    over (fun _ h => by cases h) (by kernel_rfl) (fun _ h => by cases h) numberReckons_row_tie rfl ⟨rfl, rfl⟩ (by kernel_rfl) rfl
    (fun f fn hf hfn => by
      obtain rfl : f = 7 := Option.some.inj ((show Tryd.prog.funcNamed "guidepost/guidepostlaw05.NumberReckons" = some 7 by kernel_rfl).symm.trans hf) |>.symm
      obtain rfl : fn = Tryd.f7 := (Option.some.inj (Tryd.func7.symm.trans hfn)).symm
      exact ⟨by kernel_rfl, fun j t ht => by
        rw [Tryd.params7] at ht
        have hm : t ∈ [9] := by have := Array.mem_of_getElem? ht; simp at this ⊢; omega
        have hall : ([9].all fun u => !Tryd.prog.wantsStandIn u) = true := by kernel_rfl
        exact (show Tryd.prog.wantsStandIn t = false by simpa using List.all_eq_true.1 hall t hm)⟩)
    (by kernel_rfl)
#print axioms card
end Go.Proofs.YtffehdfddkgggaaDoor.numberReckons
namespace Go.Proofs.YtffehdfddkgggaaDoor
/-- The card, under a short name, for the claim. -/
theorem numberReckons_holds : Rows.NumberReckonsCardSaid := numberReckons.card
end Go.Proofs.YtffehdfddkgggaaDoor
