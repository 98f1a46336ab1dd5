/- guidepostlaw05.NumberLaws: for every input it returns true, and each argument reads behind the call as before; the listed variables are tied to the program's text. -/
import Derived.Test.YtffehdfddkgggaaDoorMFC
import Derived.Test.YtffehdfddkgggaaDoorRows
import Derived.Test.YtffehdfddkgggaaDoorCards
import Derived.Test.YtffehdfddkgggaaDoorTie
import Derived.WalkKit
import Derived.ProofKit
import Derived.OpenShut
import Derived.ShutString
import Derived.ChangeOld
import Derived.Below
import Derived.SizedLaws
import Derived.Carry
import Derived.LaidMore
import Derived.Lay
import Derived.SevenTiedAt
/- guidepostlaw05.NumberLaws: the walk. -/
namespace Go.Proofs.YtffehdfddkgggaaDoor.Nu
open Go.RowKit Rt
set_option linter.unusedSimpArgs false
set_option linter.unusedVariables false
theorem cmpN_self (n : Nat) : cmpN n n = 0 := by unfold cmpN; rw [if_neg (Nat.lt_irrefl _), if_neg (Nat.lt_irrefl _)]
set_option maxHeartbeats 8000000 in
set_option maxRecDepth 100000 in
theorem NumberLaws_any (s t u : ByteArray) (hs : s.size ≤ 9223372036854775807) (ht : t.size ≤ 9223372036854775807) (hu : u.size ≤ 9223372036854775807) (w : World) :
    Calls Tryd.prog 8 #[.string s, .string t, .string u] w fun e w' => e = .returned (.bool true) ∧ Below w.heap.size w w' := by
  obtain ⟨a0, ha0⟩ : ∃ z, ofV s 150 = z := ⟨_, rfl⟩
  obtain ⟨b0, hb0⟩ : ∃ z, ofV t 150 = z := ⟨_, rfl⟩
  obtain ⟨c0, hc0⟩ : ∃ z, ofV u 150 = z := ⟨_, rfl⟩
  have haE := Lib.hid ha0
  have hbE := Lib.hid hb0
  have hcE := Lib.hid hc0
  have hA : Hid (blen a0 ≤ 1200) := Lib.hid (by rw [← ha0]; exact ofV_small s (by decide))
  have hB : Hid (blen b0 ≤ 1200) := Lib.hid (by rw [← hb0]; exact ofV_small t (by decide))
  have hC : Hid (blen c0 ≤ 1200) := Lib.hid (by rw [← hc0]; exact ofV_small u (by decide))
  have hX : Hid (blen (a0 + b0) ≤ 2401) := Lib.hid (Nat.le_trans (blen_add _ _) (by have := hA.out; have := hB.out; omega))
  have hY : Hid (blen (b0 + a0) ≤ 2401) := Lib.hid (by rw [Nat.add_comm]; exact hX.out)
  have hP : Hid (blen (a0 * b0) ≤ 2401) := Lib.hid (Nat.le_trans (blen_mul _ _) (by have := hA.out; have := hB.out; omega))
  have hQ : Hid (blen (b0 * a0) ≤ 2401) := Lib.hid (by rw [Nat.mul_comm]; exact hP.out)
  have hL : Hid (blen ((a0 + b0) * c0) ≤ 3602) := Lib.hid (Nat.le_trans (blen_mul _ _) (by have := hX.out; have := hC.out; omega))
  have hM : Hid (blen (a0 * c0) ≤ 2401) := Lib.hid (Nat.le_trans (blen_mul _ _) (by have := hA.out; have := hC.out; omega))
  have hN : Hid (blen (b0 * c0) ≤ 2401) := Lib.hid (Nat.le_trans (blen_mul _ _) (by have := hB.out; have := hC.out; omega))
  have hR : Hid (blen (a0 * c0 + b0 * c0) ≤ 3602) := Lib.hid (by rw [← Nat.add_mul]; exact hL.out)
  have fx := Lib.hid (capN_small (Nat.le_trans hX.out (by decide)))
  have fy := Lib.hid (capN_small (Nat.le_trans hY.out (by decide)))
  have fp := Lib.hid (capN_small (Nat.le_trans hP.out (by decide)))
  have fq := Lib.hid (capN_small (Nat.le_trans hQ.out (by decide)))
  have fl := Lib.hid (capN_small (Nat.le_trans hL.out (by decide)))
  have fm := Lib.hid (capN_small (Nat.le_trans hM.out (by decide)))
  have fn := Lib.hid (capN_small (Nat.le_trans hN.out (by decide)))
  have fr := Lib.hid (capN_small (Nat.le_trans hR.out (by decide)))
  clear ha0 hb0 hc0
  go_enter Tryd.func8, Tryd.ntmps8
  have hE := Lib.hid (Below.refl w.heap.size w)
  have hC1 := Lib.hid (examples_any w)
  go_wp2_with fail
  refine hC1.out.mono ?_
  rintro e w1 ⟨rfl, hb⟩
  replace hE := Lib.hid (hE.out.trans (hb.mono hE.out.size))
  clear hb hC1 
  have hC2 := Lib.hid (of_N s 150 (by decide) hs w1)
  go_wp2_with fail
  refine hC2.out.mono ?_
  rintro e w2 ⟨va, rfl, na, hb⟩
  obtain ⟨vaa, val, vac, rfl⟩ := na.shape
  rw [haE.out] at na
  replace na := Lib.hid na
  replace hE := Lib.hid (hE.out.trans (hb.mono hE.out.size))
  clear hb hC2 
  go_upto_region 3 with (fail)
  have hb : Below w2.heap.size w2 (w2.alloc (.cells #[.slice vaa val vac] 26)) := (Below.refl _ _).alloc (Nat.le_refl _) _
  have a' := Var.made na.out
  replace na := Lib.hid (na.out.below hb)
  replace hE := Lib.hid (hE.out.trans (hb.mono hE.out.size))
  have a := Lib.hid a'
  clear hb a'
  obtain ⟨w3, hw⟩ : ∃ W, (w2.alloc (.cells #[.slice vaa val vac] 26)) = W := ⟨_, rfl⟩
  rw [hw] at hE na a ⊢
  clear hw
  obtain ⟨ga, hga⟩ : ∃ g, w2.heap.size = g := ⟨_, rfl⟩
  rw [hga] at a ⊢
  clear hga
  clear na
  have hC4 := Lib.hid (of_N t 150 (by decide) ht w3)
  go_wp2_with fail
  refine hC4.out.mono ?_
  rintro e w4 ⟨vb, rfl, nb, hb⟩
  obtain ⟨vba, vbl, vbc, rfl⟩ := nb.shape
  rw [hbE.out] at nb
  replace a := Lib.hid (a.out.below hb)
  replace nb := Lib.hid nb
  replace hE := Lib.hid (hE.out.trans (hb.mono hE.out.size))
  clear hb hC4 
  go_upto_region 4 with (fail)
  have hb : Below w4.heap.size w4 (w4.alloc (.cells #[.slice vba vbl vbc] 26)) := (Below.refl _ _).alloc (Nat.le_refl _) _
  have b' := Var.made nb.out
  replace a := Lib.hid (a.out.below hb)
  replace nb := Lib.hid (nb.out.below hb)
  replace hE := Lib.hid (hE.out.trans (hb.mono hE.out.size))
  have b := Lib.hid b'
  clear hb b'
  obtain ⟨w5, hw⟩ : ∃ W, (w4.alloc (.cells #[.slice vba vbl vbc] 26)) = W := ⟨_, rfl⟩
  rw [hw] at hE a nb b ⊢
  clear hw
  obtain ⟨gb, hgb⟩ : ∃ g, w4.heap.size = g := ⟨_, rfl⟩
  rw [hgb] at b ⊢
  clear hgb
  clear nb
  have hC6 := Lib.hid (of_N u 150 (by decide) hu w5)
  go_wp2_with fail
  refine hC6.out.mono ?_
  rintro e w6 ⟨vc, rfl, nc, hb⟩
  obtain ⟨vca, vcl, vcc, rfl⟩ := nc.shape
  rw [hcE.out] at nc
  replace a := Lib.hid (a.out.below hb)
  replace b := Lib.hid (b.out.below hb)
  replace nc := Lib.hid nc
  replace hE := Lib.hid (hE.out.trans (hb.mono hE.out.size))
  clear hb hC6 
  go_upto_region 5 with (fail)
  have hb : Below w6.heap.size w6 (w6.alloc (.cells #[.slice vca vcl vcc] 26)) := (Below.refl _ _).alloc (Nat.le_refl _) _
  have c' := Var.made nc.out
  replace a := Lib.hid (a.out.below hb)
  replace b := Lib.hid (b.out.below hb)
  replace nc := Lib.hid (nc.out.below hb)
  replace hE := Lib.hid (hE.out.trans (hb.mono hE.out.size))
  have c := Lib.hid c'
  clear hb c'
  obtain ⟨w7, hw⟩ : ∃ W, (w6.alloc (.cells #[.slice vca vcl vcc] 26)) = W := ⟨_, rfl⟩
  rw [hw] at hE a b nc c ⊢
  clear hw
  obtain ⟨gc, hgc⟩ : ∃ g, w6.heap.size = g := ⟨_, rfl⟩
  rw [hgc] at c ⊢
  clear hgc
  clear nc
  obtain ⟨aa, al, ac, ab, an⟩ := a.out
  have za := ab.cell
  replace an := Lib.hid an
  clear ab
  obtain ⟨ba, bl, bc, bb, bn⟩ := b.out
  have zb := bb.cell
  replace bn := Lib.hid bn
  clear bb
  have hC8 := Lib.hid (Add_N an.out bn.out (Nat.le_trans hA.out (by decide)) (Nat.le_trans hB.out (by decide)))
  go_wp2_with fail
  refine hC8.out.mono ?_
  rintro e w8 ⟨tx, rfl, nx, hb⟩
  obtain ⟨txa, txl, txc, rfl⟩ := nx.shape
  rw [fx.out.2]
  rw [fx.out.1] at nx
  replace a := Lib.hid (a.out.below hb)
  replace b := Lib.hid (b.out.below hb)
  replace c := Lib.hid (c.out.below hb)
  replace nx := Lib.hid nx
  replace hE := Lib.hid (hE.out.trans (hb.mono hE.out.size))
  clear hb hC8 za an zb bn
  go_upto_region 6 with (fail)
  have hb : Below w8.heap.size w8 (w8.alloc (.cells #[.slice txa txl txc] 26)) := (Below.refl _ _).alloc (Nat.le_refl _) _
  have x' := Var.made nx.out
  replace a := Lib.hid (a.out.below hb)
  replace b := Lib.hid (b.out.below hb)
  replace c := Lib.hid (c.out.below hb)
  replace nx := Lib.hid (nx.out.below hb)
  replace hE := Lib.hid (hE.out.trans (hb.mono hE.out.size))
  have x := Lib.hid x'
  clear hb x'
  obtain ⟨w9, hw⟩ : ∃ W, (w8.alloc (.cells #[.slice txa txl txc] 26)) = W := ⟨_, rfl⟩
  rw [hw] at hE a b c nx x ⊢
  clear hw
  obtain ⟨gx, hgx⟩ : ∃ g, w8.heap.size = g := ⟨_, rfl⟩
  rw [hgx] at x ⊢
  clear hgx
  clear nx
  obtain ⟨ba, bl, bc, bb, bn⟩ := b.out
  have zb := bb.cell
  replace bn := Lib.hid bn
  clear bb
  obtain ⟨aa, al, ac, ab, an⟩ := a.out
  have za := ab.cell
  replace an := Lib.hid an
  clear ab
  have hC10 := Lib.hid (Add_N bn.out an.out (Nat.le_trans hB.out (by decide)) (Nat.le_trans hA.out (by decide)))
  go_wp2_with fail
  refine hC10.out.mono ?_
  rintro e w10 ⟨ty, rfl, ny, hb⟩
  obtain ⟨tya, tyl, tyc, rfl⟩ := ny.shape
  rw [fy.out.2]
  rw [fy.out.1] at ny
  replace a := Lib.hid (a.out.below hb)
  replace b := Lib.hid (b.out.below hb)
  replace c := Lib.hid (c.out.below hb)
  replace x := Lib.hid (x.out.below hb)
  replace ny := Lib.hid ny
  replace hE := Lib.hid (hE.out.trans (hb.mono hE.out.size))
  clear hb hC10 zb bn za an
  go_upto_region 7 with (fail)
  have hb : Below w10.heap.size w10 (w10.alloc (.cells #[.slice tya tyl tyc] 26)) := (Below.refl _ _).alloc (Nat.le_refl _) _
  have y' := Var.made ny.out
  replace a := Lib.hid (a.out.below hb)
  replace b := Lib.hid (b.out.below hb)
  replace c := Lib.hid (c.out.below hb)
  replace x := Lib.hid (x.out.below hb)
  replace ny := Lib.hid (ny.out.below hb)
  replace hE := Lib.hid (hE.out.trans (hb.mono hE.out.size))
  have y := Lib.hid y'
  clear hb y'
  obtain ⟨w11, hw⟩ : ∃ W, (w10.alloc (.cells #[.slice tya tyl tyc] 26)) = W := ⟨_, rfl⟩
  rw [hw] at hE a b c x ny y ⊢
  clear hw
  obtain ⟨gy, hgy⟩ : ∃ g, w10.heap.size = g := ⟨_, rfl⟩
  rw [hgy] at y ⊢
  clear hgy
  clear ny
  obtain ⟨aa, al, ac, ab, an⟩ := a.out
  have za := ab.cell
  replace an := Lib.hid an
  clear ab
  obtain ⟨ba, bl, bc, bb, bn⟩ := b.out
  have zb := bb.cell
  replace bn := Lib.hid bn
  clear bb
  have hC12 := Lib.hid (Mul_N an.out bn.out (Nat.le_trans hA.out (by decide)) (Nat.le_trans hB.out (by decide)))
  go_wp2_with fail
  refine hC12.out.mono ?_
  rintro e w12 ⟨tp, rfl, np, hb⟩
  obtain ⟨tpa, tpl, tpc, rfl⟩ := np.shape
  rw [fp.out.2]
  rw [fp.out.1] at np
  replace a := Lib.hid (a.out.below hb)
  replace b := Lib.hid (b.out.below hb)
  replace c := Lib.hid (c.out.below hb)
  replace x := Lib.hid (x.out.below hb)
  replace y := Lib.hid (y.out.below hb)
  replace np := Lib.hid np
  replace hE := Lib.hid (hE.out.trans (hb.mono hE.out.size))
  clear hb hC12 za an zb bn
  go_upto_region 8 with (fail)
  have hb : Below w12.heap.size w12 (w12.alloc (.cells #[.slice tpa tpl tpc] 26)) := (Below.refl _ _).alloc (Nat.le_refl _) _
  have p' := Var.made np.out
  replace a := Lib.hid (a.out.below hb)
  replace b := Lib.hid (b.out.below hb)
  replace c := Lib.hid (c.out.below hb)
  replace x := Lib.hid (x.out.below hb)
  replace y := Lib.hid (y.out.below hb)
  replace np := Lib.hid (np.out.below hb)
  replace hE := Lib.hid (hE.out.trans (hb.mono hE.out.size))
  have p := Lib.hid p'
  clear hb p'
  obtain ⟨w13, hw⟩ : ∃ W, (w12.alloc (.cells #[.slice tpa tpl tpc] 26)) = W := ⟨_, rfl⟩
  rw [hw] at hE a b c x y np p ⊢
  clear hw
  obtain ⟨gp, hgp⟩ : ∃ g, w12.heap.size = g := ⟨_, rfl⟩
  rw [hgp] at p ⊢
  clear hgp
  clear np
  obtain ⟨ba, bl, bc, bb, bn⟩ := b.out
  have zb := bb.cell
  replace bn := Lib.hid bn
  clear bb
  obtain ⟨aa, al, ac, ab, an⟩ := a.out
  have za := ab.cell
  replace an := Lib.hid an
  clear ab
  have hC14 := Lib.hid (Mul_N bn.out an.out (Nat.le_trans hB.out (by decide)) (Nat.le_trans hA.out (by decide)))
  go_wp2_with fail
  refine hC14.out.mono ?_
  rintro e w14 ⟨tq, rfl, nq, hb⟩
  obtain ⟨tqa, tql, tqc, rfl⟩ := nq.shape
  rw [fq.out.2]
  rw [fq.out.1] at nq
  replace a := Lib.hid (a.out.below hb)
  replace b := Lib.hid (b.out.below hb)
  replace c := Lib.hid (c.out.below hb)
  replace x := Lib.hid (x.out.below hb)
  replace y := Lib.hid (y.out.below hb)
  replace p := Lib.hid (p.out.below hb)
  replace nq := Lib.hid nq
  replace hE := Lib.hid (hE.out.trans (hb.mono hE.out.size))
  clear hb hC14 zb bn za an
  go_upto_region 9 with (fail)
  have hb : Below w14.heap.size w14 (w14.alloc (.cells #[.slice tqa tql tqc] 26)) := (Below.refl _ _).alloc (Nat.le_refl _) _
  have q' := Var.made nq.out
  replace a := Lib.hid (a.out.below hb)
  replace b := Lib.hid (b.out.below hb)
  replace c := Lib.hid (c.out.below hb)
  replace x := Lib.hid (x.out.below hb)
  replace y := Lib.hid (y.out.below hb)
  replace p := Lib.hid (p.out.below hb)
  replace nq := Lib.hid (nq.out.below hb)
  replace hE := Lib.hid (hE.out.trans (hb.mono hE.out.size))
  have q := Lib.hid q'
  clear hb q'
  obtain ⟨w15, hw⟩ : ∃ W, (w14.alloc (.cells #[.slice tqa tql tqc] 26)) = W := ⟨_, rfl⟩
  rw [hw] at hE a b c x y p nq q ⊢
  clear hw
  obtain ⟨gq, hgq⟩ : ∃ g, w14.heap.size = g := ⟨_, rfl⟩
  rw [hgq] at q ⊢
  clear hgq
  clear nq
  obtain ⟨xa, xl, xc, xb, xn⟩ := x.out
  have zx := xb.cell
  replace xn := Lib.hid xn
  clear xb
  obtain ⟨ca, cl, cc, cb, cn⟩ := c.out
  have zc := cb.cell
  replace cn := Lib.hid cn
  clear cb
  have hC16 := Lib.hid (Mul_N xn.out cn.out (Nat.le_trans hX.out (by decide)) (Nat.le_trans hC.out (by decide)))
  go_wp2_with fail
  refine hC16.out.mono ?_
  rintro e w16 ⟨tl, rfl, nl, hb⟩
  obtain ⟨tla, tll, tlc, rfl⟩ := nl.shape
  rw [fl.out.2]
  rw [fl.out.1] at nl
  replace a := Lib.hid (a.out.below hb)
  replace b := Lib.hid (b.out.below hb)
  replace c := Lib.hid (c.out.below hb)
  replace x := Lib.hid (x.out.below hb)
  replace y := Lib.hid (y.out.below hb)
  replace p := Lib.hid (p.out.below hb)
  replace q := Lib.hid (q.out.below hb)
  replace nl := Lib.hid nl
  replace hE := Lib.hid (hE.out.trans (hb.mono hE.out.size))
  clear hb hC16 zx xn zc cn
  go_upto_region 10 with (fail)
  have hb : Below w16.heap.size w16 (w16.alloc (.cells #[.slice tla tll tlc] 26)) := (Below.refl _ _).alloc (Nat.le_refl _) _
  have l' := Var.made nl.out
  replace a := Lib.hid (a.out.below hb)
  replace b := Lib.hid (b.out.below hb)
  replace c := Lib.hid (c.out.below hb)
  replace x := Lib.hid (x.out.below hb)
  replace y := Lib.hid (y.out.below hb)
  replace p := Lib.hid (p.out.below hb)
  replace q := Lib.hid (q.out.below hb)
  replace nl := Lib.hid (nl.out.below hb)
  replace hE := Lib.hid (hE.out.trans (hb.mono hE.out.size))
  have l := Lib.hid l'
  clear hb l'
  obtain ⟨w17, hw⟩ : ∃ W, (w16.alloc (.cells #[.slice tla tll tlc] 26)) = W := ⟨_, rfl⟩
  rw [hw] at hE a b c x y p q nl l ⊢
  clear hw
  obtain ⟨gl, hgl⟩ : ∃ g, w16.heap.size = g := ⟨_, rfl⟩
  rw [hgl] at l ⊢
  clear hgl
  clear nl
  obtain ⟨aa, al, ac, ab, an⟩ := a.out
  have za := ab.cell
  replace an := Lib.hid an
  clear ab
  obtain ⟨ca, cl, cc, cb, cn⟩ := c.out
  have zc := cb.cell
  replace cn := Lib.hid cn
  clear cb
  have hC18 := Lib.hid (Mul_N an.out cn.out (Nat.le_trans hA.out (by decide)) (Nat.le_trans hC.out (by decide)))
  go_wp2_with fail
  refine hC18.out.mono ?_
  rintro e w18 ⟨tm, rfl, nm, hb⟩
  obtain ⟨tma, tml, tmc, rfl⟩ := nm.shape
  rw [fm.out.2]
  rw [fm.out.1] at nm
  replace a := Lib.hid (a.out.below hb)
  replace b := Lib.hid (b.out.below hb)
  replace c := Lib.hid (c.out.below hb)
  replace x := Lib.hid (x.out.below hb)
  replace y := Lib.hid (y.out.below hb)
  replace p := Lib.hid (p.out.below hb)
  replace q := Lib.hid (q.out.below hb)
  replace l := Lib.hid (l.out.below hb)
  replace nm := Lib.hid nm
  replace hE := Lib.hid (hE.out.trans (hb.mono hE.out.size))
  clear hb hC18 za an zc cn
  go_upto_region 11 with (fail)
  have hb : Below w18.heap.size w18 (w18.alloc (.cells #[.slice tma tml tmc] 26)) := (Below.refl _ _).alloc (Nat.le_refl _) _
  have m' := Var.made nm.out
  replace a := Lib.hid (a.out.below hb)
  replace b := Lib.hid (b.out.below hb)
  replace c := Lib.hid (c.out.below hb)
  replace x := Lib.hid (x.out.below hb)
  replace y := Lib.hid (y.out.below hb)
  replace p := Lib.hid (p.out.below hb)
  replace q := Lib.hid (q.out.below hb)
  replace l := Lib.hid (l.out.below hb)
  replace nm := Lib.hid (nm.out.below hb)
  replace hE := Lib.hid (hE.out.trans (hb.mono hE.out.size))
  have m := Lib.hid m'
  clear hb m'
  obtain ⟨w19, hw⟩ : ∃ W, (w18.alloc (.cells #[.slice tma tml tmc] 26)) = W := ⟨_, rfl⟩
  rw [hw] at hE a b c x y p q l nm m ⊢
  clear hw
  obtain ⟨gm, hgm⟩ : ∃ g, w18.heap.size = g := ⟨_, rfl⟩
  rw [hgm] at m ⊢
  clear hgm
  clear nm
  obtain ⟨ba, bl, bc, bb, bn⟩ := b.out
  have zb := bb.cell
  replace bn := Lib.hid bn
  clear bb
  obtain ⟨ca, cl, cc, cb, cn⟩ := c.out
  have zc := cb.cell
  replace cn := Lib.hid cn
  clear cb
  have hC20 := Lib.hid (Mul_N bn.out cn.out (Nat.le_trans hB.out (by decide)) (Nat.le_trans hC.out (by decide)))
  go_wp2_with fail
  refine hC20.out.mono ?_
  rintro e w20 ⟨tn, rfl, nn, hb⟩
  obtain ⟨tna, tnl, tnc, rfl⟩ := nn.shape
  rw [fn.out.2]
  rw [fn.out.1] at nn
  replace a := Lib.hid (a.out.below hb)
  replace b := Lib.hid (b.out.below hb)
  replace c := Lib.hid (c.out.below hb)
  replace x := Lib.hid (x.out.below hb)
  replace y := Lib.hid (y.out.below hb)
  replace p := Lib.hid (p.out.below hb)
  replace q := Lib.hid (q.out.below hb)
  replace l := Lib.hid (l.out.below hb)
  replace m := Lib.hid (m.out.below hb)
  replace nn := Lib.hid nn
  replace hE := Lib.hid (hE.out.trans (hb.mono hE.out.size))
  clear hb hC20 zb bn zc cn
  go_upto_region 12 with (fail)
  have hb : Below w20.heap.size w20 (w20.alloc (.cells #[.slice tna tnl tnc] 26)) := (Below.refl _ _).alloc (Nat.le_refl _) _
  have n' := Var.made nn.out
  replace a := Lib.hid (a.out.below hb)
  replace b := Lib.hid (b.out.below hb)
  replace c := Lib.hid (c.out.below hb)
  replace x := Lib.hid (x.out.below hb)
  replace y := Lib.hid (y.out.below hb)
  replace p := Lib.hid (p.out.below hb)
  replace q := Lib.hid (q.out.below hb)
  replace l := Lib.hid (l.out.below hb)
  replace m := Lib.hid (m.out.below hb)
  replace nn := Lib.hid (nn.out.below hb)
  replace hE := Lib.hid (hE.out.trans (hb.mono hE.out.size))
  have n := Lib.hid n'
  clear hb n'
  obtain ⟨w21, hw⟩ : ∃ W, (w20.alloc (.cells #[.slice tna tnl tnc] 26)) = W := ⟨_, rfl⟩
  rw [hw] at hE a b c x y p q l m nn n ⊢
  clear hw
  obtain ⟨gn, hgn⟩ : ∃ g, w20.heap.size = g := ⟨_, rfl⟩
  rw [hgn] at n ⊢
  clear hgn
  clear nn
  obtain ⟨ma, ml, mc, mb, mn⟩ := m.out
  have zm := mb.cell
  replace mn := Lib.hid mn
  clear mb
  obtain ⟨na, nl, nc, nb, nn⟩ := n.out
  have zn := nb.cell
  replace nn := Lib.hid nn
  clear nb
  have hC22 := Lib.hid (Add_N mn.out nn.out (Nat.le_trans hM.out (by decide)) (Nat.le_trans hN.out (by decide)))
  go_wp2_with fail
  refine hC22.out.mono ?_
  rintro e w22 ⟨tr, rfl, nr, hb⟩
  obtain ⟨tra, trl, trc, rfl⟩ := nr.shape
  rw [fr.out.2]
  rw [fr.out.1] at nr
  replace a := Lib.hid (a.out.below hb)
  replace b := Lib.hid (b.out.below hb)
  replace c := Lib.hid (c.out.below hb)
  replace x := Lib.hid (x.out.below hb)
  replace y := Lib.hid (y.out.below hb)
  replace p := Lib.hid (p.out.below hb)
  replace q := Lib.hid (q.out.below hb)
  replace l := Lib.hid (l.out.below hb)
  replace m := Lib.hid (m.out.below hb)
  replace n := Lib.hid (n.out.below hb)
  replace nr := Lib.hid nr
  replace hE := Lib.hid (hE.out.trans (hb.mono hE.out.size))
  clear hb hC22 zm mn zn nn
  go_upto_region 13 with (fail)
  have hb : Below w22.heap.size w22 (w22.alloc (.cells #[.slice tra trl trc] 26)) := (Below.refl _ _).alloc (Nat.le_refl _) _
  have r' := Var.made nr.out
  replace a := Lib.hid (a.out.below hb)
  replace b := Lib.hid (b.out.below hb)
  replace c := Lib.hid (c.out.below hb)
  replace x := Lib.hid (x.out.below hb)
  replace y := Lib.hid (y.out.below hb)
  replace p := Lib.hid (p.out.below hb)
  replace q := Lib.hid (q.out.below hb)
  replace l := Lib.hid (l.out.below hb)
  replace m := Lib.hid (m.out.below hb)
  replace n := Lib.hid (n.out.below hb)
  replace nr := Lib.hid (nr.out.below hb)
  replace hE := Lib.hid (hE.out.trans (hb.mono hE.out.size))
  have r := Lib.hid r'
  clear hb r'
  obtain ⟨w23, hw⟩ : ∃ W, (w22.alloc (.cells #[.slice tra trl trc] 26)) = W := ⟨_, rfl⟩
  rw [hw] at hE a b c x y p q l m n nr r ⊢
  clear hw
  obtain ⟨gr, hgr⟩ : ∃ g, w22.heap.size = g := ⟨_, rfl⟩
  rw [hgr] at r ⊢
  clear hgr
  clear nr
  obtain ⟨xa, xl, xc, xb, xn⟩ := x.out
  have zx := xb.cell
  replace xn := Lib.hid xn
  clear xb
  obtain ⟨ba, bl, bc, bb, bn⟩ := b.out
  have zb := bb.cell
  replace bn := Lib.hid bn
  clear bb
  have hC24 := Lib.hid (Sub_N xn.out bn.out (Nat.le_trans hX.out (by decide)) (Nat.le_trans hB.out (by decide)))
  go_wp2_with fail
  refine hC24.out.mono ?_
  rintro e w24 ⟨tk, rfl, nk, hb⟩
  obtain ⟨tka, tkl, tkc, rfl⟩ := nk.shape
  rw [if_neg (Nat.not_lt.2 (Nat.le_add_left b0 a0))]
  rw [Nat.add_sub_cancel] at nk
  replace a := Lib.hid (a.out.below hb)
  replace b := Lib.hid (b.out.below hb)
  replace c := Lib.hid (c.out.below hb)
  replace x := Lib.hid (x.out.below hb)
  replace y := Lib.hid (y.out.below hb)
  replace p := Lib.hid (p.out.below hb)
  replace q := Lib.hid (q.out.below hb)
  replace l := Lib.hid (l.out.below hb)
  replace m := Lib.hid (m.out.below hb)
  replace n := Lib.hid (n.out.below hb)
  replace r := Lib.hid (r.out.below hb)
  replace nk := Lib.hid nk
  replace hE := Lib.hid (hE.out.trans (hb.mono hE.out.size))
  clear hb hC24 zx xn zb bn
  go_upto_region 14 with (fail)
  have hb : Below w24.heap.size w24 (w24.alloc (.cells #[.slice tka tkl tkc] 26)) := (Below.refl _ _).alloc (Nat.le_refl _) _
  have k' := Var.made nk.out
  replace a := Lib.hid (a.out.below hb)
  replace b := Lib.hid (b.out.below hb)
  replace c := Lib.hid (c.out.below hb)
  replace x := Lib.hid (x.out.below hb)
  replace y := Lib.hid (y.out.below hb)
  replace p := Lib.hid (p.out.below hb)
  replace q := Lib.hid (q.out.below hb)
  replace l := Lib.hid (l.out.below hb)
  replace m := Lib.hid (m.out.below hb)
  replace n := Lib.hid (n.out.below hb)
  replace r := Lib.hid (r.out.below hb)
  replace nk := Lib.hid (nk.out.below hb)
  replace hE := Lib.hid (hE.out.trans (hb.mono hE.out.size))
  have k := Lib.hid k'
  clear hb k'
  obtain ⟨w25, hw⟩ : ∃ W, (w24.alloc (.cells #[.slice tka tkl tkc] 26)) = W := ⟨_, rfl⟩
  rw [hw] at hE a b c x y p q l m n r nk k ⊢
  clear hw
  obtain ⟨gk, hgk⟩ : ∃ g, w24.heap.size = g := ⟨_, rfl⟩
  rw [hgk] at k ⊢
  clear hgk
  clear nk
  obtain ⟨xa, xl, xc, xb, xn⟩ := x.out
  have zx := xb.cell
  replace xn := Lib.hid xn
  clear xb
  obtain ⟨ya, yl, yc, yb, yn⟩ := y.out
  have zy := yb.cell
  replace yn := Lib.hid yn
  clear yb
  have hC26 := Lib.hid (Cmp_N xn.out yn.out (Nat.le_trans hX.out (by decide)) (Nat.le_trans hY.out (by decide)))
  go_wp2_with fail
  refine hC26.out.mono ?_
  rintro e w26 ⟨rfl, hb⟩
  rw [show cmpN (a0 + b0) (b0 + a0) = 0 from by rw [Nat.add_comm b0 a0]; exact cmpN_self _]
  replace a := Lib.hid (a.out.below hb)
  replace b := Lib.hid (b.out.below hb)
  replace c := Lib.hid (c.out.below hb)
  replace x := Lib.hid (x.out.below hb)
  replace y := Lib.hid (y.out.below hb)
  replace p := Lib.hid (p.out.below hb)
  replace q := Lib.hid (q.out.below hb)
  replace l := Lib.hid (l.out.below hb)
  replace m := Lib.hid (m.out.below hb)
  replace n := Lib.hid (n.out.below hb)
  replace r := Lib.hid (r.out.below hb)
  replace k := Lib.hid (k.out.below hb)
  replace hE := Lib.hid (hE.out.trans (hb.mono hE.out.size))
  clear hb hC26 zx xn zy yn
  obtain ⟨pa, pl, pc, pb, pn⟩ := p.out
  have zp := pb.cell
  replace pn := Lib.hid pn
  clear pb
  obtain ⟨qa, ql, qc, qb, qn⟩ := q.out
  have zq := qb.cell
  replace qn := Lib.hid qn
  clear qb
  have hC27 := Lib.hid (Cmp_N pn.out qn.out (Nat.le_trans hP.out (by decide)) (Nat.le_trans hQ.out (by decide)))
  go_wp2_with fail
  refine hC27.out.mono ?_
  rintro e w27 ⟨rfl, hb⟩
  rw [show cmpN (a0 * b0) (b0 * a0) = 0 from by rw [Nat.mul_comm b0 a0]; exact cmpN_self _]
  replace a := Lib.hid (a.out.below hb)
  replace b := Lib.hid (b.out.below hb)
  replace c := Lib.hid (c.out.below hb)
  replace x := Lib.hid (x.out.below hb)
  replace y := Lib.hid (y.out.below hb)
  replace p := Lib.hid (p.out.below hb)
  replace q := Lib.hid (q.out.below hb)
  replace l := Lib.hid (l.out.below hb)
  replace m := Lib.hid (m.out.below hb)
  replace n := Lib.hid (n.out.below hb)
  replace r := Lib.hid (r.out.below hb)
  replace k := Lib.hid (k.out.below hb)
  replace hE := Lib.hid (hE.out.trans (hb.mono hE.out.size))
  clear hb hC27 zp pn zq qn
  obtain ⟨la, ll, lc, lb, ln⟩ := l.out
  have zl := lb.cell
  replace ln := Lib.hid ln
  clear lb
  obtain ⟨ra, rl, rc, rb, rn⟩ := r.out
  have zr := rb.cell
  replace rn := Lib.hid rn
  clear rb
  have hC28 := Lib.hid (Cmp_N ln.out rn.out (Nat.le_trans hL.out (by decide)) (Nat.le_trans hR.out (by decide)))
  go_wp2_with fail
  refine hC28.out.mono ?_
  rintro e w28 ⟨rfl, hb⟩
  rw [show cmpN ((a0 + b0) * c0) (a0 * c0 + b0 * c0) = 0 from by rw [Nat.add_mul]; exact cmpN_self _]
  replace a := Lib.hid (a.out.below hb)
  replace b := Lib.hid (b.out.below hb)
  replace c := Lib.hid (c.out.below hb)
  replace x := Lib.hid (x.out.below hb)
  replace y := Lib.hid (y.out.below hb)
  replace p := Lib.hid (p.out.below hb)
  replace q := Lib.hid (q.out.below hb)
  replace l := Lib.hid (l.out.below hb)
  replace m := Lib.hid (m.out.below hb)
  replace n := Lib.hid (n.out.below hb)
  replace r := Lib.hid (r.out.below hb)
  replace k := Lib.hid (k.out.below hb)
  replace hE := Lib.hid (hE.out.trans (hb.mono hE.out.size))
  clear hb hC28 zl ln zr rn
  obtain ⟨ka, kl, kc, kb, kn⟩ := k.out
  have zk := kb.cell
  replace kn := Lib.hid kn
  clear kb
  obtain ⟨aa, al, ac, ab, an⟩ := a.out
  have za := ab.cell
  replace an := Lib.hid an
  clear ab
  have hC29 := Lib.hid (Cmp_N kn.out an.out (Nat.le_trans hA.out (by decide)) (Nat.le_trans hA.out (by decide)))
  go_wp2_with fail
  refine hC29.out.mono ?_
  rintro e w29 ⟨rfl, hb⟩
  rw [cmpN_self a0]
  replace a := Lib.hid (a.out.below hb)
  replace b := Lib.hid (b.out.below hb)
  replace c := Lib.hid (c.out.below hb)
  replace x := Lib.hid (x.out.below hb)
  replace y := Lib.hid (y.out.below hb)
  replace p := Lib.hid (p.out.below hb)
  replace q := Lib.hid (q.out.below hb)
  replace l := Lib.hid (l.out.below hb)
  replace m := Lib.hid (m.out.below hb)
  replace n := Lib.hid (n.out.below hb)
  replace r := Lib.hid (r.out.below hb)
  replace k := Lib.hid (k.out.below hb)
  replace hE := Lib.hid (hE.out.trans (hb.mono hE.out.size))
  clear hb hC29 zk kn za an
  go_wp2_with fail
  go_ret
  exact ⟨rfl, hE.out⟩
end Go.Proofs.YtffehdfddkgggaaDoor.Nu

namespace Go.Proofs.YtffehdfddkgggaaDoor.numberLaws
open Go.ChangeShapes Go.WideShapes Go.ChangeAt Go.RowKit
open Go.ChangeMaps (open_string shut_string)
set_option linter.unusedVariables false
set_option linter.unusedSimpArgs false
theorem laidOut : laidOutB Tryd.prog = true := by kernel_rfl
theorem own : ownKnob Tryd.prog.godebug = none := by kernel_rfl
set_option maxRecDepth 100000 in
theorem lifted (os : Os) (started : os.Started) (H : Type) (enc : TypeId × Value → H) :
    ReturnsInHanded {} Tryd.checked os 8 .any (fun w args => (Rows.numberLawsSpec.pre enc Tryd.prog Tryd.f8 [] false w args ∧ laidMetH Tryd.prog Rows.numberLawsRow.laid w) ∧ sizedMet enc Tryd.prog Tryd.f8 (OpenSpec.ofChange Rows.numberLawsSpec) false w args)
      (Rows.numberLawsSpec.post enc Tryd.prog Tryd.f8 false true false false) := by
  refine returnsInHanded_of_change_and (C := Tryd.checked) (X := fun w _ => laidMetH Tryd.prog Rows.numberLawsRow.laid w) (fun _ _ _ hh h => h.of_heap hh) own started (by kernel_rfl) Tryd.func8
    (ChangeSpec.witness_shaped (enc := enc) (C := Tryd.checked) (os := os) (X := fun w _ => laidMetH Tryd.prog Rows.numberLawsRow.laid w) false (World.laidAll Tryd.prog os Rows.numberLawsRow.laid) #[.string ByteArray.empty, .string ByteArray.empty, .string ByteArray.empty] 8 (World.laidAll_os _ _ _)
      (World.shaped_of_ZipB (by kernel_rfl) (by kernel_rfl)) (by kernel_rfl) (by kernel_rfl) (by kernel_rfl)
      (by rw [MakeChecks.laidMetH_plain _ _ _ (by kernel_rfl)]; exact laidMet_laidAll _ (by kernel_rfl) (by kernel_rfl))) ?_
  intro W base args ds gs before hval0 hW _ hsz0 _ _
  have hsz : (DataW.weightsEach Tryd.prog (Tryd.f8.params.toList ++ Rows.numberLawsSpec.plain.varTypes Tryd.prog) (ds ++ gs)).all (· ≤ reachBytes) = true := hsz0
  have hval : ∀ (j : Nat) t v, Tryd.f8.params[j]? = some t → args[j]? = some v → Value.okWide Tryd.prog W .any base t v := hval0
  have hW' := hW
  obtain ⟨p, q, hA0, hV, rfl, hfz, hnd⟩ := hW
  have hA : DataW.TrodAll enc Tryd.prog W 0 (fun _ => true) true Tryd.f8.params.toList args.toList ds p := hA0
  rw [Tryd.params8] at hA hval hsz
  obtain ⟨v0, vs0, d0, ds0, p0, q0, hargs, rfl, rfl, h0, r0⟩ := trodAll_cons hA
  obtain ⟨v1, vs1, d1, ds1, p1, q1, rfl, rfl, rfl, h1, r1⟩ := trodAll_cons r0
  obtain ⟨v2, vs2, d2, ds2, p2, q2, rfl, rfl, rfl, h2, r2⟩ := trodAll_cons r1
  obtain ⟨rfl, rfl, rfl⟩ := trodAll_nil r2
  obtain rfl : args = #[v0, v1, v2] := by cases args; simp_all
  obtain ⟨rfl, rfl⟩ := trodVars_none hV
  obtain ⟨a0, rfl, rfl, rfl, y0⟩ := open_string Tryd.underlying9 (hval 0 9 v0 rfl rfl) h0
  have n0 : a0.size ≤ 140737488351232 := by
    have z := sized_string hsz (j := 0) (t := 9) rfl rfl
    have hr : reachBytes = 140737488351232 := by decide
    rw [hr] at z
    have e2 : a0.data.toList.length = a0.size := Array.length_toList
    rw [e2] at z
    exact z
  obtain ⟨a1, rfl, rfl, rfl, y1⟩ := open_string Tryd.underlying9 (hval 1 9 v1 rfl rfl) h1
  have n1 : a1.size ≤ 140737488351232 := by
    have z := sized_string hsz (j := 1) (t := 9) rfl rfl
    have hr : reachBytes = 140737488351232 := by decide
    rw [hr] at z
    have e2 : a1.data.toList.length = a1.size := Array.length_toList
    rw [e2] at z
    exact z
  obtain ⟨a2, rfl, rfl, rfl, y2⟩ := open_string Tryd.underlying9 (hval 2 9 v2 rfl rfl) h2
  have n2 : a2.size ≤ 140737488351232 := by
    have z := sized_string hsz (j := 2) (t := 9) rfl rfl
    have hr : reachBytes = 140737488351232 := by decide
    rw [hr] at z
    have e2 : a2.data.toList.length = a2.size := Array.length_toList
    rw [e2] at z
    exact z
  clear hA0 hval0 hsz0 hsz
  refine (Nu.NumberLaws_any a0 a1 a2 (by omega) (by omega) (by omega) W).mono fun e W' ⟨he, bel⟩ => ?_
  subst he
  exact ⟨_, rfl, _, _, _, [], _, [], hW', trodAll_mk1 (shut_bool Tryd.underlying4 _), (trodAll_cons_mk (shut_string Tryd.underlying9 y0) (trodAll_cons_mk (shut_string Tryd.underlying9 y1) (trodAll_cons_mk (shut_string Tryd.underlying9 y2) trodAll_mk0))), rfl, bel.frame _, fun h => by cases h⟩
theorem over : Rows.numberLawsRow.holds Tryd.pinned (OpenSpec.ofChange Rows.numberLawsSpec) :=
  OpenClaim.holds_of_wide 8 Tryd.f8 rfl rfl rfl rfl rfl rfl rfl ⟨rfl, rfl, rfl, rfl, rfl⟩ rfl rfl rfl rfl rfl (by kernel_rfl) Tryd.func8 (by kernel_rfl)
    (of_decide_eq_true (by kernel_rfl)) (by unfold Func.isWrapper; first | (rw [if_pos (by decide +kernel)]; kernel_rfl) | (rw [if_neg (by decide +kernel)]; exact ⟨rfl, rfl⟩))
    (fun os started H enc _ => lifted os started H enc)
theorem card : Rows.NumberLawsCardSaid :=
  Claim7.holds_tied_plain_at .later [] [.data, .pinned] true (true, "acad1c1d1f756dec29b6445e289ef38fbf9a36fc57db2a92c0a2a1121c828621") false
    over (fun _ h => by cases h) (by kernel_rfl) (fun _ h => by cases h) numberLaws_row_tie rfl ⟨rfl, rfl⟩ (by kernel_rfl) rfl
    (fun f fn hf hfn => by
      obtain rfl : f = 8 := Option.some.inj ((show Tryd.prog.funcNamed "guidepost/guidepostlaw05.NumberLaws" = some 8 by kernel_rfl).symm.trans hf) |>.symm
      obtain rfl : fn = Tryd.f8 := (Option.some.inj (Tryd.func8.symm.trans hfn)).symm
      exact ⟨by kernel_rfl, fun j t ht => by
        rw [Tryd.params8] at ht
        have hm : t ∈ [9] := by have := Array.mem_of_getElem? ht; simp at this ⊢; omega
        have hall : ([9].all fun u => !Tryd.prog.wantsStandIn u) = true := by kernel_rfl
        exact (show Tryd.prog.wantsStandIn t = false by simpa using List.all_eq_true.1 hall t hm)⟩)
    (by kernel_rfl)
#print axioms card
end Go.Proofs.YtffehdfddkgggaaDoor.numberLaws
namespace Go.Proofs.YtffehdfddkgggaaDoor
/-- The card, under a short name, for the claim. -/
theorem numberLaws_holds : Rows.NumberLawsCardSaid := numberLaws.card
end Go.Proofs.YtffehdfddkgggaaDoor
