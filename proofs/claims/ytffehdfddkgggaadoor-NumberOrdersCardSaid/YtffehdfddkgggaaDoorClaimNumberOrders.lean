/- guidepostlaw05.NumberOrders: for every input it returns true, and each argument reads behind the call as before; the listed variables are tied to the program's text. -/
import Derived.Test.YtffehdfddkgggaaDoorMFC
import Derived.Test.YtffehdfddkgggaaDoorRows
import Derived.Test.YtffehdfddkgggaaDoorCards
import Derived.Test.YtffehdfddkgggaaDoorTie
import Derived.WalkKit
import Derived.ProofKit
import Derived.OpenShut
import Derived.ShutString
import Derived.ChangeOld
import Derived.Below
import Derived.SizedLaws
import Derived.Carry
import Derived.LaidMore
import Derived.Lay
import Derived.SevenTiedAt
/- guidepostlaw05.NumberOrders: the walk. -/
namespace Go.Proofs.YtffehdfddkgggaaDoor.Nu
open Go.RowKit Rt
set_option linter.unusedSimpArgs false
set_option linter.unusedVariables false
theorem cmpN_self (n : Nat) : cmpN n n = 0 := by unfold cmpN; rw [if_neg (Nat.lt_irrefl _), if_neg (Nat.lt_irrefl _)]
theorem cmpN_lt {n m : Nat} (h : n < m) : cmpN n m = -1 := by unfold cmpN; rw [if_pos h]
theorem cmpN_gt {n m : Nat} (h : m < n) : cmpN n m = 1 := by unfold cmpN; rw [if_neg (by omega), if_pos h]
theorem wide512 {n : Nat} (h : blen n ≤ 4096) : wideS n 512 = wideW n 512 ∧ wideE n 512 = 0 := by
  have he : wideE n 512 = 0 := by unfold wideE; rw [if_neg (by decide), if_neg (by omega)]
  refine ⟨?_, he⟩
  unfold wideS
  rw [if_pos he]
  rfl
theorem num_wide {n many : Nat} (h : blen n ≤ 8 * many) : numS (wideW n many) = n := by
  refine numS_wide ?_
  rw [show (256 : Nat) = 2 ^ 8 from rfl, ← Nat.pow_mul]
  exact blen_le.1 h
theorem num_wide512 {n : Nat} (h : blen n ≤ 4096) : numS (wideW n 512) = n := num_wide (many := 512) h
theorem wide_less {n m : Nat} (hn : blen n ≤ 4096) (hm : blen m ≤ 4096) : Go.Op.bytesLess (wideW n 512).toList (wideW m 512).toList = decide (n < m) := by
  rw [less_num (by rw [wideW_size, wideW_size]), num_wide512 hn, num_wide512 hm]
theorem string_gtr (x y : ByteArray) (v : Bool) (hv : (!(Go.Op.bytesLess x.toList y.toList || x.toList == y.toList)) = v) (w : World) : (binOp BinOp.gtr 9 (.string x) (.string y)).run Tryd.prog w = .ok (.bool v) w := by
  rw [← hv]
  simp [binOp, go_sem, Tryd.underlying9, Go.Op.stringOp]
theorem wide_ne {n m : Nat} (hn : blen n ≤ 4096) (hm : blen m ≤ 4096) (h : n ≠ m) : ((wideW n 512).toList == (wideW m 512).toList) = false := by
  rw [beq_eq_false_iff_ne]
  intro h2
  rw [bytes_list, bytes_list] at h2
  have h3 : wideW n 512 = wideW m 512 := by
    have := congrArg List.toArray h2
    rw [Array.toArray_toList, Array.toArray_toList] at this
    exact ByteArray.ext this
  apply h
  rw [← num_wide512 hn, h3, num_wide512 hm]
set_option maxHeartbeats 8000000 in
set_option maxRecDepth 100000 in
theorem NumberOrders_any (s t : ByteArray) (hs : s.size ≤ 9223372036854775807) (ht : t.size ≤ 9223372036854775807) (w : World) :
    Calls Tryd.prog 5 #[.string s, .string t] w fun e w' => e = .returned (.bool true) ∧ Below w.heap.size w w' := by
  obtain ⟨a0, ha0⟩ : ∃ z, ofV s 512 = z := ⟨_, rfl⟩
  obtain ⟨b0, hb0⟩ : ∃ z, ofV t 512 = z := ⟨_, rfl⟩
  have haE := Lib.hid ha0
  have hbE := Lib.hid hb0
  have hA : Hid (blen a0 ≤ 4096) := Lib.hid (by rw [← ha0]; exact ofV_small s (by decide))
  have hB : Hid (blen b0 ≤ 4096) := Lib.hid (by rw [← hb0]; exact ofV_small t (by decide))
  have hD : Hid (blen (a0 - b0) ≤ 4096) := Lib.hid (Nat.le_trans (blen_mono (Nat.sub_le _ _)) hA.out)
  have wa0 := wide512 hA.out
  have wb0 := wide512 hB.out
  have l1 := wide_less hA.out hB.out
  have l2 := wide_less hB.out hA.out
  have wne := fun h => wide_ne hA.out hB.out (show a0 ≠ b0 from h)
  obtain ⟨x, hx⟩ : ∃ z, wideW a0 512 = z := ⟨_, rfl⟩
  obtain ⟨y, hy⟩ : ∃ z, wideW b0 512 = z := ⟨_, rfl⟩
  rw [hx] at wa0 l1 l2 wne
  rw [hy] at wb0 l1 l2 wne
  have wa := Lib.hid wa0
  have wb := Lib.hid wb0
  clear ha0 hb0 wa0 wb0 hx hy
  rcases Nat.lt_trichotomy a0 b0 with h | h | h
  · rw [decide_eq_true h] at l1
    rw [decide_eq_false (Nat.not_lt.2 (Nat.le_of_lt h))] at l2
    have hg := string_gtr x y false (by rw [l1]; rfl)
    have hH := Lib.hid h
    clear h wne
    go_enter Tryd.func5, Tryd.ntmps5
    have hE := Lib.hid (Below.refl w.heap.size w)
    have hC1 := Lib.hid (examples_any w)
    go_wp2_with fail
    refine hC1.out.mono ?_
    rintro e w1 ⟨rfl, hb⟩
    replace hE := Lib.hid (hE.out.trans (hb.mono hE.out.size))
    clear hb hC1 
    have hC2 := Lib.hid (of_N s 512 (by decide) hs w1)
    go_wp2_with fail
    refine hC2.out.mono ?_
    rintro e w2 ⟨va, rfl, na, hb⟩
    obtain ⟨vaa, val, vac, rfl⟩ := na.shape
    rw [haE.out] at na
    replace na := Lib.hid na
    replace hE := Lib.hid (hE.out.trans (hb.mono hE.out.size))
    clear hb hC2 
    go_upto_region 3 with (fail)
    have hb : Below w2.heap.size w2 (w2.alloc (.cells #[.slice vaa val vac] 26)) := (Below.refl _ _).alloc (Nat.le_refl _) _
    have a' := Var.made na.out
    replace na := Lib.hid (na.out.below hb)
    replace hE := Lib.hid (hE.out.trans (hb.mono hE.out.size))
    have a := Lib.hid a'
    clear hb a'
    obtain ⟨w3, hw⟩ : ∃ W, (w2.alloc (.cells #[.slice vaa val vac] 26)) = W := ⟨_, rfl⟩
    rw [hw] at hE na a ⊢
    clear hw
    obtain ⟨ga, hga⟩ : ∃ g, w2.heap.size = g := ⟨_, rfl⟩
    rw [hga] at a ⊢
    clear hga
    clear na
    have hC4 := Lib.hid (of_N t 512 (by decide) ht w3)
    go_wp2_with fail
    refine hC4.out.mono ?_
    rintro e w4 ⟨vb, rfl, nb, hb⟩
    obtain ⟨vba, vbl, vbc, rfl⟩ := nb.shape
    rw [hbE.out] at nb
    replace a := Lib.hid (a.out.below hb)
    replace nb := Lib.hid nb
    replace hE := Lib.hid (hE.out.trans (hb.mono hE.out.size))
    clear hb hC4 
    go_upto_region 4 with (fail)
    have hb : Below w4.heap.size w4 (w4.alloc (.cells #[.slice vba vbl vbc] 26)) := (Below.refl _ _).alloc (Nat.le_refl _) _
    have b' := Var.made nb.out
    replace a := Lib.hid (a.out.below hb)
    replace nb := Lib.hid (nb.out.below hb)
    replace hE := Lib.hid (hE.out.trans (hb.mono hE.out.size))
    have b := Lib.hid b'
    clear hb b'
    obtain ⟨w5, hw⟩ : ∃ W, (w4.alloc (.cells #[.slice vba vbl vbc] 26)) = W := ⟨_, rfl⟩
    rw [hw] at hE a nb b ⊢
    clear hw
    obtain ⟨gb, hgb⟩ : ∃ g, w4.heap.size = g := ⟨_, rfl⟩
    rw [hgb] at b ⊢
    clear hgb
    clear nb
    obtain ⟨aa, al, ac, ab, an⟩ := a.out
    have za := ab.cell
    replace an := Lib.hid an
    clear ab
    have hC6 := Lib.hid (Wide_N an.out (Nat.le_trans hA.out (by decide)) 512 (by decide) (by decide))
    go_wp2_with fail
    refine hC6.out.mono ?_
    rintro e w6 ⟨rfl, hb⟩
    rw [wa.out.1, wa.out.2]
    replace a := Lib.hid (a.out.below hb)
    replace b := Lib.hid (b.out.below hb)
    replace hE := Lib.hid (hE.out.trans (hb.mono hE.out.size))
    clear hb hC6 za an
    obtain ⟨ba, bl, bc, bb, bn⟩ := b.out
    have zb := bb.cell
    replace bn := Lib.hid bn
    clear bb
    have hC7 := Lib.hid (Wide_N bn.out (Nat.le_trans hB.out (by decide)) 512 (by decide) (by decide))
    go_wp2_with fail
    refine hC7.out.mono ?_
    rintro e w7 ⟨rfl, hb⟩
    rw [wb.out.1, wb.out.2]
    replace a := Lib.hid (a.out.below hb)
    replace b := Lib.hid (b.out.below hb)
    replace hE := Lib.hid (hE.out.trans (hb.mono hE.out.size))
    clear hb hC7 zb bn
    obtain ⟨aa, al, ac, ab, an⟩ := a.out
    have za := ab.cell
    replace an := Lib.hid an
    clear ab
    obtain ⟨ba, bl, bc, bb, bn⟩ := b.out
    have zb := bb.cell
    replace bn := Lib.hid bn
    clear bb
    have hC8 := Lib.hid (Sub_N an.out bn.out (Nat.le_trans hA.out (by decide)) (Nat.le_trans hB.out (by decide)))
    go_wp2_with fail
    refine hC8.out.mono ?_
    rintro e w8 ⟨td, rfl, nd, hb⟩
    obtain ⟨tda, tdl, tdc, rfl⟩ := nd.shape
    rw [if_pos hH.out]
    replace a := Lib.hid (a.out.below hb)
    replace b := Lib.hid (b.out.below hb)
    replace nd := Lib.hid nd
    replace hE := Lib.hid (hE.out.trans (hb.mono hE.out.size))
    clear hb hC8 za an zb bn
    go_upto_region 12 with (fail)
    have hb : Below w8.heap.size w8 (w8.alloc (.cells #[.slice tda tdl tdc] 26)) := (Below.refl _ _).alloc (Nat.le_refl _) _
    have d' := Var.made nd.out
    replace a := Lib.hid (a.out.below hb)
    replace b := Lib.hid (b.out.below hb)
    replace nd := Lib.hid (nd.out.below hb)
    replace hE := Lib.hid (hE.out.trans (hb.mono hE.out.size))
    have d := Lib.hid d'
    clear hb d'
    obtain ⟨w9, hw⟩ : ∃ W, (w8.alloc (.cells #[.slice tda tdl tdc] 26)) = W := ⟨_, rfl⟩
    rw [hw] at hE a b nd d ⊢
    clear hw
    obtain ⟨gd, hgd⟩ : ∃ g, w8.heap.size = g := ⟨_, rfl⟩
    rw [hgd] at d ⊢
    clear hgd
    clear nd
    obtain ⟨aa, al, ac, ab, an⟩ := a.out
    have za := ab.cell
    replace an := Lib.hid an
    clear ab
    obtain ⟨ba, bl, bc, bb, bn⟩ := b.out
    have zb := bb.cell
    replace bn := Lib.hid bn
    clear bb
    have hC10 := Lib.hid (Cmp_N an.out bn.out (Nat.le_trans hA.out (by decide)) (Nat.le_trans hB.out (by decide)))
    go_wp2_with fail
    refine hC10.out.mono ?_
    rintro e w10 ⟨rfl, hb⟩
    rw [cmpN_lt hH.out]
    replace a := Lib.hid (a.out.below hb)
    replace b := Lib.hid (b.out.below hb)
    replace d := Lib.hid (d.out.below hb)
    replace hE := Lib.hid (hE.out.trans (hb.mono hE.out.size))
    clear hb hC10 za an zb bn
    obtain ⟨ba, bl, bc, bb, bn⟩ := b.out
    have zb := bb.cell
    replace bn := Lib.hid bn
    clear bb
    obtain ⟨aa, al, ac, ab, an⟩ := a.out
    have za := ab.cell
    replace an := Lib.hid an
    clear ab
    have hC11 := Lib.hid (Cmp_N bn.out an.out (Nat.le_trans hB.out (by decide)) (Nat.le_trans hA.out (by decide)))
    go_wp2_with fail
    refine hC11.out.mono ?_
    rintro e w11 ⟨rfl, hb⟩
    rw [cmpN_gt hH.out]
    replace a := Lib.hid (a.out.below hb)
    replace b := Lib.hid (b.out.below hb)
    replace d := Lib.hid (d.out.below hb)
    replace hE := Lib.hid (hE.out.trans (hb.mono hE.out.size))
    clear hb hC11 zb bn za an
    go_wp2_with fail
    go_ret
    exact ⟨rfl, hE.out⟩
  · subst h
    rw [decide_eq_false (Nat.lt_irrefl _)] at l1 l2
    have hxy : x = y := wa.out.1.symm.trans wb.out.1
    subst hxy
    have hg := string_gtr x x false (by rw [l1, beq_self_eq_true]; rfl)
    clear wne
    go_enter Tryd.func5, Tryd.ntmps5
    have hE := Lib.hid (Below.refl w.heap.size w)
    have hC1 := Lib.hid (examples_any w)
    go_wp2_with fail
    refine hC1.out.mono ?_
    rintro e w1 ⟨rfl, hb⟩
    replace hE := Lib.hid (hE.out.trans (hb.mono hE.out.size))
    clear hb hC1 
    have hC2 := Lib.hid (of_N s 512 (by decide) hs w1)
    go_wp2_with fail
    refine hC2.out.mono ?_
    rintro e w2 ⟨va, rfl, na, hb⟩
    obtain ⟨vaa, val, vac, rfl⟩ := na.shape
    rw [haE.out] at na
    replace na := Lib.hid na
    replace hE := Lib.hid (hE.out.trans (hb.mono hE.out.size))
    clear hb hC2 
    go_upto_region 3 with (fail)
    have hb : Below w2.heap.size w2 (w2.alloc (.cells #[.slice vaa val vac] 26)) := (Below.refl _ _).alloc (Nat.le_refl _) _
    have a' := Var.made na.out
    replace na := Lib.hid (na.out.below hb)
    replace hE := Lib.hid (hE.out.trans (hb.mono hE.out.size))
    have a := Lib.hid a'
    clear hb a'
    obtain ⟨w3, hw⟩ : ∃ W, (w2.alloc (.cells #[.slice vaa val vac] 26)) = W := ⟨_, rfl⟩
    rw [hw] at hE na a ⊢
    clear hw
    obtain ⟨ga, hga⟩ : ∃ g, w2.heap.size = g := ⟨_, rfl⟩
    rw [hga] at a ⊢
    clear hga
    clear na
    have hC4 := Lib.hid (of_N t 512 (by decide) ht w3)
    go_wp2_with fail
    refine hC4.out.mono ?_
    rintro e w4 ⟨vb, rfl, nb, hb⟩
    obtain ⟨vba, vbl, vbc, rfl⟩ := nb.shape
    rw [hbE.out] at nb
    replace a := Lib.hid (a.out.below hb)
    replace nb := Lib.hid nb
    replace hE := Lib.hid (hE.out.trans (hb.mono hE.out.size))
    clear hb hC4 
    go_upto_region 4 with (fail)
    have hb : Below w4.heap.size w4 (w4.alloc (.cells #[.slice vba vbl vbc] 26)) := (Below.refl _ _).alloc (Nat.le_refl _) _
    have b' := Var.made nb.out
    replace a := Lib.hid (a.out.below hb)
    replace nb := Lib.hid (nb.out.below hb)
    replace hE := Lib.hid (hE.out.trans (hb.mono hE.out.size))
    have b := Lib.hid b'
    clear hb b'
    obtain ⟨w5, hw⟩ : ∃ W, (w4.alloc (.cells #[.slice vba vbl vbc] 26)) = W := ⟨_, rfl⟩
    rw [hw] at hE a nb b ⊢
    clear hw
    obtain ⟨gb, hgb⟩ : ∃ g, w4.heap.size = g := ⟨_, rfl⟩
    rw [hgb] at b ⊢
    clear hgb
    clear nb
    obtain ⟨aa, al, ac, ab, an⟩ := a.out
    have za := ab.cell
    replace an := Lib.hid an
    clear ab
    have hC6 := Lib.hid (Wide_N an.out (Nat.le_trans hA.out (by decide)) 512 (by decide) (by decide))
    go_wp2_with fail
    refine hC6.out.mono ?_
    rintro e w6 ⟨rfl, hb⟩
    rw [wa.out.1, wa.out.2]
    replace a := Lib.hid (a.out.below hb)
    replace b := Lib.hid (b.out.below hb)
    replace hE := Lib.hid (hE.out.trans (hb.mono hE.out.size))
    clear hb hC6 za an
    obtain ⟨ba, bl, bc, bb, bn⟩ := b.out
    have zb := bb.cell
    replace bn := Lib.hid bn
    clear bb
    have hC7 := Lib.hid (Wide_N bn.out (Nat.le_trans hB.out (by decide)) 512 (by decide) (by decide))
    go_wp2_with fail
    refine hC7.out.mono ?_
    rintro e w7 ⟨rfl, hb⟩
    rw [wb.out.1, wb.out.2]
    replace a := Lib.hid (a.out.below hb)
    replace b := Lib.hid (b.out.below hb)
    replace hE := Lib.hid (hE.out.trans (hb.mono hE.out.size))
    clear hb hC7 zb bn
    obtain ⟨aa, al, ac, ab, an⟩ := a.out
    have za := ab.cell
    replace an := Lib.hid an
    clear ab
    obtain ⟨ba, bl, bc, bb, bn⟩ := b.out
    have zb := bb.cell
    replace bn := Lib.hid bn
    clear bb
    have hC8 := Lib.hid (Sub_N an.out bn.out (Nat.le_trans hA.out (by decide)) (Nat.le_trans hB.out (by decide)))
    go_wp2_with fail
    refine hC8.out.mono ?_
    rintro e w8 ⟨td, rfl, nd, hb⟩
    obtain ⟨tda, tdl, tdc, rfl⟩ := nd.shape
    rw [if_neg (Nat.lt_irrefl a0)]
    replace a := Lib.hid (a.out.below hb)
    replace b := Lib.hid (b.out.below hb)
    replace nd := Lib.hid nd
    replace hE := Lib.hid (hE.out.trans (hb.mono hE.out.size))
    clear hb hC8 za an zb bn
    go_upto_region 12 with (fail)
    have hb : Below w8.heap.size w8 (w8.alloc (.cells #[.slice tda tdl tdc] 26)) := (Below.refl _ _).alloc (Nat.le_refl _) _
    have d' := Var.made nd.out
    replace a := Lib.hid (a.out.below hb)
    replace b := Lib.hid (b.out.below hb)
    replace nd := Lib.hid (nd.out.below hb)
    replace hE := Lib.hid (hE.out.trans (hb.mono hE.out.size))
    have d := Lib.hid d'
    clear hb d'
    obtain ⟨w9, hw⟩ : ∃ W, (w8.alloc (.cells #[.slice tda tdl tdc] 26)) = W := ⟨_, rfl⟩
    rw [hw] at hE a b nd d ⊢
    clear hw
    obtain ⟨gd, hgd⟩ : ∃ g, w8.heap.size = g := ⟨_, rfl⟩
    rw [hgd] at d ⊢
    clear hgd
    clear nd
    obtain ⟨aa, al, ac, ab, an⟩ := a.out
    have za := ab.cell
    replace an := Lib.hid an
    clear ab
    obtain ⟨ba, bl, bc, bb, bn⟩ := b.out
    have zb := bb.cell
    replace bn := Lib.hid bn
    clear bb
    have hC10 := Lib.hid (Cmp_N an.out bn.out (Nat.le_trans hA.out (by decide)) (Nat.le_trans hB.out (by decide)))
    go_wp2_with fail
    refine hC10.out.mono ?_
    rintro e w10 ⟨rfl, hb⟩
    rw [cmpN_self a0]
    replace a := Lib.hid (a.out.below hb)
    replace b := Lib.hid (b.out.below hb)
    replace d := Lib.hid (d.out.below hb)
    replace hE := Lib.hid (hE.out.trans (hb.mono hE.out.size))
    clear hb hC10 za an zb bn
    obtain ⟨ba, bl, bc, bb, bn⟩ := b.out
    have zb := bb.cell
    replace bn := Lib.hid bn
    clear bb
    obtain ⟨aa, al, ac, ab, an⟩ := a.out
    have za := ab.cell
    replace an := Lib.hid an
    clear ab
    have hC11 := Lib.hid (Cmp_N bn.out an.out (Nat.le_trans hB.out (by decide)) (Nat.le_trans hA.out (by decide)))
    go_wp2_with fail
    refine hC11.out.mono ?_
    rintro e w11 ⟨rfl, hb⟩
    rw [cmpN_self a0]
    replace a := Lib.hid (a.out.below hb)
    replace b := Lib.hid (b.out.below hb)
    replace d := Lib.hid (d.out.below hb)
    replace hE := Lib.hid (hE.out.trans (hb.mono hE.out.size))
    clear hb hC11 zb bn za an
    obtain ⟨da, dl, dc, db, dn⟩ := d.out
    have zd := db.cell
    replace dn := Lib.hid dn
    clear db
    have hC12 := Lib.hid (dn.out.bits (Nat.le_trans hD.out (by decide)))
    go_wp2_with fail
    refine hC12.out.mono ?_
    rintro e w12 ⟨rfl, hb⟩
    rw [Nat.sub_self, blen_zero]
    replace a := Lib.hid (a.out.below hb)
    replace b := Lib.hid (b.out.below hb)
    replace d := Lib.hid (d.out.below hb)
    replace hE := Lib.hid (hE.out.trans (hb.mono hE.out.size))
    clear hb hC12 zd dn
    go_wp2_with fail
    go_ret
    exact ⟨rfl, hE.out⟩
  · rw [decide_eq_true h] at l2
    rw [decide_eq_false (Nat.not_lt.2 (Nat.le_of_lt h))] at l1
    have hH := Lib.hid h
    obtain ⟨bl, hbl⟩ : ∃ z, blen (a0 - b0) = z := ⟨_, rfl⟩
    have hbl0 : ((bl : Int) == 0) = false := by
      have : bl ≠ 0 := by
        intro e
        rw [e, blen_eq_zero] at hbl
        omega
      simpa using this
    have hblH := Lib.hid hbl
    have hg := string_gtr x y true (by rw [l1, wne (Nat.ne_of_gt h)]; rfl)
    clear h hbl wne
    go_enter Tryd.func5, Tryd.ntmps5
    have hE := Lib.hid (Below.refl w.heap.size w)
    have hC1 := Lib.hid (examples_any w)
    go_wp2_with fail
    refine hC1.out.mono ?_
    rintro e w1 ⟨rfl, hb⟩
    replace hE := Lib.hid (hE.out.trans (hb.mono hE.out.size))
    clear hb hC1 
    have hC2 := Lib.hid (of_N s 512 (by decide) hs w1)
    go_wp2_with fail
    refine hC2.out.mono ?_
    rintro e w2 ⟨va, rfl, na, hb⟩
    obtain ⟨vaa, val, vac, rfl⟩ := na.shape
    rw [haE.out] at na
    replace na := Lib.hid na
    replace hE := Lib.hid (hE.out.trans (hb.mono hE.out.size))
    clear hb hC2 
    go_upto_region 3 with (fail)
    have hb : Below w2.heap.size w2 (w2.alloc (.cells #[.slice vaa val vac] 26)) := (Below.refl _ _).alloc (Nat.le_refl _) _
    have a' := Var.made na.out
    replace na := Lib.hid (na.out.below hb)
    replace hE := Lib.hid (hE.out.trans (hb.mono hE.out.size))
    have a := Lib.hid a'
    clear hb a'
    obtain ⟨w3, hw⟩ : ∃ W, (w2.alloc (.cells #[.slice vaa val vac] 26)) = W := ⟨_, rfl⟩
    rw [hw] at hE na a ⊢
    clear hw
    obtain ⟨ga, hga⟩ : ∃ g, w2.heap.size = g := ⟨_, rfl⟩
    rw [hga] at a ⊢
    clear hga
    clear na
    have hC4 := Lib.hid (of_N t 512 (by decide) ht w3)
    go_wp2_with fail
    refine hC4.out.mono ?_
    rintro e w4 ⟨vb, rfl, nb, hb⟩
    obtain ⟨vba, vbl, vbc, rfl⟩ := nb.shape
    rw [hbE.out] at nb
    replace a := Lib.hid (a.out.below hb)
    replace nb := Lib.hid nb
    replace hE := Lib.hid (hE.out.trans (hb.mono hE.out.size))
    clear hb hC4 
    go_upto_region 4 with (fail)
    have hb : Below w4.heap.size w4 (w4.alloc (.cells #[.slice vba vbl vbc] 26)) := (Below.refl _ _).alloc (Nat.le_refl _) _
    have b' := Var.made nb.out
    replace a := Lib.hid (a.out.below hb)
    replace nb := Lib.hid (nb.out.below hb)
    replace hE := Lib.hid (hE.out.trans (hb.mono hE.out.size))
    have b := Lib.hid b'
    clear hb b'
    obtain ⟨w5, hw⟩ : ∃ W, (w4.alloc (.cells #[.slice vba vbl vbc] 26)) = W := ⟨_, rfl⟩
    rw [hw] at hE a nb b ⊢
    clear hw
    obtain ⟨gb, hgb⟩ : ∃ g, w4.heap.size = g := ⟨_, rfl⟩
    rw [hgb] at b ⊢
    clear hgb
    clear nb
    obtain ⟨aa, al, ac, ab, an⟩ := a.out
    have za := ab.cell
    replace an := Lib.hid an
    clear ab
    have hC6 := Lib.hid (Wide_N an.out (Nat.le_trans hA.out (by decide)) 512 (by decide) (by decide))
    go_wp2_with fail
    refine hC6.out.mono ?_
    rintro e w6 ⟨rfl, hb⟩
    rw [wa.out.1, wa.out.2]
    replace a := Lib.hid (a.out.below hb)
    replace b := Lib.hid (b.out.below hb)
    replace hE := Lib.hid (hE.out.trans (hb.mono hE.out.size))
    clear hb hC6 za an
    obtain ⟨ba, bl, bc, bb, bn⟩ := b.out
    have zb := bb.cell
    replace bn := Lib.hid bn
    clear bb
    have hC7 := Lib.hid (Wide_N bn.out (Nat.le_trans hB.out (by decide)) 512 (by decide) (by decide))
    go_wp2_with fail
    refine hC7.out.mono ?_
    rintro e w7 ⟨rfl, hb⟩
    rw [wb.out.1, wb.out.2]
    replace a := Lib.hid (a.out.below hb)
    replace b := Lib.hid (b.out.below hb)
    replace hE := Lib.hid (hE.out.trans (hb.mono hE.out.size))
    clear hb hC7 zb bn
    obtain ⟨aa, al, ac, ab, an⟩ := a.out
    have za := ab.cell
    replace an := Lib.hid an
    clear ab
    obtain ⟨ba, bl, bc, bb, bn⟩ := b.out
    have zb := bb.cell
    replace bn := Lib.hid bn
    clear bb
    have hC8 := Lib.hid (Sub_N an.out bn.out (Nat.le_trans hA.out (by decide)) (Nat.le_trans hB.out (by decide)))
    go_wp2_with fail
    refine hC8.out.mono ?_
    rintro e w8 ⟨td, rfl, nd, hb⟩
    obtain ⟨tda, tdl, tdc, rfl⟩ := nd.shape
    rw [if_neg (Nat.not_lt.2 (Nat.le_of_lt hH.out))]
    replace a := Lib.hid (a.out.below hb)
    replace b := Lib.hid (b.out.below hb)
    replace nd := Lib.hid nd
    replace hE := Lib.hid (hE.out.trans (hb.mono hE.out.size))
    clear hb hC8 za an zb bn
    go_upto_region 12 with (fail)
    have hb : Below w8.heap.size w8 (w8.alloc (.cells #[.slice tda tdl tdc] 26)) := (Below.refl _ _).alloc (Nat.le_refl _) _
    have d' := Var.made nd.out
    replace a := Lib.hid (a.out.below hb)
    replace b := Lib.hid (b.out.below hb)
    replace nd := Lib.hid (nd.out.below hb)
    replace hE := Lib.hid (hE.out.trans (hb.mono hE.out.size))
    have d := Lib.hid d'
    clear hb d'
    obtain ⟨w9, hw⟩ : ∃ W, (w8.alloc (.cells #[.slice tda tdl tdc] 26)) = W := ⟨_, rfl⟩
    rw [hw] at hE a b nd d ⊢
    clear hw
    obtain ⟨gd, hgd⟩ : ∃ g, w8.heap.size = g := ⟨_, rfl⟩
    rw [hgd] at d ⊢
    clear hgd
    clear nd
    obtain ⟨aa, al, ac, ab, an⟩ := a.out
    have za := ab.cell
    replace an := Lib.hid an
    clear ab
    obtain ⟨ba, bl, bc, bb, bn⟩ := b.out
    have zb := bb.cell
    replace bn := Lib.hid bn
    clear bb
    have hC10 := Lib.hid (Cmp_N an.out bn.out (Nat.le_trans hA.out (by decide)) (Nat.le_trans hB.out (by decide)))
    go_wp2_with fail
    refine hC10.out.mono ?_
    rintro e w10 ⟨rfl, hb⟩
    rw [cmpN_gt hH.out]
    replace a := Lib.hid (a.out.below hb)
    replace b := Lib.hid (b.out.below hb)
    replace d := Lib.hid (d.out.below hb)
    replace hE := Lib.hid (hE.out.trans (hb.mono hE.out.size))
    clear hb hC10 za an zb bn
    obtain ⟨ba, bl, bc, bb, bn⟩ := b.out
    have zb := bb.cell
    replace bn := Lib.hid bn
    clear bb
    obtain ⟨aa, al, ac, ab, an⟩ := a.out
    have za := ab.cell
    replace an := Lib.hid an
    clear ab
    have hC11 := Lib.hid (Cmp_N bn.out an.out (Nat.le_trans hB.out (by decide)) (Nat.le_trans hA.out (by decide)))
    go_wp2_with fail
    refine hC11.out.mono ?_
    rintro e w11 ⟨rfl, hb⟩
    rw [cmpN_lt hH.out]
    replace a := Lib.hid (a.out.below hb)
    replace b := Lib.hid (b.out.below hb)
    replace d := Lib.hid (d.out.below hb)
    replace hE := Lib.hid (hE.out.trans (hb.mono hE.out.size))
    clear hb hC11 zb bn za an
    obtain ⟨da, dl, dc, db, dn⟩ := d.out
    have zd := db.cell
    replace dn := Lib.hid dn
    clear db
    have hC12 := Lib.hid (dn.out.bits (Nat.le_trans hD.out (by decide)))
    go_wp2_with fail
    refine hC12.out.mono ?_
    rintro e w12 ⟨rfl, hb⟩
    rw [hblH.out]
    replace a := Lib.hid (a.out.below hb)
    replace b := Lib.hid (b.out.below hb)
    replace d := Lib.hid (d.out.below hb)
    replace hE := Lib.hid (hE.out.trans (hb.mono hE.out.size))
    clear hb hC12 zd dn
    go_wp2_with fail
    go_ret
    exact ⟨rfl, hE.out⟩
end Go.Proofs.YtffehdfddkgggaaDoor.Nu

namespace Go.Proofs.YtffehdfddkgggaaDoor.numberOrders
open Go.ChangeShapes Go.WideShapes Go.ChangeAt Go.RowKit
open Go.ChangeMaps (open_string shut_string)
set_option linter.unusedVariables false
set_option linter.unusedSimpArgs false
theorem laidOut : laidOutB Tryd.prog = true := by kernel_rfl
theorem own : ownKnob Tryd.prog.godebug = none := by kernel_rfl
set_option maxRecDepth 100000 in
theorem lifted (os : Os) (started : os.Started) (H : Type) (enc : TypeId × Value → H) :
    ReturnsInHanded {} Tryd.checked os 5 .any (fun w args => (Rows.numberOrdersSpec.pre enc Tryd.prog Tryd.f5 [] false w args ∧ laidMetH Tryd.prog Rows.numberOrdersRow.laid w) ∧ sizedMet enc Tryd.prog Tryd.f5 (OpenSpec.ofChange Rows.numberOrdersSpec) false w args)
      (Rows.numberOrdersSpec.post enc Tryd.prog Tryd.f5 false true false false) := by
  refine returnsInHanded_of_change_and (C := Tryd.checked) (X := fun w _ => laidMetH Tryd.prog Rows.numberOrdersRow.laid w) (fun _ _ _ hh h => h.of_heap hh) own started (by kernel_rfl) Tryd.func5
    (ChangeSpec.witness_shaped (enc := enc) (C := Tryd.checked) (os := os) (X := fun w _ => laidMetH Tryd.prog Rows.numberOrdersRow.laid w) false (World.laidAll Tryd.prog os Rows.numberOrdersRow.laid) #[.string ByteArray.empty, .string ByteArray.empty] 8 (World.laidAll_os _ _ _)
      (World.shaped_of_ZipB (by kernel_rfl) (by kernel_rfl)) (by kernel_rfl) (by kernel_rfl) (by kernel_rfl)
      (by rw [MakeChecks.laidMetH_plain _ _ _ (by kernel_rfl)]; exact laidMet_laidAll _ (by kernel_rfl) (by kernel_rfl))) ?_
  intro W base args ds gs before hval0 hW _ hsz0 _ _
  have hsz : (DataW.weightsEach Tryd.prog (Tryd.f5.params.toList ++ Rows.numberOrdersSpec.plain.varTypes Tryd.prog) (ds ++ gs)).all (· ≤ reachBytes) = true := hsz0
  have hval : ∀ (j : Nat) t v, Tryd.f5.params[j]? = some t → args[j]? = some v → Value.okWide Tryd.prog W .any base t v := hval0
  have hW' := hW
  obtain ⟨p, q, hA0, hV, rfl, hfz, hnd⟩ := hW
  have hA : DataW.TrodAll enc Tryd.prog W 0 (fun _ => true) true Tryd.f5.params.toList args.toList ds p := hA0
  rw [Tryd.params5] at hA hval hsz
  obtain ⟨v0, vs0, d0, ds0, p0, q0, hargs, rfl, rfl, h0, r0⟩ := trodAll_cons hA
  obtain ⟨v1, vs1, d1, ds1, p1, q1, rfl, rfl, rfl, h1, r1⟩ := trodAll_cons r0
  obtain ⟨rfl, rfl, rfl⟩ := trodAll_nil r1
  obtain rfl : args = #[v0, v1] := by cases args; simp_all
  obtain ⟨rfl, rfl⟩ := trodVars_none hV
  obtain ⟨a0, rfl, rfl, rfl, y0⟩ := open_string Tryd.underlying9 (hval 0 9 v0 rfl rfl) h0
  have n0 : a0.size ≤ 140737488351232 := by
    have z := sized_string hsz (j := 0) (t := 9) rfl rfl
    have hr : reachBytes = 140737488351232 := by decide
    rw [hr] at z
    have e2 : a0.data.toList.length = a0.size := Array.length_toList
    rw [e2] at z
    exact z
  obtain ⟨a1, rfl, rfl, rfl, y1⟩ := open_string Tryd.underlying9 (hval 1 9 v1 rfl rfl) h1
  have n1 : a1.size ≤ 140737488351232 := by
    have z := sized_string hsz (j := 1) (t := 9) rfl rfl
    have hr : reachBytes = 140737488351232 := by decide
    rw [hr] at z
    have e2 : a1.data.toList.length = a1.size := Array.length_toList
    rw [e2] at z
    exact z
  clear hA0 hval0 hsz0 hsz
  refine (Nu.NumberOrders_any a0 a1 (by omega) (by omega) W).mono fun e W' ⟨he, bel⟩ => ?_
  subst he
  exact ⟨_, rfl, _, _, _, [], _, [], hW', trodAll_mk1 (shut_bool Tryd.underlying4 _), (trodAll_cons_mk (shut_string Tryd.underlying9 y0) (trodAll_cons_mk (shut_string Tryd.underlying9 y1) trodAll_mk0)), rfl, bel.frame _, fun h => by cases h⟩
theorem over : Rows.numberOrdersRow.holds Tryd.pinned (OpenSpec.ofChange Rows.numberOrdersSpec) :=
  OpenClaim.holds_of_wide 5 Tryd.f5 rfl rfl rfl rfl rfl rfl rfl ⟨rfl, rfl, rfl, rfl, rfl⟩ rfl rfl rfl rfl rfl (by kernel_rfl) Tryd.func5 (by kernel_rfl)
    (of_decide_eq_true (by kernel_rfl)) (by unfold Func.isWrapper; first | (rw [if_pos (by decide +kernel)]; kernel_rfl) | (rw [if_neg (by decide +kernel)]; exact ⟨rfl, rfl⟩))
    (fun os started H enc _ => lifted os started H enc)
theorem card : Rows.NumberOrdersCardSaid :=
  Claim7.holds_tied_plain_at .later [] [.data, .pinned] true (true, "acad1c1d1f756dec29b6445e289ef38fbf9a36fc57db2a92c0a2a1121c828621") false
    over (fun _ h => by cases h) (by kernel_rfl) (fun _ h => by cases h) numberOrders_row_tie rfl ⟨rfl, rfl⟩ (by kernel_rfl) rfl
    (fun f fn hf hfn => by
      obtain rfl : f = 5 := Option.some.inj ((show Tryd.prog.funcNamed "guidepost/guidepostlaw05.NumberOrders" = some 5 by kernel_rfl).symm.trans hf) |>.symm
      obtain rfl : fn = Tryd.f5 := (Option.some.inj (Tryd.func5.symm.trans hfn)).symm
      exact ⟨by kernel_rfl, fun j t ht => by
        rw [Tryd.params5] at ht
        have hm : t ∈ [9] := by have := Array.mem_of_getElem? ht; simp at this ⊢; omega
        have hall : ([9].all fun u => !Tryd.prog.wantsStandIn u) = true := by kernel_rfl
        exact (show Tryd.prog.wantsStandIn t = false by simpa using List.all_eq_true.1 hall t hm)⟩)
    (by kernel_rfl)
#print axioms card
end Go.Proofs.YtffehdfddkgggaaDoor.numberOrders
namespace Go.Proofs.YtffehdfddkgggaaDoor
/-- The card, under a short name, for the claim. -/
theorem numberOrders_holds : Rows.NumberOrdersCardSaid := numberOrders.card
end Go.Proofs.YtffehdfddkgggaaDoor
