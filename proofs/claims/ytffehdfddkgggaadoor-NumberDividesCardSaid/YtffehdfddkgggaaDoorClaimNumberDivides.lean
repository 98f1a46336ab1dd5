/- guidepostlaw05.NumberDivides: for every input it returns true, and each argument reads behind the call as before; the listed variables are tied to the program's text. -/
import Derived.Test.YtffehdfddkgggaaDoorMFC
import Derived.Test.YtffehdfddkgggaaDoorRows
import Derived.Test.YtffehdfddkgggaaDoorCards
import Derived.Test.YtffehdfddkgggaaDoorTie
import Derived.WalkKit
import Derived.ProofKit
import Derived.OpenShut
import Derived.ShutString
import Derived.ChangeOld
import Derived.Below
import Derived.SizedLaws
import Derived.Carry
import Derived.LaidMore
import Derived.Lay
import Derived.SevenTiedAt
/- guidepostlaw05.NumberDivides: the walk. -/
namespace Go.Proofs.YtffehdfddkgggaaDoor.Nu
open Go.RowKit Rt
set_option linter.unusedSimpArgs false
set_option linter.unusedVariables false
theorem cmpN_self (n : Nat) : cmpN n n = 0 := by unfold cmpN; rw [if_neg (Nat.lt_irrefl _), if_neg (Nat.lt_irrefl _)]
theorem cmpN_lt {n m : Nat} (h : n < m) : cmpN n m = -1 := by unfold cmpN; rw [if_pos h]
theorem cmpN_gt {n m : Nat} (h : m < n) : cmpN n m = 1 := by unfold cmpN; rw [if_neg (by omega), if_pos h]
set_option maxHeartbeats 8000000 in
set_option maxRecDepth 100000 in
theorem NumberDivides_any (s t : ByteArray) (hs : s.size ≤ 9223372036854775807) (ht : t.size ≤ 9223372036854775807) (w : World) :
    Calls Tryd.prog 9 #[.string s, .string t] w fun e w' => e = .returned (.bool true) ∧ Below w.heap.size w w' := by
  have hA := Lib.hid (ofV_small s (most := 512) (by decide))
  have hB := Lib.hid (ofV_small t (most := 512) (by decide))
  by_cases h0 : ofV t 512 = 0
  · have hd0 := Lib.hid (show divE (ofV t 512) = 1 from by rw [h0]; rfl)
    have h0H := Lib.hid h0
    clear h0
    go_enter Tryd.func9, Tryd.ntmps9
    have hE := Lib.hid (Below.refl w.heap.size w)
    have hC1 := Lib.hid (examples_any w)
    go_wp2_with fail
    refine hC1.out.mono ?_
    rintro e w1 ⟨rfl, hb⟩
    replace hE := Lib.hid (hE.out.trans (hb.mono hE.out.size))
    clear hb hC1 
    have hC2 := Lib.hid (of_N s 512 (by decide) hs w1)
    go_wp2_with fail
    refine hC2.out.mono ?_
    rintro e w2 ⟨va, rfl, na, hb⟩
    obtain ⟨vaa, val, vac, rfl⟩ := na.shape
    replace na := Lib.hid na
    replace hE := Lib.hid (hE.out.trans (hb.mono hE.out.size))
    clear hb hC2 
    go_upto_region 3 with (fail)
    have hb : Below w2.heap.size w2 (w2.alloc (.cells #[.slice vaa val vac] 26)) := (Below.refl _ _).alloc (Nat.le_refl _) _
    have a' := Var.made na.out
    replace na := Lib.hid (na.out.below hb)
    replace hE := Lib.hid (hE.out.trans (hb.mono hE.out.size))
    have a := Lib.hid a'
    clear hb a'
    obtain ⟨w3, hw⟩ : ∃ W, (w2.alloc (.cells #[.slice vaa val vac] 26)) = W := ⟨_, rfl⟩
    rw [hw] at hE na a ⊢
    clear hw
    obtain ⟨ga, hga⟩ : ∃ g, w2.heap.size = g := ⟨_, rfl⟩
    rw [hga] at a ⊢
    clear hga
    clear na
    have hC4 := Lib.hid (of_N t 512 (by decide) ht w3)
    go_wp2_with fail
    refine hC4.out.mono ?_
    rintro e w4 ⟨vb, rfl, nb, hb⟩
    obtain ⟨vba, vbl, vbc, rfl⟩ := nb.shape
    replace a := Lib.hid (a.out.below hb)
    replace nb := Lib.hid nb
    replace hE := Lib.hid (hE.out.trans (hb.mono hE.out.size))
    clear hb hC4 
    go_upto_region 4 with (fail)
    have hb : Below w4.heap.size w4 (w4.alloc (.cells #[.slice vba vbl vbc] 26)) := (Below.refl _ _).alloc (Nat.le_refl _) _
    have b' := Var.made nb.out
    replace a := Lib.hid (a.out.below hb)
    replace nb := Lib.hid (nb.out.below hb)
    replace hE := Lib.hid (hE.out.trans (hb.mono hE.out.size))
    have b := Lib.hid b'
    clear hb b'
    obtain ⟨w5, hw⟩ : ∃ W, (w4.alloc (.cells #[.slice vba vbl vbc] 26)) = W := ⟨_, rfl⟩
    rw [hw] at hE a nb b ⊢
    clear hw
    obtain ⟨gb, hgb⟩ : ∃ g, w4.heap.size = g := ⟨_, rfl⟩
    rw [hgb] at b ⊢
    clear hgb
    clear nb
    obtain ⟨aa, al, ac, ab, an⟩ := a.out
    have za := ab.cell
    replace an := Lib.hid an
    clear ab
    obtain ⟨ba, bl, bc, bb, bn⟩ := b.out
    have zb := bb.cell
    replace bn := Lib.hid bn
    clear bb
    have hC6 := Lib.hid (Div_N an.out bn.out (Nat.le_trans hA.out (by decide)) (Nat.le_trans hB.out (by decide)))
    go_wp2_with fail
    refine hC6.out.mono ?_
    rintro e w6 ⟨d, f, rfl, nd, nf, hb⟩
    rw [hd0.out]
    obtain ⟨da, dl, dc, rfl⟩ := nd.shape
    obtain ⟨fa, fl, fc, rfl⟩ := nf.shape
    replace a := Lib.hid (a.out.below hb)
    replace b := Lib.hid (b.out.below hb)
    replace nd := Lib.hid nd
    replace nf := Lib.hid nf
    replace hE := Lib.hid (hE.out.trans (hb.mono hE.out.size))
    clear hb hC6 za an zb bn
    go_upto_region 5 with (fail)
    have hb : Below w6.heap.size w6 (w6.alloc (.cells #[.slice da dl dc] 26)) := (Below.refl _ _).alloc (Nat.le_refl _) _
    have q' := Var.made nd.out
    replace a := Lib.hid (a.out.below hb)
    replace b := Lib.hid (b.out.below hb)
    replace nd := Lib.hid (nd.out.below hb)
    replace nf := Lib.hid (nf.out.below hb)
    replace hE := Lib.hid (hE.out.trans (hb.mono hE.out.size))
    have q := Lib.hid q'
    clear hb q'
    have hb : Below (w6.alloc (.cells #[.slice da dl dc] 26)).heap.size (w6.alloc (.cells #[.slice da dl dc] 26)) ((w6.alloc (.cells #[.slice da dl dc] 26)).alloc (.cells #[.slice fa fl fc] 26)) := (Below.refl _ _).alloc (Nat.le_refl _) _
    have r' := Var.made nf.out
    replace a := Lib.hid (a.out.below hb)
    replace b := Lib.hid (b.out.below hb)
    replace nd := Lib.hid (nd.out.below hb)
    replace nf := Lib.hid (nf.out.below hb)
    replace q := Lib.hid (q.out.below hb)
    replace hE := Lib.hid (hE.out.trans (hb.mono hE.out.size))
    have r := Lib.hid r'
    clear hb r'
    simp only [World.size_alloc] at r
    obtain ⟨w7, hw⟩ : ∃ W, ((w6.alloc (.cells #[.slice da dl dc] 26)).alloc (.cells #[.slice fa fl fc] 26)) = W := ⟨_, rfl⟩
    rw [hw] at hE a b nd nf q r ⊢
    clear hw
    obtain ⟨gq, hgq⟩ : ∃ g, w6.heap.size = g := ⟨_, rfl⟩
    obtain ⟨gr, hgr⟩ : ∃ g, w6.heap.size + 1 = g := ⟨_, rfl⟩
    rw [hgr] at r ⊢
    rw [hgq] at q ⊢
    clear hgq hgr
    clear nd
    clear nf
    obtain ⟨ba, bl, bc, bb, bn⟩ := b.out
    have zb := bb.cell
    replace bn := Lib.hid bn
    clear bb
    have hC8 := Lib.hid (bn.out.bits (Nat.le_trans hB.out (by decide)))
    go_wp2_with fail
    refine hC8.out.mono ?_
    rintro e w8 ⟨rfl, hb⟩
    rw [show blen (ofV t 512) = 0 from by rw [h0H.out]; rfl]
    replace a := Lib.hid (a.out.below hb)
    replace b := Lib.hid (b.out.below hb)
    replace q := Lib.hid (q.out.below hb)
    replace r := Lib.hid (r.out.below hb)
    replace hE := Lib.hid (hE.out.trans (hb.mono hE.out.size))
    clear hb hC8 zb bn
    go_wp2_with fail
    go_ret
    exact ⟨rfl, hE.out⟩
  · have hd0 := Lib.hid (show divE (ofV t 512) = 0 from by unfold divE; rw [if_neg h0])
    have hr0 := Lib.hid (show onDiv (ofV t 512) (ofV s 512 % ofV t 512) = ofV s 512 % ofV t 512 from by unfold onDiv; rw [if_neg h0])
    obtain ⟨a0, ha0⟩ : ∃ z, ofV s 512 = z := ⟨_, rfl⟩
    obtain ⟨b0, hb0⟩ : ∃ z, ofV t 512 = z := ⟨_, rfl⟩
    have hdm := Nat.div_add_mod a0 b0
    rw [ha0] at hA hr0
    rw [hb0] at hB hd0 hr0 h0
    have hml := Nat.mod_lt a0 (Nat.pos_of_ne_zero h0)
    have hQ := Lib.hid (Nat.le_trans (blen_mono (Nat.div_le_self a0 b0)) hA.out)
    have hR := Lib.hid (Nat.le_trans (blen_mono (Nat.mod_le a0 b0)) hA.out)
    have hqb : a0 / b0 * b0 ≤ a0 := Nat.div_mul_le_self _ _
    have hM := Lib.hid (capN_small (Nat.le_trans (blen_mono hqb) hA.out))
    have hP := Lib.hid (Nat.le_trans (blen_mono hqb) hA.out)
    have hsum : a0 / b0 * b0 + a0 % b0 = a0 := by rw [Nat.mul_comm]; exact hdm
    have hS := capN_small (n := a0 / b0 * b0 + a0 % b0) (by rw [hsum]; exact hA.out)
    rw [show capN (a0 / b0 * b0 + a0 % b0) = a0 from by rw [hS.1, hsum]] at hS
    have hS2 : Hid (capN (a0 / b0 * b0 + a0 % b0) = a0 ∧ errN (a0 / b0 * b0 + a0 % b0) = 0) := Lib.hid ⟨by rw [(capN_small (n := a0 / b0 * b0 + a0 % b0) (by rw [hsum]; exact hA.out)).1, hsum], hS.2⟩
    clear hS
    have hS := hS2
    have hC0 := Lib.hid (cmpN_self a0)
    have hC1 := Lib.hid (cmpN_lt hml)
    have haH := Lib.hid ha0
    have hbH := Lib.hid hb0
    clear h0 ha0 hb0 hdm hml hqb hsum hS2
    go_enter Tryd.func9, Tryd.ntmps9
    have hE := Lib.hid (Below.refl w.heap.size w)
    have hC1 := Lib.hid (examples_any w)
    go_wp2_with fail
    refine hC1.out.mono ?_
    rintro e w1 ⟨rfl, hb⟩
    replace hE := Lib.hid (hE.out.trans (hb.mono hE.out.size))
    clear hb hC1 
    have hC2 := Lib.hid (of_N s 512 (by decide) hs w1)
    go_wp2_with fail
    refine hC2.out.mono ?_
    rintro e w2 ⟨va, rfl, na, hb⟩
    rw [haH.out] at na
    obtain ⟨vaa, val, vac, rfl⟩ := na.shape
    replace na := Lib.hid na
    replace hE := Lib.hid (hE.out.trans (hb.mono hE.out.size))
    clear hb hC2 
    go_upto_region 3 with (fail)
    have hb : Below w2.heap.size w2 (w2.alloc (.cells #[.slice vaa val vac] 26)) := (Below.refl _ _).alloc (Nat.le_refl _) _
    have a' := Var.made na.out
    replace na := Lib.hid (na.out.below hb)
    replace hE := Lib.hid (hE.out.trans (hb.mono hE.out.size))
    have a := Lib.hid a'
    clear hb a'
    obtain ⟨w3, hw⟩ : ∃ W, (w2.alloc (.cells #[.slice vaa val vac] 26)) = W := ⟨_, rfl⟩
    rw [hw] at hE na a ⊢
    clear hw
    obtain ⟨ga, hga⟩ : ∃ g, w2.heap.size = g := ⟨_, rfl⟩
    rw [hga] at a ⊢
    clear hga
    clear na
    have hC4 := Lib.hid (of_N t 512 (by decide) ht w3)
    go_wp2_with fail
    refine hC4.out.mono ?_
    rintro e w4 ⟨vb, rfl, nb, hb⟩
    rw [hbH.out] at nb
    obtain ⟨vba, vbl, vbc, rfl⟩ := nb.shape
    replace a := Lib.hid (a.out.below hb)
    replace nb := Lib.hid nb
    replace hE := Lib.hid (hE.out.trans (hb.mono hE.out.size))
    clear hb hC4 
    go_upto_region 4 with (fail)
    have hb : Below w4.heap.size w4 (w4.alloc (.cells #[.slice vba vbl vbc] 26)) := (Below.refl _ _).alloc (Nat.le_refl _) _
    have b' := Var.made nb.out
    replace a := Lib.hid (a.out.below hb)
    replace nb := Lib.hid (nb.out.below hb)
    replace hE := Lib.hid (hE.out.trans (hb.mono hE.out.size))
    have b := Lib.hid b'
    clear hb b'
    obtain ⟨w5, hw⟩ : ∃ W, (w4.alloc (.cells #[.slice vba vbl vbc] 26)) = W := ⟨_, rfl⟩
    rw [hw] at hE a nb b ⊢
    clear hw
    obtain ⟨gb, hgb⟩ : ∃ g, w4.heap.size = g := ⟨_, rfl⟩
    rw [hgb] at b ⊢
    clear hgb
    clear nb
    obtain ⟨aa, al, ac, ab, an⟩ := a.out
    have za := ab.cell
    replace an := Lib.hid an
    clear ab
    obtain ⟨ba, bl, bc, bb, bn⟩ := b.out
    have zb := bb.cell
    replace bn := Lib.hid bn
    clear bb
    have hC6 := Lib.hid (Div_N an.out bn.out (Nat.le_trans hA.out (by decide)) (Nat.le_trans hB.out (by decide)))
    go_wp2_with fail
    refine hC6.out.mono ?_
    rintro e w6 ⟨d, f, rfl, nd, nf, hb⟩
    rw [hd0.out]
    rw [hr0.out] at nf
    obtain ⟨da, dl, dc, rfl⟩ := nd.shape
    obtain ⟨fa, fl, fc, rfl⟩ := nf.shape
    replace a := Lib.hid (a.out.below hb)
    replace b := Lib.hid (b.out.below hb)
    replace nd := Lib.hid nd
    replace nf := Lib.hid nf
    replace hE := Lib.hid (hE.out.trans (hb.mono hE.out.size))
    clear hb hC6 za an zb bn
    go_upto_region 5 with (fail)
    have hb : Below w6.heap.size w6 (w6.alloc (.cells #[.slice da dl dc] 26)) := (Below.refl _ _).alloc (Nat.le_refl _) _
    have q' := Var.made nd.out
    replace a := Lib.hid (a.out.below hb)
    replace b := Lib.hid (b.out.below hb)
    replace nd := Lib.hid (nd.out.below hb)
    replace nf := Lib.hid (nf.out.below hb)
    replace hE := Lib.hid (hE.out.trans (hb.mono hE.out.size))
    have q := Lib.hid q'
    clear hb q'
    have hb : Below (w6.alloc (.cells #[.slice da dl dc] 26)).heap.size (w6.alloc (.cells #[.slice da dl dc] 26)) ((w6.alloc (.cells #[.slice da dl dc] 26)).alloc (.cells #[.slice fa fl fc] 26)) := (Below.refl _ _).alloc (Nat.le_refl _) _
    have r' := Var.made nf.out
    replace a := Lib.hid (a.out.below hb)
    replace b := Lib.hid (b.out.below hb)
    replace nd := Lib.hid (nd.out.below hb)
    replace nf := Lib.hid (nf.out.below hb)
    replace q := Lib.hid (q.out.below hb)
    replace hE := Lib.hid (hE.out.trans (hb.mono hE.out.size))
    have r := Lib.hid r'
    clear hb r'
    simp only [World.size_alloc] at r
    obtain ⟨w7, hw⟩ : ∃ W, ((w6.alloc (.cells #[.slice da dl dc] 26)).alloc (.cells #[.slice fa fl fc] 26)) = W := ⟨_, rfl⟩
    rw [hw] at hE a b nd nf q r ⊢
    clear hw
    obtain ⟨gq, hgq⟩ : ∃ g, w6.heap.size = g := ⟨_, rfl⟩
    obtain ⟨gr, hgr⟩ : ∃ g, w6.heap.size + 1 = g := ⟨_, rfl⟩
    rw [hgr] at r ⊢
    rw [hgq] at q ⊢
    clear hgq hgr
    clear nd
    clear nf
    obtain ⟨qa, ql, qc, qb, qn⟩ := q.out
    have zq := qb.cell
    replace qn := Lib.hid qn
    clear qb
    obtain ⟨ba, bl, bc, bb, bn⟩ := b.out
    have zb := bb.cell
    replace bn := Lib.hid bn
    clear bb
    have hC8 := Lib.hid (Mul_N qn.out bn.out (Nat.le_trans hQ.out (by decide)) (Nat.le_trans hB.out (by decide)))
    go_wp2_with fail
    refine hC8.out.mono ?_
    rintro e w8 ⟨p, rfl, np, hb⟩
    obtain ⟨pa, pl, pc, rfl⟩ := np.shape
    rw [hM.out.2]
    rw [hM.out.1] at np
    replace a := Lib.hid (a.out.below hb)
    replace b := Lib.hid (b.out.below hb)
    replace q := Lib.hid (q.out.below hb)
    replace r := Lib.hid (r.out.below hb)
    replace np := Lib.hid np
    replace hE := Lib.hid (hE.out.trans (hb.mono hE.out.size))
    clear hb hC8 zq qn zb bn
    go_upto_region 8 with (fail)
    have hb : Below w8.heap.size w8 (w8.alloc (.cells #[.slice pa pl pc] 26)) := (Below.refl _ _).alloc (Nat.le_refl _) _
    have pv' := Var.made np.out
    replace a := Lib.hid (a.out.below hb)
    replace b := Lib.hid (b.out.below hb)
    replace q := Lib.hid (q.out.below hb)
    replace r := Lib.hid (r.out.below hb)
    replace np := Lib.hid (np.out.below hb)
    replace hE := Lib.hid (hE.out.trans (hb.mono hE.out.size))
    have pv := Lib.hid pv'
    clear hb pv'
    obtain ⟨w9, hw⟩ : ∃ W, (w8.alloc (.cells #[.slice pa pl pc] 26)) = W := ⟨_, rfl⟩
    rw [hw] at hE a b q r np pv ⊢
    clear hw
    obtain ⟨gpv, hgpv⟩ : ∃ g, w8.heap.size = g := ⟨_, rfl⟩
    rw [hgpv] at pv ⊢
    clear hgpv
    clear np
    obtain ⟨pva, pvl, pvc, pvb, pvn⟩ := pv.out
    have zpv := pvb.cell
    replace pvn := Lib.hid pvn
    clear pvb
    obtain ⟨ra, rl, rc, rb, rn⟩ := r.out
    have zr := rb.cell
    replace rn := Lib.hid rn
    clear rb
    have hC10 := Lib.hid (Add_N pvn.out rn.out (Nat.le_trans hP.out (by decide)) (Nat.le_trans hR.out (by decide)))
    go_wp2_with fail
    refine hC10.out.mono ?_
    rintro e w10 ⟨n, rfl, nn, hb⟩
    obtain ⟨na, nl, nc, rfl⟩ := nn.shape
    rw [hS.out.2]
    rw [hS.out.1] at nn
    replace a := Lib.hid (a.out.below hb)
    replace b := Lib.hid (b.out.below hb)
    replace q := Lib.hid (q.out.below hb)
    replace r := Lib.hid (r.out.below hb)
    replace pv := Lib.hid (pv.out.below hb)
    replace nn := Lib.hid nn
    replace hE := Lib.hid (hE.out.trans (hb.mono hE.out.size))
    clear hb hC10 zpv pvn zr rn
    go_upto_region 9 with (fail)
    have hb : Below w10.heap.size w10 (w10.alloc (.cells #[.slice na nl nc] 26)) := (Below.refl _ _).alloc (Nat.le_refl _) _
    have nv' := Var.made nn.out
    replace a := Lib.hid (a.out.below hb)
    replace b := Lib.hid (b.out.below hb)
    replace q := Lib.hid (q.out.below hb)
    replace r := Lib.hid (r.out.below hb)
    replace pv := Lib.hid (pv.out.below hb)
    replace nn := Lib.hid (nn.out.below hb)
    replace hE := Lib.hid (hE.out.trans (hb.mono hE.out.size))
    have nv := Lib.hid nv'
    clear hb nv'
    obtain ⟨w11, hw⟩ : ∃ W, (w10.alloc (.cells #[.slice na nl nc] 26)) = W := ⟨_, rfl⟩
    rw [hw] at hE a b q r pv nn nv ⊢
    clear hw
    obtain ⟨gnv, hgnv⟩ : ∃ g, w10.heap.size = g := ⟨_, rfl⟩
    rw [hgnv] at nv ⊢
    clear hgnv
    clear nn
    obtain ⟨nva, nvl, nvc, nvb, nvn⟩ := nv.out
    have znv := nvb.cell
    replace nvn := Lib.hid nvn
    clear nvb
    obtain ⟨aa, al, ac, ab, an⟩ := a.out
    have za := ab.cell
    replace an := Lib.hid an
    clear ab
    have hC12 := Lib.hid (Cmp_N nvn.out an.out (Nat.le_trans hA.out (by decide)) (Nat.le_trans hA.out (by decide)))
    go_wp2_with fail
    refine hC12.out.mono ?_
    rintro e w12 ⟨rfl, hb⟩
    rw [hC0.out]
    replace a := Lib.hid (a.out.below hb)
    replace b := Lib.hid (b.out.below hb)
    replace q := Lib.hid (q.out.below hb)
    replace r := Lib.hid (r.out.below hb)
    replace pv := Lib.hid (pv.out.below hb)
    replace nv := Lib.hid (nv.out.below hb)
    replace hE := Lib.hid (hE.out.trans (hb.mono hE.out.size))
    clear hb hC12 znv nvn za an
    obtain ⟨ra, rl, rc, rb, rn⟩ := r.out
    have zr := rb.cell
    replace rn := Lib.hid rn
    clear rb
    obtain ⟨ba, bl, bc, bb, bn⟩ := b.out
    have zb := bb.cell
    replace bn := Lib.hid bn
    clear bb
    have hC13 := Lib.hid (Cmp_N rn.out bn.out (Nat.le_trans hR.out (by decide)) (Nat.le_trans hB.out (by decide)))
    go_wp2_with fail
    refine hC13.out.mono ?_
    rintro e w13 ⟨rfl, hb⟩
    rw [hC1.out]
    replace a := Lib.hid (a.out.below hb)
    replace b := Lib.hid (b.out.below hb)
    replace q := Lib.hid (q.out.below hb)
    replace r := Lib.hid (r.out.below hb)
    replace pv := Lib.hid (pv.out.below hb)
    replace nv := Lib.hid (nv.out.below hb)
    replace hE := Lib.hid (hE.out.trans (hb.mono hE.out.size))
    clear hb hC13 zr rn zb bn
    go_wp2_with fail
    go_ret
    exact ⟨rfl, hE.out⟩
end Go.Proofs.YtffehdfddkgggaaDoor.Nu

namespace Go.Proofs.YtffehdfddkgggaaDoor.numberDivides
open Go.ChangeShapes Go.WideShapes Go.ChangeAt Go.RowKit
open Go.ChangeMaps (open_string shut_string)
set_option linter.unusedVariables false
set_option linter.unusedSimpArgs false
theorem laidOut : laidOutB Tryd.prog = true := by kernel_rfl
theorem own : ownKnob Tryd.prog.godebug = none := by kernel_rfl
set_option maxRecDepth 100000 in
theorem lifted (os : Os) (started : os.Started) (H : Type) (enc : TypeId × Value → H) :
    ReturnsInHanded {} Tryd.checked os 9 .any (fun w args => (Rows.numberDividesSpec.pre enc Tryd.prog Tryd.f9 [] false w args ∧ laidMetH Tryd.prog Rows.numberDividesRow.laid w) ∧ sizedMet enc Tryd.prog Tryd.f9 (OpenSpec.ofChange Rows.numberDividesSpec) false w args)
      (Rows.numberDividesSpec.post enc Tryd.prog Tryd.f9 false true false false) := by
  refine returnsInHanded_of_change_and (C := Tryd.checked) (X := fun w _ => laidMetH Tryd.prog Rows.numberDividesRow.laid w) (fun _ _ _ hh h => h.of_heap hh) own started (by kernel_rfl) Tryd.func9
    (ChangeSpec.witness_shaped (enc := enc) (C := Tryd.checked) (os := os) (X := fun w _ => laidMetH Tryd.prog Rows.numberDividesRow.laid w) false (World.laidAll Tryd.prog os Rows.numberDividesRow.laid) #[.string ByteArray.empty, .string ByteArray.empty] 8 (World.laidAll_os _ _ _)
      (World.shaped_of_ZipB (by kernel_rfl) (by kernel_rfl)) (by kernel_rfl) (by kernel_rfl) (by kernel_rfl)
      (by rw [MakeChecks.laidMetH_plain _ _ _ (by kernel_rfl)]; exact laidMet_laidAll _ (by kernel_rfl) (by kernel_rfl))) ?_
  intro W base args ds gs before hval0 hW _ hsz0 _ _
  have hsz : (DataW.weightsEach Tryd.prog (Tryd.f9.params.toList ++ Rows.numberDividesSpec.plain.varTypes Tryd.prog) (ds ++ gs)).all (· ≤ reachBytes) = true := hsz0
  have hval : ∀ (j : Nat) t v, Tryd.f9.params[j]? = some t → args[j]? = some v → Value.okWide Tryd.prog W .any base t v := hval0
  have hW' := hW
  obtain ⟨p, q, hA0, hV, rfl, hfz, hnd⟩ := hW
  have hA : DataW.TrodAll enc Tryd.prog W 0 (fun _ => true) true Tryd.f9.params.toList args.toList ds p := hA0
  rw [Tryd.params9] at hA hval hsz
  obtain ⟨v0, vs0, d0, ds0, p0, q0, hargs, rfl, rfl, h0, r0⟩ := trodAll_cons hA
  obtain ⟨v1, vs1, d1, ds1, p1, q1, rfl, rfl, rfl, h1, r1⟩ := trodAll_cons r0
  obtain ⟨rfl, rfl, rfl⟩ := trodAll_nil r1
  obtain rfl : args = #[v0, v1] := by cases args; simp_all
  obtain ⟨rfl, rfl⟩ := trodVars_none hV
  obtain ⟨a0, rfl, rfl, rfl, y0⟩ := open_string Tryd.underlying9 (hval 0 9 v0 rfl rfl) h0
  have n0 : a0.size ≤ 140737488351232 := by
    have z := sized_string hsz (j := 0) (t := 9) rfl rfl
    have hr : reachBytes = 140737488351232 := by decide
    rw [hr] at z
    have e2 : a0.data.toList.length = a0.size := Array.length_toList
    rw [e2] at z
    exact z
  obtain ⟨a1, rfl, rfl, rfl, y1⟩ := open_string Tryd.underlying9 (hval 1 9 v1 rfl rfl) h1
  have n1 : a1.size ≤ 140737488351232 := by
    have z := sized_string hsz (j := 1) (t := 9) rfl rfl
    have hr : reachBytes = 140737488351232 := by decide
    rw [hr] at z
    have e2 : a1.data.toList.length = a1.size := Array.length_toList
    rw [e2] at z
    exact z
  clear hA0 hval0 hsz0 hsz
  refine (Nu.NumberDivides_any a0 a1 (by omega) (by omega) W).mono fun e W' ⟨he, bel⟩ => ?_
  subst he
  exact ⟨_, rfl, _, _, _, [], _, [], hW', trodAll_mk1 (shut_bool Tryd.underlying4 _), (trodAll_cons_mk (shut_string Tryd.underlying9 y0) (trodAll_cons_mk (shut_string Tryd.underlying9 y1) trodAll_mk0)), rfl, bel.frame _, fun h => by cases h⟩
theorem over : Rows.numberDividesRow.holds Tryd.pinned (OpenSpec.ofChange Rows.numberDividesSpec) :=
  OpenClaim.holds_of_wide 9 Tryd.f9 rfl rfl rfl rfl rfl rfl rfl ⟨rfl, rfl, rfl, rfl, rfl⟩ rfl rfl rfl rfl rfl (by kernel_rfl) Tryd.func9 (by kernel_rfl)
    (of_decide_eq_true (by kernel_rfl)) (by unfold Func.isWrapper; first | (rw [if_pos (by decide +kernel)]; kernel_rfl) | (rw [if_neg (by decide +kernel)]; exact ⟨rfl, rfl⟩))
    (fun os started H enc _ => lifted os started H enc)
theorem card : Rows.NumberDividesCardSaid :=
  Claim7.holds_tied_plain_at .later [] [.data, .pinned] true (true, "acad1c1d1f756dec29b6445e289ef38fbf9a36fc57db2a92c0a2a1121c828621") false
    over (fun _ h => by cases h) (by kernel_rfl) (fun _ h => by cases h) numberDivides_row_tie rfl ⟨rfl, rfl⟩ (by kernel_rfl) rfl
    (fun f fn hf hfn => by
      obtain rfl : f = 9 := Option.some.inj ((show Tryd.prog.funcNamed "guidepost/guidepostlaw05.NumberDivides" = some 9 by kernel_rfl).symm.trans hf) |>.symm
      obtain rfl : fn = Tryd.f9 := (Option.some.inj (Tryd.func9.symm.trans hfn)).symm
      exact ⟨by kernel_rfl, fun j t ht => by
        rw [Tryd.params9] at ht
        have hm : t ∈ [9] := by have := Array.mem_of_getElem? ht; simp at this ⊢; omega
        have hall : ([9].all fun u => !Tryd.prog.wantsStandIn u) = true := by kernel_rfl
        exact (show Tryd.prog.wantsStandIn t = false by simpa using List.all_eq_true.1 hall t hm)⟩)
    (by kernel_rfl)
#print axioms card
end Go.Proofs.YtffehdfddkgggaaDoor.numberDivides
namespace Go.Proofs.YtffehdfddkgggaaDoor
/-- The card, under a short name, for the claim. -/
theorem numberDivides_holds : Rows.NumberDividesCardSaid := numberDivides.card
end Go.Proofs.YtffehdfddkgggaaDoor
