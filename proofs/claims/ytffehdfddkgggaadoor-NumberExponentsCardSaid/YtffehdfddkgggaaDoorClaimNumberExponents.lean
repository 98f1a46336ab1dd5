/- guidepostlaw05.NumberExponents: for every input it returns true, and each argument reads behind the call as before; the listed variables are tied to the program's text. -/
import Derived.Test.YtffehdfddkgggaaDoorMFC
import Derived.Test.YtffehdfddkgggaaDoorRows
import Derived.Test.YtffehdfddkgggaaDoorCards
import Derived.Test.YtffehdfddkgggaaDoorTie
import Derived.WalkKit
import Derived.ProofKit
import Derived.OpenShut
import Derived.ShutString
import Derived.ChangeOld
import Derived.Below
import Derived.SizedLaws
import Derived.Carry
import Derived.LaidMore
import Derived.Lay
import Derived.SevenTiedAt
/- guidepostlaw05.NumberExponents: the walk. -/
namespace Go.Proofs.YtffehdfddkgggaaDoor.Nu
open Go.RowKit Rt
set_option linter.unusedSimpArgs false
set_option linter.unusedVariables false
theorem cmpN_self (n : Nat) : cmpN n n = 0 := by unfold cmpN; rw [if_neg (Nat.lt_irrefl _), if_neg (Nat.lt_irrefl _)]
theorem cmpN_lt {n m : Nat} (h : n < m) : cmpN n m = -1 := by unfold cmpN; rw [if_pos h]
/-- What makes 1 does. -/
theorem inv_law {a m : Nat} (hm : 0 < m) (h : (invF a m).old = 1) : a * ((invF a m).had % m) % m = 1 % m := by
  have h1 := ivRun_ok hm (a % m + 1) (ivFirst a m) (ivFirst_ok a m hm)
  change IvOk a m (invF a m) at h1
  obtain ⟨l1, -, ⟨k, e1⟩, -⟩ := h1
  rw [h] at e1
  generalize (invF a m).had = z at *
  rw [Nat.mod_eq_of_lt l1]
  have e2 : ((a * z : Nat) : Int) = m * k + 1 := by
    rw [Int.natCast_mul, Int.mul_comm]
    omega
  have e3 : ((a * z % m : Nat) : Int) = ((1 % m : Nat) : Int) := by
    rw [Int.natCast_emod, e2, Int.mul_add_emod_self_left]
    rfl
  exact Int.ofNat.inj e3
/-- What is kept over the last quotient: three variables, below what is new. -/
structure EX (w W : World) (hs gg gi gm u i m : Nat) : Prop where
  g : Var W gg u
  i : Var W gi i
  m : Var W gm m
  lg : gg < hs
  li : gi < hs
  lm : gm < hs
  le : hs ≤ W.heap.size
  bel : Below w.heap.size w W
  base : w.heap.size ≤ hs
theorem EX.below {w W W' : World} {hs gg gi gm u i m : Nat} (h : EX w W hs gg gi gm u i m) (hb : Below W.heap.size W W') : EX w W' hs gg gi gm u i m :=
  ⟨h.g.below hb, h.i.below hb, h.m.below hb, h.lg, h.li, h.lm, Nat.le_trans h.le hb.size, h.bel.trans (hb.mono h.bel.size), h.base⟩
theorem EX.put {w W : World} {hs gg gi gm u i m g x : Nat} (h : EX w W hs gg gi gm u i m) (hg : hs ≤ g) (hv : Var W g x) (v : Value) : EX w (W.setCell ⟨g, 0, none⟩ v) hs gg gi gm u i m := by
  have h1 := h.lg
  have h2 := h.li
  have h3 := h.lm
  exact ⟨h.g.other hv (by omega) v, h.i.other hv (by omega) v, h.m.other hv (by omega) v, h1, h2, h3, by rw [World.size_setCell]; exact h.le, h.bel.setCell (p := ⟨g, 0, none⟩) (Nat.le_trans h.base hg) _, h.base⟩
set_option maxHeartbeats 8000000 in
set_option maxRecDepth 100000 in
theorem NumberExponents_any (s t u v : ByteArray) (hss : s.size ≤ 9223372036854775807) (hst : t.size ≤ 9223372036854775807) (hsu : u.size ≤ 9223372036854775807) (hsv : v.size ≤ 9223372036854775807) (w : World) :
    Calls Tryd.prog 10 #[.string s, .string t, .string u, .string v] w fun e w' => e = .returned (.bool true) ∧ Below w.heap.size w w' := by
  obtain ⟨a0, ha0⟩ : ∃ z, ofV s 100 = z := ⟨_, rfl⟩
  obtain ⟨x0, hx0⟩ : ∃ z, ofV t 12 = z := ⟨_, rfl⟩
  obtain ⟨y0, hy0⟩ : ∃ z, ofV u 12 = z := ⟨_, rfl⟩
  obtain ⟨m0, hm00⟩ : ∃ z, ofV v 100 = z := ⟨_, rfl⟩
  have haE := Lib.hid ha0
  have hxE := Lib.hid hx0
  have hyE := Lib.hid hy0
  have hmE := Lib.hid hm00
  have hA : Hid (blen a0 ≤ 800) := Lib.hid (by rw [← ha0]; exact ofV_small s (by decide))
  have hX : Hid (blen x0 ≤ 96) := Lib.hid (by rw [← hx0]; exact ofV_small t (by decide))
  have hY : Hid (blen y0 ≤ 96) := Lib.hid (by rw [← hy0]; exact ofV_small u (by decide))
  have hM : Hid (blen m0 ≤ 800) := Lib.hid (by rw [← hm00]; exact ofV_small v (by decide))
  have hE1 : Hid (blen (x0 + y0) ≤ 193) := Lib.hid (Nat.le_trans (blen_add _ _) (by have := hX.out; have := hY.out; omega))
  have fz := Lib.hid (capN_small (Nat.le_trans hE1.out (by decide)))
  clear ha0 hx0 hy0 hm00
  by_cases hm0 : m0 = 0
  · replace hm0 : Hid (blen m0 = 0) := Lib.hid (by rw [hm0]; rfl)
    go_enter Tryd.func10, Tryd.ntmps10
    have hE := Lib.hid (Below.refl w.heap.size w)
    have hC1 := Lib.hid (examples_any w)
    go_wp2_with fail
    refine hC1.out.mono ?_
    rintro e w1 ⟨rfl, hb⟩
    replace hE := Lib.hid (hE.out.trans (hb.mono hE.out.size))
    clear hb hC1 
    have hC2 := Lib.hid (of_N s 100 (by decide) hss w1)
    go_wp2_with fail
    refine hC2.out.mono ?_
    rintro e w2 ⟨va, rfl, na, hb⟩
    obtain ⟨vaa, val, vac, rfl⟩ := na.shape
    rw [haE.out] at na
    replace na := Lib.hid na
    replace hE := Lib.hid (hE.out.trans (hb.mono hE.out.size))
    clear hb hC2 
    go_upto_region 3 with (fail)
    have hb : Below w2.heap.size w2 (w2.alloc (.cells #[.slice vaa val vac] 26)) := (Below.refl _ _).alloc (Nat.le_refl _) _
    have a' := Var.made na.out
    replace na := Lib.hid (na.out.below hb)
    replace hE := Lib.hid (hE.out.trans (hb.mono hE.out.size))
    have a := Lib.hid a'
    clear hb a'
    obtain ⟨w3, hw⟩ : ∃ W, (w2.alloc (.cells #[.slice vaa val vac] 26)) = W := ⟨_, rfl⟩
    rw [hw] at hE na a ⊢
    clear hw
    obtain ⟨ga, hga⟩ : ∃ g, w2.heap.size = g := ⟨_, rfl⟩
    rw [hga] at a ⊢
    clear hga
    clear na
    have hC4 := Lib.hid (of_N t 12 (by decide) hst w3)
    go_wp2_with fail
    refine hC4.out.mono ?_
    rintro e w4 ⟨vx, rfl, nx, hb⟩
    obtain ⟨vxa, vxl, vxc, rfl⟩ := nx.shape
    rw [hxE.out] at nx
    replace a := Lib.hid (a.out.below hb)
    replace nx := Lib.hid nx
    replace hE := Lib.hid (hE.out.trans (hb.mono hE.out.size))
    clear hb hC4 
    go_upto_region 4 with (fail)
    have hb : Below w4.heap.size w4 (w4.alloc (.cells #[.slice vxa vxl vxc] 26)) := (Below.refl _ _).alloc (Nat.le_refl _) _
    have x' := Var.made nx.out
    replace a := Lib.hid (a.out.below hb)
    replace nx := Lib.hid (nx.out.below hb)
    replace hE := Lib.hid (hE.out.trans (hb.mono hE.out.size))
    have x := Lib.hid x'
    clear hb x'
    obtain ⟨w5, hw⟩ : ∃ W, (w4.alloc (.cells #[.slice vxa vxl vxc] 26)) = W := ⟨_, rfl⟩
    rw [hw] at hE a nx x ⊢
    clear hw
    obtain ⟨gx, hgx⟩ : ∃ g, w4.heap.size = g := ⟨_, rfl⟩
    rw [hgx] at x ⊢
    clear hgx
    clear nx
    have hC6 := Lib.hid (of_N u 12 (by decide) hsu w5)
    go_wp2_with fail
    refine hC6.out.mono ?_
    rintro e w6 ⟨vy, rfl, ny, hb⟩
    obtain ⟨vya, vyl, vyc, rfl⟩ := ny.shape
    rw [hyE.out] at ny
    replace a := Lib.hid (a.out.below hb)
    replace x := Lib.hid (x.out.below hb)
    replace ny := Lib.hid ny
    replace hE := Lib.hid (hE.out.trans (hb.mono hE.out.size))
    clear hb hC6 
    go_upto_region 5 with (fail)
    have hb : Below w6.heap.size w6 (w6.alloc (.cells #[.slice vya vyl vyc] 26)) := (Below.refl _ _).alloc (Nat.le_refl _) _
    have y' := Var.made ny.out
    replace a := Lib.hid (a.out.below hb)
    replace x := Lib.hid (x.out.below hb)
    replace ny := Lib.hid (ny.out.below hb)
    replace hE := Lib.hid (hE.out.trans (hb.mono hE.out.size))
    have y := Lib.hid y'
    clear hb y'
    obtain ⟨w7, hw⟩ : ∃ W, (w6.alloc (.cells #[.slice vya vyl vyc] 26)) = W := ⟨_, rfl⟩
    rw [hw] at hE a x ny y ⊢
    clear hw
    obtain ⟨gy, hgy⟩ : ∃ g, w6.heap.size = g := ⟨_, rfl⟩
    rw [hgy] at y ⊢
    clear hgy
    clear ny
    have hC8 := Lib.hid (of_N v 100 (by decide) hsv w7)
    go_wp2_with fail
    refine hC8.out.mono ?_
    rintro e w8 ⟨vm, rfl, nm, hb⟩
    obtain ⟨vma, vml, vmc, rfl⟩ := nm.shape
    rw [hmE.out] at nm
    replace a := Lib.hid (a.out.below hb)
    replace x := Lib.hid (x.out.below hb)
    replace y := Lib.hid (y.out.below hb)
    replace nm := Lib.hid nm
    replace hE := Lib.hid (hE.out.trans (hb.mono hE.out.size))
    clear hb hC8 
    go_upto_region 6 with (fail)
    have hb : Below w8.heap.size w8 (w8.alloc (.cells #[.slice vma vml vmc] 26)) := (Below.refl _ _).alloc (Nat.le_refl _) _
    have m' := Var.made nm.out
    replace a := Lib.hid (a.out.below hb)
    replace x := Lib.hid (x.out.below hb)
    replace y := Lib.hid (y.out.below hb)
    replace nm := Lib.hid (nm.out.below hb)
    replace hE := Lib.hid (hE.out.trans (hb.mono hE.out.size))
    have m := Lib.hid m'
    clear hb m'
    obtain ⟨w9, hw⟩ : ∃ W, (w8.alloc (.cells #[.slice vma vml vmc] 26)) = W := ⟨_, rfl⟩
    rw [hw] at hE a x y nm m ⊢
    clear hw
    obtain ⟨gm, hgm⟩ : ∃ g, w8.heap.size = g := ⟨_, rfl⟩
    rw [hgm] at m ⊢
    clear hgm
    clear nm
    obtain ⟨ma, ml, mc, mb, mn⟩ := m.out
    have zm := mb.cell
    replace mn := Lib.hid mn
    clear mb
    have hC10 := Lib.hid (mn.out.bits (Nat.le_trans hM.out (by decide)))
    go_wp2_with fail
    refine hC10.out.mono ?_
    rintro e w10 ⟨rfl, hb⟩
    rw [hm0.out]
    replace a := Lib.hid (a.out.below hb)
    replace x := Lib.hid (x.out.below hb)
    replace y := Lib.hid (y.out.below hb)
    replace m := Lib.hid (m.out.below hb)
    replace hE := Lib.hid (hE.out.trans (hb.mono hE.out.size))
    clear hb hC10 zm mn
    go_wp2_with fail
    go_ret
    exact ⟨rfl, hE.out⟩
  · obtain ⟨bl, hbl⟩ : ∃ z, blen m0 = z := ⟨_, rfl⟩
    have hbl0 : ((bl : Int) == 0) = false := by
      have : bl ≠ 0 := by
        intro e
        rw [e, blen_eq_zero] at hbl
        exact hm0 hbl
      simpa using this
    have hme0 : modE m0 = 0 := modE_zero.2 ⟨hm0, Nat.le_trans hM.out (by decide)⟩
    have hpos := Nat.pos_of_ne_zero hm0
    have hpe : ∀ e, powV a0 e m0 = a0 ^ e % m0 := fun e => by unfold powV; rw [if_pos hme0]
    obtain ⟨p0, hp⟩ : ∃ z, powV a0 x0 m0 = z := ⟨_, rfl⟩
    obtain ⟨q0, hq⟩ : ∃ z, powV a0 y0 m0 = z := ⟨_, rfl⟩
    obtain ⟨r0, hr⟩ : ∃ z, powV a0 (x0 + y0) m0 = z := ⟨_, rfl⟩
    have hpl : p0 < m0 := by rw [← hp, hpe]; exact Nat.mod_lt _ hpos
    have hql : q0 < m0 := by rw [← hq, hpe]; exact Nat.mod_lt _ hpos
    have hrl : r0 < m0 := by rw [← hr, hpe]; exact Nat.mod_lt _ hpos
    have hres0 : onDiv m0 (p0 * q0 % m0) = r0 := by
      unfold onDiv
      rw [if_neg hm0, ← hp, ← hq, ← hr, hpe, hpe, hpe, ← Nat.mul_mod, ← Nat.pow_add]
    have hdE0 : divE m0 = 0 := by unfold divE; rw [if_neg hm0]
    have hP : Hid (blen p0 ≤ 800) := Lib.hid (Nat.le_trans (blen_mono (Nat.le_of_lt hpl)) hM.out)
    have hQ : Hid (blen q0 ≤ 800) := Lib.hid (Nat.le_trans (blen_mono (Nat.le_of_lt hql)) hM.out)
    have hR : Hid (blen r0 ≤ 800) := Lib.hid (Nat.le_trans (blen_mono (Nat.le_of_lt hrl)) hM.out)
    have hWW : Hid (blen (p0 * q0) ≤ 1601) := Lib.hid (Nat.le_trans (blen_mul _ _) (by have := hP.out; have := hQ.out; omega))
    have fw := Lib.hid (capN_small (Nat.le_trans hWW.out (by decide)))
    obtain ⟨i0, hi0⟩ : ∃ z, invV a0 m0 = z := ⟨_, rfl⟩
    have hil : i0 < m0 := by
      rw [← hi0]; unfold invV
      rw [if_pos hme0]
      split
      · exact Nat.mod_lt _ hpos
      · exact hpos
    have hI : Hid (blen i0 ≤ 800) := Lib.hid (Nat.le_trans (blen_mono (Nat.le_of_lt hil)) hM.out)
    have hOO : Hid (blen (a0 * i0) ≤ 1601) := Lib.hid (Nat.le_trans (blen_mul _ _) (by have := hA.out; have := hI.out; omega))
    have fo := Lib.hid (capN_small (Nat.le_trans hOO.out (by decide)))
    have hlt := Lib.hid (cmpN_lt hil)
    obtain ⟨u0, hu0⟩ : ∃ z, 1 % m0 = z := ⟨_, rfl⟩
    have hone : Hid (onDiv m0 (1 % m0) = u0) := Lib.hid (by unfold onDiv; rw [if_neg hm0, hu0])
    have hU : Hid (blen u0 ≤ 800) := Lib.hid (Nat.le_trans (blen_mono (by rw [← hu0]; exact Nat.le_of_lt (Nat.mod_lt _ hpos))) hM.out)
    have hiE : invE a0 m0 = if (invF a0 m0).old = 1 then 0 else 13 := by unfold invE; rw [if_pos hme0]
    have hleft0 : (invF a0 m0).old = 1 → onDiv m0 (a0 * i0 % m0) = u0 := fun h => by
      unfold onDiv
      rw [if_neg hm0, ← hu0, ← hi0]
      unfold invV
      rw [if_pos hme0, if_pos h]
      exact inv_law hpos h
    replace hp := Lib.hid hp
    replace hq := Lib.hid hq
    replace hr := Lib.hid hr
    have hme := Lib.hid hme0
    have hbl := Lib.hid hbl
    have hres := Lib.hid hres0
    have hdE := Lib.hid hdE0
    have hiv := Lib.hid hi0
    have hm := Lib.hid hm0
    by_cases h1 : (invF a0 m0).old = 1
    · have hi : Hid (invE a0 m0 = 0) := Lib.hid (by rw [hiE, if_pos h1])
      have hleft := Lib.hid (hleft0 h1)
      clear hm0 hme0 hpos hpe hpl hql hrl hres0 hdE0 hi0 hil hu0 hiE hleft0 h1
      go_enter Tryd.func10, Tryd.ntmps10
      have hE := Lib.hid (Below.refl w.heap.size w)
      have hC1 := Lib.hid (examples_any w)
      go_wp2_with fail
      refine hC1.out.mono ?_
      rintro e w1 ⟨rfl, hb⟩
      replace hE := Lib.hid (hE.out.trans (hb.mono hE.out.size))
      clear hb hC1 
      have hC2 := Lib.hid (of_N s 100 (by decide) hss w1)
      go_wp2_with fail
      refine hC2.out.mono ?_
      rintro e w2 ⟨va, rfl, na, hb⟩
      obtain ⟨vaa, val, vac, rfl⟩ := na.shape
      rw [haE.out] at na
      replace na := Lib.hid na
      replace hE := Lib.hid (hE.out.trans (hb.mono hE.out.size))
      clear hb hC2 
      go_upto_region 3 with (fail)
      have hb : Below w2.heap.size w2 (w2.alloc (.cells #[.slice vaa val vac] 26)) := (Below.refl _ _).alloc (Nat.le_refl _) _
      have a' := Var.made na.out
      replace na := Lib.hid (na.out.below hb)
      replace hE := Lib.hid (hE.out.trans (hb.mono hE.out.size))
      have a := Lib.hid a'
      clear hb a'
      obtain ⟨w3, hw⟩ : ∃ W, (w2.alloc (.cells #[.slice vaa val vac] 26)) = W := ⟨_, rfl⟩
      rw [hw] at hE na a ⊢
      clear hw
      obtain ⟨ga, hga⟩ : ∃ g, w2.heap.size = g := ⟨_, rfl⟩
      rw [hga] at a ⊢
      clear hga
      clear na
      have hC4 := Lib.hid (of_N t 12 (by decide) hst w3)
      go_wp2_with fail
      refine hC4.out.mono ?_
      rintro e w4 ⟨vx, rfl, nx, hb⟩
      obtain ⟨vxa, vxl, vxc, rfl⟩ := nx.shape
      rw [hxE.out] at nx
      replace a := Lib.hid (a.out.below hb)
      replace nx := Lib.hid nx
      replace hE := Lib.hid (hE.out.trans (hb.mono hE.out.size))
      clear hb hC4 
      go_upto_region 4 with (fail)
      have hb : Below w4.heap.size w4 (w4.alloc (.cells #[.slice vxa vxl vxc] 26)) := (Below.refl _ _).alloc (Nat.le_refl _) _
      have x' := Var.made nx.out
      replace a := Lib.hid (a.out.below hb)
      replace nx := Lib.hid (nx.out.below hb)
      replace hE := Lib.hid (hE.out.trans (hb.mono hE.out.size))
      have x := Lib.hid x'
      clear hb x'
      obtain ⟨w5, hw⟩ : ∃ W, (w4.alloc (.cells #[.slice vxa vxl vxc] 26)) = W := ⟨_, rfl⟩
      rw [hw] at hE a nx x ⊢
      clear hw
      obtain ⟨gx, hgx⟩ : ∃ g, w4.heap.size = g := ⟨_, rfl⟩
      rw [hgx] at x ⊢
      clear hgx
      clear nx
      have hC6 := Lib.hid (of_N u 12 (by decide) hsu w5)
      go_wp2_with fail
      refine hC6.out.mono ?_
      rintro e w6 ⟨vy, rfl, ny, hb⟩
      obtain ⟨vya, vyl, vyc, rfl⟩ := ny.shape
      rw [hyE.out] at ny
      replace a := Lib.hid (a.out.below hb)
      replace x := Lib.hid (x.out.below hb)
      replace ny := Lib.hid ny
      replace hE := Lib.hid (hE.out.trans (hb.mono hE.out.size))
      clear hb hC6 
      go_upto_region 5 with (fail)
      have hb : Below w6.heap.size w6 (w6.alloc (.cells #[.slice vya vyl vyc] 26)) := (Below.refl _ _).alloc (Nat.le_refl _) _
      have y' := Var.made ny.out
      replace a := Lib.hid (a.out.below hb)
      replace x := Lib.hid (x.out.below hb)
      replace ny := Lib.hid (ny.out.below hb)
      replace hE := Lib.hid (hE.out.trans (hb.mono hE.out.size))
      have y := Lib.hid y'
      clear hb y'
      obtain ⟨w7, hw⟩ : ∃ W, (w6.alloc (.cells #[.slice vya vyl vyc] 26)) = W := ⟨_, rfl⟩
      rw [hw] at hE a x ny y ⊢
      clear hw
      obtain ⟨gy, hgy⟩ : ∃ g, w6.heap.size = g := ⟨_, rfl⟩
      rw [hgy] at y ⊢
      clear hgy
      clear ny
      have hC8 := Lib.hid (of_N v 100 (by decide) hsv w7)
      go_wp2_with fail
      refine hC8.out.mono ?_
      rintro e w8 ⟨vm, rfl, nm, hb⟩
      obtain ⟨vma, vml, vmc, rfl⟩ := nm.shape
      rw [hmE.out] at nm
      replace a := Lib.hid (a.out.below hb)
      replace x := Lib.hid (x.out.below hb)
      replace y := Lib.hid (y.out.below hb)
      replace nm := Lib.hid nm
      replace hE := Lib.hid (hE.out.trans (hb.mono hE.out.size))
      clear hb hC8 
      go_upto_region 6 with (fail)
      have hb : Below w8.heap.size w8 (w8.alloc (.cells #[.slice vma vml vmc] 26)) := (Below.refl _ _).alloc (Nat.le_refl _) _
      have m' := Var.made nm.out
      replace a := Lib.hid (a.out.below hb)
      replace x := Lib.hid (x.out.below hb)
      replace y := Lib.hid (y.out.below hb)
      replace nm := Lib.hid (nm.out.below hb)
      replace hE := Lib.hid (hE.out.trans (hb.mono hE.out.size))
      have m := Lib.hid m'
      clear hb m'
      obtain ⟨w9, hw⟩ : ∃ W, (w8.alloc (.cells #[.slice vma vml vmc] 26)) = W := ⟨_, rfl⟩
      rw [hw] at hE a x y nm m ⊢
      clear hw
      obtain ⟨gm, hgm⟩ : ∃ g, w8.heap.size = g := ⟨_, rfl⟩
      rw [hgm] at m ⊢
      clear hgm
      clear nm
      obtain ⟨ma, ml, mc, mb, mn⟩ := m.out
      have zm := mb.cell
      replace mn := Lib.hid mn
      clear mb
      have hC10 := Lib.hid (mn.out.bits (Nat.le_trans hM.out (by decide)))
      go_wp2_with fail
      refine hC10.out.mono ?_
      rintro e w10 ⟨rfl, hb⟩
      rw [hbl.out]
      replace a := Lib.hid (a.out.below hb)
      replace x := Lib.hid (x.out.below hb)
      replace y := Lib.hid (y.out.below hb)
      replace m := Lib.hid (m.out.below hb)
      replace hE := Lib.hid (hE.out.trans (hb.mono hE.out.size))
      clear hb hC10 zm mn
      obtain ⟨xa, xl, xc, xb, xn⟩ := x.out
      have zx := xb.cell
      replace xn := Lib.hid xn
      clear xb
      obtain ⟨ya, yl, yc, yb, yn⟩ := y.out
      have zy := yb.cell
      replace yn := Lib.hid yn
      clear yb
      have hC11 := Lib.hid (Add_N xn.out yn.out (Nat.le_trans hX.out (by decide)) (Nat.le_trans hY.out (by decide)))
      go_wp2_with fail
      refine hC11.out.mono ?_
      rintro e w11 ⟨te, rfl, ne, hb⟩
      obtain ⟨tea, tel, tec, rfl⟩ := ne.shape
      rw [fz.out.2]
      rw [fz.out.1] at ne
      replace a := Lib.hid (a.out.below hb)
      replace x := Lib.hid (x.out.below hb)
      replace y := Lib.hid (y.out.below hb)
      replace m := Lib.hid (m.out.below hb)
      replace ne := Lib.hid ne
      replace hE := Lib.hid (hE.out.trans (hb.mono hE.out.size))
      clear hb hC11 zx xn zy yn
      go_upto_region 9 with (fail)
      have hb : Below w11.heap.size w11 (w11.alloc (.cells #[.slice tea tel tec] 26)) := (Below.refl _ _).alloc (Nat.le_refl _) _
      have e' := Var.made ne.out
      replace a := Lib.hid (a.out.below hb)
      replace x := Lib.hid (x.out.below hb)
      replace y := Lib.hid (y.out.below hb)
      replace m := Lib.hid (m.out.below hb)
      replace ne := Lib.hid (ne.out.below hb)
      replace hE := Lib.hid (hE.out.trans (hb.mono hE.out.size))
      have e := Lib.hid e'
      clear hb e'
      obtain ⟨w12, hw⟩ : ∃ W, (w11.alloc (.cells #[.slice tea tel tec] 26)) = W := ⟨_, rfl⟩
      rw [hw] at hE a x y m ne e ⊢
      clear hw
      obtain ⟨ge, hge⟩ : ∃ g, w11.heap.size = g := ⟨_, rfl⟩
      rw [hge] at e ⊢
      clear hge
      clear ne
      obtain ⟨aa, al, ac, ab, an⟩ := a.out
      have za := ab.cell
      replace an := Lib.hid an
      clear ab
      obtain ⟨xa, xl, xc, xb, xn⟩ := x.out
      have zx := xb.cell
      replace xn := Lib.hid xn
      clear xb
      obtain ⟨ma, ml, mc, mb, mn⟩ := m.out
      have zm := mb.cell
      replace mn := Lib.hid mn
      clear mb
      have hC13 := Lib.hid (Pow_N an.out xn.out mn.out (Nat.le_trans hA.out (by decide)) (Nat.le_trans hX.out (by decide)) (Nat.le_trans hM.out (by decide)))
      go_wp2_with fail
      refine hC13.out.mono ?_
      rintro e w13 ⟨tp, rfl, np, hb⟩
      obtain ⟨tpa, tpl, tpc, rfl⟩ := np.shape
      rw [hme.out]
      rw [hp.out] at np
      replace a := Lib.hid (a.out.below hb)
      replace x := Lib.hid (x.out.below hb)
      replace y := Lib.hid (y.out.below hb)
      replace m := Lib.hid (m.out.below hb)
      replace e := Lib.hid (e.out.below hb)
      replace np := Lib.hid np
      replace hE := Lib.hid (hE.out.trans (hb.mono hE.out.size))
      clear hb hC13 za an zx xn zm mn
      go_upto_region 10 with (fail)
      have hb : Below w13.heap.size w13 (w13.alloc (.cells #[.slice tpa tpl tpc] 26)) := (Below.refl _ _).alloc (Nat.le_refl _) _
      have p' := Var.made np.out
      replace a := Lib.hid (a.out.below hb)
      replace x := Lib.hid (x.out.below hb)
      replace y := Lib.hid (y.out.below hb)
      replace m := Lib.hid (m.out.below hb)
      replace e := Lib.hid (e.out.below hb)
      replace np := Lib.hid (np.out.below hb)
      replace hE := Lib.hid (hE.out.trans (hb.mono hE.out.size))
      have p := Lib.hid p'
      clear hb p'
      obtain ⟨w14, hw⟩ : ∃ W, (w13.alloc (.cells #[.slice tpa tpl tpc] 26)) = W := ⟨_, rfl⟩
      rw [hw] at hE a x y m e np p ⊢
      clear hw
      obtain ⟨gp, hgp⟩ : ∃ g, w13.heap.size = g := ⟨_, rfl⟩
      rw [hgp] at p ⊢
      clear hgp
      clear np
      obtain ⟨aa, al, ac, ab, an⟩ := a.out
      have za := ab.cell
      replace an := Lib.hid an
      clear ab
      obtain ⟨ya, yl, yc, yb, yn⟩ := y.out
      have zy := yb.cell
      replace yn := Lib.hid yn
      clear yb
      obtain ⟨ma, ml, mc, mb, mn⟩ := m.out
      have zm := mb.cell
      replace mn := Lib.hid mn
      clear mb
      have hC15 := Lib.hid (Pow_N an.out yn.out mn.out (Nat.le_trans hA.out (by decide)) (Nat.le_trans hY.out (by decide)) (Nat.le_trans hM.out (by decide)))
      go_wp2_with fail
      refine hC15.out.mono ?_
      rintro e w15 ⟨tq, rfl, nq, hb⟩
      obtain ⟨tqa, tql, tqc, rfl⟩ := nq.shape
      rw [hme.out]
      rw [hq.out] at nq
      replace a := Lib.hid (a.out.below hb)
      replace x := Lib.hid (x.out.below hb)
      replace y := Lib.hid (y.out.below hb)
      replace m := Lib.hid (m.out.below hb)
      replace e := Lib.hid (e.out.below hb)
      replace p := Lib.hid (p.out.below hb)
      replace nq := Lib.hid nq
      replace hE := Lib.hid (hE.out.trans (hb.mono hE.out.size))
      clear hb hC15 za an zy yn zm mn
      go_upto_region 11 with (fail)
      have hb : Below w15.heap.size w15 (w15.alloc (.cells #[.slice tqa tql tqc] 26)) := (Below.refl _ _).alloc (Nat.le_refl _) _
      have q' := Var.made nq.out
      replace a := Lib.hid (a.out.below hb)
      replace x := Lib.hid (x.out.below hb)
      replace y := Lib.hid (y.out.below hb)
      replace m := Lib.hid (m.out.below hb)
      replace e := Lib.hid (e.out.below hb)
      replace p := Lib.hid (p.out.below hb)
      replace nq := Lib.hid (nq.out.below hb)
      replace hE := Lib.hid (hE.out.trans (hb.mono hE.out.size))
      have q := Lib.hid q'
      clear hb q'
      obtain ⟨w16, hw⟩ : ∃ W, (w15.alloc (.cells #[.slice tqa tql tqc] 26)) = W := ⟨_, rfl⟩
      rw [hw] at hE a x y m e p nq q ⊢
      clear hw
      obtain ⟨gq, hgq⟩ : ∃ g, w15.heap.size = g := ⟨_, rfl⟩
      rw [hgq] at q ⊢
      clear hgq
      clear nq
      obtain ⟨aa, al, ac, ab, an⟩ := a.out
      have za := ab.cell
      replace an := Lib.hid an
      clear ab
      obtain ⟨ea, el, ec, eb, en⟩ := e.out
      have ze := eb.cell
      replace en := Lib.hid en
      clear eb
      obtain ⟨ma, ml, mc, mb, mn⟩ := m.out
      have zm := mb.cell
      replace mn := Lib.hid mn
      clear mb
      have hC17 := Lib.hid (Pow_N an.out en.out mn.out (Nat.le_trans hA.out (by decide)) (Nat.le_trans hE1.out (by decide)) (Nat.le_trans hM.out (by decide)))
      go_wp2_with fail
      refine hC17.out.mono ?_
      rintro e w17 ⟨tr, rfl, nr, hb⟩
      obtain ⟨tra, trl, trc, rfl⟩ := nr.shape
      rw [hme.out]
      rw [hr.out] at nr
      replace a := Lib.hid (a.out.below hb)
      replace x := Lib.hid (x.out.below hb)
      replace y := Lib.hid (y.out.below hb)
      replace m := Lib.hid (m.out.below hb)
      replace e := Lib.hid (e.out.below hb)
      replace p := Lib.hid (p.out.below hb)
      replace q := Lib.hid (q.out.below hb)
      replace nr := Lib.hid nr
      replace hE := Lib.hid (hE.out.trans (hb.mono hE.out.size))
      clear hb hC17 za an ze en zm mn
      go_upto_region 12 with (fail)
      have hb : Below w17.heap.size w17 (w17.alloc (.cells #[.slice tra trl trc] 26)) := (Below.refl _ _).alloc (Nat.le_refl _) _
      have r' := Var.made nr.out
      replace a := Lib.hid (a.out.below hb)
      replace x := Lib.hid (x.out.below hb)
      replace y := Lib.hid (y.out.below hb)
      replace m := Lib.hid (m.out.below hb)
      replace e := Lib.hid (e.out.below hb)
      replace p := Lib.hid (p.out.below hb)
      replace q := Lib.hid (q.out.below hb)
      replace nr := Lib.hid (nr.out.below hb)
      replace hE := Lib.hid (hE.out.trans (hb.mono hE.out.size))
      have r := Lib.hid r'
      clear hb r'
      obtain ⟨w18, hw⟩ : ∃ W, (w17.alloc (.cells #[.slice tra trl trc] 26)) = W := ⟨_, rfl⟩
      rw [hw] at hE a x y m e p q nr r ⊢
      clear hw
      obtain ⟨gr, hgr⟩ : ∃ g, w17.heap.size = g := ⟨_, rfl⟩
      rw [hgr] at r ⊢
      clear hgr
      clear nr
      obtain ⟨pa, pl, pc, pb, pn⟩ := p.out
      have zp := pb.cell
      replace pn := Lib.hid pn
      clear pb
      obtain ⟨qa, ql, qc, qb, qn⟩ := q.out
      have zq := qb.cell
      replace qn := Lib.hid qn
      clear qb
      have hC19 := Lib.hid (Mul_N pn.out qn.out (Nat.le_trans hP.out (by decide)) (Nat.le_trans hQ.out (by decide)))
      go_wp2_with fail
      refine hC19.out.mono ?_
      rintro e w19 ⟨tww, rfl, nww, hb⟩
      obtain ⟨twwa, twwl, twwc, rfl⟩ := nww.shape
      rw [fw.out.2]
      rw [fw.out.1] at nww
      replace a := Lib.hid (a.out.below hb)
      replace x := Lib.hid (x.out.below hb)
      replace y := Lib.hid (y.out.below hb)
      replace m := Lib.hid (m.out.below hb)
      replace e := Lib.hid (e.out.below hb)
      replace p := Lib.hid (p.out.below hb)
      replace q := Lib.hid (q.out.below hb)
      replace r := Lib.hid (r.out.below hb)
      replace nww := Lib.hid nww
      replace hE := Lib.hid (hE.out.trans (hb.mono hE.out.size))
      clear hb hC19 zp pn zq qn
      go_upto_region 13 with (fail)
      have hb : Below w19.heap.size w19 (w19.alloc (.cells #[.slice twwa twwl twwc] 26)) := (Below.refl _ _).alloc (Nat.le_refl _) _
      have ww' := Var.made nww.out
      replace a := Lib.hid (a.out.below hb)
      replace x := Lib.hid (x.out.below hb)
      replace y := Lib.hid (y.out.below hb)
      replace m := Lib.hid (m.out.below hb)
      replace e := Lib.hid (e.out.below hb)
      replace p := Lib.hid (p.out.below hb)
      replace q := Lib.hid (q.out.below hb)
      replace r := Lib.hid (r.out.below hb)
      replace nww := Lib.hid (nww.out.below hb)
      replace hE := Lib.hid (hE.out.trans (hb.mono hE.out.size))
      have ww := Lib.hid ww'
      clear hb ww'
      obtain ⟨w20, hw⟩ : ∃ W, (w19.alloc (.cells #[.slice twwa twwl twwc] 26)) = W := ⟨_, rfl⟩
      rw [hw] at hE a x y m e p q r nww ww ⊢
      clear hw
      obtain ⟨gww, hgww⟩ : ∃ g, w19.heap.size = g := ⟨_, rfl⟩
      rw [hgww] at ww ⊢
      clear hgww
      clear nww
      obtain ⟨wwa, wwl, wwc, wwb, wwn⟩ := ww.out
      have zww := wwb.cell
      replace wwn := Lib.hid wwn
      clear wwb
      obtain ⟨ma, ml, mc, mb, mn⟩ := m.out
      have zm := mb.cell
      replace mn := Lib.hid mn
      clear mb
      have hC21 := Lib.hid (Div_N wwn.out mn.out (Nat.le_trans hWW.out (by decide)) (Nat.le_trans hM.out (by decide)))
      go_wp2_with fail
      refine hC21.out.mono ?_
      rintro e w21 ⟨td, th, rfl, nd, nh, hb⟩
      obtain ⟨tda, tdl, tdc, rfl⟩ := nd.shape
      obtain ⟨tha, thl, thc, rfl⟩ := nh.shape
      rw [hdE.out]
      rw [hres.out] at nh
      replace a := Lib.hid (a.out.below hb)
      replace x := Lib.hid (x.out.below hb)
      replace y := Lib.hid (y.out.below hb)
      replace m := Lib.hid (m.out.below hb)
      replace e := Lib.hid (e.out.below hb)
      replace p := Lib.hid (p.out.below hb)
      replace q := Lib.hid (q.out.below hb)
      replace r := Lib.hid (r.out.below hb)
      replace ww := Lib.hid (ww.out.below hb)
      replace nd := Lib.hid nd
      replace nh := Lib.hid nh
      replace hE := Lib.hid (hE.out.trans (hb.mono hE.out.size))
      clear hb hC21 zww wwn zm mn
      go_upto_region 14 with (fail)
      have hb : Below w21.heap.size w21 (w21.alloc (.cells #[.slice tda tdl tdc] 26)) := (Below.refl _ _).alloc (Nat.le_refl _) _
      have d' := Var.made nd.out
      replace a := Lib.hid (a.out.below hb)
      replace x := Lib.hid (x.out.below hb)
      replace y := Lib.hid (y.out.below hb)
      replace m := Lib.hid (m.out.below hb)
      replace e := Lib.hid (e.out.below hb)
      replace p := Lib.hid (p.out.below hb)
      replace q := Lib.hid (q.out.below hb)
      replace r := Lib.hid (r.out.below hb)
      replace ww := Lib.hid (ww.out.below hb)
      replace nd := Lib.hid (nd.out.below hb)
      replace nh := Lib.hid (nh.out.below hb)
      replace hE := Lib.hid (hE.out.trans (hb.mono hE.out.size))
      have d := Lib.hid d'
      clear hb d'
      have hb : Below (w21.alloc (.cells #[.slice tda tdl tdc] 26)).heap.size (w21.alloc (.cells #[.slice tda tdl tdc] 26)) ((w21.alloc (.cells #[.slice tda tdl tdc] 26)).alloc (.cells #[.slice tha thl thc] 26)) := (Below.refl _ _).alloc (Nat.le_refl _) _
      have e1' := Var.made nh.out
      replace a := Lib.hid (a.out.below hb)
      replace x := Lib.hid (x.out.below hb)
      replace y := Lib.hid (y.out.below hb)
      replace m := Lib.hid (m.out.below hb)
      replace e := Lib.hid (e.out.below hb)
      replace p := Lib.hid (p.out.below hb)
      replace q := Lib.hid (q.out.below hb)
      replace r := Lib.hid (r.out.below hb)
      replace ww := Lib.hid (ww.out.below hb)
      replace nd := Lib.hid (nd.out.below hb)
      replace nh := Lib.hid (nh.out.below hb)
      replace d := Lib.hid (d.out.below hb)
      replace hE := Lib.hid (hE.out.trans (hb.mono hE.out.size))
      have e1 := Lib.hid e1'
      clear hb e1'
      simp only [World.size_alloc] at e1
      obtain ⟨w22, hw⟩ : ∃ W, ((w21.alloc (.cells #[.slice tda tdl tdc] 26)).alloc (.cells #[.slice tha thl thc] 26)) = W := ⟨_, rfl⟩
      rw [hw] at hE a x y m e p q r ww nd nh d e1 ⊢
      clear hw
      obtain ⟨gd, hgd⟩ : ∃ g, w21.heap.size = g := ⟨_, rfl⟩
      obtain ⟨ge1, hge1⟩ : ∃ g, w21.heap.size + 1 = g := ⟨_, rfl⟩
      rw [hge1] at e1 ⊢
      rw [hgd] at d ⊢
      clear hgd hge1
      clear nd
      clear nh
      obtain ⟨e1a, e1l, e1c, e1b, e1n⟩ := e1.out
      have ze1 := e1b.cell
      replace e1n := Lib.hid e1n
      clear e1b
      obtain ⟨ra, rl, rc, rb, rn⟩ := r.out
      have zr := rb.cell
      replace rn := Lib.hid rn
      clear rb
      have hC23 := Lib.hid (Cmp_N e1n.out rn.out (Nat.le_trans hR.out (by decide)) (Nat.le_trans hR.out (by decide)))
      go_wp2_with fail
      refine hC23.out.mono ?_
      rintro e w23 ⟨rfl, hb⟩
      rw [cmpN_self r0]
      replace a := Lib.hid (a.out.below hb)
      replace x := Lib.hid (x.out.below hb)
      replace y := Lib.hid (y.out.below hb)
      replace m := Lib.hid (m.out.below hb)
      replace e := Lib.hid (e.out.below hb)
      replace p := Lib.hid (p.out.below hb)
      replace q := Lib.hid (q.out.below hb)
      replace r := Lib.hid (r.out.below hb)
      replace ww := Lib.hid (ww.out.below hb)
      replace d := Lib.hid (d.out.below hb)
      replace e1 := Lib.hid (e1.out.below hb)
      replace hE := Lib.hid (hE.out.trans (hb.mono hE.out.size))
      clear hb hC23 ze1 e1n zr rn
      obtain ⟨aa, al, ac, ab, an⟩ := a.out
      have za := ab.cell
      replace an := Lib.hid an
      clear ab
      obtain ⟨ma, ml, mc, mb, mn⟩ := m.out
      have zm := mb.cell
      replace mn := Lib.hid mn
      clear mb
      have hC24 := Lib.hid (Inv_N an.out mn.out (Nat.le_trans hA.out (by decide)) (Nat.le_trans hM.out (by decide)))
      go_wp2_with fail
      refine hC24.out.mono ?_
      rintro e w24 ⟨ti, rfl, ni, hb⟩
      obtain ⟨tia, til, tic, rfl⟩ := ni.shape
      rw [hi.out]
      rw [hiv.out] at ni
      replace a := Lib.hid (a.out.below hb)
      replace x := Lib.hid (x.out.below hb)
      replace y := Lib.hid (y.out.below hb)
      replace m := Lib.hid (m.out.below hb)
      replace e := Lib.hid (e.out.below hb)
      replace p := Lib.hid (p.out.below hb)
      replace q := Lib.hid (q.out.below hb)
      replace r := Lib.hid (r.out.below hb)
      replace ww := Lib.hid (ww.out.below hb)
      replace d := Lib.hid (d.out.below hb)
      replace e1 := Lib.hid (e1.out.below hb)
      replace ni := Lib.hid ni
      replace hE := Lib.hid (hE.out.trans (hb.mono hE.out.size))
      clear hb hC24 za an zm mn
      go_upto_region 19 with (fail)
      have hb : Below w24.heap.size w24 (w24.alloc (.cells #[.slice tia til tic] 26)) := (Below.refl _ _).alloc (Nat.le_refl _) _
      have i' := Var.made ni.out
      replace a := Lib.hid (a.out.below hb)
      replace x := Lib.hid (x.out.below hb)
      replace y := Lib.hid (y.out.below hb)
      replace m := Lib.hid (m.out.below hb)
      replace e := Lib.hid (e.out.below hb)
      replace p := Lib.hid (p.out.below hb)
      replace q := Lib.hid (q.out.below hb)
      replace r := Lib.hid (r.out.below hb)
      replace ww := Lib.hid (ww.out.below hb)
      replace d := Lib.hid (d.out.below hb)
      replace e1 := Lib.hid (e1.out.below hb)
      replace ni := Lib.hid (ni.out.below hb)
      replace hE := Lib.hid (hE.out.trans (hb.mono hE.out.size))
      have i := Lib.hid i'
      clear hb i'
      obtain ⟨w25, hw⟩ : ∃ W, (w24.alloc (.cells #[.slice tia til tic] 26)) = W := ⟨_, rfl⟩
      rw [hw] at hE a x y m e p q r ww d e1 ni i ⊢
      clear hw
      obtain ⟨gi, hgi⟩ : ∃ g, w24.heap.size = g := ⟨_, rfl⟩
      rw [hgi] at i ⊢
      clear hgi
      clear ni
      obtain ⟨aa, al, ac, ab, an⟩ := a.out
      have za := ab.cell
      replace an := Lib.hid an
      clear ab
      obtain ⟨ia, il, ic, ib, jn⟩ := i.out
      have zi := ib.cell
      replace jn := Lib.hid jn
      clear ib
      have hC26 := Lib.hid (Mul_N an.out jn.out (Nat.le_trans hA.out (by decide)) (Nat.le_trans hI.out (by decide)))
      go_wp2_with fail
      refine hC26.out.mono ?_
      rintro e w26 ⟨too, rfl, noo, hb⟩
      obtain ⟨tooa, tool, tooc, rfl⟩ := noo.shape
      rw [fo.out.2]
      rw [fo.out.1] at noo
      replace a := Lib.hid (a.out.below hb)
      replace x := Lib.hid (x.out.below hb)
      replace y := Lib.hid (y.out.below hb)
      replace m := Lib.hid (m.out.below hb)
      replace e := Lib.hid (e.out.below hb)
      replace p := Lib.hid (p.out.below hb)
      replace q := Lib.hid (q.out.below hb)
      replace r := Lib.hid (r.out.below hb)
      replace ww := Lib.hid (ww.out.below hb)
      replace d := Lib.hid (d.out.below hb)
      replace e1 := Lib.hid (e1.out.below hb)
      replace i := Lib.hid (i.out.below hb)
      replace noo := Lib.hid noo
      replace hE := Lib.hid (hE.out.trans (hb.mono hE.out.size))
      clear hb hC26 za an zi jn
      go_upto_region 20 with (fail)
      have hb : Below w26.heap.size w26 (w26.alloc (.cells #[.slice tooa tool tooc] 26)) := (Below.refl _ _).alloc (Nat.le_refl _) _
      have oo' := Var.made noo.out
      replace a := Lib.hid (a.out.below hb)
      replace x := Lib.hid (x.out.below hb)
      replace y := Lib.hid (y.out.below hb)
      replace m := Lib.hid (m.out.below hb)
      replace e := Lib.hid (e.out.below hb)
      replace p := Lib.hid (p.out.below hb)
      replace q := Lib.hid (q.out.below hb)
      replace r := Lib.hid (r.out.below hb)
      replace ww := Lib.hid (ww.out.below hb)
      replace d := Lib.hid (d.out.below hb)
      replace e1 := Lib.hid (e1.out.below hb)
      replace i := Lib.hid (i.out.below hb)
      replace noo := Lib.hid (noo.out.below hb)
      replace hE := Lib.hid (hE.out.trans (hb.mono hE.out.size))
      have oo := Lib.hid oo'
      clear hb oo'
      obtain ⟨w27, hw⟩ : ∃ W, (w26.alloc (.cells #[.slice tooa tool tooc] 26)) = W := ⟨_, rfl⟩
      rw [hw] at hE a x y m e p q r ww d e1 i noo oo ⊢
      clear hw
      obtain ⟨goo, hgoo⟩ : ∃ g, w26.heap.size = g := ⟨_, rfl⟩
      rw [hgoo] at oo ⊢
      clear hgoo
      clear noo
      obtain ⟨ooa, ool, ooc, oob, oon⟩ := oo.out
      have zoo := oob.cell
      replace oon := Lib.hid oon
      clear oob
      obtain ⟨ma, ml, mc, mb, mn⟩ := m.out
      have zm := mb.cell
      replace mn := Lib.hid mn
      clear mb
      have hC28 := Lib.hid (Div_N oon.out mn.out (Nat.le_trans hOO.out (by decide)) (Nat.le_trans hM.out (by decide)))
      go_wp2_with fail
      refine hC28.out.mono ?_
      rintro e w28 ⟨tf, tg, rfl, nf, ng, hb⟩
      obtain ⟨tfa, tfl, tfc, rfl⟩ := nf.shape
      obtain ⟨tga, tgl, tgc, rfl⟩ := ng.shape
      rw [hdE.out]
      rw [hleft.out] at ng
      replace a := Lib.hid (a.out.below hb)
      replace x := Lib.hid (x.out.below hb)
      replace y := Lib.hid (y.out.below hb)
      replace m := Lib.hid (m.out.below hb)
      replace e := Lib.hid (e.out.below hb)
      replace p := Lib.hid (p.out.below hb)
      replace q := Lib.hid (q.out.below hb)
      replace r := Lib.hid (r.out.below hb)
      replace ww := Lib.hid (ww.out.below hb)
      replace d := Lib.hid (d.out.below hb)
      replace e1 := Lib.hid (e1.out.below hb)
      replace i := Lib.hid (i.out.below hb)
      replace oo := Lib.hid (oo.out.below hb)
      replace nf := Lib.hid nf
      replace ng := Lib.hid ng
      replace hE := Lib.hid (hE.out.trans (hb.mono hE.out.size))
      clear hb hC28 zoo oon zm mn
      go_upto_region 21 with (fail)
      have hb : Below w28.heap.size w28 (w28.alloc (.cells #[.slice tfa tfl tfc] 26)) := (Below.refl _ _).alloc (Nat.le_refl _) _
      have f' := Var.made nf.out
      replace a := Lib.hid (a.out.below hb)
      replace x := Lib.hid (x.out.below hb)
      replace y := Lib.hid (y.out.below hb)
      replace m := Lib.hid (m.out.below hb)
      replace e := Lib.hid (e.out.below hb)
      replace p := Lib.hid (p.out.below hb)
      replace q := Lib.hid (q.out.below hb)
      replace r := Lib.hid (r.out.below hb)
      replace ww := Lib.hid (ww.out.below hb)
      replace d := Lib.hid (d.out.below hb)
      replace e1 := Lib.hid (e1.out.below hb)
      replace i := Lib.hid (i.out.below hb)
      replace oo := Lib.hid (oo.out.below hb)
      replace nf := Lib.hid (nf.out.below hb)
      replace ng := Lib.hid (ng.out.below hb)
      replace hE := Lib.hid (hE.out.trans (hb.mono hE.out.size))
      have f := Lib.hid f'
      clear hb f'
      have hb : Below (w28.alloc (.cells #[.slice tfa tfl tfc] 26)).heap.size (w28.alloc (.cells #[.slice tfa tfl tfc] 26)) ((w28.alloc (.cells #[.slice tfa tfl tfc] 26)).alloc (.cells #[.slice tga tgl tgc] 26)) := (Below.refl _ _).alloc (Nat.le_refl _) _
      have g1' := Var.made ng.out
      replace a := Lib.hid (a.out.below hb)
      replace x := Lib.hid (x.out.below hb)
      replace y := Lib.hid (y.out.below hb)
      replace m := Lib.hid (m.out.below hb)
      replace e := Lib.hid (e.out.below hb)
      replace p := Lib.hid (p.out.below hb)
      replace q := Lib.hid (q.out.below hb)
      replace r := Lib.hid (r.out.below hb)
      replace ww := Lib.hid (ww.out.below hb)
      replace d := Lib.hid (d.out.below hb)
      replace e1 := Lib.hid (e1.out.below hb)
      replace i := Lib.hid (i.out.below hb)
      replace oo := Lib.hid (oo.out.below hb)
      replace nf := Lib.hid (nf.out.below hb)
      replace ng := Lib.hid (ng.out.below hb)
      replace f := Lib.hid (f.out.below hb)
      replace hE := Lib.hid (hE.out.trans (hb.mono hE.out.size))
      have g1 := Lib.hid g1'
      clear hb g1'
      simp only [World.size_alloc] at g1
      obtain ⟨w29, hw⟩ : ∃ W, ((w28.alloc (.cells #[.slice tfa tfl tfc] 26)).alloc (.cells #[.slice tga tgl tgc] 26)) = W := ⟨_, rfl⟩
      rw [hw] at hE a x y m e p q r ww d e1 i oo nf ng f g1 ⊢
      clear hw
      obtain ⟨gf, hgf⟩ : ∃ g, w28.heap.size = g := ⟨_, rfl⟩
      obtain ⟨gg1, hgg1⟩ : ∃ g, w28.heap.size + 1 = g := ⟨_, rfl⟩
      rw [hgg1] at g1 ⊢
      rw [hgf] at f ⊢
      clear hgf hgg1
      clear nf
      clear ng
      have hX0 : Hid (EX w w29 w29.heap.size gg1 gi gm u0 i0 m0) := Lib.hid ⟨g1.out, i.out, m.out, g1.out.lt, i.out.lt, m.out.lt, Nat.le_refl _, hE.out, hE.out.size⟩
      obtain ⟨hs, hhs⟩ : ∃ z, w29.heap.size = z := ⟨_, rfl⟩
      rw [hhs] at hX0
      clear hhs hE a x y m e p q r ww d e1 i oo f g1
      go_cut [34, 35, 36] from 124 to 131 (fun s34 s35 s36 wx => ∃ gk gl : Nat, s34 = .pointer (some ⟨gk, 0, none⟩) ∧ s35 = .pointer (some ⟨gl, 0, none⟩) ∧ s36 = .int .i64 0 ∧ Hid (EX w wx hs gg1 gi gm u0 i0 m0) ∧ Hid (Var wx gl u0))
      case first =>
        have hX := Lib.hid (hX0.out.below ((Below.refl w29.heap.size w29).drew))
        clear hX0
        refine Rt.wp_region_tree [2, 1, 2, 0, 0, 0, 0, 2, 2, 3, 3, 0] (.op 1 (.three 0 (.three 2 (.op 3 (.op 4 (.op 5 (.op 6 (.two 7 (.op 8 (.op 9 (.op 10 (.op 11 .fin)))) 8 (.op 7 (.op 9 (.op 10 (.op 11 .fin))))))))) 7 (.two 2 (.op 3 (.op 4 (.op 5 (.op 6 (.op 8 (.op 9 (.op 10 (.op 11 .fin)))))))) 8 (.op 2 (.op 3 (.op 4 (.op 5 (.op 6 (.op 9 (.op 10 (.op 11 .fin))))))))) 8 (.two 2 (.op 3 (.op 4 (.op 5 (.op 6 (.op 7 (.op 9 (.op 10 (.op 11 .fin)))))))) 7 (.op 2 (.op 3 (.op 4 (.op 5 (.op 6 (.op 9 (.op 10 (.op 11 .fin)))))))))) 7 (.two 0 (.two 2 (.op 3 (.op 4 (.op 5 (.op 6 (.op 8 (.op 9 (.op 10 (.op 11 .fin)))))))) 8 (.op 2 (.op 3 (.op 4 (.op 5 (.op 6 (.op 9 (.op 10 (.op 11 .fin))))))))) 8 (.op 0 (.op 2 (.op 3 (.op 4 (.op 5 (.op 6 (.op 9 (.op 10 (.op 11 .fin)))))))))) 8 (.two 0 (.two 2 (.op 3 (.op 4 (.op 5 (.op 6 (.op 7 (.op 9 (.op 10 (.op 11 .fin)))))))) 7 (.op 2 (.op 3 (.op 4 (.op 5 (.op 6 (.op 9 (.op 10 (.op 11 .fin))))))))) 7 (.op 0 (.op 2 (.op 3 (.op 4 (.op 5 (.op 6 (.op 9 (.op 10 (.op 11 .fin)))))))))))) (by kernel_rfl) (by kernel_rfl) ?_
        obtain ⟨x0, hx0⟩ : ∃ W, w29.drew = W := ⟨_, rfl⟩
        rw [hx0] at hX ⊢
        clear hx0
        obtain ⟨ma, ml, mc, mb, mn⟩ := hX.out.m
        have zm := mb.cell
        replace mn := Lib.hid mn
        clear mb
        refine Rt.tree_op ?_
        apply ord_read rfl rfl rfl; (· (intro W hW; have g0 := cell_up hW zm; go_simp; with_reducible rfl)); (· (simp only [Act.put, Act.eval, List.setIfInBounds_toArray, List.set_cons_zero, List.set_cons_succ, Array.getD_eq_getD_getElem?, List.getElem?_toArray, List.getElem?_cons_zero, List.getElem?_cons_succ, Option.getD_some, List.getElem_toArray, List.getElem_cons_succ, List.getElem_cons_zero]; with_reducible rfl))
        clear zm
        refine Rt.ord_nil ?_
        refine Rt.tree_three ?_ ?_ ?_
        · refine ord_call rfl rfl rfl (by go_simp; exact ⟨rfl, rfl⟩) ?_
          refine (Small_lit _ 1 1 rfl (by decide)).mono ?_
          rintro e x1 ⟨vj, rfl, nj, hb⟩
          obtain ⟨vja, vjl, vjc, rfl⟩ := nj.shape
          refine ⟨_, rfl, hb, ?_⟩
          replace nj := Lib.hid nj
          (try replace nk := Lib.hid (nk.out.below hb))
          (try replace nl := Lib.hid (nl.out.below hb))
          (try replace b7 := Lib.hid (b7.out.below hb))
          (try replace b8 := Lib.hid (b8.out.below hb))
          (try replace mn := Lib.hid (mn.out.below hb))
          (try replace hX := Lib.hid (hX.out.below hb))
          clear hb
          simp only [Act.put, Act.eval, List.setIfInBounds_toArray, List.set_cons_zero, List.set_cons_succ, Array.getD_eq_getD_getElem?, List.getElem?_toArray, List.getElem?_cons_zero, List.getElem?_cons_succ, Option.getD_some, List.getElem_toArray, List.getElem_cons_succ, List.getElem_cons_zero]
          refine Rt.ord_nil ?_
          refine Rt.tree_three ?_ ?_ ?_
          · refine ord_call rfl rfl rfl (by go_simp; exact ⟨rfl, rfl⟩) ?_
            refine (Div_N nj.out mn.out (by decide) (Nat.le_trans hM.out (by decide))).mono ?_
            rintro e x2 ⟨vk, vl, rfl, nk, nl, hb⟩
            obtain ⟨vka, vkl, vkc, rfl⟩ := nk.shape
            obtain ⟨vla, vll, vlc, rfl⟩ := nl.shape
            refine ⟨_, rfl, hb, ?_⟩
            rw [hdE.out]
            rw [hone.out] at nl
            replace nk := Lib.hid nk
            replace nl := Lib.hid nl
            (try replace nj := Lib.hid (nj.out.below hb))
            (try replace b7 := Lib.hid (b7.out.below hb))
            (try replace b8 := Lib.hid (b8.out.below hb))
            (try replace mn := Lib.hid (mn.out.below hb))
            (try replace hX := Lib.hid (hX.out.below hb))
            clear hb
            simp only [Act.put, Act.eval, List.setIfInBounds_toArray, List.set_cons_zero, List.set_cons_succ, Array.getD_eq_getD_getElem?, List.getElem?_toArray, List.getElem?_cons_zero, List.getElem?_cons_succ, Option.getD_some, List.getElem_toArray, List.getElem_cons_succ, List.getElem_cons_zero]
            refine Rt.ord_nil ?_
            refine Rt.tree_op ?_
            apply ord_move rfl rfl rfl rfl; (· (simp only [Act.put, Act.eval, List.setIfInBounds_toArray, List.set_cons_zero, List.set_cons_succ, Array.getD_eq_getD_getElem?, List.getElem?_toArray, List.getElem?_cons_zero, List.getElem?_cons_succ, Option.getD_some, List.getElem_toArray, List.getElem_cons_succ, List.getElem_cons_zero]; with_reducible rfl))
            refine Rt.ord_nil ?_
            refine Rt.tree_op ?_
            apply ord_pure rfl rfl rfl; (· (intro w; go_simp; with_reducible rfl)); (· (simp only [Act.put, Act.eval, List.setIfInBounds_toArray, List.set_cons_zero, List.set_cons_succ, Array.getD_eq_getD_getElem?, List.getElem?_toArray, List.getElem?_cons_zero, List.getElem?_cons_succ, Option.getD_some, List.getElem_toArray, List.getElem_cons_succ, List.getElem_cons_zero]; with_reducible rfl))
            refine Rt.ord_nil ?_
            refine Rt.tree_op ?_
            apply ord_pure rfl rfl rfl; (· (intro w; go_simp; with_reducible rfl)); (· (simp only [Act.put, Act.eval, List.setIfInBounds_toArray, List.set_cons_zero, List.set_cons_succ, Array.getD_eq_getD_getElem?, List.getElem?_toArray, List.getElem?_cons_zero, List.getElem?_cons_succ, Option.getD_some, List.getElem_toArray, List.getElem_cons_succ, List.getElem_cons_zero]; with_reducible rfl))
            refine Rt.ord_nil ?_
            refine Rt.tree_op ?_
            apply ord_pure rfl rfl rfl; (· (intro w; go_simp; with_reducible rfl)); (· (simp only [Act.put, Act.eval, List.setIfInBounds_toArray, List.set_cons_zero, List.set_cons_succ, Array.getD_eq_getD_getElem?, List.getElem?_toArray, List.getElem?_cons_zero, List.getElem?_cons_succ, Option.getD_some, List.getElem_toArray, List.getElem_cons_succ, List.getElem_cons_zero]; with_reducible rfl))
            refine Rt.ord_nil ?_
            refine Rt.tree_two ?_ ?_
            · apply ord_new rfl rfl rfl; (· (go_simp; exact ⟨rfl, rfl⟩)); (· (exact (Below.refl _ _).alloc (Nat.le_refl _) _)); (· (simp only [Act.put, Act.eval, List.setIfInBounds_toArray, List.set_cons_zero, List.set_cons_succ, Array.getD_eq_getD_getElem?, List.getElem?_toArray, List.getElem?_cons_zero, List.getElem?_cons_succ, Option.getD_some, List.getElem_toArray, List.getElem_cons_succ, List.getElem_cons_zero]; with_reducible rfl))
              have b7x := Var.made (NumAt.zero x2)
              have hb : Below x2.heap.size x2 (x2.alloc (.cells #[.slice none 0 0] 26)) := (Below.refl _ _).alloc (Nat.le_refl _) _
              have hlo7 : hs ≤ x2.heap.size := hX.out.le
              (try have hne := Nat.ne_of_lt b8.out.lt)
              obtain ⟨x3, hx3⟩ : ∃ W, x2.alloc (.cells #[.slice none 0 0] 26) = W := ⟨_, rfl⟩
              rw [hx3] at b7x hb ⊢
              (try replace nj := Lib.hid (nj.out.below hb))
              (try replace nk := Lib.hid (nk.out.below hb))
              (try replace nl := Lib.hid (nl.out.below hb))
              (try replace b8 := Lib.hid (b8.out.below hb))
              (try replace mn := Lib.hid (mn.out.below hb))
              (try replace hX := Lib.hid (hX.out.below hb))
              clear hb
              obtain ⟨g7, hg7⟩ : ∃ g, x2.heap.size = g := ⟨_, rfl⟩
              rw [hg7] at b7x hlo7 ⊢
              (try rw [hg7] at hne)
              have b7 := Lib.hid b7x
              clear b7x hx3 hg7
              refine Rt.ord_nil ?_
              refine Rt.tree_op ?_
              apply ord_new rfl rfl rfl; (· (go_simp; exact ⟨rfl, rfl⟩)); (· (exact (Below.refl _ _).alloc (Nat.le_refl _) _)); (· (simp only [Act.put, Act.eval, List.setIfInBounds_toArray, List.set_cons_zero, List.set_cons_succ, Array.getD_eq_getD_getElem?, List.getElem?_toArray, List.getElem?_cons_zero, List.getElem?_cons_succ, Option.getD_some, List.getElem_toArray, List.getElem_cons_succ, List.getElem_cons_zero]; with_reducible rfl))
              have b8x := Var.made (NumAt.zero x3)
              have hb : Below x3.heap.size x3 (x3.alloc (.cells #[.slice none 0 0] 26)) := (Below.refl _ _).alloc (Nat.le_refl _) _
              have hlo8 : hs ≤ x3.heap.size := hX.out.le
              (try have hne := Nat.ne_of_lt b7.out.lt)
              obtain ⟨x4, hx4⟩ : ∃ W, x3.alloc (.cells #[.slice none 0 0] 26) = W := ⟨_, rfl⟩
              rw [hx4] at b8x hb ⊢
              (try replace nj := Lib.hid (nj.out.below hb))
              (try replace nk := Lib.hid (nk.out.below hb))
              (try replace nl := Lib.hid (nl.out.below hb))
              (try replace b7 := Lib.hid (b7.out.below hb))
              (try replace mn := Lib.hid (mn.out.below hb))
              (try replace hX := Lib.hid (hX.out.below hb))
              clear hb
              obtain ⟨g8, hg8⟩ : ∃ g, x3.heap.size = g := ⟨_, rfl⟩
              rw [hg8] at b8x hlo8 ⊢
              (try rw [hg8] at hne)
              have b8 := Lib.hid b8x
              clear b8x hx4 hg8
              refine Rt.ord_nil ?_
              refine Rt.tree_op ?_
              obtain ⟨qa, ql, qc, qb, qn⟩ := b7.out
              have cc := qb.cell
              have ff := qb.frozen
              clear qb qn
              apply ord_do rfl rfl rfl; (· (go_simp; with_reducible rfl)); (· (simp only [Act.put, Act.eval, List.setIfInBounds_toArray, List.set_cons_zero, List.set_cons_succ, Array.getD_eq_getD_getElem?, List.getElem?_toArray, List.getElem?_cons_zero, List.getElem?_cons_succ, Option.getD_some, List.getElem_toArray, List.getElem_cons_succ, List.getElem_cons_zero]; with_reducible rfl))
              clear cc ff
              have b7' := Lib.hid (b7.out.put nk.out)
              have b8' := Lib.hid (b8.out.other b7.out (by first | exact hne | exact hne.symm) (.slice vka vkl vkc))
              have nl' := Lib.hid (nl.out.otherV b7.out (.slice vka vkl vkc))
              have hX' := Lib.hid (hX.out.put hlo7 b7.out (.slice vka vkl vkc))
              clear b7 b8 hX nl nk
              obtain ⟨x5, hx5⟩ : ∃ W, x4.setCell ⟨g7, 0, none⟩ (.slice vka vkl vkc) = W := ⟨_, rfl⟩
              rw [hx5] at b7' b8' hX' nl' ⊢
              have b7 := b7'
              have b8 := b8'
              have hX := hX'
              have nl := nl'
              clear b7' b8' hX' hx5 nl'
              refine Rt.ord_nil ?_
              refine Rt.tree_op ?_
              obtain ⟨qa, ql, qc, qb, qn⟩ := b8.out
              have cc := qb.cell
              have ff := qb.frozen
              clear qb qn
              apply ord_do rfl rfl rfl; (· (go_simp; with_reducible rfl)); (· (simp only [Act.put, Act.eval, List.setIfInBounds_toArray, List.set_cons_zero, List.set_cons_succ, Array.getD_eq_getD_getElem?, List.getElem?_toArray, List.getElem?_cons_zero, List.getElem?_cons_succ, Option.getD_some, List.getElem_toArray, List.getElem_cons_succ, List.getElem_cons_zero]; with_reducible rfl))
              clear cc ff
              have b8' := Lib.hid (b8.out.put nl.out)
              have b7' := Lib.hid (b7.out.other b8.out (by first | exact hne | exact hne.symm) (.slice vla vll vlc))
              have hX' := Lib.hid (hX.out.put hlo8 b8.out (.slice vla vll vlc))
              clear b7 b8 hX
              obtain ⟨x6, hx6⟩ : ∃ W, x5.setCell ⟨g8, 0, none⟩ (.slice vla vll vlc) = W := ⟨_, rfl⟩
              rw [hx6] at b7' b8' hX'  ⊢
              have b7 := b7'
              have b8 := b8'
              have hX := hX'
              clear b7' b8' hX' hx6 
              refine Rt.ord_nil ?_
              refine Rt.tree_op ?_
              apply ord_pure rfl rfl rfl; (· (intro w; go_simp; with_reducible rfl)); (· (simp only [Act.put, Act.eval, List.setIfInBounds_toArray, List.set_cons_zero, List.set_cons_succ, Array.getD_eq_getD_getElem?, List.getElem?_toArray, List.getElem?_cons_zero, List.getElem?_cons_succ, Option.getD_some, List.getElem_toArray, List.getElem_cons_succ, List.getElem_cons_zero]; with_reducible rfl))
              refine Rt.ord_nil ?_
              refine Rt.tree_fin ?_
              go_wp2_with fail
              go_meet
              case rel => exact ⟨g7, g8, rfl, rfl, rfl, hX, b8⟩
            · apply ord_new rfl rfl rfl; (· (go_simp; exact ⟨rfl, rfl⟩)); (· (exact (Below.refl _ _).alloc (Nat.le_refl _) _)); (· (simp only [Act.put, Act.eval, List.setIfInBounds_toArray, List.set_cons_zero, List.set_cons_succ, Array.getD_eq_getD_getElem?, List.getElem?_toArray, List.getElem?_cons_zero, List.getElem?_cons_succ, Option.getD_some, List.getElem_toArray, List.getElem_cons_succ, List.getElem_cons_zero]; with_reducible rfl))
              have b8x := Var.made (NumAt.zero x2)
              have hb : Below x2.heap.size x2 (x2.alloc (.cells #[.slice none 0 0] 26)) := (Below.refl _ _).alloc (Nat.le_refl _) _
              have hlo8 : hs ≤ x2.heap.size := hX.out.le
              (try have hne := Nat.ne_of_lt b7.out.lt)
              obtain ⟨x3, hx3⟩ : ∃ W, x2.alloc (.cells #[.slice none 0 0] 26) = W := ⟨_, rfl⟩
              rw [hx3] at b8x hb ⊢
              (try replace nj := Lib.hid (nj.out.below hb))
              (try replace nk := Lib.hid (nk.out.below hb))
              (try replace nl := Lib.hid (nl.out.below hb))
              (try replace b7 := Lib.hid (b7.out.below hb))
              (try replace mn := Lib.hid (mn.out.below hb))
              (try replace hX := Lib.hid (hX.out.below hb))
              clear hb
              obtain ⟨g8, hg8⟩ : ∃ g, x2.heap.size = g := ⟨_, rfl⟩
              rw [hg8] at b8x hlo8 ⊢
              (try rw [hg8] at hne)
              have b8 := Lib.hid b8x
              clear b8x hx3 hg8
              refine Rt.ord_nil ?_
              refine Rt.tree_op ?_
              apply ord_new rfl rfl rfl; (· (go_simp; exact ⟨rfl, rfl⟩)); (· (exact (Below.refl _ _).alloc (Nat.le_refl _) _)); (· (simp only [Act.put, Act.eval, List.setIfInBounds_toArray, List.set_cons_zero, List.set_cons_succ, Array.getD_eq_getD_getElem?, List.getElem?_toArray, List.getElem?_cons_zero, List.getElem?_cons_succ, Option.getD_some, List.getElem_toArray, List.getElem_cons_succ, List.getElem_cons_zero]; with_reducible rfl))
              have b7x := Var.made (NumAt.zero x3)
              have hb : Below x3.heap.size x3 (x3.alloc (.cells #[.slice none 0 0] 26)) := (Below.refl _ _).alloc (Nat.le_refl _) _
              have hlo7 : hs ≤ x3.heap.size := hX.out.le
              (try have hne := Nat.ne_of_lt b8.out.lt)
              obtain ⟨x4, hx4⟩ : ∃ W, x3.alloc (.cells #[.slice none 0 0] 26) = W := ⟨_, rfl⟩
              rw [hx4] at b7x hb ⊢
              (try replace nj := Lib.hid (nj.out.below hb))
              (try replace nk := Lib.hid (nk.out.below hb))
              (try replace nl := Lib.hid (nl.out.below hb))
              (try replace b8 := Lib.hid (b8.out.below hb))
              (try replace mn := Lib.hid (mn.out.below hb))
              (try replace hX := Lib.hid (hX.out.below hb))
              clear hb
              obtain ⟨g7, hg7⟩ : ∃ g, x3.heap.size = g := ⟨_, rfl⟩
              rw [hg7] at b7x hlo7 ⊢
              (try rw [hg7] at hne)
              have b7 := Lib.hid b7x
              clear b7x hx4 hg7
              refine Rt.ord_nil ?_
              refine Rt.tree_op ?_
              obtain ⟨qa, ql, qc, qb, qn⟩ := b7.out
              have cc := qb.cell
              have ff := qb.frozen
              clear qb qn
              apply ord_do rfl rfl rfl; (· (go_simp; with_reducible rfl)); (· (simp only [Act.put, Act.eval, List.setIfInBounds_toArray, List.set_cons_zero, List.set_cons_succ, Array.getD_eq_getD_getElem?, List.getElem?_toArray, List.getElem?_cons_zero, List.getElem?_cons_succ, Option.getD_some, List.getElem_toArray, List.getElem_cons_succ, List.getElem_cons_zero]; with_reducible rfl))
              clear cc ff
              have b7' := Lib.hid (b7.out.put nk.out)
              have b8' := Lib.hid (b8.out.other b7.out (by first | exact hne | exact hne.symm) (.slice vka vkl vkc))
              have nl' := Lib.hid (nl.out.otherV b7.out (.slice vka vkl vkc))
              have hX' := Lib.hid (hX.out.put hlo7 b7.out (.slice vka vkl vkc))
              clear b7 b8 hX nl nk
              obtain ⟨x5, hx5⟩ : ∃ W, x4.setCell ⟨g7, 0, none⟩ (.slice vka vkl vkc) = W := ⟨_, rfl⟩
              rw [hx5] at b7' b8' hX' nl' ⊢
              have b7 := b7'
              have b8 := b8'
              have hX := hX'
              have nl := nl'
              clear b7' b8' hX' hx5 nl'
              refine Rt.ord_nil ?_
              refine Rt.tree_op ?_
              obtain ⟨qa, ql, qc, qb, qn⟩ := b8.out
              have cc := qb.cell
              have ff := qb.frozen
              clear qb qn
              apply ord_do rfl rfl rfl; (· (go_simp; with_reducible rfl)); (· (simp only [Act.put, Act.eval, List.setIfInBounds_toArray, List.set_cons_zero, List.set_cons_succ, Array.getD_eq_getD_getElem?, List.getElem?_toArray, List.getElem?_cons_zero, List.getElem?_cons_succ, Option.getD_some, List.getElem_toArray, List.getElem_cons_succ, List.getElem_cons_zero]; with_reducible rfl))
              clear cc ff
              have b8' := Lib.hid (b8.out.put nl.out)
              have b7' := Lib.hid (b7.out.other b8.out (by first | exact hne | exact hne.symm) (.slice vla vll vlc))
              have hX' := Lib.hid (hX.out.put hlo8 b8.out (.slice vla vll vlc))
              clear b7 b8 hX
              obtain ⟨x6, hx6⟩ : ∃ W, x5.setCell ⟨g8, 0, none⟩ (.slice vla vll vlc) = W := ⟨_, rfl⟩
              rw [hx6] at b7' b8' hX'  ⊢
              have b7 := b7'
              have b8 := b8'
              have hX := hX'
              clear b7' b8' hX' hx6 
              refine Rt.ord_nil ?_
              refine Rt.tree_op ?_
              apply ord_pure rfl rfl rfl; (· (intro w; go_simp; with_reducible rfl)); (· (simp only [Act.put, Act.eval, List.setIfInBounds_toArray, List.set_cons_zero, List.set_cons_succ, Array.getD_eq_getD_getElem?, List.getElem?_toArray, List.getElem?_cons_zero, List.getElem?_cons_succ, Option.getD_some, List.getElem_toArray, List.getElem_cons_succ, List.getElem_cons_zero]; with_reducible rfl))
              refine Rt.ord_nil ?_
              refine Rt.tree_fin ?_
              go_wp2_with fail
              go_meet
              case rel => exact ⟨g7, g8, rfl, rfl, rfl, hX, b8⟩
          · apply ord_new rfl rfl rfl; (· (go_simp; exact ⟨rfl, rfl⟩)); (· (exact (Below.refl _ _).alloc (Nat.le_refl _) _)); (· (simp only [Act.put, Act.eval, List.setIfInBounds_toArray, List.set_cons_zero, List.set_cons_succ, Array.getD_eq_getD_getElem?, List.getElem?_toArray, List.getElem?_cons_zero, List.getElem?_cons_succ, Option.getD_some, List.getElem_toArray, List.getElem_cons_succ, List.getElem_cons_zero]; with_reducible rfl))
            have b7x := Var.made (NumAt.zero x1)
            have hb : Below x1.heap.size x1 (x1.alloc (.cells #[.slice none 0 0] 26)) := (Below.refl _ _).alloc (Nat.le_refl _) _
            have hlo7 : hs ≤ x1.heap.size := hX.out.le
            (try have hne := Nat.ne_of_lt b8.out.lt)
            obtain ⟨x2, hx2⟩ : ∃ W, x1.alloc (.cells #[.slice none 0 0] 26) = W := ⟨_, rfl⟩
            rw [hx2] at b7x hb ⊢
            (try replace nj := Lib.hid (nj.out.below hb))
            (try replace nk := Lib.hid (nk.out.below hb))
            (try replace nl := Lib.hid (nl.out.below hb))
            (try replace b8 := Lib.hid (b8.out.below hb))
            (try replace mn := Lib.hid (mn.out.below hb))
            (try replace hX := Lib.hid (hX.out.below hb))
            clear hb
            obtain ⟨g7, hg7⟩ : ∃ g, x1.heap.size = g := ⟨_, rfl⟩
            rw [hg7] at b7x hlo7 ⊢
            (try rw [hg7] at hne)
            have b7 := Lib.hid b7x
            clear b7x hx2 hg7
            refine Rt.ord_nil ?_
            refine Rt.tree_two ?_ ?_
            · refine ord_call rfl rfl rfl (by go_simp; exact ⟨rfl, rfl⟩) ?_
              refine (Div_N nj.out mn.out (by decide) (Nat.le_trans hM.out (by decide))).mono ?_
              rintro e x3 ⟨vk, vl, rfl, nk, nl, hb⟩
              obtain ⟨vka, vkl, vkc, rfl⟩ := nk.shape
              obtain ⟨vla, vll, vlc, rfl⟩ := nl.shape
              refine ⟨_, rfl, hb, ?_⟩
              rw [hdE.out]
              rw [hone.out] at nl
              replace nk := Lib.hid nk
              replace nl := Lib.hid nl
              (try replace nj := Lib.hid (nj.out.below hb))
              (try replace b7 := Lib.hid (b7.out.below hb))
              (try replace b8 := Lib.hid (b8.out.below hb))
              (try replace mn := Lib.hid (mn.out.below hb))
              (try replace hX := Lib.hid (hX.out.below hb))
              clear hb
              simp only [Act.put, Act.eval, List.setIfInBounds_toArray, List.set_cons_zero, List.set_cons_succ, Array.getD_eq_getD_getElem?, List.getElem?_toArray, List.getElem?_cons_zero, List.getElem?_cons_succ, Option.getD_some, List.getElem_toArray, List.getElem_cons_succ, List.getElem_cons_zero]
              refine Rt.ord_nil ?_
              refine Rt.tree_op ?_
              apply ord_move rfl rfl rfl rfl; (· (simp only [Act.put, Act.eval, List.setIfInBounds_toArray, List.set_cons_zero, List.set_cons_succ, Array.getD_eq_getD_getElem?, List.getElem?_toArray, List.getElem?_cons_zero, List.getElem?_cons_succ, Option.getD_some, List.getElem_toArray, List.getElem_cons_succ, List.getElem_cons_zero]; with_reducible rfl))
              refine Rt.ord_nil ?_
              refine Rt.tree_op ?_
              apply ord_pure rfl rfl rfl; (· (intro w; go_simp; with_reducible rfl)); (· (simp only [Act.put, Act.eval, List.setIfInBounds_toArray, List.set_cons_zero, List.set_cons_succ, Array.getD_eq_getD_getElem?, List.getElem?_toArray, List.getElem?_cons_zero, List.getElem?_cons_succ, Option.getD_some, List.getElem_toArray, List.getElem_cons_succ, List.getElem_cons_zero]; with_reducible rfl))
              refine Rt.ord_nil ?_
              refine Rt.tree_op ?_
              apply ord_pure rfl rfl rfl; (· (intro w; go_simp; with_reducible rfl)); (· (simp only [Act.put, Act.eval, List.setIfInBounds_toArray, List.set_cons_zero, List.set_cons_succ, Array.getD_eq_getD_getElem?, List.getElem?_toArray, List.getElem?_cons_zero, List.getElem?_cons_succ, Option.getD_some, List.getElem_toArray, List.getElem_cons_succ, List.getElem_cons_zero]; with_reducible rfl))
              refine Rt.ord_nil ?_
              refine Rt.tree_op ?_
              apply ord_pure rfl rfl rfl; (· (intro w; go_simp; with_reducible rfl)); (· (simp only [Act.put, Act.eval, List.setIfInBounds_toArray, List.set_cons_zero, List.set_cons_succ, Array.getD_eq_getD_getElem?, List.getElem?_toArray, List.getElem?_cons_zero, List.getElem?_cons_succ, Option.getD_some, List.getElem_toArray, List.getElem_cons_succ, List.getElem_cons_zero]; with_reducible rfl))
              refine Rt.ord_nil ?_
              refine Rt.tree_op ?_
              apply ord_new rfl rfl rfl; (· (go_simp; exact ⟨rfl, rfl⟩)); (· (exact (Below.refl _ _).alloc (Nat.le_refl _) _)); (· (simp only [Act.put, Act.eval, List.setIfInBounds_toArray, List.set_cons_zero, List.set_cons_succ, Array.getD_eq_getD_getElem?, List.getElem?_toArray, List.getElem?_cons_zero, List.getElem?_cons_succ, Option.getD_some, List.getElem_toArray, List.getElem_cons_succ, List.getElem_cons_zero]; with_reducible rfl))
              have b8x := Var.made (NumAt.zero x3)
              have hb : Below x3.heap.size x3 (x3.alloc (.cells #[.slice none 0 0] 26)) := (Below.refl _ _).alloc (Nat.le_refl _) _
              have hlo8 : hs ≤ x3.heap.size := hX.out.le
              (try have hne := Nat.ne_of_lt b7.out.lt)
              obtain ⟨x4, hx4⟩ : ∃ W, x3.alloc (.cells #[.slice none 0 0] 26) = W := ⟨_, rfl⟩
              rw [hx4] at b8x hb ⊢
              (try replace nj := Lib.hid (nj.out.below hb))
              (try replace nk := Lib.hid (nk.out.below hb))
              (try replace nl := Lib.hid (nl.out.below hb))
              (try replace b7 := Lib.hid (b7.out.below hb))
              (try replace mn := Lib.hid (mn.out.below hb))
              (try replace hX := Lib.hid (hX.out.below hb))
              clear hb
              obtain ⟨g8, hg8⟩ : ∃ g, x3.heap.size = g := ⟨_, rfl⟩
              rw [hg8] at b8x hlo8 ⊢
              (try rw [hg8] at hne)
              have b8 := Lib.hid b8x
              clear b8x hx4 hg8
              refine Rt.ord_nil ?_
              refine Rt.tree_op ?_
              obtain ⟨qa, ql, qc, qb, qn⟩ := b7.out
              have cc := qb.cell
              have ff := qb.frozen
              clear qb qn
              apply ord_do rfl rfl rfl; (· (go_simp; with_reducible rfl)); (· (simp only [Act.put, Act.eval, List.setIfInBounds_toArray, List.set_cons_zero, List.set_cons_succ, Array.getD_eq_getD_getElem?, List.getElem?_toArray, List.getElem?_cons_zero, List.getElem?_cons_succ, Option.getD_some, List.getElem_toArray, List.getElem_cons_succ, List.getElem_cons_zero]; with_reducible rfl))
              clear cc ff
              have b7' := Lib.hid (b7.out.put nk.out)
              have b8' := Lib.hid (b8.out.other b7.out (by first | exact hne | exact hne.symm) (.slice vka vkl vkc))
              have nl' := Lib.hid (nl.out.otherV b7.out (.slice vka vkl vkc))
              have hX' := Lib.hid (hX.out.put hlo7 b7.out (.slice vka vkl vkc))
              clear b7 b8 hX nl nk
              obtain ⟨x5, hx5⟩ : ∃ W, x4.setCell ⟨g7, 0, none⟩ (.slice vka vkl vkc) = W := ⟨_, rfl⟩
              rw [hx5] at b7' b8' hX' nl' ⊢
              have b7 := b7'
              have b8 := b8'
              have hX := hX'
              have nl := nl'
              clear b7' b8' hX' hx5 nl'
              refine Rt.ord_nil ?_
              refine Rt.tree_op ?_
              obtain ⟨qa, ql, qc, qb, qn⟩ := b8.out
              have cc := qb.cell
              have ff := qb.frozen
              clear qb qn
              apply ord_do rfl rfl rfl; (· (go_simp; with_reducible rfl)); (· (simp only [Act.put, Act.eval, List.setIfInBounds_toArray, List.set_cons_zero, List.set_cons_succ, Array.getD_eq_getD_getElem?, List.getElem?_toArray, List.getElem?_cons_zero, List.getElem?_cons_succ, Option.getD_some, List.getElem_toArray, List.getElem_cons_succ, List.getElem_cons_zero]; with_reducible rfl))
              clear cc ff
              have b8' := Lib.hid (b8.out.put nl.out)
              have b7' := Lib.hid (b7.out.other b8.out (by first | exact hne | exact hne.symm) (.slice vla vll vlc))
              have hX' := Lib.hid (hX.out.put hlo8 b8.out (.slice vla vll vlc))
              clear b7 b8 hX
              obtain ⟨x6, hx6⟩ : ∃ W, x5.setCell ⟨g8, 0, none⟩ (.slice vla vll vlc) = W := ⟨_, rfl⟩
              rw [hx6] at b7' b8' hX'  ⊢
              have b7 := b7'
              have b8 := b8'
              have hX := hX'
              clear b7' b8' hX' hx6 
              refine Rt.ord_nil ?_
              refine Rt.tree_op ?_
              apply ord_pure rfl rfl rfl; (· (intro w; go_simp; with_reducible rfl)); (· (simp only [Act.put, Act.eval, List.setIfInBounds_toArray, List.set_cons_zero, List.set_cons_succ, Array.getD_eq_getD_getElem?, List.getElem?_toArray, List.getElem?_cons_zero, List.getElem?_cons_succ, Option.getD_some, List.getElem_toArray, List.getElem_cons_succ, List.getElem_cons_zero]; with_reducible rfl))
              refine Rt.ord_nil ?_
              refine Rt.tree_fin ?_
              go_wp2_with fail
              go_meet
              case rel => exact ⟨g7, g8, rfl, rfl, rfl, hX, b8⟩
            · apply ord_new rfl rfl rfl; (· (go_simp; exact ⟨rfl, rfl⟩)); (· (exact (Below.refl _ _).alloc (Nat.le_refl _) _)); (· (simp only [Act.put, Act.eval, List.setIfInBounds_toArray, List.set_cons_zero, List.set_cons_succ, Array.getD_eq_getD_getElem?, List.getElem?_toArray, List.getElem?_cons_zero, List.getElem?_cons_succ, Option.getD_some, List.getElem_toArray, List.getElem_cons_succ, List.getElem_cons_zero]; with_reducible rfl))
              have b8x := Var.made (NumAt.zero x2)
              have hb : Below x2.heap.size x2 (x2.alloc (.cells #[.slice none 0 0] 26)) := (Below.refl _ _).alloc (Nat.le_refl _) _
              have hlo8 : hs ≤ x2.heap.size := hX.out.le
              (try have hne := Nat.ne_of_lt b7.out.lt)
              obtain ⟨x3, hx3⟩ : ∃ W, x2.alloc (.cells #[.slice none 0 0] 26) = W := ⟨_, rfl⟩
              rw [hx3] at b8x hb ⊢
              (try replace nj := Lib.hid (nj.out.below hb))
              (try replace nk := Lib.hid (nk.out.below hb))
              (try replace nl := Lib.hid (nl.out.below hb))
              (try replace b7 := Lib.hid (b7.out.below hb))
              (try replace mn := Lib.hid (mn.out.below hb))
              (try replace hX := Lib.hid (hX.out.below hb))
              clear hb
              obtain ⟨g8, hg8⟩ : ∃ g, x2.heap.size = g := ⟨_, rfl⟩
              rw [hg8] at b8x hlo8 ⊢
              (try rw [hg8] at hne)
              have b8 := Lib.hid b8x
              clear b8x hx3 hg8
              refine Rt.ord_nil ?_
              refine Rt.tree_op ?_
              refine ord_call rfl rfl rfl (by go_simp; exact ⟨rfl, rfl⟩) ?_
              refine (Div_N nj.out mn.out (by decide) (Nat.le_trans hM.out (by decide))).mono ?_
              rintro e x4 ⟨vk, vl, rfl, nk, nl, hb⟩
              obtain ⟨vka, vkl, vkc, rfl⟩ := nk.shape
              obtain ⟨vla, vll, vlc, rfl⟩ := nl.shape
              refine ⟨_, rfl, hb, ?_⟩
              rw [hdE.out]
              rw [hone.out] at nl
              replace nk := Lib.hid nk
              replace nl := Lib.hid nl
              (try replace nj := Lib.hid (nj.out.below hb))
              (try replace b7 := Lib.hid (b7.out.below hb))
              (try replace b8 := Lib.hid (b8.out.below hb))
              (try replace mn := Lib.hid (mn.out.below hb))
              (try replace hX := Lib.hid (hX.out.below hb))
              clear hb
              simp only [Act.put, Act.eval, List.setIfInBounds_toArray, List.set_cons_zero, List.set_cons_succ, Array.getD_eq_getD_getElem?, List.getElem?_toArray, List.getElem?_cons_zero, List.getElem?_cons_succ, Option.getD_some, List.getElem_toArray, List.getElem_cons_succ, List.getElem_cons_zero]
              refine Rt.ord_nil ?_
              refine Rt.tree_op ?_
              apply ord_move rfl rfl rfl rfl; (· (simp only [Act.put, Act.eval, List.setIfInBounds_toArray, List.set_cons_zero, List.set_cons_succ, Array.getD_eq_getD_getElem?, List.getElem?_toArray, List.getElem?_cons_zero, List.getElem?_cons_succ, Option.getD_some, List.getElem_toArray, List.getElem_cons_succ, List.getElem_cons_zero]; with_reducible rfl))
              refine Rt.ord_nil ?_
              refine Rt.tree_op ?_
              apply ord_pure rfl rfl rfl; (· (intro w; go_simp; with_reducible rfl)); (· (simp only [Act.put, Act.eval, List.setIfInBounds_toArray, List.set_cons_zero, List.set_cons_succ, Array.getD_eq_getD_getElem?, List.getElem?_toArray, List.getElem?_cons_zero, List.getElem?_cons_succ, Option.getD_some, List.getElem_toArray, List.getElem_cons_succ, List.getElem_cons_zero]; with_reducible rfl))
              refine Rt.ord_nil ?_
              refine Rt.tree_op ?_
              apply ord_pure rfl rfl rfl; (· (intro w; go_simp; with_reducible rfl)); (· (simp only [Act.put, Act.eval, List.setIfInBounds_toArray, List.set_cons_zero, List.set_cons_succ, Array.getD_eq_getD_getElem?, List.getElem?_toArray, List.getElem?_cons_zero, List.getElem?_cons_succ, Option.getD_some, List.getElem_toArray, List.getElem_cons_succ, List.getElem_cons_zero]; with_reducible rfl))
              refine Rt.ord_nil ?_
              refine Rt.tree_op ?_
              apply ord_pure rfl rfl rfl; (· (intro w; go_simp; with_reducible rfl)); (· (simp only [Act.put, Act.eval, List.setIfInBounds_toArray, List.set_cons_zero, List.set_cons_succ, Array.getD_eq_getD_getElem?, List.getElem?_toArray, List.getElem?_cons_zero, List.getElem?_cons_succ, Option.getD_some, List.getElem_toArray, List.getElem_cons_succ, List.getElem_cons_zero]; with_reducible rfl))
              refine Rt.ord_nil ?_
              refine Rt.tree_op ?_
              obtain ⟨qa, ql, qc, qb, qn⟩ := b7.out
              have cc := qb.cell
              have ff := qb.frozen
              clear qb qn
              apply ord_do rfl rfl rfl; (· (go_simp; with_reducible rfl)); (· (simp only [Act.put, Act.eval, List.setIfInBounds_toArray, List.set_cons_zero, List.set_cons_succ, Array.getD_eq_getD_getElem?, List.getElem?_toArray, List.getElem?_cons_zero, List.getElem?_cons_succ, Option.getD_some, List.getElem_toArray, List.getElem_cons_succ, List.getElem_cons_zero]; with_reducible rfl))
              clear cc ff
              have b7' := Lib.hid (b7.out.put nk.out)
              have b8' := Lib.hid (b8.out.other b7.out (by first | exact hne | exact hne.symm) (.slice vka vkl vkc))
              have nl' := Lib.hid (nl.out.otherV b7.out (.slice vka vkl vkc))
              have hX' := Lib.hid (hX.out.put hlo7 b7.out (.slice vka vkl vkc))
              clear b7 b8 hX nl nk
              obtain ⟨x5, hx5⟩ : ∃ W, x4.setCell ⟨g7, 0, none⟩ (.slice vka vkl vkc) = W := ⟨_, rfl⟩
              rw [hx5] at b7' b8' hX' nl' ⊢
              have b7 := b7'
              have b8 := b8'
              have hX := hX'
              have nl := nl'
              clear b7' b8' hX' hx5 nl'
              refine Rt.ord_nil ?_
              refine Rt.tree_op ?_
              obtain ⟨qa, ql, qc, qb, qn⟩ := b8.out
              have cc := qb.cell
              have ff := qb.frozen
              clear qb qn
              apply ord_do rfl rfl rfl; (· (go_simp; with_reducible rfl)); (· (simp only [Act.put, Act.eval, List.setIfInBounds_toArray, List.set_cons_zero, List.set_cons_succ, Array.getD_eq_getD_getElem?, List.getElem?_toArray, List.getElem?_cons_zero, List.getElem?_cons_succ, Option.getD_some, List.getElem_toArray, List.getElem_cons_succ, List.getElem_cons_zero]; with_reducible rfl))
              clear cc ff
              have b8' := Lib.hid (b8.out.put nl.out)
              have b7' := Lib.hid (b7.out.other b8.out (by first | exact hne | exact hne.symm) (.slice vla vll vlc))
              have hX' := Lib.hid (hX.out.put hlo8 b8.out (.slice vla vll vlc))
              clear b7 b8 hX
              obtain ⟨x6, hx6⟩ : ∃ W, x5.setCell ⟨g8, 0, none⟩ (.slice vla vll vlc) = W := ⟨_, rfl⟩
              rw [hx6] at b7' b8' hX'  ⊢
              have b7 := b7'
              have b8 := b8'
              have hX := hX'
              clear b7' b8' hX' hx6 
              refine Rt.ord_nil ?_
              refine Rt.tree_op ?_
              apply ord_pure rfl rfl rfl; (· (intro w; go_simp; with_reducible rfl)); (· (simp only [Act.put, Act.eval, List.setIfInBounds_toArray, List.set_cons_zero, List.set_cons_succ, Array.getD_eq_getD_getElem?, List.getElem?_toArray, List.getElem?_cons_zero, List.getElem?_cons_succ, Option.getD_some, List.getElem_toArray, List.getElem_cons_succ, List.getElem_cons_zero]; with_reducible rfl))
              refine Rt.ord_nil ?_
              refine Rt.tree_fin ?_
              go_wp2_with fail
              go_meet
              case rel => exact ⟨g7, g8, rfl, rfl, rfl, hX, b8⟩
          · apply ord_new rfl rfl rfl; (· (go_simp; exact ⟨rfl, rfl⟩)); (· (exact (Below.refl _ _).alloc (Nat.le_refl _) _)); (· (simp only [Act.put, Act.eval, List.setIfInBounds_toArray, List.set_cons_zero, List.set_cons_succ, Array.getD_eq_getD_getElem?, List.getElem?_toArray, List.getElem?_cons_zero, List.getElem?_cons_succ, Option.getD_some, List.getElem_toArray, List.getElem_cons_succ, List.getElem_cons_zero]; with_reducible rfl))
            have b8x := Var.made (NumAt.zero x1)
            have hb : Below x1.heap.size x1 (x1.alloc (.cells #[.slice none 0 0] 26)) := (Below.refl _ _).alloc (Nat.le_refl _) _
            have hlo8 : hs ≤ x1.heap.size := hX.out.le
            (try have hne := Nat.ne_of_lt b7.out.lt)
            obtain ⟨x2, hx2⟩ : ∃ W, x1.alloc (.cells #[.slice none 0 0] 26) = W := ⟨_, rfl⟩
            rw [hx2] at b8x hb ⊢
            (try replace nj := Lib.hid (nj.out.below hb))
            (try replace nk := Lib.hid (nk.out.below hb))
            (try replace nl := Lib.hid (nl.out.below hb))
            (try replace b7 := Lib.hid (b7.out.below hb))
            (try replace mn := Lib.hid (mn.out.below hb))
            (try replace hX := Lib.hid (hX.out.below hb))
            clear hb
            obtain ⟨g8, hg8⟩ : ∃ g, x1.heap.size = g := ⟨_, rfl⟩
            rw [hg8] at b8x hlo8 ⊢
            (try rw [hg8] at hne)
            have b8 := Lib.hid b8x
            clear b8x hx2 hg8
            refine Rt.ord_nil ?_
            refine Rt.tree_two ?_ ?_
            · refine ord_call rfl rfl rfl (by go_simp; exact ⟨rfl, rfl⟩) ?_
              refine (Div_N nj.out mn.out (by decide) (Nat.le_trans hM.out (by decide))).mono ?_
              rintro e x3 ⟨vk, vl, rfl, nk, nl, hb⟩
              obtain ⟨vka, vkl, vkc, rfl⟩ := nk.shape
              obtain ⟨vla, vll, vlc, rfl⟩ := nl.shape
              refine ⟨_, rfl, hb, ?_⟩
              rw [hdE.out]
              rw [hone.out] at nl
              replace nk := Lib.hid nk
              replace nl := Lib.hid nl
              (try replace nj := Lib.hid (nj.out.below hb))
              (try replace b7 := Lib.hid (b7.out.below hb))
              (try replace b8 := Lib.hid (b8.out.below hb))
              (try replace mn := Lib.hid (mn.out.below hb))
              (try replace hX := Lib.hid (hX.out.below hb))
              clear hb
              simp only [Act.put, Act.eval, List.setIfInBounds_toArray, List.set_cons_zero, List.set_cons_succ, Array.getD_eq_getD_getElem?, List.getElem?_toArray, List.getElem?_cons_zero, List.getElem?_cons_succ, Option.getD_some, List.getElem_toArray, List.getElem_cons_succ, List.getElem_cons_zero]
              refine Rt.ord_nil ?_
              refine Rt.tree_op ?_
              apply ord_move rfl rfl rfl rfl; (· (simp only [Act.put, Act.eval, List.setIfInBounds_toArray, List.set_cons_zero, List.set_cons_succ, Array.getD_eq_getD_getElem?, List.getElem?_toArray, List.getElem?_cons_zero, List.getElem?_cons_succ, Option.getD_some, List.getElem_toArray, List.getElem_cons_succ, List.getElem_cons_zero]; with_reducible rfl))
              refine Rt.ord_nil ?_
              refine Rt.tree_op ?_
              apply ord_pure rfl rfl rfl; (· (intro w; go_simp; with_reducible rfl)); (· (simp only [Act.put, Act.eval, List.setIfInBounds_toArray, List.set_cons_zero, List.set_cons_succ, Array.getD_eq_getD_getElem?, List.getElem?_toArray, List.getElem?_cons_zero, List.getElem?_cons_succ, Option.getD_some, List.getElem_toArray, List.getElem_cons_succ, List.getElem_cons_zero]; with_reducible rfl))
              refine Rt.ord_nil ?_
              refine Rt.tree_op ?_
              apply ord_pure rfl rfl rfl; (· (intro w; go_simp; with_reducible rfl)); (· (simp only [Act.put, Act.eval, List.setIfInBounds_toArray, List.set_cons_zero, List.set_cons_succ, Array.getD_eq_getD_getElem?, List.getElem?_toArray, List.getElem?_cons_zero, List.getElem?_cons_succ, Option.getD_some, List.getElem_toArray, List.getElem_cons_succ, List.getElem_cons_zero]; with_reducible rfl))
              refine Rt.ord_nil ?_
              refine Rt.tree_op ?_
              apply ord_pure rfl rfl rfl; (· (intro w; go_simp; with_reducible rfl)); (· (simp only [Act.put, Act.eval, List.setIfInBounds_toArray, List.set_cons_zero, List.set_cons_succ, Array.getD_eq_getD_getElem?, List.getElem?_toArray, List.getElem?_cons_zero, List.getElem?_cons_succ, Option.getD_some, List.getElem_toArray, List.getElem_cons_succ, List.getElem_cons_zero]; with_reducible rfl))
              refine Rt.ord_nil ?_
              refine Rt.tree_op ?_
              apply ord_new rfl rfl rfl; (· (go_simp; exact ⟨rfl, rfl⟩)); (· (exact (Below.refl _ _).alloc (Nat.le_refl _) _)); (· (simp only [Act.put, Act.eval, List.setIfInBounds_toArray, List.set_cons_zero, List.set_cons_succ, Array.getD_eq_getD_getElem?, List.getElem?_toArray, List.getElem?_cons_zero, List.getElem?_cons_succ, Option.getD_some, List.getElem_toArray, List.getElem_cons_succ, List.getElem_cons_zero]; with_reducible rfl))
              have b7x := Var.made (NumAt.zero x3)
              have hb : Below x3.heap.size x3 (x3.alloc (.cells #[.slice none 0 0] 26)) := (Below.refl _ _).alloc (Nat.le_refl _) _
              have hlo7 : hs ≤ x3.heap.size := hX.out.le
              (try have hne := Nat.ne_of_lt b8.out.lt)
              obtain ⟨x4, hx4⟩ : ∃ W, x3.alloc (.cells #[.slice none 0 0] 26) = W := ⟨_, rfl⟩
              rw [hx4] at b7x hb ⊢
              (try replace nj := Lib.hid (nj.out.below hb))
              (try replace nk := Lib.hid (nk.out.below hb))
              (try replace nl := Lib.hid (nl.out.below hb))
              (try replace b8 := Lib.hid (b8.out.below hb))
              (try replace mn := Lib.hid (mn.out.below hb))
              (try replace hX := Lib.hid (hX.out.below hb))
              clear hb
              obtain ⟨g7, hg7⟩ : ∃ g, x3.heap.size = g := ⟨_, rfl⟩
              rw [hg7] at b7x hlo7 ⊢
              (try rw [hg7] at hne)
              have b7 := Lib.hid b7x
              clear b7x hx4 hg7
              refine Rt.ord_nil ?_
              refine Rt.tree_op ?_
              obtain ⟨qa, ql, qc, qb, qn⟩ := b7.out
              have cc := qb.cell
              have ff := qb.frozen
              clear qb qn
              apply ord_do rfl rfl rfl; (· (go_simp; with_reducible rfl)); (· (simp only [Act.put, Act.eval, List.setIfInBounds_toArray, List.set_cons_zero, List.set_cons_succ, Array.getD_eq_getD_getElem?, List.getElem?_toArray, List.getElem?_cons_zero, List.getElem?_cons_succ, Option.getD_some, List.getElem_toArray, List.getElem_cons_succ, List.getElem_cons_zero]; with_reducible rfl))
              clear cc ff
              have b7' := Lib.hid (b7.out.put nk.out)
              have b8' := Lib.hid (b8.out.other b7.out (by first | exact hne | exact hne.symm) (.slice vka vkl vkc))
              have nl' := Lib.hid (nl.out.otherV b7.out (.slice vka vkl vkc))
              have hX' := Lib.hid (hX.out.put hlo7 b7.out (.slice vka vkl vkc))
              clear b7 b8 hX nl nk
              obtain ⟨x5, hx5⟩ : ∃ W, x4.setCell ⟨g7, 0, none⟩ (.slice vka vkl vkc) = W := ⟨_, rfl⟩
              rw [hx5] at b7' b8' hX' nl' ⊢
              have b7 := b7'
              have b8 := b8'
              have hX := hX'
              have nl := nl'
              clear b7' b8' hX' hx5 nl'
              refine Rt.ord_nil ?_
              refine Rt.tree_op ?_
              obtain ⟨qa, ql, qc, qb, qn⟩ := b8.out
              have cc := qb.cell
              have ff := qb.frozen
              clear qb qn
              apply ord_do rfl rfl rfl; (· (go_simp; with_reducible rfl)); (· (simp only [Act.put, Act.eval, List.setIfInBounds_toArray, List.set_cons_zero, List.set_cons_succ, Array.getD_eq_getD_getElem?, List.getElem?_toArray, List.getElem?_cons_zero, List.getElem?_cons_succ, Option.getD_some, List.getElem_toArray, List.getElem_cons_succ, List.getElem_cons_zero]; with_reducible rfl))
              clear cc ff
              have b8' := Lib.hid (b8.out.put nl.out)
              have b7' := Lib.hid (b7.out.other b8.out (by first | exact hne | exact hne.symm) (.slice vla vll vlc))
              have hX' := Lib.hid (hX.out.put hlo8 b8.out (.slice vla vll vlc))
              clear b7 b8 hX
              obtain ⟨x6, hx6⟩ : ∃ W, x5.setCell ⟨g8, 0, none⟩ (.slice vla vll vlc) = W := ⟨_, rfl⟩
              rw [hx6] at b7' b8' hX'  ⊢
              have b7 := b7'
              have b8 := b8'
              have hX := hX'
              clear b7' b8' hX' hx6 
              refine Rt.ord_nil ?_
              refine Rt.tree_op ?_
              apply ord_pure rfl rfl rfl; (· (intro w; go_simp; with_reducible rfl)); (· (simp only [Act.put, Act.eval, List.setIfInBounds_toArray, List.set_cons_zero, List.set_cons_succ, Array.getD_eq_getD_getElem?, List.getElem?_toArray, List.getElem?_cons_zero, List.getElem?_cons_succ, Option.getD_some, List.getElem_toArray, List.getElem_cons_succ, List.getElem_cons_zero]; with_reducible rfl))
              refine Rt.ord_nil ?_
              refine Rt.tree_fin ?_
              go_wp2_with fail
              go_meet
              case rel => exact ⟨g7, g8, rfl, rfl, rfl, hX, b8⟩
            · apply ord_new rfl rfl rfl; (· (go_simp; exact ⟨rfl, rfl⟩)); (· (exact (Below.refl _ _).alloc (Nat.le_refl _) _)); (· (simp only [Act.put, Act.eval, List.setIfInBounds_toArray, List.set_cons_zero, List.set_cons_succ, Array.getD_eq_getD_getElem?, List.getElem?_toArray, List.getElem?_cons_zero, List.getElem?_cons_succ, Option.getD_some, List.getElem_toArray, List.getElem_cons_succ, List.getElem_cons_zero]; with_reducible rfl))
              have b7x := Var.made (NumAt.zero x2)
              have hb : Below x2.heap.size x2 (x2.alloc (.cells #[.slice none 0 0] 26)) := (Below.refl _ _).alloc (Nat.le_refl _) _
              have hlo7 : hs ≤ x2.heap.size := hX.out.le
              (try have hne := Nat.ne_of_lt b8.out.lt)
              obtain ⟨x3, hx3⟩ : ∃ W, x2.alloc (.cells #[.slice none 0 0] 26) = W := ⟨_, rfl⟩
              rw [hx3] at b7x hb ⊢
              (try replace nj := Lib.hid (nj.out.below hb))
              (try replace nk := Lib.hid (nk.out.below hb))
              (try replace nl := Lib.hid (nl.out.below hb))
              (try replace b8 := Lib.hid (b8.out.below hb))
              (try replace mn := Lib.hid (mn.out.below hb))
              (try replace hX := Lib.hid (hX.out.below hb))
              clear hb
              obtain ⟨g7, hg7⟩ : ∃ g, x2.heap.size = g := ⟨_, rfl⟩
              rw [hg7] at b7x hlo7 ⊢
              (try rw [hg7] at hne)
              have b7 := Lib.hid b7x
              clear b7x hx3 hg7
              refine Rt.ord_nil ?_
              refine Rt.tree_op ?_
              refine ord_call rfl rfl rfl (by go_simp; exact ⟨rfl, rfl⟩) ?_
              refine (Div_N nj.out mn.out (by decide) (Nat.le_trans hM.out (by decide))).mono ?_
              rintro e x4 ⟨vk, vl, rfl, nk, nl, hb⟩
              obtain ⟨vka, vkl, vkc, rfl⟩ := nk.shape
              obtain ⟨vla, vll, vlc, rfl⟩ := nl.shape
              refine ⟨_, rfl, hb, ?_⟩
              rw [hdE.out]
              rw [hone.out] at nl
              replace nk := Lib.hid nk
              replace nl := Lib.hid nl
              (try replace nj := Lib.hid (nj.out.below hb))
              (try replace b7 := Lib.hid (b7.out.below hb))
              (try replace b8 := Lib.hid (b8.out.below hb))
              (try replace mn := Lib.hid (mn.out.below hb))
              (try replace hX := Lib.hid (hX.out.below hb))
              clear hb
              simp only [Act.put, Act.eval, List.setIfInBounds_toArray, List.set_cons_zero, List.set_cons_succ, Array.getD_eq_getD_getElem?, List.getElem?_toArray, List.getElem?_cons_zero, List.getElem?_cons_succ, Option.getD_some, List.getElem_toArray, List.getElem_cons_succ, List.getElem_cons_zero]
              refine Rt.ord_nil ?_
              refine Rt.tree_op ?_
              apply ord_move rfl rfl rfl rfl; (· (simp only [Act.put, Act.eval, List.setIfInBounds_toArray, List.set_cons_zero, List.set_cons_succ, Array.getD_eq_getD_getElem?, List.getElem?_toArray, List.getElem?_cons_zero, List.getElem?_cons_succ, Option.getD_some, List.getElem_toArray, List.getElem_cons_succ, List.getElem_cons_zero]; with_reducible rfl))
              refine Rt.ord_nil ?_
              refine Rt.tree_op ?_
              apply ord_pure rfl rfl rfl; (· (intro w; go_simp; with_reducible rfl)); (· (simp only [Act.put, Act.eval, List.setIfInBounds_toArray, List.set_cons_zero, List.set_cons_succ, Array.getD_eq_getD_getElem?, List.getElem?_toArray, List.getElem?_cons_zero, List.getElem?_cons_succ, Option.getD_some, List.getElem_toArray, List.getElem_cons_succ, List.getElem_cons_zero]; with_reducible rfl))
              refine Rt.ord_nil ?_
              refine Rt.tree_op ?_
              apply ord_pure rfl rfl rfl; (· (intro w; go_simp; with_reducible rfl)); (· (simp only [Act.put, Act.eval, List.setIfInBounds_toArray, List.set_cons_zero, List.set_cons_succ, Array.getD_eq_getD_getElem?, List.getElem?_toArray, List.getElem?_cons_zero, List.getElem?_cons_succ, Option.getD_some, List.getElem_toArray, List.getElem_cons_succ, List.getElem_cons_zero]; with_reducible rfl))
              refine Rt.ord_nil ?_
              refine Rt.tree_op ?_
              apply ord_pure rfl rfl rfl; (· (intro w; go_simp; with_reducible rfl)); (· (simp only [Act.put, Act.eval, List.setIfInBounds_toArray, List.set_cons_zero, List.set_cons_succ, Array.getD_eq_getD_getElem?, List.getElem?_toArray, List.getElem?_cons_zero, List.getElem?_cons_succ, Option.getD_some, List.getElem_toArray, List.getElem_cons_succ, List.getElem_cons_zero]; with_reducible rfl))
              refine Rt.ord_nil ?_
              refine Rt.tree_op ?_
              obtain ⟨qa, ql, qc, qb, qn⟩ := b7.out
              have cc := qb.cell
              have ff := qb.frozen
              clear qb qn
              apply ord_do rfl rfl rfl; (· (go_simp; with_reducible rfl)); (· (simp only [Act.put, Act.eval, List.setIfInBounds_toArray, List.set_cons_zero, List.set_cons_succ, Array.getD_eq_getD_getElem?, List.getElem?_toArray, List.getElem?_cons_zero, List.getElem?_cons_succ, Option.getD_some, List.getElem_toArray, List.getElem_cons_succ, List.getElem_cons_zero]; with_reducible rfl))
              clear cc ff
              have b7' := Lib.hid (b7.out.put nk.out)
              have b8' := Lib.hid (b8.out.other b7.out (by first | exact hne | exact hne.symm) (.slice vka vkl vkc))
              have nl' := Lib.hid (nl.out.otherV b7.out (.slice vka vkl vkc))
              have hX' := Lib.hid (hX.out.put hlo7 b7.out (.slice vka vkl vkc))
              clear b7 b8 hX nl nk
              obtain ⟨x5, hx5⟩ : ∃ W, x4.setCell ⟨g7, 0, none⟩ (.slice vka vkl vkc) = W := ⟨_, rfl⟩
              rw [hx5] at b7' b8' hX' nl' ⊢
              have b7 := b7'
              have b8 := b8'
              have hX := hX'
              have nl := nl'
              clear b7' b8' hX' hx5 nl'
              refine Rt.ord_nil ?_
              refine Rt.tree_op ?_
              obtain ⟨qa, ql, qc, qb, qn⟩ := b8.out
              have cc := qb.cell
              have ff := qb.frozen
              clear qb qn
              apply ord_do rfl rfl rfl; (· (go_simp; with_reducible rfl)); (· (simp only [Act.put, Act.eval, List.setIfInBounds_toArray, List.set_cons_zero, List.set_cons_succ, Array.getD_eq_getD_getElem?, List.getElem?_toArray, List.getElem?_cons_zero, List.getElem?_cons_succ, Option.getD_some, List.getElem_toArray, List.getElem_cons_succ, List.getElem_cons_zero]; with_reducible rfl))
              clear cc ff
              have b8' := Lib.hid (b8.out.put nl.out)
              have b7' := Lib.hid (b7.out.other b8.out (by first | exact hne | exact hne.symm) (.slice vla vll vlc))
              have hX' := Lib.hid (hX.out.put hlo8 b8.out (.slice vla vll vlc))
              clear b7 b8 hX
              obtain ⟨x6, hx6⟩ : ∃ W, x5.setCell ⟨g8, 0, none⟩ (.slice vla vll vlc) = W := ⟨_, rfl⟩
              rw [hx6] at b7' b8' hX'  ⊢
              have b7 := b7'
              have b8 := b8'
              have hX := hX'
              clear b7' b8' hX' hx6 
              refine Rt.ord_nil ?_
              refine Rt.tree_op ?_
              apply ord_pure rfl rfl rfl; (· (intro w; go_simp; with_reducible rfl)); (· (simp only [Act.put, Act.eval, List.setIfInBounds_toArray, List.set_cons_zero, List.set_cons_succ, Array.getD_eq_getD_getElem?, List.getElem?_toArray, List.getElem?_cons_zero, List.getElem?_cons_succ, Option.getD_some, List.getElem_toArray, List.getElem_cons_succ, List.getElem_cons_zero]; with_reducible rfl))
              refine Rt.ord_nil ?_
              refine Rt.tree_fin ?_
              go_wp2_with fail
              go_meet
              case rel => exact ⟨g7, g8, rfl, rfl, rfl, hX, b8⟩
        · apply ord_new rfl rfl rfl; (· (go_simp; exact ⟨rfl, rfl⟩)); (· (exact (Below.refl _ _).alloc (Nat.le_refl _) _)); (· (simp only [Act.put, Act.eval, List.setIfInBounds_toArray, List.set_cons_zero, List.set_cons_succ, Array.getD_eq_getD_getElem?, List.getElem?_toArray, List.getElem?_cons_zero, List.getElem?_cons_succ, Option.getD_some, List.getElem_toArray, List.getElem_cons_succ, List.getElem_cons_zero]; with_reducible rfl))
          have b7x := Var.made (NumAt.zero x0)
          have hb : Below x0.heap.size x0 (x0.alloc (.cells #[.slice none 0 0] 26)) := (Below.refl _ _).alloc (Nat.le_refl _) _
          have hlo7 : hs ≤ x0.heap.size := hX.out.le
          (try have hne := Nat.ne_of_lt b8.out.lt)
          obtain ⟨x1, hx1⟩ : ∃ W, x0.alloc (.cells #[.slice none 0 0] 26) = W := ⟨_, rfl⟩
          rw [hx1] at b7x hb ⊢
          (try replace nj := Lib.hid (nj.out.below hb))
          (try replace nk := Lib.hid (nk.out.below hb))
          (try replace nl := Lib.hid (nl.out.below hb))
          (try replace b8 := Lib.hid (b8.out.below hb))
          (try replace mn := Lib.hid (mn.out.below hb))
          (try replace hX := Lib.hid (hX.out.below hb))
          clear hb
          obtain ⟨g7, hg7⟩ : ∃ g, x0.heap.size = g := ⟨_, rfl⟩
          rw [hg7] at b7x hlo7 ⊢
          (try rw [hg7] at hne)
          have b7 := Lib.hid b7x
          clear b7x hx1 hg7
          refine Rt.ord_nil ?_
          refine Rt.tree_two ?_ ?_
          · refine ord_call rfl rfl rfl (by go_simp; exact ⟨rfl, rfl⟩) ?_
            refine (Small_lit _ 1 1 rfl (by decide)).mono ?_
            rintro e x2 ⟨vj, rfl, nj, hb⟩
            obtain ⟨vja, vjl, vjc, rfl⟩ := nj.shape
            refine ⟨_, rfl, hb, ?_⟩
            replace nj := Lib.hid nj
            (try replace nk := Lib.hid (nk.out.below hb))
            (try replace nl := Lib.hid (nl.out.below hb))
            (try replace b7 := Lib.hid (b7.out.below hb))
            (try replace b8 := Lib.hid (b8.out.below hb))
            (try replace mn := Lib.hid (mn.out.below hb))
            (try replace hX := Lib.hid (hX.out.below hb))
            clear hb
            simp only [Act.put, Act.eval, List.setIfInBounds_toArray, List.set_cons_zero, List.set_cons_succ, Array.getD_eq_getD_getElem?, List.getElem?_toArray, List.getElem?_cons_zero, List.getElem?_cons_succ, Option.getD_some, List.getElem_toArray, List.getElem_cons_succ, List.getElem_cons_zero]
            refine Rt.ord_nil ?_
            refine Rt.tree_two ?_ ?_
            · refine ord_call rfl rfl rfl (by go_simp; exact ⟨rfl, rfl⟩) ?_
              refine (Div_N nj.out mn.out (by decide) (Nat.le_trans hM.out (by decide))).mono ?_
              rintro e x3 ⟨vk, vl, rfl, nk, nl, hb⟩
              obtain ⟨vka, vkl, vkc, rfl⟩ := nk.shape
              obtain ⟨vla, vll, vlc, rfl⟩ := nl.shape
              refine ⟨_, rfl, hb, ?_⟩
              rw [hdE.out]
              rw [hone.out] at nl
              replace nk := Lib.hid nk
              replace nl := Lib.hid nl
              (try replace nj := Lib.hid (nj.out.below hb))
              (try replace b7 := Lib.hid (b7.out.below hb))
              (try replace b8 := Lib.hid (b8.out.below hb))
              (try replace mn := Lib.hid (mn.out.below hb))
              (try replace hX := Lib.hid (hX.out.below hb))
              clear hb
              simp only [Act.put, Act.eval, List.setIfInBounds_toArray, List.set_cons_zero, List.set_cons_succ, Array.getD_eq_getD_getElem?, List.getElem?_toArray, List.getElem?_cons_zero, List.getElem?_cons_succ, Option.getD_some, List.getElem_toArray, List.getElem_cons_succ, List.getElem_cons_zero]
              refine Rt.ord_nil ?_
              refine Rt.tree_op ?_
              apply ord_move rfl rfl rfl rfl; (· (simp only [Act.put, Act.eval, List.setIfInBounds_toArray, List.set_cons_zero, List.set_cons_succ, Array.getD_eq_getD_getElem?, List.getElem?_toArray, List.getElem?_cons_zero, List.getElem?_cons_succ, Option.getD_some, List.getElem_toArray, List.getElem_cons_succ, List.getElem_cons_zero]; with_reducible rfl))
              refine Rt.ord_nil ?_
              refine Rt.tree_op ?_
              apply ord_pure rfl rfl rfl; (· (intro w; go_simp; with_reducible rfl)); (· (simp only [Act.put, Act.eval, List.setIfInBounds_toArray, List.set_cons_zero, List.set_cons_succ, Array.getD_eq_getD_getElem?, List.getElem?_toArray, List.getElem?_cons_zero, List.getElem?_cons_succ, Option.getD_some, List.getElem_toArray, List.getElem_cons_succ, List.getElem_cons_zero]; with_reducible rfl))
              refine Rt.ord_nil ?_
              refine Rt.tree_op ?_
              apply ord_pure rfl rfl rfl; (· (intro w; go_simp; with_reducible rfl)); (· (simp only [Act.put, Act.eval, List.setIfInBounds_toArray, List.set_cons_zero, List.set_cons_succ, Array.getD_eq_getD_getElem?, List.getElem?_toArray, List.getElem?_cons_zero, List.getElem?_cons_succ, Option.getD_some, List.getElem_toArray, List.getElem_cons_succ, List.getElem_cons_zero]; with_reducible rfl))
              refine Rt.ord_nil ?_
              refine Rt.tree_op ?_
              apply ord_pure rfl rfl rfl; (· (intro w; go_simp; with_reducible rfl)); (· (simp only [Act.put, Act.eval, List.setIfInBounds_toArray, List.set_cons_zero, List.set_cons_succ, Array.getD_eq_getD_getElem?, List.getElem?_toArray, List.getElem?_cons_zero, List.getElem?_cons_succ, Option.getD_some, List.getElem_toArray, List.getElem_cons_succ, List.getElem_cons_zero]; with_reducible rfl))
              refine Rt.ord_nil ?_
              refine Rt.tree_op ?_
              apply ord_new rfl rfl rfl; (· (go_simp; exact ⟨rfl, rfl⟩)); (· (exact (Below.refl _ _).alloc (Nat.le_refl _) _)); (· (simp only [Act.put, Act.eval, List.setIfInBounds_toArray, List.set_cons_zero, List.set_cons_succ, Array.getD_eq_getD_getElem?, List.getElem?_toArray, List.getElem?_cons_zero, List.getElem?_cons_succ, Option.getD_some, List.getElem_toArray, List.getElem_cons_succ, List.getElem_cons_zero]; with_reducible rfl))
              have b8x := Var.made (NumAt.zero x3)
              have hb : Below x3.heap.size x3 (x3.alloc (.cells #[.slice none 0 0] 26)) := (Below.refl _ _).alloc (Nat.le_refl _) _
              have hlo8 : hs ≤ x3.heap.size := hX.out.le
              (try have hne := Nat.ne_of_lt b7.out.lt)
              obtain ⟨x4, hx4⟩ : ∃ W, x3.alloc (.cells #[.slice none 0 0] 26) = W := ⟨_, rfl⟩
              rw [hx4] at b8x hb ⊢
              (try replace nj := Lib.hid (nj.out.below hb))
              (try replace nk := Lib.hid (nk.out.below hb))
              (try replace nl := Lib.hid (nl.out.below hb))
              (try replace b7 := Lib.hid (b7.out.below hb))
              (try replace mn := Lib.hid (mn.out.below hb))
              (try replace hX := Lib.hid (hX.out.below hb))
              clear hb
              obtain ⟨g8, hg8⟩ : ∃ g, x3.heap.size = g := ⟨_, rfl⟩
              rw [hg8] at b8x hlo8 ⊢
              (try rw [hg8] at hne)
              have b8 := Lib.hid b8x
              clear b8x hx4 hg8
              refine Rt.ord_nil ?_
              refine Rt.tree_op ?_
              obtain ⟨qa, ql, qc, qb, qn⟩ := b7.out
              have cc := qb.cell
              have ff := qb.frozen
              clear qb qn
              apply ord_do rfl rfl rfl; (· (go_simp; with_reducible rfl)); (· (simp only [Act.put, Act.eval, List.setIfInBounds_toArray, List.set_cons_zero, List.set_cons_succ, Array.getD_eq_getD_getElem?, List.getElem?_toArray, List.getElem?_cons_zero, List.getElem?_cons_succ, Option.getD_some, List.getElem_toArray, List.getElem_cons_succ, List.getElem_cons_zero]; with_reducible rfl))
              clear cc ff
              have b7' := Lib.hid (b7.out.put nk.out)
              have b8' := Lib.hid (b8.out.other b7.out (by first | exact hne | exact hne.symm) (.slice vka vkl vkc))
              have nl' := Lib.hid (nl.out.otherV b7.out (.slice vka vkl vkc))
              have hX' := Lib.hid (hX.out.put hlo7 b7.out (.slice vka vkl vkc))
              clear b7 b8 hX nl nk
              obtain ⟨x5, hx5⟩ : ∃ W, x4.setCell ⟨g7, 0, none⟩ (.slice vka vkl vkc) = W := ⟨_, rfl⟩
              rw [hx5] at b7' b8' hX' nl' ⊢
              have b7 := b7'
              have b8 := b8'
              have hX := hX'
              have nl := nl'
              clear b7' b8' hX' hx5 nl'
              refine Rt.ord_nil ?_
              refine Rt.tree_op ?_
              obtain ⟨qa, ql, qc, qb, qn⟩ := b8.out
              have cc := qb.cell
              have ff := qb.frozen
              clear qb qn
              apply ord_do rfl rfl rfl; (· (go_simp; with_reducible rfl)); (· (simp only [Act.put, Act.eval, List.setIfInBounds_toArray, List.set_cons_zero, List.set_cons_succ, Array.getD_eq_getD_getElem?, List.getElem?_toArray, List.getElem?_cons_zero, List.getElem?_cons_succ, Option.getD_some, List.getElem_toArray, List.getElem_cons_succ, List.getElem_cons_zero]; with_reducible rfl))
              clear cc ff
              have b8' := Lib.hid (b8.out.put nl.out)
              have b7' := Lib.hid (b7.out.other b8.out (by first | exact hne | exact hne.symm) (.slice vla vll vlc))
              have hX' := Lib.hid (hX.out.put hlo8 b8.out (.slice vla vll vlc))
              clear b7 b8 hX
              obtain ⟨x6, hx6⟩ : ∃ W, x5.setCell ⟨g8, 0, none⟩ (.slice vla vll vlc) = W := ⟨_, rfl⟩
              rw [hx6] at b7' b8' hX'  ⊢
              have b7 := b7'
              have b8 := b8'
              have hX := hX'
              clear b7' b8' hX' hx6 
              refine Rt.ord_nil ?_
              refine Rt.tree_op ?_
              apply ord_pure rfl rfl rfl; (· (intro w; go_simp; with_reducible rfl)); (· (simp only [Act.put, Act.eval, List.setIfInBounds_toArray, List.set_cons_zero, List.set_cons_succ, Array.getD_eq_getD_getElem?, List.getElem?_toArray, List.getElem?_cons_zero, List.getElem?_cons_succ, Option.getD_some, List.getElem_toArray, List.getElem_cons_succ, List.getElem_cons_zero]; with_reducible rfl))
              refine Rt.ord_nil ?_
              refine Rt.tree_fin ?_
              go_wp2_with fail
              go_meet
              case rel => exact ⟨g7, g8, rfl, rfl, rfl, hX, b8⟩
            · apply ord_new rfl rfl rfl; (· (go_simp; exact ⟨rfl, rfl⟩)); (· (exact (Below.refl _ _).alloc (Nat.le_refl _) _)); (· (simp only [Act.put, Act.eval, List.setIfInBounds_toArray, List.set_cons_zero, List.set_cons_succ, Array.getD_eq_getD_getElem?, List.getElem?_toArray, List.getElem?_cons_zero, List.getElem?_cons_succ, Option.getD_some, List.getElem_toArray, List.getElem_cons_succ, List.getElem_cons_zero]; with_reducible rfl))
              have b8x := Var.made (NumAt.zero x2)
              have hb : Below x2.heap.size x2 (x2.alloc (.cells #[.slice none 0 0] 26)) := (Below.refl _ _).alloc (Nat.le_refl _) _
              have hlo8 : hs ≤ x2.heap.size := hX.out.le
              (try have hne := Nat.ne_of_lt b7.out.lt)
              obtain ⟨x3, hx3⟩ : ∃ W, x2.alloc (.cells #[.slice none 0 0] 26) = W := ⟨_, rfl⟩
              rw [hx3] at b8x hb ⊢
              (try replace nj := Lib.hid (nj.out.below hb))
              (try replace nk := Lib.hid (nk.out.below hb))
              (try replace nl := Lib.hid (nl.out.below hb))
              (try replace b7 := Lib.hid (b7.out.below hb))
              (try replace mn := Lib.hid (mn.out.below hb))
              (try replace hX := Lib.hid (hX.out.below hb))
              clear hb
              obtain ⟨g8, hg8⟩ : ∃ g, x2.heap.size = g := ⟨_, rfl⟩
              rw [hg8] at b8x hlo8 ⊢
              (try rw [hg8] at hne)
              have b8 := Lib.hid b8x
              clear b8x hx3 hg8
              refine Rt.ord_nil ?_
              refine Rt.tree_op ?_
              refine ord_call rfl rfl rfl (by go_simp; exact ⟨rfl, rfl⟩) ?_
              refine (Div_N nj.out mn.out (by decide) (Nat.le_trans hM.out (by decide))).mono ?_
              rintro e x4 ⟨vk, vl, rfl, nk, nl, hb⟩
              obtain ⟨vka, vkl, vkc, rfl⟩ := nk.shape
              obtain ⟨vla, vll, vlc, rfl⟩ := nl.shape
              refine ⟨_, rfl, hb, ?_⟩
              rw [hdE.out]
              rw [hone.out] at nl
              replace nk := Lib.hid nk
              replace nl := Lib.hid nl
              (try replace nj := Lib.hid (nj.out.below hb))
              (try replace b7 := Lib.hid (b7.out.below hb))
              (try replace b8 := Lib.hid (b8.out.below hb))
              (try replace mn := Lib.hid (mn.out.below hb))
              (try replace hX := Lib.hid (hX.out.below hb))
              clear hb
              simp only [Act.put, Act.eval, List.setIfInBounds_toArray, List.set_cons_zero, List.set_cons_succ, Array.getD_eq_getD_getElem?, List.getElem?_toArray, List.getElem?_cons_zero, List.getElem?_cons_succ, Option.getD_some, List.getElem_toArray, List.getElem_cons_succ, List.getElem_cons_zero]
              refine Rt.ord_nil ?_
              refine Rt.tree_op ?_
              apply ord_move rfl rfl rfl rfl; (· (simp only [Act.put, Act.eval, List.setIfInBounds_toArray, List.set_cons_zero, List.set_cons_succ, Array.getD_eq_getD_getElem?, List.getElem?_toArray, List.getElem?_cons_zero, List.getElem?_cons_succ, Option.getD_some, List.getElem_toArray, List.getElem_cons_succ, List.getElem_cons_zero]; with_reducible rfl))
              refine Rt.ord_nil ?_
              refine Rt.tree_op ?_
              apply ord_pure rfl rfl rfl; (· (intro w; go_simp; with_reducible rfl)); (· (simp only [Act.put, Act.eval, List.setIfInBounds_toArray, List.set_cons_zero, List.set_cons_succ, Array.getD_eq_getD_getElem?, List.getElem?_toArray, List.getElem?_cons_zero, List.getElem?_cons_succ, Option.getD_some, List.getElem_toArray, List.getElem_cons_succ, List.getElem_cons_zero]; with_reducible rfl))
              refine Rt.ord_nil ?_
              refine Rt.tree_op ?_
              apply ord_pure rfl rfl rfl; (· (intro w; go_simp; with_reducible rfl)); (· (simp only [Act.put, Act.eval, List.setIfInBounds_toArray, List.set_cons_zero, List.set_cons_succ, Array.getD_eq_getD_getElem?, List.getElem?_toArray, List.getElem?_cons_zero, List.getElem?_cons_succ, Option.getD_some, List.getElem_toArray, List.getElem_cons_succ, List.getElem_cons_zero]; with_reducible rfl))
              refine Rt.ord_nil ?_
              refine Rt.tree_op ?_
              apply ord_pure rfl rfl rfl; (· (intro w; go_simp; with_reducible rfl)); (· (simp only [Act.put, Act.eval, List.setIfInBounds_toArray, List.set_cons_zero, List.set_cons_succ, Array.getD_eq_getD_getElem?, List.getElem?_toArray, List.getElem?_cons_zero, List.getElem?_cons_succ, Option.getD_some, List.getElem_toArray, List.getElem_cons_succ, List.getElem_cons_zero]; with_reducible rfl))
              refine Rt.ord_nil ?_
              refine Rt.tree_op ?_
              obtain ⟨qa, ql, qc, qb, qn⟩ := b7.out
              have cc := qb.cell
              have ff := qb.frozen
              clear qb qn
              apply ord_do rfl rfl rfl; (· (go_simp; with_reducible rfl)); (· (simp only [Act.put, Act.eval, List.setIfInBounds_toArray, List.set_cons_zero, List.set_cons_succ, Array.getD_eq_getD_getElem?, List.getElem?_toArray, List.getElem?_cons_zero, List.getElem?_cons_succ, Option.getD_some, List.getElem_toArray, List.getElem_cons_succ, List.getElem_cons_zero]; with_reducible rfl))
              clear cc ff
              have b7' := Lib.hid (b7.out.put nk.out)
              have b8' := Lib.hid (b8.out.other b7.out (by first | exact hne | exact hne.symm) (.slice vka vkl vkc))
              have nl' := Lib.hid (nl.out.otherV b7.out (.slice vka vkl vkc))
              have hX' := Lib.hid (hX.out.put hlo7 b7.out (.slice vka vkl vkc))
              clear b7 b8 hX nl nk
              obtain ⟨x5, hx5⟩ : ∃ W, x4.setCell ⟨g7, 0, none⟩ (.slice vka vkl vkc) = W := ⟨_, rfl⟩
              rw [hx5] at b7' b8' hX' nl' ⊢
              have b7 := b7'
              have b8 := b8'
              have hX := hX'
              have nl := nl'
              clear b7' b8' hX' hx5 nl'
              refine Rt.ord_nil ?_
              refine Rt.tree_op ?_
              obtain ⟨qa, ql, qc, qb, qn⟩ := b8.out
              have cc := qb.cell
              have ff := qb.frozen
              clear qb qn
              apply ord_do rfl rfl rfl; (· (go_simp; with_reducible rfl)); (· (simp only [Act.put, Act.eval, List.setIfInBounds_toArray, List.set_cons_zero, List.set_cons_succ, Array.getD_eq_getD_getElem?, List.getElem?_toArray, List.getElem?_cons_zero, List.getElem?_cons_succ, Option.getD_some, List.getElem_toArray, List.getElem_cons_succ, List.getElem_cons_zero]; with_reducible rfl))
              clear cc ff
              have b8' := Lib.hid (b8.out.put nl.out)
              have b7' := Lib.hid (b7.out.other b8.out (by first | exact hne | exact hne.symm) (.slice vla vll vlc))
              have hX' := Lib.hid (hX.out.put hlo8 b8.out (.slice vla vll vlc))
              clear b7 b8 hX
              obtain ⟨x6, hx6⟩ : ∃ W, x5.setCell ⟨g8, 0, none⟩ (.slice vla vll vlc) = W := ⟨_, rfl⟩
              rw [hx6] at b7' b8' hX'  ⊢
              have b7 := b7'
              have b8 := b8'
              have hX := hX'
              clear b7' b8' hX' hx6 
              refine Rt.ord_nil ?_
              refine Rt.tree_op ?_
              apply ord_pure rfl rfl rfl; (· (intro w; go_simp; with_reducible rfl)); (· (simp only [Act.put, Act.eval, List.setIfInBounds_toArray, List.set_cons_zero, List.set_cons_succ, Array.getD_eq_getD_getElem?, List.getElem?_toArray, List.getElem?_cons_zero, List.getElem?_cons_succ, Option.getD_some, List.getElem_toArray, List.getElem_cons_succ, List.getElem_cons_zero]; with_reducible rfl))
              refine Rt.ord_nil ?_
              refine Rt.tree_fin ?_
              go_wp2_with fail
              go_meet
              case rel => exact ⟨g7, g8, rfl, rfl, rfl, hX, b8⟩
          · apply ord_new rfl rfl rfl; (· (go_simp; exact ⟨rfl, rfl⟩)); (· (exact (Below.refl _ _).alloc (Nat.le_refl _) _)); (· (simp only [Act.put, Act.eval, List.setIfInBounds_toArray, List.set_cons_zero, List.set_cons_succ, Array.getD_eq_getD_getElem?, List.getElem?_toArray, List.getElem?_cons_zero, List.getElem?_cons_succ, Option.getD_some, List.getElem_toArray, List.getElem_cons_succ, List.getElem_cons_zero]; with_reducible rfl))
            have b8x := Var.made (NumAt.zero x1)
            have hb : Below x1.heap.size x1 (x1.alloc (.cells #[.slice none 0 0] 26)) := (Below.refl _ _).alloc (Nat.le_refl _) _
            have hlo8 : hs ≤ x1.heap.size := hX.out.le
            (try have hne := Nat.ne_of_lt b7.out.lt)
            obtain ⟨x2, hx2⟩ : ∃ W, x1.alloc (.cells #[.slice none 0 0] 26) = W := ⟨_, rfl⟩
            rw [hx2] at b8x hb ⊢
            (try replace nj := Lib.hid (nj.out.below hb))
            (try replace nk := Lib.hid (nk.out.below hb))
            (try replace nl := Lib.hid (nl.out.below hb))
            (try replace b7 := Lib.hid (b7.out.below hb))
            (try replace mn := Lib.hid (mn.out.below hb))
            (try replace hX := Lib.hid (hX.out.below hb))
            clear hb
            obtain ⟨g8, hg8⟩ : ∃ g, x1.heap.size = g := ⟨_, rfl⟩
            rw [hg8] at b8x hlo8 ⊢
            (try rw [hg8] at hne)
            have b8 := Lib.hid b8x
            clear b8x hx2 hg8
            refine Rt.ord_nil ?_
            refine Rt.tree_op ?_
            refine ord_call rfl rfl rfl (by go_simp; exact ⟨rfl, rfl⟩) ?_
            refine (Small_lit _ 1 1 rfl (by decide)).mono ?_
            rintro e x3 ⟨vj, rfl, nj, hb⟩
            obtain ⟨vja, vjl, vjc, rfl⟩ := nj.shape
            refine ⟨_, rfl, hb, ?_⟩
            replace nj := Lib.hid nj
            (try replace nk := Lib.hid (nk.out.below hb))
            (try replace nl := Lib.hid (nl.out.below hb))
            (try replace b7 := Lib.hid (b7.out.below hb))
            (try replace b8 := Lib.hid (b8.out.below hb))
            (try replace mn := Lib.hid (mn.out.below hb))
            (try replace hX := Lib.hid (hX.out.below hb))
            clear hb
            simp only [Act.put, Act.eval, List.setIfInBounds_toArray, List.set_cons_zero, List.set_cons_succ, Array.getD_eq_getD_getElem?, List.getElem?_toArray, List.getElem?_cons_zero, List.getElem?_cons_succ, Option.getD_some, List.getElem_toArray, List.getElem_cons_succ, List.getElem_cons_zero]
            refine Rt.ord_nil ?_
            refine Rt.tree_op ?_
            refine ord_call rfl rfl rfl (by go_simp; exact ⟨rfl, rfl⟩) ?_
            refine (Div_N nj.out mn.out (by decide) (Nat.le_trans hM.out (by decide))).mono ?_
            rintro e x4 ⟨vk, vl, rfl, nk, nl, hb⟩
            obtain ⟨vka, vkl, vkc, rfl⟩ := nk.shape
            obtain ⟨vla, vll, vlc, rfl⟩ := nl.shape
            refine ⟨_, rfl, hb, ?_⟩
            rw [hdE.out]
            rw [hone.out] at nl
            replace nk := Lib.hid nk
            replace nl := Lib.hid nl
            (try replace nj := Lib.hid (nj.out.below hb))
            (try replace b7 := Lib.hid (b7.out.below hb))
            (try replace b8 := Lib.hid (b8.out.below hb))
            (try replace mn := Lib.hid (mn.out.below hb))
            (try replace hX := Lib.hid (hX.out.below hb))
            clear hb
            simp only [Act.put, Act.eval, List.setIfInBounds_toArray, List.set_cons_zero, List.set_cons_succ, Array.getD_eq_getD_getElem?, List.getElem?_toArray, List.getElem?_cons_zero, List.getElem?_cons_succ, Option.getD_some, List.getElem_toArray, List.getElem_cons_succ, List.getElem_cons_zero]
            refine Rt.ord_nil ?_
            refine Rt.tree_op ?_
            apply ord_move rfl rfl rfl rfl; (· (simp only [Act.put, Act.eval, List.setIfInBounds_toArray, List.set_cons_zero, List.set_cons_succ, Array.getD_eq_getD_getElem?, List.getElem?_toArray, List.getElem?_cons_zero, List.getElem?_cons_succ, Option.getD_some, List.getElem_toArray, List.getElem_cons_succ, List.getElem_cons_zero]; with_reducible rfl))
            refine Rt.ord_nil ?_
            refine Rt.tree_op ?_
            apply ord_pure rfl rfl rfl; (· (intro w; go_simp; with_reducible rfl)); (· (simp only [Act.put, Act.eval, List.setIfInBounds_toArray, List.set_cons_zero, List.set_cons_succ, Array.getD_eq_getD_getElem?, List.getElem?_toArray, List.getElem?_cons_zero, List.getElem?_cons_succ, Option.getD_some, List.getElem_toArray, List.getElem_cons_succ, List.getElem_cons_zero]; with_reducible rfl))
            refine Rt.ord_nil ?_
            refine Rt.tree_op ?_
            apply ord_pure rfl rfl rfl; (· (intro w; go_simp; with_reducible rfl)); (· (simp only [Act.put, Act.eval, List.setIfInBounds_toArray, List.set_cons_zero, List.set_cons_succ, Array.getD_eq_getD_getElem?, List.getElem?_toArray, List.getElem?_cons_zero, List.getElem?_cons_succ, Option.getD_some, List.getElem_toArray, List.getElem_cons_succ, List.getElem_cons_zero]; with_reducible rfl))
            refine Rt.ord_nil ?_
            refine Rt.tree_op ?_
            apply ord_pure rfl rfl rfl; (· (intro w; go_simp; with_reducible rfl)); (· (simp only [Act.put, Act.eval, List.setIfInBounds_toArray, List.set_cons_zero, List.set_cons_succ, Array.getD_eq_getD_getElem?, List.getElem?_toArray, List.getElem?_cons_zero, List.getElem?_cons_succ, Option.getD_some, List.getElem_toArray, List.getElem_cons_succ, List.getElem_cons_zero]; with_reducible rfl))
            refine Rt.ord_nil ?_
            refine Rt.tree_op ?_
            obtain ⟨qa, ql, qc, qb, qn⟩ := b7.out
            have cc := qb.cell
            have ff := qb.frozen
            clear qb qn
            apply ord_do rfl rfl rfl; (· (go_simp; with_reducible rfl)); (· (simp only [Act.put, Act.eval, List.setIfInBounds_toArray, List.set_cons_zero, List.set_cons_succ, Array.getD_eq_getD_getElem?, List.getElem?_toArray, List.getElem?_cons_zero, List.getElem?_cons_succ, Option.getD_some, List.getElem_toArray, List.getElem_cons_succ, List.getElem_cons_zero]; with_reducible rfl))
            clear cc ff
            have b7' := Lib.hid (b7.out.put nk.out)
            have b8' := Lib.hid (b8.out.other b7.out (by first | exact hne | exact hne.symm) (.slice vka vkl vkc))
            have nl' := Lib.hid (nl.out.otherV b7.out (.slice vka vkl vkc))
            have hX' := Lib.hid (hX.out.put hlo7 b7.out (.slice vka vkl vkc))
            clear b7 b8 hX nl nk
            obtain ⟨x5, hx5⟩ : ∃ W, x4.setCell ⟨g7, 0, none⟩ (.slice vka vkl vkc) = W := ⟨_, rfl⟩
            rw [hx5] at b7' b8' hX' nl' ⊢
            have b7 := b7'
            have b8 := b8'
            have hX := hX'
            have nl := nl'
            clear b7' b8' hX' hx5 nl'
            refine Rt.ord_nil ?_
            refine Rt.tree_op ?_
            obtain ⟨qa, ql, qc, qb, qn⟩ := b8.out
            have cc := qb.cell
            have ff := qb.frozen
            clear qb qn
            apply ord_do rfl rfl rfl; (· (go_simp; with_reducible rfl)); (· (simp only [Act.put, Act.eval, List.setIfInBounds_toArray, List.set_cons_zero, List.set_cons_succ, Array.getD_eq_getD_getElem?, List.getElem?_toArray, List.getElem?_cons_zero, List.getElem?_cons_succ, Option.getD_some, List.getElem_toArray, List.getElem_cons_succ, List.getElem_cons_zero]; with_reducible rfl))
            clear cc ff
            have b8' := Lib.hid (b8.out.put nl.out)
            have b7' := Lib.hid (b7.out.other b8.out (by first | exact hne | exact hne.symm) (.slice vla vll vlc))
            have hX' := Lib.hid (hX.out.put hlo8 b8.out (.slice vla vll vlc))
            clear b7 b8 hX
            obtain ⟨x6, hx6⟩ : ∃ W, x5.setCell ⟨g8, 0, none⟩ (.slice vla vll vlc) = W := ⟨_, rfl⟩
            rw [hx6] at b7' b8' hX'  ⊢
            have b7 := b7'
            have b8 := b8'
            have hX := hX'
            clear b7' b8' hX' hx6 
            refine Rt.ord_nil ?_
            refine Rt.tree_op ?_
            apply ord_pure rfl rfl rfl; (· (intro w; go_simp; with_reducible rfl)); (· (simp only [Act.put, Act.eval, List.setIfInBounds_toArray, List.set_cons_zero, List.set_cons_succ, Array.getD_eq_getD_getElem?, List.getElem?_toArray, List.getElem?_cons_zero, List.getElem?_cons_succ, Option.getD_some, List.getElem_toArray, List.getElem_cons_succ, List.getElem_cons_zero]; with_reducible rfl))
            refine Rt.ord_nil ?_
            refine Rt.tree_fin ?_
            go_wp2_with fail
            go_meet
            case rel => exact ⟨g7, g8, rfl, rfl, rfl, hX, b8⟩
        · apply ord_new rfl rfl rfl; (· (go_simp; exact ⟨rfl, rfl⟩)); (· (exact (Below.refl _ _).alloc (Nat.le_refl _) _)); (· (simp only [Act.put, Act.eval, List.setIfInBounds_toArray, List.set_cons_zero, List.set_cons_succ, Array.getD_eq_getD_getElem?, List.getElem?_toArray, List.getElem?_cons_zero, List.getElem?_cons_succ, Option.getD_some, List.getElem_toArray, List.getElem_cons_succ, List.getElem_cons_zero]; with_reducible rfl))
          have b8x := Var.made (NumAt.zero x0)
          have hb : Below x0.heap.size x0 (x0.alloc (.cells #[.slice none 0 0] 26)) := (Below.refl _ _).alloc (Nat.le_refl _) _
          have hlo8 : hs ≤ x0.heap.size := hX.out.le
          (try have hne := Nat.ne_of_lt b7.out.lt)
          obtain ⟨x1, hx1⟩ : ∃ W, x0.alloc (.cells #[.slice none 0 0] 26) = W := ⟨_, rfl⟩
          rw [hx1] at b8x hb ⊢
          (try replace nj := Lib.hid (nj.out.below hb))
          (try replace nk := Lib.hid (nk.out.below hb))
          (try replace nl := Lib.hid (nl.out.below hb))
          (try replace b7 := Lib.hid (b7.out.below hb))
          (try replace mn := Lib.hid (mn.out.below hb))
          (try replace hX := Lib.hid (hX.out.below hb))
          clear hb
          obtain ⟨g8, hg8⟩ : ∃ g, x0.heap.size = g := ⟨_, rfl⟩
          rw [hg8] at b8x hlo8 ⊢
          (try rw [hg8] at hne)
          have b8 := Lib.hid b8x
          clear b8x hx1 hg8
          refine Rt.ord_nil ?_
          refine Rt.tree_two ?_ ?_
          · refine ord_call rfl rfl rfl (by go_simp; exact ⟨rfl, rfl⟩) ?_
            refine (Small_lit _ 1 1 rfl (by decide)).mono ?_
            rintro e x2 ⟨vj, rfl, nj, hb⟩
            obtain ⟨vja, vjl, vjc, rfl⟩ := nj.shape
            refine ⟨_, rfl, hb, ?_⟩
            replace nj := Lib.hid nj
            (try replace nk := Lib.hid (nk.out.below hb))
            (try replace nl := Lib.hid (nl.out.below hb))
            (try replace b7 := Lib.hid (b7.out.below hb))
            (try replace b8 := Lib.hid (b8.out.below hb))
            (try replace mn := Lib.hid (mn.out.below hb))
            (try replace hX := Lib.hid (hX.out.below hb))
            clear hb
            simp only [Act.put, Act.eval, List.setIfInBounds_toArray, List.set_cons_zero, List.set_cons_succ, Array.getD_eq_getD_getElem?, List.getElem?_toArray, List.getElem?_cons_zero, List.getElem?_cons_succ, Option.getD_some, List.getElem_toArray, List.getElem_cons_succ, List.getElem_cons_zero]
            refine Rt.ord_nil ?_
            refine Rt.tree_two ?_ ?_
            · refine ord_call rfl rfl rfl (by go_simp; exact ⟨rfl, rfl⟩) ?_
              refine (Div_N nj.out mn.out (by decide) (Nat.le_trans hM.out (by decide))).mono ?_
              rintro e x3 ⟨vk, vl, rfl, nk, nl, hb⟩
              obtain ⟨vka, vkl, vkc, rfl⟩ := nk.shape
              obtain ⟨vla, vll, vlc, rfl⟩ := nl.shape
              refine ⟨_, rfl, hb, ?_⟩
              rw [hdE.out]
              rw [hone.out] at nl
              replace nk := Lib.hid nk
              replace nl := Lib.hid nl
              (try replace nj := Lib.hid (nj.out.below hb))
              (try replace b7 := Lib.hid (b7.out.below hb))
              (try replace b8 := Lib.hid (b8.out.below hb))
              (try replace mn := Lib.hid (mn.out.below hb))
              (try replace hX := Lib.hid (hX.out.below hb))
              clear hb
              simp only [Act.put, Act.eval, List.setIfInBounds_toArray, List.set_cons_zero, List.set_cons_succ, Array.getD_eq_getD_getElem?, List.getElem?_toArray, List.getElem?_cons_zero, List.getElem?_cons_succ, Option.getD_some, List.getElem_toArray, List.getElem_cons_succ, List.getElem_cons_zero]
              refine Rt.ord_nil ?_
              refine Rt.tree_op ?_
              apply ord_move rfl rfl rfl rfl; (· (simp only [Act.put, Act.eval, List.setIfInBounds_toArray, List.set_cons_zero, List.set_cons_succ, Array.getD_eq_getD_getElem?, List.getElem?_toArray, List.getElem?_cons_zero, List.getElem?_cons_succ, Option.getD_some, List.getElem_toArray, List.getElem_cons_succ, List.getElem_cons_zero]; with_reducible rfl))
              refine Rt.ord_nil ?_
              refine Rt.tree_op ?_
              apply ord_pure rfl rfl rfl; (· (intro w; go_simp; with_reducible rfl)); (· (simp only [Act.put, Act.eval, List.setIfInBounds_toArray, List.set_cons_zero, List.set_cons_succ, Array.getD_eq_getD_getElem?, List.getElem?_toArray, List.getElem?_cons_zero, List.getElem?_cons_succ, Option.getD_some, List.getElem_toArray, List.getElem_cons_succ, List.getElem_cons_zero]; with_reducible rfl))
              refine Rt.ord_nil ?_
              refine Rt.tree_op ?_
              apply ord_pure rfl rfl rfl; (· (intro w; go_simp; with_reducible rfl)); (· (simp only [Act.put, Act.eval, List.setIfInBounds_toArray, List.set_cons_zero, List.set_cons_succ, Array.getD_eq_getD_getElem?, List.getElem?_toArray, List.getElem?_cons_zero, List.getElem?_cons_succ, Option.getD_some, List.getElem_toArray, List.getElem_cons_succ, List.getElem_cons_zero]; with_reducible rfl))
              refine Rt.ord_nil ?_
              refine Rt.tree_op ?_
              apply ord_pure rfl rfl rfl; (· (intro w; go_simp; with_reducible rfl)); (· (simp only [Act.put, Act.eval, List.setIfInBounds_toArray, List.set_cons_zero, List.set_cons_succ, Array.getD_eq_getD_getElem?, List.getElem?_toArray, List.getElem?_cons_zero, List.getElem?_cons_succ, Option.getD_some, List.getElem_toArray, List.getElem_cons_succ, List.getElem_cons_zero]; with_reducible rfl))
              refine Rt.ord_nil ?_
              refine Rt.tree_op ?_
              apply ord_new rfl rfl rfl; (· (go_simp; exact ⟨rfl, rfl⟩)); (· (exact (Below.refl _ _).alloc (Nat.le_refl _) _)); (· (simp only [Act.put, Act.eval, List.setIfInBounds_toArray, List.set_cons_zero, List.set_cons_succ, Array.getD_eq_getD_getElem?, List.getElem?_toArray, List.getElem?_cons_zero, List.getElem?_cons_succ, Option.getD_some, List.getElem_toArray, List.getElem_cons_succ, List.getElem_cons_zero]; with_reducible rfl))
              have b7x := Var.made (NumAt.zero x3)
              have hb : Below x3.heap.size x3 (x3.alloc (.cells #[.slice none 0 0] 26)) := (Below.refl _ _).alloc (Nat.le_refl _) _
              have hlo7 : hs ≤ x3.heap.size := hX.out.le
              (try have hne := Nat.ne_of_lt b8.out.lt)
              obtain ⟨x4, hx4⟩ : ∃ W, x3.alloc (.cells #[.slice none 0 0] 26) = W := ⟨_, rfl⟩
              rw [hx4] at b7x hb ⊢
              (try replace nj := Lib.hid (nj.out.below hb))
              (try replace nk := Lib.hid (nk.out.below hb))
              (try replace nl := Lib.hid (nl.out.below hb))
              (try replace b8 := Lib.hid (b8.out.below hb))
              (try replace mn := Lib.hid (mn.out.below hb))
              (try replace hX := Lib.hid (hX.out.below hb))
              clear hb
              obtain ⟨g7, hg7⟩ : ∃ g, x3.heap.size = g := ⟨_, rfl⟩
              rw [hg7] at b7x hlo7 ⊢
              (try rw [hg7] at hne)
              have b7 := Lib.hid b7x
              clear b7x hx4 hg7
              refine Rt.ord_nil ?_
              refine Rt.tree_op ?_
              obtain ⟨qa, ql, qc, qb, qn⟩ := b7.out
              have cc := qb.cell
              have ff := qb.frozen
              clear qb qn
              apply ord_do rfl rfl rfl; (· (go_simp; with_reducible rfl)); (· (simp only [Act.put, Act.eval, List.setIfInBounds_toArray, List.set_cons_zero, List.set_cons_succ, Array.getD_eq_getD_getElem?, List.getElem?_toArray, List.getElem?_cons_zero, List.getElem?_cons_succ, Option.getD_some, List.getElem_toArray, List.getElem_cons_succ, List.getElem_cons_zero]; with_reducible rfl))
              clear cc ff
              have b7' := Lib.hid (b7.out.put nk.out)
              have b8' := Lib.hid (b8.out.other b7.out (by first | exact hne | exact hne.symm) (.slice vka vkl vkc))
              have nl' := Lib.hid (nl.out.otherV b7.out (.slice vka vkl vkc))
              have hX' := Lib.hid (hX.out.put hlo7 b7.out (.slice vka vkl vkc))
              clear b7 b8 hX nl nk
              obtain ⟨x5, hx5⟩ : ∃ W, x4.setCell ⟨g7, 0, none⟩ (.slice vka vkl vkc) = W := ⟨_, rfl⟩
              rw [hx5] at b7' b8' hX' nl' ⊢
              have b7 := b7'
              have b8 := b8'
              have hX := hX'
              have nl := nl'
              clear b7' b8' hX' hx5 nl'
              refine Rt.ord_nil ?_
              refine Rt.tree_op ?_
              obtain ⟨qa, ql, qc, qb, qn⟩ := b8.out
              have cc := qb.cell
              have ff := qb.frozen
              clear qb qn
              apply ord_do rfl rfl rfl; (· (go_simp; with_reducible rfl)); (· (simp only [Act.put, Act.eval, List.setIfInBounds_toArray, List.set_cons_zero, List.set_cons_succ, Array.getD_eq_getD_getElem?, List.getElem?_toArray, List.getElem?_cons_zero, List.getElem?_cons_succ, Option.getD_some, List.getElem_toArray, List.getElem_cons_succ, List.getElem_cons_zero]; with_reducible rfl))
              clear cc ff
              have b8' := Lib.hid (b8.out.put nl.out)
              have b7' := Lib.hid (b7.out.other b8.out (by first | exact hne | exact hne.symm) (.slice vla vll vlc))
              have hX' := Lib.hid (hX.out.put hlo8 b8.out (.slice vla vll vlc))
              clear b7 b8 hX
              obtain ⟨x6, hx6⟩ : ∃ W, x5.setCell ⟨g8, 0, none⟩ (.slice vla vll vlc) = W := ⟨_, rfl⟩
              rw [hx6] at b7' b8' hX'  ⊢
              have b7 := b7'
              have b8 := b8'
              have hX := hX'
              clear b7' b8' hX' hx6 
              refine Rt.ord_nil ?_
              refine Rt.tree_op ?_
              apply ord_pure rfl rfl rfl; (· (intro w; go_simp; with_reducible rfl)); (· (simp only [Act.put, Act.eval, List.setIfInBounds_toArray, List.set_cons_zero, List.set_cons_succ, Array.getD_eq_getD_getElem?, List.getElem?_toArray, List.getElem?_cons_zero, List.getElem?_cons_succ, Option.getD_some, List.getElem_toArray, List.getElem_cons_succ, List.getElem_cons_zero]; with_reducible rfl))
              refine Rt.ord_nil ?_
              refine Rt.tree_fin ?_
              go_wp2_with fail
              go_meet
              case rel => exact ⟨g7, g8, rfl, rfl, rfl, hX, b8⟩
            · apply ord_new rfl rfl rfl; (· (go_simp; exact ⟨rfl, rfl⟩)); (· (exact (Below.refl _ _).alloc (Nat.le_refl _) _)); (· (simp only [Act.put, Act.eval, List.setIfInBounds_toArray, List.set_cons_zero, List.set_cons_succ, Array.getD_eq_getD_getElem?, List.getElem?_toArray, List.getElem?_cons_zero, List.getElem?_cons_succ, Option.getD_some, List.getElem_toArray, List.getElem_cons_succ, List.getElem_cons_zero]; with_reducible rfl))
              have b7x := Var.made (NumAt.zero x2)
              have hb : Below x2.heap.size x2 (x2.alloc (.cells #[.slice none 0 0] 26)) := (Below.refl _ _).alloc (Nat.le_refl _) _
              have hlo7 : hs ≤ x2.heap.size := hX.out.le
              (try have hne := Nat.ne_of_lt b8.out.lt)
              obtain ⟨x3, hx3⟩ : ∃ W, x2.alloc (.cells #[.slice none 0 0] 26) = W := ⟨_, rfl⟩
              rw [hx3] at b7x hb ⊢
              (try replace nj := Lib.hid (nj.out.below hb))
              (try replace nk := Lib.hid (nk.out.below hb))
              (try replace nl := Lib.hid (nl.out.below hb))
              (try replace b8 := Lib.hid (b8.out.below hb))
              (try replace mn := Lib.hid (mn.out.below hb))
              (try replace hX := Lib.hid (hX.out.below hb))
              clear hb
              obtain ⟨g7, hg7⟩ : ∃ g, x2.heap.size = g := ⟨_, rfl⟩
              rw [hg7] at b7x hlo7 ⊢
              (try rw [hg7] at hne)
              have b7 := Lib.hid b7x
              clear b7x hx3 hg7
              refine Rt.ord_nil ?_
              refine Rt.tree_op ?_
              refine ord_call rfl rfl rfl (by go_simp; exact ⟨rfl, rfl⟩) ?_
              refine (Div_N nj.out mn.out (by decide) (Nat.le_trans hM.out (by decide))).mono ?_
              rintro e x4 ⟨vk, vl, rfl, nk, nl, hb⟩
              obtain ⟨vka, vkl, vkc, rfl⟩ := nk.shape
              obtain ⟨vla, vll, vlc, rfl⟩ := nl.shape
              refine ⟨_, rfl, hb, ?_⟩
              rw [hdE.out]
              rw [hone.out] at nl
              replace nk := Lib.hid nk
              replace nl := Lib.hid nl
              (try replace nj := Lib.hid (nj.out.below hb))
              (try replace b7 := Lib.hid (b7.out.below hb))
              (try replace b8 := Lib.hid (b8.out.below hb))
              (try replace mn := Lib.hid (mn.out.below hb))
              (try replace hX := Lib.hid (hX.out.below hb))
              clear hb
              simp only [Act.put, Act.eval, List.setIfInBounds_toArray, List.set_cons_zero, List.set_cons_succ, Array.getD_eq_getD_getElem?, List.getElem?_toArray, List.getElem?_cons_zero, List.getElem?_cons_succ, Option.getD_some, List.getElem_toArray, List.getElem_cons_succ, List.getElem_cons_zero]
              refine Rt.ord_nil ?_
              refine Rt.tree_op ?_
              apply ord_move rfl rfl rfl rfl; (· (simp only [Act.put, Act.eval, List.setIfInBounds_toArray, List.set_cons_zero, List.set_cons_succ, Array.getD_eq_getD_getElem?, List.getElem?_toArray, List.getElem?_cons_zero, List.getElem?_cons_succ, Option.getD_some, List.getElem_toArray, List.getElem_cons_succ, List.getElem_cons_zero]; with_reducible rfl))
              refine Rt.ord_nil ?_
              refine Rt.tree_op ?_
              apply ord_pure rfl rfl rfl; (· (intro w; go_simp; with_reducible rfl)); (· (simp only [Act.put, Act.eval, List.setIfInBounds_toArray, List.set_cons_zero, List.set_cons_succ, Array.getD_eq_getD_getElem?, List.getElem?_toArray, List.getElem?_cons_zero, List.getElem?_cons_succ, Option.getD_some, List.getElem_toArray, List.getElem_cons_succ, List.getElem_cons_zero]; with_reducible rfl))
              refine Rt.ord_nil ?_
              refine Rt.tree_op ?_
              apply ord_pure rfl rfl rfl; (· (intro w; go_simp; with_reducible rfl)); (· (simp only [Act.put, Act.eval, List.setIfInBounds_toArray, List.set_cons_zero, List.set_cons_succ, Array.getD_eq_getD_getElem?, List.getElem?_toArray, List.getElem?_cons_zero, List.getElem?_cons_succ, Option.getD_some, List.getElem_toArray, List.getElem_cons_succ, List.getElem_cons_zero]; with_reducible rfl))
              refine Rt.ord_nil ?_
              refine Rt.tree_op ?_
              apply ord_pure rfl rfl rfl; (· (intro w; go_simp; with_reducible rfl)); (· (simp only [Act.put, Act.eval, List.setIfInBounds_toArray, List.set_cons_zero, List.set_cons_succ, Array.getD_eq_getD_getElem?, List.getElem?_toArray, List.getElem?_cons_zero, List.getElem?_cons_succ, Option.getD_some, List.getElem_toArray, List.getElem_cons_succ, List.getElem_cons_zero]; with_reducible rfl))
              refine Rt.ord_nil ?_
              refine Rt.tree_op ?_
              obtain ⟨qa, ql, qc, qb, qn⟩ := b7.out
              have cc := qb.cell
              have ff := qb.frozen
              clear qb qn
              apply ord_do rfl rfl rfl; (· (go_simp; with_reducible rfl)); (· (simp only [Act.put, Act.eval, List.setIfInBounds_toArray, List.set_cons_zero, List.set_cons_succ, Array.getD_eq_getD_getElem?, List.getElem?_toArray, List.getElem?_cons_zero, List.getElem?_cons_succ, Option.getD_some, List.getElem_toArray, List.getElem_cons_succ, List.getElem_cons_zero]; with_reducible rfl))
              clear cc ff
              have b7' := Lib.hid (b7.out.put nk.out)
              have b8' := Lib.hid (b8.out.other b7.out (by first | exact hne | exact hne.symm) (.slice vka vkl vkc))
              have nl' := Lib.hid (nl.out.otherV b7.out (.slice vka vkl vkc))
              have hX' := Lib.hid (hX.out.put hlo7 b7.out (.slice vka vkl vkc))
              clear b7 b8 hX nl nk
              obtain ⟨x5, hx5⟩ : ∃ W, x4.setCell ⟨g7, 0, none⟩ (.slice vka vkl vkc) = W := ⟨_, rfl⟩
              rw [hx5] at b7' b8' hX' nl' ⊢
              have b7 := b7'
              have b8 := b8'
              have hX := hX'
              have nl := nl'
              clear b7' b8' hX' hx5 nl'
              refine Rt.ord_nil ?_
              refine Rt.tree_op ?_
              obtain ⟨qa, ql, qc, qb, qn⟩ := b8.out
              have cc := qb.cell
              have ff := qb.frozen
              clear qb qn
              apply ord_do rfl rfl rfl; (· (go_simp; with_reducible rfl)); (· (simp only [Act.put, Act.eval, List.setIfInBounds_toArray, List.set_cons_zero, List.set_cons_succ, Array.getD_eq_getD_getElem?, List.getElem?_toArray, List.getElem?_cons_zero, List.getElem?_cons_succ, Option.getD_some, List.getElem_toArray, List.getElem_cons_succ, List.getElem_cons_zero]; with_reducible rfl))
              clear cc ff
              have b8' := Lib.hid (b8.out.put nl.out)
              have b7' := Lib.hid (b7.out.other b8.out (by first | exact hne | exact hne.symm) (.slice vla vll vlc))
              have hX' := Lib.hid (hX.out.put hlo8 b8.out (.slice vla vll vlc))
              clear b7 b8 hX
              obtain ⟨x6, hx6⟩ : ∃ W, x5.setCell ⟨g8, 0, none⟩ (.slice vla vll vlc) = W := ⟨_, rfl⟩
              rw [hx6] at b7' b8' hX'  ⊢
              have b7 := b7'
              have b8 := b8'
              have hX := hX'
              clear b7' b8' hX' hx6 
              refine Rt.ord_nil ?_
              refine Rt.tree_op ?_
              apply ord_pure rfl rfl rfl; (· (intro w; go_simp; with_reducible rfl)); (· (simp only [Act.put, Act.eval, List.setIfInBounds_toArray, List.set_cons_zero, List.set_cons_succ, Array.getD_eq_getD_getElem?, List.getElem?_toArray, List.getElem?_cons_zero, List.getElem?_cons_succ, Option.getD_some, List.getElem_toArray, List.getElem_cons_succ, List.getElem_cons_zero]; with_reducible rfl))
              refine Rt.ord_nil ?_
              refine Rt.tree_fin ?_
              go_wp2_with fail
              go_meet
              case rel => exact ⟨g7, g8, rfl, rfl, rfl, hX, b8⟩
          · apply ord_new rfl rfl rfl; (· (go_simp; exact ⟨rfl, rfl⟩)); (· (exact (Below.refl _ _).alloc (Nat.le_refl _) _)); (· (simp only [Act.put, Act.eval, List.setIfInBounds_toArray, List.set_cons_zero, List.set_cons_succ, Array.getD_eq_getD_getElem?, List.getElem?_toArray, List.getElem?_cons_zero, List.getElem?_cons_succ, Option.getD_some, List.getElem_toArray, List.getElem_cons_succ, List.getElem_cons_zero]; with_reducible rfl))
            have b7x := Var.made (NumAt.zero x1)
            have hb : Below x1.heap.size x1 (x1.alloc (.cells #[.slice none 0 0] 26)) := (Below.refl _ _).alloc (Nat.le_refl _) _
            have hlo7 : hs ≤ x1.heap.size := hX.out.le
            (try have hne := Nat.ne_of_lt b8.out.lt)
            obtain ⟨x2, hx2⟩ : ∃ W, x1.alloc (.cells #[.slice none 0 0] 26) = W := ⟨_, rfl⟩
            rw [hx2] at b7x hb ⊢
            (try replace nj := Lib.hid (nj.out.below hb))
            (try replace nk := Lib.hid (nk.out.below hb))
            (try replace nl := Lib.hid (nl.out.below hb))
            (try replace b8 := Lib.hid (b8.out.below hb))
            (try replace mn := Lib.hid (mn.out.below hb))
            (try replace hX := Lib.hid (hX.out.below hb))
            clear hb
            obtain ⟨g7, hg7⟩ : ∃ g, x1.heap.size = g := ⟨_, rfl⟩
            rw [hg7] at b7x hlo7 ⊢
            (try rw [hg7] at hne)
            have b7 := Lib.hid b7x
            clear b7x hx2 hg7
            refine Rt.ord_nil ?_
            refine Rt.tree_op ?_
            refine ord_call rfl rfl rfl (by go_simp; exact ⟨rfl, rfl⟩) ?_
            refine (Small_lit _ 1 1 rfl (by decide)).mono ?_
            rintro e x3 ⟨vj, rfl, nj, hb⟩
            obtain ⟨vja, vjl, vjc, rfl⟩ := nj.shape
            refine ⟨_, rfl, hb, ?_⟩
            replace nj := Lib.hid nj
            (try replace nk := Lib.hid (nk.out.below hb))
            (try replace nl := Lib.hid (nl.out.below hb))
            (try replace b7 := Lib.hid (b7.out.below hb))
            (try replace b8 := Lib.hid (b8.out.below hb))
            (try replace mn := Lib.hid (mn.out.below hb))
            (try replace hX := Lib.hid (hX.out.below hb))
            clear hb
            simp only [Act.put, Act.eval, List.setIfInBounds_toArray, List.set_cons_zero, List.set_cons_succ, Array.getD_eq_getD_getElem?, List.getElem?_toArray, List.getElem?_cons_zero, List.getElem?_cons_succ, Option.getD_some, List.getElem_toArray, List.getElem_cons_succ, List.getElem_cons_zero]
            refine Rt.ord_nil ?_
            refine Rt.tree_op ?_
            refine ord_call rfl rfl rfl (by go_simp; exact ⟨rfl, rfl⟩) ?_
            refine (Div_N nj.out mn.out (by decide) (Nat.le_trans hM.out (by decide))).mono ?_
            rintro e x4 ⟨vk, vl, rfl, nk, nl, hb⟩
            obtain ⟨vka, vkl, vkc, rfl⟩ := nk.shape
            obtain ⟨vla, vll, vlc, rfl⟩ := nl.shape
            refine ⟨_, rfl, hb, ?_⟩
            rw [hdE.out]
            rw [hone.out] at nl
            replace nk := Lib.hid nk
            replace nl := Lib.hid nl
            (try replace nj := Lib.hid (nj.out.below hb))
            (try replace b7 := Lib.hid (b7.out.below hb))
            (try replace b8 := Lib.hid (b8.out.below hb))
            (try replace mn := Lib.hid (mn.out.below hb))
            (try replace hX := Lib.hid (hX.out.below hb))
            clear hb
            simp only [Act.put, Act.eval, List.setIfInBounds_toArray, List.set_cons_zero, List.set_cons_succ, Array.getD_eq_getD_getElem?, List.getElem?_toArray, List.getElem?_cons_zero, List.getElem?_cons_succ, Option.getD_some, List.getElem_toArray, List.getElem_cons_succ, List.getElem_cons_zero]
            refine Rt.ord_nil ?_
            refine Rt.tree_op ?_
            apply ord_move rfl rfl rfl rfl; (· (simp only [Act.put, Act.eval, List.setIfInBounds_toArray, List.set_cons_zero, List.set_cons_succ, Array.getD_eq_getD_getElem?, List.getElem?_toArray, List.getElem?_cons_zero, List.getElem?_cons_succ, Option.getD_some, List.getElem_toArray, List.getElem_cons_succ, List.getElem_cons_zero]; with_reducible rfl))
            refine Rt.ord_nil ?_
            refine Rt.tree_op ?_
            apply ord_pure rfl rfl rfl; (· (intro w; go_simp; with_reducible rfl)); (· (simp only [Act.put, Act.eval, List.setIfInBounds_toArray, List.set_cons_zero, List.set_cons_succ, Array.getD_eq_getD_getElem?, List.getElem?_toArray, List.getElem?_cons_zero, List.getElem?_cons_succ, Option.getD_some, List.getElem_toArray, List.getElem_cons_succ, List.getElem_cons_zero]; with_reducible rfl))
            refine Rt.ord_nil ?_
            refine Rt.tree_op ?_
            apply ord_pure rfl rfl rfl; (· (intro w; go_simp; with_reducible rfl)); (· (simp only [Act.put, Act.eval, List.setIfInBounds_toArray, List.set_cons_zero, List.set_cons_succ, Array.getD_eq_getD_getElem?, List.getElem?_toArray, List.getElem?_cons_zero, List.getElem?_cons_succ, Option.getD_some, List.getElem_toArray, List.getElem_cons_succ, List.getElem_cons_zero]; with_reducible rfl))
            refine Rt.ord_nil ?_
            refine Rt.tree_op ?_
            apply ord_pure rfl rfl rfl; (· (intro w; go_simp; with_reducible rfl)); (· (simp only [Act.put, Act.eval, List.setIfInBounds_toArray, List.set_cons_zero, List.set_cons_succ, Array.getD_eq_getD_getElem?, List.getElem?_toArray, List.getElem?_cons_zero, List.getElem?_cons_succ, Option.getD_some, List.getElem_toArray, List.getElem_cons_succ, List.getElem_cons_zero]; with_reducible rfl))
            refine Rt.ord_nil ?_
            refine Rt.tree_op ?_
            obtain ⟨qa, ql, qc, qb, qn⟩ := b7.out
            have cc := qb.cell
            have ff := qb.frozen
            clear qb qn
            apply ord_do rfl rfl rfl; (· (go_simp; with_reducible rfl)); (· (simp only [Act.put, Act.eval, List.setIfInBounds_toArray, List.set_cons_zero, List.set_cons_succ, Array.getD_eq_getD_getElem?, List.getElem?_toArray, List.getElem?_cons_zero, List.getElem?_cons_succ, Option.getD_some, List.getElem_toArray, List.getElem_cons_succ, List.getElem_cons_zero]; with_reducible rfl))
            clear cc ff
            have b7' := Lib.hid (b7.out.put nk.out)
            have b8' := Lib.hid (b8.out.other b7.out (by first | exact hne | exact hne.symm) (.slice vka vkl vkc))
            have nl' := Lib.hid (nl.out.otherV b7.out (.slice vka vkl vkc))
            have hX' := Lib.hid (hX.out.put hlo7 b7.out (.slice vka vkl vkc))
            clear b7 b8 hX nl nk
            obtain ⟨x5, hx5⟩ : ∃ W, x4.setCell ⟨g7, 0, none⟩ (.slice vka vkl vkc) = W := ⟨_, rfl⟩
            rw [hx5] at b7' b8' hX' nl' ⊢
            have b7 := b7'
            have b8 := b8'
            have hX := hX'
            have nl := nl'
            clear b7' b8' hX' hx5 nl'
            refine Rt.ord_nil ?_
            refine Rt.tree_op ?_
            obtain ⟨qa, ql, qc, qb, qn⟩ := b8.out
            have cc := qb.cell
            have ff := qb.frozen
            clear qb qn
            apply ord_do rfl rfl rfl; (· (go_simp; with_reducible rfl)); (· (simp only [Act.put, Act.eval, List.setIfInBounds_toArray, List.set_cons_zero, List.set_cons_succ, Array.getD_eq_getD_getElem?, List.getElem?_toArray, List.getElem?_cons_zero, List.getElem?_cons_succ, Option.getD_some, List.getElem_toArray, List.getElem_cons_succ, List.getElem_cons_zero]; with_reducible rfl))
            clear cc ff
            have b8' := Lib.hid (b8.out.put nl.out)
            have b7' := Lib.hid (b7.out.other b8.out (by first | exact hne | exact hne.symm) (.slice vla vll vlc))
            have hX' := Lib.hid (hX.out.put hlo8 b8.out (.slice vla vll vlc))
            clear b7 b8 hX
            obtain ⟨x6, hx6⟩ : ∃ W, x5.setCell ⟨g8, 0, none⟩ (.slice vla vll vlc) = W := ⟨_, rfl⟩
            rw [hx6] at b7' b8' hX'  ⊢
            have b7 := b7'
            have b8 := b8'
            have hX := hX'
            clear b7' b8' hX' hx6 
            refine Rt.ord_nil ?_
            refine Rt.tree_op ?_
            apply ord_pure rfl rfl rfl; (· (intro w; go_simp; with_reducible rfl)); (· (simp only [Act.put, Act.eval, List.setIfInBounds_toArray, List.set_cons_zero, List.set_cons_succ, Array.getD_eq_getD_getElem?, List.getElem?_toArray, List.getElem?_cons_zero, List.getElem?_cons_succ, Option.getD_some, List.getElem_toArray, List.getElem_cons_succ, List.getElem_cons_zero]; with_reducible rfl))
            refine Rt.ord_nil ?_
            refine Rt.tree_fin ?_
            go_wp2_with fail
            go_meet
            case rel => exact ⟨g7, g8, rfl, rfl, rfl, hX, b8⟩
      case rest =>
        obtain ⟨gk, gl, rfl, rfl, rfl, hX, l⟩ := hcut
        clear hX0
        have g1 := Lib.hid hX.out.g
        have i := Lib.hid hX.out.i
        have m := Lib.hid hX.out.m
        have hE := Lib.hid hX.out.bel
        clear hX
        obtain ⟨g1a, g1l, g1c, g1b, g1n⟩ := g1.out
        have zg1 := g1b.cell
        replace g1n := Lib.hid g1n
        clear g1b
        obtain ⟨la, ll, lc, lb, ln⟩ := l.out
        have zl := lb.cell
        replace ln := Lib.hid ln
        clear lb
        have hC31 := Lib.hid (Cmp_N g1n.out ln.out (Nat.le_trans hU.out (by decide)) (Nat.le_trans hU.out (by decide)))
        go_wp2_with fail
        refine hC31.out.mono ?_
        rintro e w31 ⟨rfl, hb⟩
        rw [cmpN_self u0]
        replace g1 := Lib.hid (g1.out.below hb)
        replace i := Lib.hid (i.out.below hb)
        replace m := Lib.hid (m.out.below hb)
        replace l := Lib.hid (l.out.below hb)
        replace hE := Lib.hid (hE.out.trans (hb.mono hE.out.size))
        clear hb hC31 zg1 g1n zl ln
        obtain ⟨ia, il, ic, ib, jn⟩ := i.out
        have zi := ib.cell
        replace jn := Lib.hid jn
        clear ib
        obtain ⟨ma, ml, mc, mb, mn⟩ := m.out
        have zm := mb.cell
        replace mn := Lib.hid mn
        clear mb
        have hC32 := Lib.hid (Cmp_N jn.out mn.out (Nat.le_trans hI.out (by decide)) (Nat.le_trans hM.out (by decide)))
        go_wp2_with fail
        refine hC32.out.mono ?_
        rintro e w32 ⟨rfl, hb⟩
        rw [hlt.out]
        replace g1 := Lib.hid (g1.out.below hb)
        replace i := Lib.hid (i.out.below hb)
        replace m := Lib.hid (m.out.below hb)
        replace l := Lib.hid (l.out.below hb)
        replace hE := Lib.hid (hE.out.trans (hb.mono hE.out.size))
        clear hb hC32 zi jn zm mn
        go_wp2_with fail
        go_ret
        exact ⟨rfl, hE.out⟩
    · have hi : Hid (invE a0 m0 = 13) := Lib.hid (by rw [hiE, if_neg h1])
      clear hm0 hme0 hpos hpe hpl hql hrl hres0 hdE0 hi0 hil hu0 hiE hleft0 h1
      go_enter Tryd.func10, Tryd.ntmps10
      have hE := Lib.hid (Below.refl w.heap.size w)
      have hC1 := Lib.hid (examples_any w)
      go_wp2_with fail
      refine hC1.out.mono ?_
      rintro e w1 ⟨rfl, hb⟩
      replace hE := Lib.hid (hE.out.trans (hb.mono hE.out.size))
      clear hb hC1 
      have hC2 := Lib.hid (of_N s 100 (by decide) hss w1)
      go_wp2_with fail
      refine hC2.out.mono ?_
      rintro e w2 ⟨va, rfl, na, hb⟩
      obtain ⟨vaa, val, vac, rfl⟩ := na.shape
      rw [haE.out] at na
      replace na := Lib.hid na
      replace hE := Lib.hid (hE.out.trans (hb.mono hE.out.size))
      clear hb hC2 
      go_upto_region 3 with (fail)
      have hb : Below w2.heap.size w2 (w2.alloc (.cells #[.slice vaa val vac] 26)) := (Below.refl _ _).alloc (Nat.le_refl _) _
      have a' := Var.made na.out
      replace na := Lib.hid (na.out.below hb)
      replace hE := Lib.hid (hE.out.trans (hb.mono hE.out.size))
      have a := Lib.hid a'
      clear hb a'
      obtain ⟨w3, hw⟩ : ∃ W, (w2.alloc (.cells #[.slice vaa val vac] 26)) = W := ⟨_, rfl⟩
      rw [hw] at hE na a ⊢
      clear hw
      obtain ⟨ga, hga⟩ : ∃ g, w2.heap.size = g := ⟨_, rfl⟩
      rw [hga] at a ⊢
      clear hga
      clear na
      have hC4 := Lib.hid (of_N t 12 (by decide) hst w3)
      go_wp2_with fail
      refine hC4.out.mono ?_
      rintro e w4 ⟨vx, rfl, nx, hb⟩
      obtain ⟨vxa, vxl, vxc, rfl⟩ := nx.shape
      rw [hxE.out] at nx
      replace a := Lib.hid (a.out.below hb)
      replace nx := Lib.hid nx
      replace hE := Lib.hid (hE.out.trans (hb.mono hE.out.size))
      clear hb hC4 
      go_upto_region 4 with (fail)
      have hb : Below w4.heap.size w4 (w4.alloc (.cells #[.slice vxa vxl vxc] 26)) := (Below.refl _ _).alloc (Nat.le_refl _) _
      have x' := Var.made nx.out
      replace a := Lib.hid (a.out.below hb)
      replace nx := Lib.hid (nx.out.below hb)
      replace hE := Lib.hid (hE.out.trans (hb.mono hE.out.size))
      have x := Lib.hid x'
      clear hb x'
      obtain ⟨w5, hw⟩ : ∃ W, (w4.alloc (.cells #[.slice vxa vxl vxc] 26)) = W := ⟨_, rfl⟩
      rw [hw] at hE a nx x ⊢
      clear hw
      obtain ⟨gx, hgx⟩ : ∃ g, w4.heap.size = g := ⟨_, rfl⟩
      rw [hgx] at x ⊢
      clear hgx
      clear nx
      have hC6 := Lib.hid (of_N u 12 (by decide) hsu w5)
      go_wp2_with fail
      refine hC6.out.mono ?_
      rintro e w6 ⟨vy, rfl, ny, hb⟩
      obtain ⟨vya, vyl, vyc, rfl⟩ := ny.shape
      rw [hyE.out] at ny
      replace a := Lib.hid (a.out.below hb)
      replace x := Lib.hid (x.out.below hb)
      replace ny := Lib.hid ny
      replace hE := Lib.hid (hE.out.trans (hb.mono hE.out.size))
      clear hb hC6 
      go_upto_region 5 with (fail)
      have hb : Below w6.heap.size w6 (w6.alloc (.cells #[.slice vya vyl vyc] 26)) := (Below.refl _ _).alloc (Nat.le_refl _) _
      have y' := Var.made ny.out
      replace a := Lib.hid (a.out.below hb)
      replace x := Lib.hid (x.out.below hb)
      replace ny := Lib.hid (ny.out.below hb)
      replace hE := Lib.hid (hE.out.trans (hb.mono hE.out.size))
      have y := Lib.hid y'
      clear hb y'
      obtain ⟨w7, hw⟩ : ∃ W, (w6.alloc (.cells #[.slice vya vyl vyc] 26)) = W := ⟨_, rfl⟩
      rw [hw] at hE a x ny y ⊢
      clear hw
      obtain ⟨gy, hgy⟩ : ∃ g, w6.heap.size = g := ⟨_, rfl⟩
      rw [hgy] at y ⊢
      clear hgy
      clear ny
      have hC8 := Lib.hid (of_N v 100 (by decide) hsv w7)
      go_wp2_with fail
      refine hC8.out.mono ?_
      rintro e w8 ⟨vm, rfl, nm, hb⟩
      obtain ⟨vma, vml, vmc, rfl⟩ := nm.shape
      rw [hmE.out] at nm
      replace a := Lib.hid (a.out.below hb)
      replace x := Lib.hid (x.out.below hb)
      replace y := Lib.hid (y.out.below hb)
      replace nm := Lib.hid nm
      replace hE := Lib.hid (hE.out.trans (hb.mono hE.out.size))
      clear hb hC8 
      go_upto_region 6 with (fail)
      have hb : Below w8.heap.size w8 (w8.alloc (.cells #[.slice vma vml vmc] 26)) := (Below.refl _ _).alloc (Nat.le_refl _) _
      have m' := Var.made nm.out
      replace a := Lib.hid (a.out.below hb)
      replace x := Lib.hid (x.out.below hb)
      replace y := Lib.hid (y.out.below hb)
      replace nm := Lib.hid (nm.out.below hb)
      replace hE := Lib.hid (hE.out.trans (hb.mono hE.out.size))
      have m := Lib.hid m'
      clear hb m'
      obtain ⟨w9, hw⟩ : ∃ W, (w8.alloc (.cells #[.slice vma vml vmc] 26)) = W := ⟨_, rfl⟩
      rw [hw] at hE a x y nm m ⊢
      clear hw
      obtain ⟨gm, hgm⟩ : ∃ g, w8.heap.size = g := ⟨_, rfl⟩
      rw [hgm] at m ⊢
      clear hgm
      clear nm
      obtain ⟨ma, ml, mc, mb, mn⟩ := m.out
      have zm := mb.cell
      replace mn := Lib.hid mn
      clear mb
      have hC10 := Lib.hid (mn.out.bits (Nat.le_trans hM.out (by decide)))
      go_wp2_with fail
      refine hC10.out.mono ?_
      rintro e w10 ⟨rfl, hb⟩
      rw [hbl.out]
      replace a := Lib.hid (a.out.below hb)
      replace x := Lib.hid (x.out.below hb)
      replace y := Lib.hid (y.out.below hb)
      replace m := Lib.hid (m.out.below hb)
      replace hE := Lib.hid (hE.out.trans (hb.mono hE.out.size))
      clear hb hC10 zm mn
      obtain ⟨xa, xl, xc, xb, xn⟩ := x.out
      have zx := xb.cell
      replace xn := Lib.hid xn
      clear xb
      obtain ⟨ya, yl, yc, yb, yn⟩ := y.out
      have zy := yb.cell
      replace yn := Lib.hid yn
      clear yb
      have hC11 := Lib.hid (Add_N xn.out yn.out (Nat.le_trans hX.out (by decide)) (Nat.le_trans hY.out (by decide)))
      go_wp2_with fail
      refine hC11.out.mono ?_
      rintro e w11 ⟨te, rfl, ne, hb⟩
      obtain ⟨tea, tel, tec, rfl⟩ := ne.shape
      rw [fz.out.2]
      rw [fz.out.1] at ne
      replace a := Lib.hid (a.out.below hb)
      replace x := Lib.hid (x.out.below hb)
      replace y := Lib.hid (y.out.below hb)
      replace m := Lib.hid (m.out.below hb)
      replace ne := Lib.hid ne
      replace hE := Lib.hid (hE.out.trans (hb.mono hE.out.size))
      clear hb hC11 zx xn zy yn
      go_upto_region 9 with (fail)
      have hb : Below w11.heap.size w11 (w11.alloc (.cells #[.slice tea tel tec] 26)) := (Below.refl _ _).alloc (Nat.le_refl _) _
      have e' := Var.made ne.out
      replace a := Lib.hid (a.out.below hb)
      replace x := Lib.hid (x.out.below hb)
      replace y := Lib.hid (y.out.below hb)
      replace m := Lib.hid (m.out.below hb)
      replace ne := Lib.hid (ne.out.below hb)
      replace hE := Lib.hid (hE.out.trans (hb.mono hE.out.size))
      have e := Lib.hid e'
      clear hb e'
      obtain ⟨w12, hw⟩ : ∃ W, (w11.alloc (.cells #[.slice tea tel tec] 26)) = W := ⟨_, rfl⟩
      rw [hw] at hE a x y m ne e ⊢
      clear hw
      obtain ⟨ge, hge⟩ : ∃ g, w11.heap.size = g := ⟨_, rfl⟩
      rw [hge] at e ⊢
      clear hge
      clear ne
      obtain ⟨aa, al, ac, ab, an⟩ := a.out
      have za := ab.cell
      replace an := Lib.hid an
      clear ab
      obtain ⟨xa, xl, xc, xb, xn⟩ := x.out
      have zx := xb.cell
      replace xn := Lib.hid xn
      clear xb
      obtain ⟨ma, ml, mc, mb, mn⟩ := m.out
      have zm := mb.cell
      replace mn := Lib.hid mn
      clear mb
      have hC13 := Lib.hid (Pow_N an.out xn.out mn.out (Nat.le_trans hA.out (by decide)) (Nat.le_trans hX.out (by decide)) (Nat.le_trans hM.out (by decide)))
      go_wp2_with fail
      refine hC13.out.mono ?_
      rintro e w13 ⟨tp, rfl, np, hb⟩
      obtain ⟨tpa, tpl, tpc, rfl⟩ := np.shape
      rw [hme.out]
      rw [hp.out] at np
      replace a := Lib.hid (a.out.below hb)
      replace x := Lib.hid (x.out.below hb)
      replace y := Lib.hid (y.out.below hb)
      replace m := Lib.hid (m.out.below hb)
      replace e := Lib.hid (e.out.below hb)
      replace np := Lib.hid np
      replace hE := Lib.hid (hE.out.trans (hb.mono hE.out.size))
      clear hb hC13 za an zx xn zm mn
      go_upto_region 10 with (fail)
      have hb : Below w13.heap.size w13 (w13.alloc (.cells #[.slice tpa tpl tpc] 26)) := (Below.refl _ _).alloc (Nat.le_refl _) _
      have p' := Var.made np.out
      replace a := Lib.hid (a.out.below hb)
      replace x := Lib.hid (x.out.below hb)
      replace y := Lib.hid (y.out.below hb)
      replace m := Lib.hid (m.out.below hb)
      replace e := Lib.hid (e.out.below hb)
      replace np := Lib.hid (np.out.below hb)
      replace hE := Lib.hid (hE.out.trans (hb.mono hE.out.size))
      have p := Lib.hid p'
      clear hb p'
      obtain ⟨w14, hw⟩ : ∃ W, (w13.alloc (.cells #[.slice tpa tpl tpc] 26)) = W := ⟨_, rfl⟩
      rw [hw] at hE a x y m e np p ⊢
      clear hw
      obtain ⟨gp, hgp⟩ : ∃ g, w13.heap.size = g := ⟨_, rfl⟩
      rw [hgp] at p ⊢
      clear hgp
      clear np
      obtain ⟨aa, al, ac, ab, an⟩ := a.out
      have za := ab.cell
      replace an := Lib.hid an
      clear ab
      obtain ⟨ya, yl, yc, yb, yn⟩ := y.out
      have zy := yb.cell
      replace yn := Lib.hid yn
      clear yb
      obtain ⟨ma, ml, mc, mb, mn⟩ := m.out
      have zm := mb.cell
      replace mn := Lib.hid mn
      clear mb
      have hC15 := Lib.hid (Pow_N an.out yn.out mn.out (Nat.le_trans hA.out (by decide)) (Nat.le_trans hY.out (by decide)) (Nat.le_trans hM.out (by decide)))
      go_wp2_with fail
      refine hC15.out.mono ?_
      rintro e w15 ⟨tq, rfl, nq, hb⟩
      obtain ⟨tqa, tql, tqc, rfl⟩ := nq.shape
      rw [hme.out]
      rw [hq.out] at nq
      replace a := Lib.hid (a.out.below hb)
      replace x := Lib.hid (x.out.below hb)
      replace y := Lib.hid (y.out.below hb)
      replace m := Lib.hid (m.out.below hb)
      replace e := Lib.hid (e.out.below hb)
      replace p := Lib.hid (p.out.below hb)
      replace nq := Lib.hid nq
      replace hE := Lib.hid (hE.out.trans (hb.mono hE.out.size))
      clear hb hC15 za an zy yn zm mn
      go_upto_region 11 with (fail)
      have hb : Below w15.heap.size w15 (w15.alloc (.cells #[.slice tqa tql tqc] 26)) := (Below.refl _ _).alloc (Nat.le_refl _) _
      have q' := Var.made nq.out
      replace a := Lib.hid (a.out.below hb)
      replace x := Lib.hid (x.out.below hb)
      replace y := Lib.hid (y.out.below hb)
      replace m := Lib.hid (m.out.below hb)
      replace e := Lib.hid (e.out.below hb)
      replace p := Lib.hid (p.out.below hb)
      replace nq := Lib.hid (nq.out.below hb)
      replace hE := Lib.hid (hE.out.trans (hb.mono hE.out.size))
      have q := Lib.hid q'
      clear hb q'
      obtain ⟨w16, hw⟩ : ∃ W, (w15.alloc (.cells #[.slice tqa tql tqc] 26)) = W := ⟨_, rfl⟩
      rw [hw] at hE a x y m e p nq q ⊢
      clear hw
      obtain ⟨gq, hgq⟩ : ∃ g, w15.heap.size = g := ⟨_, rfl⟩
      rw [hgq] at q ⊢
      clear hgq
      clear nq
      obtain ⟨aa, al, ac, ab, an⟩ := a.out
      have za := ab.cell
      replace an := Lib.hid an
      clear ab
      obtain ⟨ea, el, ec, eb, en⟩ := e.out
      have ze := eb.cell
      replace en := Lib.hid en
      clear eb
      obtain ⟨ma, ml, mc, mb, mn⟩ := m.out
      have zm := mb.cell
      replace mn := Lib.hid mn
      clear mb
      have hC17 := Lib.hid (Pow_N an.out en.out mn.out (Nat.le_trans hA.out (by decide)) (Nat.le_trans hE1.out (by decide)) (Nat.le_trans hM.out (by decide)))
      go_wp2_with fail
      refine hC17.out.mono ?_
      rintro e w17 ⟨tr, rfl, nr, hb⟩
      obtain ⟨tra, trl, trc, rfl⟩ := nr.shape
      rw [hme.out]
      rw [hr.out] at nr
      replace a := Lib.hid (a.out.below hb)
      replace x := Lib.hid (x.out.below hb)
      replace y := Lib.hid (y.out.below hb)
      replace m := Lib.hid (m.out.below hb)
      replace e := Lib.hid (e.out.below hb)
      replace p := Lib.hid (p.out.below hb)
      replace q := Lib.hid (q.out.below hb)
      replace nr := Lib.hid nr
      replace hE := Lib.hid (hE.out.trans (hb.mono hE.out.size))
      clear hb hC17 za an ze en zm mn
      go_upto_region 12 with (fail)
      have hb : Below w17.heap.size w17 (w17.alloc (.cells #[.slice tra trl trc] 26)) := (Below.refl _ _).alloc (Nat.le_refl _) _
      have r' := Var.made nr.out
      replace a := Lib.hid (a.out.below hb)
      replace x := Lib.hid (x.out.below hb)
      replace y := Lib.hid (y.out.below hb)
      replace m := Lib.hid (m.out.below hb)
      replace e := Lib.hid (e.out.below hb)
      replace p := Lib.hid (p.out.below hb)
      replace q := Lib.hid (q.out.below hb)
      replace nr := Lib.hid (nr.out.below hb)
      replace hE := Lib.hid (hE.out.trans (hb.mono hE.out.size))
      have r := Lib.hid r'
      clear hb r'
      obtain ⟨w18, hw⟩ : ∃ W, (w17.alloc (.cells #[.slice tra trl trc] 26)) = W := ⟨_, rfl⟩
      rw [hw] at hE a x y m e p q nr r ⊢
      clear hw
      obtain ⟨gr, hgr⟩ : ∃ g, w17.heap.size = g := ⟨_, rfl⟩
      rw [hgr] at r ⊢
      clear hgr
      clear nr
      obtain ⟨pa, pl, pc, pb, pn⟩ := p.out
      have zp := pb.cell
      replace pn := Lib.hid pn
      clear pb
      obtain ⟨qa, ql, qc, qb, qn⟩ := q.out
      have zq := qb.cell
      replace qn := Lib.hid qn
      clear qb
      have hC19 := Lib.hid (Mul_N pn.out qn.out (Nat.le_trans hP.out (by decide)) (Nat.le_trans hQ.out (by decide)))
      go_wp2_with fail
      refine hC19.out.mono ?_
      rintro e w19 ⟨tww, rfl, nww, hb⟩
      obtain ⟨twwa, twwl, twwc, rfl⟩ := nww.shape
      rw [fw.out.2]
      rw [fw.out.1] at nww
      replace a := Lib.hid (a.out.below hb)
      replace x := Lib.hid (x.out.below hb)
      replace y := Lib.hid (y.out.below hb)
      replace m := Lib.hid (m.out.below hb)
      replace e := Lib.hid (e.out.below hb)
      replace p := Lib.hid (p.out.below hb)
      replace q := Lib.hid (q.out.below hb)
      replace r := Lib.hid (r.out.below hb)
      replace nww := Lib.hid nww
      replace hE := Lib.hid (hE.out.trans (hb.mono hE.out.size))
      clear hb hC19 zp pn zq qn
      go_upto_region 13 with (fail)
      have hb : Below w19.heap.size w19 (w19.alloc (.cells #[.slice twwa twwl twwc] 26)) := (Below.refl _ _).alloc (Nat.le_refl _) _
      have ww' := Var.made nww.out
      replace a := Lib.hid (a.out.below hb)
      replace x := Lib.hid (x.out.below hb)
      replace y := Lib.hid (y.out.below hb)
      replace m := Lib.hid (m.out.below hb)
      replace e := Lib.hid (e.out.below hb)
      replace p := Lib.hid (p.out.below hb)
      replace q := Lib.hid (q.out.below hb)
      replace r := Lib.hid (r.out.below hb)
      replace nww := Lib.hid (nww.out.below hb)
      replace hE := Lib.hid (hE.out.trans (hb.mono hE.out.size))
      have ww := Lib.hid ww'
      clear hb ww'
      obtain ⟨w20, hw⟩ : ∃ W, (w19.alloc (.cells #[.slice twwa twwl twwc] 26)) = W := ⟨_, rfl⟩
      rw [hw] at hE a x y m e p q r nww ww ⊢
      clear hw
      obtain ⟨gww, hgww⟩ : ∃ g, w19.heap.size = g := ⟨_, rfl⟩
      rw [hgww] at ww ⊢
      clear hgww
      clear nww
      obtain ⟨wwa, wwl, wwc, wwb, wwn⟩ := ww.out
      have zww := wwb.cell
      replace wwn := Lib.hid wwn
      clear wwb
      obtain ⟨ma, ml, mc, mb, mn⟩ := m.out
      have zm := mb.cell
      replace mn := Lib.hid mn
      clear mb
      have hC21 := Lib.hid (Div_N wwn.out mn.out (Nat.le_trans hWW.out (by decide)) (Nat.le_trans hM.out (by decide)))
      go_wp2_with fail
      refine hC21.out.mono ?_
      rintro e w21 ⟨td, th, rfl, nd, nh, hb⟩
      obtain ⟨tda, tdl, tdc, rfl⟩ := nd.shape
      obtain ⟨tha, thl, thc, rfl⟩ := nh.shape
      rw [hdE.out]
      rw [hres.out] at nh
      replace a := Lib.hid (a.out.below hb)
      replace x := Lib.hid (x.out.below hb)
      replace y := Lib.hid (y.out.below hb)
      replace m := Lib.hid (m.out.below hb)
      replace e := Lib.hid (e.out.below hb)
      replace p := Lib.hid (p.out.below hb)
      replace q := Lib.hid (q.out.below hb)
      replace r := Lib.hid (r.out.below hb)
      replace ww := Lib.hid (ww.out.below hb)
      replace nd := Lib.hid nd
      replace nh := Lib.hid nh
      replace hE := Lib.hid (hE.out.trans (hb.mono hE.out.size))
      clear hb hC21 zww wwn zm mn
      go_upto_region 14 with (fail)
      have hb : Below w21.heap.size w21 (w21.alloc (.cells #[.slice tda tdl tdc] 26)) := (Below.refl _ _).alloc (Nat.le_refl _) _
      have d' := Var.made nd.out
      replace a := Lib.hid (a.out.below hb)
      replace x := Lib.hid (x.out.below hb)
      replace y := Lib.hid (y.out.below hb)
      replace m := Lib.hid (m.out.below hb)
      replace e := Lib.hid (e.out.below hb)
      replace p := Lib.hid (p.out.below hb)
      replace q := Lib.hid (q.out.below hb)
      replace r := Lib.hid (r.out.below hb)
      replace ww := Lib.hid (ww.out.below hb)
      replace nd := Lib.hid (nd.out.below hb)
      replace nh := Lib.hid (nh.out.below hb)
      replace hE := Lib.hid (hE.out.trans (hb.mono hE.out.size))
      have d := Lib.hid d'
      clear hb d'
      have hb : Below (w21.alloc (.cells #[.slice tda tdl tdc] 26)).heap.size (w21.alloc (.cells #[.slice tda tdl tdc] 26)) ((w21.alloc (.cells #[.slice tda tdl tdc] 26)).alloc (.cells #[.slice tha thl thc] 26)) := (Below.refl _ _).alloc (Nat.le_refl _) _
      have e1' := Var.made nh.out
      replace a := Lib.hid (a.out.below hb)
      replace x := Lib.hid (x.out.below hb)
      replace y := Lib.hid (y.out.below hb)
      replace m := Lib.hid (m.out.below hb)
      replace e := Lib.hid (e.out.below hb)
      replace p := Lib.hid (p.out.below hb)
      replace q := Lib.hid (q.out.below hb)
      replace r := Lib.hid (r.out.below hb)
      replace ww := Lib.hid (ww.out.below hb)
      replace nd := Lib.hid (nd.out.below hb)
      replace nh := Lib.hid (nh.out.below hb)
      replace d := Lib.hid (d.out.below hb)
      replace hE := Lib.hid (hE.out.trans (hb.mono hE.out.size))
      have e1 := Lib.hid e1'
      clear hb e1'
      simp only [World.size_alloc] at e1
      obtain ⟨w22, hw⟩ : ∃ W, ((w21.alloc (.cells #[.slice tda tdl tdc] 26)).alloc (.cells #[.slice tha thl thc] 26)) = W := ⟨_, rfl⟩
      rw [hw] at hE a x y m e p q r ww nd nh d e1 ⊢
      clear hw
      obtain ⟨gd, hgd⟩ : ∃ g, w21.heap.size = g := ⟨_, rfl⟩
      obtain ⟨ge1, hge1⟩ : ∃ g, w21.heap.size + 1 = g := ⟨_, rfl⟩
      rw [hge1] at e1 ⊢
      rw [hgd] at d ⊢
      clear hgd hge1
      clear nd
      clear nh
      obtain ⟨e1a, e1l, e1c, e1b, e1n⟩ := e1.out
      have ze1 := e1b.cell
      replace e1n := Lib.hid e1n
      clear e1b
      obtain ⟨ra, rl, rc, rb, rn⟩ := r.out
      have zr := rb.cell
      replace rn := Lib.hid rn
      clear rb
      have hC23 := Lib.hid (Cmp_N e1n.out rn.out (Nat.le_trans hR.out (by decide)) (Nat.le_trans hR.out (by decide)))
      go_wp2_with fail
      refine hC23.out.mono ?_
      rintro e w23 ⟨rfl, hb⟩
      rw [cmpN_self r0]
      replace a := Lib.hid (a.out.below hb)
      replace x := Lib.hid (x.out.below hb)
      replace y := Lib.hid (y.out.below hb)
      replace m := Lib.hid (m.out.below hb)
      replace e := Lib.hid (e.out.below hb)
      replace p := Lib.hid (p.out.below hb)
      replace q := Lib.hid (q.out.below hb)
      replace r := Lib.hid (r.out.below hb)
      replace ww := Lib.hid (ww.out.below hb)
      replace d := Lib.hid (d.out.below hb)
      replace e1 := Lib.hid (e1.out.below hb)
      replace hE := Lib.hid (hE.out.trans (hb.mono hE.out.size))
      clear hb hC23 ze1 e1n zr rn
      obtain ⟨aa, al, ac, ab, an⟩ := a.out
      have za := ab.cell
      replace an := Lib.hid an
      clear ab
      obtain ⟨ma, ml, mc, mb, mn⟩ := m.out
      have zm := mb.cell
      replace mn := Lib.hid mn
      clear mb
      have hC24 := Lib.hid (Inv_N an.out mn.out (Nat.le_trans hA.out (by decide)) (Nat.le_trans hM.out (by decide)))
      go_wp2_with fail
      refine hC24.out.mono ?_
      rintro e w24 ⟨ti, rfl, ni, hb⟩
      obtain ⟨tia, til, tic, rfl⟩ := ni.shape
      rw [hi.out]
      replace a := Lib.hid (a.out.below hb)
      replace x := Lib.hid (x.out.below hb)
      replace y := Lib.hid (y.out.below hb)
      replace m := Lib.hid (m.out.below hb)
      replace e := Lib.hid (e.out.below hb)
      replace p := Lib.hid (p.out.below hb)
      replace q := Lib.hid (q.out.below hb)
      replace r := Lib.hid (r.out.below hb)
      replace ww := Lib.hid (ww.out.below hb)
      replace d := Lib.hid (d.out.below hb)
      replace e1 := Lib.hid (e1.out.below hb)
      replace ni := Lib.hid ni
      replace hE := Lib.hid (hE.out.trans (hb.mono hE.out.size))
      clear hb hC24 za an zm mn
      go_upto_region 17 with (fail)
      have hb : Below w24.heap.size w24 (w24.alloc (.cells #[.slice tia til tic] 26)) := (Below.refl _ _).alloc (Nat.le_refl _) _
      have i' := Var.made ni.out
      replace a := Lib.hid (a.out.below hb)
      replace x := Lib.hid (x.out.below hb)
      replace y := Lib.hid (y.out.below hb)
      replace m := Lib.hid (m.out.below hb)
      replace e := Lib.hid (e.out.below hb)
      replace p := Lib.hid (p.out.below hb)
      replace q := Lib.hid (q.out.below hb)
      replace r := Lib.hid (r.out.below hb)
      replace ww := Lib.hid (ww.out.below hb)
      replace d := Lib.hid (d.out.below hb)
      replace e1 := Lib.hid (e1.out.below hb)
      replace ni := Lib.hid (ni.out.below hb)
      replace hE := Lib.hid (hE.out.trans (hb.mono hE.out.size))
      have i := Lib.hid i'
      clear hb i'
      obtain ⟨w25, hw⟩ : ∃ W, (w24.alloc (.cells #[.slice tia til tic] 26)) = W := ⟨_, rfl⟩
      rw [hw] at hE a x y m e p q r ww d e1 ni i ⊢
      clear hw
      obtain ⟨gi, hgi⟩ : ∃ g, w24.heap.size = g := ⟨_, rfl⟩
      rw [hgi] at i ⊢
      clear hgi
      clear ni
      go_wp2_with fail
      go_ret
      exact ⟨rfl, hE.out⟩
end Go.Proofs.YtffehdfddkgggaaDoor.Nu

namespace Go.Proofs.YtffehdfddkgggaaDoor.numberExponents
open Go.ChangeShapes Go.WideShapes Go.ChangeAt Go.RowKit
open Go.ChangeMaps (open_string shut_string)
set_option linter.unusedVariables false
set_option linter.unusedSimpArgs false
theorem laidOut : laidOutB Tryd.prog = true := by kernel_rfl
theorem own : ownKnob Tryd.prog.godebug = none := by kernel_rfl
set_option maxRecDepth 100000 in
theorem lifted (os : Os) (started : os.Started) (H : Type) (enc : TypeId × Value → H) :
    ReturnsInHanded {} Tryd.checked os 10 .any (fun w args => (Rows.numberExponentsSpec.pre enc Tryd.prog Tryd.f10 [] false w args ∧ laidMetH Tryd.prog Rows.numberExponentsRow.laid w) ∧ sizedMet enc Tryd.prog Tryd.f10 (OpenSpec.ofChange Rows.numberExponentsSpec) false w args)
      (Rows.numberExponentsSpec.post enc Tryd.prog Tryd.f10 false true false false) := by
  refine returnsInHanded_of_change_and (C := Tryd.checked) (X := fun w _ => laidMetH Tryd.prog Rows.numberExponentsRow.laid w) (fun _ _ _ hh h => h.of_heap hh) own started (by kernel_rfl) Tryd.func10
    (ChangeSpec.witness_shaped (enc := enc) (C := Tryd.checked) (os := os) (X := fun w _ => laidMetH Tryd.prog Rows.numberExponentsRow.laid w) false (World.laidAll Tryd.prog os Rows.numberExponentsRow.laid) #[.string ByteArray.empty, .string ByteArray.empty, .string ByteArray.empty, .string ByteArray.empty] 8 (World.laidAll_os _ _ _)
      (World.shaped_of_ZipB (by kernel_rfl) (by kernel_rfl)) (by kernel_rfl) (by kernel_rfl) (by kernel_rfl)
      (by rw [MakeChecks.laidMetH_plain _ _ _ (by kernel_rfl)]; exact laidMet_laidAll _ (by kernel_rfl) (by kernel_rfl))) ?_
  intro W base args ds gs before hval0 hW _ hsz0 _ _
  have hsz : (DataW.weightsEach Tryd.prog (Tryd.f10.params.toList ++ Rows.numberExponentsSpec.plain.varTypes Tryd.prog) (ds ++ gs)).all (· ≤ reachBytes) = true := hsz0
  have hval : ∀ (j : Nat) t v, Tryd.f10.params[j]? = some t → args[j]? = some v → Value.okWide Tryd.prog W .any base t v := hval0
  have hW' := hW
  obtain ⟨p, q, hA0, hV, rfl, hfz, hnd⟩ := hW
  have hA : DataW.TrodAll enc Tryd.prog W 0 (fun _ => true) true Tryd.f10.params.toList args.toList ds p := hA0
  rw [Tryd.params10] at hA hval hsz
  obtain ⟨v0, vs0, d0, ds0, p0, q0, hargs, rfl, rfl, h0, r0⟩ := trodAll_cons hA
  obtain ⟨v1, vs1, d1, ds1, p1, q1, rfl, rfl, rfl, h1, r1⟩ := trodAll_cons r0
  obtain ⟨v2, vs2, d2, ds2, p2, q2, rfl, rfl, rfl, h2, r2⟩ := trodAll_cons r1
  obtain ⟨v3, vs3, d3, ds3, p3, q3, rfl, rfl, rfl, h3, r3⟩ := trodAll_cons r2
  obtain ⟨rfl, rfl, rfl⟩ := trodAll_nil r3
  obtain rfl : args = #[v0, v1, v2, v3] := by cases args; simp_all
  obtain ⟨rfl, rfl⟩ := trodVars_none hV
  obtain ⟨a0, rfl, rfl, rfl, y0⟩ := open_string Tryd.underlying9 (hval 0 9 v0 rfl rfl) h0
  have n0 : a0.size ≤ 140737488351232 := by
    have z := sized_string hsz (j := 0) (t := 9) rfl rfl
    have hr : reachBytes = 140737488351232 := by decide
    rw [hr] at z
    have e2 : a0.data.toList.length = a0.size := Array.length_toList
    rw [e2] at z
    exact z
  obtain ⟨a1, rfl, rfl, rfl, y1⟩ := open_string Tryd.underlying9 (hval 1 9 v1 rfl rfl) h1
  have n1 : a1.size ≤ 140737488351232 := by
    have z := sized_string hsz (j := 1) (t := 9) rfl rfl
    have hr : reachBytes = 140737488351232 := by decide
    rw [hr] at z
    have e2 : a1.data.toList.length = a1.size := Array.length_toList
    rw [e2] at z
    exact z
  obtain ⟨a2, rfl, rfl, rfl, y2⟩ := open_string Tryd.underlying9 (hval 2 9 v2 rfl rfl) h2
  have n2 : a2.size ≤ 140737488351232 := by
    have z := sized_string hsz (j := 2) (t := 9) rfl rfl
    have hr : reachBytes = 140737488351232 := by decide
    rw [hr] at z
    have e2 : a2.data.toList.length = a2.size := Array.length_toList
    rw [e2] at z
    exact z
  obtain ⟨a3, rfl, rfl, rfl, y3⟩ := open_string Tryd.underlying9 (hval 3 9 v3 rfl rfl) h3
  have n3 : a3.size ≤ 140737488351232 := by
    have z := sized_string hsz (j := 3) (t := 9) rfl rfl
    have hr : reachBytes = 140737488351232 := by decide
    rw [hr] at z
    have e2 : a3.data.toList.length = a3.size := Array.length_toList
    rw [e2] at z
    exact z
  clear hA0 hval0 hsz0 hsz
  refine (Nu.NumberExponents_any a0 a1 a2 a3 (by omega) (by omega) (by omega) (by omega) W).mono fun e W' ⟨he, bel⟩ => ?_
  subst he
  exact ⟨_, rfl, _, _, _, [], _, [], hW', trodAll_mk1 (shut_bool Tryd.underlying4 _), (trodAll_cons_mk (shut_string Tryd.underlying9 y0) (trodAll_cons_mk (shut_string Tryd.underlying9 y1) (trodAll_cons_mk (shut_string Tryd.underlying9 y2) (trodAll_cons_mk (shut_string Tryd.underlying9 y3) trodAll_mk0)))), rfl, bel.frame _, fun h => by cases h⟩
theorem over : Rows.numberExponentsRow.holds Tryd.pinned (OpenSpec.ofChange Rows.numberExponentsSpec) :=
  OpenClaim.holds_of_wide 10 Tryd.f10 rfl rfl rfl rfl rfl rfl rfl ⟨rfl, rfl, rfl, rfl, rfl⟩ rfl rfl rfl rfl rfl (by kernel_rfl) Tryd.func10 (by kernel_rfl)
    (of_decide_eq_true (by kernel_rfl)) (by unfold Func.isWrapper; first | (rw [if_pos (by decide +kernel)]; kernel_rfl) | (rw [if_neg (by decide +kernel)]; exact ⟨rfl, rfl⟩))
    (fun os started H enc _ => lifted os started H enc)
theorem card : Rows.NumberExponentsCardSaid :=
  Claim7.holds_tied_plain_at .later [] [.data, .pinned] true (true, "acad1c1d1f756dec29b6445e289ef38fbf9a36fc57db2a92c0a2a1121c828621") false
    over (fun _ h => by cases h) (by kernel_rfl) (fun _ h => by cases h) numberExponents_row_tie rfl ⟨rfl, rfl⟩ (by kernel_rfl) rfl
    (fun f fn hf hfn => by
      obtain rfl : f = 10 := Option.some.inj ((show Tryd.prog.funcNamed "guidepost/guidepostlaw05.NumberExponents" = some 10 by kernel_rfl).symm.trans hf) |>.symm
      obtain rfl : fn = Tryd.f10 := (Option.some.inj (Tryd.func10.symm.trans hfn)).symm
      exact ⟨by kernel_rfl, fun j t ht => by
        rw [Tryd.params10] at ht
        have hm : t ∈ [9] := by have := Array.mem_of_getElem? ht; simp at this ⊢; omega
        have hall : ([9].all fun u => !Tryd.prog.wantsStandIn u) = true := by kernel_rfl
        exact (show Tryd.prog.wantsStandIn t = false by simpa using List.all_eq_true.1 hall t hm)⟩)
    (by kernel_rfl)
#print axioms card
end Go.Proofs.YtffehdfddkgggaaDoor.numberExponents
namespace Go.Proofs.YtffehdfddkgggaaDoor
/-- The card, under a short name, for the claim. -/
theorem numberExponents_holds : Rows.NumberExponentsCardSaid := numberExponents.card
end Go.Proofs.YtffehdfddkgggaaDoor
