/- guidepostlaw05.NumberPowers: for every input it returns true, and each argument reads behind the call as before; the listed variables are tied to the program's text. -/
import Derived.Test.YtffehdfddkgggaaDoorMFC
import Derived.Test.YtffehdfddkgggaaDoorRows
import Derived.Test.YtffehdfddkgggaaDoorCards
import Derived.Test.YtffehdfddkgggaaDoorTie
import Derived.WalkKit
import Derived.ProofKit
import Derived.OpenShut
import Derived.ShutString
import Derived.ChangeOld
import Derived.Below
import Derived.SizedLaws
import Derived.Carry
import Derived.LaidMore
import Derived.Lay
import Derived.SevenTiedAt
/- guidepostlaw05.NumberPowers: the walk. -/
namespace Go.Proofs.YtffehdfddkgggaaDoor.Nu
open Go.RowKit Rt
set_option linter.unusedSimpArgs false
set_option linter.unusedVariables false
theorem Long_B {w : World} {v : Value} {n : Nat} (h : NumAt w v n) (hb : blen n ≤ 1000000) : Calls Tryd.prog 34 #[v] w fun e w' => e = .returned (.int .i64 (errN n)) ∧ Below w.heap.size w w' :=
  (Long_N h hb).mono fun e w' ⟨h1, h2⟩ => ⟨h1, h2 ▸ Below.refl _ _⟩
theorem capN_le (n : Nat) : blen (capN n) ≤ 4096 := by
  unfold capN; split
  · exact Nat.zero_le _
  · omega
theorem is_cap (n : Nat) : (errN n ≠ 0 ∧ capN n = 0) ∨ (errN n = 0 ∧ capN n = n) := by
  unfold errN capN
  by_cases h : 4096 < blen n
  · exact .inl ⟨by rw [if_pos h]; decide, if_pos h⟩
  · exact .inr ⟨if_neg h, if_neg h⟩
theorem cap_is {e : Int} {c n : Nat} (h : (e ≠ 0 ∧ c = 0) ∨ (e = 0 ∧ c = n)) : (e ≠ 0 ∧ e = e ∧ c = 0) ∨ (e = 0 ∧ e = 0 ∧ c = n) :=
  h.elim (fun ⟨h1, h2⟩ => .inl ⟨h1, rfl, h2⟩) (fun ⟨h1, h2⟩ => .inr ⟨h1, h1, h2⟩)
theorem len_zero {w : World} {a : Option Addr} {l c : Nat} (h : NumAt w (.slice a l c) 0) : l = 0 := by
  obtain ⟨L, hN, hL, hS⟩ := h
  obtain rfl := (norm_zero hN).1 hL
  obtain ⟨a', c', h1, -, -⟩ := hS
  injection h1
theorem len_pos {w : World} {a : Option Addr} {l c n : Nat} (h : NumAt w (.slice a l c) n) (h0 : n ≠ 0) : 0 < l := by
  obtain ⟨L, hN, hL, hS⟩ := h
  obtain ⟨a', c', h1, -, -⟩ := hS
  injection h1 with h1 h2 h3
  subst h2
  rcases Nat.eq_zero_or_pos L.length with e | e
  · exact absurd (hL ▸ (norm_zero hN).2 (List.eq_nil_of_length_eq_zero e)) h0
  · exact e
theorem RBits_B {w : World} {v : Value} {n : Nat} (h : NumAt w v n) (hb : blen n ≤ 1000000) : Calls Tryd.prog 18 #[v] w fun e w' => e = .returned (.int .i64 (blen n : Int)) ∧ Below w.heap.size w w' :=
  (h.rbits hb).mono fun e w' ⟨h1, h2⟩ => ⟨h1, h2 ▸ Below.refl _ _⟩
theorem powV_le (a e m : Nat) : blen (powV a e m) ≤ blen m := by
  unfold powV
  split
  · rename_i h
    exact blen_mono (Nat.le_of_lt (Nat.mod_lt _ (Nat.pos_of_ne_zero (modE_zero.1 h).1)))
  · rw [blen_zero]; exact Nat.zero_le _
theorem invV_le (a m : Nat) : blen (invV a m) ≤ blen m := by
  unfold invV
  split
  · rename_i h
    split
    · exact blen_mono (Nat.le_of_lt (Nat.mod_lt _ (Nat.pos_of_ne_zero (modE_zero.1 h).1)))
    · rw [blen_zero]; exact Nat.zero_le _
  · rw [blen_zero]; exact Nat.zero_le _
set_option maxHeartbeats 8000000 in
set_option maxRecDepth 100000 in
theorem NumberPowers_any (s t u : ByteArray) (hss : s.size ≤ 140737488355328) (hst : t.size ≤ 140737488355328) (hsu : u.size ≤ 140737488355328) (w : World) :
    Calls Tryd.prog 4 #[.string s, .string t, .string u] w fun e w' => e = .returned (.bool true) ∧ Below w.heap.size w w' := by
  obtain ⟨c, hc⟩ : ∃ c, cutB t 40 = c := ⟨_, rfl⟩
  have hsc : c.size ≤ 140737488355328 := by rw [← hc]; exact Nat.le_trans (cutB_size t 40) (by decide)
  obtain ⟨a0, ha0⟩ : ∃ z, capN (numS s) = z := ⟨_, rfl⟩
  obtain ⟨k0, hk0⟩ : ∃ z, capN (numS c) = z := ⟨_, rfl⟩
  obtain ⟨m0, hm0⟩ : ∃ z, capN (numS u) = z := ⟨_, rfl⟩
  obtain ⟨es, hes⟩ : ∃ z, errN (numS s) = z := ⟨_, rfl⟩
  obtain ⟨ec, hec⟩ : ∃ z, errN (numS c) = z := ⟨_, rfl⟩
  obtain ⟨eu, heu⟩ : ∃ z, errN (numS u) = z := ⟨_, rfl⟩
  have hA : Hid (blen a0 ≤ 4096) := Lib.hid (by rw [← ha0]; exact capN_le _)
  have hK : Hid (blen k0 ≤ 4096) := Lib.hid (by rw [← hk0]; exact capN_le _)
  have hM : Hid (blen m0 ≤ 4096) := Lib.hid (by rw [← hm0]; exact capN_le _)
  have haE := Lib.hid ha0
  have hkE := Lib.hid hk0
  have hmE := Lib.hid hm0
  replace hes := Lib.hid hes
  replace hec := Lib.hid hec
  replace heu := Lib.hid heu
  obtain ⟨me, hme⟩ : ∃ z, modE m0 = z := ⟨_, rfl⟩
  obtain ⟨ie, hie⟩ : ∃ z, invE a0 m0 = z := ⟨_, rfl⟩
  obtain ⟨p0, hpE⟩ : ∃ z, powV a0 k0 m0 = z := ⟨_, rfl⟩
  obtain ⟨j0, hiE⟩ : ∃ z, invV a0 m0 = z := ⟨_, rfl⟩
  obtain ⟨bm, hbm⟩ : ∃ z, blen m0 = z := ⟨_, rfl⟩
  have hP : Hid (blen p0 ≤ 4096) := Lib.hid (by rw [← hpE]; exact Nat.le_trans (powV_le _ _ _) hM.out)
  have hJ : Hid (blen j0 ≤ 4096) := Lib.hid (by rw [← hiE]; exact Nat.le_trans (invV_le _ _) hM.out)
  have hcase : (m0 = 0 ∧ me = 1 ∧ ie = 1 ∧ p0 = 0 ∧ j0 = 0) ∨ (m0 ≠ 0 ∧ (2048 : Int) < (bm : Int) ∧ me = 3 ∧ ie = 3 ∧ p0 = 0 ∧ j0 = 0) ∨
      (m0 ≠ 0 ∧ blen m0 ≤ 2048 ∧ me = 0 ∧ p0 = a0 ^ k0 % m0 ∧ (((invF a0 m0).old = 1 ∧ ie = 0 ∧ j0 = (invF a0 m0).had % m0) ∨ (¬ (invF a0 m0).old = 1 ∧ ie = 13 ∧ j0 = 0))) := by
    unfold powV at hpE
    unfold invV at hiE
    unfold invE at hie
    rw [hme] at hpE hiE hie
    unfold modE at hme
    by_cases h0 : m0 = 0
    · rw [if_pos h0] at hme
      subst hme
      rw [if_neg (by decide)] at hpE hiE hie
      exact .inl ⟨h0, rfl, hie.symm, hpE.symm, hiE.symm⟩
    · rw [if_neg h0] at hme
      by_cases h1 : 2048 < blen m0
      · rw [if_pos h1] at hme
        subst hme
        rw [if_neg (by decide)] at hpE hiE hie
        exact .inr (.inl ⟨h0, by omega, rfl, hie.symm, hpE.symm, hiE.symm⟩)
      · rw [if_neg h1] at hme
        subst hme
        rw [if_pos rfl] at hpE hiE hie
        refine .inr (.inr ⟨h0, by omega, rfl, hpE.symm, ?_⟩)
        by_cases h2 : (invF a0 m0).old = 1
        · rw [if_pos h2] at hiE hie
          exact .inl ⟨h2, hie.symm, hiE.symm⟩
        · rw [if_neg h2] at hiE hie
          exact .inr ⟨h2, hie.symm, hiE.symm⟩
  replace hcase := Lib.hid hcase
  replace hme := Lib.hid hme
  replace hie := Lib.hid hie
  replace hpE := Lib.hid hpE
  replace hiE := Lib.hid hiE
  replace hbm := Lib.hid hbm
  clear ha0 hk0 hm0
  go_enter Tryd.func4, Tryd.ntmps4
  have hE := Lib.hid (Below.refl w.heap.size w)
  have hC1 := Lib.hid (examples_any w)
  go_wp2_with fail
  refine hC1.out.mono ?_
  rintro e w1 ⟨rfl, hb⟩
  replace hE := Lib.hid (hE.out.trans (hb.mono hE.out.size))
  clear hb hC1 
  go_upto_if 32 with (fail)
  go_cut [1] from 33 to 34 (fun s1 wx => s1 = .string c ∧ Hid (Below w.heap.size w wx))
  case first =>
    by_cases hl : (40 : Int) < (t.size : Int)
    · have hce : t.extract 0 40 = c := by rw [← hc]; unfold cutB; rw [if_pos (by omega)]
      have hl2 : (40 : Int) ≤ (t.size : Int) := by omega
      have hl3 : 40 < t.size := by omega
      have hl4 : 40 ≤ t.size := by omega
      clear hc
      go_wp2_with fail
      go_meet
      case rel => exact ⟨by first | rfl | rw [hce], hE⟩
    · have hce : Hid (t = c) := Lib.hid (by rw [← hc]; unfold cutB; rw [if_neg (by omega)])
      have hl3 : ¬ 40 < t.size := by omega
      clear hc
      go_wp2_with fail
      go_meet
      case rel => exact ⟨by rw [hce.out], hE⟩
  case rest =>
    clear hE
    obtain ⟨rfl, hE⟩ := hcut
    clear hc
    have hC2 := Lib.hid (Of_N s wc)
    go_wp2_with fail
    refine hC2.out.mono ?_
    rintro e w2 ⟨va, rfl, na, hb⟩
    obtain ⟨vaa, val, vac, rfl⟩ := na.shape
    rw [hes.out]
    rw [haE.out] at na
    replace na := Lib.hid na
    replace hE := Lib.hid (hE.out.trans (hb.mono hE.out.size))
    clear hb hC2 
    go_upto_region 5 with (fail)
    have hb : Below w2.heap.size w2 (w2.alloc (.cells #[.slice vaa val vac] 26)) := (Below.refl _ _).alloc (Nat.le_refl _) _
    have a' := Var.made na.out
    replace na := Lib.hid (na.out.below hb)
    replace hE := Lib.hid (hE.out.trans (hb.mono hE.out.size))
    have a := Lib.hid a'
    clear hb a'
    obtain ⟨w3, hw⟩ : ∃ W, (w2.alloc (.cells #[.slice vaa val vac] 26)) = W := ⟨_, rfl⟩
    rw [hw] at hE na a ⊢
    clear hw
    obtain ⟨ga, hga⟩ : ∃ g, w2.heap.size = g := ⟨_, rfl⟩
    rw [hga] at a ⊢
    clear hga
    clear na
    have hC4 := Lib.hid (Of_N c w3)
    go_wp2_with fail
    refine hC4.out.mono ?_
    rintro e w4 ⟨vk, rfl, nk, hb⟩
    obtain ⟨vka, vkl, vkc, rfl⟩ := nk.shape
    rw [hec.out]
    rw [hkE.out] at nk
    replace a := Lib.hid (a.out.below hb)
    replace nk := Lib.hid nk
    replace hE := Lib.hid (hE.out.trans (hb.mono hE.out.size))
    clear hb hC4 
    go_upto_region 6 with (fail)
    have hb : Below w4.heap.size w4 (w4.alloc (.cells #[.slice vka vkl vkc] 26)) := (Below.refl _ _).alloc (Nat.le_refl _) _
    have k' := Var.made nk.out
    replace a := Lib.hid (a.out.below hb)
    replace nk := Lib.hid (nk.out.below hb)
    replace hE := Lib.hid (hE.out.trans (hb.mono hE.out.size))
    have k := Lib.hid k'
    clear hb k'
    obtain ⟨w5, hw⟩ : ∃ W, (w4.alloc (.cells #[.slice vka vkl vkc] 26)) = W := ⟨_, rfl⟩
    rw [hw] at hE a nk k ⊢
    clear hw
    obtain ⟨gk, hgk⟩ : ∃ g, w4.heap.size = g := ⟨_, rfl⟩
    rw [hgk] at k ⊢
    clear hgk
    clear nk
    have hC6 := Lib.hid (Of_N u w5)
    go_wp2_with fail
    refine hC6.out.mono ?_
    rintro e w6 ⟨vm, rfl, nm, hb⟩
    obtain ⟨vma, vml, vmc, rfl⟩ := nm.shape
    rw [heu.out]
    rw [hmE.out] at nm
    replace a := Lib.hid (a.out.below hb)
    replace k := Lib.hid (k.out.below hb)
    replace nm := Lib.hid nm
    replace hE := Lib.hid (hE.out.trans (hb.mono hE.out.size))
    clear hb hC6 
    go_upto_region 7 with (fail)
    have hb : Below w6.heap.size w6 (w6.alloc (.cells #[.slice vma vml vmc] 26)) := (Below.refl _ _).alloc (Nat.le_refl _) _
    have m' := Var.made nm.out
    replace a := Lib.hid (a.out.below hb)
    replace k := Lib.hid (k.out.below hb)
    replace nm := Lib.hid (nm.out.below hb)
    replace hE := Lib.hid (hE.out.trans (hb.mono hE.out.size))
    have m := Lib.hid m'
    clear hb m'
    obtain ⟨w7, hw⟩ : ∃ W, (w6.alloc (.cells #[.slice vma vml vmc] 26)) = W := ⟨_, rfl⟩
    rw [hw] at hE a k nm m ⊢
    clear hw
    obtain ⟨gm, hgm⟩ : ∃ g, w6.heap.size = g := ⟨_, rfl⟩
    rw [hgm] at m ⊢
    clear hgm
    clear nm
    have hC8 := Lib.hid (ROf_N s hss w7)
    go_wp2_with fail
    refine hC8.out.mono ?_
    rintro e w8 ⟨vx, rfl, nx, hb⟩
    obtain ⟨vxa, vxl, vxc, rfl⟩ := nx.shape
    rw [hes.out]
    rw [haE.out] at nx
    replace a := Lib.hid (a.out.below hb)
    replace k := Lib.hid (k.out.below hb)
    replace m := Lib.hid (m.out.below hb)
    replace nx := Lib.hid nx
    replace hE := Lib.hid (hE.out.trans (hb.mono hE.out.size))
    clear hb hC8 
    have hC9 := Lib.hid (ROf_N c hsc w8)
    go_wp2_with fail
    refine hC9.out.mono ?_
    rintro e w9 ⟨vy, rfl, ny, hb⟩
    obtain ⟨vya, vyl, vyc, rfl⟩ := ny.shape
    rw [hec.out]
    rw [hkE.out] at ny
    replace a := Lib.hid (a.out.below hb)
    replace k := Lib.hid (k.out.below hb)
    replace m := Lib.hid (m.out.below hb)
    replace nx := Lib.hid (nx.out.below hb)
    replace ny := Lib.hid ny
    replace hE := Lib.hid (hE.out.trans (hb.mono hE.out.size))
    clear hb hC9 
    have hC10 := Lib.hid (ROf_N u hsu w9)
    go_wp2_with fail
    refine hC10.out.mono ?_
    rintro e w10 ⟨vz, rfl, nz, hb⟩
    obtain ⟨vza, vzl, vzc, rfl⟩ := nz.shape
    rw [heu.out]
    rw [hmE.out] at nz
    replace a := Lib.hid (a.out.below hb)
    replace k := Lib.hid (k.out.below hb)
    replace m := Lib.hid (m.out.below hb)
    replace nx := Lib.hid (nx.out.below hb)
    replace ny := Lib.hid (ny.out.below hb)
    replace nz := Lib.hid nz
    replace hE := Lib.hid (hE.out.trans (hb.mono hE.out.size))
    clear hb hC10 
    obtain ⟨aa, al, ac, ab, an⟩ := a.out
    have za := ab.cell
    replace an := Lib.hid an
    clear ab
    obtain ⟨ka, kl, kc, kb, kn⟩ := k.out
    have zk := kb.cell
    replace kn := Lib.hid kn
    clear kb
    obtain ⟨ma, ml, mc, mb, mn⟩ := m.out
    have zm := mb.cell
    replace mn := Lib.hid mn
    clear mb
    have hC11 := Lib.hid (Pow_N an.out kn.out mn.out (Nat.le_trans hA.out (by decide)) (Nat.le_trans hK.out (by decide)) (Nat.le_trans hM.out (by decide)))
    go_wp2_with fail
    refine hC11.out.mono ?_
    rintro e w11 ⟨tp, rfl, np, hb⟩
    obtain ⟨tpa, tpl, tpc, rfl⟩ := np.shape
    rw [hme.out]
    rw [hpE.out] at np
    replace a := Lib.hid (a.out.below hb)
    replace k := Lib.hid (k.out.below hb)
    replace m := Lib.hid (m.out.below hb)
    replace nx := Lib.hid (nx.out.below hb)
    replace ny := Lib.hid (ny.out.below hb)
    replace nz := Lib.hid (nz.out.below hb)
    replace np := Lib.hid np
    replace hE := Lib.hid (hE.out.trans (hb.mono hE.out.size))
    clear hb hC11 za an zk kn zm mn
    go_upto_region 11 with (fail)
    have hb : Below w11.heap.size w11 (w11.alloc (.cells #[.slice tpa tpl tpc] 26)) := (Below.refl _ _).alloc (Nat.le_refl _) _
    have p' := Var.made np.out
    replace a := Lib.hid (a.out.below hb)
    replace k := Lib.hid (k.out.below hb)
    replace m := Lib.hid (m.out.below hb)
    replace nx := Lib.hid (nx.out.below hb)
    replace ny := Lib.hid (ny.out.below hb)
    replace nz := Lib.hid (nz.out.below hb)
    replace np := Lib.hid (np.out.below hb)
    replace hE := Lib.hid (hE.out.trans (hb.mono hE.out.size))
    have p := Lib.hid p'
    clear hb p'
    obtain ⟨w12, hw⟩ : ∃ W, (w11.alloc (.cells #[.slice tpa tpl tpc] 26)) = W := ⟨_, rfl⟩
    rw [hw] at hE a k m nx ny nz np p ⊢
    clear hw
    obtain ⟨gp, hgp⟩ : ∃ g, w11.heap.size = g := ⟨_, rfl⟩
    rw [hgp] at p ⊢
    clear hgp
    clear np
    obtain ⟨aa, al, ac, ab, an⟩ := a.out
    have za := ab.cell
    replace an := Lib.hid an
    clear ab
    obtain ⟨ma, ml, mc, mb, mn⟩ := m.out
    have zm := mb.cell
    replace mn := Lib.hid mn
    clear mb
    have hC13 := Lib.hid (Inv_N an.out mn.out (Nat.le_trans hA.out (by decide)) (Nat.le_trans hM.out (by decide)))
    go_wp2_with fail
    refine hC13.out.mono ?_
    rintro e w13 ⟨tj, rfl, nj, hb⟩
    obtain ⟨tja, tjl, tjc, rfl⟩ := nj.shape
    rw [hie.out]
    rw [hiE.out] at nj
    replace a := Lib.hid (a.out.below hb)
    replace k := Lib.hid (k.out.below hb)
    replace m := Lib.hid (m.out.below hb)
    replace nx := Lib.hid (nx.out.below hb)
    replace ny := Lib.hid (ny.out.below hb)
    replace nz := Lib.hid (nz.out.below hb)
    replace p := Lib.hid (p.out.below hb)
    replace nj := Lib.hid nj
    replace hE := Lib.hid (hE.out.trans (hb.mono hE.out.size))
    clear hb hC13 za an zm mn
    go_upto_region 12 with (fail)
    have hb : Below w13.heap.size w13 (w13.alloc (.cells #[.slice tja tjl tjc] 26)) := (Below.refl _ _).alloc (Nat.le_refl _) _
    have j' := Var.made nj.out
    replace a := Lib.hid (a.out.below hb)
    replace k := Lib.hid (k.out.below hb)
    replace m := Lib.hid (m.out.below hb)
    replace nx := Lib.hid (nx.out.below hb)
    replace ny := Lib.hid (ny.out.below hb)
    replace nz := Lib.hid (nz.out.below hb)
    replace p := Lib.hid (p.out.below hb)
    replace nj := Lib.hid (nj.out.below hb)
    replace hE := Lib.hid (hE.out.trans (hb.mono hE.out.size))
    have j := Lib.hid j'
    clear hb j'
    obtain ⟨w14, hw⟩ : ∃ W, (w13.alloc (.cells #[.slice tja tjl tjc] 26)) = W := ⟨_, rfl⟩
    rw [hw] at hE a k m nx ny nz p nj j ⊢
    clear hw
    obtain ⟨gj, hgj⟩ : ∃ g, w13.heap.size = g := ⟨_, rfl⟩
    rw [hgj] at j ⊢
    clear hgj
    clear nj
    clear a k m
    rcases hcase.out with hA0 | hB0 | hC0
    · have hA1 := Lib.hid hA0
      clear hA0 hcase
      obtain ⟨h0, rfl, rfl, rfl, rfl⟩ := hA1.out
      obtain rfl : vzl = 0 := len_zero (h0 ▸ nz.out)
      obtain ⟨pa, pl, pc, pb, pn⟩ := p.out
      have zp := pb.cell
      replace pn := Lib.hid pn
      clear pb
      obtain ⟨ja, jl, jc, jb, jn⟩ := j.out
      have zj := jb.cell
      replace jn := Lib.hid jn
      clear jb
      go_upto_region 13 with (fail)
      have hb : Below w14.heap.size w14 w14.drew := (Below.refl _ _).drew
      replace nx := Lib.hid (nx.out.below hb)
      replace ny := Lib.hid (ny.out.below hb)
      replace nz := Lib.hid (nz.out.below hb)
      replace p := Lib.hid (p.out.below hb)
      replace j := Lib.hid (j.out.below hb)
      replace pn := Lib.hid (pn.out.below hb)
      replace jn := Lib.hid (jn.out.below hb)
      replace zp := (hb.cell (World.block_lt_of_cell? _ _ zp)).trans zp
      replace zj := (hb.cell (World.block_lt_of_cell? _ _ zj)).trans zj
      replace hE := Lib.hid (hE.out.trans (hb.mono hE.out.size))
      clear hb
      refine Rt.wp_region_ordM [0, 0, 0, 0, 0, 0, 0, 0, 0, 0, 1, 2, 1, 2, 0, 0, 0, 0] [0, 1, 2, 3, 4, 5, 6, 7, 8, 9, 10, 12, 11, 13, 14, 15, 16, 17] (by kernel_rfl) (by kernel_rfl) ?_
      obtain ⟨w15, hw⟩ : ∃ W, w14.drew = W := ⟨_, rfl⟩
      rw [hw] at hE nx ny nz p j pn jn zp zj ⊢
      clear hw
      apply ord_move rfl rfl rfl rfl; (· (simp only [Act.put, Act.eval, List.setIfInBounds_toArray, List.set_cons_zero, List.set_cons_succ, Array.getD_eq_getD_getElem?, List.getElem?_toArray, List.getElem?_cons_zero, List.getElem?_cons_succ, Option.getD_some, List.getElem_toArray, List.getElem_cons_succ, List.getElem_cons_zero]; with_reducible rfl))
      apply ord_move rfl rfl rfl rfl; (· (simp only [Act.put, Act.eval, List.setIfInBounds_toArray, List.set_cons_zero, List.set_cons_succ, Array.getD_eq_getD_getElem?, List.getElem?_toArray, List.getElem?_cons_zero, List.getElem?_cons_succ, Option.getD_some, List.getElem_toArray, List.getElem_cons_succ, List.getElem_cons_zero]; with_reducible rfl))
      apply ord_pure rfl rfl rfl; (· (intro w; go_simp; with_reducible rfl)); (· (simp only [Act.put, Act.eval, List.setIfInBounds_toArray, List.set_cons_zero, List.set_cons_succ, Array.getD_eq_getD_getElem?, List.getElem?_toArray, List.getElem?_cons_zero, List.getElem?_cons_succ, Option.getD_some, List.getElem_toArray, List.getElem_cons_succ, List.getElem_cons_zero]; with_reducible rfl))
      apply ord_pure rfl rfl rfl; (· (intro w; go_simp; with_reducible rfl)); (· (simp only [Act.put, Act.eval, List.setIfInBounds_toArray, List.set_cons_zero, List.set_cons_succ, Array.getD_eq_getD_getElem?, List.getElem?_toArray, List.getElem?_cons_zero, List.getElem?_cons_succ, Option.getD_some, List.getElem_toArray, List.getElem_cons_succ, List.getElem_cons_zero]; with_reducible rfl))
      apply ord_pure rfl rfl rfl; (· (intro w; go_simp; with_reducible rfl)); (· (simp only [Act.put, Act.eval, List.setIfInBounds_toArray, List.set_cons_zero, List.set_cons_succ, Array.getD_eq_getD_getElem?, List.getElem?_toArray, List.getElem?_cons_zero, List.getElem?_cons_succ, Option.getD_some, List.getElem_toArray, List.getElem_cons_succ, List.getElem_cons_zero]; with_reducible rfl))
      apply ord_move rfl rfl rfl rfl; (· (simp only [Act.put, Act.eval, List.setIfInBounds_toArray, List.set_cons_zero, List.set_cons_succ, Array.getD_eq_getD_getElem?, List.getElem?_toArray, List.getElem?_cons_zero, List.getElem?_cons_succ, Option.getD_some, List.getElem_toArray, List.getElem_cons_succ, List.getElem_cons_zero]; with_reducible rfl))
      apply ord_pure rfl rfl rfl; (· (intro w; go_simp; with_reducible rfl)); (· (simp only [Act.put, Act.eval, List.setIfInBounds_toArray, List.set_cons_zero, List.set_cons_succ, Array.getD_eq_getD_getElem?, List.getElem?_toArray, List.getElem?_cons_zero, List.getElem?_cons_succ, Option.getD_some, List.getElem_toArray, List.getElem_cons_succ, List.getElem_cons_zero]; with_reducible rfl))
      apply ord_pure rfl rfl rfl; (· (intro w; go_simp; with_reducible rfl)); (· (simp only [Act.put, Act.eval, List.setIfInBounds_toArray, List.set_cons_zero, List.set_cons_succ, Array.getD_eq_getD_getElem?, List.getElem?_toArray, List.getElem?_cons_zero, List.getElem?_cons_succ, Option.getD_some, List.getElem_toArray, List.getElem_cons_succ, List.getElem_cons_zero]; with_reducible rfl))
      apply ord_pure rfl rfl rfl; (· (intro w; go_simp; with_reducible rfl)); (· (simp only [Act.put, Act.eval, List.setIfInBounds_toArray, List.set_cons_zero, List.set_cons_succ, Array.getD_eq_getD_getElem?, List.getElem?_toArray, List.getElem?_cons_zero, List.getElem?_cons_succ, Option.getD_some, List.getElem_toArray, List.getElem_cons_succ, List.getElem_cons_zero]; with_reducible rfl))
      apply ord_move rfl rfl rfl rfl; (· (simp only [Act.put, Act.eval, List.setIfInBounds_toArray, List.set_cons_zero, List.set_cons_succ, Array.getD_eq_getD_getElem?, List.getElem?_toArray, List.getElem?_cons_zero, List.getElem?_cons_succ, Option.getD_some, List.getElem_toArray, List.getElem_cons_succ, List.getElem_cons_zero]; with_reducible rfl))
      apply ord_read rfl rfl rfl; (· (intro W hW; have g0 := cell_up hW zp; have g1 := cell_up hW zj; go_simp; with_reducible rfl)); (· (simp only [Act.put, Act.eval, List.setIfInBounds_toArray, List.set_cons_zero, List.set_cons_succ, Array.getD_eq_getD_getElem?, List.getElem?_toArray, List.getElem?_cons_zero, List.getElem?_cons_succ, Option.getD_some, List.getElem_toArray, List.getElem_cons_succ, List.getElem_cons_zero]; with_reducible rfl))
      apply ord_read rfl rfl rfl; (· (intro W hW; have g0 := cell_up hW zp; have g1 := cell_up hW zj; go_simp; with_reducible rfl)); (· (simp only [Act.put, Act.eval, List.setIfInBounds_toArray, List.set_cons_zero, List.set_cons_succ, Array.getD_eq_getD_getElem?, List.getElem?_toArray, List.getElem?_cons_zero, List.getElem?_cons_succ, Option.getD_some, List.getElem_toArray, List.getElem_cons_succ, List.getElem_cons_zero]; with_reducible rfl))
      refine ord_call rfl rfl rfl (by go_simp; exact ⟨rfl, rfl⟩) ?_
      refine (pn.out.bits (by decide)).mono ?_
      rintro e w16 ⟨rfl, hb⟩
      refine ⟨_, rfl, hb, ?_⟩
      rw [blen_zero]
      replace nx := Lib.hid (nx.out.below hb)
      replace ny := Lib.hid (ny.out.below hb)
      replace nz := Lib.hid (nz.out.below hb)
      replace p := Lib.hid (p.out.below hb)
      replace j := Lib.hid (j.out.below hb)
      replace pn := Lib.hid (pn.out.below hb)
      replace jn := Lib.hid (jn.out.below hb)
      replace zp := (hb.cell (World.block_lt_of_cell? _ _ zp)).trans zp
      replace zj := (hb.cell (World.block_lt_of_cell? _ _ zj)).trans zj
      replace hE := Lib.hid (hE.out.trans (hb.mono hE.out.size))
      clear hb
      simp only [Act.put, Act.eval, List.setIfInBounds_toArray, List.set_cons_zero, List.set_cons_succ, Array.getD_eq_getD_getElem?, List.getElem?_toArray, List.getElem?_cons_zero, List.getElem?_cons_succ, Option.getD_some, List.getElem_toArray, List.getElem_cons_succ, List.getElem_cons_zero]
      refine ord_call rfl rfl rfl (by go_simp; exact ⟨rfl, rfl⟩) ?_
      refine (jn.out.bits (by decide)).mono ?_
      rintro e w17 ⟨rfl, hb⟩
      refine ⟨_, rfl, hb, ?_⟩
      rw [blen_zero]
      replace nx := Lib.hid (nx.out.below hb)
      replace ny := Lib.hid (ny.out.below hb)
      replace nz := Lib.hid (nz.out.below hb)
      replace p := Lib.hid (p.out.below hb)
      replace j := Lib.hid (j.out.below hb)
      replace pn := Lib.hid (pn.out.below hb)
      replace jn := Lib.hid (jn.out.below hb)
      replace zp := (hb.cell (World.block_lt_of_cell? _ _ zp)).trans zp
      replace zj := (hb.cell (World.block_lt_of_cell? _ _ zj)).trans zj
      replace hE := Lib.hid (hE.out.trans (hb.mono hE.out.size))
      clear hb
      simp only [Act.put, Act.eval, List.setIfInBounds_toArray, List.set_cons_zero, List.set_cons_succ, Array.getD_eq_getD_getElem?, List.getElem?_toArray, List.getElem?_cons_zero, List.getElem?_cons_succ, Option.getD_some, List.getElem_toArray, List.getElem_cons_succ, List.getElem_cons_zero]
      apply ord_pure rfl rfl rfl; (· (intro w; go_simp; with_reducible rfl)); (· (simp only [Act.put, Act.eval, List.setIfInBounds_toArray, List.set_cons_zero, List.set_cons_succ, Array.getD_eq_getD_getElem?, List.getElem?_toArray, List.getElem?_cons_zero, List.getElem?_cons_succ, Option.getD_some, List.getElem_toArray, List.getElem_cons_succ, List.getElem_cons_zero]; with_reducible rfl))
      apply ord_pure rfl rfl rfl; (· (intro w; go_simp; with_reducible rfl)); (· (simp only [Act.put, Act.eval, List.setIfInBounds_toArray, List.set_cons_zero, List.set_cons_succ, Array.getD_eq_getD_getElem?, List.getElem?_toArray, List.getElem?_cons_zero, List.getElem?_cons_succ, Option.getD_some, List.getElem_toArray, List.getElem_cons_succ, List.getElem_cons_zero]; with_reducible rfl))
      apply ord_pure rfl rfl rfl; (· (intro w; go_simp; with_reducible rfl)); (· (simp only [Act.put, Act.eval, List.setIfInBounds_toArray, List.set_cons_zero, List.set_cons_succ, Array.getD_eq_getD_getElem?, List.getElem?_toArray, List.getElem?_cons_zero, List.getElem?_cons_succ, Option.getD_some, List.getElem_toArray, List.getElem_cons_succ, List.getElem_cons_zero]; with_reducible rfl))
      apply ord_assign rfl rfl rfl rfl; (· (simp only [Act.put, Act.eval, List.setIfInBounds_toArray, List.set_cons_zero, List.set_cons_succ, Array.getD_eq_getD_getElem?, List.getElem?_toArray, List.getElem?_cons_zero, List.getElem?_cons_succ, Option.getD_some, List.getElem_toArray, List.getElem_cons_succ, List.getElem_cons_zero]; with_reducible rfl))
      with_reducible refine ord_nil ?_
      clear zp pn zj jn
      go_wp2_with fail
      go_ret
      exact ⟨rfl, hE.out⟩
    · have hB1 := Lib.hid hB0
      clear hB0 hcase
      obtain ⟨h0', hbg, rfl, rfl, rfl, rfl⟩ := hB1.out
      have h0 := Lib.hid h0'
      clear h0'
      have hzl0 : ((vzl : Int) == 0) = false := by
        have := len_pos nz.out h0.out
        simp; omega
      have hC15 := Lib.hid (RBits_B nz.out (Nat.le_trans hM.out (by decide)))
      go_wp2_with fail
      refine hC15.out.mono ?_
      rintro e w15 ⟨rfl, hb⟩
      rw [hbm.out]
      replace nx := Lib.hid (nx.out.below hb)
      replace ny := Lib.hid (ny.out.below hb)
      replace nz := Lib.hid (nz.out.below hb)
      replace p := Lib.hid (p.out.below hb)
      replace j := Lib.hid (j.out.below hb)
      replace hE := Lib.hid (hE.out.trans (hb.mono hE.out.size))
      clear hb hC15 
      obtain ⟨pa, pl, pc, pb, pn⟩ := p.out
      have zp := pb.cell
      replace pn := Lib.hid pn
      clear pb
      obtain ⟨ja, jl, jc, jb, jn⟩ := j.out
      have zj := jb.cell
      replace jn := Lib.hid jn
      clear jb
      go_upto_region 15 with (fail)
      have hb : Below w15.heap.size w15 w15.drew := (Below.refl _ _).drew
      replace nx := Lib.hid (nx.out.below hb)
      replace ny := Lib.hid (ny.out.below hb)
      replace nz := Lib.hid (nz.out.below hb)
      replace p := Lib.hid (p.out.below hb)
      replace j := Lib.hid (j.out.below hb)
      replace pn := Lib.hid (pn.out.below hb)
      replace jn := Lib.hid (jn.out.below hb)
      replace zp := (hb.cell (World.block_lt_of_cell? _ _ zp)).trans zp
      replace zj := (hb.cell (World.block_lt_of_cell? _ _ zj)).trans zj
      replace hE := Lib.hid (hE.out.trans (hb.mono hE.out.size))
      clear hb
      refine Rt.wp_region_ordM [0, 0, 0, 0, 0, 0, 0, 0, 0, 0, 1, 2, 1, 2, 0, 0, 0, 0] [0, 1, 2, 3, 4, 5, 6, 7, 8, 9, 10, 12, 11, 13, 14, 15, 16, 17] (by kernel_rfl) (by kernel_rfl) ?_
      obtain ⟨w16, hw⟩ : ∃ W, w15.drew = W := ⟨_, rfl⟩
      rw [hw] at hE nx ny nz p j pn jn zp zj ⊢
      clear hw
      apply ord_move rfl rfl rfl rfl; (· (simp only [Act.put, Act.eval, List.setIfInBounds_toArray, List.set_cons_zero, List.set_cons_succ, Array.getD_eq_getD_getElem?, List.getElem?_toArray, List.getElem?_cons_zero, List.getElem?_cons_succ, Option.getD_some, List.getElem_toArray, List.getElem_cons_succ, List.getElem_cons_zero]; with_reducible rfl))
      apply ord_move rfl rfl rfl rfl; (· (simp only [Act.put, Act.eval, List.setIfInBounds_toArray, List.set_cons_zero, List.set_cons_succ, Array.getD_eq_getD_getElem?, List.getElem?_toArray, List.getElem?_cons_zero, List.getElem?_cons_succ, Option.getD_some, List.getElem_toArray, List.getElem_cons_succ, List.getElem_cons_zero]; with_reducible rfl))
      apply ord_pure rfl rfl rfl; (· (intro w; go_simp; with_reducible rfl)); (· (simp only [Act.put, Act.eval, List.setIfInBounds_toArray, List.set_cons_zero, List.set_cons_succ, Array.getD_eq_getD_getElem?, List.getElem?_toArray, List.getElem?_cons_zero, List.getElem?_cons_succ, Option.getD_some, List.getElem_toArray, List.getElem_cons_succ, List.getElem_cons_zero]; with_reducible rfl))
      apply ord_pure rfl rfl rfl; (· (intro w; go_simp; with_reducible rfl)); (· (simp only [Act.put, Act.eval, List.setIfInBounds_toArray, List.set_cons_zero, List.set_cons_succ, Array.getD_eq_getD_getElem?, List.getElem?_toArray, List.getElem?_cons_zero, List.getElem?_cons_succ, Option.getD_some, List.getElem_toArray, List.getElem_cons_succ, List.getElem_cons_zero]; with_reducible rfl))
      apply ord_pure rfl rfl rfl; (· (intro w; go_simp; with_reducible rfl)); (· (simp only [Act.put, Act.eval, List.setIfInBounds_toArray, List.set_cons_zero, List.set_cons_succ, Array.getD_eq_getD_getElem?, List.getElem?_toArray, List.getElem?_cons_zero, List.getElem?_cons_succ, Option.getD_some, List.getElem_toArray, List.getElem_cons_succ, List.getElem_cons_zero]; with_reducible rfl))
      apply ord_move rfl rfl rfl rfl; (· (simp only [Act.put, Act.eval, List.setIfInBounds_toArray, List.set_cons_zero, List.set_cons_succ, Array.getD_eq_getD_getElem?, List.getElem?_toArray, List.getElem?_cons_zero, List.getElem?_cons_succ, Option.getD_some, List.getElem_toArray, List.getElem_cons_succ, List.getElem_cons_zero]; with_reducible rfl))
      apply ord_pure rfl rfl rfl; (· (intro w; go_simp; with_reducible rfl)); (· (simp only [Act.put, Act.eval, List.setIfInBounds_toArray, List.set_cons_zero, List.set_cons_succ, Array.getD_eq_getD_getElem?, List.getElem?_toArray, List.getElem?_cons_zero, List.getElem?_cons_succ, Option.getD_some, List.getElem_toArray, List.getElem_cons_succ, List.getElem_cons_zero]; with_reducible rfl))
      apply ord_pure rfl rfl rfl; (· (intro w; go_simp; with_reducible rfl)); (· (simp only [Act.put, Act.eval, List.setIfInBounds_toArray, List.set_cons_zero, List.set_cons_succ, Array.getD_eq_getD_getElem?, List.getElem?_toArray, List.getElem?_cons_zero, List.getElem?_cons_succ, Option.getD_some, List.getElem_toArray, List.getElem_cons_succ, List.getElem_cons_zero]; with_reducible rfl))
      apply ord_pure rfl rfl rfl; (· (intro w; go_simp; with_reducible rfl)); (· (simp only [Act.put, Act.eval, List.setIfInBounds_toArray, List.set_cons_zero, List.set_cons_succ, Array.getD_eq_getD_getElem?, List.getElem?_toArray, List.getElem?_cons_zero, List.getElem?_cons_succ, Option.getD_some, List.getElem_toArray, List.getElem_cons_succ, List.getElem_cons_zero]; with_reducible rfl))
      apply ord_move rfl rfl rfl rfl; (· (simp only [Act.put, Act.eval, List.setIfInBounds_toArray, List.set_cons_zero, List.set_cons_succ, Array.getD_eq_getD_getElem?, List.getElem?_toArray, List.getElem?_cons_zero, List.getElem?_cons_succ, Option.getD_some, List.getElem_toArray, List.getElem_cons_succ, List.getElem_cons_zero]; with_reducible rfl))
      apply ord_read rfl rfl rfl; (· (intro W hW; have g0 := cell_up hW zp; have g1 := cell_up hW zj; go_simp; with_reducible rfl)); (· (simp only [Act.put, Act.eval, List.setIfInBounds_toArray, List.set_cons_zero, List.set_cons_succ, Array.getD_eq_getD_getElem?, List.getElem?_toArray, List.getElem?_cons_zero, List.getElem?_cons_succ, Option.getD_some, List.getElem_toArray, List.getElem_cons_succ, List.getElem_cons_zero]; with_reducible rfl))
      apply ord_read rfl rfl rfl; (· (intro W hW; have g0 := cell_up hW zp; have g1 := cell_up hW zj; go_simp; with_reducible rfl)); (· (simp only [Act.put, Act.eval, List.setIfInBounds_toArray, List.set_cons_zero, List.set_cons_succ, Array.getD_eq_getD_getElem?, List.getElem?_toArray, List.getElem?_cons_zero, List.getElem?_cons_succ, Option.getD_some, List.getElem_toArray, List.getElem_cons_succ, List.getElem_cons_zero]; with_reducible rfl))
      refine ord_call rfl rfl rfl (by go_simp; exact ⟨rfl, rfl⟩) ?_
      refine (pn.out.bits (by decide)).mono ?_
      rintro e w17 ⟨rfl, hb⟩
      refine ⟨_, rfl, hb, ?_⟩
      rw [blen_zero]
      replace nx := Lib.hid (nx.out.below hb)
      replace ny := Lib.hid (ny.out.below hb)
      replace nz := Lib.hid (nz.out.below hb)
      replace p := Lib.hid (p.out.below hb)
      replace j := Lib.hid (j.out.below hb)
      replace pn := Lib.hid (pn.out.below hb)
      replace jn := Lib.hid (jn.out.below hb)
      replace zp := (hb.cell (World.block_lt_of_cell? _ _ zp)).trans zp
      replace zj := (hb.cell (World.block_lt_of_cell? _ _ zj)).trans zj
      replace hE := Lib.hid (hE.out.trans (hb.mono hE.out.size))
      clear hb
      simp only [Act.put, Act.eval, List.setIfInBounds_toArray, List.set_cons_zero, List.set_cons_succ, Array.getD_eq_getD_getElem?, List.getElem?_toArray, List.getElem?_cons_zero, List.getElem?_cons_succ, Option.getD_some, List.getElem_toArray, List.getElem_cons_succ, List.getElem_cons_zero]
      refine ord_call rfl rfl rfl (by go_simp; exact ⟨rfl, rfl⟩) ?_
      refine (jn.out.bits (by decide)).mono ?_
      rintro e w18 ⟨rfl, hb⟩
      refine ⟨_, rfl, hb, ?_⟩
      rw [blen_zero]
      replace nx := Lib.hid (nx.out.below hb)
      replace ny := Lib.hid (ny.out.below hb)
      replace nz := Lib.hid (nz.out.below hb)
      replace p := Lib.hid (p.out.below hb)
      replace j := Lib.hid (j.out.below hb)
      replace pn := Lib.hid (pn.out.below hb)
      replace jn := Lib.hid (jn.out.below hb)
      replace zp := (hb.cell (World.block_lt_of_cell? _ _ zp)).trans zp
      replace zj := (hb.cell (World.block_lt_of_cell? _ _ zj)).trans zj
      replace hE := Lib.hid (hE.out.trans (hb.mono hE.out.size))
      clear hb
      simp only [Act.put, Act.eval, List.setIfInBounds_toArray, List.set_cons_zero, List.set_cons_succ, Array.getD_eq_getD_getElem?, List.getElem?_toArray, List.getElem?_cons_zero, List.getElem?_cons_succ, Option.getD_some, List.getElem_toArray, List.getElem_cons_succ, List.getElem_cons_zero]
      apply ord_pure rfl rfl rfl; (· (intro w; go_simp; with_reducible rfl)); (· (simp only [Act.put, Act.eval, List.setIfInBounds_toArray, List.set_cons_zero, List.set_cons_succ, Array.getD_eq_getD_getElem?, List.getElem?_toArray, List.getElem?_cons_zero, List.getElem?_cons_succ, Option.getD_some, List.getElem_toArray, List.getElem_cons_succ, List.getElem_cons_zero]; with_reducible rfl))
      apply ord_pure rfl rfl rfl; (· (intro w; go_simp; with_reducible rfl)); (· (simp only [Act.put, Act.eval, List.setIfInBounds_toArray, List.set_cons_zero, List.set_cons_succ, Array.getD_eq_getD_getElem?, List.getElem?_toArray, List.getElem?_cons_zero, List.getElem?_cons_succ, Option.getD_some, List.getElem_toArray, List.getElem_cons_succ, List.getElem_cons_zero]; with_reducible rfl))
      apply ord_pure rfl rfl rfl; (· (intro w; go_simp; with_reducible rfl)); (· (simp only [Act.put, Act.eval, List.setIfInBounds_toArray, List.set_cons_zero, List.set_cons_succ, Array.getD_eq_getD_getElem?, List.getElem?_toArray, List.getElem?_cons_zero, List.getElem?_cons_succ, Option.getD_some, List.getElem_toArray, List.getElem_cons_succ, List.getElem_cons_zero]; with_reducible rfl))
      apply ord_assign rfl rfl rfl rfl; (· (simp only [Act.put, Act.eval, List.setIfInBounds_toArray, List.set_cons_zero, List.set_cons_succ, Array.getD_eq_getD_getElem?, List.getElem?_toArray, List.getElem?_cons_zero, List.getElem?_cons_succ, Option.getD_some, List.getElem_toArray, List.getElem_cons_succ, List.getElem_cons_zero]; with_reducible rfl))
      with_reducible refine ord_nil ?_
      clear zp pn zj jn
      go_wp2_with fail
      go_ret
      exact ⟨rfl, hE.out⟩
    · have hC1 := Lib.hid hC0
      clear hC0 hcase
      obtain ⟨h0', hsm', rfl, hp0', hrest'⟩ := hC1.out
      have h0 := Lib.hid h0'
      have hsm := Lib.hid hsm'
      have hp0 := Lib.hid hp0'
      have hrest := Lib.hid hrest'
      have hbn : ¬ (2048 : Int) < (bm : Int) := by have := hbm.out; omega
      clear h0' hsm' hp0' hrest'
      have hzl0 : ((vzl : Int) == 0) = false := by
        have := len_pos nz.out h0.out
        simp; omega
      have hC15 := Lib.hid (RBits_B nz.out (Nat.le_trans hM.out (by decide)))
      go_wp2_with fail
      refine hC15.out.mono ?_
      rintro e w15 ⟨rfl, hb⟩
      rw [hbm.out]
      replace nx := Lib.hid (nx.out.below hb)
      replace ny := Lib.hid (ny.out.below hb)
      replace nz := Lib.hid (nz.out.below hb)
      replace p := Lib.hid (p.out.below hb)
      replace j := Lib.hid (j.out.below hb)
      replace hE := Lib.hid (hE.out.trans (hb.mono hE.out.size))
      clear hb hC15 
      obtain ⟨pa, pl, pc, pb, pn⟩ := p.out
      have zp := pb.cell
      replace pn := Lib.hid pn
      clear pb
      go_upto_region 16 with (fail)
      have hb : Below w15.heap.size w15 w15.drew := (Below.refl _ _).drew
      replace nx := Lib.hid (nx.out.below hb)
      replace ny := Lib.hid (ny.out.below hb)
      replace nz := Lib.hid (nz.out.below hb)
      replace p := Lib.hid (p.out.below hb)
      replace j := Lib.hid (j.out.below hb)
      replace pn := Lib.hid (pn.out.below hb)
      replace zp := (hb.cell (World.block_lt_of_cell? _ _ zp)).trans zp
      replace hE := Lib.hid (hE.out.trans (hb.mono hE.out.size))
      clear hb
      refine Rt.wp_region_ordM [1, 0, 0, 0, 0, 2, 2, 0] [0, 1, 2, 3, 4, 5, 6, 7] (by kernel_rfl) (by kernel_rfl) ?_
      obtain ⟨w16, hw⟩ : ∃ W, w15.drew = W := ⟨_, rfl⟩
      rw [hw] at hE nx ny nz p j pn zp ⊢
      clear hw
      apply ord_read rfl rfl rfl; (· (intro W hW; have g0 := cell_up hW zp; go_simp; with_reducible rfl)); (· (simp only [Act.put, Act.eval, List.setIfInBounds_toArray, List.set_cons_zero, List.set_cons_succ, Array.getD_eq_getD_getElem?, List.getElem?_toArray, List.getElem?_cons_zero, List.getElem?_cons_succ, Option.getD_some, List.getElem_toArray, List.getElem_cons_succ, List.getElem_cons_zero]; with_reducible rfl))
      apply ord_move rfl rfl rfl rfl; (· (simp only [Act.put, Act.eval, List.setIfInBounds_toArray, List.set_cons_zero, List.set_cons_succ, Array.getD_eq_getD_getElem?, List.getElem?_toArray, List.getElem?_cons_zero, List.getElem?_cons_succ, Option.getD_some, List.getElem_toArray, List.getElem_cons_succ, List.getElem_cons_zero]; with_reducible rfl))
      apply ord_move rfl rfl rfl rfl; (· (simp only [Act.put, Act.eval, List.setIfInBounds_toArray, List.set_cons_zero, List.set_cons_succ, Array.getD_eq_getD_getElem?, List.getElem?_toArray, List.getElem?_cons_zero, List.getElem?_cons_succ, Option.getD_some, List.getElem_toArray, List.getElem_cons_succ, List.getElem_cons_zero]; with_reducible rfl))
      apply ord_move rfl rfl rfl rfl; (· (simp only [Act.put, Act.eval, List.setIfInBounds_toArray, List.set_cons_zero, List.set_cons_succ, Array.getD_eq_getD_getElem?, List.getElem?_toArray, List.getElem?_cons_zero, List.getElem?_cons_succ, Option.getD_some, List.getElem_toArray, List.getElem_cons_succ, List.getElem_cons_zero]; with_reducible rfl))
      apply ord_move rfl rfl rfl rfl; (· (simp only [Act.put, Act.eval, List.setIfInBounds_toArray, List.set_cons_zero, List.set_cons_succ, Array.getD_eq_getD_getElem?, List.getElem?_toArray, List.getElem?_cons_zero, List.getElem?_cons_succ, Option.getD_some, List.getElem_toArray, List.getElem_cons_succ, List.getElem_cons_zero]; with_reducible rfl))
      refine ord_call rfl rfl rfl (by go_simp; exact ⟨rfl, rfl⟩) ?_
      refine (RPow_N nx.out ny.out nz.out (Nat.le_trans hA.out (by decide)) (Nat.le_trans hK.out (by decide)) h0.out (Nat.le_trans hsm.out (by decide))).mono ?_
      rintro e w17 ⟨rv, rfl, mv, hb⟩
      obtain ⟨rva, rvl, rvc, rfl⟩ := mv.shape
      refine ⟨_, rfl, hb, ?_⟩
      replace nx := Lib.hid (nx.out.below hb)
      replace ny := Lib.hid (ny.out.below hb)
      replace nz := Lib.hid (nz.out.below hb)
      replace p := Lib.hid (p.out.below hb)
      replace j := Lib.hid (j.out.below hb)
      replace pn := Lib.hid (pn.out.below hb)
      replace zp := (hb.cell (World.block_lt_of_cell? _ _ zp)).trans zp
      replace hE := Lib.hid (hE.out.trans (hb.mono hE.out.size))
      replace mv := Lib.hid mv
      clear hb
      simp only [Act.put, Act.eval, List.setIfInBounds_toArray, List.set_cons_zero, List.set_cons_succ, Array.getD_eq_getD_getElem?, List.getElem?_toArray, List.getElem?_cons_zero, List.getElem?_cons_succ, Option.getD_some, List.getElem_toArray, List.getElem_cons_succ, List.getElem_cons_zero]
      refine ord_call rfl rfl rfl (by go_simp; exact ⟨rfl, rfl⟩) ?_
      refine (is_true pn.out mv.out (Nat.le_trans hP.out (by decide)) (hp0.out ▸ (Nat.le_trans hP.out (by decide))) 0 0 (.inr ⟨rfl, rfl, hp0.out⟩)).mono ?_
      rintro e w18 ⟨rfl, hb⟩
      refine ⟨_, rfl, hb, ?_⟩
      replace nx := Lib.hid (nx.out.below hb)
      replace ny := Lib.hid (ny.out.below hb)
      replace nz := Lib.hid (nz.out.below hb)
      replace p := Lib.hid (p.out.below hb)
      replace j := Lib.hid (j.out.below hb)
      replace mv := Lib.hid (mv.out.below hb)
      replace pn := Lib.hid (pn.out.below hb)
      replace zp := (hb.cell (World.block_lt_of_cell? _ _ zp)).trans zp
      replace hE := Lib.hid (hE.out.trans (hb.mono hE.out.size))
      clear hb
      simp only [Act.put, Act.eval, List.setIfInBounds_toArray, List.set_cons_zero, List.set_cons_succ, Array.getD_eq_getD_getElem?, List.getElem?_toArray, List.getElem?_cons_zero, List.getElem?_cons_succ, Option.getD_some, List.getElem_toArray, List.getElem_cons_succ, List.getElem_cons_zero]
      apply ord_assign rfl rfl rfl rfl; (· (simp only [Act.put, Act.eval, List.setIfInBounds_toArray, List.set_cons_zero, List.set_cons_succ, Array.getD_eq_getD_getElem?, List.getElem?_toArray, List.getElem?_cons_zero, List.getElem?_cons_succ, Option.getD_some, List.getElem_toArray, List.getElem_cons_succ, List.getElem_cons_zero]; with_reducible rfl))
      with_reducible refine ord_nil ?_
      clear zp pn
      clear mv
      rcases hrest.out with h1 | h1
      · clear hrest
        obtain ⟨hold', rfl, hj0'⟩ := h1
        have hold := Lib.hid hold'
        have hj0 := Lib.hid hj0'
        clear hold' hj0'
        have hC19 := Lib.hid (RInv_N nx.out nz.out (Nat.le_trans hA.out (by decide)) h0.out (Nat.le_trans hsm.out (by decide)))
        go_wp2_with fail
        refine hC19.out.mono ?_
        rintro e w19 ⟨ri, rfl, mi, hb⟩
        obtain ⟨ria, ril, ric, rfl⟩ := mi.shape
        rw [decide_eq_true hold.out]
        rw [if_pos hold.out] at mi
        replace nx := Lib.hid (nx.out.below hb)
        replace ny := Lib.hid (ny.out.below hb)
        replace nz := Lib.hid (nz.out.below hb)
        replace p := Lib.hid (p.out.below hb)
        replace j := Lib.hid (j.out.below hb)
        replace mi := Lib.hid mi
        replace hE := Lib.hid (hE.out.trans (hb.mono hE.out.size))
        clear hb hC19 
        obtain ⟨ja, jl, jc, jb, jn⟩ := j.out
        have zj := jb.cell
        replace jn := Lib.hid jn
        clear jb
        have hC20 := Lib.hid (is_true jn.out mi.out (Nat.le_trans hJ.out (by decide)) (hj0.out ▸ (Nat.le_trans hJ.out (by decide))) 0 0 (.inr ⟨rfl, rfl, hj0.out⟩))
        go_wp2_with fail
        refine hC20.out.mono ?_
        rintro e w20 ⟨rfl, hb⟩
        replace nx := Lib.hid (nx.out.below hb)
        replace ny := Lib.hid (ny.out.below hb)
        replace nz := Lib.hid (nz.out.below hb)
        replace p := Lib.hid (p.out.below hb)
        replace j := Lib.hid (j.out.below hb)
        replace mi := Lib.hid (mi.out.below hb)
        replace hE := Lib.hid (hE.out.trans (hb.mono hE.out.size))
        clear hb hC20 zj jn
        go_wp2_with fail
        go_ret
        exact ⟨rfl, hE.out⟩
      · clear hrest
        obtain ⟨hold', rfl, rfl⟩ := h1
        have hold := Lib.hid hold'
        clear hold'
        have hC19 := Lib.hid (RInv_N nx.out nz.out (Nat.le_trans hA.out (by decide)) h0.out (Nat.le_trans hsm.out (by decide)))
        go_wp2_with fail
        refine hC19.out.mono ?_
        rintro e w19 ⟨ri, rfl, mi, hb⟩
        obtain ⟨ria, ril, ric, rfl⟩ := mi.shape
        rw [decide_eq_false hold.out]
        rw [if_neg hold.out] at mi
        replace nx := Lib.hid (nx.out.below hb)
        replace ny := Lib.hid (ny.out.below hb)
        replace nz := Lib.hid (nz.out.below hb)
        replace p := Lib.hid (p.out.below hb)
        replace j := Lib.hid (j.out.below hb)
        replace mi := Lib.hid mi
        replace hE := Lib.hid (hE.out.trans (hb.mono hE.out.size))
        clear hb hC19 
        obtain ⟨ja, jl, jc, jb, jn⟩ := j.out
        have zj := jb.cell
        replace jn := Lib.hid jn
        clear jb
        have hC20 := Lib.hid (is_true jn.out mi.out (by decide) (by decide) 13 13 (.inl ⟨by decide, rfl, rfl⟩))
        go_wp2_with fail
        refine hC20.out.mono ?_
        rintro e w20 ⟨rfl, hb⟩
        replace nx := Lib.hid (nx.out.below hb)
        replace ny := Lib.hid (ny.out.below hb)
        replace nz := Lib.hid (nz.out.below hb)
        replace p := Lib.hid (p.out.below hb)
        replace j := Lib.hid (j.out.below hb)
        replace mi := Lib.hid (mi.out.below hb)
        replace hE := Lib.hid (hE.out.trans (hb.mono hE.out.size))
        clear hb hC20 zj jn
        go_wp2_with fail
        go_ret
        exact ⟨rfl, hE.out⟩
end Go.Proofs.YtffehdfddkgggaaDoor.Nu

namespace Go.Proofs.YtffehdfddkgggaaDoor.numberPowers
open Go.ChangeShapes Go.WideShapes Go.ChangeAt Go.RowKit
open Go.ChangeMaps (open_string shut_string)
set_option linter.unusedVariables false
set_option linter.unusedSimpArgs false
theorem laidOut : laidOutB Tryd.prog = true := by kernel_rfl
theorem own : ownKnob Tryd.prog.godebug = none := by kernel_rfl
set_option maxRecDepth 100000 in
theorem lifted (os : Os) (started : os.Started) (H : Type) (enc : TypeId × Value → H) :
    ReturnsInHanded {} Tryd.checked os 4 .any (fun w args => (Rows.numberPowersSpec.pre enc Tryd.prog Tryd.f4 [] false w args ∧ laidMetH Tryd.prog Rows.numberPowersRow.laid w) ∧ sizedMet enc Tryd.prog Tryd.f4 (OpenSpec.ofChange Rows.numberPowersSpec) false w args)
      (Rows.numberPowersSpec.post enc Tryd.prog Tryd.f4 false true false false) := by
  refine returnsInHanded_of_change_and (C := Tryd.checked) (X := fun w _ => laidMetH Tryd.prog Rows.numberPowersRow.laid w) (fun _ _ _ hh h => h.of_heap hh) own started (by kernel_rfl) Tryd.func4
    (ChangeSpec.witness_shaped (enc := enc) (C := Tryd.checked) (os := os) (X := fun w _ => laidMetH Tryd.prog Rows.numberPowersRow.laid w) false (World.laidAll Tryd.prog os Rows.numberPowersRow.laid) #[.string ByteArray.empty, .string ByteArray.empty, .string ByteArray.empty] 8 (World.laidAll_os _ _ _)
      (World.shaped_of_ZipB (by kernel_rfl) (by kernel_rfl)) (by kernel_rfl) (by kernel_rfl) (by kernel_rfl)
      (by rw [MakeChecks.laidMetH_plain _ _ _ (by kernel_rfl)]; exact laidMet_laidAll _ (by kernel_rfl) (by kernel_rfl))) ?_
  intro W base args ds gs before hval0 hW _ hsz0 _ _
  have hsz : (DataW.weightsEach Tryd.prog (Tryd.f4.params.toList ++ Rows.numberPowersSpec.plain.varTypes Tryd.prog) (ds ++ gs)).all (· ≤ reachBytes) = true := hsz0
  have hval : ∀ (j : Nat) t v, Tryd.f4.params[j]? = some t → args[j]? = some v → Value.okWide Tryd.prog W .any base t v := hval0
  have hW' := hW
  obtain ⟨p, q, hA0, hV, rfl, hfz, hnd⟩ := hW
  have hA : DataW.TrodAll enc Tryd.prog W 0 (fun _ => true) true Tryd.f4.params.toList args.toList ds p := hA0
  rw [Tryd.params4] at hA hval hsz
  obtain ⟨v0, vs0, d0, ds0, p0, q0, hargs, rfl, rfl, h0, r0⟩ := trodAll_cons hA
  obtain ⟨v1, vs1, d1, ds1, p1, q1, rfl, rfl, rfl, h1, r1⟩ := trodAll_cons r0
  obtain ⟨v2, vs2, d2, ds2, p2, q2, rfl, rfl, rfl, h2, r2⟩ := trodAll_cons r1
  obtain ⟨rfl, rfl, rfl⟩ := trodAll_nil r2
  obtain rfl : args = #[v0, v1, v2] := by cases args; simp_all
  obtain ⟨rfl, rfl⟩ := trodVars_none hV
  obtain ⟨a0, rfl, rfl, rfl, y0⟩ := open_string Tryd.underlying9 (hval 0 9 v0 rfl rfl) h0
  have n0 : a0.size ≤ 140737488351232 := by
    have z := sized_string hsz (j := 0) (t := 9) rfl rfl
    have hr : reachBytes = 140737488351232 := by decide
    rw [hr] at z
    have e2 : a0.data.toList.length = a0.size := Array.length_toList
    rw [e2] at z
    exact z
  obtain ⟨a1, rfl, rfl, rfl, y1⟩ := open_string Tryd.underlying9 (hval 1 9 v1 rfl rfl) h1
  have n1 : a1.size ≤ 140737488351232 := by
    have z := sized_string hsz (j := 1) (t := 9) rfl rfl
    have hr : reachBytes = 140737488351232 := by decide
    rw [hr] at z
    have e2 : a1.data.toList.length = a1.size := Array.length_toList
    rw [e2] at z
    exact z
  obtain ⟨a2, rfl, rfl, rfl, y2⟩ := open_string Tryd.underlying9 (hval 2 9 v2 rfl rfl) h2
  have n2 : a2.size ≤ 140737488351232 := by
    have z := sized_string hsz (j := 2) (t := 9) rfl rfl
    have hr : reachBytes = 140737488351232 := by decide
    rw [hr] at z
    have e2 : a2.data.toList.length = a2.size := Array.length_toList
    rw [e2] at z
    exact z
  clear hA0 hval0 hsz0 hsz
  refine (Nu.NumberPowers_any a0 a1 a2 (by omega) (by omega) (by omega) W).mono fun e W' ⟨he, bel⟩ => ?_
  subst he
  exact ⟨_, rfl, _, _, _, [], _, [], hW', trodAll_mk1 (shut_bool Tryd.underlying4 _), (trodAll_cons_mk (shut_string Tryd.underlying9 y0) (trodAll_cons_mk (shut_string Tryd.underlying9 y1) (trodAll_cons_mk (shut_string Tryd.underlying9 y2) trodAll_mk0))), rfl, bel.frame _, fun h => by cases h⟩
theorem over : Rows.numberPowersRow.holds Tryd.pinned (OpenSpec.ofChange Rows.numberPowersSpec) :=
  OpenClaim.holds_of_wide 4 Tryd.f4 rfl rfl rfl rfl rfl rfl rfl ⟨rfl, rfl, rfl, rfl, rfl⟩ rfl rfl rfl rfl rfl (by kernel_rfl) Tryd.func4 (by kernel_rfl)
    (of_decide_eq_true (by kernel_rfl)) (by unfold Func.isWrapper; first | (rw [if_pos (by decide +kernel)]; kernel_rfl) | (rw [if_neg (by decide +kernel)]; exact ⟨rfl, rfl⟩))
    (fun os started H enc _ => lifted os started H enc)
theorem card : Rows.NumberPowersCardSaid :=
  Claim7.holds_tied_plain_at .later [] [.data, .pinned] true (true, "acad1c1d1f756dec29b6445e289ef38fbf9a36fc57db2a92c0a2a1121c828621") false
    over (fun _ h => by cases h) (by kernel_rfl) (fun _ h => by cases h) numberPowers_row_tie rfl ⟨rfl, rfl⟩ (by kernel_rfl) rfl
    (fun f fn hf hfn => by
      obtain rfl : f = 4 := Option.some.inj ((show Tryd.prog.funcNamed "guidepost/guidepostlaw05.NumberPowers" = some 4 by kernel_rfl).symm.trans hf) |>.symm
      obtain rfl : fn = Tryd.f4 := (Option.some.inj (Tryd.func4.symm.trans hfn)).symm
      exact ⟨by kernel_rfl, fun j t ht => by
        rw [Tryd.params4] at ht
        have hm : t ∈ [9] := by have := Array.mem_of_getElem? ht; simp at this ⊢; omega
        have hall : ([9].all fun u => !Tryd.prog.wantsStandIn u) = true := by kernel_rfl
        exact (show Tryd.prog.wantsStandIn t = false by simpa using List.all_eq_true.1 hall t hm)⟩)
    (by kernel_rfl)
#print axioms card
end Go.Proofs.YtffehdfddkgggaaDoor.numberPowers
namespace Go.Proofs.YtffehdfddkgggaaDoor
/-- The card, under a short name, for the claim. -/
theorem numberPowers_holds : Rows.NumberPowersCardSaid := numberPowers.card
end Go.Proofs.YtffehdfddkgggaaDoor
