/- guidepostlaw05.NumberTells: for every input it returns true, and each argument reads behind the call as before; the listed variables are tied to the program's text. -/
import Derived.Test.YtffehdfddkgggaaDoorMFC
import Derived.Test.YtffehdfddkgggaaDoorRows
import Derived.Test.YtffehdfddkgggaaDoorCards
import Derived.Test.YtffehdfddkgggaaDoorTie
import Derived.WalkKit
import Derived.ProofKit
import Derived.OpenShut
import Derived.ShutString
import Derived.ChangeOld
import Derived.Below
import Derived.SizedLaws
import Derived.Carry
import Derived.LaidMore
import Derived.Lay
import Derived.SevenTiedAt
/- guidepostlaw05.NumberTells: the walk. -/
namespace Go.Proofs.YtffehdfddkgggaaDoor.Nu
open Go.RowKit Rt
set_option linter.unusedSimpArgs false
set_option linter.unusedVariables false
theorem capN_le (n : Nat) : blen (capN n) ≤ 4096 := by
  unfold capN; split
  · exact Nat.zero_le _
  · omega
theorem is_cap (n : Nat) : (errN n ≠ 0 ∧ capN n = 0) ∨ (errN n = 0 ∧ capN n = n) := by
  unfold errN capN
  by_cases h : 4096 < blen n
  · exact .inl ⟨by rw [if_pos h]; decide, if_pos h⟩
  · exact .inr ⟨if_neg h, if_neg h⟩
theorem u64_of {n : Int} (h : (Lit.int .u64 n).wf = true) : 0 ≤ n ∧ n < 18446744073709551616 := by
  simp [Lit.wf, IntKind.min, IntKind.max, IntKind.signed, IntKind.bits] at h
  omega
theorem tell_is {e : Int} {c n : Nat} (h : (e ≠ 0 ∧ c = 0) ∨ (e = 0 ∧ c = n)) : (e ≠ 0 ∧ e = e ∧ c = 0) ∨ (e = 0 ∧ e = 0 ∧ c = c) :=
  h.elim (fun ⟨h1, h2⟩ => .inl ⟨h1, rfl, h2⟩) (fun ⟨h1, _⟩ => .inr ⟨h1, h1, rfl⟩)
theorem RBits_B {w : World} {v : Value} {n : Nat} (h : NumAt w v n) (hb : blen n ≤ 1000000) : Calls Tryd.prog 18 #[v] w fun e w' => e = .returned (.int .i64 (blen n : Int)) ∧ Below w.heap.size w w' :=
  (h.rbits hb).mono fun e w' ⟨h1, h2⟩ => ⟨h1, h2 ▸ Below.refl _ _⟩
set_option maxHeartbeats 8000000 in
set_option maxRecDepth 100000 in
theorem NumberTells_any (s : ByteArray) (many n : Int) (hss : s.size ≤ 140737488355328) (hm1 : -9223372036854775808 ≤ many) (hn1 : 0 ≤ n) (hn2 : n < 18446744073709551616) (w : World) :
    Calls Tryd.prog 3 #[.string s, .int .i64 many, .int .u64 n] w fun e w' => e = .returned (.bool true) ∧ Below w.heap.size w w' := by
  obtain ⟨k, rfl⟩ : ∃ k : Nat, n = (k : Int) := ⟨n.toNat, by omega⟩
  have hk : Hid (k < 18446744073709551616) := Lib.hid (by omega)
  clear hn1 hn2
  obtain ⟨a0, ha0⟩ : ∃ z, capN (numS s) = z := ⟨_, rfl⟩
  obtain ⟨es, hes0⟩ : ∃ z, errN (numS s) = z := ⟨_, rfl⟩
  have hA : Hid (blen a0 ≤ 4096) := Lib.hid (by rw [← ha0]; exact capN_le _)
  have hB : Hid (blen k ≤ 64) := Lib.hid (blen_le.2 (by have := hk.out; omega))
  have hfe0 := is_cap (numS s)
  rw [hes0, ha0] at hfe0
  have hfe := Lib.hid hfe0
  obtain ⟨m2, hm2⟩ : ∃ z, (if 600 < many then 600 else many) = z := ⟨_, rfl⟩
  have hlo : Hid (-9223372036854775808 ≤ m2) := Lib.hid (by rw [← hm2]; split <;> omega)
  have hhi0 : m2 ≤ 600 := by rw [← hm2]; split <;> omega
  have hhi : Hid (m2 ≤ 1000000) := Lib.hid (by omega)
  obtain ⟨len0, hbl⟩ : ∃ z, blen a0 = z := ⟨_, rfl⟩
  obtain ⟨cv, hcv⟩ : ∃ z, cmpN a0 k = z := ⟨_, rfl⟩
  obtain ⟨we, hwe⟩ : ∃ z, wideE a0 m2 = z := ⟨_, rfl⟩
  obtain ⟨ws, hws⟩ : ∃ z, wideS a0 m2 = z := ⟨_, rfl⟩
  have hcase : (m2 < 0 ∧ we = 1 ∧ ws = ⟨#[]⟩) ∨ (∃ m : Nat, m2 = (m : Int) ∧ m ≤ 600 ∧ 8 * (m : Int) < (len0 : Int) ∧ we = 3 ∧ ws = ⟨#[]⟩) ∨ (∃ m : Nat, m2 = (m : Int) ∧ m ≤ 600 ∧ ¬ 8 * (m : Int) < (len0 : Int) ∧ we = 0 ∧ ws = wideW a0 m) := by
    unfold wideS at hws
    rw [hwe] at hws
    unfold wideE at hwe
    by_cases h1 : m2 < 0
    · rw [if_pos h1] at hwe
      subst hwe
      rw [if_neg (by decide)] at hws
      exact .inl ⟨h1, rfl, hws.symm⟩
    · rw [if_neg h1, hbl] at hwe
      have hmn : m2 = ((m2.toNat : Nat) : Int) := by omega
      by_cases h2 : 8 * m2 < (len0 : Int)
      · rw [if_pos h2] at hwe
        subst hwe
        rw [if_neg (by decide)] at hws
        exact .inr (.inl ⟨m2.toNat, hmn, by omega, by omega, rfl, hws.symm⟩)
      · rw [if_neg h2] at hwe
        subst hwe
        rw [if_pos rfl] at hws
        exact .inr (.inr ⟨m2.toNat, hmn, by omega, by omega, rfl, hws.symm⟩)
  replace hcase := Lib.hid hcase
  replace hbl := Lib.hid hbl
  replace hcv := Lib.hid hcv
  replace hwe := Lib.hid hwe
  replace hws := Lib.hid hws
  have haE := Lib.hid ha0
  have hes := Lib.hid hes0
  clear ha0 hes0 hfe0 hhi0
  go_enter Tryd.func3, Tryd.ntmps3
  have hE := Lib.hid (Below.refl w.heap.size w)
  have hC1 := Lib.hid (examples_any w)
  go_wp2_with fail
  refine hC1.out.mono ?_
  rintro e w1 ⟨rfl, hb⟩
  replace hE := Lib.hid (hE.out.trans (hb.mono hE.out.size))
  clear hb hC1 
  have hC2 := Lib.hid (Of_N s w1)
  go_wp2_with fail
  refine hC2.out.mono ?_
  rintro e w2 ⟨va, rfl, na, hb⟩
  obtain ⟨vaa, val, vac, rfl⟩ := na.shape
  rw [hes.out]
  rw [haE.out] at na
  replace na := Lib.hid na
  replace hE := Lib.hid (hE.out.trans (hb.mono hE.out.size))
  clear hb hC2 
  go_upto_region 3 with (fail)
  have hb : Below w2.heap.size w2 (w2.alloc (.cells #[.slice vaa val vac] 26)) := (Below.refl _ _).alloc (Nat.le_refl _) _
  have a' := Var.made na.out
  replace na := Lib.hid (na.out.below hb)
  replace hE := Lib.hid (hE.out.trans (hb.mono hE.out.size))
  have a := Lib.hid a'
  clear hb a'
  obtain ⟨w3, hw⟩ : ∃ W, (w2.alloc (.cells #[.slice vaa val vac] 26)) = W := ⟨_, rfl⟩
  rw [hw] at hE na a ⊢
  clear hw
  obtain ⟨ga, hga⟩ : ∃ g, w2.heap.size = g := ⟨_, rfl⟩
  rw [hga] at a ⊢
  clear hga
  clear na
  have hC4 := Lib.hid (ROf_N s hss w3)
  go_wp2_with fail
  refine hC4.out.mono ?_
  rintro e w4 ⟨vx, rfl, nx, hb⟩
  obtain ⟨vxa, vxl, vxc, rfl⟩ := nx.shape
  rw [hes.out]
  rw [haE.out] at nx
  replace a := Lib.hid (a.out.below hb)
  replace nx := Lib.hid nx
  replace hE := Lib.hid (hE.out.trans (hb.mono hE.out.size))
  clear hb hC4 
  have hC5 := Lib.hid (Small_N w4 k hk.out)
  go_wp2_with fail
  refine hC5.out.mono ?_
  rintro e w5 ⟨vb, rfl, nb, hb⟩
  obtain ⟨vba, vbl, vbc, rfl⟩ := nb.shape
  replace a := Lib.hid (a.out.below hb)
  replace nx := Lib.hid (nx.out.below hb)
  replace nb := Lib.hid nb
  replace hE := Lib.hid (hE.out.trans (hb.mono hE.out.size))
  clear hb hC5 
  go_upto_region 5 with (fail)
  have hb : Below w5.heap.size w5 (w5.alloc (.cells #[.slice vba vbl vbc] 26)) := (Below.refl _ _).alloc (Nat.le_refl _) _
  have b' := Var.made nb.out
  replace a := Lib.hid (a.out.below hb)
  replace nx := Lib.hid (nx.out.below hb)
  replace nb := Lib.hid (nb.out.below hb)
  replace hE := Lib.hid (hE.out.trans (hb.mono hE.out.size))
  have b := Lib.hid b'
  clear hb b'
  obtain ⟨w6, hw⟩ : ∃ W, (w5.alloc (.cells #[.slice vba vbl vbc] 26)) = W := ⟨_, rfl⟩
  rw [hw] at hE a nx nb b ⊢
  clear hw
  obtain ⟨gb, hgb⟩ : ∃ g, w5.heap.size = g := ⟨_, rfl⟩
  rw [hgb] at b ⊢
  clear hgb
  clear nb
  have hC7 := Lib.hid (RSmall_N w6 k hk.out)
  go_wp2_with fail
  refine hC7.out.mono ?_
  rintro e w7 ⟨vy, rfl, ny, hb⟩
  obtain ⟨vya, vyl, vyc, rfl⟩ := ny.shape
  replace a := Lib.hid (a.out.below hb)
  replace nx := Lib.hid (nx.out.below hb)
  replace b := Lib.hid (b.out.below hb)
  replace ny := Lib.hid ny
  replace hE := Lib.hid (hE.out.trans (hb.mono hE.out.size))
  clear hb hC7 
  obtain ⟨aa, al, ac, ab, an⟩ := a.out
  have za := ab.cell
  replace an := Lib.hid an
  clear ab
  have hC8 := Lib.hid (is_true an.out nx.out (Nat.le_trans hA.out (by decide)) (Nat.le_trans hA.out (by decide)) es es (tell_is hfe.out))
  go_wp2_with fail
  refine hC8.out.mono ?_
  rintro e w8 ⟨rfl, hb⟩
  replace a := Lib.hid (a.out.below hb)
  replace nx := Lib.hid (nx.out.below hb)
  replace b := Lib.hid (b.out.below hb)
  replace ny := Lib.hid (ny.out.below hb)
  replace hE := Lib.hid (hE.out.trans (hb.mono hE.out.size))
  clear hb hC8 za an
  obtain ⟨ba, bl, bc, bb, bn⟩ := b.out
  have zb := bb.cell
  replace bn := Lib.hid bn
  clear bb
  have hC9 := Lib.hid (is_true bn.out ny.out (Nat.le_trans hB.out (by decide)) (Nat.le_trans hB.out (by decide)) 0 0 (.inr ⟨rfl, rfl, rfl⟩))
  go_wp2_with fail
  refine hC9.out.mono ?_
  rintro e w9 ⟨rfl, hb⟩
  replace a := Lib.hid (a.out.below hb)
  replace nx := Lib.hid (nx.out.below hb)
  replace b := Lib.hid (b.out.below hb)
  replace ny := Lib.hid (ny.out.below hb)
  replace hE := Lib.hid (hE.out.trans (hb.mono hE.out.size))
  clear hb hC9 zb bn
  go_upto_if 43 with (fail)
  go_cut [1] from 44 to 44 (fun s1 wx => s1 = .int .i64 m2 ∧ Hid (Below w.heap.size w wx) ∧ Hid (Var wx ga a0) ∧ Hid (Var wx gb k) ∧ Hid (NumAt wx (.slice vxa vxl vxc) a0) ∧ Hid (NumAt wx (.slice vya vyl vyc) k))
  case first =>
    by_cases hl : 600 < many
    · have h1 : Hid (m2 = 600) := Lib.hid (by rw [← hm2, if_pos hl])
      clear hm2
      go_wp2_with fail
      go_meet
      case rel => exact ⟨by rw [h1.out], hE, a, b, nx, ny⟩
    · have h1 : Hid (m2 = many) := Lib.hid (by rw [← hm2, if_neg hl])
      clear hm2
      go_wp2_with fail
      go_meet
      case rel => exact ⟨by rw [h1.out], hE, a, b, nx, ny⟩
  case rest =>
    clear hE a b nx ny
    obtain ⟨rfl, hE, a, b, nx, ny⟩ := hcut
    clear hm2
    obtain ⟨aa, al, ac, ab, an⟩ := a.out
    have za := ab.cell
    replace an := Lib.hid an
    clear ab
    have hC10 := Lib.hid (Wide_N an.out (Nat.le_trans hA.out (by decide)) m2 hlo.out hhi.out)
    go_wp2_with fail
    refine hC10.out.mono ?_
    rintro e w10 ⟨rfl, hb⟩
    rw [hws.out, hwe.out]
    replace a := Lib.hid (a.out.below hb)
    replace b := Lib.hid (b.out.below hb)
    replace nx := Lib.hid (nx.out.below hb)
    replace ny := Lib.hid (ny.out.below hb)
    replace hE := Lib.hid (hE.out.trans (hb.mono hE.out.size))
    clear hb hC10 za an
    rcases hcase.out with h1 | h1 | h1
    · obtain ⟨hneg, rfl, rfl⟩ := h1
      clear hcase
      obtain ⟨aa, al, ac, ab, an⟩ := a.out
      have za := ab.cell
      replace an := Lib.hid an
      clear ab
      have hC11 := Lib.hid (an.out.bits (Nat.le_trans hA.out (by decide)))
      go_wp2_with fail
      refine hC11.out.mono ?_
      rintro e w11 ⟨rfl, hb⟩
      rw [hbl.out]
      replace a := Lib.hid (a.out.below hb)
      replace b := Lib.hid (b.out.below hb)
      replace nx := Lib.hid (nx.out.below hb)
      replace ny := Lib.hid (ny.out.below hb)
      replace hE := Lib.hid (hE.out.trans (hb.mono hE.out.size))
      clear hb hC11 za an
      have hC12 := Lib.hid (RBits_B nx.out (Nat.le_trans hA.out (by decide)))
      go_wp2_with fail
      refine hC12.out.mono ?_
      rintro e w12 ⟨rfl, hb⟩
      rw [hbl.out]
      replace a := Lib.hid (a.out.below hb)
      replace b := Lib.hid (b.out.below hb)
      replace nx := Lib.hid (nx.out.below hb)
      replace ny := Lib.hid (ny.out.below hb)
      replace hE := Lib.hid (hE.out.trans (hb.mono hE.out.size))
      clear hb hC12 
      obtain ⟨aa, al, ac, ab, an⟩ := a.out
      have za := ab.cell
      replace an := Lib.hid an
      clear ab
      obtain ⟨ba, bl, bc, bb, bn⟩ := b.out
      have zb := bb.cell
      replace bn := Lib.hid bn
      clear bb
      have hC13 := Lib.hid (Cmp_N an.out bn.out (Nat.le_trans hA.out (by decide)) (Nat.le_trans hB.out (by decide)))
      go_wp2_with fail
      refine hC13.out.mono ?_
      rintro e w13 ⟨rfl, hb⟩
      rw [hcv.out]
      replace a := Lib.hid (a.out.below hb)
      replace b := Lib.hid (b.out.below hb)
      replace nx := Lib.hid (nx.out.below hb)
      replace ny := Lib.hid (ny.out.below hb)
      replace hE := Lib.hid (hE.out.trans (hb.mono hE.out.size))
      clear hb hC13 za an zb bn
      have hC14 := Lib.hid (RCmp_N nx.out ny.out (Nat.le_trans hA.out (by decide)) (Nat.le_trans hB.out (by decide)))
      go_wp2_with fail
      refine hC14.out.mono ?_
      rintro e w14 ⟨rfl, hb⟩
      rw [hcv.out]
      replace a := Lib.hid (a.out.below hb)
      replace b := Lib.hid (b.out.below hb)
      replace nx := Lib.hid (nx.out.below hb)
      replace ny := Lib.hid (ny.out.below hb)
      replace hE := Lib.hid (hE.out.trans (hb.mono hE.out.size))
      clear hb hC14 
      go_wp2_with fail
      go_ret
      exact ⟨rfl, hE.out⟩
    · obtain ⟨m, rfl, hm6, h8, rfl, rfl⟩ := h1
      clear hcase
      have hn0 : ¬ (m : Int) < 0 := by omega
      have hw8 := Nu.wr (x := 8 * (m : Int)) (by omega) (by omega)
      have hC11 := Lib.hid (RBits_B nx.out (Nat.le_trans hA.out (by decide)))
      go_wp2_with fail
      refine hC11.out.mono ?_
      rintro e w11 ⟨rfl, hb⟩
      rw [hbl.out]
      replace a := Lib.hid (a.out.below hb)
      replace b := Lib.hid (b.out.below hb)
      replace nx := Lib.hid (nx.out.below hb)
      replace ny := Lib.hid (ny.out.below hb)
      replace hE := Lib.hid (hE.out.trans (hb.mono hE.out.size))
      clear hb hC11 
      obtain ⟨aa, al, ac, ab, an⟩ := a.out
      have za := ab.cell
      replace an := Lib.hid an
      clear ab
      have hC12 := Lib.hid (an.out.bits (Nat.le_trans hA.out (by decide)))
      go_wp2_with fail
      refine hC12.out.mono ?_
      rintro e w12 ⟨rfl, hb⟩
      rw [hbl.out]
      replace a := Lib.hid (a.out.below hb)
      replace b := Lib.hid (b.out.below hb)
      replace nx := Lib.hid (nx.out.below hb)
      replace ny := Lib.hid (ny.out.below hb)
      replace hE := Lib.hid (hE.out.trans (hb.mono hE.out.size))
      clear hb hC12 za an
      have hC13 := Lib.hid (RBits_B nx.out (Nat.le_trans hA.out (by decide)))
      go_wp2_with fail
      refine hC13.out.mono ?_
      rintro e w13 ⟨rfl, hb⟩
      rw [hbl.out]
      replace a := Lib.hid (a.out.below hb)
      replace b := Lib.hid (b.out.below hb)
      replace nx := Lib.hid (nx.out.below hb)
      replace ny := Lib.hid (ny.out.below hb)
      replace hE := Lib.hid (hE.out.trans (hb.mono hE.out.size))
      clear hb hC13 
      obtain ⟨aa, al, ac, ab, an⟩ := a.out
      have za := ab.cell
      replace an := Lib.hid an
      clear ab
      obtain ⟨ba, bl, bc, bb, bn⟩ := b.out
      have zb := bb.cell
      replace bn := Lib.hid bn
      clear bb
      have hC14 := Lib.hid (Cmp_N an.out bn.out (Nat.le_trans hA.out (by decide)) (Nat.le_trans hB.out (by decide)))
      go_wp2_with fail
      refine hC14.out.mono ?_
      rintro e w14 ⟨rfl, hb⟩
      rw [hcv.out]
      replace a := Lib.hid (a.out.below hb)
      replace b := Lib.hid (b.out.below hb)
      replace nx := Lib.hid (nx.out.below hb)
      replace ny := Lib.hid (ny.out.below hb)
      replace hE := Lib.hid (hE.out.trans (hb.mono hE.out.size))
      clear hb hC14 za an zb bn
      have hC15 := Lib.hid (RCmp_N nx.out ny.out (Nat.le_trans hA.out (by decide)) (Nat.le_trans hB.out (by decide)))
      go_wp2_with fail
      refine hC15.out.mono ?_
      rintro e w15 ⟨rfl, hb⟩
      rw [hcv.out]
      replace a := Lib.hid (a.out.below hb)
      replace b := Lib.hid (b.out.below hb)
      replace nx := Lib.hid (nx.out.below hb)
      replace ny := Lib.hid (ny.out.below hb)
      replace hE := Lib.hid (hE.out.trans (hb.mono hE.out.size))
      clear hb hC15 
      go_wp2_with fail
      go_ret
      exact ⟨rfl, hE.out⟩
    · obtain ⟨m, rfl, hm6, h8, rfl, rfl⟩ := h1
      clear hcase
      have hn0 : ¬ (m : Int) < 0 := by omega
      have hw8 := Nu.wr (x := 8 * (m : Int)) (by omega) (by omega)
      have hC11 := Lib.hid (RBits_B nx.out (Nat.le_trans hA.out (by decide)))
      go_wp2_with fail
      refine hC11.out.mono ?_
      rintro e w11 ⟨rfl, hb⟩
      rw [hbl.out]
      replace a := Lib.hid (a.out.below hb)
      replace b := Lib.hid (b.out.below hb)
      replace nx := Lib.hid (nx.out.below hb)
      replace ny := Lib.hid (ny.out.below hb)
      replace hE := Lib.hid (hE.out.trans (hb.mono hE.out.size))
      clear hb hC11 
      have hC12 := Lib.hid (RWide_N nx.out (Nat.le_trans hA.out (by decide)) m (by omega))
      go_wp2_with fail
      refine hC12.out.mono ?_
      rintro e w12 ⟨rfl, hb⟩
      replace a := Lib.hid (a.out.below hb)
      replace b := Lib.hid (b.out.below hb)
      replace nx := Lib.hid (nx.out.below hb)
      replace ny := Lib.hid (ny.out.below hb)
      replace hE := Lib.hid (hE.out.trans (hb.mono hE.out.size))
      clear hb hC12 
      obtain ⟨aa, al, ac, ab, an⟩ := a.out
      have za := ab.cell
      replace an := Lib.hid an
      clear ab
      have hC13 := Lib.hid (an.out.bits (Nat.le_trans hA.out (by decide)))
      go_wp2_with fail
      refine hC13.out.mono ?_
      rintro e w13 ⟨rfl, hb⟩
      rw [hbl.out]
      replace a := Lib.hid (a.out.below hb)
      replace b := Lib.hid (b.out.below hb)
      replace nx := Lib.hid (nx.out.below hb)
      replace ny := Lib.hid (ny.out.below hb)
      replace hE := Lib.hid (hE.out.trans (hb.mono hE.out.size))
      clear hb hC13 za an
      have hC14 := Lib.hid (RBits_B nx.out (Nat.le_trans hA.out (by decide)))
      go_wp2_with fail
      refine hC14.out.mono ?_
      rintro e w14 ⟨rfl, hb⟩
      rw [hbl.out]
      replace a := Lib.hid (a.out.below hb)
      replace b := Lib.hid (b.out.below hb)
      replace nx := Lib.hid (nx.out.below hb)
      replace ny := Lib.hid (ny.out.below hb)
      replace hE := Lib.hid (hE.out.trans (hb.mono hE.out.size))
      clear hb hC14 
      obtain ⟨aa, al, ac, ab, an⟩ := a.out
      have za := ab.cell
      replace an := Lib.hid an
      clear ab
      obtain ⟨ba, bl, bc, bb, bn⟩ := b.out
      have zb := bb.cell
      replace bn := Lib.hid bn
      clear bb
      have hC15 := Lib.hid (Cmp_N an.out bn.out (Nat.le_trans hA.out (by decide)) (Nat.le_trans hB.out (by decide)))
      go_wp2_with fail
      refine hC15.out.mono ?_
      rintro e w15 ⟨rfl, hb⟩
      rw [hcv.out]
      replace a := Lib.hid (a.out.below hb)
      replace b := Lib.hid (b.out.below hb)
      replace nx := Lib.hid (nx.out.below hb)
      replace ny := Lib.hid (ny.out.below hb)
      replace hE := Lib.hid (hE.out.trans (hb.mono hE.out.size))
      clear hb hC15 za an zb bn
      have hC16 := Lib.hid (RCmp_N nx.out ny.out (Nat.le_trans hA.out (by decide)) (Nat.le_trans hB.out (by decide)))
      go_wp2_with fail
      refine hC16.out.mono ?_
      rintro e w16 ⟨rfl, hb⟩
      rw [hcv.out]
      replace a := Lib.hid (a.out.below hb)
      replace b := Lib.hid (b.out.below hb)
      replace nx := Lib.hid (nx.out.below hb)
      replace ny := Lib.hid (ny.out.below hb)
      replace hE := Lib.hid (hE.out.trans (hb.mono hE.out.size))
      clear hb hC16 
      go_wp2_with fail
      go_ret
      exact ⟨rfl, hE.out⟩
end Go.Proofs.YtffehdfddkgggaaDoor.Nu

namespace Go.Proofs.YtffehdfddkgggaaDoor.numberTells
open Go.ChangeShapes Go.WideShapes Go.ChangeAt Go.RowKit
open Go.ChangeMaps (open_string shut_string)
set_option linter.unusedVariables false
set_option linter.unusedSimpArgs false
theorem laidOut : laidOutB Tryd.prog = true := by kernel_rfl
theorem own : ownKnob Tryd.prog.godebug = none := by kernel_rfl
set_option maxRecDepth 100000 in
theorem lifted (os : Os) (started : os.Started) (H : Type) (enc : TypeId × Value → H) :
    ReturnsInHanded {} Tryd.checked os 3 .any (fun w args => (Rows.numberTellsSpec.pre enc Tryd.prog Tryd.f3 [] false w args ∧ laidMetH Tryd.prog Rows.numberTellsRow.laid w) ∧ sizedMet enc Tryd.prog Tryd.f3 (OpenSpec.ofChange Rows.numberTellsSpec) false w args)
      (Rows.numberTellsSpec.post enc Tryd.prog Tryd.f3 false true false false) := by
  refine returnsInHanded_of_change_and (C := Tryd.checked) (X := fun w _ => laidMetH Tryd.prog Rows.numberTellsRow.laid w) (fun _ _ _ hh h => h.of_heap hh) own started (by kernel_rfl) Tryd.func3
    (ChangeSpec.witness_shaped (enc := enc) (C := Tryd.checked) (os := os) (X := fun w _ => laidMetH Tryd.prog Rows.numberTellsRow.laid w) false (World.laidAll Tryd.prog os Rows.numberTellsRow.laid) #[.string ByteArray.empty, .int .i64 0, .int .u64 0] 8 (World.laidAll_os _ _ _)
      (World.shaped_of_ZipB (by kernel_rfl) (by kernel_rfl)) (by kernel_rfl) (by kernel_rfl) (by kernel_rfl)
      (by rw [MakeChecks.laidMetH_plain _ _ _ (by kernel_rfl)]; exact laidMet_laidAll _ (by kernel_rfl) (by kernel_rfl))) ?_
  intro W base args ds gs before hval0 hW _ hsz0 _ _
  have hsz : (DataW.weightsEach Tryd.prog (Tryd.f3.params.toList ++ Rows.numberTellsSpec.plain.varTypes Tryd.prog) (ds ++ gs)).all (· ≤ reachBytes) = true := hsz0
  have hval : ∀ (j : Nat) t v, Tryd.f3.params[j]? = some t → args[j]? = some v → Value.okWide Tryd.prog W .any base t v := hval0
  have hW' := hW
  obtain ⟨p, q, hA0, hV, rfl, hfz, hnd⟩ := hW
  have hA : DataW.TrodAll enc Tryd.prog W 0 (fun _ => true) true Tryd.f3.params.toList args.toList ds p := hA0
  rw [Tryd.params3] at hA hval hsz
  obtain ⟨v0, vs0, d0, ds0, p0, q0, hargs, rfl, rfl, h0, r0⟩ := trodAll_cons hA
  obtain ⟨v1, vs1, d1, ds1, p1, q1, rfl, rfl, rfl, h1, r1⟩ := trodAll_cons r0
  obtain ⟨v2, vs2, d2, ds2, p2, q2, rfl, rfl, rfl, h2, r2⟩ := trodAll_cons r1
  obtain ⟨rfl, rfl, rfl⟩ := trodAll_nil r2
  obtain rfl : args = #[v0, v1, v2] := by cases args; simp_all
  obtain ⟨rfl, rfl⟩ := trodVars_none hV
  obtain ⟨a0, rfl, rfl, rfl, y0⟩ := open_string Tryd.underlying9 (hval 0 9 v0 rfl rfl) h0
  have n0 : a0.size ≤ 140737488351232 := by
    have z := sized_string hsz (j := 0) (t := 9) rfl rfl
    have hr : reachBytes = 140737488351232 := by decide
    rw [hr] at z
    have e2 : a0.data.toList.length = a0.size := Array.length_toList
    rw [e2] at z
    exact z
  obtain ⟨a1, rfl, rfl, rfl, w1⟩ := open_int Tryd.underlying3 (hval 1 3 v1 rfl rfl) h1
  obtain ⟨a2, rfl, rfl, rfl, w2⟩ := open_int Tryd.underlying22 (hval 2 22 v2 rfl rfl) h2
  clear hA0 hval0 hsz0 hsz
  refine (Nu.NumberTells_any a0 a1 a2 (by omega) (bounds_i64 w1).1 (Nu.u64_of w2).1 (Nu.u64_of w2).2 W).mono fun e W' ⟨he, bel⟩ => ?_
  subst he
  exact ⟨_, rfl, _, _, _, [], _, [], hW', trodAll_mk1 (shut_bool Tryd.underlying4 _), (trodAll_cons_mk (shut_string Tryd.underlying9 y0) (trodAll_cons_mk (shut_int Tryd.underlying3 w1) (trodAll_cons_mk (shut_int Tryd.underlying22 w2) trodAll_mk0))), rfl, bel.frame _, fun h => by cases h⟩
theorem over : Rows.numberTellsRow.holds Tryd.pinned (OpenSpec.ofChange Rows.numberTellsSpec) :=
  OpenClaim.holds_of_wide 3 Tryd.f3 rfl rfl rfl rfl rfl rfl rfl ⟨rfl, rfl, rfl, rfl, rfl⟩ rfl rfl rfl rfl rfl (by kernel_rfl) Tryd.func3 (by kernel_rfl)
    (of_decide_eq_true (by kernel_rfl)) (by unfold Func.isWrapper; first | (rw [if_pos (by decide +kernel)]; kernel_rfl) | (rw [if_neg (by decide +kernel)]; exact ⟨rfl, rfl⟩))
    (fun os started H enc _ => lifted os started H enc)
theorem card : Rows.NumberTellsCardSaid :=
  Claim7.holds_tied_plain_at .later [] [.data, .pinned] true (true, "acad1c1d1f756dec29b6445e289ef38fbf9a36fc57db2a92c0a2a1121c828621") false
    over (fun _ h => by cases h) (by kernel_rfl) (fun _ h => by cases h) numberTells_row_tie rfl ⟨rfl, rfl⟩ (by kernel_rfl) rfl
    (fun f fn hf hfn => by
      obtain rfl : f = 3 := Option.some.inj ((show Tryd.prog.funcNamed "guidepost/guidepostlaw05.NumberTells" = some 3 by kernel_rfl).symm.trans hf) |>.symm
      obtain rfl : fn = Tryd.f3 := (Option.some.inj (Tryd.func3.symm.trans hfn)).symm
      exact ⟨by kernel_rfl, fun j t ht => by
        rw [Tryd.params3] at ht
        have hm : t ∈ [22, 3, 9] := by have := Array.mem_of_getElem? ht; simp at this ⊢; first | omega | (rcases this with h | h | h <;> simp [h]) | (rcases this with h | h <;> simp [h])
        have hall : ([22, 3, 9].all fun u => !Tryd.prog.wantsStandIn u) = true := by kernel_rfl
        exact (show Tryd.prog.wantsStandIn t = false by simpa using List.all_eq_true.1 hall t hm)⟩)
    (by kernel_rfl)
#print axioms card
end Go.Proofs.YtffehdfddkgggaaDoor.numberTells
namespace Go.Proofs.YtffehdfddkgggaaDoor
/-- The card, under a short name, for the claim. -/
theorem numberTells_holds : Rows.NumberTellsCardSaid := numberTells.card
end Go.Proofs.YtffehdfddkgggaaDoor
