/- guidepostlaw05.NumberMoves: for every input it returns true, and each argument reads behind the call as before; the listed variables are tied to the program's text. -/
import Derived.Test.YtffehdfddkgggaaDoorMFC
import Derived.Test.YtffehdfddkgggaaDoorRows
import Derived.Test.YtffehdfddkgggaaDoorCards
import Derived.Test.YtffehdfddkgggaaDoorTie
import Derived.WalkKit
import Derived.ProofKit
import Derived.OpenShut
import Derived.ShutString
import Derived.ChangeOld
import Derived.Below
import Derived.SizedLaws
import Derived.Carry
import Derived.LaidMore
import Derived.Lay
import Derived.SevenTiedAt
/- guidepostlaw05.NumberMoves: the walk. -/
namespace Go.Proofs.YtffehdfddkgggaaDoor.Nu
open Go.RowKit Rt
set_option linter.unusedSimpArgs false
set_option linter.unusedVariables false
theorem cmpN_self (n : Nat) : cmpN n n = 0 := by unfold cmpN; rw [if_neg (Nat.lt_irrefl _), if_neg (Nat.lt_irrefl _)]
/-- A text with so many noughts behind it. -/
def zs (b : ByteArray) : Nat → ByteArray
  | 0 => b
  | k + 1 => zs b k ++ ⟨#[0]⟩
def one1 : ByteArray := ⟨#[1]⟩
theorem one1_size : one1.size = 1 := rfl
theorem zs_size (b : ByteArray) (k : Nat) : (zs b k).size = b.size + k := by
  induction k with
  | zero => rfl
  | succ k ih =>
    show (zs b k ++ ⟨#[0]⟩).size = _
    rw [ByteArray.size_append, ih]
    rfl
theorem numL_zero : ∀ L : List UInt8, numL (L ++ [0]) = numL L * 256
  | [] => rfl
  | c :: x => by
    show c.toNat * 256 ^ (x ++ [0]).length + numL (x ++ [0]) = (c.toNat * 256 ^ x.length + numL x) * 256
    rw [numL_zero x, List.length_append, Nat.add_mul, Nat.mul_assoc, ← Nat.pow_succ]
    rfl
theorem numS_zero (x : ByteArray) : numS (x ++ ⟨#[0]⟩) = numS x * 256 := by
  obtain ⟨a⟩ := x
  obtain ⟨L⟩ := a
  have e : (⟨⟨L⟩⟩ ++ ⟨#[0]⟩ : ByteArray) = ⟨(L ++ [0]).toArray⟩ := by
    apply ByteArray.ext
    rw [ByteArray.data_append]
    simp
  rw [e]
  show numS ⟨(L ++ [0]).toArray⟩ = numS ⟨L.toArray⟩ * 256
  rw [numL_num, numL_num, numL_zero]
theorem zs_num (b : ByteArray) (k : Nat) : numS (zs b k) = numS b * 256 ^ k := by
  induction k with
  | zero => show numS b = numS b * 256 ^ 0; rw [Nat.pow_zero, Nat.mul_one]
  | succ k ih =>
    show numS (zs b k ++ ⟨#[0]⟩) = _
    rw [numS_zero, ih, Nat.pow_succ, Nat.mul_assoc]
theorem blen_pow256 (k : Nat) : blen (256 ^ k) = 8 * k + 1 := by
  have e : (256 : Nat) ^ k = 2 ^ (8 * k) := by rw [show (256 : Nat) = 2 ^ 8 from rfl, ← Nat.pow_mul]
  rw [e]
  have h1 : blen (2 ^ (8 * k)) ≤ 8 * k + 1 := blen_le.2 (Nat.pow_lt_pow_right (by decide) (Nat.lt_succ_self _))
  have h2 : ¬ blen (2 ^ (8 * k)) ≤ 8 * k := fun h => absurd (blen_le.1 h) (Nat.lt_irrefl _)
  omega
theorem num_wide {n many : Nat} (h : blen n ≤ 8 * many) : numS (wideW n many) = n := by
  refine numS_wide ?_
  rw [show (256 : Nat) = 2 ^ 8 from rfl, ← Nat.pow_mul]
  exact blen_le.1 h
set_option maxHeartbeats 8000000 in
set_option maxRecDepth 100000 in
theorem NumberMoves_any (s : ByteArray) (many : Int) (hss : s.size ≤ 9223372036854775807) (hm1 : -9223372036854775808 ≤ many) (hm2 : many ≤ 9223372036854775807) (w : World) :
    Calls Tryd.prog 6 #[.string s, .int .i64 many] w fun e w' => e = .returned (.bool true) ∧ Below w.heap.size w w' := by
  obtain ⟨mm, hmm⟩ : ∃ m : Nat, (if many < 0 then -(many + 1) else many) = (m : Int) := ⟨(if many < 0 then -(many + 1) else many).toNat, by split <;> omega⟩
  have hmmB : (mm : Int) ≤ 9223372036854775807 := by rw [← hmm]; split <;> omega
  obtain ⟨r, hr⟩ : ∃ r, mm % 51 = r := ⟨_, rfl⟩
  have hr51 : r < 51 := by omega
  have htm : Int.tmod (mm : Int) 51 = (r : Int) := by rw [← hr]; exact (Int.ofNat_tmod mm 51).symm
  have htm2 : (mm : Int) % 51 = (r : Int) := by rw [← hr]; exact (Int.natCast_emod mm 51).symm
  have hrw := Nu.wr (x := (r : Int)) (by omega) (by omega)
  have hw8 := Nu.wr (x := 8 * (r : Int)) (by omega) (by omega)
  have hw81 := Nu.wr (x := 8 * (r : Int) + 1) (by omega) (by omega)
  clear hr
  obtain ⟨a0, ha0⟩ : ∃ z, ofV s 400 = z := ⟨_, rfl⟩
  have haE := Lib.hid ha0
  have hA : Hid (blen a0 ≤ 3200) := Lib.hid (by rw [← ha0]; exact ofV_small s (by decide))
  obtain ⟨u0, hu⟩ : ∃ z, bytesW a0 = z := ⟨_, rfl⟩
  have hu0 := Lib.hid hu
  have hus : Hid (u0.size ≤ 400) := Lib.hid (by rw [← hu]; unfold bytesW; rw [wideW_size]; have := hA.out; omega)
  have hun : numS u0 = a0 := by rw [← hu]; exact num_wide (by omega)
  obtain ⟨b0, hb0⟩ : ∃ z, (256 : Nat) ^ r = z := ⟨_, rfl⟩
  have hbl0 : blen b0 = 8 * r + 1 := by rw [← hb0]; exact blen_pow256 r
  have hB : Hid (blen b0 ≤ 401) := Lib.hid (by omega)
  have hb10 : capN (numS (zs one1 r)) = b0 ∧ errN (numS (zs one1 r)) = 0 := by
    rw [show numS (zs one1 r) = b0 from by rw [zs_num, show numS one1 = 1 from by decide +kernel, Nat.one_mul, hb0]]
    exact capN_small (Nat.le_trans hB.out (by decide))
  have hDb : blen (a0 * b0) ≤ 3602 := Nat.le_trans (blen_mul _ _) (by have := hA.out; have := hB.out; omega)
  have hD : Hid (blen (a0 * b0) ≤ 3602) := Lib.hid hDb
  have hd0 := capN_small (Nat.le_trans hDb (by decide))
  have hc0 : capN (numS (zs u0 r)) = a0 * b0 ∧ errN (numS (zs u0 r)) = 0 := by rw [zs_num, hun, hb0]; exact hd0
  have hb1 := Lib.hid hb10
  have hc1 := Lib.hid hc0
  have hd1 := Lib.hid hd0
  have hbn0 : b0 ≠ 0 := by rw [← hb0]; exact Nat.ne_of_gt (Nat.pow_pos (by decide))
  have hdE : Hid (divE b0 = 0) := Lib.hid (by unfold divE; rw [if_neg hbn0])
  have hq1 : Hid (a0 * b0 / b0 = a0) := Lib.hid (Nat.mul_div_cancel _ (Nat.pos_of_ne_zero hbn0))
  have hr1 : Hid (onDiv b0 (a0 * b0 % b0) = 0) := Lib.hid (by unfold onDiv; rw [if_neg hbn0, Nat.mul_mod_left])
  obtain ⟨bl, hble⟩ : ∃ z, blen b0 = z := ⟨_, rfl⟩
  have hbeq : ((bl : Int) == 8 * (r : Int) + 1) = true := by simp; omega
  have hbl := Lib.hid hble
  have hbE := Lib.hid hb0
  clear ha0 hu hun hb0 hbl0 hb10 hDb hd0 hc0 hbn0 hble
  go_enter Tryd.func6, Tryd.ntmps6
  have hE := Lib.hid (Below.refl w.heap.size w)
  have hC1 := Lib.hid (examples_any w)
  go_wp2_with fail
  refine hC1.out.mono ?_
  rintro e w1 ⟨rfl, hb⟩
  replace hE := Lib.hid (hE.out.trans (hb.mono hE.out.size))
  clear hb hC1 
  have hC2 := Lib.hid (of_N s 400 (by decide) hss w1)
  go_wp2_with fail
  refine hC2.out.mono ?_
  rintro e w2 ⟨va, rfl, na, hb⟩
  obtain ⟨vaa, val, vac, rfl⟩ := na.shape
  rw [haE.out] at na
  replace na := Lib.hid na
  replace hE := Lib.hid (hE.out.trans (hb.mono hE.out.size))
  clear hb hC2 
  go_upto_region 3 with (fail)
  have hb : Below w2.heap.size w2 (w2.alloc (.cells #[.slice vaa val vac] 26)) := (Below.refl _ _).alloc (Nat.le_refl _) _
  have a' := Var.made na.out
  replace na := Lib.hid (na.out.below hb)
  replace hE := Lib.hid (hE.out.trans (hb.mono hE.out.size))
  have a := Lib.hid a'
  clear hb a'
  obtain ⟨w3, hw⟩ : ∃ W, (w2.alloc (.cells #[.slice vaa val vac] 26)) = W := ⟨_, rfl⟩
  rw [hw] at hE na a ⊢
  clear hw
  obtain ⟨ga, hga⟩ : ∃ g, w2.heap.size = g := ⟨_, rfl⟩
  rw [hga] at a ⊢
  clear hga
  clear na
  go_upto_if 23 with (fail)
  go_cut [1] from 24 to 26 (fun s1 wx => s1 = .int .i64 (mm : Int) ∧ Hid (Below w.heap.size w wx) ∧ Hid (Var wx ga a0))
  case first =>
    by_cases hl : many < 0
    · have h1 : -(many + 1) = (mm : Int) := by rw [if_pos hl] at hmm; exact hmm
      have hw1 := Nu.wr (x := many + 1) (by omega) (by omega)
      have hw2 : IntKind.i64.wrap (-(many + 1)) = (mm : Int) := by rw [Nu.wr (by omega) (by omega)]; exact h1
      clear hmm h1
      go_wp2_with fail
      go_meet
      case rel => exact ⟨by first | rfl | rw [hw2], hE, a⟩
    · have h1 : Hid (many = (mm : Int)) := Lib.hid (by rw [if_neg hl] at hmm; exact hmm)
      clear hmm
      go_wp2_with fail
      go_meet
      case rel => exact ⟨by rw [h1.out], hE, a⟩
  case rest =>
    clear hE a
    obtain ⟨rfl, hE, a⟩ := hcut
    clear hmm
    have hbY := Lib.hid hbE.out
    obtain ⟨aa, al, ac, ab, an⟩ := a.out
    have za := ab.cell
    replace an := Lib.hid an
    clear ab
    have hC4 := Lib.hid (Bytes_N an.out (Nat.le_trans hA.out (by decide)))
    go_wp2_with fail
    refine hC4.out.mono ?_
    rintro e w4 ⟨rfl, hb⟩
    rw [hu0.out]
    replace a := Lib.hid (a.out.below hb)
    replace hE := Lib.hid (hE.out.trans (hb.mono hE.out.size))
    clear hb hC4 za an
    go_wp2_with fail
    go_loopw [7, 8, 9] (fun v7 v8 v9 wr => ∃ k : Nat, v7 = .string (zs one1 k) ∧ v8 = .string (zs u0 k) ∧ v9 = .int .i64 (k : Int) ∧ k ≤ r ∧ Hid (Below w.heap.size w wr) ∧ Hid (Var wr ga a0)) (fun _ _ v9 _ => r - (intOf v9).toNat)
    case atStart => exact ⟨0, rfl, rfl, rfl, Nat.zero_le _, hE, a⟩
    case round =>
      obtain ⟨k, rfl, rfl, rfl, hk, hE2, a2⟩ := hrel
      clear hE a
      by_cases hlt : (k : Int) < (r : Int)
      · have hlt2 : k < r := by omega
        have hs1 : ¬ 9223372036854775807 < (zs one1 k).size + 1 := by rw [zs_size]; have := one1_size; omega
        have hs2 : ¬ 9223372036854775807 < (zs u0 k).size + 1 := by rw [zs_size]; have := hus.out; omega
        have hkw := Nu.wr (x := (k : Int) + 1) (by omega) (by omega)
        go_wp2_with fail
        go_roundw
        case rel => exact ⟨k + 1, rfl, rfl, by first | rfl | go_num, by omega, hE2, a2⟩
        case measure => first | (simp [intOf]; done) | (simp [intOf]; omega)
      · have hlt2 : ¬ k < r := by omega
        have hkr : k = r := by omega
        subst hkr
        have hE := hE2
        have a := a2
        clear hE2 a2 hk
        go_upto_region 13 with (fail)
        have hC5 := Lib.hid (Of_N (zs one1 k) wr)
        go_wp2_with fail
        refine hC5.out.mono ?_
        rintro e w5 ⟨vb, rfl, nb, hb⟩
        obtain ⟨vba, vbl, vbc, rfl⟩ := nb.shape
        rw [hb1.out.2]
        rw [hb1.out.1] at nb
        replace a := Lib.hid (a.out.below hb)
        replace nb := Lib.hid nb
        replace hE := Lib.hid (hE.out.trans (hb.mono hE.out.size))
        clear hb hC5 
        go_upto_region 14 with (fail)
        have hb : Below w5.heap.size w5 (w5.alloc (.cells #[.slice vba vbl vbc] 26)) := (Below.refl _ _).alloc (Nat.le_refl _) _
        have b' := Var.made nb.out
        replace a := Lib.hid (a.out.below hb)
        replace nb := Lib.hid (nb.out.below hb)
        replace hE := Lib.hid (hE.out.trans (hb.mono hE.out.size))
        have b := Lib.hid b'
        clear hb b'
        obtain ⟨w6, hw⟩ : ∃ W, (w5.alloc (.cells #[.slice vba vbl vbc] 26)) = W := ⟨_, rfl⟩
        rw [hw] at hE a nb b ⊢
        clear hw
        obtain ⟨gb, hgb⟩ : ∃ g, w5.heap.size = g := ⟨_, rfl⟩
        rw [hgb] at b ⊢
        clear hgb
        clear nb
        have hC7 := Lib.hid (Of_N (zs u0 k) w6)
        go_wp2_with fail
        refine hC7.out.mono ?_
        rintro e w7 ⟨vc, rfl, nc, hb⟩
        obtain ⟨vca, vcl, vcc, rfl⟩ := nc.shape
        rw [hc1.out.2]
        rw [hc1.out.1] at nc
        replace a := Lib.hid (a.out.below hb)
        replace b := Lib.hid (b.out.below hb)
        replace nc := Lib.hid nc
        replace hE := Lib.hid (hE.out.trans (hb.mono hE.out.size))
        clear hb hC7 
        go_upto_region 15 with (fail)
        have hb : Below w7.heap.size w7 (w7.alloc (.cells #[.slice vca vcl vcc] 26)) := (Below.refl _ _).alloc (Nat.le_refl _) _
        have c' := Var.made nc.out
        replace a := Lib.hid (a.out.below hb)
        replace b := Lib.hid (b.out.below hb)
        replace nc := Lib.hid (nc.out.below hb)
        replace hE := Lib.hid (hE.out.trans (hb.mono hE.out.size))
        have c := Lib.hid c'
        clear hb c'
        obtain ⟨w8, hw⟩ : ∃ W, (w7.alloc (.cells #[.slice vca vcl vcc] 26)) = W := ⟨_, rfl⟩
        rw [hw] at hE a b nc c ⊢
        clear hw
        obtain ⟨gc, hgc⟩ : ∃ g, w7.heap.size = g := ⟨_, rfl⟩
        rw [hgc] at c ⊢
        clear hgc
        clear nc
        obtain ⟨aa, al, ac, ab, an⟩ := a.out
        have za := ab.cell
        replace an := Lib.hid an
        clear ab
        obtain ⟨ba, bl, bc, bb, bn⟩ := b.out
        have zb := bb.cell
        replace bn := Lib.hid bn
        clear bb
        have hC9 := Lib.hid (Mul_N an.out bn.out (Nat.le_trans hA.out (by decide)) (Nat.le_trans hB.out (by decide)))
        go_wp2_with fail
        refine hC9.out.mono ?_
        rintro e w9 ⟨td, rfl, nd, hb⟩
        obtain ⟨tda, tdl, tdc, rfl⟩ := nd.shape
        rw [hd1.out.2]
        rw [hd1.out.1] at nd
        replace a := Lib.hid (a.out.below hb)
        replace b := Lib.hid (b.out.below hb)
        replace c := Lib.hid (c.out.below hb)
        replace nd := Lib.hid nd
        replace hE := Lib.hid (hE.out.trans (hb.mono hE.out.size))
        clear hb hC9 za an zb bn
        go_upto_region 16 with (fail)
        have hb : Below w9.heap.size w9 (w9.alloc (.cells #[.slice tda tdl tdc] 26)) := (Below.refl _ _).alloc (Nat.le_refl _) _
        have d' := Var.made nd.out
        replace a := Lib.hid (a.out.below hb)
        replace b := Lib.hid (b.out.below hb)
        replace c := Lib.hid (c.out.below hb)
        replace nd := Lib.hid (nd.out.below hb)
        replace hE := Lib.hid (hE.out.trans (hb.mono hE.out.size))
        have d := Lib.hid d'
        clear hb d'
        obtain ⟨w10, hw⟩ : ∃ W, (w9.alloc (.cells #[.slice tda tdl tdc] 26)) = W := ⟨_, rfl⟩
        rw [hw] at hE a b c nd d ⊢
        clear hw
        obtain ⟨gd, hgd⟩ : ∃ g, w9.heap.size = g := ⟨_, rfl⟩
        rw [hgd] at d ⊢
        clear hgd
        clear nd
        obtain ⟨da, dl, dc, db, dn⟩ := d.out
        have zd := db.cell
        replace dn := Lib.hid dn
        clear db
        obtain ⟨ba, bl, bc, bb, bn⟩ := b.out
        have zb := bb.cell
        replace bn := Lib.hid bn
        clear bb
        have hC11 := Lib.hid (Div_N dn.out bn.out (Nat.le_trans hD.out (by decide)) (Nat.le_trans hB.out (by decide)))
        go_wp2_with fail
        refine hC11.out.mono ?_
        rintro e w11 ⟨tq, tr, rfl, nq, nr, hb⟩
        obtain ⟨tqa, tql, tqc, rfl⟩ := nq.shape
        obtain ⟨tra, trl, trc, rfl⟩ := nr.shape
        rw [hdE.out]
        rw [hq1.out] at nq
        rw [hr1.out] at nr
        replace a := Lib.hid (a.out.below hb)
        replace b := Lib.hid (b.out.below hb)
        replace c := Lib.hid (c.out.below hb)
        replace d := Lib.hid (d.out.below hb)
        replace nq := Lib.hid nq
        replace nr := Lib.hid nr
        replace hE := Lib.hid (hE.out.trans (hb.mono hE.out.size))
        clear hb hC11 zd dn zb bn
        go_upto_region 17 with (fail)
        have hb : Below w11.heap.size w11 (w11.alloc (.cells #[.slice tqa tql tqc] 26)) := (Below.refl _ _).alloc (Nat.le_refl _) _
        have q' := Var.made nq.out
        replace a := Lib.hid (a.out.below hb)
        replace b := Lib.hid (b.out.below hb)
        replace c := Lib.hid (c.out.below hb)
        replace d := Lib.hid (d.out.below hb)
        replace nq := Lib.hid (nq.out.below hb)
        replace nr := Lib.hid (nr.out.below hb)
        replace hE := Lib.hid (hE.out.trans (hb.mono hE.out.size))
        have q := Lib.hid q'
        clear hb q'
        have hb : Below (w11.alloc (.cells #[.slice tqa tql tqc] 26)).heap.size (w11.alloc (.cells #[.slice tqa tql tqc] 26)) ((w11.alloc (.cells #[.slice tqa tql tqc] 26)).alloc (.cells #[.slice tra trl trc] 26)) := (Below.refl _ _).alloc (Nat.le_refl _) _
        have r' := Var.made nr.out
        replace a := Lib.hid (a.out.below hb)
        replace b := Lib.hid (b.out.below hb)
        replace c := Lib.hid (c.out.below hb)
        replace d := Lib.hid (d.out.below hb)
        replace nq := Lib.hid (nq.out.below hb)
        replace nr := Lib.hid (nr.out.below hb)
        replace q := Lib.hid (q.out.below hb)
        replace hE := Lib.hid (hE.out.trans (hb.mono hE.out.size))
        have r := Lib.hid r'
        clear hb r'
        simp only [World.size_alloc] at r
        obtain ⟨w12, hw⟩ : ∃ W, ((w11.alloc (.cells #[.slice tqa tql tqc] 26)).alloc (.cells #[.slice tra trl trc] 26)) = W := ⟨_, rfl⟩
        rw [hw] at hE a b c d nq nr q r ⊢
        clear hw
        obtain ⟨gq, hgq⟩ : ∃ g, w11.heap.size = g := ⟨_, rfl⟩
        obtain ⟨gr, hgr⟩ : ∃ g, w11.heap.size + 1 = g := ⟨_, rfl⟩
        rw [hgr] at r ⊢
        rw [hgq] at q ⊢
        clear hgq hgr
        clear nq
        clear nr
        obtain ⟨da, dl, dc, db, dn⟩ := d.out
        have zd := db.cell
        replace dn := Lib.hid dn
        clear db
        obtain ⟨ca, cl, cc, cb, cn⟩ := c.out
        have zc := cb.cell
        replace cn := Lib.hid cn
        clear cb
        have hC13 := Lib.hid (Cmp_N dn.out cn.out (Nat.le_trans hD.out (by decide)) (Nat.le_trans hD.out (by decide)))
        go_wp2_with fail
        refine hC13.out.mono ?_
        rintro e w13 ⟨rfl, hb⟩
        rw [cmpN_self]
        replace a := Lib.hid (a.out.below hb)
        replace b := Lib.hid (b.out.below hb)
        replace c := Lib.hid (c.out.below hb)
        replace d := Lib.hid (d.out.below hb)
        replace q := Lib.hid (q.out.below hb)
        replace r := Lib.hid (r.out.below hb)
        replace hE := Lib.hid (hE.out.trans (hb.mono hE.out.size))
        clear hb hC13 zd dn zc cn
        obtain ⟨qa, ql, qc, qb, qn⟩ := q.out
        have zq := qb.cell
        replace qn := Lib.hid qn
        clear qb
        obtain ⟨aa, al, ac, ab, an⟩ := a.out
        have za := ab.cell
        replace an := Lib.hid an
        clear ab
        have hC14 := Lib.hid (Cmp_N qn.out an.out (Nat.le_trans hA.out (by decide)) (Nat.le_trans hA.out (by decide)))
        go_wp2_with fail
        refine hC14.out.mono ?_
        rintro e w14 ⟨rfl, hb⟩
        rw [cmpN_self]
        replace a := Lib.hid (a.out.below hb)
        replace b := Lib.hid (b.out.below hb)
        replace c := Lib.hid (c.out.below hb)
        replace d := Lib.hid (d.out.below hb)
        replace q := Lib.hid (q.out.below hb)
        replace r := Lib.hid (r.out.below hb)
        replace hE := Lib.hid (hE.out.trans (hb.mono hE.out.size))
        clear hb hC14 zq qn za an
        obtain ⟨ra, rl, rc, rb, rn⟩ := r.out
        have zr := rb.cell
        replace rn := Lib.hid rn
        clear rb
        have hC15 := Lib.hid (rn.out.bits (by decide))
        go_wp2_with fail
        refine hC15.out.mono ?_
        rintro e w15 ⟨rfl, hb⟩
        rw [blen_zero]
        replace a := Lib.hid (a.out.below hb)
        replace b := Lib.hid (b.out.below hb)
        replace c := Lib.hid (c.out.below hb)
        replace d := Lib.hid (d.out.below hb)
        replace q := Lib.hid (q.out.below hb)
        replace r := Lib.hid (r.out.below hb)
        replace hE := Lib.hid (hE.out.trans (hb.mono hE.out.size))
        clear hb hC15 zr rn
        obtain ⟨ba, bl, bc, bb, bn⟩ := b.out
        have zb := bb.cell
        replace bn := Lib.hid bn
        clear bb
        have hC16 := Lib.hid (bn.out.bits (Nat.le_trans hB.out (by decide)))
        go_wp2_with fail
        refine hC16.out.mono ?_
        rintro e w16 ⟨rfl, hb⟩
        rw [hbl.out]
        replace a := Lib.hid (a.out.below hb)
        replace b := Lib.hid (b.out.below hb)
        replace c := Lib.hid (c.out.below hb)
        replace d := Lib.hid (d.out.below hb)
        replace q := Lib.hid (q.out.below hb)
        replace r := Lib.hid (r.out.below hb)
        replace hE := Lib.hid (hE.out.trans (hb.mono hE.out.size))
        clear hb hC16 zb bn
        go_wp2_with fail
        go_ret
        exact ⟨rfl, hE.out⟩
end Go.Proofs.YtffehdfddkgggaaDoor.Nu

namespace Go.Proofs.YtffehdfddkgggaaDoor.numberMoves
open Go.ChangeShapes Go.WideShapes Go.ChangeAt Go.RowKit
open Go.ChangeMaps (open_string shut_string)
set_option linter.unusedVariables false
set_option linter.unusedSimpArgs false
theorem laidOut : laidOutB Tryd.prog = true := by kernel_rfl
theorem own : ownKnob Tryd.prog.godebug = none := by kernel_rfl
set_option maxRecDepth 100000 in
theorem lifted (os : Os) (started : os.Started) (H : Type) (enc : TypeId × Value → H) :
    ReturnsInHanded {} Tryd.checked os 6 .any (fun w args => (Rows.numberMovesSpec.pre enc Tryd.prog Tryd.f6 [] false w args ∧ laidMetH Tryd.prog Rows.numberMovesRow.laid w) ∧ sizedMet enc Tryd.prog Tryd.f6 (OpenSpec.ofChange Rows.numberMovesSpec) false w args)
      (Rows.numberMovesSpec.post enc Tryd.prog Tryd.f6 false true false false) := by
  refine returnsInHanded_of_change_and (C := Tryd.checked) (X := fun w _ => laidMetH Tryd.prog Rows.numberMovesRow.laid w) (fun _ _ _ hh h => h.of_heap hh) own started (by kernel_rfl) Tryd.func6
    (ChangeSpec.witness_shaped (enc := enc) (C := Tryd.checked) (os := os) (X := fun w _ => laidMetH Tryd.prog Rows.numberMovesRow.laid w) false (World.laidAll Tryd.prog os Rows.numberMovesRow.laid) #[.string ByteArray.empty, .int .i64 0] 8 (World.laidAll_os _ _ _)
      (World.shaped_of_ZipB (by kernel_rfl) (by kernel_rfl)) (by kernel_rfl) (by kernel_rfl) (by kernel_rfl)
      (by rw [MakeChecks.laidMetH_plain _ _ _ (by kernel_rfl)]; exact laidMet_laidAll _ (by kernel_rfl) (by kernel_rfl))) ?_
  intro W base args ds gs before hval0 hW _ hsz0 _ _
  have hsz : (DataW.weightsEach Tryd.prog (Tryd.f6.params.toList ++ Rows.numberMovesSpec.plain.varTypes Tryd.prog) (ds ++ gs)).all (· ≤ reachBytes) = true := hsz0
  have hval : ∀ (j : Nat) t v, Tryd.f6.params[j]? = some t → args[j]? = some v → Value.okWide Tryd.prog W .any base t v := hval0
  have hW' := hW
  obtain ⟨p, q, hA0, hV, rfl, hfz, hnd⟩ := hW
  have hA : DataW.TrodAll enc Tryd.prog W 0 (fun _ => true) true Tryd.f6.params.toList args.toList ds p := hA0
  rw [Tryd.params6] at hA hval hsz
  obtain ⟨v0, vs0, d0, ds0, p0, q0, hargs, rfl, rfl, h0, r0⟩ := trodAll_cons hA
  obtain ⟨v1, vs1, d1, ds1, p1, q1, rfl, rfl, rfl, h1, r1⟩ := trodAll_cons r0
  obtain ⟨rfl, rfl, rfl⟩ := trodAll_nil r1
  obtain rfl : args = #[v0, v1] := by cases args; simp_all
  obtain ⟨rfl, rfl⟩ := trodVars_none hV
  obtain ⟨a0, rfl, rfl, rfl, y0⟩ := open_string Tryd.underlying9 (hval 0 9 v0 rfl rfl) h0
  have n0 : a0.size ≤ 140737488351232 := by
    have z := sized_string hsz (j := 0) (t := 9) rfl rfl
    have hr : reachBytes = 140737488351232 := by decide
    rw [hr] at z
    have e2 : a0.data.toList.length = a0.size := Array.length_toList
    rw [e2] at z
    exact z
  obtain ⟨a1, rfl, rfl, rfl, w1⟩ := open_int Tryd.underlying3 (hval 1 3 v1 rfl rfl) h1
  clear hA0 hval0 hsz0 hsz
  refine (Nu.NumberMoves_any a0 a1 (by omega) (bounds_i64 w1).1 (bounds_i64 w1).2 W).mono fun e W' ⟨he, bel⟩ => ?_
  subst he
  exact ⟨_, rfl, _, _, _, [], _, [], hW', trodAll_mk1 (shut_bool Tryd.underlying4 _), (trodAll_cons_mk (shut_string Tryd.underlying9 y0) (trodAll_cons_mk (shut_int Tryd.underlying3 w1) trodAll_mk0)), rfl, bel.frame _, fun h => by cases h⟩
theorem over : Rows.numberMovesRow.holds Tryd.pinned (OpenSpec.ofChange Rows.numberMovesSpec) :=
  OpenClaim.holds_of_wide 6 Tryd.f6 rfl rfl rfl rfl rfl rfl rfl ⟨rfl, rfl, rfl, rfl, rfl⟩ rfl rfl rfl rfl rfl (by kernel_rfl) Tryd.func6 (by kernel_rfl)
    (of_decide_eq_true (by kernel_rfl)) (by unfold Func.isWrapper; first | (rw [if_pos (by decide +kernel)]; kernel_rfl) | (rw [if_neg (by decide +kernel)]; exact ⟨rfl, rfl⟩))
    (fun os started H enc _ => lifted os started H enc)
theorem card : Rows.NumberMovesCardSaid :=
  Claim7.holds_tied_plain_at .later [] [.data, .pinned] true (true, "acad1c1d1f756dec29b6445e289ef38fbf9a36fc57db2a92c0a2a1121c828621") false
    over (fun _ h => by cases h) (by kernel_rfl) (fun _ h => by cases h) numberMoves_row_tie rfl ⟨rfl, rfl⟩ (by kernel_rfl) rfl
    (fun f fn hf hfn => by
      obtain rfl : f = 6 := Option.some.inj ((show Tryd.prog.funcNamed "guidepost/guidepostlaw05.NumberMoves" = some 6 by kernel_rfl).symm.trans hf) |>.symm
      obtain rfl : fn = Tryd.f6 := (Option.some.inj (Tryd.func6.symm.trans hfn)).symm
      exact ⟨by kernel_rfl, fun j t ht => by
        rw [Tryd.params6] at ht
        have hm : t ∈ [3, 9] := by have := Array.mem_of_getElem? ht; simp at this ⊢; first | omega | (rcases this with h | h | h <;> simp [h]) | (rcases this with h | h <;> simp [h])
        have hall : ([3, 9].all fun u => !Tryd.prog.wantsStandIn u) = true := by kernel_rfl
        exact (show Tryd.prog.wantsStandIn t = false by simpa using List.all_eq_true.1 hall t hm)⟩)
    (by kernel_rfl)
#print axioms card
end Go.Proofs.YtffehdfddkgggaaDoor.numberMoves
namespace Go.Proofs.YtffehdfddkgggaaDoor
/-- The card, under a short name, for the claim. -/
theorem numberMoves_holds : Rows.NumberMovesCardSaid := numberMoves.card
end Go.Proofs.YtffehdfddkgggaaDoor
