/- InfraChooses: the walk. -/
import Derived.Test.YticijejnemnmlaaJl
namespace Go.Proofs.Yticijejnemnmlaa.If
open Go.RowKit Rt
set_option linter.unusedSimpArgs false
set_option linter.unusedVariables false
theorem choose_no {st : Ad → Option Sp} {z : ByteArray} {now : Int} {l : List Ad} {draw : Int} {ca : Ad} (h : chooseA st z now l draw = (ca, false)) : ca = ⟨false, 0, 0⟩ ∧ ((bandL st z now l).length = 0 ∨ draw < 0) := by
  unfold chooseA at h
  split at h
  · rename_i h2; exact ⟨(congrArg Prod.fst h).symm, h2⟩
  · cases h
theorem choose_yes {st : Ad → Option Sp} {z : ByteArray} {now : Int} {l : List Ad} {draw : Int} {ca : Ad} (h : chooseA st z now l draw = (ca, true)) : ca ∈ bandL st z now l := by
  unfold chooseA at h
  split at h
  · cases h
  · rename_i h2
    have e := congrArg Prod.fst h
    simp only at e
    rw [← e]
    exact ga_mem (Nat.mod_lt _ (by omega))
theorem choose_at {st : Ad → Option Sp} {z : ByteArray} {now : Int} {l : List Ad} {j : Nat} (h : j < (bandL st z now l).length) : chooseA st z now l (j : Int) = (ga (bandL st z now l) j, true) := by
  unfold chooseA
  rw [if_neg (by omega), Int.toNat_natCast, Nat.mod_eq_of_lt h]
theorem take_mem_succ (l : List Ad) (j : Nat) (hj : j < l.length) (a : Ad) : decide (a ∈ l.take (j + 1)) = (decide (a ∈ l.take j) || decide (ga l j = a)) := by
  rw [List.take_succ_eq_append_getElem hj, ← ga_eq hj, Bool.eq_iff_iff]
  simp only [decide_eq_true_eq, Bool.or_eq_true, List.mem_append, List.mem_singleton]
  constructor
  · rintro (h | h)
    · exact .inl h
    · exact .inr h.symm
  · rintro (h | h)
    · exact .inl h
    · exact .inr h.symm
theorem exec_neq_self {ρ : Operand → Value} {o : Oper} {p q : Operand} {x : Ad} (ho : o.op = .binOp .neq 31 p q 31) (hp : ρ p = .agg #[.bool x.v6, .int .u64 x.hi, .int .u64 x.lo]) (hq : ρ q = .agg #[.bool x.v6, .int .u64 x.hi, .int .u64 x.lo]) (w : World) :
    (execOp ρ o).run Try.prog w = .ok (.value (.bool false)) w := by
  rw [exec_neqA (x := x) (y := x) ho hp hq w]
  simp
/-- How the world stands between two deeds. -/
structure CS (w W : World) (xb : Nat) (st : Ad → Option Sp) (m : Nat) : Prop where
  inf : InfP (fun x => x < w.heap.size) W xb 1000 st m
  bel : Below w.heap.size w W
/-- .. and behind the band. -/
structure CR (w W : World) (xb : Nat) (st : Ad → Option Sp) (m ab : Nat) (ca : Ad) (v : Value) (bl : List Ad) : Prop where
  inf : InfP (fun x => x < w.heap.size) W xb 1000 st m
  bel : Below w.heap.size w W
  A : Box3 W ab (.bool ca.v6) (.int .u64 ca.hi) (.int .u64 ca.lo)
  row : ArgA W v bl
theorem CS.read {w W W' : World} {xb m : Nat} {st : Ad → Option Sp} (h : CS w W xb st m) (hb : Below W.heap.size W W') : CS w W' xb st m := ⟨h.inf.read hb, h.bel.trans (hb.mono h.bel.size)⟩
theorem CS.chg {w W W' : World} {xb m m' : Nat} {st st' : Ad → Option Sp} {v : Int} {e : Ending} (h : CS w W xb st m) (hc : ChgP (fun x => x < w.heap.size) W xb 1000 st' m' v e W') : CS w W' xb st' m' := by
  obtain ⟨_, h1, h2⟩ := hc
  exact ⟨h1, h.bel.trans (h2.below h.bel.size fun k hk hn => hn hk)⟩
theorem CR.read {w W W' : World} {xb m ab : Nat} {st : Ad → Option Sp} {ca : Ad} {v : Value} {bl : List Ad} (h : CR w W xb st m ab ca v bl) (hb : Below W.heap.size W W') : CR w W' xb st m ab ca v bl :=
  ⟨h.inf.read hb, h.bel.trans (hb.mono h.bel.size), h.A.below hb, h.row.below hb⟩
set_option maxHeartbeats 16000000 in
set_option maxRecDepth 100000 in
theorem Chooses_any {w : World} {a : Option Addr} {n c : Nat} (hnc : n ≤ c) (hcm : c ≤ maxLen) {f : Nat → De} (hD : RowDe w a n f) {v : Value} {l : List Ad} (hv : ArgA w v l) (hok : ∀ x ∈ l, x.ok) (hl : l.length < 5864062014720) {zone : ByteArray} (hz : zone.size ≤ 140737488351232) (draw now : Int) (hdr : wf draw) :
    Calls Try.prog 3 #[.slice a n c, v, .string zone, .int .i64 draw, .int .i64 now] w fun e w' => e = .returned (.bool true) ∧ Below w.heap.size w w' := by
  have hcm' : (c : Int) ≤ 9223372036854775807 := by unfold maxLen at hcm; omega
  have hncH := Lib.hid hnc
  have hcmH := Lib.hid hcm'
  have hDH := Lib.hid hD
  have hvH := Lib.hid hv
  obtain ⟨al, cl, rfl, hcl⟩ := hv
  have hclH := Lib.hid hcl
  have hokH := Lib.hid hok
  have hlH := Lib.hid hl
  obtain ⟨nl, hnl⟩ : ∃ x, l.length = x := ⟨_, rfl⟩
  rw [hnl] at hl hvH ⊢
  have hnlH := Lib.hid hnl
  have hll := Lib.hid hl
  clear hnc hcm hcm' hD hcl hok hl hnl
  go_enter Try.func3, Try.ntmps3
  go_wp2_with fail
  refine (examples_any _).mono ?_
  rintro e w1 ⟨rfl, hb1⟩
  go_wp2_with fail
  refine (show Calls Try.prog 7 #[.int .i64 1000] w1 _ from New_I w1 1000 (by decide) (by decide)).mono ?_
  rintro e w2 ⟨xb, Ux, rfl, hSx, hUx, hb2⟩
  have hS2 : Hid (CS w w2 xb e0 0) := Lib.hid (by
    have s1 := hb1.size
    have s2 := hb2.size
    exact ⟨⟨Ux, hSx, fun x hx hp => by have := hUx x hx; omega, fun x hx => by omega⟩, hb1.trans (hb2.mono (by omega))⟩)
  clear hSx hUx hb1 hb2
  go_wp2_with fail
  go_loopw [14] (fun i wr => ∃ (k m : Nat) (st : Ad → Option Sp), i = .int .i64 k ∧ k ≤ n ∧ k ≤ 60 ∧ m ≤ k ∧ Hid (CS w wr xb st m)) (fun i _ => n - (intOf i).toNat)
  case atStart => exact ⟨0, 0, e0, rfl, Nat.zero_le _, by omega, Nat.le_refl _, hS2⟩
  case round =>
    obtain ⟨i, m, st, rfl, hin, hi60, hm, hS⟩ := hrel
    clear hS2
    by_cases hlt : (i : Int) < n
    · by_cases hlt2 : (i : Int) < 60
      · have hin' : i < n := by omega
        have hnc' := hncH.out
        have hcm' := hcmH.out
        have hnn : (n : Int) ≤ 9223372036854775807 := by omega
        obtain ⟨dok, dk, dn, dnow, dz, b, off, la, ln, lc, rfl, hbl, c0, c1, c2, c3, c4, c5, c6, c7⟩ := hDH.out i hin'
        obtain ⟨d, hd⟩ : ∃ d, f i = d := ⟨_, rfl⟩
        rw [hd] at dok dk dn dnow dz c0 c1 c2 c3 c4 c5 c6
        have hbe := hS.out.bel
        replace c0 := (hbe.cell (p := ⟨b, off + i * 8, none⟩) hbl).trans c0
        replace c1 := (hbe.cell (p := ⟨b, off + i * 8 + 1, none⟩) hbl).trans c1
        replace c2 := (hbe.cell (p := ⟨b, off + i * 8 + 2, none⟩) hbl).trans c2
        replace c3 := (hbe.cell (p := ⟨b, off + i * 8 + 3, none⟩) hbl).trans c3
        replace c4 := (hbe.cell (p := ⟨b, off + i * 8 + 4, none⟩) hbl).trans c4
        replace c5 := (hbe.cell (p := ⟨b, off + i * 8 + 5, none⟩) hbl).trans c5
        replace c6 := (hbe.cell (p := ⟨b, off + i * 8 + 6, none⟩) hbl).trans c6
        replace c7 := (hbe.cell (p := ⟨b, off + i * 8 + 7, none⟩) hbl).trans c7
        clear hbe hbl hd dn dnow dz
        obtain ⟨q0, q3⟩ := pk_bd d.k 3 (by decide)
        have hpk := Lib.hid (fun w => pick_any d.k 3 w dk (by decide) (by decide))
        obtain ⟨q, hq⟩ : ∃ q, pk d.k 3 = q := ⟨_, rfl⟩
        rw [hq] at q0 q3 hpk
        clear hq dk
        go_upto_region 9 with (fail)
        obtain ⟨wd, hwd⟩ : ∃ x, wr.alloc (.cells #[.int .i64 d.k, .bool d.a.v6, .int .u64 d.a.hi, .int .u64 d.a.lo, .string d.z, .int .i64 d.n, .int .i64 d.now, .slice la ln lc] 33) = x := ⟨_, rfl⟩
        have hbd : Below wr.heap.size wr wd := by rw [← hwd]; exact (Below.refl _ _).alloc (Nat.le_refl _) _
        have hDx : Box8 wd wr.heap.size d la ln lc := by rw [← hwd]; exact World.alloc_heap_new _ _
        have hS2 := Lib.hid (hS.out.read hbd)
        rw [hwd]
        obtain ⟨db, hdb⟩ : ∃ x, wr.heap.size = x := ⟨_, rfl⟩
        rw [hdb] at hDx ⊢
        obtain ⟨D0, D1, D2, D3, D4, D5, D6⟩ := hDx.cells
        have hq3 : q = 0 ∨ q = 1 ∨ q = 2 := by omega
        clear hwd hbd hDx hdb hS c0 c1 c2 c3 c4 c5 c6 c7 q0 q3
        rcases hq3 with rfl | rfl | rfl
        · go_wp2_with fail
          refine (hpk.out _).mono ?_
          rintro e wd ⟨rfl, rfl⟩
          go_wp2_with fail
          refine (show Calls Try.prog 9 #[.pointer (some ⟨xb, 0, none⟩), .agg #[.bool d.a.v6, .int .u64 d.a.hi, .int .u64 d.a.lo], .int .i64 d.n] _ _ from Sample_P (a := d.a) hS2.out.inf dok (by omega) d.n).mono ?_
          intro e w6 hc
          have hS3 := Lib.hid (hS2.out.chg hc)
          have hv6 := hc.1
          subst hv6
          clear hc hS2 D0 D1 D2 D3 D4 D5 D6
          go_wp2_with fail
          go_roundw
          case rel => exact ⟨i + 1, _, _, by first | rfl | go_num, by omega, by omega, Nat.le_trans (nchg_le _ _ _) (by omega), hS3⟩
          case measure => first | (simp [intOf]; done) | (simp [intOf]; omega)
        · go_wp2_with fail
          refine (hpk.out _).mono ?_
          rintro e wd ⟨rfl, rfl⟩
          go_wp2_with fail
          refine (show Calls Try.prog 10 #[.pointer (some ⟨xb, 0, none⟩), .agg #[.bool d.a.v6, .int .u64 d.a.hi, .int .u64 d.a.lo]] _ _ from Miss_P (a := d.a) hS2.out.inf dok (by omega)).mono ?_
          intro e w6 hc
          have hS3 := Lib.hid (hS2.out.chg hc)
          have hv6 := hc.1
          subst hv6
          clear hc hS2 D0 D1 D2 D3 D4 D5 D6
          go_wp2_with fail
          go_roundw
          case rel => exact ⟨i + 1, _, _, by first | rfl | go_num, by omega, by omega, Nat.le_trans (nchg_le _ _ _) (by omega), hS3⟩
          case measure => first | (simp [intOf]; done) | (simp [intOf]; omega)
        · go_wp2_with fail
          refine (hpk.out _).mono ?_
          rintro e wd ⟨rfl, rfl⟩
          go_wp2_with fail
          refine (show Calls Try.prog 11 #[.pointer (some ⟨xb, 0, none⟩), .agg #[.bool d.a.v6, .int .u64 d.a.hi, .int .u64 d.a.lo], .string zone, .int .i64 d.now] _ _ from SetLame_P (a := d.a) hS2.out.inf dok (by omega) zone hz d.now).mono ?_
          intro e w6 hc
          have hS3 := Lib.hid (hS2.out.chg hc)
          have hv6 := hc.1
          subst hv6
          clear hc hS2 D0 D1 D2 D3 D4 D5 D6
          go_wp2_with fail
          go_roundw
          case rel => exact ⟨i + 1, _, _, by first | rfl | go_num, by omega, by omega, Nat.le_trans (setLameN_le _ _ _ _ _) (by omega), hS3⟩
          case measure => first | (simp [intOf]; done) | (simp [intOf]; omega)
      · clear hncH hcmH hDH
        have hCh := Lib.hid (Choose_P hS.out.inf (hvH.out.below hS.out.bel) hokH.out hlH.out zone hz draw now hdr)
        have hvW := Lib.hid (hvH.out.below hS.out.bel)
        obtain ⟨⟨ca, cok⟩, hca⟩ : ∃ p, chooseA st zone now l draw = p := ⟨_, rfl⟩
        rw [hca] at hCh
        simp only at hCh
        have hcaH := Lib.hid hca
        clear hca
        go_wp2_with fail
        refine hCh.out.mono ?_
        rintro e w5 ⟨rfl, hb5⟩
        have hS5 := Lib.hid (hS.out.read hb5)
        clear hCh hb5 hS hvW
        go_upto_region 16 with (fail)
        obtain ⟨w6, hw6⟩ : ∃ x, w5.alloc (.cells #[.bool ca.v6, .int .u64 ca.hi, .int .u64 ca.lo] 31) = x := ⟨_, rfl⟩
        have hb6 : Below w5.heap.size w5 w6 := by rw [← hw6]; exact (Below.refl _ _).alloc (Nat.le_refl _) _
        have hA6 : Box3 w6 w5.heap.size (.bool ca.v6) (.int .u64 ca.hi) (.int .u64 ca.lo) := by rw [← hw6]; exact Box3.new _ _ _ _
        have hS6 := Lib.hid (hS5.out.read hb6)
        rw [hw6]
        obtain ⟨ab, hab⟩ : ∃ x, w5.heap.size = x := ⟨_, rfl⟩
        rw [hab] at hA6 ⊢
        have hA6H := Lib.hid hA6
        clear hw6 hb6 hA6 hS5 hab
        have hBd := Lib.hid (Band_P hS6.out.inf (hvH.out.below hS6.out.bel) hokH.out hlH.out zone hz now)
        go_wp2_with fail
        refine hBd.out.mono ?_
        rintro e w7 ⟨vb, rfl, hrow, hb7⟩
        have hrow2 := ArgA.of_row hrow rfl
        obtain ⟨ba, bc, rfl, _⟩ := id hrow2
        have hR7 : Hid (CR w w7 xb st m ab ca (.slice ba (bandL st zone now l).length bc) (bandL st zone now l)) := Lib.hid ⟨hS6.out.inf.read hb7, hS6.out.bel.trans (hb7.mono hS6.out.bel.size), hA6H.out.below hb7, hrow2⟩
        clear hBd hrow hrow2 hb7 hS6 hA6H
        have hnol := Lib.hid (choose_no (st := st) (z := zone) (now := now) (l := l) (draw := draw) (ca := ca))
        have hyes := Lib.hid (choose_yes (st := st) (z := zone) (now := now) (l := l) (draw := draw) (ca := ca))
        have hat := Lib.hid (fun j => choose_at (st := st) (z := zone) (now := now) (l := l) (j := j))
        have hmem := Lib.hid (bandL_mem (st := st) (z := zone) (now := now) (l := l) (a := ca))
        have hblen := Lib.hid (bandL_len st zone now l)
        obtain ⟨bl, hbl⟩ : ∃ x, bandL st zone now l = x := ⟨_, rfl⟩
        rw [hbl] at hR7 hnol hyes hat hmem hblen ⊢
        obtain ⟨nb, hnb⟩ : ∃ x, bl.length = x := ⟨_, rfl⟩
        rw [hnb] at hR7 hnol hat hblen ⊢
        have hnbH := Lib.hid hnb
        clear hbl hnb
        obtain ⟨A0, A1, A2⟩ := hR7.out.A.cells
        cases cok with
        | false =>
          obtain ⟨hz0, hdis⟩ := hnol.out hcaH.out
          subst hz0
          have hd : (nb : Int) = 0 ∨ (¬ (nb : Int) = 0 ∧ draw < 0) := by omega
          clear hdis
          rcases hd with hd | ⟨hd, hd2⟩
          · go_wp2_with fail
            go_ret
            exact ⟨rfl, hR7.out.bel⟩
          · go_wp2_with fail
            go_ret
            exact ⟨rfl, hR7.out.bel⟩
        | true =>
          obtain ⟨hm1, hm2, hm3, hm4⟩ := hmem.out (hyes.out hcaH.out)
          have hmin := Lib.hid hm4
          have hcaok := hokH.out ca hm1
          have hmemH := Lib.hid hm1
          have hm2H := Lib.hid hm2
          have hm3H := Lib.hid hm3
          clear hm1 hm2 hm3 hm4 hnol hyes hmem
          go_wp2_with fail
          go_loopw [19, 20] (fun vt vj wr => ∃ (j : Nat) (t : Bool), vj = .int .i64 j ∧ vt = .bool t ∧ j ≤ nl ∧ Hid (t = decide (ca ∈ l.take j)) ∧ Hid (CR w wr xb st m ab ca (.slice ba nb bc) bl)) (fun _ vj _ => nl - (intOf vj).toNat)
          case atStart => exact ⟨0, false, rfl, rfl, Nat.zero_le _, Lib.hid (by simp), hR7⟩
          case round =>
            obtain ⟨j, t, rfl, rfl, hj, htH, hRj⟩ := hrel
            clear hR7 A0 A1 A2
            obtain ⟨A0, A1, A2⟩ := hRj.out.A.cells
            by_cases hlj : (j : Int) < nl
            · have hjl : j < l.length := by have := hnlH.out; omega
              have hll' := hll.out
              have htake := Lib.hid (take_mem_succ l j hjl ca)
              obtain ⟨b2, off2, rfl, hb2l, hcl2⟩ := hclH.out (by omega)
              obtain ⟨x, hx⟩ : ∃ x, ga l j = x := ⟨_, rfl⟩
              have hxok : x.ok := by rw [← hx]; exact hokH.out _ (ga_mem hjl)
              have hg3 := adC_get l j hjl
              rw [Nat.mul_comm 3 j, hx] at hg3
              rw [hx] at htake
              have hxH := Lib.hid hx
              have hrd : ∀ i u, (adC l)[i]? = some u → wr.cell? ⟨b2, off2 + i, none⟩ = some u := fun i u hi => (hRj.out.bel.cell (p := ⟨b2, off2 + i, none⟩) hb2l).trans (hcl2 i u hi)
              have c0 := hrd _ _ hg3.1
              have c1 := hrd _ _ hg3.2.1
              have c2 := hrd _ _ hg3.2.2
              rw [← Nat.add_assoc] at c1 c2
              have hjj : j < nl := by omega
              clear hrd hg3 hcl2 hx hb2l
              cases t with
              | true =>
                go_upto_region 23 with (fail)
                obtain ⟨wd, hwd⟩ : ∃ d, wr.drew = d := ⟨_, rfl⟩
                have hbd : Below wr.heap.size wr wd := by rw [← hwd]; exact (Below.refl _ _).drew
                replace A0 := (hbd.cell (World.block_lt_of_cell? _ _ A0)).trans A0
                replace A1 := (hbd.cell (World.block_lt_of_cell? _ _ A1)).trans A1
                replace A2 := (hbd.cell (World.block_lt_of_cell? _ _ A2)).trans A2
                replace c0 := (hbd.cell (World.block_lt_of_cell? _ _ c0)).trans c0
                replace c1 := (hbd.cell (World.block_lt_of_cell? _ _ c1)).trans c1
                replace c2 := (hbd.cell (World.block_lt_of_cell? _ _ c2)).trans c2
                have hR2 := Lib.hid (hRj.out.read hbd)
                clear hbd
                refine Rt.wp_region_ordM [0, 0, 0, 0, 0, 1, 1, 0, 0, 0] [0, 1, 2, 3, 4, 5, 6, 7, 8, 9] (by kernel_rfl) (by kernel_rfl) ?_
                rw [hwd]
                clear hwd
                apply ord_move rfl rfl rfl rfl; (· (simp only [Act.put, Act.eval, List.setIfInBounds_toArray, List.set_cons_zero, List.set_cons_succ, Array.getD_eq_getD_getElem?, List.getElem?_toArray, List.getElem?_cons_zero, List.getElem?_cons_succ, Option.getD_some, List.getElem_toArray, List.getElem_cons_succ, List.getElem_cons_zero]; with_reducible rfl))
                apply ord_move rfl rfl rfl rfl; (· (simp only [Act.put, Act.eval, List.setIfInBounds_toArray, List.set_cons_zero, List.set_cons_succ, Array.getD_eq_getD_getElem?, List.getElem?_toArray, List.getElem?_cons_zero, List.getElem?_cons_succ, Option.getD_some, List.getElem_toArray, List.getElem_cons_succ, List.getElem_cons_zero]; with_reducible rfl))
                apply ord_skip rfl rfl; (· (simp only [Act.put, Act.eval, List.setIfInBounds_toArray, List.set_cons_zero, List.set_cons_succ, Array.getD_eq_getD_getElem?, List.getElem?_toArray, List.getElem?_cons_zero, List.getElem?_cons_succ, Option.getD_some, List.getElem_toArray, List.getElem_cons_succ, List.getElem_cons_zero]; with_reducible rfl))
                apply ord_skip rfl rfl; (· (simp only [Act.put, Act.eval, List.setIfInBounds_toArray, List.set_cons_zero, List.set_cons_succ, Array.getD_eq_getD_getElem?, List.getElem?_toArray, List.getElem?_cons_zero, List.getElem?_cons_succ, Option.getD_some, List.getElem_toArray, List.getElem_cons_succ, List.getElem_cons_zero]; with_reducible rfl))
                apply ord_skip rfl rfl; (· (simp only [Act.put, Act.eval, List.setIfInBounds_toArray, List.set_cons_zero, List.set_cons_succ, Array.getD_eq_getD_getElem?, List.getElem?_toArray, List.getElem?_cons_zero, List.getElem?_cons_succ, Option.getD_some, List.getElem_toArray, List.getElem_cons_succ, List.getElem_cons_zero]; with_reducible rfl))
                apply ord_skip rfl rfl; (· (simp only [Act.put, Act.eval, List.setIfInBounds_toArray, List.set_cons_zero, List.set_cons_succ, Array.getD_eq_getD_getElem?, List.getElem?_toArray, List.getElem?_cons_zero, List.getElem?_cons_succ, Option.getD_some, List.getElem_toArray, List.getElem_cons_succ, List.getElem_cons_zero]; with_reducible rfl))
                apply ord_skip rfl rfl; (· (simp only [Act.put, Act.eval, List.setIfInBounds_toArray, List.set_cons_zero, List.set_cons_succ, Array.getD_eq_getD_getElem?, List.getElem?_toArray, List.getElem?_cons_zero, List.getElem?_cons_succ, Option.getD_some, List.getElem_toArray, List.getElem_cons_succ, List.getElem_cons_zero]; with_reducible rfl))
                apply ord_skip rfl rfl; (· (simp only [Act.put, Act.eval, List.setIfInBounds_toArray, List.set_cons_zero, List.set_cons_succ, Array.getD_eq_getD_getElem?, List.getElem?_toArray, List.getElem?_cons_zero, List.getElem?_cons_succ, Option.getD_some, List.getElem_toArray, List.getElem_cons_succ, List.getElem_cons_zero]; with_reducible rfl))
                apply ord_pure rfl rfl rfl; (· (intro w; go_simp; with_reducible rfl)); (· (simp only [Act.put, Act.eval, List.setIfInBounds_toArray, List.set_cons_zero, List.set_cons_succ, Array.getD_eq_getD_getElem?, List.getElem?_toArray, List.getElem?_cons_zero, List.getElem?_cons_succ, Option.getD_some, List.getElem_toArray, List.getElem_cons_succ, List.getElem_cons_zero]; with_reducible rfl))
                apply ord_pure rfl rfl rfl; (· (intro w; go_simp; with_reducible rfl)); (· (simp only [Act.put, Act.eval, List.setIfInBounds_toArray, List.set_cons_zero, List.set_cons_succ, Array.getD_eq_getD_getElem?, List.getElem?_toArray, List.getElem?_cons_zero, List.getElem?_cons_succ, Option.getD_some, List.getElem_toArray, List.getElem_cons_succ, List.getElem_cons_zero]; with_reducible rfl))
                with_reducible refine ord_nil ?_
                clear hRj
                have hRj := hR2
                clear hR2
                cases hrx : rightA x with
                | false =>
                  go_upto_region 24 with (fail)
                  obtain ⟨wd2, hwd⟩ : ∃ d, wd.drew = d := ⟨_, rfl⟩
                  have hbd : Below wd.heap.size wd wd2 := by rw [← hwd]; exact (Below.refl _ _).drew
                  replace A0 := (hbd.cell (World.block_lt_of_cell? _ _ A0)).trans A0
                  replace A1 := (hbd.cell (World.block_lt_of_cell? _ _ A1)).trans A1
                  replace A2 := (hbd.cell (World.block_lt_of_cell? _ _ A2)).trans A2
                  replace c0 := (hbd.cell (World.block_lt_of_cell? _ _ c0)).trans c0
                  replace c1 := (hbd.cell (World.block_lt_of_cell? _ _ c1)).trans c1
                  replace c2 := (hbd.cell (World.block_lt_of_cell? _ _ c2)).trans c2
                  have hR20 := Lib.hid (hRj.out.read hbd)
                  clear hRj hbd
                  refine Rt.wp_region_ordM [0, 0, 0, 1, 2, 0, 0, 0, 0, 0, 1, 0, 0, 2, 0, 0, 0, 0, 1, 2, 0, 0, 0, 0, 1, 2, 0, 0, 0] [0, 1, 2, 3, 4, 5, 6, 7, 8, 9, 10, 11, 12, 13, 14, 15, 16, 17, 18, 20, 21, 22, 23, 24, 19, 25, 26, 27, 28] (by kernel_rfl) (by kernel_rfl) ?_
                  rw [hwd]
                  clear hwd
                  apply ord_move rfl rfl rfl rfl; (· (simp only [Act.put, Act.eval, List.setIfInBounds_toArray, List.set_cons_zero, List.set_cons_succ, Array.getD_eq_getD_getElem?, List.getElem?_toArray, List.getElem?_cons_zero, List.getElem?_cons_succ, Option.getD_some, List.getElem_toArray, List.getElem_cons_succ, List.getElem_cons_zero]; with_reducible rfl))
                  apply ord_move rfl rfl rfl rfl; (· (simp only [Act.put, Act.eval, List.setIfInBounds_toArray, List.set_cons_zero, List.set_cons_succ, Array.getD_eq_getD_getElem?, List.getElem?_toArray, List.getElem?_cons_zero, List.getElem?_cons_succ, Option.getD_some, List.getElem_toArray, List.getElem_cons_succ, List.getElem_cons_zero]; with_reducible rfl))
                  apply ord_pure rfl rfl rfl; (· (intro w; go_simp; with_reducible rfl)); (· (simp only [Act.put, Act.eval, List.setIfInBounds_toArray, List.set_cons_zero, List.set_cons_succ, Array.getD_eq_getD_getElem?, List.getElem?_toArray, List.getElem?_cons_zero, List.getElem?_cons_succ, Option.getD_some, List.getElem_toArray, List.getElem_cons_succ, List.getElem_cons_zero]; with_reducible rfl))
                  apply ord_read rfl rfl rfl; (· (intro W hW; have g0 := cell_up hW A0; have g1 := cell_up hW A1; have g2 := cell_up hW A2; have g3 := cell_up hW c0; have g4 := cell_up hW c1; have g5 := cell_up hW c2; go_simp; with_reducible rfl)); (· (simp only [Act.put, Act.eval, List.setIfInBounds_toArray, List.set_cons_zero, List.set_cons_succ, Array.getD_eq_getD_getElem?, List.getElem?_toArray, List.getElem?_cons_zero, List.getElem?_cons_succ, Option.getD_some, List.getElem_toArray, List.getElem_cons_succ, List.getElem_cons_zero]; with_reducible rfl))
                  refine ord_call rfl rfl rfl (by go_simp; exact ⟨rfl, rfl⟩) ?_
                  refine ((show Calls Try.prog 14 #[.agg #[.bool x.v6, .int .u64 x.hi, .int .u64 x.lo]] _ _ from RightA_any _ x hxok)).mono ?_
                  rw [hrx]
                  rintro e w21 ⟨rfl, hb21⟩
                  refine ⟨_, rfl, hb21, ?_⟩
                  have hR21 := Lib.hid (hR20.out.read hb21)
                  replace A0 := (hb21.cell (World.block_lt_of_cell? _ _ A0)).trans A0
                  replace A1 := (hb21.cell (World.block_lt_of_cell? _ _ A1)).trans A1
                  replace A2 := (hb21.cell (World.block_lt_of_cell? _ _ A2)).trans A2
                  replace c0 := (hb21.cell (World.block_lt_of_cell? _ _ c0)).trans c0
                  replace c1 := (hb21.cell (World.block_lt_of_cell? _ _ c1)).trans c1
                  replace c2 := (hb21.cell (World.block_lt_of_cell? _ _ c2)).trans c2
                  simp only [Act.put, Act.eval, List.setIfInBounds_toArray, List.set_cons_zero, List.set_cons_succ, Array.getD_eq_getD_getElem?, List.getElem?_toArray, List.getElem?_cons_zero, List.getElem?_cons_succ, Option.getD_some, List.getElem_toArray, List.getElem_cons_succ, List.getElem_cons_zero]
                  apply ord_move rfl rfl rfl rfl; (· (simp only [Act.put, Act.eval, List.setIfInBounds_toArray, List.set_cons_zero, List.set_cons_succ, Array.getD_eq_getD_getElem?, List.getElem?_toArray, List.getElem?_cons_zero, List.getElem?_cons_succ, Option.getD_some, List.getElem_toArray, List.getElem_cons_succ, List.getElem_cons_zero]; with_reducible rfl))
                  apply ord_skip rfl rfl; (· (simp only [Act.put, Act.eval, List.setIfInBounds_toArray, List.set_cons_zero, List.set_cons_succ, Array.getD_eq_getD_getElem?, List.getElem?_toArray, List.getElem?_cons_zero, List.getElem?_cons_succ, Option.getD_some, List.getElem_toArray, List.getElem_cons_succ, List.getElem_cons_zero]; with_reducible rfl))
                  apply ord_skip rfl rfl; (· (simp only [Act.put, Act.eval, List.setIfInBounds_toArray, List.set_cons_zero, List.set_cons_succ, Array.getD_eq_getD_getElem?, List.getElem?_toArray, List.getElem?_cons_zero, List.getElem?_cons_succ, Option.getD_some, List.getElem_toArray, List.getElem_cons_succ, List.getElem_cons_zero]; with_reducible rfl))
                  apply ord_skip rfl rfl; (· (simp only [Act.put, Act.eval, List.setIfInBounds_toArray, List.set_cons_zero, List.set_cons_succ, Array.getD_eq_getD_getElem?, List.getElem?_toArray, List.getElem?_cons_zero, List.getElem?_cons_succ, Option.getD_some, List.getElem_toArray, List.getElem_cons_succ, List.getElem_cons_zero]; with_reducible rfl))
                  apply ord_skip rfl rfl; (· (simp only [Act.put, Act.eval, List.setIfInBounds_toArray, List.set_cons_zero, List.set_cons_succ, Array.getD_eq_getD_getElem?, List.getElem?_toArray, List.getElem?_cons_zero, List.getElem?_cons_succ, Option.getD_some, List.getElem_toArray, List.getElem_cons_succ, List.getElem_cons_zero]; with_reducible rfl))
                  apply ord_skip rfl rfl; (· (simp only [Act.put, Act.eval, List.setIfInBounds_toArray, List.set_cons_zero, List.set_cons_succ, Array.getD_eq_getD_getElem?, List.getElem?_toArray, List.getElem?_cons_zero, List.getElem?_cons_succ, Option.getD_some, List.getElem_toArray, List.getElem_cons_succ, List.getElem_cons_zero]; with_reducible rfl))
                  apply ord_skip rfl rfl; (· (simp only [Act.put, Act.eval, List.setIfInBounds_toArray, List.set_cons_zero, List.set_cons_succ, Array.getD_eq_getD_getElem?, List.getElem?_toArray, List.getElem?_cons_zero, List.getElem?_cons_succ, Option.getD_some, List.getElem_toArray, List.getElem_cons_succ, List.getElem_cons_zero]; with_reducible rfl))
                  apply ord_skip rfl rfl; (· (simp only [Act.put, Act.eval, List.setIfInBounds_toArray, List.set_cons_zero, List.set_cons_succ, Array.getD_eq_getD_getElem?, List.getElem?_toArray, List.getElem?_cons_zero, List.getElem?_cons_succ, Option.getD_some, List.getElem_toArray, List.getElem_cons_succ, List.getElem_cons_zero]; with_reducible rfl))
                  apply ord_skip rfl rfl; (· (simp only [Act.put, Act.eval, List.setIfInBounds_toArray, List.set_cons_zero, List.set_cons_succ, Array.getD_eq_getD_getElem?, List.getElem?_toArray, List.getElem?_cons_zero, List.getElem?_cons_succ, Option.getD_some, List.getElem_toArray, List.getElem_cons_succ, List.getElem_cons_zero]; with_reducible rfl))
                  apply ord_skip rfl rfl; (· (simp only [Act.put, Act.eval, List.setIfInBounds_toArray, List.set_cons_zero, List.set_cons_succ, Array.getD_eq_getD_getElem?, List.getElem?_toArray, List.getElem?_cons_zero, List.getElem?_cons_succ, Option.getD_some, List.getElem_toArray, List.getElem_cons_succ, List.getElem_cons_zero]; with_reducible rfl))
                  apply ord_pure rfl rfl rfl; (· (intro w; go_simp; with_reducible rfl)); (· (simp only [Act.put, Act.eval, List.setIfInBounds_toArray, List.set_cons_zero, List.set_cons_succ, Array.getD_eq_getD_getElem?, List.getElem?_toArray, List.getElem?_cons_zero, List.getElem?_cons_succ, Option.getD_some, List.getElem_toArray, List.getElem_cons_succ, List.getElem_cons_zero]; with_reducible rfl))
                  apply ord_move rfl rfl rfl rfl; (· (simp only [Act.put, Act.eval, List.setIfInBounds_toArray, List.set_cons_zero, List.set_cons_succ, Array.getD_eq_getD_getElem?, List.getElem?_toArray, List.getElem?_cons_zero, List.getElem?_cons_succ, Option.getD_some, List.getElem_toArray, List.getElem_cons_succ, List.getElem_cons_zero]; with_reducible rfl))
                  apply ord_skip rfl rfl; (· (simp only [Act.put, Act.eval, List.setIfInBounds_toArray, List.set_cons_zero, List.set_cons_succ, Array.getD_eq_getD_getElem?, List.getElem?_toArray, List.getElem?_cons_zero, List.getElem?_cons_succ, Option.getD_some, List.getElem_toArray, List.getElem_cons_succ, List.getElem_cons_zero]; with_reducible rfl))
                  apply ord_skip rfl rfl; (· (simp only [Act.put, Act.eval, List.setIfInBounds_toArray, List.set_cons_zero, List.set_cons_succ, Array.getD_eq_getD_getElem?, List.getElem?_toArray, List.getElem?_cons_zero, List.getElem?_cons_succ, Option.getD_some, List.getElem_toArray, List.getElem_cons_succ, List.getElem_cons_zero]; with_reducible rfl))
                  apply ord_skip rfl rfl; (· (simp only [Act.put, Act.eval, List.setIfInBounds_toArray, List.set_cons_zero, List.set_cons_succ, Array.getD_eq_getD_getElem?, List.getElem?_toArray, List.getElem?_cons_zero, List.getElem?_cons_succ, Option.getD_some, List.getElem_toArray, List.getElem_cons_succ, List.getElem_cons_zero]; with_reducible rfl))
                  apply ord_skip rfl rfl; (· (simp only [Act.put, Act.eval, List.setIfInBounds_toArray, List.set_cons_zero, List.set_cons_succ, Array.getD_eq_getD_getElem?, List.getElem?_toArray, List.getElem?_cons_zero, List.getElem?_cons_succ, Option.getD_some, List.getElem_toArray, List.getElem_cons_succ, List.getElem_cons_zero]; with_reducible rfl))
                  apply ord_skip rfl rfl; (· (simp only [Act.put, Act.eval, List.setIfInBounds_toArray, List.set_cons_zero, List.set_cons_succ, Array.getD_eq_getD_getElem?, List.getElem?_toArray, List.getElem?_cons_zero, List.getElem?_cons_succ, Option.getD_some, List.getElem_toArray, List.getElem_cons_succ, List.getElem_cons_zero]; with_reducible rfl))
                  apply ord_skip rfl rfl; (· (simp only [Act.put, Act.eval, List.setIfInBounds_toArray, List.set_cons_zero, List.set_cons_succ, Array.getD_eq_getD_getElem?, List.getElem?_toArray, List.getElem?_cons_zero, List.getElem?_cons_succ, Option.getD_some, List.getElem_toArray, List.getElem_cons_succ, List.getElem_cons_zero]; with_reducible rfl))
                  apply ord_skip rfl rfl; (· (simp only [Act.put, Act.eval, List.setIfInBounds_toArray, List.set_cons_zero, List.set_cons_succ, Array.getD_eq_getD_getElem?, List.getElem?_toArray, List.getElem?_cons_zero, List.getElem?_cons_succ, Option.getD_some, List.getElem_toArray, List.getElem_cons_succ, List.getElem_cons_zero]; with_reducible rfl))
                  apply ord_skip rfl rfl; (· (simp only [Act.put, Act.eval, List.setIfInBounds_toArray, List.set_cons_zero, List.set_cons_succ, Array.getD_eq_getD_getElem?, List.getElem?_toArray, List.getElem?_cons_zero, List.getElem?_cons_succ, Option.getD_some, List.getElem_toArray, List.getElem_cons_succ, List.getElem_cons_zero]; with_reducible rfl))
                  apply ord_skip rfl rfl; (· (simp only [Act.put, Act.eval, List.setIfInBounds_toArray, List.set_cons_zero, List.set_cons_succ, Array.getD_eq_getD_getElem?, List.getElem?_toArray, List.getElem?_cons_zero, List.getElem?_cons_succ, Option.getD_some, List.getElem_toArray, List.getElem_cons_succ, List.getElem_cons_zero]; with_reducible rfl))
                  apply ord_skip rfl rfl; (· (simp only [Act.put, Act.eval, List.setIfInBounds_toArray, List.set_cons_zero, List.set_cons_succ, Array.getD_eq_getD_getElem?, List.getElem?_toArray, List.getElem?_cons_zero, List.getElem?_cons_succ, Option.getD_some, List.getElem_toArray, List.getElem_cons_succ, List.getElem_cons_zero]; with_reducible rfl))
                  apply ord_skip rfl rfl; (· (simp only [Act.put, Act.eval, List.setIfInBounds_toArray, List.set_cons_zero, List.set_cons_succ, Array.getD_eq_getD_getElem?, List.getElem?_toArray, List.getElem?_cons_zero, List.getElem?_cons_succ, Option.getD_some, List.getElem_toArray, List.getElem_cons_succ, List.getElem_cons_zero]; with_reducible rfl))
                  apply ord_pure rfl rfl rfl; (· (intro w; go_simp; with_reducible rfl)); (· (simp only [Act.put, Act.eval, List.setIfInBounds_toArray, List.set_cons_zero, List.set_cons_succ, Array.getD_eq_getD_getElem?, List.getElem?_toArray, List.getElem?_cons_zero, List.getElem?_cons_succ, Option.getD_some, List.getElem_toArray, List.getElem_cons_succ, List.getElem_cons_zero]; with_reducible rfl))
                  with_reducible refine ord_nil ?_
                  go_wp2_with fail
                  go_roundw
                  case rel => exact ⟨j + 1, true, by first | rfl | go_num, rfl, by omega, Lib.hid (by rw [htake.out, ← htH.out]; rfl), hR21⟩
                  case measure => first | (simp [intOf]; done) | (simp [intOf]; omega)
                | true =>
                  cases hlx : lameB zone now ((st x).getD zeroP) with
                  | true =>
                    go_upto_region 24 with (fail)
                    obtain ⟨wd2, hwd⟩ : ∃ d, wd.drew = d := ⟨_, rfl⟩
                    have hbd : Below wd.heap.size wd wd2 := by rw [← hwd]; exact (Below.refl _ _).drew
                    replace A0 := (hbd.cell (World.block_lt_of_cell? _ _ A0)).trans A0
                    replace A1 := (hbd.cell (World.block_lt_of_cell? _ _ A1)).trans A1
                    replace A2 := (hbd.cell (World.block_lt_of_cell? _ _ A2)).trans A2
                    replace c0 := (hbd.cell (World.block_lt_of_cell? _ _ c0)).trans c0
                    replace c1 := (hbd.cell (World.block_lt_of_cell? _ _ c1)).trans c1
                    replace c2 := (hbd.cell (World.block_lt_of_cell? _ _ c2)).trans c2
                    have hR20 := Lib.hid (hRj.out.read hbd)
                    clear hRj hbd
                    refine Rt.wp_region_ordM [0, 0, 0, 1, 2, 0, 0, 0, 0, 0, 1, 0, 0, 2, 0, 0, 0, 0, 1, 2, 0, 0, 0, 0, 1, 2, 0, 0, 0] [0, 1, 2, 3, 4, 5, 6, 7, 8, 9, 10, 11, 12, 13, 14, 15, 16, 17, 18, 20, 21, 22, 23, 24, 19, 25, 26, 27, 28] (by kernel_rfl) (by kernel_rfl) ?_
                    rw [hwd]
                    clear hwd
                    apply ord_move rfl rfl rfl rfl; (· (simp only [Act.put, Act.eval, List.setIfInBounds_toArray, List.set_cons_zero, List.set_cons_succ, Array.getD_eq_getD_getElem?, List.getElem?_toArray, List.getElem?_cons_zero, List.getElem?_cons_succ, Option.getD_some, List.getElem_toArray, List.getElem_cons_succ, List.getElem_cons_zero]; with_reducible rfl))
                    apply ord_move rfl rfl rfl rfl; (· (simp only [Act.put, Act.eval, List.setIfInBounds_toArray, List.set_cons_zero, List.set_cons_succ, Array.getD_eq_getD_getElem?, List.getElem?_toArray, List.getElem?_cons_zero, List.getElem?_cons_succ, Option.getD_some, List.getElem_toArray, List.getElem_cons_succ, List.getElem_cons_zero]; with_reducible rfl))
                    apply ord_pure rfl rfl rfl; (· (intro w; go_simp; with_reducible rfl)); (· (simp only [Act.put, Act.eval, List.setIfInBounds_toArray, List.set_cons_zero, List.set_cons_succ, Array.getD_eq_getD_getElem?, List.getElem?_toArray, List.getElem?_cons_zero, List.getElem?_cons_succ, Option.getD_some, List.getElem_toArray, List.getElem_cons_succ, List.getElem_cons_zero]; with_reducible rfl))
                    apply ord_read rfl rfl rfl; (· (intro W hW; have g0 := cell_up hW A0; have g1 := cell_up hW A1; have g2 := cell_up hW A2; have g3 := cell_up hW c0; have g4 := cell_up hW c1; have g5 := cell_up hW c2; go_simp; with_reducible rfl)); (· (simp only [Act.put, Act.eval, List.setIfInBounds_toArray, List.set_cons_zero, List.set_cons_succ, Array.getD_eq_getD_getElem?, List.getElem?_toArray, List.getElem?_cons_zero, List.getElem?_cons_succ, Option.getD_some, List.getElem_toArray, List.getElem_cons_succ, List.getElem_cons_zero]; with_reducible rfl))
                    refine ord_call rfl rfl rfl (by go_simp; exact ⟨rfl, rfl⟩) ?_
                    refine ((show Calls Try.prog 14 #[.agg #[.bool x.v6, .int .u64 x.hi, .int .u64 x.lo]] _ _ from RightA_any _ x hxok)).mono ?_
                    rw [hrx]
                    rintro e w21 ⟨rfl, hb21⟩
                    refine ⟨_, rfl, hb21, ?_⟩
                    have hR21 := Lib.hid (hR20.out.read hb21)
                    replace A0 := (hb21.cell (World.block_lt_of_cell? _ _ A0)).trans A0
                    replace A1 := (hb21.cell (World.block_lt_of_cell? _ _ A1)).trans A1
                    replace A2 := (hb21.cell (World.block_lt_of_cell? _ _ A2)).trans A2
                    replace c0 := (hb21.cell (World.block_lt_of_cell? _ _ c0)).trans c0
                    replace c1 := (hb21.cell (World.block_lt_of_cell? _ _ c1)).trans c1
                    replace c2 := (hb21.cell (World.block_lt_of_cell? _ _ c2)).trans c2
                    simp only [Act.put, Act.eval, List.setIfInBounds_toArray, List.set_cons_zero, List.set_cons_succ, Array.getD_eq_getD_getElem?, List.getElem?_toArray, List.getElem?_cons_zero, List.getElem?_cons_succ, Option.getD_some, List.getElem_toArray, List.getElem_cons_succ, List.getElem_cons_zero]
                    apply ord_move rfl rfl rfl rfl; (· (simp only [Act.put, Act.eval, List.setIfInBounds_toArray, List.set_cons_zero, List.set_cons_succ, Array.getD_eq_getD_getElem?, List.getElem?_toArray, List.getElem?_cons_zero, List.getElem?_cons_succ, Option.getD_some, List.getElem_toArray, List.getElem_cons_succ, List.getElem_cons_zero]; with_reducible rfl))
                    apply ord_pure rfl rfl rfl; (· (intro w; go_simp; with_reducible rfl)); (· (simp only [Act.put, Act.eval, List.setIfInBounds_toArray, List.set_cons_zero, List.set_cons_succ, Array.getD_eq_getD_getElem?, List.getElem?_toArray, List.getElem?_cons_zero, List.getElem?_cons_succ, Option.getD_some, List.getElem_toArray, List.getElem_cons_succ, List.getElem_cons_zero]; with_reducible rfl))
                    apply ord_pure rfl rfl rfl; (· (intro w; go_simp; with_reducible rfl)); (· (simp only [Act.put, Act.eval, List.setIfInBounds_toArray, List.set_cons_zero, List.set_cons_succ, Array.getD_eq_getD_getElem?, List.getElem?_toArray, List.getElem?_cons_zero, List.getElem?_cons_succ, Option.getD_some, List.getElem_toArray, List.getElem_cons_succ, List.getElem_cons_zero]; with_reducible rfl))
                    apply ord_pure rfl rfl rfl; (· (intro w; go_simp; with_reducible rfl)); (· (simp only [Act.put, Act.eval, List.setIfInBounds_toArray, List.set_cons_zero, List.set_cons_succ, Array.getD_eq_getD_getElem?, List.getElem?_toArray, List.getElem?_cons_zero, List.getElem?_cons_succ, Option.getD_some, List.getElem_toArray, List.getElem_cons_succ, List.getElem_cons_zero]; with_reducible rfl))
                    apply ord_pure rfl rfl rfl; (· (intro w; go_simp; with_reducible rfl)); (· (simp only [Act.put, Act.eval, List.setIfInBounds_toArray, List.set_cons_zero, List.set_cons_succ, Array.getD_eq_getD_getElem?, List.getElem?_toArray, List.getElem?_cons_zero, List.getElem?_cons_succ, Option.getD_some, List.getElem_toArray, List.getElem_cons_succ, List.getElem_cons_zero]; with_reducible rfl))
                    apply ord_read rfl rfl rfl; (· (intro W hW; have g0 := cell_up hW A0; have g1 := cell_up hW A1; have g2 := cell_up hW A2; have g3 := cell_up hW c0; have g4 := cell_up hW c1; have g5 := cell_up hW c2; go_simp; with_reducible rfl)); (· (simp only [Act.put, Act.eval, List.setIfInBounds_toArray, List.set_cons_zero, List.set_cons_succ, Array.getD_eq_getD_getElem?, List.getElem?_toArray, List.getElem?_cons_zero, List.getElem?_cons_succ, Option.getD_some, List.getElem_toArray, List.getElem_cons_succ, List.getElem_cons_zero]; with_reducible rfl))
                    apply ord_pure rfl rfl rfl; (· (intro w; go_simp; with_reducible rfl)); (· (simp only [Act.put, Act.eval, List.setIfInBounds_toArray, List.set_cons_zero, List.set_cons_succ, Array.getD_eq_getD_getElem?, List.getElem?_toArray, List.getElem?_cons_zero, List.getElem?_cons_succ, Option.getD_some, List.getElem_toArray, List.getElem_cons_succ, List.getElem_cons_zero]; with_reducible rfl))
                    apply ord_pure rfl rfl rfl; (· (intro w; go_simp; with_reducible rfl)); (· (simp only [Act.put, Act.eval, List.setIfInBounds_toArray, List.set_cons_zero, List.set_cons_succ, Array.getD_eq_getD_getElem?, List.getElem?_toArray, List.getElem?_cons_zero, List.getElem?_cons_succ, Option.getD_some, List.getElem_toArray, List.getElem_cons_succ, List.getElem_cons_zero]; with_reducible rfl))
                    refine ord_call rfl rfl rfl (by go_simp; exact ⟨rfl, rfl⟩) ?_
                    refine ((show Calls Try.prog 15 #[.pointer (some ⟨xb, 0, none⟩), .agg #[.bool x.v6, .int .u64 x.hi, .int .u64 x.lo], .string zone, .int .i64 now] _ _ from Lame_P (a := x) hR21.out.inf hxok zone hz now)).mono ?_
                    rw [hlx]
                    rintro e w22 ⟨rfl, hb22⟩
                    refine ⟨_, rfl, hb22, ?_⟩
                    have hR22 := Lib.hid (hR21.out.read hb22)
                    replace A0 := (hb22.cell (World.block_lt_of_cell? _ _ A0)).trans A0
                    replace A1 := (hb22.cell (World.block_lt_of_cell? _ _ A1)).trans A1
                    replace A2 := (hb22.cell (World.block_lt_of_cell? _ _ A2)).trans A2
                    replace c0 := (hb22.cell (World.block_lt_of_cell? _ _ c0)).trans c0
                    replace c1 := (hb22.cell (World.block_lt_of_cell? _ _ c1)).trans c1
                    replace c2 := (hb22.cell (World.block_lt_of_cell? _ _ c2)).trans c2
                    simp only [Act.put, Act.eval, List.setIfInBounds_toArray, List.set_cons_zero, List.set_cons_succ, Array.getD_eq_getD_getElem?, List.getElem?_toArray, List.getElem?_cons_zero, List.getElem?_cons_succ, Option.getD_some, List.getElem_toArray, List.getElem_cons_succ, List.getElem_cons_zero]
                    apply ord_pure rfl rfl rfl; (· (intro w; go_simp; with_reducible rfl)); (· (simp only [Act.put, Act.eval, List.setIfInBounds_toArray, List.set_cons_zero, List.set_cons_succ, Array.getD_eq_getD_getElem?, List.getElem?_toArray, List.getElem?_cons_zero, List.getElem?_cons_succ, Option.getD_some, List.getElem_toArray, List.getElem_cons_succ, List.getElem_cons_zero]; with_reducible rfl))
                    apply ord_pure rfl rfl rfl; (· (intro w; go_simp; with_reducible rfl)); (· (simp only [Act.put, Act.eval, List.setIfInBounds_toArray, List.set_cons_zero, List.set_cons_succ, Array.getD_eq_getD_getElem?, List.getElem?_toArray, List.getElem?_cons_zero, List.getElem?_cons_succ, Option.getD_some, List.getElem_toArray, List.getElem_cons_succ, List.getElem_cons_zero]; with_reducible rfl))
                    apply ord_move rfl rfl rfl rfl; (· (simp only [Act.put, Act.eval, List.setIfInBounds_toArray, List.set_cons_zero, List.set_cons_succ, Array.getD_eq_getD_getElem?, List.getElem?_toArray, List.getElem?_cons_zero, List.getElem?_cons_succ, Option.getD_some, List.getElem_toArray, List.getElem_cons_succ, List.getElem_cons_zero]; with_reducible rfl))
                    apply ord_skip rfl rfl; (· (simp only [Act.put, Act.eval, List.setIfInBounds_toArray, List.set_cons_zero, List.set_cons_succ, Array.getD_eq_getD_getElem?, List.getElem?_toArray, List.getElem?_cons_zero, List.getElem?_cons_succ, Option.getD_some, List.getElem_toArray, List.getElem_cons_succ, List.getElem_cons_zero]; with_reducible rfl))
                    apply ord_skip rfl rfl; (· (simp only [Act.put, Act.eval, List.setIfInBounds_toArray, List.set_cons_zero, List.set_cons_succ, Array.getD_eq_getD_getElem?, List.getElem?_toArray, List.getElem?_cons_zero, List.getElem?_cons_succ, Option.getD_some, List.getElem_toArray, List.getElem_cons_succ, List.getElem_cons_zero]; with_reducible rfl))
                    apply ord_skip rfl rfl; (· (simp only [Act.put, Act.eval, List.setIfInBounds_toArray, List.set_cons_zero, List.set_cons_succ, Array.getD_eq_getD_getElem?, List.getElem?_toArray, List.getElem?_cons_zero, List.getElem?_cons_succ, Option.getD_some, List.getElem_toArray, List.getElem_cons_succ, List.getElem_cons_zero]; with_reducible rfl))
                    apply ord_skip rfl rfl; (· (simp only [Act.put, Act.eval, List.setIfInBounds_toArray, List.set_cons_zero, List.set_cons_succ, Array.getD_eq_getD_getElem?, List.getElem?_toArray, List.getElem?_cons_zero, List.getElem?_cons_succ, Option.getD_some, List.getElem_toArray, List.getElem_cons_succ, List.getElem_cons_zero]; with_reducible rfl))
                    apply ord_skip rfl rfl; (· (simp only [Act.put, Act.eval, List.setIfInBounds_toArray, List.set_cons_zero, List.set_cons_succ, Array.getD_eq_getD_getElem?, List.getElem?_toArray, List.getElem?_cons_zero, List.getElem?_cons_succ, Option.getD_some, List.getElem_toArray, List.getElem_cons_succ, List.getElem_cons_zero]; with_reducible rfl))
                    apply ord_skip rfl rfl; (· (simp only [Act.put, Act.eval, List.setIfInBounds_toArray, List.set_cons_zero, List.set_cons_succ, Array.getD_eq_getD_getElem?, List.getElem?_toArray, List.getElem?_cons_zero, List.getElem?_cons_succ, Option.getD_some, List.getElem_toArray, List.getElem_cons_succ, List.getElem_cons_zero]; with_reducible rfl))
                    apply ord_skip rfl rfl; (· (simp only [Act.put, Act.eval, List.setIfInBounds_toArray, List.set_cons_zero, List.set_cons_succ, Array.getD_eq_getD_getElem?, List.getElem?_toArray, List.getElem?_cons_zero, List.getElem?_cons_succ, Option.getD_some, List.getElem_toArray, List.getElem_cons_succ, List.getElem_cons_zero]; with_reducible rfl))
                    apply ord_skip rfl rfl; (· (simp only [Act.put, Act.eval, List.setIfInBounds_toArray, List.set_cons_zero, List.set_cons_succ, Array.getD_eq_getD_getElem?, List.getElem?_toArray, List.getElem?_cons_zero, List.getElem?_cons_succ, Option.getD_some, List.getElem_toArray, List.getElem_cons_succ, List.getElem_cons_zero]; with_reducible rfl))
                    apply ord_skip rfl rfl; (· (simp only [Act.put, Act.eval, List.setIfInBounds_toArray, List.set_cons_zero, List.set_cons_succ, Array.getD_eq_getD_getElem?, List.getElem?_toArray, List.getElem?_cons_zero, List.getElem?_cons_succ, Option.getD_some, List.getElem_toArray, List.getElem_cons_succ, List.getElem_cons_zero]; with_reducible rfl))
                    apply ord_skip rfl rfl; (· (simp only [Act.put, Act.eval, List.setIfInBounds_toArray, List.set_cons_zero, List.set_cons_succ, Array.getD_eq_getD_getElem?, List.getElem?_toArray, List.getElem?_cons_zero, List.getElem?_cons_succ, Option.getD_some, List.getElem_toArray, List.getElem_cons_succ, List.getElem_cons_zero]; with_reducible rfl))
                    apply ord_skip rfl rfl; (· (simp only [Act.put, Act.eval, List.setIfInBounds_toArray, List.set_cons_zero, List.set_cons_succ, Array.getD_eq_getD_getElem?, List.getElem?_toArray, List.getElem?_cons_zero, List.getElem?_cons_succ, Option.getD_some, List.getElem_toArray, List.getElem_cons_succ, List.getElem_cons_zero]; with_reducible rfl))
                    apply ord_pure rfl rfl rfl; (· (intro w; go_simp; with_reducible rfl)); (· (simp only [Act.put, Act.eval, List.setIfInBounds_toArray, List.set_cons_zero, List.set_cons_succ, Array.getD_eq_getD_getElem?, List.getElem?_toArray, List.getElem?_cons_zero, List.getElem?_cons_succ, Option.getD_some, List.getElem_toArray, List.getElem_cons_succ, List.getElem_cons_zero]; with_reducible rfl))
                    with_reducible refine ord_nil ?_
                    go_wp2_with fail
                    go_roundw
                    case rel => exact ⟨j + 1, true, by first | rfl | go_num, rfl, by omega, Lib.hid (by rw [htake.out, ← htH.out]; rfl), hR22⟩
                    case measure => first | (simp [intOf]; done) | (simp [intOf]; omega)
                  | false =>
                    have hT := hmin.out x (hxH.out ▸ ga_mem hjl) hrx hlx
                    have hTx := toP_bd ((st x).getD zeroP)
                    obtain ⟨T1, hT1⟩ : ∃ y, toP ((st ca).getD zeroP) = y := ⟨_, rfl⟩
                    obtain ⟨T2, hT2⟩ : ∃ y, toP ((st x).getD zeroP) = y := ⟨_, rfl⟩
                    rw [hT1, hT2] at hT
                    rw [hT2] at hTx
                    have hT1H := Lib.hid hT1
                    have hT2H := Lib.hid hT2
                    have hw4 := If.wr (show -9223372036854775808 ≤ T2 + 400 by omega) (by omega)
                    have hgt : ¬ T2 + 400 < T1 := by omega
                    clear hT1 hT2 hT hTx
                    go_upto_region 24 with (fail)
                    obtain ⟨wd2, hwd⟩ : ∃ d, wd.drew = d := ⟨_, rfl⟩
                    have hbd : Below wd.heap.size wd wd2 := by rw [← hwd]; exact (Below.refl _ _).drew
                    replace A0 := (hbd.cell (World.block_lt_of_cell? _ _ A0)).trans A0
                    replace A1 := (hbd.cell (World.block_lt_of_cell? _ _ A1)).trans A1
                    replace A2 := (hbd.cell (World.block_lt_of_cell? _ _ A2)).trans A2
                    replace c0 := (hbd.cell (World.block_lt_of_cell? _ _ c0)).trans c0
                    replace c1 := (hbd.cell (World.block_lt_of_cell? _ _ c1)).trans c1
                    replace c2 := (hbd.cell (World.block_lt_of_cell? _ _ c2)).trans c2
                    have hR20 := Lib.hid (hRj.out.read hbd)
                    clear hRj hbd
                    refine Rt.wp_region_ordM [0, 0, 0, 1, 2, 0, 0, 0, 0, 0, 1, 0, 0, 2, 0, 0, 0, 0, 1, 2, 0, 0, 0, 0, 1, 2, 0, 0, 0] [0, 1, 2, 3, 4, 5, 6, 7, 8, 9, 10, 11, 12, 13, 14, 15, 16, 17, 18, 20, 21, 22, 23, 24, 19, 25, 26, 27, 28] (by kernel_rfl) (by kernel_rfl) ?_
                    rw [hwd]
                    clear hwd
                    apply ord_move rfl rfl rfl rfl; (· (simp only [Act.put, Act.eval, List.setIfInBounds_toArray, List.set_cons_zero, List.set_cons_succ, Array.getD_eq_getD_getElem?, List.getElem?_toArray, List.getElem?_cons_zero, List.getElem?_cons_succ, Option.getD_some, List.getElem_toArray, List.getElem_cons_succ, List.getElem_cons_zero]; with_reducible rfl))
                    apply ord_move rfl rfl rfl rfl; (· (simp only [Act.put, Act.eval, List.setIfInBounds_toArray, List.set_cons_zero, List.set_cons_succ, Array.getD_eq_getD_getElem?, List.getElem?_toArray, List.getElem?_cons_zero, List.getElem?_cons_succ, Option.getD_some, List.getElem_toArray, List.getElem_cons_succ, List.getElem_cons_zero]; with_reducible rfl))
                    apply ord_pure rfl rfl rfl; (· (intro w; go_simp; with_reducible rfl)); (· (simp only [Act.put, Act.eval, List.setIfInBounds_toArray, List.set_cons_zero, List.set_cons_succ, Array.getD_eq_getD_getElem?, List.getElem?_toArray, List.getElem?_cons_zero, List.getElem?_cons_succ, Option.getD_some, List.getElem_toArray, List.getElem_cons_succ, List.getElem_cons_zero]; with_reducible rfl))
                    apply ord_read rfl rfl rfl; (· (intro W hW; have g0 := cell_up hW A0; have g1 := cell_up hW A1; have g2 := cell_up hW A2; have g3 := cell_up hW c0; have g4 := cell_up hW c1; have g5 := cell_up hW c2; go_simp; with_reducible rfl)); (· (simp only [Act.put, Act.eval, List.setIfInBounds_toArray, List.set_cons_zero, List.set_cons_succ, Array.getD_eq_getD_getElem?, List.getElem?_toArray, List.getElem?_cons_zero, List.getElem?_cons_succ, Option.getD_some, List.getElem_toArray, List.getElem_cons_succ, List.getElem_cons_zero]; with_reducible rfl))
                    refine ord_call rfl rfl rfl (by go_simp; exact ⟨rfl, rfl⟩) ?_
                    refine ((show Calls Try.prog 14 #[.agg #[.bool x.v6, .int .u64 x.hi, .int .u64 x.lo]] _ _ from RightA_any _ x hxok)).mono ?_
                    rw [hrx]
                    rintro e w21 ⟨rfl, hb21⟩
                    refine ⟨_, rfl, hb21, ?_⟩
                    have hR21 := Lib.hid (hR20.out.read hb21)
                    replace A0 := (hb21.cell (World.block_lt_of_cell? _ _ A0)).trans A0
                    replace A1 := (hb21.cell (World.block_lt_of_cell? _ _ A1)).trans A1
                    replace A2 := (hb21.cell (World.block_lt_of_cell? _ _ A2)).trans A2
                    replace c0 := (hb21.cell (World.block_lt_of_cell? _ _ c0)).trans c0
                    replace c1 := (hb21.cell (World.block_lt_of_cell? _ _ c1)).trans c1
                    replace c2 := (hb21.cell (World.block_lt_of_cell? _ _ c2)).trans c2
                    simp only [Act.put, Act.eval, List.setIfInBounds_toArray, List.set_cons_zero, List.set_cons_succ, Array.getD_eq_getD_getElem?, List.getElem?_toArray, List.getElem?_cons_zero, List.getElem?_cons_succ, Option.getD_some, List.getElem_toArray, List.getElem_cons_succ, List.getElem_cons_zero]
                    apply ord_move rfl rfl rfl rfl; (· (simp only [Act.put, Act.eval, List.setIfInBounds_toArray, List.set_cons_zero, List.set_cons_succ, Array.getD_eq_getD_getElem?, List.getElem?_toArray, List.getElem?_cons_zero, List.getElem?_cons_succ, Option.getD_some, List.getElem_toArray, List.getElem_cons_succ, List.getElem_cons_zero]; with_reducible rfl))
                    apply ord_pure rfl rfl rfl; (· (intro w; go_simp; with_reducible rfl)); (· (simp only [Act.put, Act.eval, List.setIfInBounds_toArray, List.set_cons_zero, List.set_cons_succ, Array.getD_eq_getD_getElem?, List.getElem?_toArray, List.getElem?_cons_zero, List.getElem?_cons_succ, Option.getD_some, List.getElem_toArray, List.getElem_cons_succ, List.getElem_cons_zero]; with_reducible rfl))
                    apply ord_pure rfl rfl rfl; (· (intro w; go_simp; with_reducible rfl)); (· (simp only [Act.put, Act.eval, List.setIfInBounds_toArray, List.set_cons_zero, List.set_cons_succ, Array.getD_eq_getD_getElem?, List.getElem?_toArray, List.getElem?_cons_zero, List.getElem?_cons_succ, Option.getD_some, List.getElem_toArray, List.getElem_cons_succ, List.getElem_cons_zero]; with_reducible rfl))
                    apply ord_pure rfl rfl rfl; (· (intro w; go_simp; with_reducible rfl)); (· (simp only [Act.put, Act.eval, List.setIfInBounds_toArray, List.set_cons_zero, List.set_cons_succ, Array.getD_eq_getD_getElem?, List.getElem?_toArray, List.getElem?_cons_zero, List.getElem?_cons_succ, Option.getD_some, List.getElem_toArray, List.getElem_cons_succ, List.getElem_cons_zero]; with_reducible rfl))
                    apply ord_pure rfl rfl rfl; (· (intro w; go_simp; with_reducible rfl)); (· (simp only [Act.put, Act.eval, List.setIfInBounds_toArray, List.set_cons_zero, List.set_cons_succ, Array.getD_eq_getD_getElem?, List.getElem?_toArray, List.getElem?_cons_zero, List.getElem?_cons_succ, Option.getD_some, List.getElem_toArray, List.getElem_cons_succ, List.getElem_cons_zero]; with_reducible rfl))
                    apply ord_read rfl rfl rfl; (· (intro W hW; have g0 := cell_up hW A0; have g1 := cell_up hW A1; have g2 := cell_up hW A2; have g3 := cell_up hW c0; have g4 := cell_up hW c1; have g5 := cell_up hW c2; go_simp; with_reducible rfl)); (· (simp only [Act.put, Act.eval, List.setIfInBounds_toArray, List.set_cons_zero, List.set_cons_succ, Array.getD_eq_getD_getElem?, List.getElem?_toArray, List.getElem?_cons_zero, List.getElem?_cons_succ, Option.getD_some, List.getElem_toArray, List.getElem_cons_succ, List.getElem_cons_zero]; with_reducible rfl))
                    apply ord_pure rfl rfl rfl; (· (intro w; go_simp; with_reducible rfl)); (· (simp only [Act.put, Act.eval, List.setIfInBounds_toArray, List.set_cons_zero, List.set_cons_succ, Array.getD_eq_getD_getElem?, List.getElem?_toArray, List.getElem?_cons_zero, List.getElem?_cons_succ, Option.getD_some, List.getElem_toArray, List.getElem_cons_succ, List.getElem_cons_zero]; with_reducible rfl))
                    apply ord_pure rfl rfl rfl; (· (intro w; go_simp; with_reducible rfl)); (· (simp only [Act.put, Act.eval, List.setIfInBounds_toArray, List.set_cons_zero, List.set_cons_succ, Array.getD_eq_getD_getElem?, List.getElem?_toArray, List.getElem?_cons_zero, List.getElem?_cons_succ, Option.getD_some, List.getElem_toArray, List.getElem_cons_succ, List.getElem_cons_zero]; with_reducible rfl))
                    refine ord_call rfl rfl rfl (by go_simp; exact ⟨rfl, rfl⟩) ?_
                    refine ((show Calls Try.prog 15 #[.pointer (some ⟨xb, 0, none⟩), .agg #[.bool x.v6, .int .u64 x.hi, .int .u64 x.lo], .string zone, .int .i64 now] _ _ from Lame_P (a := x) hR21.out.inf hxok zone hz now)).mono ?_
                    rw [hlx]
                    rintro e w22 ⟨rfl, hb22⟩
                    refine ⟨_, rfl, hb22, ?_⟩
                    have hR22 := Lib.hid (hR21.out.read hb22)
                    replace A0 := (hb22.cell (World.block_lt_of_cell? _ _ A0)).trans A0
                    replace A1 := (hb22.cell (World.block_lt_of_cell? _ _ A1)).trans A1
                    replace A2 := (hb22.cell (World.block_lt_of_cell? _ _ A2)).trans A2
                    replace c0 := (hb22.cell (World.block_lt_of_cell? _ _ c0)).trans c0
                    replace c1 := (hb22.cell (World.block_lt_of_cell? _ _ c1)).trans c1
                    replace c2 := (hb22.cell (World.block_lt_of_cell? _ _ c2)).trans c2
                    simp only [Act.put, Act.eval, List.setIfInBounds_toArray, List.set_cons_zero, List.set_cons_succ, Array.getD_eq_getD_getElem?, List.getElem?_toArray, List.getElem?_cons_zero, List.getElem?_cons_succ, Option.getD_some, List.getElem_toArray, List.getElem_cons_succ, List.getElem_cons_zero]
                    apply ord_pure rfl rfl rfl; (· (intro w; go_simp; with_reducible rfl)); (· (simp only [Act.put, Act.eval, List.setIfInBounds_toArray, List.set_cons_zero, List.set_cons_succ, Array.getD_eq_getD_getElem?, List.getElem?_toArray, List.getElem?_cons_zero, List.getElem?_cons_succ, Option.getD_some, List.getElem_toArray, List.getElem_cons_succ, List.getElem_cons_zero]; with_reducible rfl))
                    apply ord_pure rfl rfl rfl; (· (intro w; go_simp; with_reducible rfl)); (· (simp only [Act.put, Act.eval, List.setIfInBounds_toArray, List.set_cons_zero, List.set_cons_succ, Array.getD_eq_getD_getElem?, List.getElem?_toArray, List.getElem?_cons_zero, List.getElem?_cons_succ, Option.getD_some, List.getElem_toArray, List.getElem_cons_succ, List.getElem_cons_zero]; with_reducible rfl))
                    apply ord_move rfl rfl rfl rfl; (· (simp only [Act.put, Act.eval, List.setIfInBounds_toArray, List.set_cons_zero, List.set_cons_succ, Array.getD_eq_getD_getElem?, List.getElem?_toArray, List.getElem?_cons_zero, List.getElem?_cons_succ, Option.getD_some, List.getElem_toArray, List.getElem_cons_succ, List.getElem_cons_zero]; with_reducible rfl))
                    apply ord_pure rfl rfl rfl; (· (intro w; go_simp; with_reducible rfl)); (· (simp only [Act.put, Act.eval, List.setIfInBounds_toArray, List.set_cons_zero, List.set_cons_succ, Array.getD_eq_getD_getElem?, List.getElem?_toArray, List.getElem?_cons_zero, List.getElem?_cons_succ, Option.getD_some, List.getElem_toArray, List.getElem_cons_succ, List.getElem_cons_zero]; with_reducible rfl))
                    apply ord_read rfl rfl rfl; (· (intro W hW; have g0 := cell_up hW A0; have g1 := cell_up hW A1; have g2 := cell_up hW A2; have g3 := cell_up hW c0; have g4 := cell_up hW c1; have g5 := cell_up hW c2; go_simp; with_reducible rfl)); (· (simp only [Act.put, Act.eval, List.setIfInBounds_toArray, List.set_cons_zero, List.set_cons_succ, Array.getD_eq_getD_getElem?, List.getElem?_toArray, List.getElem?_cons_zero, List.getElem?_cons_succ, Option.getD_some, List.getElem_toArray, List.getElem_cons_succ, List.getElem_cons_zero]; with_reducible rfl))
                    apply ord_pure rfl rfl rfl; (· (intro w; go_simp; with_reducible rfl)); (· (simp only [Act.put, Act.eval, List.setIfInBounds_toArray, List.set_cons_zero, List.set_cons_succ, Array.getD_eq_getD_getElem?, List.getElem?_toArray, List.getElem?_cons_zero, List.getElem?_cons_succ, Option.getD_some, List.getElem_toArray, List.getElem_cons_succ, List.getElem_cons_zero]; with_reducible rfl))
                    apply ord_pure rfl rfl rfl; (· (intro w; go_simp; with_reducible rfl)); (· (simp only [Act.put, Act.eval, List.setIfInBounds_toArray, List.set_cons_zero, List.set_cons_succ, Array.getD_eq_getD_getElem?, List.getElem?_toArray, List.getElem?_cons_zero, List.getElem?_cons_succ, Option.getD_some, List.getElem_toArray, List.getElem_cons_succ, List.getElem_cons_zero]; with_reducible rfl))
                    apply ord_pure rfl rfl rfl; (· (intro w; go_simp; with_reducible rfl)); (· (simp only [Act.put, Act.eval, List.setIfInBounds_toArray, List.set_cons_zero, List.set_cons_succ, Array.getD_eq_getD_getElem?, List.getElem?_toArray, List.getElem?_cons_zero, List.getElem?_cons_succ, Option.getD_some, List.getElem_toArray, List.getElem_cons_succ, List.getElem_cons_zero]; with_reducible rfl))
                    apply ord_pure rfl rfl rfl; (· (intro w; go_simp; with_reducible rfl)); (· (simp only [Act.put, Act.eval, List.setIfInBounds_toArray, List.set_cons_zero, List.set_cons_succ, Array.getD_eq_getD_getElem?, List.getElem?_toArray, List.getElem?_cons_zero, List.getElem?_cons_succ, Option.getD_some, List.getElem_toArray, List.getElem_cons_succ, List.getElem_cons_zero]; with_reducible rfl))
                    apply ord_read rfl rfl rfl; (· (intro W hW; have g0 := cell_up hW A0; have g1 := cell_up hW A1; have g2 := cell_up hW A2; have g3 := cell_up hW c0; have g4 := cell_up hW c1; have g5 := cell_up hW c2; go_simp; with_reducible rfl)); (· (simp only [Act.put, Act.eval, List.setIfInBounds_toArray, List.set_cons_zero, List.set_cons_succ, Array.getD_eq_getD_getElem?, List.getElem?_toArray, List.getElem?_cons_zero, List.getElem?_cons_succ, Option.getD_some, List.getElem_toArray, List.getElem_cons_succ, List.getElem_cons_zero]; with_reducible rfl))
                    refine ord_call rfl rfl rfl (by go_simp; exact ⟨rfl, rfl⟩) ?_
                    refine ((show Calls Try.prog 16 #[.pointer (some ⟨xb, 0, none⟩), .agg #[.bool ca.v6, .int .u64 ca.hi, .int .u64 ca.lo]] _ _ from Timeout_P (a := ca) hR22.out.inf hcaok)).mono ?_
                    rw [hT1H.out]
                    rintro e w23 ⟨rfl, hb23⟩
                    refine ⟨_, rfl, hb23, ?_⟩
                    have hR23 := Lib.hid (hR22.out.read hb23)
                    replace A0 := (hb23.cell (World.block_lt_of_cell? _ _ A0)).trans A0
                    replace A1 := (hb23.cell (World.block_lt_of_cell? _ _ A1)).trans A1
                    replace A2 := (hb23.cell (World.block_lt_of_cell? _ _ A2)).trans A2
                    replace c0 := (hb23.cell (World.block_lt_of_cell? _ _ c0)).trans c0
                    replace c1 := (hb23.cell (World.block_lt_of_cell? _ _ c1)).trans c1
                    replace c2 := (hb23.cell (World.block_lt_of_cell? _ _ c2)).trans c2
                    simp only [Act.put, Act.eval, List.setIfInBounds_toArray, List.set_cons_zero, List.set_cons_succ, Array.getD_eq_getD_getElem?, List.getElem?_toArray, List.getElem?_cons_zero, List.getElem?_cons_succ, Option.getD_some, List.getElem_toArray, List.getElem_cons_succ, List.getElem_cons_zero]
                    refine ord_call rfl rfl rfl (by go_simp; exact ⟨rfl, rfl⟩) ?_
                    refine ((show Calls Try.prog 16 #[.pointer (some ⟨xb, 0, none⟩), .agg #[.bool x.v6, .int .u64 x.hi, .int .u64 x.lo]] _ _ from Timeout_P (a := x) hR23.out.inf hxok)).mono ?_
                    rw [hT2H.out]
                    rintro e w24 ⟨rfl, hb24⟩
                    refine ⟨_, rfl, hb24, ?_⟩
                    have hR24 := Lib.hid (hR23.out.read hb24)
                    replace A0 := (hb24.cell (World.block_lt_of_cell? _ _ A0)).trans A0
                    replace A1 := (hb24.cell (World.block_lt_of_cell? _ _ A1)).trans A1
                    replace A2 := (hb24.cell (World.block_lt_of_cell? _ _ A2)).trans A2
                    replace c0 := (hb24.cell (World.block_lt_of_cell? _ _ c0)).trans c0
                    replace c1 := (hb24.cell (World.block_lt_of_cell? _ _ c1)).trans c1
                    replace c2 := (hb24.cell (World.block_lt_of_cell? _ _ c2)).trans c2
                    simp only [Act.put, Act.eval, List.setIfInBounds_toArray, List.set_cons_zero, List.set_cons_succ, Array.getD_eq_getD_getElem?, List.getElem?_toArray, List.getElem?_cons_zero, List.getElem?_cons_succ, Option.getD_some, List.getElem_toArray, List.getElem_cons_succ, List.getElem_cons_zero]
                    apply ord_pure rfl rfl rfl; (· (intro w; go_simp; with_reducible rfl)); (· (simp only [Act.put, Act.eval, List.setIfInBounds_toArray, List.set_cons_zero, List.set_cons_succ, Array.getD_eq_getD_getElem?, List.getElem?_toArray, List.getElem?_cons_zero, List.getElem?_cons_succ, Option.getD_some, List.getElem_toArray, List.getElem_cons_succ, List.getElem_cons_zero]; with_reducible rfl))
                    apply ord_pure rfl rfl rfl; (· (intro w; go_simp; with_reducible rfl)); (· (simp only [Act.put, Act.eval, List.setIfInBounds_toArray, List.set_cons_zero, List.set_cons_succ, Array.getD_eq_getD_getElem?, List.getElem?_toArray, List.getElem?_cons_zero, List.getElem?_cons_succ, Option.getD_some, List.getElem_toArray, List.getElem_cons_succ, List.getElem_cons_zero]; with_reducible rfl))
                    apply ord_pure rfl rfl rfl; (· (intro w; go_simp; with_reducible rfl)); (· (simp only [Act.put, Act.eval, List.setIfInBounds_toArray, List.set_cons_zero, List.set_cons_succ, Array.getD_eq_getD_getElem?, List.getElem?_toArray, List.getElem?_cons_zero, List.getElem?_cons_succ, Option.getD_some, List.getElem_toArray, List.getElem_cons_succ, List.getElem_cons_zero]; with_reducible rfl))
                    with_reducible refine ord_nil ?_
                    go_wp2_with fail
                    go_roundw
                    case rel => exact ⟨j + 1, true, by first | rfl | go_num, rfl, by omega, Lib.hid (by rw [htake.out, ← htH.out]; rfl), hR24⟩
                    case measure => first | (simp [intOf]; done) | (simp [intOf]; omega)
              | false =>
                go_upto_region 23 with (fail)
                obtain ⟨wd, hwd⟩ : ∃ d, wr.drew = d := ⟨_, rfl⟩
                have hbd : Below wr.heap.size wr wd := by rw [← hwd]; exact (Below.refl _ _).drew
                replace A0 := (hbd.cell (World.block_lt_of_cell? _ _ A0)).trans A0
                replace A1 := (hbd.cell (World.block_lt_of_cell? _ _ A1)).trans A1
                replace A2 := (hbd.cell (World.block_lt_of_cell? _ _ A2)).trans A2
                replace c0 := (hbd.cell (World.block_lt_of_cell? _ _ c0)).trans c0
                replace c1 := (hbd.cell (World.block_lt_of_cell? _ _ c1)).trans c1
                replace c2 := (hbd.cell (World.block_lt_of_cell? _ _ c2)).trans c2
                have hR2 := Lib.hid (hRj.out.read hbd)
                clear hbd
                refine Rt.wp_region_ordM [0, 0, 0, 0, 0, 1, 1, 0, 0, 0] [0, 1, 2, 3, 4, 5, 6, 7, 8, 9] (by kernel_rfl) (by kernel_rfl) ?_
                rw [hwd]
                clear hwd
                apply ord_move rfl rfl rfl rfl; (· (simp only [Act.put, Act.eval, List.setIfInBounds_toArray, List.set_cons_zero, List.set_cons_succ, Array.getD_eq_getD_getElem?, List.getElem?_toArray, List.getElem?_cons_zero, List.getElem?_cons_succ, Option.getD_some, List.getElem_toArray, List.getElem_cons_succ, List.getElem_cons_zero]; with_reducible rfl))
                apply ord_move rfl rfl rfl rfl; (· (simp only [Act.put, Act.eval, List.setIfInBounds_toArray, List.set_cons_zero, List.set_cons_succ, Array.getD_eq_getD_getElem?, List.getElem?_toArray, List.getElem?_cons_zero, List.getElem?_cons_succ, Option.getD_some, List.getElem_toArray, List.getElem_cons_succ, List.getElem_cons_zero]; with_reducible rfl))
                apply ord_pure rfl rfl rfl; (· (intro w; go_simp; with_reducible rfl)); (· (simp only [Act.put, Act.eval, List.setIfInBounds_toArray, List.set_cons_zero, List.set_cons_succ, Array.getD_eq_getD_getElem?, List.getElem?_toArray, List.getElem?_cons_zero, List.getElem?_cons_succ, Option.getD_some, List.getElem_toArray, List.getElem_cons_succ, List.getElem_cons_zero]; with_reducible rfl))
                apply ord_pure rfl rfl rfl; (· (intro w; go_simp; with_reducible rfl)); (· (simp only [Act.put, Act.eval, List.setIfInBounds_toArray, List.set_cons_zero, List.set_cons_succ, Array.getD_eq_getD_getElem?, List.getElem?_toArray, List.getElem?_cons_zero, List.getElem?_cons_succ, Option.getD_some, List.getElem_toArray, List.getElem_cons_succ, List.getElem_cons_zero]; with_reducible rfl))
                apply ord_pure rfl rfl rfl; (· (intro w; go_simp; with_reducible rfl)); (· (simp only [Act.put, Act.eval, List.setIfInBounds_toArray, List.set_cons_zero, List.set_cons_succ, Array.getD_eq_getD_getElem?, List.getElem?_toArray, List.getElem?_cons_zero, List.getElem?_cons_succ, Option.getD_some, List.getElem_toArray, List.getElem_cons_succ, List.getElem_cons_zero]; with_reducible rfl))
                apply ord_read rfl rfl rfl; (· (intro W hW; have g0 := cell_up hW A0; have g1 := cell_up hW A1; have g2 := cell_up hW A2; have g3 := cell_up hW c0; have g4 := cell_up hW c1; have g5 := cell_up hW c2; go_simp; with_reducible rfl)); (· (simp only [Act.put, Act.eval, List.setIfInBounds_toArray, List.set_cons_zero, List.set_cons_succ, Array.getD_eq_getD_getElem?, List.getElem?_toArray, List.getElem?_cons_zero, List.getElem?_cons_succ, Option.getD_some, List.getElem_toArray, List.getElem_cons_succ, List.getElem_cons_zero]; with_reducible rfl))
                apply ord_read rfl rfl rfl; (· (intro W hW; have g0 := cell_up hW A0; have g1 := cell_up hW A1; have g2 := cell_up hW A2; have g3 := cell_up hW c0; have g4 := cell_up hW c1; have g5 := cell_up hW c2; go_simp; with_reducible rfl)); (· (simp only [Act.put, Act.eval, List.setIfInBounds_toArray, List.set_cons_zero, List.set_cons_succ, Array.getD_eq_getD_getElem?, List.getElem?_toArray, List.getElem?_cons_zero, List.getElem?_cons_succ, Option.getD_some, List.getElem_toArray, List.getElem_cons_succ, List.getElem_cons_zero]; with_reducible rfl))
                apply ord_pure rfl rfl rfl; (· (intro w; exact exec_eqA (x := x) (y := ca) rfl rfl rfl w)); (· (simp only [Act.put, Act.eval, List.setIfInBounds_toArray, List.set_cons_zero, List.set_cons_succ, Array.getD_eq_getD_getElem?, List.getElem?_toArray, List.getElem?_cons_zero, List.getElem?_cons_succ, Option.getD_some, List.getElem_toArray, List.getElem_cons_succ, List.getElem_cons_zero]; with_reducible rfl))
                apply ord_pure rfl rfl rfl; (· (intro w; go_simp; with_reducible rfl)); (· (simp only [Act.put, Act.eval, List.setIfInBounds_toArray, List.set_cons_zero, List.set_cons_succ, Array.getD_eq_getD_getElem?, List.getElem?_toArray, List.getElem?_cons_zero, List.getElem?_cons_succ, Option.getD_some, List.getElem_toArray, List.getElem_cons_succ, List.getElem_cons_zero]; with_reducible rfl))
                apply ord_pure rfl rfl rfl; (· (intro w; go_simp; with_reducible rfl)); (· (simp only [Act.put, Act.eval, List.setIfInBounds_toArray, List.set_cons_zero, List.set_cons_succ, Array.getD_eq_getD_getElem?, List.getElem?_toArray, List.getElem?_cons_zero, List.getElem?_cons_succ, Option.getD_some, List.getElem_toArray, List.getElem_cons_succ, List.getElem_cons_zero]; with_reducible rfl))
                with_reducible refine ord_nil ?_
                clear hRj
                have hRj := hR2
                clear hR2
                obtain ⟨t2, ht2⟩ : ∃ b, decide (x = ca) = b := ⟨_, rfl⟩
                rw [ht2]
                have ht2H := Lib.hid ht2
                clear ht2
                cases hrx : rightA x with
                | false =>
                  go_upto_region 24 with (fail)
                  obtain ⟨wd2, hwd⟩ : ∃ d, wd.drew = d := ⟨_, rfl⟩
                  have hbd : Below wd.heap.size wd wd2 := by rw [← hwd]; exact (Below.refl _ _).drew
                  replace A0 := (hbd.cell (World.block_lt_of_cell? _ _ A0)).trans A0
                  replace A1 := (hbd.cell (World.block_lt_of_cell? _ _ A1)).trans A1
                  replace A2 := (hbd.cell (World.block_lt_of_cell? _ _ A2)).trans A2
                  replace c0 := (hbd.cell (World.block_lt_of_cell? _ _ c0)).trans c0
                  replace c1 := (hbd.cell (World.block_lt_of_cell? _ _ c1)).trans c1
                  replace c2 := (hbd.cell (World.block_lt_of_cell? _ _ c2)).trans c2
                  have hR20 := Lib.hid (hRj.out.read hbd)
                  clear hRj hbd
                  refine Rt.wp_region_ordM [0, 0, 0, 1, 2, 0, 0, 0, 0, 0, 1, 0, 0, 2, 0, 0, 0, 0, 1, 2, 0, 0, 0, 0, 1, 2, 0, 0, 0] [0, 1, 2, 3, 4, 5, 6, 7, 8, 9, 10, 11, 12, 13, 14, 15, 16, 17, 18, 20, 21, 22, 23, 24, 19, 25, 26, 27, 28] (by kernel_rfl) (by kernel_rfl) ?_
                  rw [hwd]
                  clear hwd
                  apply ord_move rfl rfl rfl rfl; (· (simp only [Act.put, Act.eval, List.setIfInBounds_toArray, List.set_cons_zero, List.set_cons_succ, Array.getD_eq_getD_getElem?, List.getElem?_toArray, List.getElem?_cons_zero, List.getElem?_cons_succ, Option.getD_some, List.getElem_toArray, List.getElem_cons_succ, List.getElem_cons_zero]; with_reducible rfl))
                  apply ord_move rfl rfl rfl rfl; (· (simp only [Act.put, Act.eval, List.setIfInBounds_toArray, List.set_cons_zero, List.set_cons_succ, Array.getD_eq_getD_getElem?, List.getElem?_toArray, List.getElem?_cons_zero, List.getElem?_cons_succ, Option.getD_some, List.getElem_toArray, List.getElem_cons_succ, List.getElem_cons_zero]; with_reducible rfl))
                  apply ord_pure rfl rfl rfl; (· (intro w; go_simp; with_reducible rfl)); (· (simp only [Act.put, Act.eval, List.setIfInBounds_toArray, List.set_cons_zero, List.set_cons_succ, Array.getD_eq_getD_getElem?, List.getElem?_toArray, List.getElem?_cons_zero, List.getElem?_cons_succ, Option.getD_some, List.getElem_toArray, List.getElem_cons_succ, List.getElem_cons_zero]; with_reducible rfl))
                  apply ord_read rfl rfl rfl; (· (intro W hW; have g0 := cell_up hW A0; have g1 := cell_up hW A1; have g2 := cell_up hW A2; have g3 := cell_up hW c0; have g4 := cell_up hW c1; have g5 := cell_up hW c2; go_simp; with_reducible rfl)); (· (simp only [Act.put, Act.eval, List.setIfInBounds_toArray, List.set_cons_zero, List.set_cons_succ, Array.getD_eq_getD_getElem?, List.getElem?_toArray, List.getElem?_cons_zero, List.getElem?_cons_succ, Option.getD_some, List.getElem_toArray, List.getElem_cons_succ, List.getElem_cons_zero]; with_reducible rfl))
                  refine ord_call rfl rfl rfl (by go_simp; exact ⟨rfl, rfl⟩) ?_
                  refine ((show Calls Try.prog 14 #[.agg #[.bool x.v6, .int .u64 x.hi, .int .u64 x.lo]] _ _ from RightA_any _ x hxok)).mono ?_
                  rw [hrx]
                  rintro e w21 ⟨rfl, hb21⟩
                  refine ⟨_, rfl, hb21, ?_⟩
                  have hR21 := Lib.hid (hR20.out.read hb21)
                  replace A0 := (hb21.cell (World.block_lt_of_cell? _ _ A0)).trans A0
                  replace A1 := (hb21.cell (World.block_lt_of_cell? _ _ A1)).trans A1
                  replace A2 := (hb21.cell (World.block_lt_of_cell? _ _ A2)).trans A2
                  replace c0 := (hb21.cell (World.block_lt_of_cell? _ _ c0)).trans c0
                  replace c1 := (hb21.cell (World.block_lt_of_cell? _ _ c1)).trans c1
                  replace c2 := (hb21.cell (World.block_lt_of_cell? _ _ c2)).trans c2
                  simp only [Act.put, Act.eval, List.setIfInBounds_toArray, List.set_cons_zero, List.set_cons_succ, Array.getD_eq_getD_getElem?, List.getElem?_toArray, List.getElem?_cons_zero, List.getElem?_cons_succ, Option.getD_some, List.getElem_toArray, List.getElem_cons_succ, List.getElem_cons_zero]
                  apply ord_move rfl rfl rfl rfl; (· (simp only [Act.put, Act.eval, List.setIfInBounds_toArray, List.set_cons_zero, List.set_cons_succ, Array.getD_eq_getD_getElem?, List.getElem?_toArray, List.getElem?_cons_zero, List.getElem?_cons_succ, Option.getD_some, List.getElem_toArray, List.getElem_cons_succ, List.getElem_cons_zero]; with_reducible rfl))
                  apply ord_skip rfl rfl; (· (simp only [Act.put, Act.eval, List.setIfInBounds_toArray, List.set_cons_zero, List.set_cons_succ, Array.getD_eq_getD_getElem?, List.getElem?_toArray, List.getElem?_cons_zero, List.getElem?_cons_succ, Option.getD_some, List.getElem_toArray, List.getElem_cons_succ, List.getElem_cons_zero]; with_reducible rfl))
                  apply ord_skip rfl rfl; (· (simp only [Act.put, Act.eval, List.setIfInBounds_toArray, List.set_cons_zero, List.set_cons_succ, Array.getD_eq_getD_getElem?, List.getElem?_toArray, List.getElem?_cons_zero, List.getElem?_cons_succ, Option.getD_some, List.getElem_toArray, List.getElem_cons_succ, List.getElem_cons_zero]; with_reducible rfl))
                  apply ord_skip rfl rfl; (· (simp only [Act.put, Act.eval, List.setIfInBounds_toArray, List.set_cons_zero, List.set_cons_succ, Array.getD_eq_getD_getElem?, List.getElem?_toArray, List.getElem?_cons_zero, List.getElem?_cons_succ, Option.getD_some, List.getElem_toArray, List.getElem_cons_succ, List.getElem_cons_zero]; with_reducible rfl))
                  apply ord_skip rfl rfl; (· (simp only [Act.put, Act.eval, List.setIfInBounds_toArray, List.set_cons_zero, List.set_cons_succ, Array.getD_eq_getD_getElem?, List.getElem?_toArray, List.getElem?_cons_zero, List.getElem?_cons_succ, Option.getD_some, List.getElem_toArray, List.getElem_cons_succ, List.getElem_cons_zero]; with_reducible rfl))
                  apply ord_skip rfl rfl; (· (simp only [Act.put, Act.eval, List.setIfInBounds_toArray, List.set_cons_zero, List.set_cons_succ, Array.getD_eq_getD_getElem?, List.getElem?_toArray, List.getElem?_cons_zero, List.getElem?_cons_succ, Option.getD_some, List.getElem_toArray, List.getElem_cons_succ, List.getElem_cons_zero]; with_reducible rfl))
                  apply ord_skip rfl rfl; (· (simp only [Act.put, Act.eval, List.setIfInBounds_toArray, List.set_cons_zero, List.set_cons_succ, Array.getD_eq_getD_getElem?, List.getElem?_toArray, List.getElem?_cons_zero, List.getElem?_cons_succ, Option.getD_some, List.getElem_toArray, List.getElem_cons_succ, List.getElem_cons_zero]; with_reducible rfl))
                  apply ord_skip rfl rfl; (· (simp only [Act.put, Act.eval, List.setIfInBounds_toArray, List.set_cons_zero, List.set_cons_succ, Array.getD_eq_getD_getElem?, List.getElem?_toArray, List.getElem?_cons_zero, List.getElem?_cons_succ, Option.getD_some, List.getElem_toArray, List.getElem_cons_succ, List.getElem_cons_zero]; with_reducible rfl))
                  apply ord_skip rfl rfl; (· (simp only [Act.put, Act.eval, List.setIfInBounds_toArray, List.set_cons_zero, List.set_cons_succ, Array.getD_eq_getD_getElem?, List.getElem?_toArray, List.getElem?_cons_zero, List.getElem?_cons_succ, Option.getD_some, List.getElem_toArray, List.getElem_cons_succ, List.getElem_cons_zero]; with_reducible rfl))
                  apply ord_skip rfl rfl; (· (simp only [Act.put, Act.eval, List.setIfInBounds_toArray, List.set_cons_zero, List.set_cons_succ, Array.getD_eq_getD_getElem?, List.getElem?_toArray, List.getElem?_cons_zero, List.getElem?_cons_succ, Option.getD_some, List.getElem_toArray, List.getElem_cons_succ, List.getElem_cons_zero]; with_reducible rfl))
                  apply ord_pure rfl rfl rfl; (· (intro w; go_simp; with_reducible rfl)); (· (simp only [Act.put, Act.eval, List.setIfInBounds_toArray, List.set_cons_zero, List.set_cons_succ, Array.getD_eq_getD_getElem?, List.getElem?_toArray, List.getElem?_cons_zero, List.getElem?_cons_succ, Option.getD_some, List.getElem_toArray, List.getElem_cons_succ, List.getElem_cons_zero]; with_reducible rfl))
                  apply ord_move rfl rfl rfl rfl; (· (simp only [Act.put, Act.eval, List.setIfInBounds_toArray, List.set_cons_zero, List.set_cons_succ, Array.getD_eq_getD_getElem?, List.getElem?_toArray, List.getElem?_cons_zero, List.getElem?_cons_succ, Option.getD_some, List.getElem_toArray, List.getElem_cons_succ, List.getElem_cons_zero]; with_reducible rfl))
                  apply ord_skip rfl rfl; (· (simp only [Act.put, Act.eval, List.setIfInBounds_toArray, List.set_cons_zero, List.set_cons_succ, Array.getD_eq_getD_getElem?, List.getElem?_toArray, List.getElem?_cons_zero, List.getElem?_cons_succ, Option.getD_some, List.getElem_toArray, List.getElem_cons_succ, List.getElem_cons_zero]; with_reducible rfl))
                  apply ord_skip rfl rfl; (· (simp only [Act.put, Act.eval, List.setIfInBounds_toArray, List.set_cons_zero, List.set_cons_succ, Array.getD_eq_getD_getElem?, List.getElem?_toArray, List.getElem?_cons_zero, List.getElem?_cons_succ, Option.getD_some, List.getElem_toArray, List.getElem_cons_succ, List.getElem_cons_zero]; with_reducible rfl))
                  apply ord_skip rfl rfl; (· (simp only [Act.put, Act.eval, List.setIfInBounds_toArray, List.set_cons_zero, List.set_cons_succ, Array.getD_eq_getD_getElem?, List.getElem?_toArray, List.getElem?_cons_zero, List.getElem?_cons_succ, Option.getD_some, List.getElem_toArray, List.getElem_cons_succ, List.getElem_cons_zero]; with_reducible rfl))
                  apply ord_skip rfl rfl; (· (simp only [Act.put, Act.eval, List.setIfInBounds_toArray, List.set_cons_zero, List.set_cons_succ, Array.getD_eq_getD_getElem?, List.getElem?_toArray, List.getElem?_cons_zero, List.getElem?_cons_succ, Option.getD_some, List.getElem_toArray, List.getElem_cons_succ, List.getElem_cons_zero]; with_reducible rfl))
                  apply ord_skip rfl rfl; (· (simp only [Act.put, Act.eval, List.setIfInBounds_toArray, List.set_cons_zero, List.set_cons_succ, Array.getD_eq_getD_getElem?, List.getElem?_toArray, List.getElem?_cons_zero, List.getElem?_cons_succ, Option.getD_some, List.getElem_toArray, List.getElem_cons_succ, List.getElem_cons_zero]; with_reducible rfl))
                  apply ord_skip rfl rfl; (· (simp only [Act.put, Act.eval, List.setIfInBounds_toArray, List.set_cons_zero, List.set_cons_succ, Array.getD_eq_getD_getElem?, List.getElem?_toArray, List.getElem?_cons_zero, List.getElem?_cons_succ, Option.getD_some, List.getElem_toArray, List.getElem_cons_succ, List.getElem_cons_zero]; with_reducible rfl))
                  apply ord_skip rfl rfl; (· (simp only [Act.put, Act.eval, List.setIfInBounds_toArray, List.set_cons_zero, List.set_cons_succ, Array.getD_eq_getD_getElem?, List.getElem?_toArray, List.getElem?_cons_zero, List.getElem?_cons_succ, Option.getD_some, List.getElem_toArray, List.getElem_cons_succ, List.getElem_cons_zero]; with_reducible rfl))
                  apply ord_skip rfl rfl; (· (simp only [Act.put, Act.eval, List.setIfInBounds_toArray, List.set_cons_zero, List.set_cons_succ, Array.getD_eq_getD_getElem?, List.getElem?_toArray, List.getElem?_cons_zero, List.getElem?_cons_succ, Option.getD_some, List.getElem_toArray, List.getElem_cons_succ, List.getElem_cons_zero]; with_reducible rfl))
                  apply ord_skip rfl rfl; (· (simp only [Act.put, Act.eval, List.setIfInBounds_toArray, List.set_cons_zero, List.set_cons_succ, Array.getD_eq_getD_getElem?, List.getElem?_toArray, List.getElem?_cons_zero, List.getElem?_cons_succ, Option.getD_some, List.getElem_toArray, List.getElem_cons_succ, List.getElem_cons_zero]; with_reducible rfl))
                  apply ord_skip rfl rfl; (· (simp only [Act.put, Act.eval, List.setIfInBounds_toArray, List.set_cons_zero, List.set_cons_succ, Array.getD_eq_getD_getElem?, List.getElem?_toArray, List.getElem?_cons_zero, List.getElem?_cons_succ, Option.getD_some, List.getElem_toArray, List.getElem_cons_succ, List.getElem_cons_zero]; with_reducible rfl))
                  apply ord_skip rfl rfl; (· (simp only [Act.put, Act.eval, List.setIfInBounds_toArray, List.set_cons_zero, List.set_cons_succ, Array.getD_eq_getD_getElem?, List.getElem?_toArray, List.getElem?_cons_zero, List.getElem?_cons_succ, Option.getD_some, List.getElem_toArray, List.getElem_cons_succ, List.getElem_cons_zero]; with_reducible rfl))
                  apply ord_pure rfl rfl rfl; (· (intro w; go_simp; with_reducible rfl)); (· (simp only [Act.put, Act.eval, List.setIfInBounds_toArray, List.set_cons_zero, List.set_cons_succ, Array.getD_eq_getD_getElem?, List.getElem?_toArray, List.getElem?_cons_zero, List.getElem?_cons_succ, Option.getD_some, List.getElem_toArray, List.getElem_cons_succ, List.getElem_cons_zero]; with_reducible rfl))
                  with_reducible refine ord_nil ?_
                  go_wp2_with fail
                  go_roundw
                  case rel => exact ⟨j + 1, t2, by first | rfl | go_num, rfl, by omega, Lib.hid (by rw [htake.out, ← htH.out, ht2H.out]; rfl), hR21⟩
                  case measure => first | (simp [intOf]; done) | (simp [intOf]; omega)
                | true =>
                  cases hlx : lameB zone now ((st x).getD zeroP) with
                  | true =>
                    go_upto_region 24 with (fail)
                    obtain ⟨wd2, hwd⟩ : ∃ d, wd.drew = d := ⟨_, rfl⟩
                    have hbd : Below wd.heap.size wd wd2 := by rw [← hwd]; exact (Below.refl _ _).drew
                    replace A0 := (hbd.cell (World.block_lt_of_cell? _ _ A0)).trans A0
                    replace A1 := (hbd.cell (World.block_lt_of_cell? _ _ A1)).trans A1
                    replace A2 := (hbd.cell (World.block_lt_of_cell? _ _ A2)).trans A2
                    replace c0 := (hbd.cell (World.block_lt_of_cell? _ _ c0)).trans c0
                    replace c1 := (hbd.cell (World.block_lt_of_cell? _ _ c1)).trans c1
                    replace c2 := (hbd.cell (World.block_lt_of_cell? _ _ c2)).trans c2
                    have hR20 := Lib.hid (hRj.out.read hbd)
                    clear hRj hbd
                    refine Rt.wp_region_ordM [0, 0, 0, 1, 2, 0, 0, 0, 0, 0, 1, 0, 0, 2, 0, 0, 0, 0, 1, 2, 0, 0, 0, 0, 1, 2, 0, 0, 0] [0, 1, 2, 3, 4, 5, 6, 7, 8, 9, 10, 11, 12, 13, 14, 15, 16, 17, 18, 20, 21, 22, 23, 24, 19, 25, 26, 27, 28] (by kernel_rfl) (by kernel_rfl) ?_
                    rw [hwd]
                    clear hwd
                    apply ord_move rfl rfl rfl rfl; (· (simp only [Act.put, Act.eval, List.setIfInBounds_toArray, List.set_cons_zero, List.set_cons_succ, Array.getD_eq_getD_getElem?, List.getElem?_toArray, List.getElem?_cons_zero, List.getElem?_cons_succ, Option.getD_some, List.getElem_toArray, List.getElem_cons_succ, List.getElem_cons_zero]; with_reducible rfl))
                    apply ord_move rfl rfl rfl rfl; (· (simp only [Act.put, Act.eval, List.setIfInBounds_toArray, List.set_cons_zero, List.set_cons_succ, Array.getD_eq_getD_getElem?, List.getElem?_toArray, List.getElem?_cons_zero, List.getElem?_cons_succ, Option.getD_some, List.getElem_toArray, List.getElem_cons_succ, List.getElem_cons_zero]; with_reducible rfl))
                    apply ord_pure rfl rfl rfl; (· (intro w; go_simp; with_reducible rfl)); (· (simp only [Act.put, Act.eval, List.setIfInBounds_toArray, List.set_cons_zero, List.set_cons_succ, Array.getD_eq_getD_getElem?, List.getElem?_toArray, List.getElem?_cons_zero, List.getElem?_cons_succ, Option.getD_some, List.getElem_toArray, List.getElem_cons_succ, List.getElem_cons_zero]; with_reducible rfl))
                    apply ord_read rfl rfl rfl; (· (intro W hW; have g0 := cell_up hW A0; have g1 := cell_up hW A1; have g2 := cell_up hW A2; have g3 := cell_up hW c0; have g4 := cell_up hW c1; have g5 := cell_up hW c2; go_simp; with_reducible rfl)); (· (simp only [Act.put, Act.eval, List.setIfInBounds_toArray, List.set_cons_zero, List.set_cons_succ, Array.getD_eq_getD_getElem?, List.getElem?_toArray, List.getElem?_cons_zero, List.getElem?_cons_succ, Option.getD_some, List.getElem_toArray, List.getElem_cons_succ, List.getElem_cons_zero]; with_reducible rfl))
                    refine ord_call rfl rfl rfl (by go_simp; exact ⟨rfl, rfl⟩) ?_
                    refine ((show Calls Try.prog 14 #[.agg #[.bool x.v6, .int .u64 x.hi, .int .u64 x.lo]] _ _ from RightA_any _ x hxok)).mono ?_
                    rw [hrx]
                    rintro e w21 ⟨rfl, hb21⟩
                    refine ⟨_, rfl, hb21, ?_⟩
                    have hR21 := Lib.hid (hR20.out.read hb21)
                    replace A0 := (hb21.cell (World.block_lt_of_cell? _ _ A0)).trans A0
                    replace A1 := (hb21.cell (World.block_lt_of_cell? _ _ A1)).trans A1
                    replace A2 := (hb21.cell (World.block_lt_of_cell? _ _ A2)).trans A2
                    replace c0 := (hb21.cell (World.block_lt_of_cell? _ _ c0)).trans c0
                    replace c1 := (hb21.cell (World.block_lt_of_cell? _ _ c1)).trans c1
                    replace c2 := (hb21.cell (World.block_lt_of_cell? _ _ c2)).trans c2
                    simp only [Act.put, Act.eval, List.setIfInBounds_toArray, List.set_cons_zero, List.set_cons_succ, Array.getD_eq_getD_getElem?, List.getElem?_toArray, List.getElem?_cons_zero, List.getElem?_cons_succ, Option.getD_some, List.getElem_toArray, List.getElem_cons_succ, List.getElem_cons_zero]
                    apply ord_move rfl rfl rfl rfl; (· (simp only [Act.put, Act.eval, List.setIfInBounds_toArray, List.set_cons_zero, List.set_cons_succ, Array.getD_eq_getD_getElem?, List.getElem?_toArray, List.getElem?_cons_zero, List.getElem?_cons_succ, Option.getD_some, List.getElem_toArray, List.getElem_cons_succ, List.getElem_cons_zero]; with_reducible rfl))
                    apply ord_pure rfl rfl rfl; (· (intro w; go_simp; with_reducible rfl)); (· (simp only [Act.put, Act.eval, List.setIfInBounds_toArray, List.set_cons_zero, List.set_cons_succ, Array.getD_eq_getD_getElem?, List.getElem?_toArray, List.getElem?_cons_zero, List.getElem?_cons_succ, Option.getD_some, List.getElem_toArray, List.getElem_cons_succ, List.getElem_cons_zero]; with_reducible rfl))
                    apply ord_pure rfl rfl rfl; (· (intro w; go_simp; with_reducible rfl)); (· (simp only [Act.put, Act.eval, List.setIfInBounds_toArray, List.set_cons_zero, List.set_cons_succ, Array.getD_eq_getD_getElem?, List.getElem?_toArray, List.getElem?_cons_zero, List.getElem?_cons_succ, Option.getD_some, List.getElem_toArray, List.getElem_cons_succ, List.getElem_cons_zero]; with_reducible rfl))
                    apply ord_pure rfl rfl rfl; (· (intro w; go_simp; with_reducible rfl)); (· (simp only [Act.put, Act.eval, List.setIfInBounds_toArray, List.set_cons_zero, List.set_cons_succ, Array.getD_eq_getD_getElem?, List.getElem?_toArray, List.getElem?_cons_zero, List.getElem?_cons_succ, Option.getD_some, List.getElem_toArray, List.getElem_cons_succ, List.getElem_cons_zero]; with_reducible rfl))
                    apply ord_pure rfl rfl rfl; (· (intro w; go_simp; with_reducible rfl)); (· (simp only [Act.put, Act.eval, List.setIfInBounds_toArray, List.set_cons_zero, List.set_cons_succ, Array.getD_eq_getD_getElem?, List.getElem?_toArray, List.getElem?_cons_zero, List.getElem?_cons_succ, Option.getD_some, List.getElem_toArray, List.getElem_cons_succ, List.getElem_cons_zero]; with_reducible rfl))
                    apply ord_read rfl rfl rfl; (· (intro W hW; have g0 := cell_up hW A0; have g1 := cell_up hW A1; have g2 := cell_up hW A2; have g3 := cell_up hW c0; have g4 := cell_up hW c1; have g5 := cell_up hW c2; go_simp; with_reducible rfl)); (· (simp only [Act.put, Act.eval, List.setIfInBounds_toArray, List.set_cons_zero, List.set_cons_succ, Array.getD_eq_getD_getElem?, List.getElem?_toArray, List.getElem?_cons_zero, List.getElem?_cons_succ, Option.getD_some, List.getElem_toArray, List.getElem_cons_succ, List.getElem_cons_zero]; with_reducible rfl))
                    apply ord_pure rfl rfl rfl; (· (intro w; go_simp; with_reducible rfl)); (· (simp only [Act.put, Act.eval, List.setIfInBounds_toArray, List.set_cons_zero, List.set_cons_succ, Array.getD_eq_getD_getElem?, List.getElem?_toArray, List.getElem?_cons_zero, List.getElem?_cons_succ, Option.getD_some, List.getElem_toArray, List.getElem_cons_succ, List.getElem_cons_zero]; with_reducible rfl))
                    apply ord_pure rfl rfl rfl; (· (intro w; go_simp; with_reducible rfl)); (· (simp only [Act.put, Act.eval, List.setIfInBounds_toArray, List.set_cons_zero, List.set_cons_succ, Array.getD_eq_getD_getElem?, List.getElem?_toArray, List.getElem?_cons_zero, List.getElem?_cons_succ, Option.getD_some, List.getElem_toArray, List.getElem_cons_succ, List.getElem_cons_zero]; with_reducible rfl))
                    refine ord_call rfl rfl rfl (by go_simp; exact ⟨rfl, rfl⟩) ?_
                    refine ((show Calls Try.prog 15 #[.pointer (some ⟨xb, 0, none⟩), .agg #[.bool x.v6, .int .u64 x.hi, .int .u64 x.lo], .string zone, .int .i64 now] _ _ from Lame_P (a := x) hR21.out.inf hxok zone hz now)).mono ?_
                    rw [hlx]
                    rintro e w22 ⟨rfl, hb22⟩
                    refine ⟨_, rfl, hb22, ?_⟩
                    have hR22 := Lib.hid (hR21.out.read hb22)
                    replace A0 := (hb22.cell (World.block_lt_of_cell? _ _ A0)).trans A0
                    replace A1 := (hb22.cell (World.block_lt_of_cell? _ _ A1)).trans A1
                    replace A2 := (hb22.cell (World.block_lt_of_cell? _ _ A2)).trans A2
                    replace c0 := (hb22.cell (World.block_lt_of_cell? _ _ c0)).trans c0
                    replace c1 := (hb22.cell (World.block_lt_of_cell? _ _ c1)).trans c1
                    replace c2 := (hb22.cell (World.block_lt_of_cell? _ _ c2)).trans c2
                    simp only [Act.put, Act.eval, List.setIfInBounds_toArray, List.set_cons_zero, List.set_cons_succ, Array.getD_eq_getD_getElem?, List.getElem?_toArray, List.getElem?_cons_zero, List.getElem?_cons_succ, Option.getD_some, List.getElem_toArray, List.getElem_cons_succ, List.getElem_cons_zero]
                    apply ord_pure rfl rfl rfl; (· (intro w; go_simp; with_reducible rfl)); (· (simp only [Act.put, Act.eval, List.setIfInBounds_toArray, List.set_cons_zero, List.set_cons_succ, Array.getD_eq_getD_getElem?, List.getElem?_toArray, List.getElem?_cons_zero, List.getElem?_cons_succ, Option.getD_some, List.getElem_toArray, List.getElem_cons_succ, List.getElem_cons_zero]; with_reducible rfl))
                    apply ord_pure rfl rfl rfl; (· (intro w; go_simp; with_reducible rfl)); (· (simp only [Act.put, Act.eval, List.setIfInBounds_toArray, List.set_cons_zero, List.set_cons_succ, Array.getD_eq_getD_getElem?, List.getElem?_toArray, List.getElem?_cons_zero, List.getElem?_cons_succ, Option.getD_some, List.getElem_toArray, List.getElem_cons_succ, List.getElem_cons_zero]; with_reducible rfl))
                    apply ord_move rfl rfl rfl rfl; (· (simp only [Act.put, Act.eval, List.setIfInBounds_toArray, List.set_cons_zero, List.set_cons_succ, Array.getD_eq_getD_getElem?, List.getElem?_toArray, List.getElem?_cons_zero, List.getElem?_cons_succ, Option.getD_some, List.getElem_toArray, List.getElem_cons_succ, List.getElem_cons_zero]; with_reducible rfl))
                    apply ord_skip rfl rfl; (· (simp only [Act.put, Act.eval, List.setIfInBounds_toArray, List.set_cons_zero, List.set_cons_succ, Array.getD_eq_getD_getElem?, List.getElem?_toArray, List.getElem?_cons_zero, List.getElem?_cons_succ, Option.getD_some, List.getElem_toArray, List.getElem_cons_succ, List.getElem_cons_zero]; with_reducible rfl))
                    apply ord_skip rfl rfl; (· (simp only [Act.put, Act.eval, List.setIfInBounds_toArray, List.set_cons_zero, List.set_cons_succ, Array.getD_eq_getD_getElem?, List.getElem?_toArray, List.getElem?_cons_zero, List.getElem?_cons_succ, Option.getD_some, List.getElem_toArray, List.getElem_cons_succ, List.getElem_cons_zero]; with_reducible rfl))
                    apply ord_skip rfl rfl; (· (simp only [Act.put, Act.eval, List.setIfInBounds_toArray, List.set_cons_zero, List.set_cons_succ, Array.getD_eq_getD_getElem?, List.getElem?_toArray, List.getElem?_cons_zero, List.getElem?_cons_succ, Option.getD_some, List.getElem_toArray, List.getElem_cons_succ, List.getElem_cons_zero]; with_reducible rfl))
                    apply ord_skip rfl rfl; (· (simp only [Act.put, Act.eval, List.setIfInBounds_toArray, List.set_cons_zero, List.set_cons_succ, Array.getD_eq_getD_getElem?, List.getElem?_toArray, List.getElem?_cons_zero, List.getElem?_cons_succ, Option.getD_some, List.getElem_toArray, List.getElem_cons_succ, List.getElem_cons_zero]; with_reducible rfl))
                    apply ord_skip rfl rfl; (· (simp only [Act.put, Act.eval, List.setIfInBounds_toArray, List.set_cons_zero, List.set_cons_succ, Array.getD_eq_getD_getElem?, List.getElem?_toArray, List.getElem?_cons_zero, List.getElem?_cons_succ, Option.getD_some, List.getElem_toArray, List.getElem_cons_succ, List.getElem_cons_zero]; with_reducible rfl))
                    apply ord_skip rfl rfl; (· (simp only [Act.put, Act.eval, List.setIfInBounds_toArray, List.set_cons_zero, List.set_cons_succ, Array.getD_eq_getD_getElem?, List.getElem?_toArray, List.getElem?_cons_zero, List.getElem?_cons_succ, Option.getD_some, List.getElem_toArray, List.getElem_cons_succ, List.getElem_cons_zero]; with_reducible rfl))
                    apply ord_skip rfl rfl; (· (simp only [Act.put, Act.eval, List.setIfInBounds_toArray, List.set_cons_zero, List.set_cons_succ, Array.getD_eq_getD_getElem?, List.getElem?_toArray, List.getElem?_cons_zero, List.getElem?_cons_succ, Option.getD_some, List.getElem_toArray, List.getElem_cons_succ, List.getElem_cons_zero]; with_reducible rfl))
                    apply ord_skip rfl rfl; (· (simp only [Act.put, Act.eval, List.setIfInBounds_toArray, List.set_cons_zero, List.set_cons_succ, Array.getD_eq_getD_getElem?, List.getElem?_toArray, List.getElem?_cons_zero, List.getElem?_cons_succ, Option.getD_some, List.getElem_toArray, List.getElem_cons_succ, List.getElem_cons_zero]; with_reducible rfl))
                    apply ord_skip rfl rfl; (· (simp only [Act.put, Act.eval, List.setIfInBounds_toArray, List.set_cons_zero, List.set_cons_succ, Array.getD_eq_getD_getElem?, List.getElem?_toArray, List.getElem?_cons_zero, List.getElem?_cons_succ, Option.getD_some, List.getElem_toArray, List.getElem_cons_succ, List.getElem_cons_zero]; with_reducible rfl))
                    apply ord_skip rfl rfl; (· (simp only [Act.put, Act.eval, List.setIfInBounds_toArray, List.set_cons_zero, List.set_cons_succ, Array.getD_eq_getD_getElem?, List.getElem?_toArray, List.getElem?_cons_zero, List.getElem?_cons_succ, Option.getD_some, List.getElem_toArray, List.getElem_cons_succ, List.getElem_cons_zero]; with_reducible rfl))
                    apply ord_skip rfl rfl; (· (simp only [Act.put, Act.eval, List.setIfInBounds_toArray, List.set_cons_zero, List.set_cons_succ, Array.getD_eq_getD_getElem?, List.getElem?_toArray, List.getElem?_cons_zero, List.getElem?_cons_succ, Option.getD_some, List.getElem_toArray, List.getElem_cons_succ, List.getElem_cons_zero]; with_reducible rfl))
                    apply ord_pure rfl rfl rfl; (· (intro w; go_simp; with_reducible rfl)); (· (simp only [Act.put, Act.eval, List.setIfInBounds_toArray, List.set_cons_zero, List.set_cons_succ, Array.getD_eq_getD_getElem?, List.getElem?_toArray, List.getElem?_cons_zero, List.getElem?_cons_succ, Option.getD_some, List.getElem_toArray, List.getElem_cons_succ, List.getElem_cons_zero]; with_reducible rfl))
                    with_reducible refine ord_nil ?_
                    go_wp2_with fail
                    go_roundw
                    case rel => exact ⟨j + 1, t2, by first | rfl | go_num, rfl, by omega, Lib.hid (by rw [htake.out, ← htH.out, ht2H.out]; rfl), hR22⟩
                    case measure => first | (simp [intOf]; done) | (simp [intOf]; omega)
                  | false =>
                    have hT := hmin.out x (hxH.out ▸ ga_mem hjl) hrx hlx
                    have hTx := toP_bd ((st x).getD zeroP)
                    obtain ⟨T1, hT1⟩ : ∃ y, toP ((st ca).getD zeroP) = y := ⟨_, rfl⟩
                    obtain ⟨T2, hT2⟩ : ∃ y, toP ((st x).getD zeroP) = y := ⟨_, rfl⟩
                    rw [hT1, hT2] at hT
                    rw [hT2] at hTx
                    have hT1H := Lib.hid hT1
                    have hT2H := Lib.hid hT2
                    have hw4 := If.wr (show -9223372036854775808 ≤ T2 + 400 by omega) (by omega)
                    have hgt : ¬ T2 + 400 < T1 := by omega
                    clear hT1 hT2 hT hTx
                    go_upto_region 24 with (fail)
                    obtain ⟨wd2, hwd⟩ : ∃ d, wd.drew = d := ⟨_, rfl⟩
                    have hbd : Below wd.heap.size wd wd2 := by rw [← hwd]; exact (Below.refl _ _).drew
                    replace A0 := (hbd.cell (World.block_lt_of_cell? _ _ A0)).trans A0
                    replace A1 := (hbd.cell (World.block_lt_of_cell? _ _ A1)).trans A1
                    replace A2 := (hbd.cell (World.block_lt_of_cell? _ _ A2)).trans A2
                    replace c0 := (hbd.cell (World.block_lt_of_cell? _ _ c0)).trans c0
                    replace c1 := (hbd.cell (World.block_lt_of_cell? _ _ c1)).trans c1
                    replace c2 := (hbd.cell (World.block_lt_of_cell? _ _ c2)).trans c2
                    have hR20 := Lib.hid (hRj.out.read hbd)
                    clear hRj hbd
                    refine Rt.wp_region_ordM [0, 0, 0, 1, 2, 0, 0, 0, 0, 0, 1, 0, 0, 2, 0, 0, 0, 0, 1, 2, 0, 0, 0, 0, 1, 2, 0, 0, 0] [0, 1, 2, 3, 4, 5, 6, 7, 8, 9, 10, 11, 12, 13, 14, 15, 16, 17, 18, 20, 21, 22, 23, 24, 19, 25, 26, 27, 28] (by kernel_rfl) (by kernel_rfl) ?_
                    rw [hwd]
                    clear hwd
                    apply ord_move rfl rfl rfl rfl; (· (simp only [Act.put, Act.eval, List.setIfInBounds_toArray, List.set_cons_zero, List.set_cons_succ, Array.getD_eq_getD_getElem?, List.getElem?_toArray, List.getElem?_cons_zero, List.getElem?_cons_succ, Option.getD_some, List.getElem_toArray, List.getElem_cons_succ, List.getElem_cons_zero]; with_reducible rfl))
                    apply ord_move rfl rfl rfl rfl; (· (simp only [Act.put, Act.eval, List.setIfInBounds_toArray, List.set_cons_zero, List.set_cons_succ, Array.getD_eq_getD_getElem?, List.getElem?_toArray, List.getElem?_cons_zero, List.getElem?_cons_succ, Option.getD_some, List.getElem_toArray, List.getElem_cons_succ, List.getElem_cons_zero]; with_reducible rfl))
                    apply ord_pure rfl rfl rfl; (· (intro w; go_simp; with_reducible rfl)); (· (simp only [Act.put, Act.eval, List.setIfInBounds_toArray, List.set_cons_zero, List.set_cons_succ, Array.getD_eq_getD_getElem?, List.getElem?_toArray, List.getElem?_cons_zero, List.getElem?_cons_succ, Option.getD_some, List.getElem_toArray, List.getElem_cons_succ, List.getElem_cons_zero]; with_reducible rfl))
                    apply ord_read rfl rfl rfl; (· (intro W hW; have g0 := cell_up hW A0; have g1 := cell_up hW A1; have g2 := cell_up hW A2; have g3 := cell_up hW c0; have g4 := cell_up hW c1; have g5 := cell_up hW c2; go_simp; with_reducible rfl)); (· (simp only [Act.put, Act.eval, List.setIfInBounds_toArray, List.set_cons_zero, List.set_cons_succ, Array.getD_eq_getD_getElem?, List.getElem?_toArray, List.getElem?_cons_zero, List.getElem?_cons_succ, Option.getD_some, List.getElem_toArray, List.getElem_cons_succ, List.getElem_cons_zero]; with_reducible rfl))
                    refine ord_call rfl rfl rfl (by go_simp; exact ⟨rfl, rfl⟩) ?_
                    refine ((show Calls Try.prog 14 #[.agg #[.bool x.v6, .int .u64 x.hi, .int .u64 x.lo]] _ _ from RightA_any _ x hxok)).mono ?_
                    rw [hrx]
                    rintro e w21 ⟨rfl, hb21⟩
                    refine ⟨_, rfl, hb21, ?_⟩
                    have hR21 := Lib.hid (hR20.out.read hb21)
                    replace A0 := (hb21.cell (World.block_lt_of_cell? _ _ A0)).trans A0
                    replace A1 := (hb21.cell (World.block_lt_of_cell? _ _ A1)).trans A1
                    replace A2 := (hb21.cell (World.block_lt_of_cell? _ _ A2)).trans A2
                    replace c0 := (hb21.cell (World.block_lt_of_cell? _ _ c0)).trans c0
                    replace c1 := (hb21.cell (World.block_lt_of_cell? _ _ c1)).trans c1
                    replace c2 := (hb21.cell (World.block_lt_of_cell? _ _ c2)).trans c2
                    simp only [Act.put, Act.eval, List.setIfInBounds_toArray, List.set_cons_zero, List.set_cons_succ, Array.getD_eq_getD_getElem?, List.getElem?_toArray, List.getElem?_cons_zero, List.getElem?_cons_succ, Option.getD_some, List.getElem_toArray, List.getElem_cons_succ, List.getElem_cons_zero]
                    apply ord_move rfl rfl rfl rfl; (· (simp only [Act.put, Act.eval, List.setIfInBounds_toArray, List.set_cons_zero, List.set_cons_succ, Array.getD_eq_getD_getElem?, List.getElem?_toArray, List.getElem?_cons_zero, List.getElem?_cons_succ, Option.getD_some, List.getElem_toArray, List.getElem_cons_succ, List.getElem_cons_zero]; with_reducible rfl))
                    apply ord_pure rfl rfl rfl; (· (intro w; go_simp; with_reducible rfl)); (· (simp only [Act.put, Act.eval, List.setIfInBounds_toArray, List.set_cons_zero, List.set_cons_succ, Array.getD_eq_getD_getElem?, List.getElem?_toArray, List.getElem?_cons_zero, List.getElem?_cons_succ, Option.getD_some, List.getElem_toArray, List.getElem_cons_succ, List.getElem_cons_zero]; with_reducible rfl))
                    apply ord_pure rfl rfl rfl; (· (intro w; go_simp; with_reducible rfl)); (· (simp only [Act.put, Act.eval, List.setIfInBounds_toArray, List.set_cons_zero, List.set_cons_succ, Array.getD_eq_getD_getElem?, List.getElem?_toArray, List.getElem?_cons_zero, List.getElem?_cons_succ, Option.getD_some, List.getElem_toArray, List.getElem_cons_succ, List.getElem_cons_zero]; with_reducible rfl))
                    apply ord_pure rfl rfl rfl; (· (intro w; go_simp; with_reducible rfl)); (· (simp only [Act.put, Act.eval, List.setIfInBounds_toArray, List.set_cons_zero, List.set_cons_succ, Array.getD_eq_getD_getElem?, List.getElem?_toArray, List.getElem?_cons_zero, List.getElem?_cons_succ, Option.getD_some, List.getElem_toArray, List.getElem_cons_succ, List.getElem_cons_zero]; with_reducible rfl))
                    apply ord_pure rfl rfl rfl; (· (intro w; go_simp; with_reducible rfl)); (· (simp only [Act.put, Act.eval, List.setIfInBounds_toArray, List.set_cons_zero, List.set_cons_succ, Array.getD_eq_getD_getElem?, List.getElem?_toArray, List.getElem?_cons_zero, List.getElem?_cons_succ, Option.getD_some, List.getElem_toArray, List.getElem_cons_succ, List.getElem_cons_zero]; with_reducible rfl))
                    apply ord_read rfl rfl rfl; (· (intro W hW; have g0 := cell_up hW A0; have g1 := cell_up hW A1; have g2 := cell_up hW A2; have g3 := cell_up hW c0; have g4 := cell_up hW c1; have g5 := cell_up hW c2; go_simp; with_reducible rfl)); (· (simp only [Act.put, Act.eval, List.setIfInBounds_toArray, List.set_cons_zero, List.set_cons_succ, Array.getD_eq_getD_getElem?, List.getElem?_toArray, List.getElem?_cons_zero, List.getElem?_cons_succ, Option.getD_some, List.getElem_toArray, List.getElem_cons_succ, List.getElem_cons_zero]; with_reducible rfl))
                    apply ord_pure rfl rfl rfl; (· (intro w; go_simp; with_reducible rfl)); (· (simp only [Act.put, Act.eval, List.setIfInBounds_toArray, List.set_cons_zero, List.set_cons_succ, Array.getD_eq_getD_getElem?, List.getElem?_toArray, List.getElem?_cons_zero, List.getElem?_cons_succ, Option.getD_some, List.getElem_toArray, List.getElem_cons_succ, List.getElem_cons_zero]; with_reducible rfl))
                    apply ord_pure rfl rfl rfl; (· (intro w; go_simp; with_reducible rfl)); (· (simp only [Act.put, Act.eval, List.setIfInBounds_toArray, List.set_cons_zero, List.set_cons_succ, Array.getD_eq_getD_getElem?, List.getElem?_toArray, List.getElem?_cons_zero, List.getElem?_cons_succ, Option.getD_some, List.getElem_toArray, List.getElem_cons_succ, List.getElem_cons_zero]; with_reducible rfl))
                    refine ord_call rfl rfl rfl (by go_simp; exact ⟨rfl, rfl⟩) ?_
                    refine ((show Calls Try.prog 15 #[.pointer (some ⟨xb, 0, none⟩), .agg #[.bool x.v6, .int .u64 x.hi, .int .u64 x.lo], .string zone, .int .i64 now] _ _ from Lame_P (a := x) hR21.out.inf hxok zone hz now)).mono ?_
                    rw [hlx]
                    rintro e w22 ⟨rfl, hb22⟩
                    refine ⟨_, rfl, hb22, ?_⟩
                    have hR22 := Lib.hid (hR21.out.read hb22)
                    replace A0 := (hb22.cell (World.block_lt_of_cell? _ _ A0)).trans A0
                    replace A1 := (hb22.cell (World.block_lt_of_cell? _ _ A1)).trans A1
                    replace A2 := (hb22.cell (World.block_lt_of_cell? _ _ A2)).trans A2
                    replace c0 := (hb22.cell (World.block_lt_of_cell? _ _ c0)).trans c0
                    replace c1 := (hb22.cell (World.block_lt_of_cell? _ _ c1)).trans c1
                    replace c2 := (hb22.cell (World.block_lt_of_cell? _ _ c2)).trans c2
                    simp only [Act.put, Act.eval, List.setIfInBounds_toArray, List.set_cons_zero, List.set_cons_succ, Array.getD_eq_getD_getElem?, List.getElem?_toArray, List.getElem?_cons_zero, List.getElem?_cons_succ, Option.getD_some, List.getElem_toArray, List.getElem_cons_succ, List.getElem_cons_zero]
                    apply ord_pure rfl rfl rfl; (· (intro w; go_simp; with_reducible rfl)); (· (simp only [Act.put, Act.eval, List.setIfInBounds_toArray, List.set_cons_zero, List.set_cons_succ, Array.getD_eq_getD_getElem?, List.getElem?_toArray, List.getElem?_cons_zero, List.getElem?_cons_succ, Option.getD_some, List.getElem_toArray, List.getElem_cons_succ, List.getElem_cons_zero]; with_reducible rfl))
                    apply ord_pure rfl rfl rfl; (· (intro w; go_simp; with_reducible rfl)); (· (simp only [Act.put, Act.eval, List.setIfInBounds_toArray, List.set_cons_zero, List.set_cons_succ, Array.getD_eq_getD_getElem?, List.getElem?_toArray, List.getElem?_cons_zero, List.getElem?_cons_succ, Option.getD_some, List.getElem_toArray, List.getElem_cons_succ, List.getElem_cons_zero]; with_reducible rfl))
                    apply ord_move rfl rfl rfl rfl; (· (simp only [Act.put, Act.eval, List.setIfInBounds_toArray, List.set_cons_zero, List.set_cons_succ, Array.getD_eq_getD_getElem?, List.getElem?_toArray, List.getElem?_cons_zero, List.getElem?_cons_succ, Option.getD_some, List.getElem_toArray, List.getElem_cons_succ, List.getElem_cons_zero]; with_reducible rfl))
                    apply ord_pure rfl rfl rfl; (· (intro w; go_simp; with_reducible rfl)); (· (simp only [Act.put, Act.eval, List.setIfInBounds_toArray, List.set_cons_zero, List.set_cons_succ, Array.getD_eq_getD_getElem?, List.getElem?_toArray, List.getElem?_cons_zero, List.getElem?_cons_succ, Option.getD_some, List.getElem_toArray, List.getElem_cons_succ, List.getElem_cons_zero]; with_reducible rfl))
                    apply ord_read rfl rfl rfl; (· (intro W hW; have g0 := cell_up hW A0; have g1 := cell_up hW A1; have g2 := cell_up hW A2; have g3 := cell_up hW c0; have g4 := cell_up hW c1; have g5 := cell_up hW c2; go_simp; with_reducible rfl)); (· (simp only [Act.put, Act.eval, List.setIfInBounds_toArray, List.set_cons_zero, List.set_cons_succ, Array.getD_eq_getD_getElem?, List.getElem?_toArray, List.getElem?_cons_zero, List.getElem?_cons_succ, Option.getD_some, List.getElem_toArray, List.getElem_cons_succ, List.getElem_cons_zero]; with_reducible rfl))
                    apply ord_pure rfl rfl rfl; (· (intro w; go_simp; with_reducible rfl)); (· (simp only [Act.put, Act.eval, List.setIfInBounds_toArray, List.set_cons_zero, List.set_cons_succ, Array.getD_eq_getD_getElem?, List.getElem?_toArray, List.getElem?_cons_zero, List.getElem?_cons_succ, Option.getD_some, List.getElem_toArray, List.getElem_cons_succ, List.getElem_cons_zero]; with_reducible rfl))
                    apply ord_pure rfl rfl rfl; (· (intro w; go_simp; with_reducible rfl)); (· (simp only [Act.put, Act.eval, List.setIfInBounds_toArray, List.set_cons_zero, List.set_cons_succ, Array.getD_eq_getD_getElem?, List.getElem?_toArray, List.getElem?_cons_zero, List.getElem?_cons_succ, Option.getD_some, List.getElem_toArray, List.getElem_cons_succ, List.getElem_cons_zero]; with_reducible rfl))
                    apply ord_pure rfl rfl rfl; (· (intro w; go_simp; with_reducible rfl)); (· (simp only [Act.put, Act.eval, List.setIfInBounds_toArray, List.set_cons_zero, List.set_cons_succ, Array.getD_eq_getD_getElem?, List.getElem?_toArray, List.getElem?_cons_zero, List.getElem?_cons_succ, Option.getD_some, List.getElem_toArray, List.getElem_cons_succ, List.getElem_cons_zero]; with_reducible rfl))
                    apply ord_pure rfl rfl rfl; (· (intro w; go_simp; with_reducible rfl)); (· (simp only [Act.put, Act.eval, List.setIfInBounds_toArray, List.set_cons_zero, List.set_cons_succ, Array.getD_eq_getD_getElem?, List.getElem?_toArray, List.getElem?_cons_zero, List.getElem?_cons_succ, Option.getD_some, List.getElem_toArray, List.getElem_cons_succ, List.getElem_cons_zero]; with_reducible rfl))
                    apply ord_read rfl rfl rfl; (· (intro W hW; have g0 := cell_up hW A0; have g1 := cell_up hW A1; have g2 := cell_up hW A2; have g3 := cell_up hW c0; have g4 := cell_up hW c1; have g5 := cell_up hW c2; go_simp; with_reducible rfl)); (· (simp only [Act.put, Act.eval, List.setIfInBounds_toArray, List.set_cons_zero, List.set_cons_succ, Array.getD_eq_getD_getElem?, List.getElem?_toArray, List.getElem?_cons_zero, List.getElem?_cons_succ, Option.getD_some, List.getElem_toArray, List.getElem_cons_succ, List.getElem_cons_zero]; with_reducible rfl))
                    refine ord_call rfl rfl rfl (by go_simp; exact ⟨rfl, rfl⟩) ?_
                    refine ((show Calls Try.prog 16 #[.pointer (some ⟨xb, 0, none⟩), .agg #[.bool ca.v6, .int .u64 ca.hi, .int .u64 ca.lo]] _ _ from Timeout_P (a := ca) hR22.out.inf hcaok)).mono ?_
                    rw [hT1H.out]
                    rintro e w23 ⟨rfl, hb23⟩
                    refine ⟨_, rfl, hb23, ?_⟩
                    have hR23 := Lib.hid (hR22.out.read hb23)
                    replace A0 := (hb23.cell (World.block_lt_of_cell? _ _ A0)).trans A0
                    replace A1 := (hb23.cell (World.block_lt_of_cell? _ _ A1)).trans A1
                    replace A2 := (hb23.cell (World.block_lt_of_cell? _ _ A2)).trans A2
                    replace c0 := (hb23.cell (World.block_lt_of_cell? _ _ c0)).trans c0
                    replace c1 := (hb23.cell (World.block_lt_of_cell? _ _ c1)).trans c1
                    replace c2 := (hb23.cell (World.block_lt_of_cell? _ _ c2)).trans c2
                    simp only [Act.put, Act.eval, List.setIfInBounds_toArray, List.set_cons_zero, List.set_cons_succ, Array.getD_eq_getD_getElem?, List.getElem?_toArray, List.getElem?_cons_zero, List.getElem?_cons_succ, Option.getD_some, List.getElem_toArray, List.getElem_cons_succ, List.getElem_cons_zero]
                    refine ord_call rfl rfl rfl (by go_simp; exact ⟨rfl, rfl⟩) ?_
                    refine ((show Calls Try.prog 16 #[.pointer (some ⟨xb, 0, none⟩), .agg #[.bool x.v6, .int .u64 x.hi, .int .u64 x.lo]] _ _ from Timeout_P (a := x) hR23.out.inf hxok)).mono ?_
                    rw [hT2H.out]
                    rintro e w24 ⟨rfl, hb24⟩
                    refine ⟨_, rfl, hb24, ?_⟩
                    have hR24 := Lib.hid (hR23.out.read hb24)
                    replace A0 := (hb24.cell (World.block_lt_of_cell? _ _ A0)).trans A0
                    replace A1 := (hb24.cell (World.block_lt_of_cell? _ _ A1)).trans A1
                    replace A2 := (hb24.cell (World.block_lt_of_cell? _ _ A2)).trans A2
                    replace c0 := (hb24.cell (World.block_lt_of_cell? _ _ c0)).trans c0
                    replace c1 := (hb24.cell (World.block_lt_of_cell? _ _ c1)).trans c1
                    replace c2 := (hb24.cell (World.block_lt_of_cell? _ _ c2)).trans c2
                    simp only [Act.put, Act.eval, List.setIfInBounds_toArray, List.set_cons_zero, List.set_cons_succ, Array.getD_eq_getD_getElem?, List.getElem?_toArray, List.getElem?_cons_zero, List.getElem?_cons_succ, Option.getD_some, List.getElem_toArray, List.getElem_cons_succ, List.getElem_cons_zero]
                    apply ord_pure rfl rfl rfl; (· (intro w; go_simp; with_reducible rfl)); (· (simp only [Act.put, Act.eval, List.setIfInBounds_toArray, List.set_cons_zero, List.set_cons_succ, Array.getD_eq_getD_getElem?, List.getElem?_toArray, List.getElem?_cons_zero, List.getElem?_cons_succ, Option.getD_some, List.getElem_toArray, List.getElem_cons_succ, List.getElem_cons_zero]; with_reducible rfl))
                    apply ord_pure rfl rfl rfl; (· (intro w; go_simp; with_reducible rfl)); (· (simp only [Act.put, Act.eval, List.setIfInBounds_toArray, List.set_cons_zero, List.set_cons_succ, Array.getD_eq_getD_getElem?, List.getElem?_toArray, List.getElem?_cons_zero, List.getElem?_cons_succ, Option.getD_some, List.getElem_toArray, List.getElem_cons_succ, List.getElem_cons_zero]; with_reducible rfl))
                    apply ord_pure rfl rfl rfl; (· (intro w; go_simp; with_reducible rfl)); (· (simp only [Act.put, Act.eval, List.setIfInBounds_toArray, List.set_cons_zero, List.set_cons_succ, Array.getD_eq_getD_getElem?, List.getElem?_toArray, List.getElem?_cons_zero, List.getElem?_cons_succ, Option.getD_some, List.getElem_toArray, List.getElem_cons_succ, List.getElem_cons_zero]; with_reducible rfl))
                    with_reducible refine ord_nil ?_
                    go_wp2_with fail
                    go_roundw
                    case rel => exact ⟨j + 1, t2, by first | rfl | go_num, rfl, by omega, Lib.hid (by rw [htake.out, ← htH.out, ht2H.out]; rfl), hR24⟩
                    case measure => first | (simp [intOf]; done) | (simp [intOf]; omega)
            · have hjn : j = nl := by omega
              have htt : t = true := by
                rw [htH.out, hjn, ← hnlH.out, List.take_length]
                exact decide_eq_true hmemH.out
              subst htt
              clear hjn htH
              go_wp2_with fail
              go_loopw [21] (fun vj w8 => ∃ (k : Nat), vj = .int .i64 k ∧ k ≤ nb ∧ Hid (CR w w8 xb st m ab ca (.slice ba nb bc) bl)) (fun vj _ => nb - (intOf vj).toNat)
              case atStart => exact ⟨0, rfl, Nat.zero_le _, hRj⟩
              case round =>
                obtain ⟨k, rfl, hk, hRk⟩ := hrel
                clear hRj A0 A1 A2
                by_cases hlk : (k : Int) < nb
                · have hkn : k < nb := by omega
                  have hlen2 := hblen.out
                  have hnl2 := hnlH.out
                  have hll' := hll.out
                  have hCh := Lib.hid (Choose_P hRk.out.inf (hvH.out.below hRk.out.bel) hokH.out hlH.out zone hz (k : Int) now ⟨by omega, by omega⟩)
                  rw [hat.out k hkn] at hCh
                  simp only at hCh
                  have hkb : k < 5864062014720 := by omega
                  clear hlen2 hnl2
                  obtain ⟨y, hy⟩ : ∃ y, ga bl k = y := ⟨_, rfl⟩
                  rw [hy] at hCh
                  have hg3 := adC_get bl k (by rw [hnbH.out]; exact hkn)
                  rw [Nat.mul_comm 3 k, hy] at hg3
                  have hg3H := Lib.hid hg3
                  clear hg3 hy
                  go_wp2_with fail
                  refine hCh.out.mono ?_
                  rintro e w5 ⟨rfl, hb5⟩
                  have hR5 := Lib.hid (hRk.out.read hb5)
                  clear hCh hb5 hRk
                  go_upto_region 30 with (fail)
                  obtain ⟨w6, hw6⟩ : ∃ x, w5.alloc (.cells #[.bool y.v6, .int .u64 y.hi, .int .u64 y.lo] 31) = x := ⟨_, rfl⟩
                  have hb6 : Below w5.heap.size w5 w6 := by rw [← hw6]; exact (Below.refl _ _).alloc (Nat.le_refl _) _
                  have hA6 : Box3 w6 w5.heap.size (.bool y.v6) (.int .u64 y.hi) (.int .u64 y.lo) := by rw [← hw6]; exact Box3.new _ _ _ _
                  have hRj := Lib.hid (hR5.out.read hb6)
                  rw [hw6]
                  obtain ⟨yb, hyb⟩ : ∃ x, w5.heap.size = x := ⟨_, rfl⟩
                  rw [hyb] at hA6 ⊢
                  obtain ⟨A0, A1, A2⟩ := hA6.cells
                  obtain ⟨ba', bc', hbe, hcl3⟩ := hRj.out.row
                  cases hbe
                  obtain ⟨b3, off3, rfl, hb3l, hcl4⟩ := hcl3 (by rw [hnbH.out]; omega)
                  have c0 := hcl4 _ _ hg3H.out.1
                  have c1 := hcl4 _ _ hg3H.out.2.1
                  have c2 := hcl4 _ _ hg3H.out.2.2
                  rw [← Nat.add_assoc] at c1 c2
                  clear hw6 hb6 hA6 hR5 hyb hcl3 hcl4 hb3l hg3H
                  go_upto_region 30 with (fail)
                  obtain ⟨wd, hwd⟩ : ∃ d, w6.drew = d := ⟨_, rfl⟩
                  have hbd : Below w6.heap.size w6 wd := by rw [← hwd]; exact (Below.refl _ _).drew
                  replace A0 := (hbd.cell (World.block_lt_of_cell? _ _ A0)).trans A0
                  replace A1 := (hbd.cell (World.block_lt_of_cell? _ _ A1)).trans A1
                  replace A2 := (hbd.cell (World.block_lt_of_cell? _ _ A2)).trans A2
                  replace c0 := (hbd.cell (World.block_lt_of_cell? _ _ c0)).trans c0
                  replace c1 := (hbd.cell (World.block_lt_of_cell? _ _ c1)).trans c1
                  replace c2 := (hbd.cell (World.block_lt_of_cell? _ _ c2)).trans c2
                  have hR2 := Lib.hid (hRj.out.read hbd)
                  clear hbd hRj
                  refine Rt.wp_region_ordM [0, 0, 0, 1, 0, 0, 0, 1, 0, 0] [0, 1, 2, 3, 4, 5, 6, 7, 8, 9] (by kernel_rfl) (by kernel_rfl) ?_
                  rw [hwd]
                  clear hwd
                  apply ord_move rfl rfl rfl rfl; (· (simp only [Act.put, Act.eval, List.setIfInBounds_toArray, List.set_cons_zero, List.set_cons_succ, Array.getD_eq_getD_getElem?, List.getElem?_toArray, List.getElem?_cons_zero, List.getElem?_cons_succ, Option.getD_some, List.getElem_toArray, List.getElem_cons_succ, List.getElem_cons_zero]; with_reducible rfl))
                  apply ord_pure rfl rfl rfl; (· (intro w; go_simp; with_reducible rfl)); (· (simp only [Act.put, Act.eval, List.setIfInBounds_toArray, List.set_cons_zero, List.set_cons_succ, Array.getD_eq_getD_getElem?, List.getElem?_toArray, List.getElem?_cons_zero, List.getElem?_cons_succ, Option.getD_some, List.getElem_toArray, List.getElem_cons_succ, List.getElem_cons_zero]; with_reducible rfl))
                  apply ord_move rfl rfl rfl rfl; (· (simp only [Act.put, Act.eval, List.setIfInBounds_toArray, List.set_cons_zero, List.set_cons_succ, Array.getD_eq_getD_getElem?, List.getElem?_toArray, List.getElem?_cons_zero, List.getElem?_cons_succ, Option.getD_some, List.getElem_toArray, List.getElem_cons_succ, List.getElem_cons_zero]; with_reducible rfl))
                  apply ord_read rfl rfl rfl; (· (intro W hW; have g0 := cell_up hW A0; have g1 := cell_up hW A1; have g2 := cell_up hW A2; have g3 := cell_up hW c0; have g4 := cell_up hW c1; have g5 := cell_up hW c2; go_simp; with_reducible rfl)); (· (simp only [Act.put, Act.eval, List.setIfInBounds_toArray, List.set_cons_zero, List.set_cons_succ, Array.getD_eq_getD_getElem?, List.getElem?_toArray, List.getElem?_cons_zero, List.getElem?_cons_succ, Option.getD_some, List.getElem_toArray, List.getElem_cons_succ, List.getElem_cons_zero]; with_reducible rfl))
                  apply ord_pure rfl rfl rfl; (· (intro w; go_simp; with_reducible rfl)); (· (simp only [Act.put, Act.eval, List.setIfInBounds_toArray, List.set_cons_zero, List.set_cons_succ, Array.getD_eq_getD_getElem?, List.getElem?_toArray, List.getElem?_cons_zero, List.getElem?_cons_succ, Option.getD_some, List.getElem_toArray, List.getElem_cons_succ, List.getElem_cons_zero]; with_reducible rfl))
                  apply ord_pure rfl rfl rfl; (· (intro w; go_simp; with_reducible rfl)); (· (simp only [Act.put, Act.eval, List.setIfInBounds_toArray, List.set_cons_zero, List.set_cons_succ, Array.getD_eq_getD_getElem?, List.getElem?_toArray, List.getElem?_cons_zero, List.getElem?_cons_succ, Option.getD_some, List.getElem_toArray, List.getElem_cons_succ, List.getElem_cons_zero]; with_reducible rfl))
                  apply ord_pure rfl rfl rfl; (· (intro w; go_simp; with_reducible rfl)); (· (simp only [Act.put, Act.eval, List.setIfInBounds_toArray, List.set_cons_zero, List.set_cons_succ, Array.getD_eq_getD_getElem?, List.getElem?_toArray, List.getElem?_cons_zero, List.getElem?_cons_succ, Option.getD_some, List.getElem_toArray, List.getElem_cons_succ, List.getElem_cons_zero]; with_reducible rfl))
                  apply ord_read rfl rfl rfl; (· (intro W hW; have g0 := cell_up hW A0; have g1 := cell_up hW A1; have g2 := cell_up hW A2; have g3 := cell_up hW c0; have g4 := cell_up hW c1; have g5 := cell_up hW c2; go_simp; with_reducible rfl)); (· (simp only [Act.put, Act.eval, List.setIfInBounds_toArray, List.set_cons_zero, List.set_cons_succ, Array.getD_eq_getD_getElem?, List.getElem?_toArray, List.getElem?_cons_zero, List.getElem?_cons_succ, Option.getD_some, List.getElem_toArray, List.getElem_cons_succ, List.getElem_cons_zero]; with_reducible rfl))
                  apply ord_pure rfl rfl rfl; (· (intro w; exact exec_neq_self (x := y) rfl rfl rfl w)); (· (simp only [Act.put, Act.eval, List.setIfInBounds_toArray, List.set_cons_zero, List.set_cons_succ, Array.getD_eq_getD_getElem?, List.getElem?_toArray, List.getElem?_cons_zero, List.getElem?_cons_succ, Option.getD_some, List.getElem_toArray, List.getElem_cons_succ, List.getElem_cons_zero]; with_reducible rfl))
                  apply ord_pure rfl rfl rfl; (· (intro w; go_simp; with_reducible rfl)); (· (simp only [Act.put, Act.eval, List.setIfInBounds_toArray, List.set_cons_zero, List.set_cons_succ, Array.getD_eq_getD_getElem?, List.getElem?_toArray, List.getElem?_cons_zero, List.getElem?_cons_succ, Option.getD_some, List.getElem_toArray, List.getElem_cons_succ, List.getElem_cons_zero]; with_reducible rfl))
                  with_reducible refine ord_nil ?_
                  go_wp2_with fail
                  go_roundw
                  case rel => exact ⟨k + 1, by first | rfl | go_num, by omega, hR2⟩
                  case measure => first | (simp [intOf]; done) | (simp [intOf]; omega)
                · obtain ⟨A0, A1, A2⟩ := hRk.out.A.cells
                  go_wp2_with fail
                  refine (show Calls Try.prog 14 #[.agg #[.bool ca.v6, .int .u64 ca.hi, .int .u64 ca.lo]] _ _ from RightA_any _ ca hcaok).mono ?_
                  rw [hm2H.out]
                  rintro e w5 ⟨rfl, hb5⟩
                  have hR5 := Lib.hid (hRk.out.read hb5)
                  clear hb5 hRk A0 A1 A2
                  obtain ⟨A0, A1, A2⟩ := hR5.out.A.cells
                  go_wp2_with fail
                  refine (show Calls Try.prog 15 #[.pointer (some ⟨xb, 0, none⟩), .agg #[.bool ca.v6, .int .u64 ca.hi, .int .u64 ca.lo], .string zone, .int .i64 now] _ _ from Lame_P (a := ca) hR5.out.inf hcaok zone hz now).mono ?_
                  rw [hm3H.out]
                  rintro e w6 ⟨rfl, hb6⟩
                  have hR6 := Lib.hid (hR5.out.read hb6)
                  clear hb6 hR5 A0 A1 A2
                  go_wp2_with fail
                  go_ret
                  exact ⟨rfl, hR6.out.bel⟩
    · clear hncH hcmH hDH
      have hCh := Lib.hid (Choose_P hS.out.inf (hvH.out.below hS.out.bel) hokH.out hlH.out zone hz draw now hdr)
      have hvW := Lib.hid (hvH.out.below hS.out.bel)
      obtain ⟨⟨ca, cok⟩, hca⟩ : ∃ p, chooseA st zone now l draw = p := ⟨_, rfl⟩
      rw [hca] at hCh
      simp only at hCh
      have hcaH := Lib.hid hca
      clear hca
      go_wp2_with fail
      refine hCh.out.mono ?_
      rintro e w5 ⟨rfl, hb5⟩
      have hS5 := Lib.hid (hS.out.read hb5)
      clear hCh hb5 hS hvW
      go_upto_region 16 with (fail)
      obtain ⟨w6, hw6⟩ : ∃ x, w5.alloc (.cells #[.bool ca.v6, .int .u64 ca.hi, .int .u64 ca.lo] 31) = x := ⟨_, rfl⟩
      have hb6 : Below w5.heap.size w5 w6 := by rw [← hw6]; exact (Below.refl _ _).alloc (Nat.le_refl _) _
      have hA6 : Box3 w6 w5.heap.size (.bool ca.v6) (.int .u64 ca.hi) (.int .u64 ca.lo) := by rw [← hw6]; exact Box3.new _ _ _ _
      have hS6 := Lib.hid (hS5.out.read hb6)
      rw [hw6]
      obtain ⟨ab, hab⟩ : ∃ x, w5.heap.size = x := ⟨_, rfl⟩
      rw [hab] at hA6 ⊢
      have hA6H := Lib.hid hA6
      clear hw6 hb6 hA6 hS5 hab
      have hBd := Lib.hid (Band_P hS6.out.inf (hvH.out.below hS6.out.bel) hokH.out hlH.out zone hz now)
      go_wp2_with fail
      refine hBd.out.mono ?_
      rintro e w7 ⟨vb, rfl, hrow, hb7⟩
      have hrow2 := ArgA.of_row hrow rfl
      obtain ⟨ba, bc, rfl, _⟩ := id hrow2
      have hR7 : Hid (CR w w7 xb st m ab ca (.slice ba (bandL st zone now l).length bc) (bandL st zone now l)) := Lib.hid ⟨hS6.out.inf.read hb7, hS6.out.bel.trans (hb7.mono hS6.out.bel.size), hA6H.out.below hb7, hrow2⟩
      clear hBd hrow hrow2 hb7 hS6 hA6H
      have hnol := Lib.hid (choose_no (st := st) (z := zone) (now := now) (l := l) (draw := draw) (ca := ca))
      have hyes := Lib.hid (choose_yes (st := st) (z := zone) (now := now) (l := l) (draw := draw) (ca := ca))
      have hat := Lib.hid (fun j => choose_at (st := st) (z := zone) (now := now) (l := l) (j := j))
      have hmem := Lib.hid (bandL_mem (st := st) (z := zone) (now := now) (l := l) (a := ca))
      have hblen := Lib.hid (bandL_len st zone now l)
      obtain ⟨bl, hbl⟩ : ∃ x, bandL st zone now l = x := ⟨_, rfl⟩
      rw [hbl] at hR7 hnol hyes hat hmem hblen ⊢
      obtain ⟨nb, hnb⟩ : ∃ x, bl.length = x := ⟨_, rfl⟩
      rw [hnb] at hR7 hnol hat hblen ⊢
      have hnbH := Lib.hid hnb
      clear hbl hnb
      obtain ⟨A0, A1, A2⟩ := hR7.out.A.cells
      cases cok with
      | false =>
        obtain ⟨hz0, hdis⟩ := hnol.out hcaH.out
        subst hz0
        have hd : (nb : Int) = 0 ∨ (¬ (nb : Int) = 0 ∧ draw < 0) := by omega
        clear hdis
        rcases hd with hd | ⟨hd, hd2⟩
        · go_wp2_with fail
          go_ret
          exact ⟨rfl, hR7.out.bel⟩
        · go_wp2_with fail
          go_ret
          exact ⟨rfl, hR7.out.bel⟩
      | true =>
        obtain ⟨hm1, hm2, hm3, hm4⟩ := hmem.out (hyes.out hcaH.out)
        have hmin := Lib.hid hm4
        have hcaok := hokH.out ca hm1
        have hmemH := Lib.hid hm1
        have hm2H := Lib.hid hm2
        have hm3H := Lib.hid hm3
        clear hm1 hm2 hm3 hm4 hnol hyes hmem
        go_wp2_with fail
        go_loopw [19, 20] (fun vt vj wr => ∃ (j : Nat) (t : Bool), vj = .int .i64 j ∧ vt = .bool t ∧ j ≤ nl ∧ Hid (t = decide (ca ∈ l.take j)) ∧ Hid (CR w wr xb st m ab ca (.slice ba nb bc) bl)) (fun _ vj _ => nl - (intOf vj).toNat)
        case atStart => exact ⟨0, false, rfl, rfl, Nat.zero_le _, Lib.hid (by simp), hR7⟩
        case round =>
          obtain ⟨j, t, rfl, rfl, hj, htH, hRj⟩ := hrel
          clear hR7 A0 A1 A2
          obtain ⟨A0, A1, A2⟩ := hRj.out.A.cells
          by_cases hlj : (j : Int) < nl
          · have hjl : j < l.length := by have := hnlH.out; omega
            have hll' := hll.out
            have htake := Lib.hid (take_mem_succ l j hjl ca)
            obtain ⟨b2, off2, rfl, hb2l, hcl2⟩ := hclH.out (by omega)
            obtain ⟨x, hx⟩ : ∃ x, ga l j = x := ⟨_, rfl⟩
            have hxok : x.ok := by rw [← hx]; exact hokH.out _ (ga_mem hjl)
            have hg3 := adC_get l j hjl
            rw [Nat.mul_comm 3 j, hx] at hg3
            rw [hx] at htake
            have hxH := Lib.hid hx
            have hrd : ∀ i u, (adC l)[i]? = some u → wr.cell? ⟨b2, off2 + i, none⟩ = some u := fun i u hi => (hRj.out.bel.cell (p := ⟨b2, off2 + i, none⟩) hb2l).trans (hcl2 i u hi)
            have c0 := hrd _ _ hg3.1
            have c1 := hrd _ _ hg3.2.1
            have c2 := hrd _ _ hg3.2.2
            rw [← Nat.add_assoc] at c1 c2
            have hjj : j < nl := by omega
            clear hrd hg3 hcl2 hx hb2l
            cases t with
            | true =>
              go_upto_region 23 with (fail)
              obtain ⟨wd, hwd⟩ : ∃ d, wr.drew = d := ⟨_, rfl⟩
              have hbd : Below wr.heap.size wr wd := by rw [← hwd]; exact (Below.refl _ _).drew
              replace A0 := (hbd.cell (World.block_lt_of_cell? _ _ A0)).trans A0
              replace A1 := (hbd.cell (World.block_lt_of_cell? _ _ A1)).trans A1
              replace A2 := (hbd.cell (World.block_lt_of_cell? _ _ A2)).trans A2
              replace c0 := (hbd.cell (World.block_lt_of_cell? _ _ c0)).trans c0
              replace c1 := (hbd.cell (World.block_lt_of_cell? _ _ c1)).trans c1
              replace c2 := (hbd.cell (World.block_lt_of_cell? _ _ c2)).trans c2
              have hR2 := Lib.hid (hRj.out.read hbd)
              clear hbd
              refine Rt.wp_region_ordM [0, 0, 0, 0, 0, 1, 1, 0, 0, 0] [0, 1, 2, 3, 4, 5, 6, 7, 8, 9] (by kernel_rfl) (by kernel_rfl) ?_
              rw [hwd]
              clear hwd
              apply ord_move rfl rfl rfl rfl; (· (simp only [Act.put, Act.eval, List.setIfInBounds_toArray, List.set_cons_zero, List.set_cons_succ, Array.getD_eq_getD_getElem?, List.getElem?_toArray, List.getElem?_cons_zero, List.getElem?_cons_succ, Option.getD_some, List.getElem_toArray, List.getElem_cons_succ, List.getElem_cons_zero]; with_reducible rfl))
              apply ord_move rfl rfl rfl rfl; (· (simp only [Act.put, Act.eval, List.setIfInBounds_toArray, List.set_cons_zero, List.set_cons_succ, Array.getD_eq_getD_getElem?, List.getElem?_toArray, List.getElem?_cons_zero, List.getElem?_cons_succ, Option.getD_some, List.getElem_toArray, List.getElem_cons_succ, List.getElem_cons_zero]; with_reducible rfl))
              apply ord_skip rfl rfl; (· (simp only [Act.put, Act.eval, List.setIfInBounds_toArray, List.set_cons_zero, List.set_cons_succ, Array.getD_eq_getD_getElem?, List.getElem?_toArray, List.getElem?_cons_zero, List.getElem?_cons_succ, Option.getD_some, List.getElem_toArray, List.getElem_cons_succ, List.getElem_cons_zero]; with_reducible rfl))
              apply ord_skip rfl rfl; (· (simp only [Act.put, Act.eval, List.setIfInBounds_toArray, List.set_cons_zero, List.set_cons_succ, Array.getD_eq_getD_getElem?, List.getElem?_toArray, List.getElem?_cons_zero, List.getElem?_cons_succ, Option.getD_some, List.getElem_toArray, List.getElem_cons_succ, List.getElem_cons_zero]; with_reducible rfl))
              apply ord_skip rfl rfl; (· (simp only [Act.put, Act.eval, List.setIfInBounds_toArray, List.set_cons_zero, List.set_cons_succ, Array.getD_eq_getD_getElem?, List.getElem?_toArray, List.getElem?_cons_zero, List.getElem?_cons_succ, Option.getD_some, List.getElem_toArray, List.getElem_cons_succ, List.getElem_cons_zero]; with_reducible rfl))
              apply ord_skip rfl rfl; (· (simp only [Act.put, Act.eval, List.setIfInBounds_toArray, List.set_cons_zero, List.set_cons_succ, Array.getD_eq_getD_getElem?, List.getElem?_toArray, List.getElem?_cons_zero, List.getElem?_cons_succ, Option.getD_some, List.getElem_toArray, List.getElem_cons_succ, List.getElem_cons_zero]; with_reducible rfl))
              apply ord_skip rfl rfl; (· (simp only [Act.put, Act.eval, List.setIfInBounds_toArray, List.set_cons_zero, List.set_cons_succ, Array.getD_eq_getD_getElem?, List.getElem?_toArray, List.getElem?_cons_zero, List.getElem?_cons_succ, Option.getD_some, List.getElem_toArray, List.getElem_cons_succ, List.getElem_cons_zero]; with_reducible rfl))
              apply ord_skip rfl rfl; (· (simp only [Act.put, Act.eval, List.setIfInBounds_toArray, List.set_cons_zero, List.set_cons_succ, Array.getD_eq_getD_getElem?, List.getElem?_toArray, List.getElem?_cons_zero, List.getElem?_cons_succ, Option.getD_some, List.getElem_toArray, List.getElem_cons_succ, List.getElem_cons_zero]; with_reducible rfl))
              apply ord_pure rfl rfl rfl; (· (intro w; go_simp; with_reducible rfl)); (· (simp only [Act.put, Act.eval, List.setIfInBounds_toArray, List.set_cons_zero, List.set_cons_succ, Array.getD_eq_getD_getElem?, List.getElem?_toArray, List.getElem?_cons_zero, List.getElem?_cons_succ, Option.getD_some, List.getElem_toArray, List.getElem_cons_succ, List.getElem_cons_zero]; with_reducible rfl))
              apply ord_pure rfl rfl rfl; (· (intro w; go_simp; with_reducible rfl)); (· (simp only [Act.put, Act.eval, List.setIfInBounds_toArray, List.set_cons_zero, List.set_cons_succ, Array.getD_eq_getD_getElem?, List.getElem?_toArray, List.getElem?_cons_zero, List.getElem?_cons_succ, Option.getD_some, List.getElem_toArray, List.getElem_cons_succ, List.getElem_cons_zero]; with_reducible rfl))
              with_reducible refine ord_nil ?_
              clear hRj
              have hRj := hR2
              clear hR2
              cases hrx : rightA x with
              | false =>
                go_upto_region 24 with (fail)
                obtain ⟨wd2, hwd⟩ : ∃ d, wd.drew = d := ⟨_, rfl⟩
                have hbd : Below wd.heap.size wd wd2 := by rw [← hwd]; exact (Below.refl _ _).drew
                replace A0 := (hbd.cell (World.block_lt_of_cell? _ _ A0)).trans A0
                replace A1 := (hbd.cell (World.block_lt_of_cell? _ _ A1)).trans A1
                replace A2 := (hbd.cell (World.block_lt_of_cell? _ _ A2)).trans A2
                replace c0 := (hbd.cell (World.block_lt_of_cell? _ _ c0)).trans c0
                replace c1 := (hbd.cell (World.block_lt_of_cell? _ _ c1)).trans c1
                replace c2 := (hbd.cell (World.block_lt_of_cell? _ _ c2)).trans c2
                have hR20 := Lib.hid (hRj.out.read hbd)
                clear hRj hbd
                refine Rt.wp_region_ordM [0, 0, 0, 1, 2, 0, 0, 0, 0, 0, 1, 0, 0, 2, 0, 0, 0, 0, 1, 2, 0, 0, 0, 0, 1, 2, 0, 0, 0] [0, 1, 2, 3, 4, 5, 6, 7, 8, 9, 10, 11, 12, 13, 14, 15, 16, 17, 18, 20, 21, 22, 23, 24, 19, 25, 26, 27, 28] (by kernel_rfl) (by kernel_rfl) ?_
                rw [hwd]
                clear hwd
                apply ord_move rfl rfl rfl rfl; (· (simp only [Act.put, Act.eval, List.setIfInBounds_toArray, List.set_cons_zero, List.set_cons_succ, Array.getD_eq_getD_getElem?, List.getElem?_toArray, List.getElem?_cons_zero, List.getElem?_cons_succ, Option.getD_some, List.getElem_toArray, List.getElem_cons_succ, List.getElem_cons_zero]; with_reducible rfl))
                apply ord_move rfl rfl rfl rfl; (· (simp only [Act.put, Act.eval, List.setIfInBounds_toArray, List.set_cons_zero, List.set_cons_succ, Array.getD_eq_getD_getElem?, List.getElem?_toArray, List.getElem?_cons_zero, List.getElem?_cons_succ, Option.getD_some, List.getElem_toArray, List.getElem_cons_succ, List.getElem_cons_zero]; with_reducible rfl))
                apply ord_pure rfl rfl rfl; (· (intro w; go_simp; with_reducible rfl)); (· (simp only [Act.put, Act.eval, List.setIfInBounds_toArray, List.set_cons_zero, List.set_cons_succ, Array.getD_eq_getD_getElem?, List.getElem?_toArray, List.getElem?_cons_zero, List.getElem?_cons_succ, Option.getD_some, List.getElem_toArray, List.getElem_cons_succ, List.getElem_cons_zero]; with_reducible rfl))
                apply ord_read rfl rfl rfl; (· (intro W hW; have g0 := cell_up hW A0; have g1 := cell_up hW A1; have g2 := cell_up hW A2; have g3 := cell_up hW c0; have g4 := cell_up hW c1; have g5 := cell_up hW c2; go_simp; with_reducible rfl)); (· (simp only [Act.put, Act.eval, List.setIfInBounds_toArray, List.set_cons_zero, List.set_cons_succ, Array.getD_eq_getD_getElem?, List.getElem?_toArray, List.getElem?_cons_zero, List.getElem?_cons_succ, Option.getD_some, List.getElem_toArray, List.getElem_cons_succ, List.getElem_cons_zero]; with_reducible rfl))
                refine ord_call rfl rfl rfl (by go_simp; exact ⟨rfl, rfl⟩) ?_
                refine ((show Calls Try.prog 14 #[.agg #[.bool x.v6, .int .u64 x.hi, .int .u64 x.lo]] _ _ from RightA_any _ x hxok)).mono ?_
                rw [hrx]
                rintro e w21 ⟨rfl, hb21⟩
                refine ⟨_, rfl, hb21, ?_⟩
                have hR21 := Lib.hid (hR20.out.read hb21)
                replace A0 := (hb21.cell (World.block_lt_of_cell? _ _ A0)).trans A0
                replace A1 := (hb21.cell (World.block_lt_of_cell? _ _ A1)).trans A1
                replace A2 := (hb21.cell (World.block_lt_of_cell? _ _ A2)).trans A2
                replace c0 := (hb21.cell (World.block_lt_of_cell? _ _ c0)).trans c0
                replace c1 := (hb21.cell (World.block_lt_of_cell? _ _ c1)).trans c1
                replace c2 := (hb21.cell (World.block_lt_of_cell? _ _ c2)).trans c2
                simp only [Act.put, Act.eval, List.setIfInBounds_toArray, List.set_cons_zero, List.set_cons_succ, Array.getD_eq_getD_getElem?, List.getElem?_toArray, List.getElem?_cons_zero, List.getElem?_cons_succ, Option.getD_some, List.getElem_toArray, List.getElem_cons_succ, List.getElem_cons_zero]
                apply ord_move rfl rfl rfl rfl; (· (simp only [Act.put, Act.eval, List.setIfInBounds_toArray, List.set_cons_zero, List.set_cons_succ, Array.getD_eq_getD_getElem?, List.getElem?_toArray, List.getElem?_cons_zero, List.getElem?_cons_succ, Option.getD_some, List.getElem_toArray, List.getElem_cons_succ, List.getElem_cons_zero]; with_reducible rfl))
                apply ord_skip rfl rfl; (· (simp only [Act.put, Act.eval, List.setIfInBounds_toArray, List.set_cons_zero, List.set_cons_succ, Array.getD_eq_getD_getElem?, List.getElem?_toArray, List.getElem?_cons_zero, List.getElem?_cons_succ, Option.getD_some, List.getElem_toArray, List.getElem_cons_succ, List.getElem_cons_zero]; with_reducible rfl))
                apply ord_skip rfl rfl; (· (simp only [Act.put, Act.eval, List.setIfInBounds_toArray, List.set_cons_zero, List.set_cons_succ, Array.getD_eq_getD_getElem?, List.getElem?_toArray, List.getElem?_cons_zero, List.getElem?_cons_succ, Option.getD_some, List.getElem_toArray, List.getElem_cons_succ, List.getElem_cons_zero]; with_reducible rfl))
                apply ord_skip rfl rfl; (· (simp only [Act.put, Act.eval, List.setIfInBounds_toArray, List.set_cons_zero, List.set_cons_succ, Array.getD_eq_getD_getElem?, List.getElem?_toArray, List.getElem?_cons_zero, List.getElem?_cons_succ, Option.getD_some, List.getElem_toArray, List.getElem_cons_succ, List.getElem_cons_zero]; with_reducible rfl))
                apply ord_skip rfl rfl; (· (simp only [Act.put, Act.eval, List.setIfInBounds_toArray, List.set_cons_zero, List.set_cons_succ, Array.getD_eq_getD_getElem?, List.getElem?_toArray, List.getElem?_cons_zero, List.getElem?_cons_succ, Option.getD_some, List.getElem_toArray, List.getElem_cons_succ, List.getElem_cons_zero]; with_reducible rfl))
                apply ord_skip rfl rfl; (· (simp only [Act.put, Act.eval, List.setIfInBounds_toArray, List.set_cons_zero, List.set_cons_succ, Array.getD_eq_getD_getElem?, List.getElem?_toArray, List.getElem?_cons_zero, List.getElem?_cons_succ, Option.getD_some, List.getElem_toArray, List.getElem_cons_succ, List.getElem_cons_zero]; with_reducible rfl))
                apply ord_skip rfl rfl; (· (simp only [Act.put, Act.eval, List.setIfInBounds_toArray, List.set_cons_zero, List.set_cons_succ, Array.getD_eq_getD_getElem?, List.getElem?_toArray, List.getElem?_cons_zero, List.getElem?_cons_succ, Option.getD_some, List.getElem_toArray, List.getElem_cons_succ, List.getElem_cons_zero]; with_reducible rfl))
                apply ord_skip rfl rfl; (· (simp only [Act.put, Act.eval, List.setIfInBounds_toArray, List.set_cons_zero, List.set_cons_succ, Array.getD_eq_getD_getElem?, List.getElem?_toArray, List.getElem?_cons_zero, List.getElem?_cons_succ, Option.getD_some, List.getElem_toArray, List.getElem_cons_succ, List.getElem_cons_zero]; with_reducible rfl))
                apply ord_skip rfl rfl; (· (simp only [Act.put, Act.eval, List.setIfInBounds_toArray, List.set_cons_zero, List.set_cons_succ, Array.getD_eq_getD_getElem?, List.getElem?_toArray, List.getElem?_cons_zero, List.getElem?_cons_succ, Option.getD_some, List.getElem_toArray, List.getElem_cons_succ, List.getElem_cons_zero]; with_reducible rfl))
                apply ord_skip rfl rfl; (· (simp only [Act.put, Act.eval, List.setIfInBounds_toArray, List.set_cons_zero, List.set_cons_succ, Array.getD_eq_getD_getElem?, List.getElem?_toArray, List.getElem?_cons_zero, List.getElem?_cons_succ, Option.getD_some, List.getElem_toArray, List.getElem_cons_succ, List.getElem_cons_zero]; with_reducible rfl))
                apply ord_pure rfl rfl rfl; (· (intro w; go_simp; with_reducible rfl)); (· (simp only [Act.put, Act.eval, List.setIfInBounds_toArray, List.set_cons_zero, List.set_cons_succ, Array.getD_eq_getD_getElem?, List.getElem?_toArray, List.getElem?_cons_zero, List.getElem?_cons_succ, Option.getD_some, List.getElem_toArray, List.getElem_cons_succ, List.getElem_cons_zero]; with_reducible rfl))
                apply ord_move rfl rfl rfl rfl; (· (simp only [Act.put, Act.eval, List.setIfInBounds_toArray, List.set_cons_zero, List.set_cons_succ, Array.getD_eq_getD_getElem?, List.getElem?_toArray, List.getElem?_cons_zero, List.getElem?_cons_succ, Option.getD_some, List.getElem_toArray, List.getElem_cons_succ, List.getElem_cons_zero]; with_reducible rfl))
                apply ord_skip rfl rfl; (· (simp only [Act.put, Act.eval, List.setIfInBounds_toArray, List.set_cons_zero, List.set_cons_succ, Array.getD_eq_getD_getElem?, List.getElem?_toArray, List.getElem?_cons_zero, List.getElem?_cons_succ, Option.getD_some, List.getElem_toArray, List.getElem_cons_succ, List.getElem_cons_zero]; with_reducible rfl))
                apply ord_skip rfl rfl; (· (simp only [Act.put, Act.eval, List.setIfInBounds_toArray, List.set_cons_zero, List.set_cons_succ, Array.getD_eq_getD_getElem?, List.getElem?_toArray, List.getElem?_cons_zero, List.getElem?_cons_succ, Option.getD_some, List.getElem_toArray, List.getElem_cons_succ, List.getElem_cons_zero]; with_reducible rfl))
                apply ord_skip rfl rfl; (· (simp only [Act.put, Act.eval, List.setIfInBounds_toArray, List.set_cons_zero, List.set_cons_succ, Array.getD_eq_getD_getElem?, List.getElem?_toArray, List.getElem?_cons_zero, List.getElem?_cons_succ, Option.getD_some, List.getElem_toArray, List.getElem_cons_succ, List.getElem_cons_zero]; with_reducible rfl))
                apply ord_skip rfl rfl; (· (simp only [Act.put, Act.eval, List.setIfInBounds_toArray, List.set_cons_zero, List.set_cons_succ, Array.getD_eq_getD_getElem?, List.getElem?_toArray, List.getElem?_cons_zero, List.getElem?_cons_succ, Option.getD_some, List.getElem_toArray, List.getElem_cons_succ, List.getElem_cons_zero]; with_reducible rfl))
                apply ord_skip rfl rfl; (· (simp only [Act.put, Act.eval, List.setIfInBounds_toArray, List.set_cons_zero, List.set_cons_succ, Array.getD_eq_getD_getElem?, List.getElem?_toArray, List.getElem?_cons_zero, List.getElem?_cons_succ, Option.getD_some, List.getElem_toArray, List.getElem_cons_succ, List.getElem_cons_zero]; with_reducible rfl))
                apply ord_skip rfl rfl; (· (simp only [Act.put, Act.eval, List.setIfInBounds_toArray, List.set_cons_zero, List.set_cons_succ, Array.getD_eq_getD_getElem?, List.getElem?_toArray, List.getElem?_cons_zero, List.getElem?_cons_succ, Option.getD_some, List.getElem_toArray, List.getElem_cons_succ, List.getElem_cons_zero]; with_reducible rfl))
                apply ord_skip rfl rfl; (· (simp only [Act.put, Act.eval, List.setIfInBounds_toArray, List.set_cons_zero, List.set_cons_succ, Array.getD_eq_getD_getElem?, List.getElem?_toArray, List.getElem?_cons_zero, List.getElem?_cons_succ, Option.getD_some, List.getElem_toArray, List.getElem_cons_succ, List.getElem_cons_zero]; with_reducible rfl))
                apply ord_skip rfl rfl; (· (simp only [Act.put, Act.eval, List.setIfInBounds_toArray, List.set_cons_zero, List.set_cons_succ, Array.getD_eq_getD_getElem?, List.getElem?_toArray, List.getElem?_cons_zero, List.getElem?_cons_succ, Option.getD_some, List.getElem_toArray, List.getElem_cons_succ, List.getElem_cons_zero]; with_reducible rfl))
                apply ord_skip rfl rfl; (· (simp only [Act.put, Act.eval, List.setIfInBounds_toArray, List.set_cons_zero, List.set_cons_succ, Array.getD_eq_getD_getElem?, List.getElem?_toArray, List.getElem?_cons_zero, List.getElem?_cons_succ, Option.getD_some, List.getElem_toArray, List.getElem_cons_succ, List.getElem_cons_zero]; with_reducible rfl))
                apply ord_skip rfl rfl; (· (simp only [Act.put, Act.eval, List.setIfInBounds_toArray, List.set_cons_zero, List.set_cons_succ, Array.getD_eq_getD_getElem?, List.getElem?_toArray, List.getElem?_cons_zero, List.getElem?_cons_succ, Option.getD_some, List.getElem_toArray, List.getElem_cons_succ, List.getElem_cons_zero]; with_reducible rfl))
                apply ord_skip rfl rfl; (· (simp only [Act.put, Act.eval, List.setIfInBounds_toArray, List.set_cons_zero, List.set_cons_succ, Array.getD_eq_getD_getElem?, List.getElem?_toArray, List.getElem?_cons_zero, List.getElem?_cons_succ, Option.getD_some, List.getElem_toArray, List.getElem_cons_succ, List.getElem_cons_zero]; with_reducible rfl))
                apply ord_pure rfl rfl rfl; (· (intro w; go_simp; with_reducible rfl)); (· (simp only [Act.put, Act.eval, List.setIfInBounds_toArray, List.set_cons_zero, List.set_cons_succ, Array.getD_eq_getD_getElem?, List.getElem?_toArray, List.getElem?_cons_zero, List.getElem?_cons_succ, Option.getD_some, List.getElem_toArray, List.getElem_cons_succ, List.getElem_cons_zero]; with_reducible rfl))
                with_reducible refine ord_nil ?_
                go_wp2_with fail
                go_roundw
                case rel => exact ⟨j + 1, true, by first | rfl | go_num, rfl, by omega, Lib.hid (by rw [htake.out, ← htH.out]; rfl), hR21⟩
                case measure => first | (simp [intOf]; done) | (simp [intOf]; omega)
              | true =>
                cases hlx : lameB zone now ((st x).getD zeroP) with
                | true =>
                  go_upto_region 24 with (fail)
                  obtain ⟨wd2, hwd⟩ : ∃ d, wd.drew = d := ⟨_, rfl⟩
                  have hbd : Below wd.heap.size wd wd2 := by rw [← hwd]; exact (Below.refl _ _).drew
                  replace A0 := (hbd.cell (World.block_lt_of_cell? _ _ A0)).trans A0
                  replace A1 := (hbd.cell (World.block_lt_of_cell? _ _ A1)).trans A1
                  replace A2 := (hbd.cell (World.block_lt_of_cell? _ _ A2)).trans A2
                  replace c0 := (hbd.cell (World.block_lt_of_cell? _ _ c0)).trans c0
                  replace c1 := (hbd.cell (World.block_lt_of_cell? _ _ c1)).trans c1
                  replace c2 := (hbd.cell (World.block_lt_of_cell? _ _ c2)).trans c2
                  have hR20 := Lib.hid (hRj.out.read hbd)
                  clear hRj hbd
                  refine Rt.wp_region_ordM [0, 0, 0, 1, 2, 0, 0, 0, 0, 0, 1, 0, 0, 2, 0, 0, 0, 0, 1, 2, 0, 0, 0, 0, 1, 2, 0, 0, 0] [0, 1, 2, 3, 4, 5, 6, 7, 8, 9, 10, 11, 12, 13, 14, 15, 16, 17, 18, 20, 21, 22, 23, 24, 19, 25, 26, 27, 28] (by kernel_rfl) (by kernel_rfl) ?_
                  rw [hwd]
                  clear hwd
                  apply ord_move rfl rfl rfl rfl; (· (simp only [Act.put, Act.eval, List.setIfInBounds_toArray, List.set_cons_zero, List.set_cons_succ, Array.getD_eq_getD_getElem?, List.getElem?_toArray, List.getElem?_cons_zero, List.getElem?_cons_succ, Option.getD_some, List.getElem_toArray, List.getElem_cons_succ, List.getElem_cons_zero]; with_reducible rfl))
                  apply ord_move rfl rfl rfl rfl; (· (simp only [Act.put, Act.eval, List.setIfInBounds_toArray, List.set_cons_zero, List.set_cons_succ, Array.getD_eq_getD_getElem?, List.getElem?_toArray, List.getElem?_cons_zero, List.getElem?_cons_succ, Option.getD_some, List.getElem_toArray, List.getElem_cons_succ, List.getElem_cons_zero]; with_reducible rfl))
                  apply ord_pure rfl rfl rfl; (· (intro w; go_simp; with_reducible rfl)); (· (simp only [Act.put, Act.eval, List.setIfInBounds_toArray, List.set_cons_zero, List.set_cons_succ, Array.getD_eq_getD_getElem?, List.getElem?_toArray, List.getElem?_cons_zero, List.getElem?_cons_succ, Option.getD_some, List.getElem_toArray, List.getElem_cons_succ, List.getElem_cons_zero]; with_reducible rfl))
                  apply ord_read rfl rfl rfl; (· (intro W hW; have g0 := cell_up hW A0; have g1 := cell_up hW A1; have g2 := cell_up hW A2; have g3 := cell_up hW c0; have g4 := cell_up hW c1; have g5 := cell_up hW c2; go_simp; with_reducible rfl)); (· (simp only [Act.put, Act.eval, List.setIfInBounds_toArray, List.set_cons_zero, List.set_cons_succ, Array.getD_eq_getD_getElem?, List.getElem?_toArray, List.getElem?_cons_zero, List.getElem?_cons_succ, Option.getD_some, List.getElem_toArray, List.getElem_cons_succ, List.getElem_cons_zero]; with_reducible rfl))
                  refine ord_call rfl rfl rfl (by go_simp; exact ⟨rfl, rfl⟩) ?_
                  refine ((show Calls Try.prog 14 #[.agg #[.bool x.v6, .int .u64 x.hi, .int .u64 x.lo]] _ _ from RightA_any _ x hxok)).mono ?_
                  rw [hrx]
                  rintro e w21 ⟨rfl, hb21⟩
                  refine ⟨_, rfl, hb21, ?_⟩
                  have hR21 := Lib.hid (hR20.out.read hb21)
                  replace A0 := (hb21.cell (World.block_lt_of_cell? _ _ A0)).trans A0
                  replace A1 := (hb21.cell (World.block_lt_of_cell? _ _ A1)).trans A1
                  replace A2 := (hb21.cell (World.block_lt_of_cell? _ _ A2)).trans A2
                  replace c0 := (hb21.cell (World.block_lt_of_cell? _ _ c0)).trans c0
                  replace c1 := (hb21.cell (World.block_lt_of_cell? _ _ c1)).trans c1
                  replace c2 := (hb21.cell (World.block_lt_of_cell? _ _ c2)).trans c2
                  simp only [Act.put, Act.eval, List.setIfInBounds_toArray, List.set_cons_zero, List.set_cons_succ, Array.getD_eq_getD_getElem?, List.getElem?_toArray, List.getElem?_cons_zero, List.getElem?_cons_succ, Option.getD_some, List.getElem_toArray, List.getElem_cons_succ, List.getElem_cons_zero]
                  apply ord_move rfl rfl rfl rfl; (· (simp only [Act.put, Act.eval, List.setIfInBounds_toArray, List.set_cons_zero, List.set_cons_succ, Array.getD_eq_getD_getElem?, List.getElem?_toArray, List.getElem?_cons_zero, List.getElem?_cons_succ, Option.getD_some, List.getElem_toArray, List.getElem_cons_succ, List.getElem_cons_zero]; with_reducible rfl))
                  apply ord_pure rfl rfl rfl; (· (intro w; go_simp; with_reducible rfl)); (· (simp only [Act.put, Act.eval, List.setIfInBounds_toArray, List.set_cons_zero, List.set_cons_succ, Array.getD_eq_getD_getElem?, List.getElem?_toArray, List.getElem?_cons_zero, List.getElem?_cons_succ, Option.getD_some, List.getElem_toArray, List.getElem_cons_succ, List.getElem_cons_zero]; with_reducible rfl))
                  apply ord_pure rfl rfl rfl; (· (intro w; go_simp; with_reducible rfl)); (· (simp only [Act.put, Act.eval, List.setIfInBounds_toArray, List.set_cons_zero, List.set_cons_succ, Array.getD_eq_getD_getElem?, List.getElem?_toArray, List.getElem?_cons_zero, List.getElem?_cons_succ, Option.getD_some, List.getElem_toArray, List.getElem_cons_succ, List.getElem_cons_zero]; with_reducible rfl))
                  apply ord_pure rfl rfl rfl; (· (intro w; go_simp; with_reducible rfl)); (· (simp only [Act.put, Act.eval, List.setIfInBounds_toArray, List.set_cons_zero, List.set_cons_succ, Array.getD_eq_getD_getElem?, List.getElem?_toArray, List.getElem?_cons_zero, List.getElem?_cons_succ, Option.getD_some, List.getElem_toArray, List.getElem_cons_succ, List.getElem_cons_zero]; with_reducible rfl))
                  apply ord_pure rfl rfl rfl; (· (intro w; go_simp; with_reducible rfl)); (· (simp only [Act.put, Act.eval, List.setIfInBounds_toArray, List.set_cons_zero, List.set_cons_succ, Array.getD_eq_getD_getElem?, List.getElem?_toArray, List.getElem?_cons_zero, List.getElem?_cons_succ, Option.getD_some, List.getElem_toArray, List.getElem_cons_succ, List.getElem_cons_zero]; with_reducible rfl))
                  apply ord_read rfl rfl rfl; (· (intro W hW; have g0 := cell_up hW A0; have g1 := cell_up hW A1; have g2 := cell_up hW A2; have g3 := cell_up hW c0; have g4 := cell_up hW c1; have g5 := cell_up hW c2; go_simp; with_reducible rfl)); (· (simp only [Act.put, Act.eval, List.setIfInBounds_toArray, List.set_cons_zero, List.set_cons_succ, Array.getD_eq_getD_getElem?, List.getElem?_toArray, List.getElem?_cons_zero, List.getElem?_cons_succ, Option.getD_some, List.getElem_toArray, List.getElem_cons_succ, List.getElem_cons_zero]; with_reducible rfl))
                  apply ord_pure rfl rfl rfl; (· (intro w; go_simp; with_reducible rfl)); (· (simp only [Act.put, Act.eval, List.setIfInBounds_toArray, List.set_cons_zero, List.set_cons_succ, Array.getD_eq_getD_getElem?, List.getElem?_toArray, List.getElem?_cons_zero, List.getElem?_cons_succ, Option.getD_some, List.getElem_toArray, List.getElem_cons_succ, List.getElem_cons_zero]; with_reducible rfl))
                  apply ord_pure rfl rfl rfl; (· (intro w; go_simp; with_reducible rfl)); (· (simp only [Act.put, Act.eval, List.setIfInBounds_toArray, List.set_cons_zero, List.set_cons_succ, Array.getD_eq_getD_getElem?, List.getElem?_toArray, List.getElem?_cons_zero, List.getElem?_cons_succ, Option.getD_some, List.getElem_toArray, List.getElem_cons_succ, List.getElem_cons_zero]; with_reducible rfl))
                  refine ord_call rfl rfl rfl (by go_simp; exact ⟨rfl, rfl⟩) ?_
                  refine ((show Calls Try.prog 15 #[.pointer (some ⟨xb, 0, none⟩), .agg #[.bool x.v6, .int .u64 x.hi, .int .u64 x.lo], .string zone, .int .i64 now] _ _ from Lame_P (a := x) hR21.out.inf hxok zone hz now)).mono ?_
                  rw [hlx]
                  rintro e w22 ⟨rfl, hb22⟩
                  refine ⟨_, rfl, hb22, ?_⟩
                  have hR22 := Lib.hid (hR21.out.read hb22)
                  replace A0 := (hb22.cell (World.block_lt_of_cell? _ _ A0)).trans A0
                  replace A1 := (hb22.cell (World.block_lt_of_cell? _ _ A1)).trans A1
                  replace A2 := (hb22.cell (World.block_lt_of_cell? _ _ A2)).trans A2
                  replace c0 := (hb22.cell (World.block_lt_of_cell? _ _ c0)).trans c0
                  replace c1 := (hb22.cell (World.block_lt_of_cell? _ _ c1)).trans c1
                  replace c2 := (hb22.cell (World.block_lt_of_cell? _ _ c2)).trans c2
                  simp only [Act.put, Act.eval, List.setIfInBounds_toArray, List.set_cons_zero, List.set_cons_succ, Array.getD_eq_getD_getElem?, List.getElem?_toArray, List.getElem?_cons_zero, List.getElem?_cons_succ, Option.getD_some, List.getElem_toArray, List.getElem_cons_succ, List.getElem_cons_zero]
                  apply ord_pure rfl rfl rfl; (· (intro w; go_simp; with_reducible rfl)); (· (simp only [Act.put, Act.eval, List.setIfInBounds_toArray, List.set_cons_zero, List.set_cons_succ, Array.getD_eq_getD_getElem?, List.getElem?_toArray, List.getElem?_cons_zero, List.getElem?_cons_succ, Option.getD_some, List.getElem_toArray, List.getElem_cons_succ, List.getElem_cons_zero]; with_reducible rfl))
                  apply ord_pure rfl rfl rfl; (· (intro w; go_simp; with_reducible rfl)); (· (simp only [Act.put, Act.eval, List.setIfInBounds_toArray, List.set_cons_zero, List.set_cons_succ, Array.getD_eq_getD_getElem?, List.getElem?_toArray, List.getElem?_cons_zero, List.getElem?_cons_succ, Option.getD_some, List.getElem_toArray, List.getElem_cons_succ, List.getElem_cons_zero]; with_reducible rfl))
                  apply ord_move rfl rfl rfl rfl; (· (simp only [Act.put, Act.eval, List.setIfInBounds_toArray, List.set_cons_zero, List.set_cons_succ, Array.getD_eq_getD_getElem?, List.getElem?_toArray, List.getElem?_cons_zero, List.getElem?_cons_succ, Option.getD_some, List.getElem_toArray, List.getElem_cons_succ, List.getElem_cons_zero]; with_reducible rfl))
                  apply ord_skip rfl rfl; (· (simp only [Act.put, Act.eval, List.setIfInBounds_toArray, List.set_cons_zero, List.set_cons_succ, Array.getD_eq_getD_getElem?, List.getElem?_toArray, List.getElem?_cons_zero, List.getElem?_cons_succ, Option.getD_some, List.getElem_toArray, List.getElem_cons_succ, List.getElem_cons_zero]; with_reducible rfl))
                  apply ord_skip rfl rfl; (· (simp only [Act.put, Act.eval, List.setIfInBounds_toArray, List.set_cons_zero, List.set_cons_succ, Array.getD_eq_getD_getElem?, List.getElem?_toArray, List.getElem?_cons_zero, List.getElem?_cons_succ, Option.getD_some, List.getElem_toArray, List.getElem_cons_succ, List.getElem_cons_zero]; with_reducible rfl))
                  apply ord_skip rfl rfl; (· (simp only [Act.put, Act.eval, List.setIfInBounds_toArray, List.set_cons_zero, List.set_cons_succ, Array.getD_eq_getD_getElem?, List.getElem?_toArray, List.getElem?_cons_zero, List.getElem?_cons_succ, Option.getD_some, List.getElem_toArray, List.getElem_cons_succ, List.getElem_cons_zero]; with_reducible rfl))
                  apply ord_skip rfl rfl; (· (simp only [Act.put, Act.eval, List.setIfInBounds_toArray, List.set_cons_zero, List.set_cons_succ, Array.getD_eq_getD_getElem?, List.getElem?_toArray, List.getElem?_cons_zero, List.getElem?_cons_succ, Option.getD_some, List.getElem_toArray, List.getElem_cons_succ, List.getElem_cons_zero]; with_reducible rfl))
                  apply ord_skip rfl rfl; (· (simp only [Act.put, Act.eval, List.setIfInBounds_toArray, List.set_cons_zero, List.set_cons_succ, Array.getD_eq_getD_getElem?, List.getElem?_toArray, List.getElem?_cons_zero, List.getElem?_cons_succ, Option.getD_some, List.getElem_toArray, List.getElem_cons_succ, List.getElem_cons_zero]; with_reducible rfl))
                  apply ord_skip rfl rfl; (· (simp only [Act.put, Act.eval, List.setIfInBounds_toArray, List.set_cons_zero, List.set_cons_succ, Array.getD_eq_getD_getElem?, List.getElem?_toArray, List.getElem?_cons_zero, List.getElem?_cons_succ, Option.getD_some, List.getElem_toArray, List.getElem_cons_succ, List.getElem_cons_zero]; with_reducible rfl))
                  apply ord_skip rfl rfl; (· (simp only [Act.put, Act.eval, List.setIfInBounds_toArray, List.set_cons_zero, List.set_cons_succ, Array.getD_eq_getD_getElem?, List.getElem?_toArray, List.getElem?_cons_zero, List.getElem?_cons_succ, Option.getD_some, List.getElem_toArray, List.getElem_cons_succ, List.getElem_cons_zero]; with_reducible rfl))
                  apply ord_skip rfl rfl; (· (simp only [Act.put, Act.eval, List.setIfInBounds_toArray, List.set_cons_zero, List.set_cons_succ, Array.getD_eq_getD_getElem?, List.getElem?_toArray, List.getElem?_cons_zero, List.getElem?_cons_succ, Option.getD_some, List.getElem_toArray, List.getElem_cons_succ, List.getElem_cons_zero]; with_reducible rfl))
                  apply ord_skip rfl rfl; (· (simp only [Act.put, Act.eval, List.setIfInBounds_toArray, List.set_cons_zero, List.set_cons_succ, Array.getD_eq_getD_getElem?, List.getElem?_toArray, List.getElem?_cons_zero, List.getElem?_cons_succ, Option.getD_some, List.getElem_toArray, List.getElem_cons_succ, List.getElem_cons_zero]; with_reducible rfl))
                  apply ord_skip rfl rfl; (· (simp only [Act.put, Act.eval, List.setIfInBounds_toArray, List.set_cons_zero, List.set_cons_succ, Array.getD_eq_getD_getElem?, List.getElem?_toArray, List.getElem?_cons_zero, List.getElem?_cons_succ, Option.getD_some, List.getElem_toArray, List.getElem_cons_succ, List.getElem_cons_zero]; with_reducible rfl))
                  apply ord_skip rfl rfl; (· (simp only [Act.put, Act.eval, List.setIfInBounds_toArray, List.set_cons_zero, List.set_cons_succ, Array.getD_eq_getD_getElem?, List.getElem?_toArray, List.getElem?_cons_zero, List.getElem?_cons_succ, Option.getD_some, List.getElem_toArray, List.getElem_cons_succ, List.getElem_cons_zero]; with_reducible rfl))
                  apply ord_pure rfl rfl rfl; (· (intro w; go_simp; with_reducible rfl)); (· (simp only [Act.put, Act.eval, List.setIfInBounds_toArray, List.set_cons_zero, List.set_cons_succ, Array.getD_eq_getD_getElem?, List.getElem?_toArray, List.getElem?_cons_zero, List.getElem?_cons_succ, Option.getD_some, List.getElem_toArray, List.getElem_cons_succ, List.getElem_cons_zero]; with_reducible rfl))
                  with_reducible refine ord_nil ?_
                  go_wp2_with fail
                  go_roundw
                  case rel => exact ⟨j + 1, true, by first | rfl | go_num, rfl, by omega, Lib.hid (by rw [htake.out, ← htH.out]; rfl), hR22⟩
                  case measure => first | (simp [intOf]; done) | (simp [intOf]; omega)
                | false =>
                  have hT := hmin.out x (hxH.out ▸ ga_mem hjl) hrx hlx
                  have hTx := toP_bd ((st x).getD zeroP)
                  obtain ⟨T1, hT1⟩ : ∃ y, toP ((st ca).getD zeroP) = y := ⟨_, rfl⟩
                  obtain ⟨T2, hT2⟩ : ∃ y, toP ((st x).getD zeroP) = y := ⟨_, rfl⟩
                  rw [hT1, hT2] at hT
                  rw [hT2] at hTx
                  have hT1H := Lib.hid hT1
                  have hT2H := Lib.hid hT2
                  have hw4 := If.wr (show -9223372036854775808 ≤ T2 + 400 by omega) (by omega)
                  have hgt : ¬ T2 + 400 < T1 := by omega
                  clear hT1 hT2 hT hTx
                  go_upto_region 24 with (fail)
                  obtain ⟨wd2, hwd⟩ : ∃ d, wd.drew = d := ⟨_, rfl⟩
                  have hbd : Below wd.heap.size wd wd2 := by rw [← hwd]; exact (Below.refl _ _).drew
                  replace A0 := (hbd.cell (World.block_lt_of_cell? _ _ A0)).trans A0
                  replace A1 := (hbd.cell (World.block_lt_of_cell? _ _ A1)).trans A1
                  replace A2 := (hbd.cell (World.block_lt_of_cell? _ _ A2)).trans A2
                  replace c0 := (hbd.cell (World.block_lt_of_cell? _ _ c0)).trans c0
                  replace c1 := (hbd.cell (World.block_lt_of_cell? _ _ c1)).trans c1
                  replace c2 := (hbd.cell (World.block_lt_of_cell? _ _ c2)).trans c2
                  have hR20 := Lib.hid (hRj.out.read hbd)
                  clear hRj hbd
                  refine Rt.wp_region_ordM [0, 0, 0, 1, 2, 0, 0, 0, 0, 0, 1, 0, 0, 2, 0, 0, 0, 0, 1, 2, 0, 0, 0, 0, 1, 2, 0, 0, 0] [0, 1, 2, 3, 4, 5, 6, 7, 8, 9, 10, 11, 12, 13, 14, 15, 16, 17, 18, 20, 21, 22, 23, 24, 19, 25, 26, 27, 28] (by kernel_rfl) (by kernel_rfl) ?_
                  rw [hwd]
                  clear hwd
                  apply ord_move rfl rfl rfl rfl; (· (simp only [Act.put, Act.eval, List.setIfInBounds_toArray, List.set_cons_zero, List.set_cons_succ, Array.getD_eq_getD_getElem?, List.getElem?_toArray, List.getElem?_cons_zero, List.getElem?_cons_succ, Option.getD_some, List.getElem_toArray, List.getElem_cons_succ, List.getElem_cons_zero]; with_reducible rfl))
                  apply ord_move rfl rfl rfl rfl; (· (simp only [Act.put, Act.eval, List.setIfInBounds_toArray, List.set_cons_zero, List.set_cons_succ, Array.getD_eq_getD_getElem?, List.getElem?_toArray, List.getElem?_cons_zero, List.getElem?_cons_succ, Option.getD_some, List.getElem_toArray, List.getElem_cons_succ, List.getElem_cons_zero]; with_reducible rfl))
                  apply ord_pure rfl rfl rfl; (· (intro w; go_simp; with_reducible rfl)); (· (simp only [Act.put, Act.eval, List.setIfInBounds_toArray, List.set_cons_zero, List.set_cons_succ, Array.getD_eq_getD_getElem?, List.getElem?_toArray, List.getElem?_cons_zero, List.getElem?_cons_succ, Option.getD_some, List.getElem_toArray, List.getElem_cons_succ, List.getElem_cons_zero]; with_reducible rfl))
                  apply ord_read rfl rfl rfl; (· (intro W hW; have g0 := cell_up hW A0; have g1 := cell_up hW A1; have g2 := cell_up hW A2; have g3 := cell_up hW c0; have g4 := cell_up hW c1; have g5 := cell_up hW c2; go_simp; with_reducible rfl)); (· (simp only [Act.put, Act.eval, List.setIfInBounds_toArray, List.set_cons_zero, List.set_cons_succ, Array.getD_eq_getD_getElem?, List.getElem?_toArray, List.getElem?_cons_zero, List.getElem?_cons_succ, Option.getD_some, List.getElem_toArray, List.getElem_cons_succ, List.getElem_cons_zero]; with_reducible rfl))
                  refine ord_call rfl rfl rfl (by go_simp; exact ⟨rfl, rfl⟩) ?_
                  refine ((show Calls Try.prog 14 #[.agg #[.bool x.v6, .int .u64 x.hi, .int .u64 x.lo]] _ _ from RightA_any _ x hxok)).mono ?_
                  rw [hrx]
                  rintro e w21 ⟨rfl, hb21⟩
                  refine ⟨_, rfl, hb21, ?_⟩
                  have hR21 := Lib.hid (hR20.out.read hb21)
                  replace A0 := (hb21.cell (World.block_lt_of_cell? _ _ A0)).trans A0
                  replace A1 := (hb21.cell (World.block_lt_of_cell? _ _ A1)).trans A1
                  replace A2 := (hb21.cell (World.block_lt_of_cell? _ _ A2)).trans A2
                  replace c0 := (hb21.cell (World.block_lt_of_cell? _ _ c0)).trans c0
                  replace c1 := (hb21.cell (World.block_lt_of_cell? _ _ c1)).trans c1
                  replace c2 := (hb21.cell (World.block_lt_of_cell? _ _ c2)).trans c2
                  simp only [Act.put, Act.eval, List.setIfInBounds_toArray, List.set_cons_zero, List.set_cons_succ, Array.getD_eq_getD_getElem?, List.getElem?_toArray, List.getElem?_cons_zero, List.getElem?_cons_succ, Option.getD_some, List.getElem_toArray, List.getElem_cons_succ, List.getElem_cons_zero]
                  apply ord_move rfl rfl rfl rfl; (· (simp only [Act.put, Act.eval, List.setIfInBounds_toArray, List.set_cons_zero, List.set_cons_succ, Array.getD_eq_getD_getElem?, List.getElem?_toArray, List.getElem?_cons_zero, List.getElem?_cons_succ, Option.getD_some, List.getElem_toArray, List.getElem_cons_succ, List.getElem_cons_zero]; with_reducible rfl))
                  apply ord_pure rfl rfl rfl; (· (intro w; go_simp; with_reducible rfl)); (· (simp only [Act.put, Act.eval, List.setIfInBounds_toArray, List.set_cons_zero, List.set_cons_succ, Array.getD_eq_getD_getElem?, List.getElem?_toArray, List.getElem?_cons_zero, List.getElem?_cons_succ, Option.getD_some, List.getElem_toArray, List.getElem_cons_succ, List.getElem_cons_zero]; with_reducible rfl))
                  apply ord_pure rfl rfl rfl; (· (intro w; go_simp; with_reducible rfl)); (· (simp only [Act.put, Act.eval, List.setIfInBounds_toArray, List.set_cons_zero, List.set_cons_succ, Array.getD_eq_getD_getElem?, List.getElem?_toArray, List.getElem?_cons_zero, List.getElem?_cons_succ, Option.getD_some, List.getElem_toArray, List.getElem_cons_succ, List.getElem_cons_zero]; with_reducible rfl))
                  apply ord_pure rfl rfl rfl; (· (intro w; go_simp; with_reducible rfl)); (· (simp only [Act.put, Act.eval, List.setIfInBounds_toArray, List.set_cons_zero, List.set_cons_succ, Array.getD_eq_getD_getElem?, List.getElem?_toArray, List.getElem?_cons_zero, List.getElem?_cons_succ, Option.getD_some, List.getElem_toArray, List.getElem_cons_succ, List.getElem_cons_zero]; with_reducible rfl))
                  apply ord_pure rfl rfl rfl; (· (intro w; go_simp; with_reducible rfl)); (· (simp only [Act.put, Act.eval, List.setIfInBounds_toArray, List.set_cons_zero, List.set_cons_succ, Array.getD_eq_getD_getElem?, List.getElem?_toArray, List.getElem?_cons_zero, List.getElem?_cons_succ, Option.getD_some, List.getElem_toArray, List.getElem_cons_succ, List.getElem_cons_zero]; with_reducible rfl))
                  apply ord_read rfl rfl rfl; (· (intro W hW; have g0 := cell_up hW A0; have g1 := cell_up hW A1; have g2 := cell_up hW A2; have g3 := cell_up hW c0; have g4 := cell_up hW c1; have g5 := cell_up hW c2; go_simp; with_reducible rfl)); (· (simp only [Act.put, Act.eval, List.setIfInBounds_toArray, List.set_cons_zero, List.set_cons_succ, Array.getD_eq_getD_getElem?, List.getElem?_toArray, List.getElem?_cons_zero, List.getElem?_cons_succ, Option.getD_some, List.getElem_toArray, List.getElem_cons_succ, List.getElem_cons_zero]; with_reducible rfl))
                  apply ord_pure rfl rfl rfl; (· (intro w; go_simp; with_reducible rfl)); (· (simp only [Act.put, Act.eval, List.setIfInBounds_toArray, List.set_cons_zero, List.set_cons_succ, Array.getD_eq_getD_getElem?, List.getElem?_toArray, List.getElem?_cons_zero, List.getElem?_cons_succ, Option.getD_some, List.getElem_toArray, List.getElem_cons_succ, List.getElem_cons_zero]; with_reducible rfl))
                  apply ord_pure rfl rfl rfl; (· (intro w; go_simp; with_reducible rfl)); (· (simp only [Act.put, Act.eval, List.setIfInBounds_toArray, List.set_cons_zero, List.set_cons_succ, Array.getD_eq_getD_getElem?, List.getElem?_toArray, List.getElem?_cons_zero, List.getElem?_cons_succ, Option.getD_some, List.getElem_toArray, List.getElem_cons_succ, List.getElem_cons_zero]; with_reducible rfl))
                  refine ord_call rfl rfl rfl (by go_simp; exact ⟨rfl, rfl⟩) ?_
                  refine ((show Calls Try.prog 15 #[.pointer (some ⟨xb, 0, none⟩), .agg #[.bool x.v6, .int .u64 x.hi, .int .u64 x.lo], .string zone, .int .i64 now] _ _ from Lame_P (a := x) hR21.out.inf hxok zone hz now)).mono ?_
                  rw [hlx]
                  rintro e w22 ⟨rfl, hb22⟩
                  refine ⟨_, rfl, hb22, ?_⟩
                  have hR22 := Lib.hid (hR21.out.read hb22)
                  replace A0 := (hb22.cell (World.block_lt_of_cell? _ _ A0)).trans A0
                  replace A1 := (hb22.cell (World.block_lt_of_cell? _ _ A1)).trans A1
                  replace A2 := (hb22.cell (World.block_lt_of_cell? _ _ A2)).trans A2
                  replace c0 := (hb22.cell (World.block_lt_of_cell? _ _ c0)).trans c0
                  replace c1 := (hb22.cell (World.block_lt_of_cell? _ _ c1)).trans c1
                  replace c2 := (hb22.cell (World.block_lt_of_cell? _ _ c2)).trans c2
                  simp only [Act.put, Act.eval, List.setIfInBounds_toArray, List.set_cons_zero, List.set_cons_succ, Array.getD_eq_getD_getElem?, List.getElem?_toArray, List.getElem?_cons_zero, List.getElem?_cons_succ, Option.getD_some, List.getElem_toArray, List.getElem_cons_succ, List.getElem_cons_zero]
                  apply ord_pure rfl rfl rfl; (· (intro w; go_simp; with_reducible rfl)); (· (simp only [Act.put, Act.eval, List.setIfInBounds_toArray, List.set_cons_zero, List.set_cons_succ, Array.getD_eq_getD_getElem?, List.getElem?_toArray, List.getElem?_cons_zero, List.getElem?_cons_succ, Option.getD_some, List.getElem_toArray, List.getElem_cons_succ, List.getElem_cons_zero]; with_reducible rfl))
                  apply ord_pure rfl rfl rfl; (· (intro w; go_simp; with_reducible rfl)); (· (simp only [Act.put, Act.eval, List.setIfInBounds_toArray, List.set_cons_zero, List.set_cons_succ, Array.getD_eq_getD_getElem?, List.getElem?_toArray, List.getElem?_cons_zero, List.getElem?_cons_succ, Option.getD_some, List.getElem_toArray, List.getElem_cons_succ, List.getElem_cons_zero]; with_reducible rfl))
                  apply ord_move rfl rfl rfl rfl; (· (simp only [Act.put, Act.eval, List.setIfInBounds_toArray, List.set_cons_zero, List.set_cons_succ, Array.getD_eq_getD_getElem?, List.getElem?_toArray, List.getElem?_cons_zero, List.getElem?_cons_succ, Option.getD_some, List.getElem_toArray, List.getElem_cons_succ, List.getElem_cons_zero]; with_reducible rfl))
                  apply ord_pure rfl rfl rfl; (· (intro w; go_simp; with_reducible rfl)); (· (simp only [Act.put, Act.eval, List.setIfInBounds_toArray, List.set_cons_zero, List.set_cons_succ, Array.getD_eq_getD_getElem?, List.getElem?_toArray, List.getElem?_cons_zero, List.getElem?_cons_succ, Option.getD_some, List.getElem_toArray, List.getElem_cons_succ, List.getElem_cons_zero]; with_reducible rfl))
                  apply ord_read rfl rfl rfl; (· (intro W hW; have g0 := cell_up hW A0; have g1 := cell_up hW A1; have g2 := cell_up hW A2; have g3 := cell_up hW c0; have g4 := cell_up hW c1; have g5 := cell_up hW c2; go_simp; with_reducible rfl)); (· (simp only [Act.put, Act.eval, List.setIfInBounds_toArray, List.set_cons_zero, List.set_cons_succ, Array.getD_eq_getD_getElem?, List.getElem?_toArray, List.getElem?_cons_zero, List.getElem?_cons_succ, Option.getD_some, List.getElem_toArray, List.getElem_cons_succ, List.getElem_cons_zero]; with_reducible rfl))
                  apply ord_pure rfl rfl rfl; (· (intro w; go_simp; with_reducible rfl)); (· (simp only [Act.put, Act.eval, List.setIfInBounds_toArray, List.set_cons_zero, List.set_cons_succ, Array.getD_eq_getD_getElem?, List.getElem?_toArray, List.getElem?_cons_zero, List.getElem?_cons_succ, Option.getD_some, List.getElem_toArray, List.getElem_cons_succ, List.getElem_cons_zero]; with_reducible rfl))
                  apply ord_pure rfl rfl rfl; (· (intro w; go_simp; with_reducible rfl)); (· (simp only [Act.put, Act.eval, List.setIfInBounds_toArray, List.set_cons_zero, List.set_cons_succ, Array.getD_eq_getD_getElem?, List.getElem?_toArray, List.getElem?_cons_zero, List.getElem?_cons_succ, Option.getD_some, List.getElem_toArray, List.getElem_cons_succ, List.getElem_cons_zero]; with_reducible rfl))
                  apply ord_pure rfl rfl rfl; (· (intro w; go_simp; with_reducible rfl)); (· (simp only [Act.put, Act.eval, List.setIfInBounds_toArray, List.set_cons_zero, List.set_cons_succ, Array.getD_eq_getD_getElem?, List.getElem?_toArray, List.getElem?_cons_zero, List.getElem?_cons_succ, Option.getD_some, List.getElem_toArray, List.getElem_cons_succ, List.getElem_cons_zero]; with_reducible rfl))
                  apply ord_pure rfl rfl rfl; (· (intro w; go_simp; with_reducible rfl)); (· (simp only [Act.put, Act.eval, List.setIfInBounds_toArray, List.set_cons_zero, List.set_cons_succ, Array.getD_eq_getD_getElem?, List.getElem?_toArray, List.getElem?_cons_zero, List.getElem?_cons_succ, Option.getD_some, List.getElem_toArray, List.getElem_cons_succ, List.getElem_cons_zero]; with_reducible rfl))
                  apply ord_read rfl rfl rfl; (· (intro W hW; have g0 := cell_up hW A0; have g1 := cell_up hW A1; have g2 := cell_up hW A2; have g3 := cell_up hW c0; have g4 := cell_up hW c1; have g5 := cell_up hW c2; go_simp; with_reducible rfl)); (· (simp only [Act.put, Act.eval, List.setIfInBounds_toArray, List.set_cons_zero, List.set_cons_succ, Array.getD_eq_getD_getElem?, List.getElem?_toArray, List.getElem?_cons_zero, List.getElem?_cons_succ, Option.getD_some, List.getElem_toArray, List.getElem_cons_succ, List.getElem_cons_zero]; with_reducible rfl))
                  refine ord_call rfl rfl rfl (by go_simp; exact ⟨rfl, rfl⟩) ?_
                  refine ((show Calls Try.prog 16 #[.pointer (some ⟨xb, 0, none⟩), .agg #[.bool ca.v6, .int .u64 ca.hi, .int .u64 ca.lo]] _ _ from Timeout_P (a := ca) hR22.out.inf hcaok)).mono ?_
                  rw [hT1H.out]
                  rintro e w23 ⟨rfl, hb23⟩
                  refine ⟨_, rfl, hb23, ?_⟩
                  have hR23 := Lib.hid (hR22.out.read hb23)
                  replace A0 := (hb23.cell (World.block_lt_of_cell? _ _ A0)).trans A0
                  replace A1 := (hb23.cell (World.block_lt_of_cell? _ _ A1)).trans A1
                  replace A2 := (hb23.cell (World.block_lt_of_cell? _ _ A2)).trans A2
                  replace c0 := (hb23.cell (World.block_lt_of_cell? _ _ c0)).trans c0
                  replace c1 := (hb23.cell (World.block_lt_of_cell? _ _ c1)).trans c1
                  replace c2 := (hb23.cell (World.block_lt_of_cell? _ _ c2)).trans c2
                  simp only [Act.put, Act.eval, List.setIfInBounds_toArray, List.set_cons_zero, List.set_cons_succ, Array.getD_eq_getD_getElem?, List.getElem?_toArray, List.getElem?_cons_zero, List.getElem?_cons_succ, Option.getD_some, List.getElem_toArray, List.getElem_cons_succ, List.getElem_cons_zero]
                  refine ord_call rfl rfl rfl (by go_simp; exact ⟨rfl, rfl⟩) ?_
                  refine ((show Calls Try.prog 16 #[.pointer (some ⟨xb, 0, none⟩), .agg #[.bool x.v6, .int .u64 x.hi, .int .u64 x.lo]] _ _ from Timeout_P (a := x) hR23.out.inf hxok)).mono ?_
                  rw [hT2H.out]
                  rintro e w24 ⟨rfl, hb24⟩
                  refine ⟨_, rfl, hb24, ?_⟩
                  have hR24 := Lib.hid (hR23.out.read hb24)
                  replace A0 := (hb24.cell (World.block_lt_of_cell? _ _ A0)).trans A0
                  replace A1 := (hb24.cell (World.block_lt_of_cell? _ _ A1)).trans A1
                  replace A2 := (hb24.cell (World.block_lt_of_cell? _ _ A2)).trans A2
                  replace c0 := (hb24.cell (World.block_lt_of_cell? _ _ c0)).trans c0
                  replace c1 := (hb24.cell (World.block_lt_of_cell? _ _ c1)).trans c1
                  replace c2 := (hb24.cell (World.block_lt_of_cell? _ _ c2)).trans c2
                  simp only [Act.put, Act.eval, List.setIfInBounds_toArray, List.set_cons_zero, List.set_cons_succ, Array.getD_eq_getD_getElem?, List.getElem?_toArray, List.getElem?_cons_zero, List.getElem?_cons_succ, Option.getD_some, List.getElem_toArray, List.getElem_cons_succ, List.getElem_cons_zero]
                  apply ord_pure rfl rfl rfl; (· (intro w; go_simp; with_reducible rfl)); (· (simp only [Act.put, Act.eval, List.setIfInBounds_toArray, List.set_cons_zero, List.set_cons_succ, Array.getD_eq_getD_getElem?, List.getElem?_toArray, List.getElem?_cons_zero, List.getElem?_cons_succ, Option.getD_some, List.getElem_toArray, List.getElem_cons_succ, List.getElem_cons_zero]; with_reducible rfl))
                  apply ord_pure rfl rfl rfl; (· (intro w; go_simp; with_reducible rfl)); (· (simp only [Act.put, Act.eval, List.setIfInBounds_toArray, List.set_cons_zero, List.set_cons_succ, Array.getD_eq_getD_getElem?, List.getElem?_toArray, List.getElem?_cons_zero, List.getElem?_cons_succ, Option.getD_some, List.getElem_toArray, List.getElem_cons_succ, List.getElem_cons_zero]; with_reducible rfl))
                  apply ord_pure rfl rfl rfl; (· (intro w; go_simp; with_reducible rfl)); (· (simp only [Act.put, Act.eval, List.setIfInBounds_toArray, List.set_cons_zero, List.set_cons_succ, Array.getD_eq_getD_getElem?, List.getElem?_toArray, List.getElem?_cons_zero, List.getElem?_cons_succ, Option.getD_some, List.getElem_toArray, List.getElem_cons_succ, List.getElem_cons_zero]; with_reducible rfl))
                  with_reducible refine ord_nil ?_
                  go_wp2_with fail
                  go_roundw
                  case rel => exact ⟨j + 1, true, by first | rfl | go_num, rfl, by omega, Lib.hid (by rw [htake.out, ← htH.out]; rfl), hR24⟩
                  case measure => first | (simp [intOf]; done) | (simp [intOf]; omega)
            | false =>
              go_upto_region 23 with (fail)
              obtain ⟨wd, hwd⟩ : ∃ d, wr.drew = d := ⟨_, rfl⟩
              have hbd : Below wr.heap.size wr wd := by rw [← hwd]; exact (Below.refl _ _).drew
              replace A0 := (hbd.cell (World.block_lt_of_cell? _ _ A0)).trans A0
              replace A1 := (hbd.cell (World.block_lt_of_cell? _ _ A1)).trans A1
              replace A2 := (hbd.cell (World.block_lt_of_cell? _ _ A2)).trans A2
              replace c0 := (hbd.cell (World.block_lt_of_cell? _ _ c0)).trans c0
              replace c1 := (hbd.cell (World.block_lt_of_cell? _ _ c1)).trans c1
              replace c2 := (hbd.cell (World.block_lt_of_cell? _ _ c2)).trans c2
              have hR2 := Lib.hid (hRj.out.read hbd)
              clear hbd
              refine Rt.wp_region_ordM [0, 0, 0, 0, 0, 1, 1, 0, 0, 0] [0, 1, 2, 3, 4, 5, 6, 7, 8, 9] (by kernel_rfl) (by kernel_rfl) ?_
              rw [hwd]
              clear hwd
              apply ord_move rfl rfl rfl rfl; (· (simp only [Act.put, Act.eval, List.setIfInBounds_toArray, List.set_cons_zero, List.set_cons_succ, Array.getD_eq_getD_getElem?, List.getElem?_toArray, List.getElem?_cons_zero, List.getElem?_cons_succ, Option.getD_some, List.getElem_toArray, List.getElem_cons_succ, List.getElem_cons_zero]; with_reducible rfl))
              apply ord_move rfl rfl rfl rfl; (· (simp only [Act.put, Act.eval, List.setIfInBounds_toArray, List.set_cons_zero, List.set_cons_succ, Array.getD_eq_getD_getElem?, List.getElem?_toArray, List.getElem?_cons_zero, List.getElem?_cons_succ, Option.getD_some, List.getElem_toArray, List.getElem_cons_succ, List.getElem_cons_zero]; with_reducible rfl))
              apply ord_pure rfl rfl rfl; (· (intro w; go_simp; with_reducible rfl)); (· (simp only [Act.put, Act.eval, List.setIfInBounds_toArray, List.set_cons_zero, List.set_cons_succ, Array.getD_eq_getD_getElem?, List.getElem?_toArray, List.getElem?_cons_zero, List.getElem?_cons_succ, Option.getD_some, List.getElem_toArray, List.getElem_cons_succ, List.getElem_cons_zero]; with_reducible rfl))
              apply ord_pure rfl rfl rfl; (· (intro w; go_simp; with_reducible rfl)); (· (simp only [Act.put, Act.eval, List.setIfInBounds_toArray, List.set_cons_zero, List.set_cons_succ, Array.getD_eq_getD_getElem?, List.getElem?_toArray, List.getElem?_cons_zero, List.getElem?_cons_succ, Option.getD_some, List.getElem_toArray, List.getElem_cons_succ, List.getElem_cons_zero]; with_reducible rfl))
              apply ord_pure rfl rfl rfl; (· (intro w; go_simp; with_reducible rfl)); (· (simp only [Act.put, Act.eval, List.setIfInBounds_toArray, List.set_cons_zero, List.set_cons_succ, Array.getD_eq_getD_getElem?, List.getElem?_toArray, List.getElem?_cons_zero, List.getElem?_cons_succ, Option.getD_some, List.getElem_toArray, List.getElem_cons_succ, List.getElem_cons_zero]; with_reducible rfl))
              apply ord_read rfl rfl rfl; (· (intro W hW; have g0 := cell_up hW A0; have g1 := cell_up hW A1; have g2 := cell_up hW A2; have g3 := cell_up hW c0; have g4 := cell_up hW c1; have g5 := cell_up hW c2; go_simp; with_reducible rfl)); (· (simp only [Act.put, Act.eval, List.setIfInBounds_toArray, List.set_cons_zero, List.set_cons_succ, Array.getD_eq_getD_getElem?, List.getElem?_toArray, List.getElem?_cons_zero, List.getElem?_cons_succ, Option.getD_some, List.getElem_toArray, List.getElem_cons_succ, List.getElem_cons_zero]; with_reducible rfl))
              apply ord_read rfl rfl rfl; (· (intro W hW; have g0 := cell_up hW A0; have g1 := cell_up hW A1; have g2 := cell_up hW A2; have g3 := cell_up hW c0; have g4 := cell_up hW c1; have g5 := cell_up hW c2; go_simp; with_reducible rfl)); (· (simp only [Act.put, Act.eval, List.setIfInBounds_toArray, List.set_cons_zero, List.set_cons_succ, Array.getD_eq_getD_getElem?, List.getElem?_toArray, List.getElem?_cons_zero, List.getElem?_cons_succ, Option.getD_some, List.getElem_toArray, List.getElem_cons_succ, List.getElem_cons_zero]; with_reducible rfl))
              apply ord_pure rfl rfl rfl; (· (intro w; exact exec_eqA (x := x) (y := ca) rfl rfl rfl w)); (· (simp only [Act.put, Act.eval, List.setIfInBounds_toArray, List.set_cons_zero, List.set_cons_succ, Array.getD_eq_getD_getElem?, List.getElem?_toArray, List.getElem?_cons_zero, List.getElem?_cons_succ, Option.getD_some, List.getElem_toArray, List.getElem_cons_succ, List.getElem_cons_zero]; with_reducible rfl))
              apply ord_pure rfl rfl rfl; (· (intro w; go_simp; with_reducible rfl)); (· (simp only [Act.put, Act.eval, List.setIfInBounds_toArray, List.set_cons_zero, List.set_cons_succ, Array.getD_eq_getD_getElem?, List.getElem?_toArray, List.getElem?_cons_zero, List.getElem?_cons_succ, Option.getD_some, List.getElem_toArray, List.getElem_cons_succ, List.getElem_cons_zero]; with_reducible rfl))
              apply ord_pure rfl rfl rfl; (· (intro w; go_simp; with_reducible rfl)); (· (simp only [Act.put, Act.eval, List.setIfInBounds_toArray, List.set_cons_zero, List.set_cons_succ, Array.getD_eq_getD_getElem?, List.getElem?_toArray, List.getElem?_cons_zero, List.getElem?_cons_succ, Option.getD_some, List.getElem_toArray, List.getElem_cons_succ, List.getElem_cons_zero]; with_reducible rfl))
              with_reducible refine ord_nil ?_
              clear hRj
              have hRj := hR2
              clear hR2
              obtain ⟨t2, ht2⟩ : ∃ b, decide (x = ca) = b := ⟨_, rfl⟩
              rw [ht2]
              have ht2H := Lib.hid ht2
              clear ht2
              cases hrx : rightA x with
              | false =>
                go_upto_region 24 with (fail)
                obtain ⟨wd2, hwd⟩ : ∃ d, wd.drew = d := ⟨_, rfl⟩
                have hbd : Below wd.heap.size wd wd2 := by rw [← hwd]; exact (Below.refl _ _).drew
                replace A0 := (hbd.cell (World.block_lt_of_cell? _ _ A0)).trans A0
                replace A1 := (hbd.cell (World.block_lt_of_cell? _ _ A1)).trans A1
                replace A2 := (hbd.cell (World.block_lt_of_cell? _ _ A2)).trans A2
                replace c0 := (hbd.cell (World.block_lt_of_cell? _ _ c0)).trans c0
                replace c1 := (hbd.cell (World.block_lt_of_cell? _ _ c1)).trans c1
                replace c2 := (hbd.cell (World.block_lt_of_cell? _ _ c2)).trans c2
                have hR20 := Lib.hid (hRj.out.read hbd)
                clear hRj hbd
                refine Rt.wp_region_ordM [0, 0, 0, 1, 2, 0, 0, 0, 0, 0, 1, 0, 0, 2, 0, 0, 0, 0, 1, 2, 0, 0, 0, 0, 1, 2, 0, 0, 0] [0, 1, 2, 3, 4, 5, 6, 7, 8, 9, 10, 11, 12, 13, 14, 15, 16, 17, 18, 20, 21, 22, 23, 24, 19, 25, 26, 27, 28] (by kernel_rfl) (by kernel_rfl) ?_
                rw [hwd]
                clear hwd
                apply ord_move rfl rfl rfl rfl; (· (simp only [Act.put, Act.eval, List.setIfInBounds_toArray, List.set_cons_zero, List.set_cons_succ, Array.getD_eq_getD_getElem?, List.getElem?_toArray, List.getElem?_cons_zero, List.getElem?_cons_succ, Option.getD_some, List.getElem_toArray, List.getElem_cons_succ, List.getElem_cons_zero]; with_reducible rfl))
                apply ord_move rfl rfl rfl rfl; (· (simp only [Act.put, Act.eval, List.setIfInBounds_toArray, List.set_cons_zero, List.set_cons_succ, Array.getD_eq_getD_getElem?, List.getElem?_toArray, List.getElem?_cons_zero, List.getElem?_cons_succ, Option.getD_some, List.getElem_toArray, List.getElem_cons_succ, List.getElem_cons_zero]; with_reducible rfl))
                apply ord_pure rfl rfl rfl; (· (intro w; go_simp; with_reducible rfl)); (· (simp only [Act.put, Act.eval, List.setIfInBounds_toArray, List.set_cons_zero, List.set_cons_succ, Array.getD_eq_getD_getElem?, List.getElem?_toArray, List.getElem?_cons_zero, List.getElem?_cons_succ, Option.getD_some, List.getElem_toArray, List.getElem_cons_succ, List.getElem_cons_zero]; with_reducible rfl))
                apply ord_read rfl rfl rfl; (· (intro W hW; have g0 := cell_up hW A0; have g1 := cell_up hW A1; have g2 := cell_up hW A2; have g3 := cell_up hW c0; have g4 := cell_up hW c1; have g5 := cell_up hW c2; go_simp; with_reducible rfl)); (· (simp only [Act.put, Act.eval, List.setIfInBounds_toArray, List.set_cons_zero, List.set_cons_succ, Array.getD_eq_getD_getElem?, List.getElem?_toArray, List.getElem?_cons_zero, List.getElem?_cons_succ, Option.getD_some, List.getElem_toArray, List.getElem_cons_succ, List.getElem_cons_zero]; with_reducible rfl))
                refine ord_call rfl rfl rfl (by go_simp; exact ⟨rfl, rfl⟩) ?_
                refine ((show Calls Try.prog 14 #[.agg #[.bool x.v6, .int .u64 x.hi, .int .u64 x.lo]] _ _ from RightA_any _ x hxok)).mono ?_
                rw [hrx]
                rintro e w21 ⟨rfl, hb21⟩
                refine ⟨_, rfl, hb21, ?_⟩
                have hR21 := Lib.hid (hR20.out.read hb21)
                replace A0 := (hb21.cell (World.block_lt_of_cell? _ _ A0)).trans A0
                replace A1 := (hb21.cell (World.block_lt_of_cell? _ _ A1)).trans A1
                replace A2 := (hb21.cell (World.block_lt_of_cell? _ _ A2)).trans A2
                replace c0 := (hb21.cell (World.block_lt_of_cell? _ _ c0)).trans c0
                replace c1 := (hb21.cell (World.block_lt_of_cell? _ _ c1)).trans c1
                replace c2 := (hb21.cell (World.block_lt_of_cell? _ _ c2)).trans c2
                simp only [Act.put, Act.eval, List.setIfInBounds_toArray, List.set_cons_zero, List.set_cons_succ, Array.getD_eq_getD_getElem?, List.getElem?_toArray, List.getElem?_cons_zero, List.getElem?_cons_succ, Option.getD_some, List.getElem_toArray, List.getElem_cons_succ, List.getElem_cons_zero]
                apply ord_move rfl rfl rfl rfl; (· (simp only [Act.put, Act.eval, List.setIfInBounds_toArray, List.set_cons_zero, List.set_cons_succ, Array.getD_eq_getD_getElem?, List.getElem?_toArray, List.getElem?_cons_zero, List.getElem?_cons_succ, Option.getD_some, List.getElem_toArray, List.getElem_cons_succ, List.getElem_cons_zero]; with_reducible rfl))
                apply ord_skip rfl rfl; (· (simp only [Act.put, Act.eval, List.setIfInBounds_toArray, List.set_cons_zero, List.set_cons_succ, Array.getD_eq_getD_getElem?, List.getElem?_toArray, List.getElem?_cons_zero, List.getElem?_cons_succ, Option.getD_some, List.getElem_toArray, List.getElem_cons_succ, List.getElem_cons_zero]; with_reducible rfl))
                apply ord_skip rfl rfl; (· (simp only [Act.put, Act.eval, List.setIfInBounds_toArray, List.set_cons_zero, List.set_cons_succ, Array.getD_eq_getD_getElem?, List.getElem?_toArray, List.getElem?_cons_zero, List.getElem?_cons_succ, Option.getD_some, List.getElem_toArray, List.getElem_cons_succ, List.getElem_cons_zero]; with_reducible rfl))
                apply ord_skip rfl rfl; (· (simp only [Act.put, Act.eval, List.setIfInBounds_toArray, List.set_cons_zero, List.set_cons_succ, Array.getD_eq_getD_getElem?, List.getElem?_toArray, List.getElem?_cons_zero, List.getElem?_cons_succ, Option.getD_some, List.getElem_toArray, List.getElem_cons_succ, List.getElem_cons_zero]; with_reducible rfl))
                apply ord_skip rfl rfl; (· (simp only [Act.put, Act.eval, List.setIfInBounds_toArray, List.set_cons_zero, List.set_cons_succ, Array.getD_eq_getD_getElem?, List.getElem?_toArray, List.getElem?_cons_zero, List.getElem?_cons_succ, Option.getD_some, List.getElem_toArray, List.getElem_cons_succ, List.getElem_cons_zero]; with_reducible rfl))
                apply ord_skip rfl rfl; (· (simp only [Act.put, Act.eval, List.setIfInBounds_toArray, List.set_cons_zero, List.set_cons_succ, Array.getD_eq_getD_getElem?, List.getElem?_toArray, List.getElem?_cons_zero, List.getElem?_cons_succ, Option.getD_some, List.getElem_toArray, List.getElem_cons_succ, List.getElem_cons_zero]; with_reducible rfl))
                apply ord_skip rfl rfl; (· (simp only [Act.put, Act.eval, List.setIfInBounds_toArray, List.set_cons_zero, List.set_cons_succ, Array.getD_eq_getD_getElem?, List.getElem?_toArray, List.getElem?_cons_zero, List.getElem?_cons_succ, Option.getD_some, List.getElem_toArray, List.getElem_cons_succ, List.getElem_cons_zero]; with_reducible rfl))
                apply ord_skip rfl rfl; (· (simp only [Act.put, Act.eval, List.setIfInBounds_toArray, List.set_cons_zero, List.set_cons_succ, Array.getD_eq_getD_getElem?, List.getElem?_toArray, List.getElem?_cons_zero, List.getElem?_cons_succ, Option.getD_some, List.getElem_toArray, List.getElem_cons_succ, List.getElem_cons_zero]; with_reducible rfl))
                apply ord_skip rfl rfl; (· (simp only [Act.put, Act.eval, List.setIfInBounds_toArray, List.set_cons_zero, List.set_cons_succ, Array.getD_eq_getD_getElem?, List.getElem?_toArray, List.getElem?_cons_zero, List.getElem?_cons_succ, Option.getD_some, List.getElem_toArray, List.getElem_cons_succ, List.getElem_cons_zero]; with_reducible rfl))
                apply ord_skip rfl rfl; (· (simp only [Act.put, Act.eval, List.setIfInBounds_toArray, List.set_cons_zero, List.set_cons_succ, Array.getD_eq_getD_getElem?, List.getElem?_toArray, List.getElem?_cons_zero, List.getElem?_cons_succ, Option.getD_some, List.getElem_toArray, List.getElem_cons_succ, List.getElem_cons_zero]; with_reducible rfl))
                apply ord_pure rfl rfl rfl; (· (intro w; go_simp; with_reducible rfl)); (· (simp only [Act.put, Act.eval, List.setIfInBounds_toArray, List.set_cons_zero, List.set_cons_succ, Array.getD_eq_getD_getElem?, List.getElem?_toArray, List.getElem?_cons_zero, List.getElem?_cons_succ, Option.getD_some, List.getElem_toArray, List.getElem_cons_succ, List.getElem_cons_zero]; with_reducible rfl))
                apply ord_move rfl rfl rfl rfl; (· (simp only [Act.put, Act.eval, List.setIfInBounds_toArray, List.set_cons_zero, List.set_cons_succ, Array.getD_eq_getD_getElem?, List.getElem?_toArray, List.getElem?_cons_zero, List.getElem?_cons_succ, Option.getD_some, List.getElem_toArray, List.getElem_cons_succ, List.getElem_cons_zero]; with_reducible rfl))
                apply ord_skip rfl rfl; (· (simp only [Act.put, Act.eval, List.setIfInBounds_toArray, List.set_cons_zero, List.set_cons_succ, Array.getD_eq_getD_getElem?, List.getElem?_toArray, List.getElem?_cons_zero, List.getElem?_cons_succ, Option.getD_some, List.getElem_toArray, List.getElem_cons_succ, List.getElem_cons_zero]; with_reducible rfl))
                apply ord_skip rfl rfl; (· (simp only [Act.put, Act.eval, List.setIfInBounds_toArray, List.set_cons_zero, List.set_cons_succ, Array.getD_eq_getD_getElem?, List.getElem?_toArray, List.getElem?_cons_zero, List.getElem?_cons_succ, Option.getD_some, List.getElem_toArray, List.getElem_cons_succ, List.getElem_cons_zero]; with_reducible rfl))
                apply ord_skip rfl rfl; (· (simp only [Act.put, Act.eval, List.setIfInBounds_toArray, List.set_cons_zero, List.set_cons_succ, Array.getD_eq_getD_getElem?, List.getElem?_toArray, List.getElem?_cons_zero, List.getElem?_cons_succ, Option.getD_some, List.getElem_toArray, List.getElem_cons_succ, List.getElem_cons_zero]; with_reducible rfl))
                apply ord_skip rfl rfl; (· (simp only [Act.put, Act.eval, List.setIfInBounds_toArray, List.set_cons_zero, List.set_cons_succ, Array.getD_eq_getD_getElem?, List.getElem?_toArray, List.getElem?_cons_zero, List.getElem?_cons_succ, Option.getD_some, List.getElem_toArray, List.getElem_cons_succ, List.getElem_cons_zero]; with_reducible rfl))
                apply ord_skip rfl rfl; (· (simp only [Act.put, Act.eval, List.setIfInBounds_toArray, List.set_cons_zero, List.set_cons_succ, Array.getD_eq_getD_getElem?, List.getElem?_toArray, List.getElem?_cons_zero, List.getElem?_cons_succ, Option.getD_some, List.getElem_toArray, List.getElem_cons_succ, List.getElem_cons_zero]; with_reducible rfl))
                apply ord_skip rfl rfl; (· (simp only [Act.put, Act.eval, List.setIfInBounds_toArray, List.set_cons_zero, List.set_cons_succ, Array.getD_eq_getD_getElem?, List.getElem?_toArray, List.getElem?_cons_zero, List.getElem?_cons_succ, Option.getD_some, List.getElem_toArray, List.getElem_cons_succ, List.getElem_cons_zero]; with_reducible rfl))
                apply ord_skip rfl rfl; (· (simp only [Act.put, Act.eval, List.setIfInBounds_toArray, List.set_cons_zero, List.set_cons_succ, Array.getD_eq_getD_getElem?, List.getElem?_toArray, List.getElem?_cons_zero, List.getElem?_cons_succ, Option.getD_some, List.getElem_toArray, List.getElem_cons_succ, List.getElem_cons_zero]; with_reducible rfl))
                apply ord_skip rfl rfl; (· (simp only [Act.put, Act.eval, List.setIfInBounds_toArray, List.set_cons_zero, List.set_cons_succ, Array.getD_eq_getD_getElem?, List.getElem?_toArray, List.getElem?_cons_zero, List.getElem?_cons_succ, Option.getD_some, List.getElem_toArray, List.getElem_cons_succ, List.getElem_cons_zero]; with_reducible rfl))
                apply ord_skip rfl rfl; (· (simp only [Act.put, Act.eval, List.setIfInBounds_toArray, List.set_cons_zero, List.set_cons_succ, Array.getD_eq_getD_getElem?, List.getElem?_toArray, List.getElem?_cons_zero, List.getElem?_cons_succ, Option.getD_some, List.getElem_toArray, List.getElem_cons_succ, List.getElem_cons_zero]; with_reducible rfl))
                apply ord_skip rfl rfl; (· (simp only [Act.put, Act.eval, List.setIfInBounds_toArray, List.set_cons_zero, List.set_cons_succ, Array.getD_eq_getD_getElem?, List.getElem?_toArray, List.getElem?_cons_zero, List.getElem?_cons_succ, Option.getD_some, List.getElem_toArray, List.getElem_cons_succ, List.getElem_cons_zero]; with_reducible rfl))
                apply ord_skip rfl rfl; (· (simp only [Act.put, Act.eval, List.setIfInBounds_toArray, List.set_cons_zero, List.set_cons_succ, Array.getD_eq_getD_getElem?, List.getElem?_toArray, List.getElem?_cons_zero, List.getElem?_cons_succ, Option.getD_some, List.getElem_toArray, List.getElem_cons_succ, List.getElem_cons_zero]; with_reducible rfl))
                apply ord_pure rfl rfl rfl; (· (intro w; go_simp; with_reducible rfl)); (· (simp only [Act.put, Act.eval, List.setIfInBounds_toArray, List.set_cons_zero, List.set_cons_succ, Array.getD_eq_getD_getElem?, List.getElem?_toArray, List.getElem?_cons_zero, List.getElem?_cons_succ, Option.getD_some, List.getElem_toArray, List.getElem_cons_succ, List.getElem_cons_zero]; with_reducible rfl))
                with_reducible refine ord_nil ?_
                go_wp2_with fail
                go_roundw
                case rel => exact ⟨j + 1, t2, by first | rfl | go_num, rfl, by omega, Lib.hid (by rw [htake.out, ← htH.out, ht2H.out]; rfl), hR21⟩
                case measure => first | (simp [intOf]; done) | (simp [intOf]; omega)
              | true =>
                cases hlx : lameB zone now ((st x).getD zeroP) with
                | true =>
                  go_upto_region 24 with (fail)
                  obtain ⟨wd2, hwd⟩ : ∃ d, wd.drew = d := ⟨_, rfl⟩
                  have hbd : Below wd.heap.size wd wd2 := by rw [← hwd]; exact (Below.refl _ _).drew
                  replace A0 := (hbd.cell (World.block_lt_of_cell? _ _ A0)).trans A0
                  replace A1 := (hbd.cell (World.block_lt_of_cell? _ _ A1)).trans A1
                  replace A2 := (hbd.cell (World.block_lt_of_cell? _ _ A2)).trans A2
                  replace c0 := (hbd.cell (World.block_lt_of_cell? _ _ c0)).trans c0
                  replace c1 := (hbd.cell (World.block_lt_of_cell? _ _ c1)).trans c1
                  replace c2 := (hbd.cell (World.block_lt_of_cell? _ _ c2)).trans c2
                  have hR20 := Lib.hid (hRj.out.read hbd)
                  clear hRj hbd
                  refine Rt.wp_region_ordM [0, 0, 0, 1, 2, 0, 0, 0, 0, 0, 1, 0, 0, 2, 0, 0, 0, 0, 1, 2, 0, 0, 0, 0, 1, 2, 0, 0, 0] [0, 1, 2, 3, 4, 5, 6, 7, 8, 9, 10, 11, 12, 13, 14, 15, 16, 17, 18, 20, 21, 22, 23, 24, 19, 25, 26, 27, 28] (by kernel_rfl) (by kernel_rfl) ?_
                  rw [hwd]
                  clear hwd
                  apply ord_move rfl rfl rfl rfl; (· (simp only [Act.put, Act.eval, List.setIfInBounds_toArray, List.set_cons_zero, List.set_cons_succ, Array.getD_eq_getD_getElem?, List.getElem?_toArray, List.getElem?_cons_zero, List.getElem?_cons_succ, Option.getD_some, List.getElem_toArray, List.getElem_cons_succ, List.getElem_cons_zero]; with_reducible rfl))
                  apply ord_move rfl rfl rfl rfl; (· (simp only [Act.put, Act.eval, List.setIfInBounds_toArray, List.set_cons_zero, List.set_cons_succ, Array.getD_eq_getD_getElem?, List.getElem?_toArray, List.getElem?_cons_zero, List.getElem?_cons_succ, Option.getD_some, List.getElem_toArray, List.getElem_cons_succ, List.getElem_cons_zero]; with_reducible rfl))
                  apply ord_pure rfl rfl rfl; (· (intro w; go_simp; with_reducible rfl)); (· (simp only [Act.put, Act.eval, List.setIfInBounds_toArray, List.set_cons_zero, List.set_cons_succ, Array.getD_eq_getD_getElem?, List.getElem?_toArray, List.getElem?_cons_zero, List.getElem?_cons_succ, Option.getD_some, List.getElem_toArray, List.getElem_cons_succ, List.getElem_cons_zero]; with_reducible rfl))
                  apply ord_read rfl rfl rfl; (· (intro W hW; have g0 := cell_up hW A0; have g1 := cell_up hW A1; have g2 := cell_up hW A2; have g3 := cell_up hW c0; have g4 := cell_up hW c1; have g5 := cell_up hW c2; go_simp; with_reducible rfl)); (· (simp only [Act.put, Act.eval, List.setIfInBounds_toArray, List.set_cons_zero, List.set_cons_succ, Array.getD_eq_getD_getElem?, List.getElem?_toArray, List.getElem?_cons_zero, List.getElem?_cons_succ, Option.getD_some, List.getElem_toArray, List.getElem_cons_succ, List.getElem_cons_zero]; with_reducible rfl))
                  refine ord_call rfl rfl rfl (by go_simp; exact ⟨rfl, rfl⟩) ?_
                  refine ((show Calls Try.prog 14 #[.agg #[.bool x.v6, .int .u64 x.hi, .int .u64 x.lo]] _ _ from RightA_any _ x hxok)).mono ?_
                  rw [hrx]
                  rintro e w21 ⟨rfl, hb21⟩
                  refine ⟨_, rfl, hb21, ?_⟩
                  have hR21 := Lib.hid (hR20.out.read hb21)
                  replace A0 := (hb21.cell (World.block_lt_of_cell? _ _ A0)).trans A0
                  replace A1 := (hb21.cell (World.block_lt_of_cell? _ _ A1)).trans A1
                  replace A2 := (hb21.cell (World.block_lt_of_cell? _ _ A2)).trans A2
                  replace c0 := (hb21.cell (World.block_lt_of_cell? _ _ c0)).trans c0
                  replace c1 := (hb21.cell (World.block_lt_of_cell? _ _ c1)).trans c1
                  replace c2 := (hb21.cell (World.block_lt_of_cell? _ _ c2)).trans c2
                  simp only [Act.put, Act.eval, List.setIfInBounds_toArray, List.set_cons_zero, List.set_cons_succ, Array.getD_eq_getD_getElem?, List.getElem?_toArray, List.getElem?_cons_zero, List.getElem?_cons_succ, Option.getD_some, List.getElem_toArray, List.getElem_cons_succ, List.getElem_cons_zero]
                  apply ord_move rfl rfl rfl rfl; (· (simp only [Act.put, Act.eval, List.setIfInBounds_toArray, List.set_cons_zero, List.set_cons_succ, Array.getD_eq_getD_getElem?, List.getElem?_toArray, List.getElem?_cons_zero, List.getElem?_cons_succ, Option.getD_some, List.getElem_toArray, List.getElem_cons_succ, List.getElem_cons_zero]; with_reducible rfl))
                  apply ord_pure rfl rfl rfl; (· (intro w; go_simp; with_reducible rfl)); (· (simp only [Act.put, Act.eval, List.setIfInBounds_toArray, List.set_cons_zero, List.set_cons_succ, Array.getD_eq_getD_getElem?, List.getElem?_toArray, List.getElem?_cons_zero, List.getElem?_cons_succ, Option.getD_some, List.getElem_toArray, List.getElem_cons_succ, List.getElem_cons_zero]; with_reducible rfl))
                  apply ord_pure rfl rfl rfl; (· (intro w; go_simp; with_reducible rfl)); (· (simp only [Act.put, Act.eval, List.setIfInBounds_toArray, List.set_cons_zero, List.set_cons_succ, Array.getD_eq_getD_getElem?, List.getElem?_toArray, List.getElem?_cons_zero, List.getElem?_cons_succ, Option.getD_some, List.getElem_toArray, List.getElem_cons_succ, List.getElem_cons_zero]; with_reducible rfl))
                  apply ord_pure rfl rfl rfl; (· (intro w; go_simp; with_reducible rfl)); (· (simp only [Act.put, Act.eval, List.setIfInBounds_toArray, List.set_cons_zero, List.set_cons_succ, Array.getD_eq_getD_getElem?, List.getElem?_toArray, List.getElem?_cons_zero, List.getElem?_cons_succ, Option.getD_some, List.getElem_toArray, List.getElem_cons_succ, List.getElem_cons_zero]; with_reducible rfl))
                  apply ord_pure rfl rfl rfl; (· (intro w; go_simp; with_reducible rfl)); (· (simp only [Act.put, Act.eval, List.setIfInBounds_toArray, List.set_cons_zero, List.set_cons_succ, Array.getD_eq_getD_getElem?, List.getElem?_toArray, List.getElem?_cons_zero, List.getElem?_cons_succ, Option.getD_some, List.getElem_toArray, List.getElem_cons_succ, List.getElem_cons_zero]; with_reducible rfl))
                  apply ord_read rfl rfl rfl; (· (intro W hW; have g0 := cell_up hW A0; have g1 := cell_up hW A1; have g2 := cell_up hW A2; have g3 := cell_up hW c0; have g4 := cell_up hW c1; have g5 := cell_up hW c2; go_simp; with_reducible rfl)); (· (simp only [Act.put, Act.eval, List.setIfInBounds_toArray, List.set_cons_zero, List.set_cons_succ, Array.getD_eq_getD_getElem?, List.getElem?_toArray, List.getElem?_cons_zero, List.getElem?_cons_succ, Option.getD_some, List.getElem_toArray, List.getElem_cons_succ, List.getElem_cons_zero]; with_reducible rfl))
                  apply ord_pure rfl rfl rfl; (· (intro w; go_simp; with_reducible rfl)); (· (simp only [Act.put, Act.eval, List.setIfInBounds_toArray, List.set_cons_zero, List.set_cons_succ, Array.getD_eq_getD_getElem?, List.getElem?_toArray, List.getElem?_cons_zero, List.getElem?_cons_succ, Option.getD_some, List.getElem_toArray, List.getElem_cons_succ, List.getElem_cons_zero]; with_reducible rfl))
                  apply ord_pure rfl rfl rfl; (· (intro w; go_simp; with_reducible rfl)); (· (simp only [Act.put, Act.eval, List.setIfInBounds_toArray, List.set_cons_zero, List.set_cons_succ, Array.getD_eq_getD_getElem?, List.getElem?_toArray, List.getElem?_cons_zero, List.getElem?_cons_succ, Option.getD_some, List.getElem_toArray, List.getElem_cons_succ, List.getElem_cons_zero]; with_reducible rfl))
                  refine ord_call rfl rfl rfl (by go_simp; exact ⟨rfl, rfl⟩) ?_
                  refine ((show Calls Try.prog 15 #[.pointer (some ⟨xb, 0, none⟩), .agg #[.bool x.v6, .int .u64 x.hi, .int .u64 x.lo], .string zone, .int .i64 now] _ _ from Lame_P (a := x) hR21.out.inf hxok zone hz now)).mono ?_
                  rw [hlx]
                  rintro e w22 ⟨rfl, hb22⟩
                  refine ⟨_, rfl, hb22, ?_⟩
                  have hR22 := Lib.hid (hR21.out.read hb22)
                  replace A0 := (hb22.cell (World.block_lt_of_cell? _ _ A0)).trans A0
                  replace A1 := (hb22.cell (World.block_lt_of_cell? _ _ A1)).trans A1
                  replace A2 := (hb22.cell (World.block_lt_of_cell? _ _ A2)).trans A2
                  replace c0 := (hb22.cell (World.block_lt_of_cell? _ _ c0)).trans c0
                  replace c1 := (hb22.cell (World.block_lt_of_cell? _ _ c1)).trans c1
                  replace c2 := (hb22.cell (World.block_lt_of_cell? _ _ c2)).trans c2
                  simp only [Act.put, Act.eval, List.setIfInBounds_toArray, List.set_cons_zero, List.set_cons_succ, Array.getD_eq_getD_getElem?, List.getElem?_toArray, List.getElem?_cons_zero, List.getElem?_cons_succ, Option.getD_some, List.getElem_toArray, List.getElem_cons_succ, List.getElem_cons_zero]
                  apply ord_pure rfl rfl rfl; (· (intro w; go_simp; with_reducible rfl)); (· (simp only [Act.put, Act.eval, List.setIfInBounds_toArray, List.set_cons_zero, List.set_cons_succ, Array.getD_eq_getD_getElem?, List.getElem?_toArray, List.getElem?_cons_zero, List.getElem?_cons_succ, Option.getD_some, List.getElem_toArray, List.getElem_cons_succ, List.getElem_cons_zero]; with_reducible rfl))
                  apply ord_pure rfl rfl rfl; (· (intro w; go_simp; with_reducible rfl)); (· (simp only [Act.put, Act.eval, List.setIfInBounds_toArray, List.set_cons_zero, List.set_cons_succ, Array.getD_eq_getD_getElem?, List.getElem?_toArray, List.getElem?_cons_zero, List.getElem?_cons_succ, Option.getD_some, List.getElem_toArray, List.getElem_cons_succ, List.getElem_cons_zero]; with_reducible rfl))
                  apply ord_move rfl rfl rfl rfl; (· (simp only [Act.put, Act.eval, List.setIfInBounds_toArray, List.set_cons_zero, List.set_cons_succ, Array.getD_eq_getD_getElem?, List.getElem?_toArray, List.getElem?_cons_zero, List.getElem?_cons_succ, Option.getD_some, List.getElem_toArray, List.getElem_cons_succ, List.getElem_cons_zero]; with_reducible rfl))
                  apply ord_skip rfl rfl; (· (simp only [Act.put, Act.eval, List.setIfInBounds_toArray, List.set_cons_zero, List.set_cons_succ, Array.getD_eq_getD_getElem?, List.getElem?_toArray, List.getElem?_cons_zero, List.getElem?_cons_succ, Option.getD_some, List.getElem_toArray, List.getElem_cons_succ, List.getElem_cons_zero]; with_reducible rfl))
                  apply ord_skip rfl rfl; (· (simp only [Act.put, Act.eval, List.setIfInBounds_toArray, List.set_cons_zero, List.set_cons_succ, Array.getD_eq_getD_getElem?, List.getElem?_toArray, List.getElem?_cons_zero, List.getElem?_cons_succ, Option.getD_some, List.getElem_toArray, List.getElem_cons_succ, List.getElem_cons_zero]; with_reducible rfl))
                  apply ord_skip rfl rfl; (· (simp only [Act.put, Act.eval, List.setIfInBounds_toArray, List.set_cons_zero, List.set_cons_succ, Array.getD_eq_getD_getElem?, List.getElem?_toArray, List.getElem?_cons_zero, List.getElem?_cons_succ, Option.getD_some, List.getElem_toArray, List.getElem_cons_succ, List.getElem_cons_zero]; with_reducible rfl))
                  apply ord_skip rfl rfl; (· (simp only [Act.put, Act.eval, List.setIfInBounds_toArray, List.set_cons_zero, List.set_cons_succ, Array.getD_eq_getD_getElem?, List.getElem?_toArray, List.getElem?_cons_zero, List.getElem?_cons_succ, Option.getD_some, List.getElem_toArray, List.getElem_cons_succ, List.getElem_cons_zero]; with_reducible rfl))
                  apply ord_skip rfl rfl; (· (simp only [Act.put, Act.eval, List.setIfInBounds_toArray, List.set_cons_zero, List.set_cons_succ, Array.getD_eq_getD_getElem?, List.getElem?_toArray, List.getElem?_cons_zero, List.getElem?_cons_succ, Option.getD_some, List.getElem_toArray, List.getElem_cons_succ, List.getElem_cons_zero]; with_reducible rfl))
                  apply ord_skip rfl rfl; (· (simp only [Act.put, Act.eval, List.setIfInBounds_toArray, List.set_cons_zero, List.set_cons_succ, Array.getD_eq_getD_getElem?, List.getElem?_toArray, List.getElem?_cons_zero, List.getElem?_cons_succ, Option.getD_some, List.getElem_toArray, List.getElem_cons_succ, List.getElem_cons_zero]; with_reducible rfl))
                  apply ord_skip rfl rfl; (· (simp only [Act.put, Act.eval, List.setIfInBounds_toArray, List.set_cons_zero, List.set_cons_succ, Array.getD_eq_getD_getElem?, List.getElem?_toArray, List.getElem?_cons_zero, List.getElem?_cons_succ, Option.getD_some, List.getElem_toArray, List.getElem_cons_succ, List.getElem_cons_zero]; with_reducible rfl))
                  apply ord_skip rfl rfl; (· (simp only [Act.put, Act.eval, List.setIfInBounds_toArray, List.set_cons_zero, List.set_cons_succ, Array.getD_eq_getD_getElem?, List.getElem?_toArray, List.getElem?_cons_zero, List.getElem?_cons_succ, Option.getD_some, List.getElem_toArray, List.getElem_cons_succ, List.getElem_cons_zero]; with_reducible rfl))
                  apply ord_skip rfl rfl; (· (simp only [Act.put, Act.eval, List.setIfInBounds_toArray, List.set_cons_zero, List.set_cons_succ, Array.getD_eq_getD_getElem?, List.getElem?_toArray, List.getElem?_cons_zero, List.getElem?_cons_succ, Option.getD_some, List.getElem_toArray, List.getElem_cons_succ, List.getElem_cons_zero]; with_reducible rfl))
                  apply ord_skip rfl rfl; (· (simp only [Act.put, Act.eval, List.setIfInBounds_toArray, List.set_cons_zero, List.set_cons_succ, Array.getD_eq_getD_getElem?, List.getElem?_toArray, List.getElem?_cons_zero, List.getElem?_cons_succ, Option.getD_some, List.getElem_toArray, List.getElem_cons_succ, List.getElem_cons_zero]; with_reducible rfl))
                  apply ord_skip rfl rfl; (· (simp only [Act.put, Act.eval, List.setIfInBounds_toArray, List.set_cons_zero, List.set_cons_succ, Array.getD_eq_getD_getElem?, List.getElem?_toArray, List.getElem?_cons_zero, List.getElem?_cons_succ, Option.getD_some, List.getElem_toArray, List.getElem_cons_succ, List.getElem_cons_zero]; with_reducible rfl))
                  apply ord_pure rfl rfl rfl; (· (intro w; go_simp; with_reducible rfl)); (· (simp only [Act.put, Act.eval, List.setIfInBounds_toArray, List.set_cons_zero, List.set_cons_succ, Array.getD_eq_getD_getElem?, List.getElem?_toArray, List.getElem?_cons_zero, List.getElem?_cons_succ, Option.getD_some, List.getElem_toArray, List.getElem_cons_succ, List.getElem_cons_zero]; with_reducible rfl))
                  with_reducible refine ord_nil ?_
                  go_wp2_with fail
                  go_roundw
                  case rel => exact ⟨j + 1, t2, by first | rfl | go_num, rfl, by omega, Lib.hid (by rw [htake.out, ← htH.out, ht2H.out]; rfl), hR22⟩
                  case measure => first | (simp [intOf]; done) | (simp [intOf]; omega)
                | false =>
                  have hT := hmin.out x (hxH.out ▸ ga_mem hjl) hrx hlx
                  have hTx := toP_bd ((st x).getD zeroP)
                  obtain ⟨T1, hT1⟩ : ∃ y, toP ((st ca).getD zeroP) = y := ⟨_, rfl⟩
                  obtain ⟨T2, hT2⟩ : ∃ y, toP ((st x).getD zeroP) = y := ⟨_, rfl⟩
                  rw [hT1, hT2] at hT
                  rw [hT2] at hTx
                  have hT1H := Lib.hid hT1
                  have hT2H := Lib.hid hT2
                  have hw4 := If.wr (show -9223372036854775808 ≤ T2 + 400 by omega) (by omega)
                  have hgt : ¬ T2 + 400 < T1 := by omega
                  clear hT1 hT2 hT hTx
                  go_upto_region 24 with (fail)
                  obtain ⟨wd2, hwd⟩ : ∃ d, wd.drew = d := ⟨_, rfl⟩
                  have hbd : Below wd.heap.size wd wd2 := by rw [← hwd]; exact (Below.refl _ _).drew
                  replace A0 := (hbd.cell (World.block_lt_of_cell? _ _ A0)).trans A0
                  replace A1 := (hbd.cell (World.block_lt_of_cell? _ _ A1)).trans A1
                  replace A2 := (hbd.cell (World.block_lt_of_cell? _ _ A2)).trans A2
                  replace c0 := (hbd.cell (World.block_lt_of_cell? _ _ c0)).trans c0
                  replace c1 := (hbd.cell (World.block_lt_of_cell? _ _ c1)).trans c1
                  replace c2 := (hbd.cell (World.block_lt_of_cell? _ _ c2)).trans c2
                  have hR20 := Lib.hid (hRj.out.read hbd)
                  clear hRj hbd
                  refine Rt.wp_region_ordM [0, 0, 0, 1, 2, 0, 0, 0, 0, 0, 1, 0, 0, 2, 0, 0, 0, 0, 1, 2, 0, 0, 0, 0, 1, 2, 0, 0, 0] [0, 1, 2, 3, 4, 5, 6, 7, 8, 9, 10, 11, 12, 13, 14, 15, 16, 17, 18, 20, 21, 22, 23, 24, 19, 25, 26, 27, 28] (by kernel_rfl) (by kernel_rfl) ?_
                  rw [hwd]
                  clear hwd
                  apply ord_move rfl rfl rfl rfl; (· (simp only [Act.put, Act.eval, List.setIfInBounds_toArray, List.set_cons_zero, List.set_cons_succ, Array.getD_eq_getD_getElem?, List.getElem?_toArray, List.getElem?_cons_zero, List.getElem?_cons_succ, Option.getD_some, List.getElem_toArray, List.getElem_cons_succ, List.getElem_cons_zero]; with_reducible rfl))
                  apply ord_move rfl rfl rfl rfl; (· (simp only [Act.put, Act.eval, List.setIfInBounds_toArray, List.set_cons_zero, List.set_cons_succ, Array.getD_eq_getD_getElem?, List.getElem?_toArray, List.getElem?_cons_zero, List.getElem?_cons_succ, Option.getD_some, List.getElem_toArray, List.getElem_cons_succ, List.getElem_cons_zero]; with_reducible rfl))
                  apply ord_pure rfl rfl rfl; (· (intro w; go_simp; with_reducible rfl)); (· (simp only [Act.put, Act.eval, List.setIfInBounds_toArray, List.set_cons_zero, List.set_cons_succ, Array.getD_eq_getD_getElem?, List.getElem?_toArray, List.getElem?_cons_zero, List.getElem?_cons_succ, Option.getD_some, List.getElem_toArray, List.getElem_cons_succ, List.getElem_cons_zero]; with_reducible rfl))
                  apply ord_read rfl rfl rfl; (· (intro W hW; have g0 := cell_up hW A0; have g1 := cell_up hW A1; have g2 := cell_up hW A2; have g3 := cell_up hW c0; have g4 := cell_up hW c1; have g5 := cell_up hW c2; go_simp; with_reducible rfl)); (· (simp only [Act.put, Act.eval, List.setIfInBounds_toArray, List.set_cons_zero, List.set_cons_succ, Array.getD_eq_getD_getElem?, List.getElem?_toArray, List.getElem?_cons_zero, List.getElem?_cons_succ, Option.getD_some, List.getElem_toArray, List.getElem_cons_succ, List.getElem_cons_zero]; with_reducible rfl))
                  refine ord_call rfl rfl rfl (by go_simp; exact ⟨rfl, rfl⟩) ?_
                  refine ((show Calls Try.prog 14 #[.agg #[.bool x.v6, .int .u64 x.hi, .int .u64 x.lo]] _ _ from RightA_any _ x hxok)).mono ?_
                  rw [hrx]
                  rintro e w21 ⟨rfl, hb21⟩
                  refine ⟨_, rfl, hb21, ?_⟩
                  have hR21 := Lib.hid (hR20.out.read hb21)
                  replace A0 := (hb21.cell (World.block_lt_of_cell? _ _ A0)).trans A0
                  replace A1 := (hb21.cell (World.block_lt_of_cell? _ _ A1)).trans A1
                  replace A2 := (hb21.cell (World.block_lt_of_cell? _ _ A2)).trans A2
                  replace c0 := (hb21.cell (World.block_lt_of_cell? _ _ c0)).trans c0
                  replace c1 := (hb21.cell (World.block_lt_of_cell? _ _ c1)).trans c1
                  replace c2 := (hb21.cell (World.block_lt_of_cell? _ _ c2)).trans c2
                  simp only [Act.put, Act.eval, List.setIfInBounds_toArray, List.set_cons_zero, List.set_cons_succ, Array.getD_eq_getD_getElem?, List.getElem?_toArray, List.getElem?_cons_zero, List.getElem?_cons_succ, Option.getD_some, List.getElem_toArray, List.getElem_cons_succ, List.getElem_cons_zero]
                  apply ord_move rfl rfl rfl rfl; (· (simp only [Act.put, Act.eval, List.setIfInBounds_toArray, List.set_cons_zero, List.set_cons_succ, Array.getD_eq_getD_getElem?, List.getElem?_toArray, List.getElem?_cons_zero, List.getElem?_cons_succ, Option.getD_some, List.getElem_toArray, List.getElem_cons_succ, List.getElem_cons_zero]; with_reducible rfl))
                  apply ord_pure rfl rfl rfl; (· (intro w; go_simp; with_reducible rfl)); (· (simp only [Act.put, Act.eval, List.setIfInBounds_toArray, List.set_cons_zero, List.set_cons_succ, Array.getD_eq_getD_getElem?, List.getElem?_toArray, List.getElem?_cons_zero, List.getElem?_cons_succ, Option.getD_some, List.getElem_toArray, List.getElem_cons_succ, List.getElem_cons_zero]; with_reducible rfl))
                  apply ord_pure rfl rfl rfl; (· (intro w; go_simp; with_reducible rfl)); (· (simp only [Act.put, Act.eval, List.setIfInBounds_toArray, List.set_cons_zero, List.set_cons_succ, Array.getD_eq_getD_getElem?, List.getElem?_toArray, List.getElem?_cons_zero, List.getElem?_cons_succ, Option.getD_some, List.getElem_toArray, List.getElem_cons_succ, List.getElem_cons_zero]; with_reducible rfl))
                  apply ord_pure rfl rfl rfl; (· (intro w; go_simp; with_reducible rfl)); (· (simp only [Act.put, Act.eval, List.setIfInBounds_toArray, List.set_cons_zero, List.set_cons_succ, Array.getD_eq_getD_getElem?, List.getElem?_toArray, List.getElem?_cons_zero, List.getElem?_cons_succ, Option.getD_some, List.getElem_toArray, List.getElem_cons_succ, List.getElem_cons_zero]; with_reducible rfl))
                  apply ord_pure rfl rfl rfl; (· (intro w; go_simp; with_reducible rfl)); (· (simp only [Act.put, Act.eval, List.setIfInBounds_toArray, List.set_cons_zero, List.set_cons_succ, Array.getD_eq_getD_getElem?, List.getElem?_toArray, List.getElem?_cons_zero, List.getElem?_cons_succ, Option.getD_some, List.getElem_toArray, List.getElem_cons_succ, List.getElem_cons_zero]; with_reducible rfl))
                  apply ord_read rfl rfl rfl; (· (intro W hW; have g0 := cell_up hW A0; have g1 := cell_up hW A1; have g2 := cell_up hW A2; have g3 := cell_up hW c0; have g4 := cell_up hW c1; have g5 := cell_up hW c2; go_simp; with_reducible rfl)); (· (simp only [Act.put, Act.eval, List.setIfInBounds_toArray, List.set_cons_zero, List.set_cons_succ, Array.getD_eq_getD_getElem?, List.getElem?_toArray, List.getElem?_cons_zero, List.getElem?_cons_succ, Option.getD_some, List.getElem_toArray, List.getElem_cons_succ, List.getElem_cons_zero]; with_reducible rfl))
                  apply ord_pure rfl rfl rfl; (· (intro w; go_simp; with_reducible rfl)); (· (simp only [Act.put, Act.eval, List.setIfInBounds_toArray, List.set_cons_zero, List.set_cons_succ, Array.getD_eq_getD_getElem?, List.getElem?_toArray, List.getElem?_cons_zero, List.getElem?_cons_succ, Option.getD_some, List.getElem_toArray, List.getElem_cons_succ, List.getElem_cons_zero]; with_reducible rfl))
                  apply ord_pure rfl rfl rfl; (· (intro w; go_simp; with_reducible rfl)); (· (simp only [Act.put, Act.eval, List.setIfInBounds_toArray, List.set_cons_zero, List.set_cons_succ, Array.getD_eq_getD_getElem?, List.getElem?_toArray, List.getElem?_cons_zero, List.getElem?_cons_succ, Option.getD_some, List.getElem_toArray, List.getElem_cons_succ, List.getElem_cons_zero]; with_reducible rfl))
                  refine ord_call rfl rfl rfl (by go_simp; exact ⟨rfl, rfl⟩) ?_
                  refine ((show Calls Try.prog 15 #[.pointer (some ⟨xb, 0, none⟩), .agg #[.bool x.v6, .int .u64 x.hi, .int .u64 x.lo], .string zone, .int .i64 now] _ _ from Lame_P (a := x) hR21.out.inf hxok zone hz now)).mono ?_
                  rw [hlx]
                  rintro e w22 ⟨rfl, hb22⟩
                  refine ⟨_, rfl, hb22, ?_⟩
                  have hR22 := Lib.hid (hR21.out.read hb22)
                  replace A0 := (hb22.cell (World.block_lt_of_cell? _ _ A0)).trans A0
                  replace A1 := (hb22.cell (World.block_lt_of_cell? _ _ A1)).trans A1
                  replace A2 := (hb22.cell (World.block_lt_of_cell? _ _ A2)).trans A2
                  replace c0 := (hb22.cell (World.block_lt_of_cell? _ _ c0)).trans c0
                  replace c1 := (hb22.cell (World.block_lt_of_cell? _ _ c1)).trans c1
                  replace c2 := (hb22.cell (World.block_lt_of_cell? _ _ c2)).trans c2
                  simp only [Act.put, Act.eval, List.setIfInBounds_toArray, List.set_cons_zero, List.set_cons_succ, Array.getD_eq_getD_getElem?, List.getElem?_toArray, List.getElem?_cons_zero, List.getElem?_cons_succ, Option.getD_some, List.getElem_toArray, List.getElem_cons_succ, List.getElem_cons_zero]
                  apply ord_pure rfl rfl rfl; (· (intro w; go_simp; with_reducible rfl)); (· (simp only [Act.put, Act.eval, List.setIfInBounds_toArray, List.set_cons_zero, List.set_cons_succ, Array.getD_eq_getD_getElem?, List.getElem?_toArray, List.getElem?_cons_zero, List.getElem?_cons_succ, Option.getD_some, List.getElem_toArray, List.getElem_cons_succ, List.getElem_cons_zero]; with_reducible rfl))
                  apply ord_pure rfl rfl rfl; (· (intro w; go_simp; with_reducible rfl)); (· (simp only [Act.put, Act.eval, List.setIfInBounds_toArray, List.set_cons_zero, List.set_cons_succ, Array.getD_eq_getD_getElem?, List.getElem?_toArray, List.getElem?_cons_zero, List.getElem?_cons_succ, Option.getD_some, List.getElem_toArray, List.getElem_cons_succ, List.getElem_cons_zero]; with_reducible rfl))
                  apply ord_move rfl rfl rfl rfl; (· (simp only [Act.put, Act.eval, List.setIfInBounds_toArray, List.set_cons_zero, List.set_cons_succ, Array.getD_eq_getD_getElem?, List.getElem?_toArray, List.getElem?_cons_zero, List.getElem?_cons_succ, Option.getD_some, List.getElem_toArray, List.getElem_cons_succ, List.getElem_cons_zero]; with_reducible rfl))
                  apply ord_pure rfl rfl rfl; (· (intro w; go_simp; with_reducible rfl)); (· (simp only [Act.put, Act.eval, List.setIfInBounds_toArray, List.set_cons_zero, List.set_cons_succ, Array.getD_eq_getD_getElem?, List.getElem?_toArray, List.getElem?_cons_zero, List.getElem?_cons_succ, Option.getD_some, List.getElem_toArray, List.getElem_cons_succ, List.getElem_cons_zero]; with_reducible rfl))
                  apply ord_read rfl rfl rfl; (· (intro W hW; have g0 := cell_up hW A0; have g1 := cell_up hW A1; have g2 := cell_up hW A2; have g3 := cell_up hW c0; have g4 := cell_up hW c1; have g5 := cell_up hW c2; go_simp; with_reducible rfl)); (· (simp only [Act.put, Act.eval, List.setIfInBounds_toArray, List.set_cons_zero, List.set_cons_succ, Array.getD_eq_getD_getElem?, List.getElem?_toArray, List.getElem?_cons_zero, List.getElem?_cons_succ, Option.getD_some, List.getElem_toArray, List.getElem_cons_succ, List.getElem_cons_zero]; with_reducible rfl))
                  apply ord_pure rfl rfl rfl; (· (intro w; go_simp; with_reducible rfl)); (· (simp only [Act.put, Act.eval, List.setIfInBounds_toArray, List.set_cons_zero, List.set_cons_succ, Array.getD_eq_getD_getElem?, List.getElem?_toArray, List.getElem?_cons_zero, List.getElem?_cons_succ, Option.getD_some, List.getElem_toArray, List.getElem_cons_succ, List.getElem_cons_zero]; with_reducible rfl))
                  apply ord_pure rfl rfl rfl; (· (intro w; go_simp; with_reducible rfl)); (· (simp only [Act.put, Act.eval, List.setIfInBounds_toArray, List.set_cons_zero, List.set_cons_succ, Array.getD_eq_getD_getElem?, List.getElem?_toArray, List.getElem?_cons_zero, List.getElem?_cons_succ, Option.getD_some, List.getElem_toArray, List.getElem_cons_succ, List.getElem_cons_zero]; with_reducible rfl))
                  apply ord_pure rfl rfl rfl; (· (intro w; go_simp; with_reducible rfl)); (· (simp only [Act.put, Act.eval, List.setIfInBounds_toArray, List.set_cons_zero, List.set_cons_succ, Array.getD_eq_getD_getElem?, List.getElem?_toArray, List.getElem?_cons_zero, List.getElem?_cons_succ, Option.getD_some, List.getElem_toArray, List.getElem_cons_succ, List.getElem_cons_zero]; with_reducible rfl))
                  apply ord_pure rfl rfl rfl; (· (intro w; go_simp; with_reducible rfl)); (· (simp only [Act.put, Act.eval, List.setIfInBounds_toArray, List.set_cons_zero, List.set_cons_succ, Array.getD_eq_getD_getElem?, List.getElem?_toArray, List.getElem?_cons_zero, List.getElem?_cons_succ, Option.getD_some, List.getElem_toArray, List.getElem_cons_succ, List.getElem_cons_zero]; with_reducible rfl))
                  apply ord_read rfl rfl rfl; (· (intro W hW; have g0 := cell_up hW A0; have g1 := cell_up hW A1; have g2 := cell_up hW A2; have g3 := cell_up hW c0; have g4 := cell_up hW c1; have g5 := cell_up hW c2; go_simp; with_reducible rfl)); (· (simp only [Act.put, Act.eval, List.setIfInBounds_toArray, List.set_cons_zero, List.set_cons_succ, Array.getD_eq_getD_getElem?, List.getElem?_toArray, List.getElem?_cons_zero, List.getElem?_cons_succ, Option.getD_some, List.getElem_toArray, List.getElem_cons_succ, List.getElem_cons_zero]; with_reducible rfl))
                  refine ord_call rfl rfl rfl (by go_simp; exact ⟨rfl, rfl⟩) ?_
                  refine ((show Calls Try.prog 16 #[.pointer (some ⟨xb, 0, none⟩), .agg #[.bool ca.v6, .int .u64 ca.hi, .int .u64 ca.lo]] _ _ from Timeout_P (a := ca) hR22.out.inf hcaok)).mono ?_
                  rw [hT1H.out]
                  rintro e w23 ⟨rfl, hb23⟩
                  refine ⟨_, rfl, hb23, ?_⟩
                  have hR23 := Lib.hid (hR22.out.read hb23)
                  replace A0 := (hb23.cell (World.block_lt_of_cell? _ _ A0)).trans A0
                  replace A1 := (hb23.cell (World.block_lt_of_cell? _ _ A1)).trans A1
                  replace A2 := (hb23.cell (World.block_lt_of_cell? _ _ A2)).trans A2
                  replace c0 := (hb23.cell (World.block_lt_of_cell? _ _ c0)).trans c0
                  replace c1 := (hb23.cell (World.block_lt_of_cell? _ _ c1)).trans c1
                  replace c2 := (hb23.cell (World.block_lt_of_cell? _ _ c2)).trans c2
                  simp only [Act.put, Act.eval, List.setIfInBounds_toArray, List.set_cons_zero, List.set_cons_succ, Array.getD_eq_getD_getElem?, List.getElem?_toArray, List.getElem?_cons_zero, List.getElem?_cons_succ, Option.getD_some, List.getElem_toArray, List.getElem_cons_succ, List.getElem_cons_zero]
                  refine ord_call rfl rfl rfl (by go_simp; exact ⟨rfl, rfl⟩) ?_
                  refine ((show Calls Try.prog 16 #[.pointer (some ⟨xb, 0, none⟩), .agg #[.bool x.v6, .int .u64 x.hi, .int .u64 x.lo]] _ _ from Timeout_P (a := x) hR23.out.inf hxok)).mono ?_
                  rw [hT2H.out]
                  rintro e w24 ⟨rfl, hb24⟩
                  refine ⟨_, rfl, hb24, ?_⟩
                  have hR24 := Lib.hid (hR23.out.read hb24)
                  replace A0 := (hb24.cell (World.block_lt_of_cell? _ _ A0)).trans A0
                  replace A1 := (hb24.cell (World.block_lt_of_cell? _ _ A1)).trans A1
                  replace A2 := (hb24.cell (World.block_lt_of_cell? _ _ A2)).trans A2
                  replace c0 := (hb24.cell (World.block_lt_of_cell? _ _ c0)).trans c0
                  replace c1 := (hb24.cell (World.block_lt_of_cell? _ _ c1)).trans c1
                  replace c2 := (hb24.cell (World.block_lt_of_cell? _ _ c2)).trans c2
                  simp only [Act.put, Act.eval, List.setIfInBounds_toArray, List.set_cons_zero, List.set_cons_succ, Array.getD_eq_getD_getElem?, List.getElem?_toArray, List.getElem?_cons_zero, List.getElem?_cons_succ, Option.getD_some, List.getElem_toArray, List.getElem_cons_succ, List.getElem_cons_zero]
                  apply ord_pure rfl rfl rfl; (· (intro w; go_simp; with_reducible rfl)); (· (simp only [Act.put, Act.eval, List.setIfInBounds_toArray, List.set_cons_zero, List.set_cons_succ, Array.getD_eq_getD_getElem?, List.getElem?_toArray, List.getElem?_cons_zero, List.getElem?_cons_succ, Option.getD_some, List.getElem_toArray, List.getElem_cons_succ, List.getElem_cons_zero]; with_reducible rfl))
                  apply ord_pure rfl rfl rfl; (· (intro w; go_simp; with_reducible rfl)); (· (simp only [Act.put, Act.eval, List.setIfInBounds_toArray, List.set_cons_zero, List.set_cons_succ, Array.getD_eq_getD_getElem?, List.getElem?_toArray, List.getElem?_cons_zero, List.getElem?_cons_succ, Option.getD_some, List.getElem_toArray, List.getElem_cons_succ, List.getElem_cons_zero]; with_reducible rfl))
                  apply ord_pure rfl rfl rfl; (· (intro w; go_simp; with_reducible rfl)); (· (simp only [Act.put, Act.eval, List.setIfInBounds_toArray, List.set_cons_zero, List.set_cons_succ, Array.getD_eq_getD_getElem?, List.getElem?_toArray, List.getElem?_cons_zero, List.getElem?_cons_succ, Option.getD_some, List.getElem_toArray, List.getElem_cons_succ, List.getElem_cons_zero]; with_reducible rfl))
                  with_reducible refine ord_nil ?_
                  go_wp2_with fail
                  go_roundw
                  case rel => exact ⟨j + 1, t2, by first | rfl | go_num, rfl, by omega, Lib.hid (by rw [htake.out, ← htH.out, ht2H.out]; rfl), hR24⟩
                  case measure => first | (simp [intOf]; done) | (simp [intOf]; omega)
          · have hjn : j = nl := by omega
            have htt : t = true := by
              rw [htH.out, hjn, ← hnlH.out, List.take_length]
              exact decide_eq_true hmemH.out
            subst htt
            clear hjn htH
            go_wp2_with fail
            go_loopw [21] (fun vj w8 => ∃ (k : Nat), vj = .int .i64 k ∧ k ≤ nb ∧ Hid (CR w w8 xb st m ab ca (.slice ba nb bc) bl)) (fun vj _ => nb - (intOf vj).toNat)
            case atStart => exact ⟨0, rfl, Nat.zero_le _, hRj⟩
            case round =>
              obtain ⟨k, rfl, hk, hRk⟩ := hrel
              clear hRj A0 A1 A2
              by_cases hlk : (k : Int) < nb
              · have hkn : k < nb := by omega
                have hlen2 := hblen.out
                have hnl2 := hnlH.out
                have hll' := hll.out
                have hCh := Lib.hid (Choose_P hRk.out.inf (hvH.out.below hRk.out.bel) hokH.out hlH.out zone hz (k : Int) now ⟨by omega, by omega⟩)
                rw [hat.out k hkn] at hCh
                simp only at hCh
                have hkb : k < 5864062014720 := by omega
                clear hlen2 hnl2
                obtain ⟨y, hy⟩ : ∃ y, ga bl k = y := ⟨_, rfl⟩
                rw [hy] at hCh
                have hg3 := adC_get bl k (by rw [hnbH.out]; exact hkn)
                rw [Nat.mul_comm 3 k, hy] at hg3
                have hg3H := Lib.hid hg3
                clear hg3 hy
                go_wp2_with fail
                refine hCh.out.mono ?_
                rintro e w5 ⟨rfl, hb5⟩
                have hR5 := Lib.hid (hRk.out.read hb5)
                clear hCh hb5 hRk
                go_upto_region 30 with (fail)
                obtain ⟨w6, hw6⟩ : ∃ x, w5.alloc (.cells #[.bool y.v6, .int .u64 y.hi, .int .u64 y.lo] 31) = x := ⟨_, rfl⟩
                have hb6 : Below w5.heap.size w5 w6 := by rw [← hw6]; exact (Below.refl _ _).alloc (Nat.le_refl _) _
                have hA6 : Box3 w6 w5.heap.size (.bool y.v6) (.int .u64 y.hi) (.int .u64 y.lo) := by rw [← hw6]; exact Box3.new _ _ _ _
                have hRj := Lib.hid (hR5.out.read hb6)
                rw [hw6]
                obtain ⟨yb, hyb⟩ : ∃ x, w5.heap.size = x := ⟨_, rfl⟩
                rw [hyb] at hA6 ⊢
                obtain ⟨A0, A1, A2⟩ := hA6.cells
                obtain ⟨ba', bc', hbe, hcl3⟩ := hRj.out.row
                cases hbe
                obtain ⟨b3, off3, rfl, hb3l, hcl4⟩ := hcl3 (by rw [hnbH.out]; omega)
                have c0 := hcl4 _ _ hg3H.out.1
                have c1 := hcl4 _ _ hg3H.out.2.1
                have c2 := hcl4 _ _ hg3H.out.2.2
                rw [← Nat.add_assoc] at c1 c2
                clear hw6 hb6 hA6 hR5 hyb hcl3 hcl4 hb3l hg3H
                go_upto_region 30 with (fail)
                obtain ⟨wd, hwd⟩ : ∃ d, w6.drew = d := ⟨_, rfl⟩
                have hbd : Below w6.heap.size w6 wd := by rw [← hwd]; exact (Below.refl _ _).drew
                replace A0 := (hbd.cell (World.block_lt_of_cell? _ _ A0)).trans A0
                replace A1 := (hbd.cell (World.block_lt_of_cell? _ _ A1)).trans A1
                replace A2 := (hbd.cell (World.block_lt_of_cell? _ _ A2)).trans A2
                replace c0 := (hbd.cell (World.block_lt_of_cell? _ _ c0)).trans c0
                replace c1 := (hbd.cell (World.block_lt_of_cell? _ _ c1)).trans c1
                replace c2 := (hbd.cell (World.block_lt_of_cell? _ _ c2)).trans c2
                have hR2 := Lib.hid (hRj.out.read hbd)
                clear hbd hRj
                refine Rt.wp_region_ordM [0, 0, 0, 1, 0, 0, 0, 1, 0, 0] [0, 1, 2, 3, 4, 5, 6, 7, 8, 9] (by kernel_rfl) (by kernel_rfl) ?_
                rw [hwd]
                clear hwd
                apply ord_move rfl rfl rfl rfl; (· (simp only [Act.put, Act.eval, List.setIfInBounds_toArray, List.set_cons_zero, List.set_cons_succ, Array.getD_eq_getD_getElem?, List.getElem?_toArray, List.getElem?_cons_zero, List.getElem?_cons_succ, Option.getD_some, List.getElem_toArray, List.getElem_cons_succ, List.getElem_cons_zero]; with_reducible rfl))
                apply ord_pure rfl rfl rfl; (· (intro w; go_simp; with_reducible rfl)); (· (simp only [Act.put, Act.eval, List.setIfInBounds_toArray, List.set_cons_zero, List.set_cons_succ, Array.getD_eq_getD_getElem?, List.getElem?_toArray, List.getElem?_cons_zero, List.getElem?_cons_succ, Option.getD_some, List.getElem_toArray, List.getElem_cons_succ, List.getElem_cons_zero]; with_reducible rfl))
                apply ord_move rfl rfl rfl rfl; (· (simp only [Act.put, Act.eval, List.setIfInBounds_toArray, List.set_cons_zero, List.set_cons_succ, Array.getD_eq_getD_getElem?, List.getElem?_toArray, List.getElem?_cons_zero, List.getElem?_cons_succ, Option.getD_some, List.getElem_toArray, List.getElem_cons_succ, List.getElem_cons_zero]; with_reducible rfl))
                apply ord_read rfl rfl rfl; (· (intro W hW; have g0 := cell_up hW A0; have g1 := cell_up hW A1; have g2 := cell_up hW A2; have g3 := cell_up hW c0; have g4 := cell_up hW c1; have g5 := cell_up hW c2; go_simp; with_reducible rfl)); (· (simp only [Act.put, Act.eval, List.setIfInBounds_toArray, List.set_cons_zero, List.set_cons_succ, Array.getD_eq_getD_getElem?, List.getElem?_toArray, List.getElem?_cons_zero, List.getElem?_cons_succ, Option.getD_some, List.getElem_toArray, List.getElem_cons_succ, List.getElem_cons_zero]; with_reducible rfl))
                apply ord_pure rfl rfl rfl; (· (intro w; go_simp; with_reducible rfl)); (· (simp only [Act.put, Act.eval, List.setIfInBounds_toArray, List.set_cons_zero, List.set_cons_succ, Array.getD_eq_getD_getElem?, List.getElem?_toArray, List.getElem?_cons_zero, List.getElem?_cons_succ, Option.getD_some, List.getElem_toArray, List.getElem_cons_succ, List.getElem_cons_zero]; with_reducible rfl))
                apply ord_pure rfl rfl rfl; (· (intro w; go_simp; with_reducible rfl)); (· (simp only [Act.put, Act.eval, List.setIfInBounds_toArray, List.set_cons_zero, List.set_cons_succ, Array.getD_eq_getD_getElem?, List.getElem?_toArray, List.getElem?_cons_zero, List.getElem?_cons_succ, Option.getD_some, List.getElem_toArray, List.getElem_cons_succ, List.getElem_cons_zero]; with_reducible rfl))
                apply ord_pure rfl rfl rfl; (· (intro w; go_simp; with_reducible rfl)); (· (simp only [Act.put, Act.eval, List.setIfInBounds_toArray, List.set_cons_zero, List.set_cons_succ, Array.getD_eq_getD_getElem?, List.getElem?_toArray, List.getElem?_cons_zero, List.getElem?_cons_succ, Option.getD_some, List.getElem_toArray, List.getElem_cons_succ, List.getElem_cons_zero]; with_reducible rfl))
                apply ord_read rfl rfl rfl; (· (intro W hW; have g0 := cell_up hW A0; have g1 := cell_up hW A1; have g2 := cell_up hW A2; have g3 := cell_up hW c0; have g4 := cell_up hW c1; have g5 := cell_up hW c2; go_simp; with_reducible rfl)); (· (simp only [Act.put, Act.eval, List.setIfInBounds_toArray, List.set_cons_zero, List.set_cons_succ, Array.getD_eq_getD_getElem?, List.getElem?_toArray, List.getElem?_cons_zero, List.getElem?_cons_succ, Option.getD_some, List.getElem_toArray, List.getElem_cons_succ, List.getElem_cons_zero]; with_reducible rfl))
                apply ord_pure rfl rfl rfl; (· (intro w; exact exec_neq_self (x := y) rfl rfl rfl w)); (· (simp only [Act.put, Act.eval, List.setIfInBounds_toArray, List.set_cons_zero, List.set_cons_succ, Array.getD_eq_getD_getElem?, List.getElem?_toArray, List.getElem?_cons_zero, List.getElem?_cons_succ, Option.getD_some, List.getElem_toArray, List.getElem_cons_succ, List.getElem_cons_zero]; with_reducible rfl))
                apply ord_pure rfl rfl rfl; (· (intro w; go_simp; with_reducible rfl)); (· (simp only [Act.put, Act.eval, List.setIfInBounds_toArray, List.set_cons_zero, List.set_cons_succ, Array.getD_eq_getD_getElem?, List.getElem?_toArray, List.getElem?_cons_zero, List.getElem?_cons_succ, Option.getD_some, List.getElem_toArray, List.getElem_cons_succ, List.getElem_cons_zero]; with_reducible rfl))
                with_reducible refine ord_nil ?_
                go_wp2_with fail
                go_roundw
                case rel => exact ⟨k + 1, by first | rfl | go_num, by omega, hR2⟩
                case measure => first | (simp [intOf]; done) | (simp [intOf]; omega)
              · obtain ⟨A0, A1, A2⟩ := hRk.out.A.cells
                go_wp2_with fail
                refine (show Calls Try.prog 14 #[.agg #[.bool ca.v6, .int .u64 ca.hi, .int .u64 ca.lo]] _ _ from RightA_any _ ca hcaok).mono ?_
                rw [hm2H.out]
                rintro e w5 ⟨rfl, hb5⟩
                have hR5 := Lib.hid (hRk.out.read hb5)
                clear hb5 hRk A0 A1 A2
                obtain ⟨A0, A1, A2⟩ := hR5.out.A.cells
                go_wp2_with fail
                refine (show Calls Try.prog 15 #[.pointer (some ⟨xb, 0, none⟩), .agg #[.bool ca.v6, .int .u64 ca.hi, .int .u64 ca.lo], .string zone, .int .i64 now] _ _ from Lame_P (a := ca) hR5.out.inf hcaok zone hz now).mono ?_
                rw [hm3H.out]
                rintro e w6 ⟨rfl, hb6⟩
                have hR6 := Lib.hid (hR5.out.read hb6)
                clear hb6 hR5 A0 A1 A2
                go_wp2_with fail
                go_ret
                exact ⟨rfl, hR6.out.bel⟩
end Go.Proofs.Yticijejnemnmlaa.If
