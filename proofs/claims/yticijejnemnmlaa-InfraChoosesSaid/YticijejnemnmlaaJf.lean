/- InfraLasts: the walk. -/
import Derived.Test.YticijejnemnmlaaJe
namespace Go.Proofs.Yticijejnemnmlaa.If
open Go.RowKit Rt
set_option linter.unusedSimpArgs false
set_option linter.unusedVariables false
/-- How the world stands: an address in a box, a store of one's own. -/
structure OneS (w W : World) (xb most : Nat) (a : Ad) (st : Ad → Option Sp) (n : Nat) : Prop where
  inf : InfP (fun x => x < w.heap.size + 1) W xb most st n
  bel : Below w.heap.size w W
  A : Box3 W w.heap.size (.bool a.v6) (.int .u64 a.hi) (.int .u64 a.lo)
theorem OneS.read {w W W' : World} {xb most : Nat} {a : Ad} {st : Ad → Option Sp} {n : Nat} (h : OneS w W xb most a st n) (hb : Below W.heap.size W W') : OneS w W' xb most a st n :=
  ⟨h.inf.read hb, h.bel.trans (hb.mono h.bel.size), h.A.below hb⟩
theorem OneS.chg {w W W' : World} {xb most : Nat} {a : Ad} {st st' : Ad → Option Sp} {n n' : Nat} {v : Int} {e : Ending} (h : OneS w W xb most a st n) (hc : ChgP (fun x => x < w.heap.size + 1) W xb most st' n' v e W') : OneS w W' xb most a st' n' := by
  obtain ⟨_, h1, h2⟩ := hc
  exact ⟨h1, h.bel.trans (h2.below h.bel.size fun k hk hn => hn (Nat.lt_succ_of_lt hk)), (h2.block _ h.A.lt fun hn => hn (Nat.lt_succ_self _)).trans h.A⟩
theorem isT_ok {x : Int} (h0 : 0 ≤ x) (h1 : x < 1125899906842624) : isT x = true := by unfold isT; rw [decide_eq_true h0, decide_eq_true (by omega)]; rfl
theorem last_st {a : Ad} {z : ByteArray} {n1 : Int} (ht : isT n1 = true) (ha : rightA a = true) (hz : Nm.rightB z = true) :
    setPlainS (setLameS e0 a z n1) a n1 a = some (plainP n1 (lameP (Nm.lowerW z) n1 zeroP)) := by
  unfold setPlainS setLameS chg upd
  rw [ht, ha, hz]
  simp [e0]
theorem last_lame {a : Ad} {z c : ByteArray} {n1 l1 : Int} (ht : isT n1 = true) (hl : isT l1 = true) (ha : rightA a = true) (hz : Nm.rightB z = true) :
    lameB c l1 ((setPlainS (setLameS e0 a z n1) a n1 a).getD zeroP) = (Nm.rightB c && (decide (Nm.lowerW z = Nm.lowerW c) && decide (l1 < n1 + 900000))) := by
  rw [last_st ht ha hz]
  have := lame_own z c n1 l1 zeroP rfl
  rw [hl, Bool.true_and] at this
  exact this
theorem eqW_eq {a b : ByteArray} (hb : Nm.rightB b = true) : eqW a b = (Nm.rightB a && decide (Nm.lowerW b = Nm.lowerW a)) := by
  unfold eqW
  rw [hb, Bool.true_and]
  congr 1
  have := eqz_iff (Nm.lowerW a) (Nm.lowerW b, 0)
  unfold eqz at this
  rw [← this]
  congr 1
  apply propext
  exact eq_comm
set_option maxHeartbeats 8000000 in
set_option maxRecDepth 100000 in
theorem Lasts_any (w : World) (a : Ad) (ha : a.ok) (zone other : ByteArray) (hz : zone.size ≤ 140737488351232) (ho : other.size ≤ 140737488351232) (bits : Nat) (hb64 : bits < 2 ^ 64) (now later : Int) (hnow : wf now) (hlater : wf later) :
    Calls Try.prog 5 #[.agg #[.bool a.v6, .int .u64 a.hi, .int .u64 a.lo], .string zone, .string other, .int .u64 (bits : Int), .int .i64 now, .int .i64 later] w fun e w' => e = .returned (.bool true) ∧ Below w.heap.size w w' := by
  obtain ⟨p1, p2⟩ := pk_bd now 1125899906842624 (by decide)
  obtain ⟨p3, p4⟩ := pk_bd later 1125899906842624 (by decide)
  have hp1 := Lib.hid (fun w => pick_any now 1125899906842624 w hnow (by decide) (by decide))
  have hp2 := Lib.hid (fun w => pick_any later 1125899906842624 w hlater (by decide) (by decide))
  obtain ⟨n1, hn1⟩ : ∃ x, pk now 1125899906842624 = x := ⟨_, rfl⟩
  obtain ⟨l1, hl1⟩ : ∃ x, pk later 1125899906842624 = x := ⟨_, rfl⟩
  rw [hn1] at p1 p2 hp1
  rw [hl1] at p3 p4 hp2
  clear hn1 hl1
  have hw1 := If.wr (show -9223372036854775808 ≤ n1 + 900000 by omega) (by omega)
  have hT := isT_ok p1 p2
  have hTl := isT_ok p3 p4
  have hC := Lib.hid (fun w => Nm.Cased_any zone bits hb64 hz w)
  have hc1 := fun h => Nm.cased_right (s := zone) h bits
  have hc2 := fun h => Nm.cased_wrong (s := zone) h bits
  obtain ⟨cz, hcz⟩ : ∃ x, (Nm.casedW zone bits).1 = x := ⟨_, rfl⟩
  obtain ⟨ce, hce⟩ : ∃ x, (Nm.casedW zone bits).2 = x := ⟨_, rfl⟩
  rw [hcz, hce] at hC hc1
  rw [hce] at hc2
  have hc1H := Lib.hid hc1
  have hc2H := Lib.hid hc2
  have hB0 := Lib.hid (Box3.new w (.bool a.v6) (.int .u64 a.hi) (.int .u64 a.lo))
  have hb0 : Hid (Below w.heap.size w (w.alloc (.cells #[.bool a.v6, .int .u64 a.hi, .int .u64 a.lo] 31))) := Lib.hid ((Below.refl _ w).alloc (Nat.le_refl _) _)
  have hTH := Lib.hid hT
  have hTlH := Lib.hid hTl
  clear hcz hce hc1 hc2 hT hTl
  go_enter Try.func5, Try.ntmps5
  go_wp2_with fail
  refine (examples_any _).mono ?_
  rintro e w1 ⟨rfl, hb1⟩
  go_wp2_with fail
  refine (show Calls Try.prog 7 #[.int .i64 5] w1 _ from New_I w1 5 (by decide) (by decide)).mono ?_
  rintro e w2 ⟨xb, U, rfl, hS, hU, hb2⟩
  have hO2 : Hid (OneS w w2 xb 5 a e0 0) := Lib.hid (by
    have s1 := hb1.size
    have s2 := hb2.size
    rw [World.size_alloc] at s1
    exact ⟨⟨U, hS, fun x hx hp => by have := hU x hx; omega, fun x hx => by omega⟩, (hb0.out.trans (hb1.mono (by rw [World.size_alloc]; omega))).trans (hb2.mono (by omega)), (hB0.out.below hb1).below hb2⟩)
  clear hS hU hb1 hb2 hB0 hb0
  obtain ⟨A0, A1, A2⟩ := hO2.out.A.cells
  go_wp2_with fail
  refine (hp1.out _).mono ?_
  rintro e w2 ⟨rfl, rfl⟩
  go_wp2_with fail
  refine (hp2.out _).mono ?_
  rintro e w2 ⟨rfl, rfl⟩
  go_wp2_with fail
  refine (hC.out _).mono ?_
  rintro e w3 ⟨rfl, hb⟩
  have hO3 := Lib.hid (hO2.out.read hb)
  clear hb hO2 A0 A1 A2
  obtain ⟨A0, A1, A2⟩ := hO3.out.A.cells
  cases hra : rightA a with
  | false =>
    go_wp2_with fail
    refine (show Calls Try.prog 11 #[.pointer (some ⟨xb, 0, none⟩), .agg #[.bool a.v6, .int .u64 a.hi, .int .u64 a.lo], .string zone, .int .i64 n1] _ _ from SetLame_P (a := a) hO3.out.inf ha (by decide) zone hz n1).mono ?_
    intro e w4 hc
    have hO4 : Hid (OneS w w4 xb 5 a (setLameS e0 a zone n1) (setLameN e0 a zone n1 0)) := Lib.hid (hO3.out.chg hc)
    have hv := hc.1
    rw [show (if ((Nm.rightB zone && isT n1) && rightA a) = true then (0 : Int) else 1) = 1 by rw [hra]; simp] at hv
    subst hv
    clear hc hO3 A0 A1 A2
    obtain ⟨A0, A1, A2⟩ := hO4.out.A.cells
    go_wp2_with fail
    refine (show Calls Try.prog 17 #[.pointer (some ⟨xb, 0, none⟩), .agg #[.bool a.v6, .int .u64 a.hi, .int .u64 a.lo], .int .i64 n1] _ _ from SetPlain_P (a := a) hO4.out.inf ha (Nat.lt_of_le_of_lt (setLameN_le _ _ _ _ _) (by decide)) n1).mono ?_
    intro e w5 hc
    have hO5 : Hid (OneS w w5 xb 5 a (setPlainS (setLameS e0 a zone n1) a n1) (setPlainN (setLameS e0 a zone n1) a n1 (setLameN e0 a zone n1 0))) := Lib.hid (hO4.out.chg hc)
    have hv := hc.1
    rw [show (if (isT n1 && rightA a) = true then (0 : Int) else 1) = 1 by rw [hra]; simp] at hv
    subst hv
    clear hc hO4 A0 A1 A2
    obtain ⟨A0, A1, A2⟩ := hO5.out.A.cells
    go_wp2_with fail
    refine (show Calls Try.prog 14 #[.agg #[.bool a.v6, .int .u64 a.hi, .int .u64 a.lo]] _ _ from RightA_any _ a ha).mono ?_
    rw [hra]
    rintro e w6 ⟨rfl, hb⟩
    have hO6 := Lib.hid (hO5.out.read hb)
    clear hb hO5 A0 A1 A2
    obtain ⟨A0, A1, A2⟩ := hO6.out.A.cells
    have hn0 : setPlainN (setLameS e0 a zone n1) a n1 (setLameN e0 a zone n1 0) = 0 := by unfold setPlainN setLameN nchg; rw [hra]; simp
    have hO7 := hO6
    rw [hn0] at hO7
    go_wp2_with fail
    refine (Len_P hO7.out.inf).mono ?_
    rintro e w6 ⟨rfl, rfl⟩
    go_wp2_with fail
    go_ret
    exact ⟨rfl, hO7.out.bel⟩
  | true =>
    cases hrz : Nm.rightB zone with
    | false =>
      have hce := hc2H.out hrz
      subst hce
      go_wp2_with fail
      refine (show Calls Try.prog 11 #[.pointer (some ⟨xb, 0, none⟩), .agg #[.bool a.v6, .int .u64 a.hi, .int .u64 a.lo], .string zone, .int .i64 n1] _ _ from SetLame_P (a := a) hO3.out.inf ha (by decide) zone hz n1).mono ?_
      intro e w4 hc
      have hO4 : Hid (OneS w w4 xb 5 a (setLameS e0 a zone n1) (setLameN e0 a zone n1 0)) := Lib.hid (hO3.out.chg hc)
      have hv := hc.1
      rw [show (if ((Nm.rightB zone && isT n1) && rightA a) = true then (0 : Int) else 1) = 1 by rw [hrz]; simp] at hv
      subst hv
      clear hc hO3 A0 A1 A2
      obtain ⟨A0, A1, A2⟩ := hO4.out.A.cells
      go_wp2_with fail
      refine (show Calls Try.prog 17 #[.pointer (some ⟨xb, 0, none⟩), .agg #[.bool a.v6, .int .u64 a.hi, .int .u64 a.lo], .int .i64 n1] _ _ from SetPlain_P (a := a) hO4.out.inf ha (Nat.lt_of_le_of_lt (setLameN_le _ _ _ _ _) (by decide)) n1).mono ?_
      intro e w5 hc
      have hO5 : Hid (OneS w w5 xb 5 a (setPlainS (setLameS e0 a zone n1) a n1) (setPlainN (setLameS e0 a zone n1) a n1 (setLameN e0 a zone n1 0))) := Lib.hid (hO4.out.chg hc)
      have hv := hc.1
      rw [show (if (isT n1 && rightA a) = true then (0 : Int) else 1) = 0 by rw [hra, hTH.out]; rfl] at hv
      subst hv
      clear hc hO4 A0 A1 A2
      obtain ⟨A0, A1, A2⟩ := hO5.out.A.cells
      go_wp2_with fail
      refine (show Calls Try.prog 14 #[.agg #[.bool a.v6, .int .u64 a.hi, .int .u64 a.lo]] _ _ from RightA_any _ a ha).mono ?_
      rw [hra]
      rintro e w6 ⟨rfl, hb⟩
      have hO6 := Lib.hid (hO5.out.read hb)
      clear hb hO5 A0 A1 A2
      obtain ⟨A0, A1, A2⟩ := hO6.out.A.cells
      have hlf : lameB zone n1 ((setPlainS (setLameS e0 a zone n1) a n1) a |>.getD zeroP) = false := by unfold lameB; rw [hrz]; simp
      go_wp2_with fail
      refine (show Calls Try.prog 15 #[.pointer (some ⟨xb, 0, none⟩), .agg #[.bool a.v6, .int .u64 a.hi, .int .u64 a.lo], .string zone, .int .i64 n1] _ _ from Lame_P (a := a) hO6.out.inf ha zone hz n1).mono ?_
      rw [hlf]
      rintro e w7 ⟨rfl, hb⟩
      have hO7 := Lib.hid (hO6.out.read hb)
      clear hb hO6 A0 A1 A2
      obtain ⟨A0, A1, A2⟩ := hO7.out.A.cells
      go_wp2_with fail
      go_ret
      exact ⟨rfl, hO7.out.bel⟩
    | true =>
      obtain ⟨hce, hcr, hcl, hcs⟩ := hc1H.out hrz
      subst hce
      have hcsz : cz.size ≤ 140737488351232 := by omega
      have hraH := Lib.hid hra
      have hrzH := Lib.hid hrz
      have k1 := Lib.hid (last_lame (a := a) (c := cz) hTH.out hTlH.out hra hrz)
      rw [hcr, hcl] at k1
      simp only [decide_true, Bool.true_and] at k1
      have k2 := Lib.hid (last_lame (a := a) (c := other) hTH.out hTlH.out hra hrz)
      have k3 : Hid (plainB (setPlainS (setLameS e0 a zone n1) a n1) a l1 = decide (l1 < n1 + 900000)) := Lib.hid (by unfold plainB; rw [last_st hTH.out hra hrz, hTlH.out]; rfl)
      have k4 : Hid (toP (((setPlainS (setLameS e0 a zone n1) a n1) a).getD zeroP) = 376) := Lib.hid (by rw [last_st hTH.out hra hrz]; exact toP_zero rfl rfl rfl)
      have k5 := Lib.hid (eqW_eq (a := other) hrz)
      obtain ⟨i, hi⟩ : ∃ b, decide (l1 < n1 + 900000) = b := ⟨_, rfl⟩
      have hcsH := Lib.hid hcsz
      rw [hi] at k1 k2 k3
      clear hcr hcl hcs hcsz
      go_wp2_with fail
      refine (show Calls Try.prog 11 #[.pointer (some ⟨xb, 0, none⟩), .agg #[.bool a.v6, .int .u64 a.hi, .int .u64 a.lo], .string zone, .int .i64 n1] _ _ from SetLame_P (a := a) hO3.out.inf ha (by decide) zone hz n1).mono ?_
      intro e w4 hc
      have hO4 : Hid (OneS w w4 xb 5 a (setLameS e0 a zone n1) (setLameN e0 a zone n1 0)) := Lib.hid (hO3.out.chg hc)
      have hv := hc.1
      rw [show (if ((Nm.rightB zone && isT n1) && rightA a) = true then (0 : Int) else 1) = 0 by rw [hrz, hra, hTH.out]; rfl] at hv
      subst hv
      clear hc hO3 A0 A1 A2
      obtain ⟨A0, A1, A2⟩ := hO4.out.A.cells
      go_wp2_with fail
      refine (show Calls Try.prog 17 #[.pointer (some ⟨xb, 0, none⟩), .agg #[.bool a.v6, .int .u64 a.hi, .int .u64 a.lo], .int .i64 n1] _ _ from SetPlain_P (a := a) hO4.out.inf ha (Nat.lt_of_le_of_lt (setLameN_le _ _ _ _ _) (by decide)) n1).mono ?_
      intro e w5 hc
      have hO5 : Hid (OneS w w5 xb 5 a (setPlainS (setLameS e0 a zone n1) a n1) (setPlainN (setLameS e0 a zone n1) a n1 (setLameN e0 a zone n1 0))) := Lib.hid (hO4.out.chg hc)
      have hv := hc.1
      rw [show (if (isT n1 && rightA a) = true then (0 : Int) else 1) = 0 by rw [hra, hTH.out]; rfl] at hv
      subst hv
      clear hc hO4 A0 A1 A2
      obtain ⟨A0, A1, A2⟩ := hO5.out.A.cells
      go_wp2_with fail
      refine (show Calls Try.prog 14 #[.agg #[.bool a.v6, .int .u64 a.hi, .int .u64 a.lo]] _ _ from RightA_any _ a ha).mono ?_
      rw [hra]
      rintro e w6 ⟨rfl, hb⟩
      have hO6 := Lib.hid (hO5.out.read hb)
      clear hb hO5 A0 A1 A2
      obtain ⟨A0, A1, A2⟩ := hO6.out.A.cells
      go_wp2_with fail
      refine (show Calls Try.prog 15 #[.pointer (some ⟨xb, 0, none⟩), .agg #[.bool a.v6, .int .u64 a.hi, .int .u64 a.lo], .string cz, .int .i64 l1] _ _ from Lame_P (a := a) hO6.out.inf ha cz hcsH.out l1).mono ?_
      rw [k1.out]
      rintro e w7 ⟨rfl, hb⟩
      have hO7 := Lib.hid (hO6.out.read hb)
      clear hb hO6 A0 A1 A2
      obtain ⟨A0, A1, A2⟩ := hO7.out.A.cells
      go_wp2_with fail
      refine (show Calls Try.prog 18 #[.pointer (some ⟨xb, 0, none⟩), .agg #[.bool a.v6, .int .u64 a.hi, .int .u64 a.lo], .int .i64 l1] _ _ from Plain_P (a := a) hO7.out.inf ha l1).mono ?_
      rw [k3.out]
      rintro e w8 ⟨rfl, hb⟩
      have hO8 := Lib.hid (hO7.out.read hb)
      clear hb hO7 A0 A1 A2
      obtain ⟨A0, A1, A2⟩ := hO8.out.A.cells
      go_wp2_with fail
      cases he : (Nm.rightB other && decide (Nm.lowerW zone = Nm.lowerW other)) with
      | true =>
        refine (show Calls Try.prog 21 #[.string other, .string zone] _ _ from Equal_any other zone ho hz _).mono ?_
        rw [k5.out, he]
        rintro e w9 ⟨rfl, hb⟩
        have hO9 := Lib.hid (hO8.out.read hb)
        clear hb hO8 A0 A1 A2
        obtain ⟨A0, A1, A2⟩ := hO9.out.A.cells
        go_wp2_with fail
        refine (show Calls Try.prog 16 #[.pointer (some ⟨xb, 0, none⟩), .agg #[.bool a.v6, .int .u64 a.hi, .int .u64 a.lo]] _ _ from Timeout_P (a := a) hO9.out.inf ha).mono ?_
        rw [k4.out]
        rintro e w10 ⟨rfl, hb⟩
        have hO10 := Lib.hid (hO9.out.read hb)
        clear hb hO9 A0 A1 A2
        obtain ⟨A0, A1, A2⟩ := hO10.out.A.cells
        go_wp2_with fail
        go_ret
        exact ⟨rfl, hO10.out.bel⟩
      | false =>
        refine (show Calls Try.prog 21 #[.string other, .string zone] _ _ from Equal_any other zone ho hz _).mono ?_
        rw [k5.out, he]
        rintro e w9 ⟨rfl, hb⟩
        have hO9 := Lib.hid (hO8.out.read hb)
        clear hb hO8 A0 A1 A2
        obtain ⟨A0, A1, A2⟩ := hO9.out.A.cells
        have k6 : lameB other l1 ((setPlainS (setLameS e0 a zone n1) a n1) a |>.getD zeroP) = false := by rw [k2.out]; cases h1 : Nm.rightB other <;> cases h2 : decide (Nm.lowerW zone = Nm.lowerW other) <;> simp [h1, h2] at he ⊢
        go_wp2_with fail
        refine (show Calls Try.prog 15 #[.pointer (some ⟨xb, 0, none⟩), .agg #[.bool a.v6, .int .u64 a.hi, .int .u64 a.lo], .string other, .int .i64 l1] _ _ from Lame_P (a := a) hO9.out.inf ha other ho l1).mono ?_
        rw [k6]
        rintro e w10 ⟨rfl, hb⟩
        have hO10 := Lib.hid (hO9.out.read hb)
        clear hb hO9 A0 A1 A2
        obtain ⟨A0, A1, A2⟩ := hO10.out.A.cells
        go_wp2_with fail
        refine (show Calls Try.prog 16 #[.pointer (some ⟨xb, 0, none⟩), .agg #[.bool a.v6, .int .u64 a.hi, .int .u64 a.lo]] _ _ from Timeout_P (a := a) hO10.out.inf ha).mono ?_
        rw [k4.out]
        rintro e w11 ⟨rfl, hb⟩
        have hO11 := Lib.hid (hO10.out.read hb)
        clear hb hO10 A0 A1 A2
        obtain ⟨A0, A1, A2⟩ := hO11.out.A.cells
        go_wp2_with fail
        go_ret
        exact ⟨rfl, hO11.out.bel⟩
end Go.Proofs.Yticijejnemnmlaa.If
