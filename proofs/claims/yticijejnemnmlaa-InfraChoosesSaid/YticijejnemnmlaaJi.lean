/- InfraApart: the walk. -/
import Derived.Test.YticijejnemnmlaaJk
namespace Go.Proofs.Yticijejnemnmlaa.If
open Go.RowKit Rt
set_option linter.unusedSimpArgs false
set_option linter.unusedVariables false
set_option maxHeartbeats 16000000 in
set_option maxRecDepth 100000 in
theorem Apart_any {w : World} {a : Option Addr} {n c : Nat} (hnc : n ≤ c) (hcm : c ≤ maxLen) {f : Nat → De} (hD : RowDe w a n f) (o : Ad) (ho : o.ok) {zone : ByteArray} (hz : zone.size ≤ 140737488351232) (now : Int) :
    Calls Try.prog 4 #[.slice a n c, .agg #[.bool o.v6, .int .u64 o.hi, .int .u64 o.lo], .string zone, .int .i64 now] w fun e w' => e = .returned (.bool true) ∧ Below w.heap.size w w' := by
  have hcm' : (c : Int) ≤ 9223372036854775807 := by unfold maxLen at hcm; omega
  have hncH := Lib.hid hnc
  have hcmH := Lib.hid hcm'
  have hDH := Lib.hid hD
  have hB0 := Lib.hid (Box3.new w (.bool o.v6) (.int .u64 o.hi) (.int .u64 o.lo))
  have hb0 : Hid (Below w.heap.size w (w.alloc (.cells #[.bool o.v6, .int .u64 o.hi, .int .u64 o.lo] 31))) := Lib.hid ((Below.refl _ w).alloc (Nat.le_refl _) _)
  clear hnc hcm hcm' hD
  go_enter Try.func4, Try.ntmps4
  go_wp2_with fail
  refine (examples_any _).mono ?_
  rintro e w1 ⟨rfl, hb1⟩
  go_wp2_with fail
  refine (show Calls Try.prog 7 #[.int .i64 1000] w1 _ from New_I w1 1000 (by decide) (by decide)).mono ?_
  rintro e w2 ⟨xb, Ux, rfl, hSx, hUx, hb2⟩
  go_wp2_with fail
  refine (show Calls Try.prog 7 #[.int .i64 1000] w2 _ from New_I w2 1000 (by decide) (by decide)).mono ?_
  rintro e w3 ⟨yb, Uy, rfl, hSy, hUy, hb3⟩
  have hA3 : Hid (AS w w3 xb yb o e0 0 e0 0) := Lib.hid (by
    have s1 := hb1.size
    have s2 := hb2.size
    have s3 := hb3.size
    rw [World.size_alloc] at s1
    refine ⟨⟨Ux, Uy, hSx.below hb3, hSy, fun x hx hy => ?_, fun x hx hp => ?_, fun x hx hp => ?_, fun x hx => by omega⟩, ((hb0.out.trans (hb1.mono (by rw [World.size_alloc]; omega))).trans (hb2.mono (by omega))).trans (hb3.mono (by omega)), ((hB0.out.below hb1).below hb2).below hb3⟩
    · have := hSx.lt x hx; have := hUy x hy; omega
    · have := hUx x hx; omega
    · have := hUy x hx; omega)
  clear hSx hUx hSy hUy hb1 hb2 hb3 hB0 hb0
  go_wp2_with fail
  go_loopw [14] (fun i wr => ∃ (k nx ny : Nat) (sx sy : Ad → Option Sp), i = .int .i64 k ∧ k ≤ n ∧ k ≤ 100 ∧ nx ≤ k ∧ ny ≤ k ∧ Hid (sx o = sy o) ∧ Hid (AS w wr xb yb o sx nx sy ny)) (fun i _ => n - (intOf i).toNat)
  case atStart => exact ⟨0, 0, 0, e0, e0, rfl, Nat.zero_le _, by omega, Nat.le_refl _, Nat.le_refl _, Lib.hid rfl, hA3⟩
  case round =>
    obtain ⟨i, nx, ny, sx, sy, rfl, hin, hi100, hnx, hny, hst, hA⟩ := hrel
    clear hA3
    by_cases hlt : (i : Int) < n
    · by_cases hlt2 : (i : Int) < 100
      · have hin' : i < n := by omega
        have hnc' := hncH.out
        have hcm' := hcmH.out
        have hnn : (n : Int) ≤ 9223372036854775807 := by omega
        obtain ⟨dok, dk, dn, dnow, dz, b, off, la, ln, lc, rfl, hbl, c0, c1, c2, c3, c4, c5, c6, c7⟩ := hDH.out i hin'
        obtain ⟨d, hd⟩ : ∃ d, f i = d := ⟨_, rfl⟩
        rw [hd] at dok dk dn dnow dz c0 c1 c2 c3 c4 c5 c6
        have hbe := hA.out.bel
        replace c0 := (hbe.cell (p := ⟨b, off + i * 8, none⟩) hbl).trans c0
        replace c1 := (hbe.cell (p := ⟨b, off + i * 8 + 1, none⟩) hbl).trans c1
        replace c2 := (hbe.cell (p := ⟨b, off + i * 8 + 2, none⟩) hbl).trans c2
        replace c3 := (hbe.cell (p := ⟨b, off + i * 8 + 3, none⟩) hbl).trans c3
        replace c4 := (hbe.cell (p := ⟨b, off + i * 8 + 4, none⟩) hbl).trans c4
        replace c5 := (hbe.cell (p := ⟨b, off + i * 8 + 5, none⟩) hbl).trans c5
        replace c6 := (hbe.cell (p := ⟨b, off + i * 8 + 6, none⟩) hbl).trans c6
        replace c7 := (hbe.cell (p := ⟨b, off + i * 8 + 7, none⟩) hbl).trans c7
        have dnH := Lib.hid dn
        have dnowH := Lib.hid dnow
        clear hbe hbl hd dn dnow
        obtain ⟨q0, q3⟩ := pk_bd d.k 4 (by decide)
        have hpk := Lib.hid (fun w => pick_any d.k 4 w dk (by decide) (by decide))
        obtain ⟨q, hq⟩ : ∃ q, pk d.k 4 = q := ⟨_, rfl⟩
        rw [hq] at q0 q3 hpk
        clear hq dk
        go_upto_region 10 with (fail)
        obtain ⟨wd, hwd⟩ : ∃ x, wr.alloc (.cells #[.int .i64 d.k, .bool d.a.v6, .int .u64 d.a.hi, .int .u64 d.a.lo, .string d.z, .int .i64 d.n, .int .i64 d.now, .slice la ln lc] 33) = x := ⟨_, rfl⟩
        have hbd : Below wr.heap.size wr wd := by rw [← hwd]; exact (Below.refl _ _).alloc (Nat.le_refl _) _
        have hDx : Box8 wd wr.heap.size d la ln lc := by rw [← hwd]; exact World.alloc_heap_new _ _
        have hAD := Lib.hid (hA.out.deed hbd (by rw [← hwd]; simp) hDx)
        rw [hwd]
        obtain ⟨db, hdb⟩ : ∃ x, wr.heap.size = x := ⟨_, rfl⟩
        rw [hdb] at hAD ⊢
        clear hwd hbd hDx hdb hA c0 c1 c2 c3 c4 c5 c6 c7
        go_wp2_with fail
        go_loopw [16] (fun kk w5 => ∃ (m nx' ny' : Nat) (sx' sy' : Ad → Option Sp), kk = .int .i64 m ∧ m ≤ 2 ∧ Hid ((m = 0 → sx' o = sy' o ∧ nx' ≤ i ∧ ny' ≤ i) ∧ (m = 1 → sx' o = stepQ q sy' d o ∧ nx' ≤ i + 1 ∧ ny' ≤ i) ∧ (m = 2 → sx' o = sy' o ∧ nx' ≤ i + 1 ∧ ny' ≤ i + 1)) ∧ Hid (AD w w5 xb yb o db d la ln lc sx' nx' sy' ny')) (fun kk _ => 2 - (intOf kk).toNat)
        case atStart => exact ⟨0, nx, ny, sx, sy, rfl, by omega, Lib.hid ⟨fun _ => ⟨hst.out, hnx, hny⟩, fun h => absurd h (by decide), fun h => absurd h (by decide)⟩, hAD⟩
        case round =>
          obtain ⟨m, nx', ny', sx', sy', rfl, hm, hR, hAE⟩ := hrel
          clear hAD hst hnx hny
          obtain ⟨D0, D1, D2, D3, D4, D5, D6⟩ := hAE.out.D.cells
          obtain ⟨A0, A1, A2⟩ := hAE.out.A.cells
          have hm3 : m = 0 ∨ m = 1 ∨ m = 2 := by omega
          have hq4 : q = 0 ∨ q = 1 ∨ q = 2 ∨ q = 3 := by omega
          clear q0 q3 hm
          rcases hm3 with rfl | rfl | rfl
          · obtain ⟨hs, h1, h2⟩ := hR.out.1 rfl
            have hsH := Lib.hid hs
            clear hs hR
            rcases hq4 with rfl | rfl | rfl | rfl
            · go_wp2_with fail
              refine (hpk.out _).mono ?_
              rintro e wr ⟨rfl, rfl⟩
              go_wp2_with fail
              refine (show Calls Try.prog 9 #[.pointer (some ⟨xb, 0, none⟩), .agg #[.bool d.a.v6, .int .u64 d.a.hi, .int .u64 d.a.lo], .int .i64 d.n] _ _ from Pair.op hAE.out.two (fun U hU => Sample_U (a := d.a) hU dok (by omega) d.n)).mono ?_
              intro e w6 hc
              have hAF := Lib.hid (hAE.out.op hc)
              obtain ⟨⟨v, rfl⟩, _⟩ := hc
              clear hAE D0 D1 D2 D3 D4 D5 D6 A0 A1 A2
              go_wp2_with fail
              go_roundw
              case rel => exact ⟨1, _, _, _, _, by first | rfl | go_num, by omega, Lib.hid ⟨fun h => absurd h (by decide), fun _ => ⟨stepQ_same (q := 0) (d := d) hsH.out, Nat.le_trans (nchg_le _ _ _) (by omega), h2⟩, fun h => absurd h (by decide)⟩, hAF⟩
              case measure => first | (simp [intOf]; done) | (simp [intOf]; omega)
            · go_wp2_with fail
              refine (hpk.out _).mono ?_
              rintro e wr ⟨rfl, rfl⟩
              go_wp2_with fail
              refine (show Calls Try.prog 10 #[.pointer (some ⟨xb, 0, none⟩), .agg #[.bool d.a.v6, .int .u64 d.a.hi, .int .u64 d.a.lo]] _ _ from Pair.op hAE.out.two (fun U hU => Miss_U (a := d.a) hU dok (by omega))).mono ?_
              intro e w6 hc
              have hAF := Lib.hid (hAE.out.op hc)
              obtain ⟨⟨v, rfl⟩, _⟩ := hc
              clear hAE D0 D1 D2 D3 D4 D5 D6 A0 A1 A2
              go_wp2_with fail
              go_roundw
              case rel => exact ⟨1, _, _, _, _, by first | rfl | go_num, by omega, Lib.hid ⟨fun h => absurd h (by decide), fun _ => ⟨stepQ_same (q := 1) (d := d) hsH.out, Nat.le_trans (nchg_le _ _ _) (by omega), h2⟩, fun h => absurd h (by decide)⟩, hAF⟩
              case measure => first | (simp [intOf]; done) | (simp [intOf]; omega)
            · go_wp2_with fail
              refine (hpk.out _).mono ?_
              rintro e wr ⟨rfl, rfl⟩
              go_wp2_with fail
              refine (show Calls Try.prog 11 #[.pointer (some ⟨xb, 0, none⟩), .agg #[.bool d.a.v6, .int .u64 d.a.hi, .int .u64 d.a.lo], .string d.z, .int .i64 d.now] _ _ from Pair.op hAE.out.two (fun U hU => SetLame_U (a := d.a) hU dok (by omega) d.z dz d.now)).mono ?_
              intro e w6 hc
              have hAF := Lib.hid (hAE.out.op hc)
              obtain ⟨⟨v, rfl⟩, _⟩ := hc
              clear hAE D0 D1 D2 D3 D4 D5 D6 A0 A1 A2
              go_wp2_with fail
              go_roundw
              case rel => exact ⟨1, _, _, _, _, by first | rfl | go_num, by omega, Lib.hid ⟨fun h => absurd h (by decide), fun _ => ⟨stepQ_same (q := 2) (d := d) hsH.out, Nat.le_trans (setLameN_le _ _ _ _ _) (by omega), h2⟩, fun h => absurd h (by decide)⟩, hAF⟩
              case measure => first | (simp [intOf]; done) | (simp [intOf]; omega)
            · go_wp2_with fail
              refine (hpk.out _).mono ?_
              rintro e wr ⟨rfl, rfl⟩
              go_wp2_with fail
              refine (show Calls Try.prog 17 #[.pointer (some ⟨xb, 0, none⟩), .agg #[.bool d.a.v6, .int .u64 d.a.hi, .int .u64 d.a.lo], .int .i64 d.now] _ _ from Pair.op hAE.out.two (fun U hU => SetPlain_U (a := d.a) hU dok (by omega) d.now)).mono ?_
              intro e w6 hc
              have hAF := Lib.hid (hAE.out.op hc)
              obtain ⟨⟨v, rfl⟩, _⟩ := hc
              clear hAE D0 D1 D2 D3 D4 D5 D6 A0 A1 A2
              go_wp2_with fail
              go_roundw
              case rel => exact ⟨1, _, _, _, _, by first | rfl | go_num, by omega, Lib.hid ⟨fun h => absurd h (by decide), fun _ => ⟨stepQ_same (q := 3) (d := d) hsH.out, Nat.le_trans (setPlainN_le _ _ _ _) (by omega), h2⟩, fun h => absurd h (by decide)⟩, hAF⟩
              case measure => first | (simp [intOf]; done) | (simp [intOf]; omega)
          · obtain ⟨hs, h1, h2⟩ := hR.out.2.1 rfl
            have hsH := Lib.hid hs
            clear hs hR
            by_cases hne : d.a = o
            · have hcmp : Hid (decide (d.a = o) = true) := Lib.hid (decide_eq_true hne)
              have hneH := Lib.hid hne
              clear hne
              go_upto_region 15 with (fail)
              refine Rt.wp_region_seq [0, 1, 1, 0] ?_
              apply txt_pure rfl rfl rfl; (· (intro w; go_simp; (try go_bits); with_reducible rfl)); (· (simp only [Act.put, Act.eval, List.setIfInBounds_toArray, List.set_cons_zero, List.set_cons_succ, Array.getD_eq_getD_getElem?, List.getElem?_toArray, List.getElem?_cons_zero, List.getElem?_cons_succ, Option.getD_some, List.getElem_toArray, List.getElem_cons_succ, List.getElem_cons_zero]; with_reducible rfl))
              apply txt_read rfl rfl rfl; (· (go_simp; with_reducible rfl)); (· (simp only [Act.put, Act.eval, List.setIfInBounds_toArray, List.set_cons_zero, List.set_cons_succ, Array.getD_eq_getD_getElem?, List.getElem?_toArray, List.getElem?_cons_zero, List.getElem?_cons_succ, Option.getD_some, List.getElem_toArray, List.getElem_cons_succ, List.getElem_cons_zero]; with_reducible rfl))
              apply txt_read rfl rfl rfl; (· (go_simp; with_reducible rfl)); (· (simp only [Act.put, Act.eval, List.setIfInBounds_toArray, List.set_cons_zero, List.set_cons_succ, Array.getD_eq_getD_getElem?, List.getElem?_toArray, List.getElem?_cons_zero, List.getElem?_cons_succ, Option.getD_some, List.getElem_toArray, List.getElem_cons_succ, List.getElem_cons_zero]; with_reducible rfl))
              apply txt_pure rfl rfl rfl; (· (intro w; exact exec_neqA (x := d.a) (y := o) rfl rfl rfl w)); (· (simp only [Act.put, Act.eval, List.setIfInBounds_toArray, List.set_cons_zero, List.set_cons_succ, Array.getD_eq_getD_getElem?, List.getElem?_toArray, List.getElem?_cons_zero, List.getElem?_cons_succ, Option.getD_some, List.getElem_toArray, List.getElem_cons_succ, List.getElem_cons_zero]; with_reducible rfl))
              with_reducible refine txt_nil ?_
              rw [hcmp.out]
              rcases hq4 with rfl | rfl | rfl | rfl
              · go_wp2_with fail
                refine (hpk.out _).mono ?_
                rintro e wr ⟨rfl, rfl⟩
                go_wp2_with fail
                refine (show Calls Try.prog 9 #[.pointer (some ⟨yb, 0, none⟩), .agg #[.bool d.a.v6, .int .u64 d.a.hi, .int .u64 d.a.lo], .int .i64 d.n] _ _ from Pair.op hAE.out.two.swap (fun U hU => Sample_U (a := d.a) hU dok (by omega) d.n)).mono ?_
                intro e w6 hc
                have hAF := Lib.hid (hAE.out.op2 hc)
                obtain ⟨⟨v, rfl⟩, _⟩ := hc
                clear hAE D0 D1 D2 D3 D4 D5 D6 A0 A1 A2
                go_wp2_with fail
                go_roundw
                case rel => exact ⟨2, _, _, _, _, by first | rfl | go_num, by omega, Lib.hid ⟨fun h => absurd h (by decide), fun h => absurd h (by decide), fun _ => ⟨hsH.out, h1, Nat.le_trans (nchg_le _ _ _) (by omega)⟩⟩, hAF⟩
                case measure => first | (simp [intOf]; done) | (simp [intOf]; omega)
              · go_wp2_with fail
                refine (hpk.out _).mono ?_
                rintro e wr ⟨rfl, rfl⟩
                go_wp2_with fail
                refine (show Calls Try.prog 10 #[.pointer (some ⟨yb, 0, none⟩), .agg #[.bool d.a.v6, .int .u64 d.a.hi, .int .u64 d.a.lo]] _ _ from Pair.op hAE.out.two.swap (fun U hU => Miss_U (a := d.a) hU dok (by omega))).mono ?_
                intro e w6 hc
                have hAF := Lib.hid (hAE.out.op2 hc)
                obtain ⟨⟨v, rfl⟩, _⟩ := hc
                clear hAE D0 D1 D2 D3 D4 D5 D6 A0 A1 A2
                go_wp2_with fail
                go_roundw
                case rel => exact ⟨2, _, _, _, _, by first | rfl | go_num, by omega, Lib.hid ⟨fun h => absurd h (by decide), fun h => absurd h (by decide), fun _ => ⟨hsH.out, h1, Nat.le_trans (nchg_le _ _ _) (by omega)⟩⟩, hAF⟩
                case measure => first | (simp [intOf]; done) | (simp [intOf]; omega)
              · go_wp2_with fail
                refine (hpk.out _).mono ?_
                rintro e wr ⟨rfl, rfl⟩
                go_wp2_with fail
                refine (show Calls Try.prog 11 #[.pointer (some ⟨yb, 0, none⟩), .agg #[.bool d.a.v6, .int .u64 d.a.hi, .int .u64 d.a.lo], .string d.z, .int .i64 d.now] _ _ from Pair.op hAE.out.two.swap (fun U hU => SetLame_U (a := d.a) hU dok (by omega) d.z dz d.now)).mono ?_
                intro e w6 hc
                have hAF := Lib.hid (hAE.out.op2 hc)
                obtain ⟨⟨v, rfl⟩, _⟩ := hc
                clear hAE D0 D1 D2 D3 D4 D5 D6 A0 A1 A2
                go_wp2_with fail
                go_roundw
                case rel => exact ⟨2, _, _, _, _, by first | rfl | go_num, by omega, Lib.hid ⟨fun h => absurd h (by decide), fun h => absurd h (by decide), fun _ => ⟨hsH.out, h1, Nat.le_trans (setLameN_le _ _ _ _ _) (by omega)⟩⟩, hAF⟩
                case measure => first | (simp [intOf]; done) | (simp [intOf]; omega)
              · go_wp2_with fail
                refine (hpk.out _).mono ?_
                rintro e wr ⟨rfl, rfl⟩
                go_wp2_with fail
                refine (show Calls Try.prog 17 #[.pointer (some ⟨yb, 0, none⟩), .agg #[.bool d.a.v6, .int .u64 d.a.hi, .int .u64 d.a.lo], .int .i64 d.now] _ _ from Pair.op hAE.out.two.swap (fun U hU => SetPlain_U (a := d.a) hU dok (by omega) d.now)).mono ?_
                intro e w6 hc
                have hAF := Lib.hid (hAE.out.op2 hc)
                obtain ⟨⟨v, rfl⟩, _⟩ := hc
                clear hAE D0 D1 D2 D3 D4 D5 D6 A0 A1 A2
                go_wp2_with fail
                go_roundw
                case rel => exact ⟨2, _, _, _, _, by first | rfl | go_num, by omega, Lib.hid ⟨fun h => absurd h (by decide), fun h => absurd h (by decide), fun _ => ⟨hsH.out, h1, Nat.le_trans (setPlainN_le _ _ _ _) (by omega)⟩⟩, hAF⟩
                case measure => first | (simp [intOf]; done) | (simp [intOf]; omega)
            · have hcmp : Hid (decide (d.a = o) = false) := Lib.hid (decide_eq_false hne)
              have hneH := Lib.hid hne
              clear hne
              go_upto_region 15 with (fail)
              refine Rt.wp_region_seq [0, 1, 1, 0] ?_
              apply txt_pure rfl rfl rfl; (· (intro w; go_simp; (try go_bits); with_reducible rfl)); (· (simp only [Act.put, Act.eval, List.setIfInBounds_toArray, List.set_cons_zero, List.set_cons_succ, Array.getD_eq_getD_getElem?, List.getElem?_toArray, List.getElem?_cons_zero, List.getElem?_cons_succ, Option.getD_some, List.getElem_toArray, List.getElem_cons_succ, List.getElem_cons_zero]; with_reducible rfl))
              apply txt_read rfl rfl rfl; (· (go_simp; with_reducible rfl)); (· (simp only [Act.put, Act.eval, List.setIfInBounds_toArray, List.set_cons_zero, List.set_cons_succ, Array.getD_eq_getD_getElem?, List.getElem?_toArray, List.getElem?_cons_zero, List.getElem?_cons_succ, Option.getD_some, List.getElem_toArray, List.getElem_cons_succ, List.getElem_cons_zero]; with_reducible rfl))
              apply txt_read rfl rfl rfl; (· (go_simp; with_reducible rfl)); (· (simp only [Act.put, Act.eval, List.setIfInBounds_toArray, List.set_cons_zero, List.set_cons_succ, Array.getD_eq_getD_getElem?, List.getElem?_toArray, List.getElem?_cons_zero, List.getElem?_cons_succ, Option.getD_some, List.getElem_toArray, List.getElem_cons_succ, List.getElem_cons_zero]; with_reducible rfl))
              apply txt_pure rfl rfl rfl; (· (intro w; exact exec_neqA (x := d.a) (y := o) rfl rfl rfl w)); (· (simp only [Act.put, Act.eval, List.setIfInBounds_toArray, List.set_cons_zero, List.set_cons_succ, Array.getD_eq_getD_getElem?, List.getElem?_toArray, List.getElem?_cons_zero, List.getElem?_cons_succ, Option.getD_some, List.getElem_toArray, List.getElem_cons_succ, List.getElem_cons_zero]; with_reducible rfl))
              with_reducible refine txt_nil ?_
              rw [hcmp.out]
              go_wp2_with fail
              go_roundw
              case rel => exact ⟨2, nx', ny', sx', sy', by first | rfl | go_num, by omega, Lib.hid ⟨fun h => absurd h (by decide), fun h => absurd h (by decide), fun _ => ⟨by rw [hsH.out]; exact stepQ_other hneH.out, h1, by omega⟩⟩, hAE⟩
              case measure => first | (simp [intOf]; done) | (simp [intOf]; omega)
          · obtain ⟨hs, h1, h2⟩ := hR.out.2.2 rfl
            have hsH := Lib.hid hs
            clear hs hR D0 D1 D2 D3 D4 D5 D6 A0 A1 A2
            go_wp2_with fail
            go_roundw
            case rel => exact ⟨i + 1, nx', ny', sx', sy', by first | rfl | go_num, by omega, by omega, h1, h2, hsH, Lib.hid hAE.out.done⟩
            case measure => first | (simp [intOf]; done) | (simp [intOf]; omega)
      · clear hncH hcmH hDH
        have vx : Hid (toP ((sx o).getD zeroP) = toP ((sy o).getD zeroP)) := Lib.hid (by rw [hst.out])
        have lx : Hid (lameB zone now ((sx o).getD zeroP) = lameB zone now ((sy o).getD zeroP)) := Lib.hid (by rw [hst.out])
        have px : Hid (plainB sx o now = plainB sy o now) := Lib.hid (by unfold plainB; rw [hst.out])
        obtain ⟨T, hT⟩ : ∃ t, toP ((sy o).getD zeroP) = t := ⟨_, rfl⟩
        obtain ⟨Lb, hLb⟩ : ∃ t, lameB zone now ((sy o).getD zeroP) = t := ⟨_, rfl⟩
        obtain ⟨Pb, hPb⟩ : ∃ t, plainB sy o now = t := ⟨_, rfl⟩
        rw [hT] at vx
        rw [hLb] at lx
        rw [hPb] at px
        have vy := Lib.hid hT
        have ly := Lib.hid hLb
        have py := Lib.hid hPb
        clear hT hLb hPb
        obtain ⟨A0, A1, A2⟩ := hA.out.A.cells
        go_upto_region 25 with (fail)
        obtain ⟨wd, hwd⟩ : ∃ d, wr.drew = d := ⟨_, rfl⟩
        have hbd : Below wr.heap.size wr wd := by rw [← hwd]; exact (Below.refl _ _).drew
        have hE20 := Lib.hid (hA.out.read hbd)
        replace A0 := (hbd.cell (World.block_lt_of_cell? _ _ A0)).trans A0
        replace A1 := (hbd.cell (World.block_lt_of_cell? _ _ A1)).trans A1
        replace A2 := (hbd.cell (World.block_lt_of_cell? _ _ A2)).trans A2
        clear hA hbd
        refine Rt.wp_region_ordM [0, 0, 0, 1, 2, 0, 1, 2, 0, 0, 0, 0, 1, 0, 0, 2, 0, 1, 0, 0, 2, 0, 0, 0, 0, 1, 0, 2, 0, 1, 0, 2, 0, 0, 0] [0, 1, 2, 3, 5, 6, 4, 7, 8, 9, 10, 11, 12, 13, 14, 16, 17, 18, 19, 15, 20, 21, 22, 23, 24, 25, 26, 28, 29, 30, 27, 31, 32, 33, 34] (by kernel_rfl) (by kernel_rfl) ?_
        rw [hwd]
        clear hwd
        apply ord_move rfl rfl rfl rfl; (· (simp only [Act.put, Act.eval, List.setIfInBounds_toArray, List.set_cons_zero, List.set_cons_succ, Array.getD_eq_getD_getElem?, List.getElem?_toArray, List.getElem?_cons_zero, List.getElem?_cons_succ, Option.getD_some, List.getElem_toArray, List.getElem_cons_succ, List.getElem_cons_zero]; with_reducible rfl))
        apply ord_move rfl rfl rfl rfl; (· (simp only [Act.put, Act.eval, List.setIfInBounds_toArray, List.set_cons_zero, List.set_cons_succ, Array.getD_eq_getD_getElem?, List.getElem?_toArray, List.getElem?_cons_zero, List.getElem?_cons_succ, Option.getD_some, List.getElem_toArray, List.getElem_cons_succ, List.getElem_cons_zero]; with_reducible rfl))
        apply ord_pure rfl rfl rfl; (· (intro w; go_simp; with_reducible rfl)); (· (simp only [Act.put, Act.eval, List.setIfInBounds_toArray, List.set_cons_zero, List.set_cons_succ, Array.getD_eq_getD_getElem?, List.getElem?_toArray, List.getElem?_cons_zero, List.getElem?_cons_succ, Option.getD_some, List.getElem_toArray, List.getElem_cons_succ, List.getElem_cons_zero]; with_reducible rfl))
        apply ord_read rfl rfl rfl; (· (intro W hW; have g0 := cell_up hW A0; have g1 := cell_up hW A1; have g2 := cell_up hW A2; go_simp; with_reducible rfl)); (· (simp only [Act.put, Act.eval, List.setIfInBounds_toArray, List.set_cons_zero, List.set_cons_succ, Array.getD_eq_getD_getElem?, List.getElem?_toArray, List.getElem?_cons_zero, List.getElem?_cons_succ, Option.getD_some, List.getElem_toArray, List.getElem_cons_succ, List.getElem_cons_zero]; with_reducible rfl))
        apply ord_pure rfl rfl rfl; (· (intro w; go_simp; with_reducible rfl)); (· (simp only [Act.put, Act.eval, List.setIfInBounds_toArray, List.set_cons_zero, List.set_cons_succ, Array.getD_eq_getD_getElem?, List.getElem?_toArray, List.getElem?_cons_zero, List.getElem?_cons_succ, Option.getD_some, List.getElem_toArray, List.getElem_cons_succ, List.getElem_cons_zero]; with_reducible rfl))
        apply ord_read rfl rfl rfl; (· (intro W hW; have g0 := cell_up hW A0; have g1 := cell_up hW A1; have g2 := cell_up hW A2; go_simp; with_reducible rfl)); (· (simp only [Act.put, Act.eval, List.setIfInBounds_toArray, List.set_cons_zero, List.set_cons_succ, Array.getD_eq_getD_getElem?, List.getElem?_toArray, List.getElem?_cons_zero, List.getElem?_cons_succ, Option.getD_some, List.getElem_toArray, List.getElem_cons_succ, List.getElem_cons_zero]; with_reducible rfl))
        refine ord_call rfl rfl rfl (by go_simp; exact ⟨rfl, rfl⟩) ?_
        refine ((show Calls Try.prog 16 #[.pointer (some ⟨xb, 0, none⟩), .agg #[.bool o.v6, .int .u64 o.hi, .int .u64 o.lo]] _ _ from Timeout_P (a := o) hE20.out.two.px ho)).mono ?_
        rw [vx.out]
        rintro e w21 ⟨rfl, hb21⟩
        refine ⟨_, rfl, hb21, ?_⟩
        have hE21 := Lib.hid (hE20.out.read hb21)
        replace A0 := (hb21.cell (World.block_lt_of_cell? _ _ A0)).trans A0
        replace A1 := (hb21.cell (World.block_lt_of_cell? _ _ A1)).trans A1
        replace A2 := (hb21.cell (World.block_lt_of_cell? _ _ A2)).trans A2
        simp only [Act.put, Act.eval, List.setIfInBounds_toArray, List.set_cons_zero, List.set_cons_succ, Array.getD_eq_getD_getElem?, List.getElem?_toArray, List.getElem?_cons_zero, List.getElem?_cons_succ, Option.getD_some, List.getElem_toArray, List.getElem_cons_succ, List.getElem_cons_zero]
        refine ord_call rfl rfl rfl (by go_simp; exact ⟨rfl, rfl⟩) ?_
        refine ((show Calls Try.prog 16 #[.pointer (some ⟨yb, 0, none⟩), .agg #[.bool o.v6, .int .u64 o.hi, .int .u64 o.lo]] _ _ from Timeout_P (a := o) hE21.out.two.swap.px ho)).mono ?_
        rw [vy.out]
        rintro e w22 ⟨rfl, hb22⟩
        refine ⟨_, rfl, hb22, ?_⟩
        have hE22 := Lib.hid (hE21.out.read hb22)
        replace A0 := (hb22.cell (World.block_lt_of_cell? _ _ A0)).trans A0
        replace A1 := (hb22.cell (World.block_lt_of_cell? _ _ A1)).trans A1
        replace A2 := (hb22.cell (World.block_lt_of_cell? _ _ A2)).trans A2
        simp only [Act.put, Act.eval, List.setIfInBounds_toArray, List.set_cons_zero, List.set_cons_succ, Array.getD_eq_getD_getElem?, List.getElem?_toArray, List.getElem?_cons_zero, List.getElem?_cons_succ, Option.getD_some, List.getElem_toArray, List.getElem_cons_succ, List.getElem_cons_zero]
        apply ord_pure rfl rfl rfl; (· (intro w; go_simp; with_reducible rfl)); (· (simp only [Act.put, Act.eval, List.setIfInBounds_toArray, List.set_cons_zero, List.set_cons_succ, Array.getD_eq_getD_getElem?, List.getElem?_toArray, List.getElem?_cons_zero, List.getElem?_cons_succ, Option.getD_some, List.getElem_toArray, List.getElem_cons_succ, List.getElem_cons_zero]; with_reducible rfl))
        apply ord_pure rfl rfl rfl; (· (intro w; go_simp; with_reducible rfl)); (· (simp only [Act.put, Act.eval, List.setIfInBounds_toArray, List.set_cons_zero, List.set_cons_succ, Array.getD_eq_getD_getElem?, List.getElem?_toArray, List.getElem?_cons_zero, List.getElem?_cons_succ, Option.getD_some, List.getElem_toArray, List.getElem_cons_succ, List.getElem_cons_zero]; with_reducible rfl))
        apply ord_move rfl rfl rfl rfl; (· (simp only [Act.put, Act.eval, List.setIfInBounds_toArray, List.set_cons_zero, List.set_cons_succ, Array.getD_eq_getD_getElem?, List.getElem?_toArray, List.getElem?_cons_zero, List.getElem?_cons_succ, Option.getD_some, List.getElem_toArray, List.getElem_cons_succ, List.getElem_cons_zero]; with_reducible rfl))
        apply ord_pure rfl rfl rfl; (· (intro w; go_simp; with_reducible rfl)); (· (simp only [Act.put, Act.eval, List.setIfInBounds_toArray, List.set_cons_zero, List.set_cons_succ, Array.getD_eq_getD_getElem?, List.getElem?_toArray, List.getElem?_cons_zero, List.getElem?_cons_succ, Option.getD_some, List.getElem_toArray, List.getElem_cons_succ, List.getElem_cons_zero]; with_reducible rfl))
        apply ord_read rfl rfl rfl; (· (intro W hW; have g0 := cell_up hW A0; have g1 := cell_up hW A1; have g2 := cell_up hW A2; go_simp; with_reducible rfl)); (· (simp only [Act.put, Act.eval, List.setIfInBounds_toArray, List.set_cons_zero, List.set_cons_succ, Array.getD_eq_getD_getElem?, List.getElem?_toArray, List.getElem?_cons_zero, List.getElem?_cons_succ, Option.getD_some, List.getElem_toArray, List.getElem_cons_succ, List.getElem_cons_zero]; with_reducible rfl))
        apply ord_pure rfl rfl rfl; (· (intro w; go_simp; with_reducible rfl)); (· (simp only [Act.put, Act.eval, List.setIfInBounds_toArray, List.set_cons_zero, List.set_cons_succ, Array.getD_eq_getD_getElem?, List.getElem?_toArray, List.getElem?_cons_zero, List.getElem?_cons_succ, Option.getD_some, List.getElem_toArray, List.getElem_cons_succ, List.getElem_cons_zero]; with_reducible rfl))
        apply ord_pure rfl rfl rfl; (· (intro w; go_simp; with_reducible rfl)); (· (simp only [Act.put, Act.eval, List.setIfInBounds_toArray, List.set_cons_zero, List.set_cons_succ, Array.getD_eq_getD_getElem?, List.getElem?_toArray, List.getElem?_cons_zero, List.getElem?_cons_succ, Option.getD_some, List.getElem_toArray, List.getElem_cons_succ, List.getElem_cons_zero]; with_reducible rfl))
        apply ord_pure rfl rfl rfl; (· (intro w; go_simp; with_reducible rfl)); (· (simp only [Act.put, Act.eval, List.setIfInBounds_toArray, List.set_cons_zero, List.set_cons_succ, Array.getD_eq_getD_getElem?, List.getElem?_toArray, List.getElem?_cons_zero, List.getElem?_cons_succ, Option.getD_some, List.getElem_toArray, List.getElem_cons_succ, List.getElem_cons_zero]; with_reducible rfl))
        apply ord_read rfl rfl rfl; (· (intro W hW; have g0 := cell_up hW A0; have g1 := cell_up hW A1; have g2 := cell_up hW A2; go_simp; with_reducible rfl)); (· (simp only [Act.put, Act.eval, List.setIfInBounds_toArray, List.set_cons_zero, List.set_cons_succ, Array.getD_eq_getD_getElem?, List.getElem?_toArray, List.getElem?_cons_zero, List.getElem?_cons_succ, Option.getD_some, List.getElem_toArray, List.getElem_cons_succ, List.getElem_cons_zero]; with_reducible rfl))
        apply ord_pure rfl rfl rfl; (· (intro w; go_simp; with_reducible rfl)); (· (simp only [Act.put, Act.eval, List.setIfInBounds_toArray, List.set_cons_zero, List.set_cons_succ, Array.getD_eq_getD_getElem?, List.getElem?_toArray, List.getElem?_cons_zero, List.getElem?_cons_succ, Option.getD_some, List.getElem_toArray, List.getElem_cons_succ, List.getElem_cons_zero]; with_reducible rfl))
        apply ord_pure rfl rfl rfl; (· (intro w; go_simp; with_reducible rfl)); (· (simp only [Act.put, Act.eval, List.setIfInBounds_toArray, List.set_cons_zero, List.set_cons_succ, Array.getD_eq_getD_getElem?, List.getElem?_toArray, List.getElem?_cons_zero, List.getElem?_cons_succ, Option.getD_some, List.getElem_toArray, List.getElem_cons_succ, List.getElem_cons_zero]; with_reducible rfl))
        refine ord_call rfl rfl rfl (by go_simp; exact ⟨rfl, rfl⟩) ?_
        refine ((show Calls Try.prog 15 #[.pointer (some ⟨xb, 0, none⟩), .agg #[.bool o.v6, .int .u64 o.hi, .int .u64 o.lo], .string zone, .int .i64 now] _ _ from Lame_P (a := o) hE22.out.two.px ho zone hz now)).mono ?_
        rw [lx.out]
        rintro e w23 ⟨rfl, hb23⟩
        refine ⟨_, rfl, hb23, ?_⟩
        have hE23 := Lib.hid (hE22.out.read hb23)
        replace A0 := (hb23.cell (World.block_lt_of_cell? _ _ A0)).trans A0
        replace A1 := (hb23.cell (World.block_lt_of_cell? _ _ A1)).trans A1
        replace A2 := (hb23.cell (World.block_lt_of_cell? _ _ A2)).trans A2
        simp only [Act.put, Act.eval, List.setIfInBounds_toArray, List.set_cons_zero, List.set_cons_succ, Array.getD_eq_getD_getElem?, List.getElem?_toArray, List.getElem?_cons_zero, List.getElem?_cons_succ, Option.getD_some, List.getElem_toArray, List.getElem_cons_succ, List.getElem_cons_zero]
        refine ord_call rfl rfl rfl (by go_simp; exact ⟨rfl, rfl⟩) ?_
        refine ((show Calls Try.prog 15 #[.pointer (some ⟨yb, 0, none⟩), .agg #[.bool o.v6, .int .u64 o.hi, .int .u64 o.lo], .string zone, .int .i64 now] _ _ from Lame_P (a := o) hE23.out.two.swap.px ho zone hz now)).mono ?_
        rw [ly.out]
        rintro e w24 ⟨rfl, hb24⟩
        refine ⟨_, rfl, hb24, ?_⟩
        have hE24 := Lib.hid (hE23.out.read hb24)
        replace A0 := (hb24.cell (World.block_lt_of_cell? _ _ A0)).trans A0
        replace A1 := (hb24.cell (World.block_lt_of_cell? _ _ A1)).trans A1
        replace A2 := (hb24.cell (World.block_lt_of_cell? _ _ A2)).trans A2
        simp only [Act.put, Act.eval, List.setIfInBounds_toArray, List.set_cons_zero, List.set_cons_succ, Array.getD_eq_getD_getElem?, List.getElem?_toArray, List.getElem?_cons_zero, List.getElem?_cons_succ, Option.getD_some, List.getElem_toArray, List.getElem_cons_succ, List.getElem_cons_zero]
        apply ord_pure rfl rfl rfl; (· (intro w; go_simp; with_reducible rfl)); (· (simp only [Act.put, Act.eval, List.setIfInBounds_toArray, List.set_cons_zero, List.set_cons_succ, Array.getD_eq_getD_getElem?, List.getElem?_toArray, List.getElem?_cons_zero, List.getElem?_cons_succ, Option.getD_some, List.getElem_toArray, List.getElem_cons_succ, List.getElem_cons_zero]; with_reducible rfl))
        apply ord_pure rfl rfl rfl; (· (intro w; go_simp; with_reducible rfl)); (· (simp only [Act.put, Act.eval, List.setIfInBounds_toArray, List.set_cons_zero, List.set_cons_succ, Array.getD_eq_getD_getElem?, List.getElem?_toArray, List.getElem?_cons_zero, List.getElem?_cons_succ, Option.getD_some, List.getElem_toArray, List.getElem_cons_succ, List.getElem_cons_zero]; with_reducible rfl))
        apply ord_move rfl rfl rfl rfl; (· (simp only [Act.put, Act.eval, List.setIfInBounds_toArray, List.set_cons_zero, List.set_cons_succ, Array.getD_eq_getD_getElem?, List.getElem?_toArray, List.getElem?_cons_zero, List.getElem?_cons_succ, Option.getD_some, List.getElem_toArray, List.getElem_cons_succ, List.getElem_cons_zero]; with_reducible rfl))
        apply ord_pure rfl rfl rfl; (· (intro w; go_simp; with_reducible rfl)); (· (simp only [Act.put, Act.eval, List.setIfInBounds_toArray, List.set_cons_zero, List.set_cons_succ, Array.getD_eq_getD_getElem?, List.getElem?_toArray, List.getElem?_cons_zero, List.getElem?_cons_succ, Option.getD_some, List.getElem_toArray, List.getElem_cons_succ, List.getElem_cons_zero]; with_reducible rfl))
        apply ord_read rfl rfl rfl; (· (intro W hW; have g0 := cell_up hW A0; have g1 := cell_up hW A1; have g2 := cell_up hW A2; go_simp; with_reducible rfl)); (· (simp only [Act.put, Act.eval, List.setIfInBounds_toArray, List.set_cons_zero, List.set_cons_succ, Array.getD_eq_getD_getElem?, List.getElem?_toArray, List.getElem?_cons_zero, List.getElem?_cons_succ, Option.getD_some, List.getElem_toArray, List.getElem_cons_succ, List.getElem_cons_zero]; with_reducible rfl))
        apply ord_pure rfl rfl rfl; (· (intro w; go_simp; with_reducible rfl)); (· (simp only [Act.put, Act.eval, List.setIfInBounds_toArray, List.set_cons_zero, List.set_cons_succ, Array.getD_eq_getD_getElem?, List.getElem?_toArray, List.getElem?_cons_zero, List.getElem?_cons_succ, Option.getD_some, List.getElem_toArray, List.getElem_cons_succ, List.getElem_cons_zero]; with_reducible rfl))
        apply ord_pure rfl rfl rfl; (· (intro w; go_simp; with_reducible rfl)); (· (simp only [Act.put, Act.eval, List.setIfInBounds_toArray, List.set_cons_zero, List.set_cons_succ, Array.getD_eq_getD_getElem?, List.getElem?_toArray, List.getElem?_cons_zero, List.getElem?_cons_succ, Option.getD_some, List.getElem_toArray, List.getElem_cons_succ, List.getElem_cons_zero]; with_reducible rfl))
        apply ord_read rfl rfl rfl; (· (intro W hW; have g0 := cell_up hW A0; have g1 := cell_up hW A1; have g2 := cell_up hW A2; go_simp; with_reducible rfl)); (· (simp only [Act.put, Act.eval, List.setIfInBounds_toArray, List.set_cons_zero, List.set_cons_succ, Array.getD_eq_getD_getElem?, List.getElem?_toArray, List.getElem?_cons_zero, List.getElem?_cons_succ, Option.getD_some, List.getElem_toArray, List.getElem_cons_succ, List.getElem_cons_zero]; with_reducible rfl))
        apply ord_pure rfl rfl rfl; (· (intro w; go_simp; with_reducible rfl)); (· (simp only [Act.put, Act.eval, List.setIfInBounds_toArray, List.set_cons_zero, List.set_cons_succ, Array.getD_eq_getD_getElem?, List.getElem?_toArray, List.getElem?_cons_zero, List.getElem?_cons_succ, Option.getD_some, List.getElem_toArray, List.getElem_cons_succ, List.getElem_cons_zero]; with_reducible rfl))
        refine ord_call rfl rfl rfl (by go_simp; exact ⟨rfl, rfl⟩) ?_
        refine ((show Calls Try.prog 18 #[.pointer (some ⟨xb, 0, none⟩), .agg #[.bool o.v6, .int .u64 o.hi, .int .u64 o.lo], .int .i64 now] _ _ from Plain_P (a := o) hE24.out.two.px ho now)).mono ?_
        rw [px.out]
        rintro e w25 ⟨rfl, hb25⟩
        refine ⟨_, rfl, hb25, ?_⟩
        have hE25 := Lib.hid (hE24.out.read hb25)
        replace A0 := (hb25.cell (World.block_lt_of_cell? _ _ A0)).trans A0
        replace A1 := (hb25.cell (World.block_lt_of_cell? _ _ A1)).trans A1
        replace A2 := (hb25.cell (World.block_lt_of_cell? _ _ A2)).trans A2
        simp only [Act.put, Act.eval, List.setIfInBounds_toArray, List.set_cons_zero, List.set_cons_succ, Array.getD_eq_getD_getElem?, List.getElem?_toArray, List.getElem?_cons_zero, List.getElem?_cons_succ, Option.getD_some, List.getElem_toArray, List.getElem_cons_succ, List.getElem_cons_zero]
        refine ord_call rfl rfl rfl (by go_simp; exact ⟨rfl, rfl⟩) ?_
        refine ((show Calls Try.prog 18 #[.pointer (some ⟨yb, 0, none⟩), .agg #[.bool o.v6, .int .u64 o.hi, .int .u64 o.lo], .int .i64 now] _ _ from Plain_P (a := o) hE25.out.two.swap.px ho now)).mono ?_
        rw [py.out]
        rintro e w26 ⟨rfl, hb26⟩
        refine ⟨_, rfl, hb26, ?_⟩
        have hE26 := Lib.hid (hE25.out.read hb26)
        replace A0 := (hb26.cell (World.block_lt_of_cell? _ _ A0)).trans A0
        replace A1 := (hb26.cell (World.block_lt_of_cell? _ _ A1)).trans A1
        replace A2 := (hb26.cell (World.block_lt_of_cell? _ _ A2)).trans A2
        simp only [Act.put, Act.eval, List.setIfInBounds_toArray, List.set_cons_zero, List.set_cons_succ, Array.getD_eq_getD_getElem?, List.getElem?_toArray, List.getElem?_cons_zero, List.getElem?_cons_succ, Option.getD_some, List.getElem_toArray, List.getElem_cons_succ, List.getElem_cons_zero]
        apply ord_pure rfl rfl rfl; (· (intro w; go_simp; with_reducible rfl)); (· (simp only [Act.put, Act.eval, List.setIfInBounds_toArray, List.set_cons_zero, List.set_cons_succ, Array.getD_eq_getD_getElem?, List.getElem?_toArray, List.getElem?_cons_zero, List.getElem?_cons_succ, Option.getD_some, List.getElem_toArray, List.getElem_cons_succ, List.getElem_cons_zero]; with_reducible rfl))
        apply ord_pure rfl rfl rfl; (· (intro w; go_simp; with_reducible rfl)); (· (simp only [Act.put, Act.eval, List.setIfInBounds_toArray, List.set_cons_zero, List.set_cons_succ, Array.getD_eq_getD_getElem?, List.getElem?_toArray, List.getElem?_cons_zero, List.getElem?_cons_succ, Option.getD_some, List.getElem_toArray, List.getElem_cons_succ, List.getElem_cons_zero]; with_reducible rfl))
        apply ord_pure rfl rfl rfl; (· (intro w; go_simp; with_reducible rfl)); (· (simp only [Act.put, Act.eval, List.setIfInBounds_toArray, List.set_cons_zero, List.set_cons_succ, Array.getD_eq_getD_getElem?, List.getElem?_toArray, List.getElem?_cons_zero, List.getElem?_cons_succ, Option.getD_some, List.getElem_toArray, List.getElem_cons_succ, List.getElem_cons_zero]; with_reducible rfl))
        with_reducible refine ord_nil ?_
        go_wp2
        go_ret
        exact ⟨by first | rfl | simp, hE26.out.bel⟩
    · clear hncH hcmH hDH
      have vx : Hid (toP ((sx o).getD zeroP) = toP ((sy o).getD zeroP)) := Lib.hid (by rw [hst.out])
      have lx : Hid (lameB zone now ((sx o).getD zeroP) = lameB zone now ((sy o).getD zeroP)) := Lib.hid (by rw [hst.out])
      have px : Hid (plainB sx o now = plainB sy o now) := Lib.hid (by unfold plainB; rw [hst.out])
      obtain ⟨T, hT⟩ : ∃ t, toP ((sy o).getD zeroP) = t := ⟨_, rfl⟩
      obtain ⟨Lb, hLb⟩ : ∃ t, lameB zone now ((sy o).getD zeroP) = t := ⟨_, rfl⟩
      obtain ⟨Pb, hPb⟩ : ∃ t, plainB sy o now = t := ⟨_, rfl⟩
      rw [hT] at vx
      rw [hLb] at lx
      rw [hPb] at px
      have vy := Lib.hid hT
      have ly := Lib.hid hLb
      have py := Lib.hid hPb
      clear hT hLb hPb
      obtain ⟨A0, A1, A2⟩ := hA.out.A.cells
      go_upto_region 25 with (fail)
      obtain ⟨wd, hwd⟩ : ∃ d, wr.drew = d := ⟨_, rfl⟩
      have hbd : Below wr.heap.size wr wd := by rw [← hwd]; exact (Below.refl _ _).drew
      have hE20 := Lib.hid (hA.out.read hbd)
      replace A0 := (hbd.cell (World.block_lt_of_cell? _ _ A0)).trans A0
      replace A1 := (hbd.cell (World.block_lt_of_cell? _ _ A1)).trans A1
      replace A2 := (hbd.cell (World.block_lt_of_cell? _ _ A2)).trans A2
      clear hA hbd
      refine Rt.wp_region_ordM [0, 0, 0, 1, 2, 0, 1, 2, 0, 0, 0, 0, 1, 0, 0, 2, 0, 1, 0, 0, 2, 0, 0, 0, 0, 1, 0, 2, 0, 1, 0, 2, 0, 0, 0] [0, 1, 2, 3, 5, 6, 4, 7, 8, 9, 10, 11, 12, 13, 14, 16, 17, 18, 19, 15, 20, 21, 22, 23, 24, 25, 26, 28, 29, 30, 27, 31, 32, 33, 34] (by kernel_rfl) (by kernel_rfl) ?_
      rw [hwd]
      clear hwd
      apply ord_move rfl rfl rfl rfl; (· (simp only [Act.put, Act.eval, List.setIfInBounds_toArray, List.set_cons_zero, List.set_cons_succ, Array.getD_eq_getD_getElem?, List.getElem?_toArray, List.getElem?_cons_zero, List.getElem?_cons_succ, Option.getD_some, List.getElem_toArray, List.getElem_cons_succ, List.getElem_cons_zero]; with_reducible rfl))
      apply ord_move rfl rfl rfl rfl; (· (simp only [Act.put, Act.eval, List.setIfInBounds_toArray, List.set_cons_zero, List.set_cons_succ, Array.getD_eq_getD_getElem?, List.getElem?_toArray, List.getElem?_cons_zero, List.getElem?_cons_succ, Option.getD_some, List.getElem_toArray, List.getElem_cons_succ, List.getElem_cons_zero]; with_reducible rfl))
      apply ord_pure rfl rfl rfl; (· (intro w; go_simp; with_reducible rfl)); (· (simp only [Act.put, Act.eval, List.setIfInBounds_toArray, List.set_cons_zero, List.set_cons_succ, Array.getD_eq_getD_getElem?, List.getElem?_toArray, List.getElem?_cons_zero, List.getElem?_cons_succ, Option.getD_some, List.getElem_toArray, List.getElem_cons_succ, List.getElem_cons_zero]; with_reducible rfl))
      apply ord_read rfl rfl rfl; (· (intro W hW; have g0 := cell_up hW A0; have g1 := cell_up hW A1; have g2 := cell_up hW A2; go_simp; with_reducible rfl)); (· (simp only [Act.put, Act.eval, List.setIfInBounds_toArray, List.set_cons_zero, List.set_cons_succ, Array.getD_eq_getD_getElem?, List.getElem?_toArray, List.getElem?_cons_zero, List.getElem?_cons_succ, Option.getD_some, List.getElem_toArray, List.getElem_cons_succ, List.getElem_cons_zero]; with_reducible rfl))
      apply ord_pure rfl rfl rfl; (· (intro w; go_simp; with_reducible rfl)); (· (simp only [Act.put, Act.eval, List.setIfInBounds_toArray, List.set_cons_zero, List.set_cons_succ, Array.getD_eq_getD_getElem?, List.getElem?_toArray, List.getElem?_cons_zero, List.getElem?_cons_succ, Option.getD_some, List.getElem_toArray, List.getElem_cons_succ, List.getElem_cons_zero]; with_reducible rfl))
      apply ord_read rfl rfl rfl; (· (intro W hW; have g0 := cell_up hW A0; have g1 := cell_up hW A1; have g2 := cell_up hW A2; go_simp; with_reducible rfl)); (· (simp only [Act.put, Act.eval, List.setIfInBounds_toArray, List.set_cons_zero, List.set_cons_succ, Array.getD_eq_getD_getElem?, List.getElem?_toArray, List.getElem?_cons_zero, List.getElem?_cons_succ, Option.getD_some, List.getElem_toArray, List.getElem_cons_succ, List.getElem_cons_zero]; with_reducible rfl))
      refine ord_call rfl rfl rfl (by go_simp; exact ⟨rfl, rfl⟩) ?_
      refine ((show Calls Try.prog 16 #[.pointer (some ⟨xb, 0, none⟩), .agg #[.bool o.v6, .int .u64 o.hi, .int .u64 o.lo]] _ _ from Timeout_P (a := o) hE20.out.two.px ho)).mono ?_
      rw [vx.out]
      rintro e w21 ⟨rfl, hb21⟩
      refine ⟨_, rfl, hb21, ?_⟩
      have hE21 := Lib.hid (hE20.out.read hb21)
      replace A0 := (hb21.cell (World.block_lt_of_cell? _ _ A0)).trans A0
      replace A1 := (hb21.cell (World.block_lt_of_cell? _ _ A1)).trans A1
      replace A2 := (hb21.cell (World.block_lt_of_cell? _ _ A2)).trans A2
      simp only [Act.put, Act.eval, List.setIfInBounds_toArray, List.set_cons_zero, List.set_cons_succ, Array.getD_eq_getD_getElem?, List.getElem?_toArray, List.getElem?_cons_zero, List.getElem?_cons_succ, Option.getD_some, List.getElem_toArray, List.getElem_cons_succ, List.getElem_cons_zero]
      refine ord_call rfl rfl rfl (by go_simp; exact ⟨rfl, rfl⟩) ?_
      refine ((show Calls Try.prog 16 #[.pointer (some ⟨yb, 0, none⟩), .agg #[.bool o.v6, .int .u64 o.hi, .int .u64 o.lo]] _ _ from Timeout_P (a := o) hE21.out.two.swap.px ho)).mono ?_
      rw [vy.out]
      rintro e w22 ⟨rfl, hb22⟩
      refine ⟨_, rfl, hb22, ?_⟩
      have hE22 := Lib.hid (hE21.out.read hb22)
      replace A0 := (hb22.cell (World.block_lt_of_cell? _ _ A0)).trans A0
      replace A1 := (hb22.cell (World.block_lt_of_cell? _ _ A1)).trans A1
      replace A2 := (hb22.cell (World.block_lt_of_cell? _ _ A2)).trans A2
      simp only [Act.put, Act.eval, List.setIfInBounds_toArray, List.set_cons_zero, List.set_cons_succ, Array.getD_eq_getD_getElem?, List.getElem?_toArray, List.getElem?_cons_zero, List.getElem?_cons_succ, Option.getD_some, List.getElem_toArray, List.getElem_cons_succ, List.getElem_cons_zero]
      apply ord_pure rfl rfl rfl; (· (intro w; go_simp; with_reducible rfl)); (· (simp only [Act.put, Act.eval, List.setIfInBounds_toArray, List.set_cons_zero, List.set_cons_succ, Array.getD_eq_getD_getElem?, List.getElem?_toArray, List.getElem?_cons_zero, List.getElem?_cons_succ, Option.getD_some, List.getElem_toArray, List.getElem_cons_succ, List.getElem_cons_zero]; with_reducible rfl))
      apply ord_pure rfl rfl rfl; (· (intro w; go_simp; with_reducible rfl)); (· (simp only [Act.put, Act.eval, List.setIfInBounds_toArray, List.set_cons_zero, List.set_cons_succ, Array.getD_eq_getD_getElem?, List.getElem?_toArray, List.getElem?_cons_zero, List.getElem?_cons_succ, Option.getD_some, List.getElem_toArray, List.getElem_cons_succ, List.getElem_cons_zero]; with_reducible rfl))
      apply ord_move rfl rfl rfl rfl; (· (simp only [Act.put, Act.eval, List.setIfInBounds_toArray, List.set_cons_zero, List.set_cons_succ, Array.getD_eq_getD_getElem?, List.getElem?_toArray, List.getElem?_cons_zero, List.getElem?_cons_succ, Option.getD_some, List.getElem_toArray, List.getElem_cons_succ, List.getElem_cons_zero]; with_reducible rfl))
      apply ord_pure rfl rfl rfl; (· (intro w; go_simp; with_reducible rfl)); (· (simp only [Act.put, Act.eval, List.setIfInBounds_toArray, List.set_cons_zero, List.set_cons_succ, Array.getD_eq_getD_getElem?, List.getElem?_toArray, List.getElem?_cons_zero, List.getElem?_cons_succ, Option.getD_some, List.getElem_toArray, List.getElem_cons_succ, List.getElem_cons_zero]; with_reducible rfl))
      apply ord_read rfl rfl rfl; (· (intro W hW; have g0 := cell_up hW A0; have g1 := cell_up hW A1; have g2 := cell_up hW A2; go_simp; with_reducible rfl)); (· (simp only [Act.put, Act.eval, List.setIfInBounds_toArray, List.set_cons_zero, List.set_cons_succ, Array.getD_eq_getD_getElem?, List.getElem?_toArray, List.getElem?_cons_zero, List.getElem?_cons_succ, Option.getD_some, List.getElem_toArray, List.getElem_cons_succ, List.getElem_cons_zero]; with_reducible rfl))
      apply ord_pure rfl rfl rfl; (· (intro w; go_simp; with_reducible rfl)); (· (simp only [Act.put, Act.eval, List.setIfInBounds_toArray, List.set_cons_zero, List.set_cons_succ, Array.getD_eq_getD_getElem?, List.getElem?_toArray, List.getElem?_cons_zero, List.getElem?_cons_succ, Option.getD_some, List.getElem_toArray, List.getElem_cons_succ, List.getElem_cons_zero]; with_reducible rfl))
      apply ord_pure rfl rfl rfl; (· (intro w; go_simp; with_reducible rfl)); (· (simp only [Act.put, Act.eval, List.setIfInBounds_toArray, List.set_cons_zero, List.set_cons_succ, Array.getD_eq_getD_getElem?, List.getElem?_toArray, List.getElem?_cons_zero, List.getElem?_cons_succ, Option.getD_some, List.getElem_toArray, List.getElem_cons_succ, List.getElem_cons_zero]; with_reducible rfl))
      apply ord_pure rfl rfl rfl; (· (intro w; go_simp; with_reducible rfl)); (· (simp only [Act.put, Act.eval, List.setIfInBounds_toArray, List.set_cons_zero, List.set_cons_succ, Array.getD_eq_getD_getElem?, List.getElem?_toArray, List.getElem?_cons_zero, List.getElem?_cons_succ, Option.getD_some, List.getElem_toArray, List.getElem_cons_succ, List.getElem_cons_zero]; with_reducible rfl))
      apply ord_read rfl rfl rfl; (· (intro W hW; have g0 := cell_up hW A0; have g1 := cell_up hW A1; have g2 := cell_up hW A2; go_simp; with_reducible rfl)); (· (simp only [Act.put, Act.eval, List.setIfInBounds_toArray, List.set_cons_zero, List.set_cons_succ, Array.getD_eq_getD_getElem?, List.getElem?_toArray, List.getElem?_cons_zero, List.getElem?_cons_succ, Option.getD_some, List.getElem_toArray, List.getElem_cons_succ, List.getElem_cons_zero]; with_reducible rfl))
      apply ord_pure rfl rfl rfl; (· (intro w; go_simp; with_reducible rfl)); (· (simp only [Act.put, Act.eval, List.setIfInBounds_toArray, List.set_cons_zero, List.set_cons_succ, Array.getD_eq_getD_getElem?, List.getElem?_toArray, List.getElem?_cons_zero, List.getElem?_cons_succ, Option.getD_some, List.getElem_toArray, List.getElem_cons_succ, List.getElem_cons_zero]; with_reducible rfl))
      apply ord_pure rfl rfl rfl; (· (intro w; go_simp; with_reducible rfl)); (· (simp only [Act.put, Act.eval, List.setIfInBounds_toArray, List.set_cons_zero, List.set_cons_succ, Array.getD_eq_getD_getElem?, List.getElem?_toArray, List.getElem?_cons_zero, List.getElem?_cons_succ, Option.getD_some, List.getElem_toArray, List.getElem_cons_succ, List.getElem_cons_zero]; with_reducible rfl))
      refine ord_call rfl rfl rfl (by go_simp; exact ⟨rfl, rfl⟩) ?_
      refine ((show Calls Try.prog 15 #[.pointer (some ⟨xb, 0, none⟩), .agg #[.bool o.v6, .int .u64 o.hi, .int .u64 o.lo], .string zone, .int .i64 now] _ _ from Lame_P (a := o) hE22.out.two.px ho zone hz now)).mono ?_
      rw [lx.out]
      rintro e w23 ⟨rfl, hb23⟩
      refine ⟨_, rfl, hb23, ?_⟩
      have hE23 := Lib.hid (hE22.out.read hb23)
      replace A0 := (hb23.cell (World.block_lt_of_cell? _ _ A0)).trans A0
      replace A1 := (hb23.cell (World.block_lt_of_cell? _ _ A1)).trans A1
      replace A2 := (hb23.cell (World.block_lt_of_cell? _ _ A2)).trans A2
      simp only [Act.put, Act.eval, List.setIfInBounds_toArray, List.set_cons_zero, List.set_cons_succ, Array.getD_eq_getD_getElem?, List.getElem?_toArray, List.getElem?_cons_zero, List.getElem?_cons_succ, Option.getD_some, List.getElem_toArray, List.getElem_cons_succ, List.getElem_cons_zero]
      refine ord_call rfl rfl rfl (by go_simp; exact ⟨rfl, rfl⟩) ?_
      refine ((show Calls Try.prog 15 #[.pointer (some ⟨yb, 0, none⟩), .agg #[.bool o.v6, .int .u64 o.hi, .int .u64 o.lo], .string zone, .int .i64 now] _ _ from Lame_P (a := o) hE23.out.two.swap.px ho zone hz now)).mono ?_
      rw [ly.out]
      rintro e w24 ⟨rfl, hb24⟩
      refine ⟨_, rfl, hb24, ?_⟩
      have hE24 := Lib.hid (hE23.out.read hb24)
      replace A0 := (hb24.cell (World.block_lt_of_cell? _ _ A0)).trans A0
      replace A1 := (hb24.cell (World.block_lt_of_cell? _ _ A1)).trans A1
      replace A2 := (hb24.cell (World.block_lt_of_cell? _ _ A2)).trans A2
      simp only [Act.put, Act.eval, List.setIfInBounds_toArray, List.set_cons_zero, List.set_cons_succ, Array.getD_eq_getD_getElem?, List.getElem?_toArray, List.getElem?_cons_zero, List.getElem?_cons_succ, Option.getD_some, List.getElem_toArray, List.getElem_cons_succ, List.getElem_cons_zero]
      apply ord_pure rfl rfl rfl; (· (intro w; go_simp; with_reducible rfl)); (· (simp only [Act.put, Act.eval, List.setIfInBounds_toArray, List.set_cons_zero, List.set_cons_succ, Array.getD_eq_getD_getElem?, List.getElem?_toArray, List.getElem?_cons_zero, List.getElem?_cons_succ, Option.getD_some, List.getElem_toArray, List.getElem_cons_succ, List.getElem_cons_zero]; with_reducible rfl))
      apply ord_pure rfl rfl rfl; (· (intro w; go_simp; with_reducible rfl)); (· (simp only [Act.put, Act.eval, List.setIfInBounds_toArray, List.set_cons_zero, List.set_cons_succ, Array.getD_eq_getD_getElem?, List.getElem?_toArray, List.getElem?_cons_zero, List.getElem?_cons_succ, Option.getD_some, List.getElem_toArray, List.getElem_cons_succ, List.getElem_cons_zero]; with_reducible rfl))
      apply ord_move rfl rfl rfl rfl; (· (simp only [Act.put, Act.eval, List.setIfInBounds_toArray, List.set_cons_zero, List.set_cons_succ, Array.getD_eq_getD_getElem?, List.getElem?_toArray, List.getElem?_cons_zero, List.getElem?_cons_succ, Option.getD_some, List.getElem_toArray, List.getElem_cons_succ, List.getElem_cons_zero]; with_reducible rfl))
      apply ord_pure rfl rfl rfl; (· (intro w; go_simp; with_reducible rfl)); (· (simp only [Act.put, Act.eval, List.setIfInBounds_toArray, List.set_cons_zero, List.set_cons_succ, Array.getD_eq_getD_getElem?, List.getElem?_toArray, List.getElem?_cons_zero, List.getElem?_cons_succ, Option.getD_some, List.getElem_toArray, List.getElem_cons_succ, List.getElem_cons_zero]; with_reducible rfl))
      apply ord_read rfl rfl rfl; (· (intro W hW; have g0 := cell_up hW A0; have g1 := cell_up hW A1; have g2 := cell_up hW A2; go_simp; with_reducible rfl)); (· (simp only [Act.put, Act.eval, List.setIfInBounds_toArray, List.set_cons_zero, List.set_cons_succ, Array.getD_eq_getD_getElem?, List.getElem?_toArray, List.getElem?_cons_zero, List.getElem?_cons_succ, Option.getD_some, List.getElem_toArray, List.getElem_cons_succ, List.getElem_cons_zero]; with_reducible rfl))
      apply ord_pure rfl rfl rfl; (· (intro w; go_simp; with_reducible rfl)); (· (simp only [Act.put, Act.eval, List.setIfInBounds_toArray, List.set_cons_zero, List.set_cons_succ, Array.getD_eq_getD_getElem?, List.getElem?_toArray, List.getElem?_cons_zero, List.getElem?_cons_succ, Option.getD_some, List.getElem_toArray, List.getElem_cons_succ, List.getElem_cons_zero]; with_reducible rfl))
      apply ord_pure rfl rfl rfl; (· (intro w; go_simp; with_reducible rfl)); (· (simp only [Act.put, Act.eval, List.setIfInBounds_toArray, List.set_cons_zero, List.set_cons_succ, Array.getD_eq_getD_getElem?, List.getElem?_toArray, List.getElem?_cons_zero, List.getElem?_cons_succ, Option.getD_some, List.getElem_toArray, List.getElem_cons_succ, List.getElem_cons_zero]; with_reducible rfl))
      apply ord_read rfl rfl rfl; (· (intro W hW; have g0 := cell_up hW A0; have g1 := cell_up hW A1; have g2 := cell_up hW A2; go_simp; with_reducible rfl)); (· (simp only [Act.put, Act.eval, List.setIfInBounds_toArray, List.set_cons_zero, List.set_cons_succ, Array.getD_eq_getD_getElem?, List.getElem?_toArray, List.getElem?_cons_zero, List.getElem?_cons_succ, Option.getD_some, List.getElem_toArray, List.getElem_cons_succ, List.getElem_cons_zero]; with_reducible rfl))
      apply ord_pure rfl rfl rfl; (· (intro w; go_simp; with_reducible rfl)); (· (simp only [Act.put, Act.eval, List.setIfInBounds_toArray, List.set_cons_zero, List.set_cons_succ, Array.getD_eq_getD_getElem?, List.getElem?_toArray, List.getElem?_cons_zero, List.getElem?_cons_succ, Option.getD_some, List.getElem_toArray, List.getElem_cons_succ, List.getElem_cons_zero]; with_reducible rfl))
      refine ord_call rfl rfl rfl (by go_simp; exact ⟨rfl, rfl⟩) ?_
      refine ((show Calls Try.prog 18 #[.pointer (some ⟨xb, 0, none⟩), .agg #[.bool o.v6, .int .u64 o.hi, .int .u64 o.lo], .int .i64 now] _ _ from Plain_P (a := o) hE24.out.two.px ho now)).mono ?_
      rw [px.out]
      rintro e w25 ⟨rfl, hb25⟩
      refine ⟨_, rfl, hb25, ?_⟩
      have hE25 := Lib.hid (hE24.out.read hb25)
      replace A0 := (hb25.cell (World.block_lt_of_cell? _ _ A0)).trans A0
      replace A1 := (hb25.cell (World.block_lt_of_cell? _ _ A1)).trans A1
      replace A2 := (hb25.cell (World.block_lt_of_cell? _ _ A2)).trans A2
      simp only [Act.put, Act.eval, List.setIfInBounds_toArray, List.set_cons_zero, List.set_cons_succ, Array.getD_eq_getD_getElem?, List.getElem?_toArray, List.getElem?_cons_zero, List.getElem?_cons_succ, Option.getD_some, List.getElem_toArray, List.getElem_cons_succ, List.getElem_cons_zero]
      refine ord_call rfl rfl rfl (by go_simp; exact ⟨rfl, rfl⟩) ?_
      refine ((show Calls Try.prog 18 #[.pointer (some ⟨yb, 0, none⟩), .agg #[.bool o.v6, .int .u64 o.hi, .int .u64 o.lo], .int .i64 now] _ _ from Plain_P (a := o) hE25.out.two.swap.px ho now)).mono ?_
      rw [py.out]
      rintro e w26 ⟨rfl, hb26⟩
      refine ⟨_, rfl, hb26, ?_⟩
      have hE26 := Lib.hid (hE25.out.read hb26)
      replace A0 := (hb26.cell (World.block_lt_of_cell? _ _ A0)).trans A0
      replace A1 := (hb26.cell (World.block_lt_of_cell? _ _ A1)).trans A1
      replace A2 := (hb26.cell (World.block_lt_of_cell? _ _ A2)).trans A2
      simp only [Act.put, Act.eval, List.setIfInBounds_toArray, List.set_cons_zero, List.set_cons_succ, Array.getD_eq_getD_getElem?, List.getElem?_toArray, List.getElem?_cons_zero, List.getElem?_cons_succ, Option.getD_some, List.getElem_toArray, List.getElem_cons_succ, List.getElem_cons_zero]
      apply ord_pure rfl rfl rfl; (· (intro w; go_simp; with_reducible rfl)); (· (simp only [Act.put, Act.eval, List.setIfInBounds_toArray, List.set_cons_zero, List.set_cons_succ, Array.getD_eq_getD_getElem?, List.getElem?_toArray, List.getElem?_cons_zero, List.getElem?_cons_succ, Option.getD_some, List.getElem_toArray, List.getElem_cons_succ, List.getElem_cons_zero]; with_reducible rfl))
      apply ord_pure rfl rfl rfl; (· (intro w; go_simp; with_reducible rfl)); (· (simp only [Act.put, Act.eval, List.setIfInBounds_toArray, List.set_cons_zero, List.set_cons_succ, Array.getD_eq_getD_getElem?, List.getElem?_toArray, List.getElem?_cons_zero, List.getElem?_cons_succ, Option.getD_some, List.getElem_toArray, List.getElem_cons_succ, List.getElem_cons_zero]; with_reducible rfl))
      apply ord_pure rfl rfl rfl; (· (intro w; go_simp; with_reducible rfl)); (· (simp only [Act.put, Act.eval, List.setIfInBounds_toArray, List.set_cons_zero, List.set_cons_succ, Array.getD_eq_getD_getElem?, List.getElem?_toArray, List.getElem?_cons_zero, List.getElem?_cons_succ, Option.getD_some, List.getElem_toArray, List.getElem_cons_succ, List.getElem_cons_zero]; with_reducible rfl))
      with_reducible refine ord_nil ?_
      go_wp2
      go_ret
      exact ⟨by first | rfl | simp, hE26.out.bel⟩
end Go.Proofs.Yticijejnemnmlaa.If
