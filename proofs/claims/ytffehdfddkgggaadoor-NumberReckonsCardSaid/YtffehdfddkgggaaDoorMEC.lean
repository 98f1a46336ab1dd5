/- Pow and Inv, with what is refused. -/
import Derived.Test.YtffehdfddkgggaaDoorOaPC
import Derived.Test.YtffehdfddkgggaaDoorMAC
import Derived.Test.YtffehdfddkgggaaDoorShelfC
import Derived.Laws.BytesArg
namespace Go.Proofs.YtffehdfddkgggaaDoor.Nu
open Go.RowKit Rt
set_option linter.unusedSimpArgs false
set_option linter.unusedVariables false
theorem modE_zero {m : Nat} : modE m = 0 ↔ m ≠ 0 ∧ blen m ≤ 2048 := by
  unfold modE
  by_cases h0 : m = 0
  · rw [if_pos h0]; simp [h0]
  · rw [if_neg h0]
    by_cases h1 : 2048 < blen m
    · rw [if_pos h1]; constructor
      · intro h; cases h
      · rintro ⟨_, h⟩; omega
    · rw [if_neg h1]; exact ⟨fun _ => ⟨h0, by omega⟩, fun _ => rfl⟩
def powV (a e m : Nat) : Nat := if modE m = 0 then a ^ e % m else 0
theorem Pow_N {w : World} {u v x : Value} {a e m : Nat} (hu : NumAt w u a) (hv : NumAt w v e) (hx : NumAt w x m) (haB : blen a ≤ 400000) (heB : blen e ≤ 400000) (hmB : blen m ≤ 400000) :
    Calls Tryd.prog 23 #[.agg #[u], .agg #[v], .agg #[x]] w fun f w' => ∃ r, f = .returned (.tuple #[.agg #[r], .int .i64 (modE m)]) ∧ NumAt w' r (powV a e m) ∧ Below w.heap.size w w' := by
  unfold powV
  by_cases h : modE m = 0
  · obtain ⟨h0, h1⟩ := modE_zero.1 h
    rw [h, if_pos rfl]
    exact Pow_any hu hv hx haB heB h0 h1
  · rw [if_neg h]
    refine (Pow_err hu hv hx hmB h).mono ?_
    rintro f w' ⟨rfl, hb⟩
    exact ⟨_, rfl, NumAt.zero _, hb⟩
set_option maxHeartbeats 4000000 in
set_option maxRecDepth 100000 in
theorem Inv_err {w : World} {u x : Value} {a m : Nat} (hu : NumAt w u a) (hx : NumAt w x m) (hm : blen m ≤ 400000) (he : modE m ≠ 0) :
    Calls Tryd.prog 24 #[.agg #[u], .agg #[x]] w fun e w' => e = .returned (.tuple #[.agg #[.slice none 0 0], .int .i64 (modE m)]) ∧ Below w.heap.size w w' := by
  have hI := Lib.hid (St.made2 hu hx)
  obtain ⟨ua, ul, uc, rfl⟩ := hu.shape
  obtain ⟨xa, xl, xc, rfl⟩ := hx.shape
  obtain ⟨W0, hW0⟩ : ∃ W, ((w.alloc (.cells #[.slice ua ul uc] 26)).alloc (.cells #[.slice xa xl xc] 26)).alloc (.cells #[.slice none 0 0] 26) = W := ⟨_, rfl⟩
  obtain ⟨S, hS⟩ : ∃ S, up (up (fun _ => none) w.heap.size a) (w.heap.size + 1) m = S := ⟨_, rfl⟩
  have hsm : S (w.heap.size + 1) = some m := by rw [← hS]; exact up_same _ _ _
  rw [hW0, hS] at hI
  have hW0H := Lib.hid hW0
  obtain ⟨ma, ml, mc, mb, mn⟩ := (hI.out.vars _ _ hsm).2
  have hM := Lib.hid (Modulus_N mn (Nat.le_trans hm (by decide)))
  have z0 := mb.cell
  obtain ⟨ev, hev⟩ : ∃ z, modE m = z := ⟨_, rfl⟩
  rw [hev] at he hM ⊢
  have he0 : (ev != 0) = true := by simpa using he
  clear hu hx hW0 mb mn he hev hS hsm
  go_enter Tryd.func24, Tryd.ntmps24
  go_upto_region 1 with (fail)
  rw [hW0H.out]
  clear hW0H
  go_wp2_with (go_at_call 44; refine hM.out.mono ?_; rintro e w2 ⟨rfl, hb2⟩; have hI2 := Lib.hid (hI.out.below hb2); have z3 := hI2.out.vr.cell; have f3 := hI2.out.vr.frozen)
  have r0 := (hI2.out.vr.set (.slice none 0 0)).cell
  have hE := hI2.out.bel.setCell (p := ⟨w.heap.size + 2, 0, none⟩) (Nat.le_add_right _ _) (.slice none 0 0)
  obtain ⟨W3, hW3⟩ : ∃ W, w2.setCell ⟨w.heap.size + 2, 0, none⟩ (.slice none 0 0) = W := ⟨_, rfl⟩
  rw [hW3] at r0 hE ⊢
  refine bodyPost_ret (v := .tuple #[.agg #[.slice none 0 0], .int .i64 ev]) (by simp [results, Tryd.results24, go_sem, r0]) rfl ⟨rfl, hE⟩
/-- How the walk for what makes 1 ends. -/
def invF (a m : Nat) : IV := ivRun m (a % m + 1) (ivFirst a m)
def invE (a m : Nat) : Int := if modE m = 0 then (if (invF a m).old = 1 then 0 else 13) else modE m
def invV (a m : Nat) : Nat := if modE m = 0 then (if (invF a m).old = 1 then (invF a m).had % m else 0) else 0
theorem Inv_N {w : World} {u x : Value} {a m : Nat} (hu : NumAt w u a) (hx : NumAt w x m) (haB : blen a ≤ 400000) (hmB : blen m ≤ 400000) :
    Calls Tryd.prog 24 #[.agg #[u], .agg #[x]] w fun f w' => ∃ r, f = .returned (.tuple #[.agg #[r], .int .i64 (invE a m)]) ∧ NumAt w' r (invV a m) ∧ Below w.heap.size w w' := by
  unfold invE invV
  by_cases h : modE m = 0
  · obtain ⟨h0, h1⟩ := modE_zero.1 h
    rw [if_pos h, if_pos h]
    exact Inv_any hu hx haB h0 h1 (invF a m) rfl
  · rw [if_neg h, if_neg h]
    refine (Inv_err hu hx hmB h).mono ?_
    rintro f w' ⟨rfl, hb⟩
    exact ⟨_, rfl, NumAt.zero _, hb⟩
end Go.Proofs.YtffehdfddkgggaaDoor.Nu

/- Of. -/
namespace Go.Proofs.YtffehdfddkgggaaDoor.Nu
open Go.RowKit Rt
set_option linter.unusedSimpArgs false
set_option linter.unusedVariables false
theorem Cut_any (s : ByteArray) (w : World) : Calls Tryd.prog 38 #[.string s, .string ⟨#[0]⟩] w fun e w' => e = .returned (.string (cutS s)) ∧ w' = w := Tryd.strings_TrimLeft_one s 0 (by decide) w
/-- A number's digits under way. -/
structure OfI (w W : World) (g : Nat) (s : ByteArray) (la i : Nat) (O : List Nat) : Prop where
  bx : Boxed W w.heap.size 26 (.slice none 0 0)
  bel : Below w.heap.size w W
  row : RowM W g O
  len : O.length = la
  dig : Dig O
  is : ∀ q, q < la → gd O q = four (gI s i) q
theorem OfI.step {w W : World} {g : Nat} {s : ByteArray} {la i q t : Nat} {O : List Nat} (h : OfI w W g s la i O) (hg : w.heap.size + 1 ≤ g) (hi : i < s.size) (hk : s.size - 1 - i = 4 * q + t) (ht : t < 4) (hq : q < la) {y : Nat} (hy : (four (gI s i) q ||| bk s (s.size - 1 - i) * 2 ^ (8 * t)) = y) :
    OfI w (W.setCell ⟨g, q, none⟩ (.int .u32 (y : Int))) g s la (i + 1) (O.set q y) := by
  obtain ⟨h1, h2⟩ := four_byte s hi hk ht
  rw [hy] at h1
  refine ⟨(Below.heap_setCell _ _ _ _ (show w.heap.size ≠ g by omega)).trans h.bx, h.bel.setCell (p := ⟨g, q, none⟩) (by show w.heap.size ≤ g; omega) _, h.row.set _ _, by rw [List.length_set]; exact h.len, dig_set h.dig (by rw [← h1]; exact four_gI_lt _ _ _), fun p hp => ?_⟩
  rw [gd_set (by rw [h.len]; exact hq)]
  by_cases hpq : p = q
  · rw [if_pos hpq, hpq, h1]
  · rw [if_neg hpq, h2 p hpq]; exact h.is p hp
set_option maxHeartbeats 4000000 in
set_option maxRecDepth 100000 in
theorem Of_N (s0 : ByteArray) (w : World) :
    Calls Tryd.prog 12 #[.string s0] w fun e w' => ∃ r, e = .returned (.tuple #[.agg #[r], .int .i64 (errN (numS s0))]) ∧ NumAt w' r (capN (numS s0)) ∧ Below w.heap.size w w' := by
  have hcl := cutS_long s0
  have hnum := cutS_num s0
  have hCt := Lib.hid (Cut_any s0)
  have hX := Boxed.new w 26 (.slice none 0 0)
  have hB0 : Below w.heap.size w (w.alloc (.cells #[.slice none 0 0] 26)) := (Below.refl _ w).alloc (Nat.le_refl _) _
  have hW0s : (w.alloc (.cells #[.slice none 0 0] 26)).heap.size = w.heap.size + 1 := by simp
  obtain ⟨W0, hW0⟩ : ∃ W, w.alloc (.cells #[.slice none 0 0] 26) = W := ⟨_, rfl⟩
  rw [hW0] at hX hB0 hW0s
  have hW0H := Lib.hid hW0
  obtain ⟨s, hs⟩ : ∃ s, cutS s0 = s := ⟨_, rfl⟩
  rw [hs] at hcl hnum hCt
  unfold errN capN
  by_cases hlong : 4096 < blen (numS s0)
  · rw [if_pos hlong, if_pos hlong]
    have h5 := hcl.2 hlong
    have h5i : (512 : Int) < (s.size : Int) := by omega
    have y0 := hX.cell
    have f0 := hX.frozen
    have hXH := Lib.hid hX
    have hB0H := Lib.hid hB0
    clear hcl hnum hW0 hX hB0 hW0s hs hlong h5
    go_enter Tryd.func12, Tryd.ntmps12
    go_upto_region 1 with (fail)
    rw [hW0H.out]
    clear hW0H
    go_wp2_with (go_at_call 38; refine (hCt.out _).mono ?_; rintro e w2 ⟨rfl, rfl⟩)
    have r0 := (hXH.out.set (.slice none 0 0)).cell
    have hE := hB0H.out.setCell (p := ⟨w.heap.size, 0, none⟩) (Nat.le_refl _) (.slice none 0 0)
    obtain ⟨W3, hW3⟩ : ∃ W, World.setCell w2 ⟨w.heap.size, 0, none⟩ (.slice none 0 0) = W := ⟨_, rfl⟩
    rw [hW3] at r0 hE ⊢
    refine bodyPost_ret (v := .tuple #[.agg #[.slice none 0 0], .int .i64 3]) (by simp [results, Tryd.results12, go_sem, r0]) rfl ⟨_, rfl, NumAt.zero _, hE⟩
  · rw [if_neg hlong, if_neg hlong]
    have h5 : s.size ≤ 512 := by
      rcases Nat.lt_or_ge 512 s.size with h | h
      · exact absurd (hcl.1 h) hlong
      · exact h
    obtain ⟨n, hn⟩ : ∃ n, s.size = n := ⟨_, rfl⟩
    have hnH := Lib.hid hn
    have hnumH := Lib.hid hnum
    have h5i : ¬ (512 : Int) < (n : Int) := by omega
    obtain ⟨la, hla⟩ : ∃ t, (n + 3) / 4 = t := ⟨_, rfl⟩
    have hlw := Nu.wr (x := (n : Int) + 3) (by omega) (by omega)
    have hlq : Int.tdiv ((n : Int) + 3) 4 = (la : Int) := by rw [← hla]; exact (Int.ofNat_tdiv (n + 3) 4).symm
    have hlq2 : ((n : Int) + 3) / 4 = (la : Int) := by omega
    have hlaw := Nu.wr (x := (la : Int)) (by omega) (by omega)
    have hlaB : la ≤ 200 := by omega
    have hlaH := Lib.hid hla
    have hmk := run_mk W0 la la (Nat.le_refl _) (by omega)
    rw [hW0s] at hmk
    have hM1 := RowM.made W0 la
    rw [hW0s] at hM1
    have hB1 : Below w.heap.size w (W0.alloc (.cells (encD (List.replicate la 0)) 60)) := hB0.alloc hB0.size _
    have hX1 := hX.alloc (.cells (encD (List.replicate la 0)) 60)
    obtain ⟨W1, hW1⟩ : ∃ W, W0.alloc (.cells (encD (List.replicate la 0)) 60) = W := ⟨_, rfl⟩
    rw [hW1] at hM1 hB1 hX1 hmk
    obtain ⟨g, hg⟩ : ∃ g, w.heap.size + 1 = g := ⟨_, rfl⟩
    rw [hg] at hM1 hmk
    have hgH := Lib.hid hg
    have hI1 : Hid (OfI w W1 g s la 0 (List.replicate la 0)) := Lib.hid ⟨hX1, hB1, hM1, List.length_replicate, dig_zeros _, fun q hq => by rw [gd_zeros, show gI s 0 = fun _ => 0 from funext (gI_zero s)]; rfl⟩
    clear hcl hnum hW0 hX hB0 hW0s hs hlong hW1 hM1 hB1 hX1 hg hla
    go_enter Tryd.func12, Tryd.ntmps12
    go_upto_region 1 with (fail)
    rw [hW0H.out]
    clear hW0H
    go_wp2_with (go_at_call 38; refine (hCt.out _).mono ?_; rintro e w2 ⟨rfl, rfl⟩)
    clear hmk
    go_loopw [20] (fun vi wr => ∃ (i : Nat) (O : List Nat), vi = .int .i64 (i : Int) ∧ i ≤ n ∧ Hid (OfI w wr g s la i O)) (fun vi _ => n - (intOf vi).toNat)
    case atStart => exact ⟨0, _, rfl, Nat.zero_le _, hI1⟩
    case round =>
      obtain ⟨i, O, rfl, hi, hI⟩ := hrel
      clear hI1
      by_cases hlt : (i : Int) < (n : Int)
      · have hin : i < s.size := by rw [hn]; omega
        have hi0 : (0 : Int) ≤ (i : Int) := by omega
        obtain ⟨k, hk⟩ : ∃ k, s.size - 1 - i = k := ⟨_, rfl⟩
        have hki : (n : Int) - 1 - (i : Int) = (k : Int) := by omega
        have hw1 := Nu.wr (x := (n : Int) - 1) (by omega) (by omega)
        have hw2 := Nu.wr (x := (n : Int) - 1 - (i : Int)) (by omega) (by omega)
        have hw3 := Nu.wr (x := (k : Int)) (by omega) (by omega)
        obtain ⟨t, ht⟩ : ∃ t, k % 4 = t := ⟨_, rfl⟩
        obtain ⟨q, hq⟩ : ∃ q, k / 4 = q := ⟨_, rfl⟩
        have htm : Int.tmod (k : Int) 4 = (t : Int) := by rw [← ht]; exact (Int.ofNat_tmod k 4).symm
        have htq : Int.tdiv (k : Int) 4 = (q : Int) := by rw [← hq]; exact (Int.ofNat_tdiv k 4).symm
        have htm2 : (k : Int) % 4 = (t : Int) := by omega
        have htq2 : (k : Int) / 4 = (q : Int) := by omega
        have htl : t < 4 := by omega
        have hqw := Nu.wr (x := (q : Int)) (by omega) (by omega)
        have htw := Nu.wr (x := (t : Int)) (by omega) (by omega)
        obtain ⟨sf, hsf⟩ : ∃ z, 8 * t = z := ⟨_, rfl⟩
        have hsfi : (8 : Int) * (t : Int) = (sf : Int) := by omega
        have hsfw := Nu.wr (x := (sf : Int)) (by omega) (by omega)
        have hql : q < la := by have := hlaH.out; omega
        have hqli : (q : Int) < (la : Int) := by omega
        have hbk : bk s k = (s[i]).toNat := by
          rw [← hk, bk_in (by omega)]
          congr 2
          omega
        obtain ⟨b, hb⟩ : ∃ b, (s[i]).toNat = b := ⟨_, rfl⟩
        have hbB : b < 256 := by rw [← hb]; exact UInt8.toNat_lt _
        rw [hb] at hbk
        have hbw := Nu.wr32 (x := (b : Int)) (by omega) (by omega)
        have hpB : b * 2 ^ sf < Bs := by
          have h1 : 2 ^ sf ≤ 2 ^ 24 := Nat.pow_le_pow_right (by decide) (by omega)
          have h2 : b * 2 ^ sf ≤ 255 * 2 ^ 24 := Nat.mul_le_mul (by omega) h1
          simp only [Bs]; omega
        obtain ⟨p, hp⟩ : ∃ z, b * 2 ^ sf = z := ⟨_, rfl⟩
        rw [hp] at hpB
        have hpi : (b : Int) * 2 ^ sf = (p : Int) := by rw [← hp, Int.natCast_mul, Int.natCast_pow]; rfl
        have hpw := Nu.wr32 (x := (p : Int)) (by omega) (by simp only [Bs] at hpB; omega)
        have cO := hI.out.row.cell q (by rw [hI.out.len]; exact hql)
        rw [hI.out.is q hql] at cO
        have hdB := four_gI_lt s i q
        obtain ⟨d, hd⟩ : ∃ z, four (gI s i) q = z := ⟨_, rfl⟩
        rw [hd] at cO hdB
        have hor := bits_or32 hdB hpB
        obtain ⟨y, hy⟩ : ∃ z, d ||| p = z := ⟨_, rfl⟩
        rw [hy] at hor
        have hyH : Hid ((four (gI s i) q ||| bk s (s.size - 1 - i) * 2 ^ (8 * t)) = y) := Lib.hid (by rw [hd, hk, hbk, hsf, hp, hy])
        have hkH : Hid (s.size - 1 - i = 4 * q + t) := Lib.hid (by omega)
        have hiw := Nu.wr (x := (i : Int) + 1) (by omega) (by omega)
        clear hk ht hq hsf hbk hp hd hy hdB hpB
        go_upto_region 9 with (fail)
        obtain ⟨wz, hwz⟩ : ∃ d, wr.drew = d := ⟨_, rfl⟩
        have hI2 : Hid (OfI w wz g s la i O) := Lib.hid (by rw [← hwz]; exact ⟨hI.out.bx, hI.out.bel.drew, hI.out.row.drew, hI.out.len, hI.out.dig, hI.out.is⟩)
        have cO' : wz.cell? ⟨g, q, none⟩ = some (.int .u32 (d : Int)) := by rw [← hwz]; exact cO
        have fO' := hI2.out.row.frozen q
        clear cO hI
        refine Rt.wp_region_text [0, 0, 0, 0, 1, 0, 0, 0, 0, 0, 0, 0, 0, 0, 0, 2] (by kernel_rfl) (by kernel_rfl) ?_
        rw [hwz]
        clear hwz
        apply txt_move rfl rfl; (· (simp only [Act.put, Act.eval, List.setIfInBounds_toArray, List.set_cons_zero, List.set_cons_succ, Array.getD_eq_getD_getElem?, List.getElem?_toArray, List.getElem?_cons_zero, List.getElem?_cons_succ, Option.getD_some, List.getElem_toArray, List.getElem_cons_succ, List.getElem_cons_zero]; with_reducible rfl))
        apply txt_move rfl rfl; (· (simp only [Act.put, Act.eval, List.setIfInBounds_toArray, List.set_cons_zero, List.set_cons_succ, Array.getD_eq_getD_getElem?, List.getElem?_toArray, List.getElem?_cons_zero, List.getElem?_cons_succ, Option.getD_some, List.getElem_toArray, List.getElem_cons_succ, List.getElem_cons_zero]; with_reducible rfl))
        apply txt_pure rfl rfl rfl; (· (intro w; go_simp; with_reducible rfl)); (· (simp only [Act.put, Act.eval, List.setIfInBounds_toArray, List.set_cons_zero, List.set_cons_succ, Array.getD_eq_getD_getElem?, List.getElem?_toArray, List.getElem?_cons_zero, List.getElem?_cons_succ, Option.getD_some, List.getElem_toArray, List.getElem_cons_succ, List.getElem_cons_zero]; with_reducible rfl))
        apply txt_pure rfl rfl rfl; (· (intro w; go_simp; with_reducible rfl)); (· (simp only [Act.put, Act.eval, List.setIfInBounds_toArray, List.set_cons_zero, List.set_cons_succ, Array.getD_eq_getD_getElem?, List.getElem?_toArray, List.getElem?_cons_zero, List.getElem?_cons_succ, Option.getD_some, List.getElem_toArray, List.getElem_cons_succ, List.getElem_cons_zero]; with_reducible rfl))
        apply txt_read rfl rfl rfl; (· (go_simp; with_reducible rfl)); (· (simp only [Act.put, Act.eval, List.setIfInBounds_toArray, List.set_cons_zero, List.set_cons_succ, Array.getD_eq_getD_getElem?, List.getElem?_toArray, List.getElem?_cons_zero, List.getElem?_cons_succ, Option.getD_some, List.getElem_toArray, List.getElem_cons_succ, List.getElem_cons_zero]; with_reducible rfl))
        apply txt_move rfl rfl; (· (simp only [Act.put, Act.eval, List.setIfInBounds_toArray, List.set_cons_zero, List.set_cons_succ, Array.getD_eq_getD_getElem?, List.getElem?_toArray, List.getElem?_cons_zero, List.getElem?_cons_succ, Option.getD_some, List.getElem_toArray, List.getElem_cons_succ, List.getElem_cons_zero]; with_reducible rfl))
        apply txt_move rfl rfl; (· (simp only [Act.put, Act.eval, List.setIfInBounds_toArray, List.set_cons_zero, List.set_cons_succ, Array.getD_eq_getD_getElem?, List.getElem?_toArray, List.getElem?_cons_zero, List.getElem?_cons_succ, Option.getD_some, List.getElem_toArray, List.getElem_cons_succ, List.getElem_cons_zero]; with_reducible rfl))
        apply txt_pure rfl rfl rfl; (· (intro w; go_simp; with_reducible rfl)); (· (simp only [Act.put, Act.eval, List.setIfInBounds_toArray, List.set_cons_zero, List.set_cons_succ, Array.getD_eq_getD_getElem?, List.getElem?_toArray, List.getElem?_cons_zero, List.getElem?_cons_succ, Option.getD_some, List.getElem_toArray, List.getElem_cons_succ, List.getElem_cons_zero]; with_reducible rfl))
        apply txt_pure rfl rfl rfl; (· (intro w; go_simp; with_reducible rfl)); (· (simp only [Act.put, Act.eval, List.setIfInBounds_toArray, List.set_cons_zero, List.set_cons_succ, Array.getD_eq_getD_getElem?, List.getElem?_toArray, List.getElem?_cons_zero, List.getElem?_cons_succ, Option.getD_some, List.getElem_toArray, List.getElem_cons_succ, List.getElem_cons_zero]; with_reducible rfl))
        apply txt_move rfl rfl; (· (simp only [Act.put, Act.eval, List.setIfInBounds_toArray, List.set_cons_zero, List.set_cons_succ, Array.getD_eq_getD_getElem?, List.getElem?_toArray, List.getElem?_cons_zero, List.getElem?_cons_succ, Option.getD_some, List.getElem_toArray, List.getElem_cons_succ, List.getElem_cons_zero]; with_reducible rfl))
        apply txt_pure rfl rfl rfl; (· (intro w; go_simp; with_reducible rfl)); (· (simp only [Act.put, Act.eval, List.setIfInBounds_toArray, List.set_cons_zero, List.set_cons_succ, Array.getD_eq_getD_getElem?, List.getElem?_toArray, List.getElem?_cons_zero, List.getElem?_cons_succ, Option.getD_some, List.getElem_toArray, List.getElem_cons_succ, List.getElem_cons_zero]; with_reducible rfl))
        apply txt_pure rfl rfl rfl; (· (intro w; go_simp; with_reducible rfl)); (· (simp only [Act.put, Act.eval, List.setIfInBounds_toArray, List.set_cons_zero, List.set_cons_succ, Array.getD_eq_getD_getElem?, List.getElem?_toArray, List.getElem?_cons_zero, List.getElem?_cons_succ, Option.getD_some, List.getElem_toArray, List.getElem_cons_succ, List.getElem_cons_zero]; with_reducible rfl))
        apply txt_pure rfl rfl rfl; (· (intro w; go_simp; with_reducible rfl)); (· (simp only [Act.put, Act.eval, List.setIfInBounds_toArray, List.set_cons_zero, List.set_cons_succ, Array.getD_eq_getD_getElem?, List.getElem?_toArray, List.getElem?_cons_zero, List.getElem?_cons_succ, Option.getD_some, List.getElem_toArray, List.getElem_cons_succ, List.getElem_cons_zero]; with_reducible rfl))
        apply txt_pure rfl rfl rfl; (· (intro w; go_simp; with_reducible rfl)); (· (simp only [Act.put, Act.eval, List.setIfInBounds_toArray, List.set_cons_zero, List.set_cons_succ, Array.getD_eq_getD_getElem?, List.getElem?_toArray, List.getElem?_cons_zero, List.getElem?_cons_succ, Option.getD_some, List.getElem_toArray, List.getElem_cons_succ, List.getElem_cons_zero]; with_reducible rfl))
        apply txt_pure rfl rfl rfl; (· (intro w; go_simp; with_reducible rfl)); (· (simp only [Act.put, Act.eval, List.setIfInBounds_toArray, List.set_cons_zero, List.set_cons_succ, Array.getD_eq_getD_getElem?, List.getElem?_toArray, List.getElem?_cons_zero, List.getElem?_cons_succ, Option.getD_some, List.getElem_toArray, List.getElem_cons_succ, List.getElem_cons_zero]; with_reducible rfl))
        apply txt_do rfl rfl rfl; (· (go_simp; with_reducible rfl)); (· (simp only [Act.put, Act.eval, List.setIfInBounds_toArray, List.set_cons_zero, List.set_cons_succ, Array.getD_eq_getD_getElem?, List.getElem?_toArray, List.getElem?_cons_zero, List.getElem?_cons_succ, Option.getD_some, List.getElem_toArray, List.getElem_cons_succ, List.getElem_cons_zero]; with_reducible rfl))
        with_reducible refine txt_nil ?_
        have hI3 := Lib.hid (hI2.out.step (Nat.le_of_eq hgH.out) hin hkH.out htl hql hyH.out)
        clear hI2 cO' fO'
        go_wp2_with fail
        go_roundw
        case rel => exact ⟨i + 1, _, by first | rfl | go_num, by omega, hI3⟩
        case measure => first | (simp [intOf]; done) | (simp [intOf]; omega)
      · have hin : i = n := by omega
        subst hin
        have hval : val O = numS s0 := by
          have h1 : val O = dsum (gd O) la := by unfold val; rw [hI.out.len]
          rw [h1, dsum_congr hI.out.is, ← hnumH.out, ← hnH.out, show gI s s.size = bk s from funext (gI_all s)]
          exact numS_digits (by have := hlaH.out; have := hnH.out; omega)
        have hT := Trim_row hI.out.row hI.out.dig (by rw [hI.out.len]; omega) (Nat.le_of_eq hI.out.len) (by unfold maxLen; omega)
        rw [hI.out.len, hval] at hT
        have hTH := Lib.hid hT
        clear hT hval
        go_wp2_with fail
        refine hTH.out.mono ?_
        rintro e w3 ⟨q, rfl, hn3, hb3⟩
        have hx3 : Boxed w3 w.heap.size 26 (.slice none 0 0) := (hb3.block _ hI.out.bx.lt).trans hI.out.bx
        have hE3 := hI.out.bel.trans (hb3.mono hI.out.bel.size)
        have x2c := hx3.cell
        have x2f := hx3.frozen
        have hn3H := Lib.hid hn3
        have hxH := Lib.hid hx3
        have hEH := Lib.hid hE3
        clear hn3 hx3 hE3 hb3 hI hTH
        go_wp2_with fail
        have r0 := (hxH.out.set (.slice (some ⟨g, 0, none⟩) q la)).cell
        have hE := hEH.out.setCell (p := ⟨w.heap.size, 0, none⟩) (Nat.le_refl _) (.slice (some ⟨g, 0, none⟩) q la)
        have hN3 := hn3H.out.fresh hxH.out (fun d h => by cases h) (.slice (some ⟨g, 0, none⟩) q la)
        obtain ⟨W3, hW3⟩ : ∃ W, w3.setCell ⟨w.heap.size, 0, none⟩ (.slice (some ⟨g, 0, none⟩) q la) = W := ⟨_, rfl⟩
        rw [hW3] at r0 hE hN3 ⊢
        refine bodyPost_ret (v := .tuple #[.agg #[.slice (some ⟨g, 0, none⟩) q la], .int .i64 0]) (by simp [results, Tryd.results12, go_sem, r0]) rfl ⟨_, rfl, hN3, hE⟩
end Go.Proofs.YtffehdfddkgggaaDoor.Nu

/- Wide. -/
namespace Go.Proofs.YtffehdfddkgggaaDoor.Nu
open Go.RowKit Rt
set_option linter.unusedSimpArgs false
set_option linter.unusedVariables false
/-- Block g holds the bytes L. -/
def bv8 (d : Nat) : Value := .int .u8 (d : Int)
def encB (L : List Nat) : Array Value := (L.map bv8).toArray
def RowB (W : World) (g : Nat) (L : List Nat) : Prop := W.heap[g]? = some (.cells (encB L) 5 (0, 0))
section
variable {W W' : World} {g : Nat} {L : List Nat}
theorem RowB.lt (h : RowB W g L) : g < W.heap.size := (Array.getElem?_eq_some_iff.1 h).1
theorem RowB.cell (h : RowB W g L) (j : Nat) (hj : j < L.length) : W.cell? ⟨g, j, none⟩ = some (.int .u8 (gd L j : Int)) := by
  rw [gd_get hj]
  simp [World.cell?, show W.heap[g]? = _ from h, encB, hj, bv8]
theorem RowB.frozen (h : RowB W g L) (j : Nat) : W.frozen? ⟨g, j, none⟩ = false := by
  simp [World.frozen?, show W.heap[g]? = _ from h]
theorem RowB.set (h : RowB W g L) (j : Nat) (d : Nat) : RowB (W.setCell ⟨g, j, none⟩ (.int .u8 (d : Int))) g (L.set j d) := by
  obtain ⟨hlt, hk⟩ := Array.getElem?_eq_some_iff.1 h
  show (W.heap.modify g _)[g]? = _
  rw [Array.getElem?_eq_getElem (by rw [Array.size_modify]; exact hlt), Array.getElem_modify_self, hk]
  simp [encB, List.map_set, bv8]
theorem RowB.below (h : RowB W g L) (hb : Below W.heap.size W W') : RowB W' g L := (hb.block g h.lt).trans h
end
theorem info5 : (Tryd.prog.info? 5).map (fun i => (i.zero, i.size, i.bytes)) = some (some (.int .u8 0), 1, 1) := by kernel_rfl
theorem info5' : ∃ i, Tryd.prog.info? 5 = some i ∧ i.zero = some (.int .u8 0) ∧ i.size = 1 ∧ i.bytes = 1 := by
  have h := info5
  cases hi : Tryd.prog.info? 5 with
  | none => rw [hi] at h; simp at h
  | some i => rw [hi] at h; simp at h; exact ⟨i, rfl, h.1, h.2.1, h.2.2⟩
theorem run_mkB (w : World) (n : Nat) (hc : n ≤ 70368744177664) : (Instr.makeSlice 65 (.int .i64 (n : Int)) (.int .i64 (n : Int))).run Tryd.prog w = .ok (.slice (some ⟨w.heap.size, 0, none⟩) n n) (w.alloc (.cells (encB (List.replicate n 0)) 5)) := by
  obtain ⟨i, hi, h0, h1, h2⟩ := info5'
  have h := run_make (P := Tryd.prog) w 65 5 i (.int .u8 0) Tryd.underlying65 hi h0 .i64 .i64 n n (by omega) (by omega) (by rw [h2]; omega) (by omega)
  rw [Int.toNat_natCast, h1, Nat.mul_one] at h
  rw [h]
  congr 3
  apply Array.ext
  · simp [madeCells, encB]
  · intro i h1 h2
    simp [madeCells, encB, Value.cells, bv8, Nat.mod_one]
theorem RowB.made (w : World) (c : Nat) : RowB (w.alloc (.cells (encB (List.replicate c 0)) 5)) w.heap.size (List.replicate c 0) := World.alloc_heap_new _ _
theorem RowB.conv {W : World} {g c : Nat} {L : List Nat} (h : RowB W g L) : (convert 65 9 (.slice (some ⟨g, 0, none⟩) L.length c)).run Tryd.prog W = .ok (.string (strOfNums (L.map fun d : Nat => (d : Int)))) W :=
  run_convert_bytes_arg (P := Tryd.prog) W 65 5 Tryd.underlying65 Tryd.underlying5 g 0 L.length c (L.map fun d : Nat => (d : Int)) (by simp)
    (fun i hi => by rw [Nat.zero_add, h.cell i hi]; simp [gd_get hi, List.getD_eq_getElem?_getD, hi]) 9 Tryd.underlying9
/-- The bytes under way. -/
def Wl (p many c : Nat) (L : List Nat) : Prop := L.length = many ∧ ∀ j, j < many → gd L (many - 1 - j) = if j < c then byteN p j else 0
theorem Wl.start (p many : Nat) : Wl p many 0 (List.replicate many 0) := ⟨List.length_replicate, fun j _ => by rw [gd_zeros, if_neg (Nat.not_lt_zero _)]⟩
theorem Wl.step {p many c : Nat} {L : List Nat} (h : Wl p many c L) (hc : c < many) {y : Nat} (hy : y = byteN p c) : Wl p many (c + 1) (L.set (many - 1 - c) y) := by
  refine ⟨by rw [List.length_set]; exact h.1, fun j hj => ?_⟩
  rw [gd_set (by rw [h.1]; omega)]
  by_cases hjc : j = c
  · subst hjc; rw [if_pos rfl, if_pos (by omega), hy]
  · rw [if_neg (by omega), h.2 j hj]
    by_cases h2 : j < c
    · rw [if_pos h2, if_pos (by omega)]
    · rw [if_neg h2, if_neg (by omega)]
theorem Wl.done {p many c : Nat} {L : List Nat} (h : Wl p many c L) (hz : ∀ j, c ≤ j → j < many → byteN p j = 0) : strOfNums (L.map fun d : Nat => (d : Int)) = wideW p many := by
  unfold strOfNums wideW
  congr 2
  apply List.ext_getElem
  · simp [h.1]
  · intro i h1 h2
    simp only [List.length_map, List.length_range] at h1 h2
    simp only [List.getElem_map, List.getElem_range, Int.toNat_natCast]
    have h3 := h.2 (many - 1 - i) (by omega)
    rw [show many - 1 - (many - 1 - i) = i by omega, gd_get (by omega)] at h3
    rw [h3]
    by_cases hc : many - 1 - i < c
    · rw [if_pos hc]
    · rw [if_neg hc, hz _ (by omega) (by omega)]
/-- .. in memory. -/
structure WiI (w W : World) (u : Value) (g p many c : Nat) (L : List Nat) : Prop where
  bx : Boxed W w.heap.size 26 u
  bel : Below w.heap.size w W
  row : RowB W g L
  is : Wl p many c L
theorem WiI.step {w W : World} {u : Value} {g p many c : Nat} {L : List Nat} (h : WiI w W u g p many c L) (hg : w.heap.size + 1 ≤ g) (hc : c < many) {y : Nat} (hy : y = byteN p c) :
    WiI w (W.setCell ⟨g, many - 1 - c, none⟩ (.int .u8 (y : Int))) u g p many (c + 1) (L.set (many - 1 - c) y) :=
  ⟨(Below.heap_setCell _ _ _ _ (show w.heap.size ≠ g by omega)).trans h.bx, h.bel.setCell (p := ⟨g, many - 1 - c, none⟩) (by show w.heap.size ≤ g; omega) _, h.row.set _ _, h.is.step hc hy⟩
def wideE (p : Nat) (many : Int) : Int := if many < 0 then 1 else if 8 * many < blen p then 3 else 0
def wideS (p : Nat) (many : Int) : ByteArray := if wideE p many = 0 then wideW p many.toNat else ByteArray.empty
set_option maxHeartbeats 4000000 in
set_option maxRecDepth 100000 in
theorem Wide_err {w : World} {u : Value} {p : Nat} (hu : NumAt w u p) (hp : blen p ≤ 400000) (many : Int) (hm1 : -9223372036854775808 ≤ many) (hm2 : many ≤ 70368744177664) (he : wideE p many ≠ 0) :
    Calls Tryd.prog 17 #[.agg #[u], .int .i64 many] w fun e w' => e = .returned (.tuple #[.string ByteArray.empty, .int .i64 (wideE p many)]) ∧ Below w.heap.size w w' := by
  obtain ⟨a, la, ca, rfl⟩ := hu.shape
  have hB0 : Below w.heap.size w (w.alloc (.cells #[.slice a la ca] 26)) := (Below.refl _ w).alloc (Nat.le_refl _) _
  have y0 := (Boxed.new w 26 (.slice a la ca)).cell
  have hBt := Lib.hid ((hu.below hB0).bits (Nat.le_trans hp (by decide)))
  obtain ⟨b, hb⟩ : ∃ z, blen p = z := ⟨_, rfl⟩
  unfold wideE at he ⊢
  rw [hb] at hp hBt he ⊢
  obtain ⟨W0, hW0⟩ : ∃ W, w.alloc (.cells #[.slice a la ca] 26) = W := ⟨_, rfl⟩
  rw [hW0] at hB0 y0 hBt
  have hW0H := Lib.hid hW0
  have hB0H := Lib.hid hB0
  obtain ⟨n, hn⟩ : ∃ z, (b + 7) / 8 = z := ⟨_, rfl⟩
  have hw1 := Nu.wr (x := (b : Int) + 7) (by omega) (by omega)
  have hq1 : Int.tdiv ((b : Int) + 7) 8 = (n : Int) := by rw [← hn]; exact (Int.ofNat_tdiv (b + 7) 8).symm
  have hq2 : ((b : Int) + 7) / 8 = (n : Int) := by omega
  have hnw := Nu.wr (x := (n : Int)) (by omega) (by omega)
  have hsz : W0.heap.size = w.heap.size + 1 := by rw [← hW0]; simp
  have hszH := Lib.hid hsz
  by_cases h0 : many < 0
  · rw [if_pos h0]
    clear hu hW0 hB0 hb he hsz hn
    go_enter Tryd.func17, Tryd.ntmps17
    go_upto_region 1 with (fail)
    rw [hW0H.out]
    clear hW0H
    go_wp2_with (go_at_call 20; refine hBt.out.mono ?_; rintro e w2 ⟨rfl, hb2⟩)
    refine bodyPost_ret (v := .tuple #[.string ⟨#[]⟩, .int .i64 1]) (by simp [results, Tryd.results17, go_sem]) rfl ⟨rfl, hB0H.out.trans (hb2.mono (by rw [hszH.out]; omega))⟩
  · rw [if_neg h0] at he ⊢
    have h8 : 8 * many < b := by
      by_cases h : 8 * many < b
      · exact h
      · rw [if_neg h] at he; exact absurd rfl he
    rw [if_pos h8]
    have hnm : many < (n : Int) := by omega
    clear hu hW0 hB0 hb he hsz hn h8
    go_enter Tryd.func17, Tryd.ntmps17
    go_upto_region 1 with (fail)
    rw [hW0H.out]
    clear hW0H
    go_wp2_with (go_at_call 20; refine hBt.out.mono ?_; rintro e w2 ⟨rfl, hb2⟩)
    refine bodyPost_ret (v := .tuple #[.string ⟨#[]⟩, .int .i64 3]) (by simp [results, Tryd.results17, go_sem]) rfl ⟨rfl, hB0H.out.trans (hb2.mono (by rw [hszH.out]; omega))⟩
set_option maxHeartbeats 4000000 in
set_option maxRecDepth 100000 in
theorem Wide_any {w : World} {u : Value} {p : Nat} (hu : NumAt w u p) (hp : blen p ≤ 400000) (many : Nat) (hm : many ≤ 1000000) (h8 : blen p ≤ 8 * many) :
    Calls Tryd.prog 17 #[.agg #[u], .int .i64 (many : Int)] w fun e w' => e = .returned (.tuple #[.string (wideW p many), .int .i64 0]) ∧ Below w.heap.size w w' := by
  obtain ⟨A, hA, hAv, hsA⟩ := id hu
  obtain ⟨a, ca, rfl, -, -⟩ := id hsA
  have hla2 := norm_len hA (by rw [hAv]; exact hp)
  obtain ⟨la, hla⟩ : ∃ n, A.length = n := ⟨_, rfl⟩
  rw [hla] at hu hsA hla2 ⊢
  have hB0 : Below w.heap.size w (w.alloc (.cells #[.slice a la ca] 26)) := (Below.refl _ w).alloc (Nat.le_refl _) _
  have hX0 := Boxed.new w 26 (.slice a la ca)
  have hBt := Lib.hid ((hu.below hB0).bits (Nat.le_trans hp (by decide)))
  obtain ⟨b, hb⟩ : ∃ z, blen p = z := ⟨_, rfl⟩
  rw [hb] at hp hBt h8
  obtain ⟨W0, hW0⟩ : ∃ W, w.alloc (.cells #[.slice a la ca] 26) = W := ⟨_, rfl⟩
  rw [hW0] at hB0 hX0 hBt
  have y0 := hX0.cell
  have hW0H := Lib.hid hW0
  have hB0H := Lib.hid hB0
  have hX0H := Lib.hid hX0
  obtain ⟨n, hn⟩ : ∃ z, (b + 7) / 8 = z := ⟨_, rfl⟩
  have hw1 := Nu.wr (x := (b : Int) + 7) (by omega) (by omega)
  have hq1 : Int.tdiv ((b : Int) + 7) 8 = (n : Int) := by rw [← hn]; exact (Int.ofNat_tdiv (b + 7) 8).symm
  have hq2 : ((b : Int) + 7) / 8 = (n : Int) := by omega
  have hnw := Nu.wr (x := (n : Int)) (by omega) (by omega)
  have hsz : W0.heap.size = w.heap.size + 1 := by rw [← hW0]; simp
  have hszH := Lib.hid hsz
  have h0 : ¬ (many : Int) < 0 := by omega
  have hnm : ¬ (many : Int) < (n : Int) := by omega
  have hsAH := Lib.hid hsA
  have hAH := Lib.hid hA
  have hAvH := Lib.hid hAv
  have hlaH := Lib.hid hla
  clear hu hW0 hB0 hb hsz hn hX0 hsA hA hAv hla h8
  go_enter Tryd.func17, Tryd.ntmps17
  go_upto_region 1 with (fail)
  rw [hW0H.out]
  clear hW0H
  go_upto_region 6 with (go_at_call 20; refine hBt.out.mono ?_; rintro e w2 ⟨rfl, hb2⟩)
  have hB2 := hB0H.out.trans (hb2.mono (by rw [hszH.out]; omega))
  have hX2 : Boxed w2 w.heap.size 26 (.slice a la ca) := (hb2.block _ hX0H.out.lt).trans hX0H.out
  have hmk := run_mkB w2 many (by omega)
  obtain ⟨g, hg⟩ : ∃ g, w2.heap.size = g := ⟨_, rfl⟩
  have hgw : w.heap.size + 1 ≤ g := by rw [← hg, ← hszH.out]; exact hb2.size
  have hM := RowB.made w2 many
  rw [hg] at hmk hM
  have hI1 : Hid (WiI w (w2.alloc (.cells (encB (List.replicate many 0)) 5)) (.slice a la ca) g p many 0 (List.replicate many 0)) := Lib.hid ⟨hX2.alloc _, hB2.alloc hB2.size _, hM, Wl.start p many⟩
  obtain ⟨W1, hW1⟩ : ∃ W, w2.alloc (.cells (encB (List.replicate many 0)) 5) = W := ⟨_, rfl⟩
  rw [hW1] at hmk hI1
  have z0 := hI1.out.bx.cell
  have hgH := Lib.hid hgw
  clear hB2 hX2 hg hM hW1 hgw hb2 y0 hBt
  go_wp2_with fail
  clear hmk z0
  go_loopw [27] (fun vi wr => ∃ (i : Nat) (L : List Nat), vi = .int .i64 (i : Int) ∧ i ≤ la ∧ Hid (WiI w wr (.slice a la ca) g p many (min (4 * i) many) L)) (fun vi _ => la - (intOf vi).toNat)
  case atStart => exact ⟨0, _, rfl, Nat.zero_le _, by rw [Nat.mul_zero, Nat.zero_min]; exact hI1⟩
  case round =>
    obtain ⟨i, L, rfl, hi, hI⟩ := hrel
    clear hI1
    by_cases hlt : (i : Int) < la
    · have hil : i < la := by omega
      obtain ⟨ba, oa, rfl, cA⟩ := hsAH.out.at hI.out.bel (j := i) (by rw [hlaH.out]; exact hil)
      have hdB := hAH.out.dig i
      have hbyte := fun t (ht : t < 4) => byte_digit (f := gd A) hAH.out.dig (q := i) (t := t) (m := la) hil ht
      rw [show dsum (gd A) la = p from by rw [← hAvH.out, ← hlaH.out]; rfl] at hbyte
      obtain ⟨d, hd⟩ : ∃ z, gd A i = z := ⟨_, rfl⟩
      rw [hd] at cA hdB hbyte
      have hbyH := Lib.hid hbyte
      have h4w := Nu.wr (x := 4 * (i : Int)) (by omega) (by omega)
      have h44w := Nu.wr (x := 4 * (i : Int) + 4) (by omega) (by omega)
      have hiw := Nu.wr (x := (i : Int) + 1) (by omega) (by omega)
      have hL0 : Hid (∃ k : Nat, (4 * (i : Int)) = (k : Int) ∧ 4 * i ≤ k ∧ k ≤ 4 * i + 4 ∧ Hid (WiI w wr (.slice (some ⟨ba, oa, none⟩) la ca) g p many (min k many) L)) := Lib.hid ⟨4 * i, by omega, Nat.le_refl _, by omega, hI⟩
      clear hI hbyte hd
      go_wp2_with fail
      clear cA
      go_loopw [10] (fun vk wr => ∃ (k : Nat) (L : List Nat), vk = .int .i64 (k : Int) ∧ 4 * i ≤ k ∧ k ≤ 4 * i + 4 ∧ Hid (WiI w wr (.slice (some ⟨ba, oa, none⟩) la ca) g p many (min k many) L)) (fun vk _ => 4 * i + 4 - (intOf vk).toNat)
      case atStart =>
        obtain ⟨k, h1, h2, h3, h4⟩ := hL0.out
        exact ⟨k, L, by rw [h1], h2, h3, h4⟩
      case round =>
        obtain ⟨k, L, rfl, hk1, hk2, hI⟩ := hrel
        clear hL0
        by_cases hkd : (k : Int) < 4 * (i : Int) + 4
        · by_cases hkm : (k : Int) < (many : Int)
          · have d1 : decide ((k : Int) < 4 * (i : Int) + 4) = true := decide_eq_true hkd
            have hkm2 : k < many := by omega
            rw [Nat.min_eq_left (Nat.le_of_lt hkm2)] at hI
            obtain ⟨t, ht⟩ : ∃ t, k % 4 = t := ⟨_, rfl⟩
            have htm : Int.tmod (k : Int) 4 = (t : Int) := by rw [← ht]; exact (Int.ofNat_tmod k 4).symm
            have htm2 : (k : Int) % 4 = (t : Int) := by omega
            have htl : t < 4 := by omega
            have hkt : k = 4 * i + t := by omega
            have htw := Nu.wr (x := (t : Int)) (by omega) (by omega)
            obtain ⟨sf, hsf⟩ : ∃ z, 8 * t = z := ⟨_, rfl⟩
            have hsfi : (8 : Int) * (t : Int) = (sf : Int) := by omega
            have hsfw := Nu.wr (x := (sf : Int)) (by omega) (by omega)
            have hw2 := Nu.wr (x := (many : Int) - 1) (by omega) (by omega)
            obtain ⟨ix, hix⟩ : ∃ z, many - 1 - k = z := ⟨_, rfl⟩
            have hixi : (many : Int) - 1 - (k : Int) = (ix : Int) := by omega
            have hw3 := Nu.wr (x := (ix : Int)) (by omega) (by omega)
            have hixl : (ix : Int) < (many : Int) := by omega
            have hby := hbyH.out t htl
            rw [← hkt, show (256 : Nat) ^ t = 2 ^ sf from by rw [← hsf, Nat.pow_mul]] at hby
            have hshr : (d : Int) / 2 ^ sf = ((d / 2 ^ sf : Nat) : Int) := by rw [Int.natCast_ediv, Int.natCast_pow]; rfl
            obtain ⟨y, hy⟩ : ∃ z, d / 2 ^ sf = z := ⟨_, rfl⟩
            rw [hy] at hby hshr
            have hc8 : (y : Int) % 256 = ((y % 256 : Nat) : Int) := by omega
            have hc8w : IntKind.u8.wrap (y : Int) = ((y % 256 : Nat) : Int) := by simp [IntKind.wrap, IntKind.bits, IntKind.signed]
            rw [hby] at hc8 hc8w
            obtain ⟨e, he⟩ : ∃ z, byteN p k = z := ⟨_, rfl⟩
            rw [he] at hc8 hc8w
            have cO := hI.out.row.cell ix (by rw [hI.out.is.1]; omega)
            have fO := hI.out.row.frozen ix
            have hI3 : Hid (WiI w (wr.setCell ⟨g, ix, none⟩ (.int .u8 (e : Int))) (.slice (some ⟨ba, oa, none⟩) la ca) g p many (min (k + 1) many) (L.set ix e)) := Lib.hid (by
              rw [Nat.min_eq_left (show k + 1 ≤ many from hkm2), ← hix]
              exact hI.out.step hgH.out hkm2 he.symm)
            have hkw := Nu.wr (x := (k : Int) + 1) (by omega) (by omega)
            clear ht hsf hix hby hy he hI hkt
            go_wp2_with fail
            go_roundw
            case rel => exact ⟨k + 1, _, by first | rfl | go_num, by omega, by omega, hI3⟩
            case measure => first | (simp [intOf]; done) | (simp [intOf]; omega)
          · have d1 : decide ((k : Int) < 4 * (i : Int) + 4) = true := decide_eq_true hkd
            have hI3 : Hid (WiI w wr (.slice (some ⟨ba, oa, none⟩) la ca) g p many (min (4 * (i + 1)) many) L) := Lib.hid (by
              have h := hI.out
              rw [Nat.min_eq_right (show many ≤ k by omega)] at h
              rw [Nat.min_eq_right (show many ≤ 4 * (i + 1) by omega)]
              exact h)
            clear hI
            go_wp2_with fail
            go_roundw
            case rel => exact ⟨i + 1, _, by first | rfl | go_num, by omega, hI3⟩
            case measure => first | (simp [intOf]; done) | (simp [intOf]; omega)
        · have d1 : decide ((k : Int) < 4 * (i : Int) + 4) = false := decide_eq_false hkd
          have hI3 : Hid (WiI w wr (.slice (some ⟨ba, oa, none⟩) la ca) g p many (min (4 * (i + 1)) many) L) := Lib.hid (by
            have h := hI.out
            rw [show k = 4 * (i + 1) by omega] at h
            exact h)
          clear hI
          go_wp2_with fail
          go_roundw
          case rel => exact ⟨i + 1, _, by first | rfl | go_num, by omega, hI3⟩
          case measure => first | (simp [intOf]; done) | (simp [intOf]; omega)
    · have hil : la = i := by omega
      subst hil
      have hcv := hI.out.row.conv (c := many)
      rw [hI.out.is.1, hI.out.is.done (fun j h1 h2 => by
        have hz := val_lt hAH.out.dig
        rw [hAvH.out, hlaH.out] at hz
        refine byteN_zero (Nat.lt_of_lt_of_le hz ?_)
        rw [show (256 : Nat) ^ j = 2 ^ (8 * j) from by rw [Nat.pow_mul], bs_pow]
        exact Nat.pow_le_pow_right (by decide) (by omega))] at hcv
      have hE := Lib.hid hI.out.bel
      clear hI
      go_wp2_with fail
      refine bodyPost_ret (v := .tuple #[.string (wideW p many), .int .i64 0]) (by simp [results, Tryd.results17, go_sem]) rfl ⟨rfl, hE.out⟩
theorem Wide_N {w : World} {u : Value} {p : Nat} (hu : NumAt w u p) (hp : blen p ≤ 400000) (many : Int) (hm1 : -9223372036854775808 ≤ many) (hm2 : many ≤ 1000000) :
    Calls Tryd.prog 17 #[.agg #[u], .int .i64 many] w fun e w' => e = .returned (.tuple #[.string (wideS p many), .int .i64 (wideE p many)]) ∧ Below w.heap.size w w' := by
  unfold wideS
  by_cases he : wideE p many = 0
  · rw [if_pos he, he]
    have h0 : ¬ many < 0 := by intro h; unfold wideE at he; rw [if_pos h] at he; cases he
    have h8 : ¬ 8 * many < blen p := by intro h; unfold wideE at he; rw [if_neg h0, if_pos h] at he; cases he
    obtain ⟨m, rfl⟩ : ∃ m : Nat, many = (m : Int) := ⟨many.toNat, by omega⟩
    rw [Int.toNat_natCast]
    exact Wide_any hu hp m (by omega) (by omega)
  · rw [if_neg he]
    exact Wide_err hu hp many hm1 (by omega) he
end Go.Proofs.YtffehdfddkgggaaDoor.Nu

/- Bytes; the reference's Wide, Bytes. -/
namespace Go.Proofs.YtffehdfddkgggaaDoor.Nu
open Go.RowKit Rt
set_option linter.unusedSimpArgs false
set_option linter.unusedVariables false
/-- The least bytes that tell a number. -/
def bytesW (p : Nat) : ByteArray := wideW p ((blen p + 7) / 8)
set_option maxHeartbeats 4000000 in
set_option maxRecDepth 100000 in
theorem Bytes_N {w : World} {u : Value} {p : Nat} (hu : NumAt w u p) (hp : blen p ≤ 400000) :
    Calls Tryd.prog 29 #[.agg #[u]] w fun e w' => e = .returned (.string (bytesW p)) ∧ Below w.heap.size w w' := by
  obtain ⟨a, la, ca, rfl⟩ := hu.shape
  have hB0 : Below w.heap.size w (w.alloc (.cells #[.slice a la ca] 26)) := (Below.refl _ w).alloc (Nat.le_refl _) _
  have y0 := (Boxed.new w 26 (.slice a la ca)).cell
  have hn0 := hu.below hB0
  unfold bytesW
  obtain ⟨n, hn⟩ : ∃ z, (blen p + 7) / 8 = z := ⟨_, rfl⟩
  have h8 : blen p ≤ 8 * n := by omega
  rw [hn]
  obtain ⟨W0, hW0⟩ : ∃ W, w.alloc (.cells #[.slice a la ca] 26) = W := ⟨_, rfl⟩
  rw [hW0] at hB0 y0 hn0
  have hW0H := Lib.hid hW0
  have hn0H := Lib.hid hn0
  have hE := Lib.hid hB0
  obtain ⟨b, hb⟩ : ∃ z, blen p = z := ⟨_, rfl⟩
  have hbH := Lib.hid hb
  have hw1 := Nu.wr (x := (b : Int) + 7) (by omega) (by omega)
  have hq1 : Int.tdiv ((b : Int) + 7) 8 = (n : Int) := by rw [← hn, hb]; exact (Int.ofNat_tdiv (b + 7) 8).symm
  have hq2 : ((b : Int) + 7) / 8 = (n : Int) := by omega
  have hnw := Nu.wr (x := (n : Int)) (by omega) (by omega)
  clear hu hW0 hB0 hn0 hb hn
  go_enter Tryd.func29, Tryd.ntmps29
  go_upto_region 1 with (fail)
  rw [hW0H.out]
  clear hW0H
  obtain ⟨wz, hwz⟩ : ∃ d, W0.drew = d := ⟨_, rfl⟩
  have hbd : Below W0.heap.size W0 wz := by rw [← hwz]; exact (Below.refl _ _).drew
  have z0 := (hbd.cell (World.block_lt_of_cell? _ _ y0)).trans y0
  have hn0 := hn0H.out.below hbd
  replace hE := Lib.hid (hE.out.trans (hbd.mono hE.out.size))
  have hb := hbH.out
  clear hbd y0 hn0H hbH
  refine Rt.wp_region_ordM [1, 1, 2, 0, 0, 2, 0, 0, 0, 0, 0] [0, 1, 2, 3, 4, 5, 6, 7, 8, 9, 10] (by kernel_rfl) (by kernel_rfl) ?_
  rw [hwz]
  clear hwz
  apply ord_read rfl rfl rfl; (· (intro W hW; have g0 := cell_up hW z0; go_simp; with_reducible rfl)); (· (simp only [Act.put, Act.eval, List.setIfInBounds_toArray, List.set_cons_zero, List.set_cons_succ, Array.getD_eq_getD_getElem?, List.getElem?_toArray, List.getElem?_cons_zero, List.getElem?_cons_succ, Option.getD_some, List.getElem_toArray, List.getElem_cons_succ, List.getElem_cons_zero]; with_reducible rfl))
  apply ord_read rfl rfl rfl; (· (intro W hW; have g0 := cell_up hW z0; go_simp; with_reducible rfl)); (· (simp only [Act.put, Act.eval, List.setIfInBounds_toArray, List.set_cons_zero, List.set_cons_succ, Array.getD_eq_getD_getElem?, List.getElem?_toArray, List.getElem?_cons_zero, List.getElem?_cons_succ, Option.getD_some, List.getElem_toArray, List.getElem_cons_succ, List.getElem_cons_zero]; with_reducible rfl))
  refine ord_call rfl rfl rfl (by go_simp; exact ⟨rfl, rfl⟩) ?_
  refine (hn0.bits (Nat.le_trans hp (by decide))).mono ?_
  rintro e w2 ⟨rfl, hb2⟩
  refine ⟨_, rfl, hb2, ?_⟩
  replace hn0 := hn0.below hb2
  replace hE := Lib.hid (hE.out.trans (hb2.mono hE.out.size))
  clear hb2
  simp only [Act.put, Act.eval, List.setIfInBounds_toArray, List.set_cons_zero, List.set_cons_succ, Array.getD_eq_getD_getElem?, List.getElem?_toArray, List.getElem?_cons_zero, List.getElem?_cons_succ, Option.getD_some, List.getElem_toArray, List.getElem_cons_succ, List.getElem_cons_zero]
  rw [hb]
  apply ord_pure rfl rfl rfl; (· (intro w; go_simp; with_reducible rfl)); (· (simp only [Act.put, Act.eval, List.setIfInBounds_toArray, List.set_cons_zero, List.set_cons_succ, Array.getD_eq_getD_getElem?, List.getElem?_toArray, List.getElem?_cons_zero, List.getElem?_cons_succ, Option.getD_some, List.getElem_toArray, List.getElem_cons_succ, List.getElem_cons_zero]; with_reducible rfl))
  apply ord_pure rfl rfl rfl; (· (intro w; go_simp; with_reducible rfl)); (· (simp only [Act.put, Act.eval, List.setIfInBounds_toArray, List.set_cons_zero, List.set_cons_succ, Array.getD_eq_getD_getElem?, List.getElem?_toArray, List.getElem?_cons_zero, List.getElem?_cons_succ, Option.getD_some, List.getElem_toArray, List.getElem_cons_succ, List.getElem_cons_zero]; with_reducible rfl))
  refine ord_call rfl rfl rfl (by go_simp; exact ⟨rfl, rfl⟩) ?_
  refine (Wide_any hn0 hp n (by omega) h8).mono ?_
  rintro e w3 ⟨rfl, hb3⟩
  refine ⟨_, rfl, hb3, ?_⟩
  replace hE := Lib.hid (hE.out.trans (hb3.mono hE.out.size))
  clear hb3
  simp only [Act.put, Act.eval, List.setIfInBounds_toArray, List.set_cons_zero, List.set_cons_succ, Array.getD_eq_getD_getElem?, List.getElem?_toArray, List.getElem?_cons_zero, List.getElem?_cons_succ, Option.getD_some, List.getElem_toArray, List.getElem_cons_succ, List.getElem_cons_zero]
  apply ord_move rfl rfl rfl rfl; (· (simp only [Act.put, Act.eval, List.setIfInBounds_toArray, List.set_cons_zero, List.set_cons_succ, Array.getD_eq_getD_getElem?, List.getElem?_toArray, List.getElem?_cons_zero, List.getElem?_cons_succ, Option.getD_some, List.getElem_toArray, List.getElem_cons_succ, List.getElem_cons_zero]; with_reducible rfl))
  apply ord_pure rfl rfl rfl; (· (intro w; go_simp; with_reducible rfl)); (· (simp only [Act.put, Act.eval, List.setIfInBounds_toArray, List.set_cons_zero, List.set_cons_succ, Array.getD_eq_getD_getElem?, List.getElem?_toArray, List.getElem?_cons_zero, List.getElem?_cons_succ, Option.getD_some, List.getElem_toArray, List.getElem_cons_succ, List.getElem_cons_zero]; with_reducible rfl))
  apply ord_pure rfl rfl rfl; (· (intro w; go_simp; with_reducible rfl)); (· (simp only [Act.put, Act.eval, List.setIfInBounds_toArray, List.set_cons_zero, List.set_cons_succ, Array.getD_eq_getD_getElem?, List.getElem?_toArray, List.getElem?_cons_zero, List.getElem?_cons_succ, Option.getD_some, List.getElem_toArray, List.getElem_cons_succ, List.getElem_cons_zero]; with_reducible rfl))
  apply ord_pure rfl rfl rfl; (· (intro w; go_simp; with_reducible rfl)); (· (simp only [Act.put, Act.eval, List.setIfInBounds_toArray, List.set_cons_zero, List.set_cons_succ, Array.getD_eq_getD_getElem?, List.getElem?_toArray, List.getElem?_cons_zero, List.getElem?_cons_succ, Option.getD_some, List.getElem_toArray, List.getElem_cons_succ, List.getElem_cons_zero]; with_reducible rfl))
  apply ord_pure rfl rfl rfl; (· (intro w; go_simp; with_reducible rfl)); (· (simp only [Act.put, Act.eval, List.setIfInBounds_toArray, List.set_cons_zero, List.set_cons_succ, Array.getD_eq_getD_getElem?, List.getElem?_toArray, List.getElem?_cons_zero, List.getElem?_cons_succ, Option.getD_some, List.getElem_toArray, List.getElem_cons_succ, List.getElem_cons_zero]; with_reducible rfl))
  with_reducible refine ord_nil ?_
  clear hn0 hb z0
  go_wp2_with fail
  go_ret
  exact ⟨rfl, hE.out⟩
theorem Wl.skip {p many c : Nat} {L : List Nat} (h : Wl p many c L) (hz : byteN p c = 0) : Wl p many (c + 1) L := by
  refine ⟨h.1, fun j hj => ?_⟩
  rw [h.2 j hj]
  by_cases hjc : j = c
  · subst hjc; rw [if_neg (by omega), if_pos (by omega), hz]
  · by_cases h2 : j < c
    · rw [if_pos h2, if_pos (by omega)]
    · rw [if_neg h2, if_neg (by omega)]
/-- The reference's bytes under way. -/
structure RwI (w W : World) (g p many c : Nat) (L : List Nat) : Prop where
  bel : Below w.heap.size w W
  row : RowB W g L
  is : Wl p many c L
set_option maxHeartbeats 4000000 in
set_option maxRecDepth 100000 in
theorem RWide_N {w : World} {u : Value} {p : Nat} (hu : NumAt w u p) (hp : blen p ≤ 400000) (many : Nat) (hm : many ≤ 1000000) :
    Calls Tryd.prog 19 #[u, .int .i64 (many : Int)] w fun e w' => e = .returned (.string (wideW p many)) ∧ Below w.heap.size w w' := by
  obtain ⟨A, hA, hAv, hsA⟩ := hu
  obtain ⟨a, ca, rfl, -, -⟩ := id hsA
  have hla2 := norm_len hA (by rw [hAv]; exact hp)
  obtain ⟨la, hla⟩ : ∃ n, A.length = n := ⟨_, rfl⟩
  rw [hla] at hsA hla2 ⊢
  have hsAH := Lib.hid hsA
  have hAH := Lib.hid hA
  have hAvH := Lib.hid hAv
  have hlaH := Lib.hid hla
  have hmk := run_mkB w many (by omega)
  have hM := RowB.made w many
  have hI1 : Hid (RwI w (w.alloc (.cells (encB (List.replicate many 0)) 5)) w.heap.size p many 0 (List.replicate many 0)) := Lib.hid ⟨(Below.refl _ w).alloc (Nat.le_refl _) _, hM, Wl.start p many⟩
  obtain ⟨W1, hW1⟩ : ∃ W, w.alloc (.cells (encB (List.replicate many 0)) 5) = W := ⟨_, rfl⟩
  rw [hW1] at hmk hI1
  obtain ⟨g, hg⟩ : ∃ g, w.heap.size = g := ⟨_, rfl⟩
  rw [hg] at hmk hI1
  have hgH := Lib.hid hg
  clear hsA hA hAv hla hM hW1 hg
  go_enter Tryd.func19, Tryd.ntmps19
  go_wp2_with fail
  clear hmk
  go_loopw [6] (fun vk wr => ∃ (k : Nat) (L : List Nat), vk = .int .i64 (k : Int) ∧ k ≤ many ∧ Hid (RwI w wr g p many k L)) (fun vk _ => many - (intOf vk).toNat)
  case atStart => exact ⟨0, _, rfl, Nat.zero_le _, hI1⟩
  case round =>
    obtain ⟨k, L, rfl, hk, hI⟩ := hrel
    clear hI1
    by_cases hlt : (k : Int) < (many : Int)
    · have hkm : k < many := by omega
      have hkw := Nu.wr (x := (k : Int) + 1) (by omega) (by omega)
      obtain ⟨q, hq⟩ : ∃ q, k / 4 = q := ⟨_, rfl⟩
      have htq : Int.tdiv (k : Int) 4 = (q : Int) := by rw [← hq]; exact (Int.ofNat_tdiv k 4).symm
      have htq2 : (k : Int) / 4 = (q : Int) := by omega
      have hqw := Nu.wr (x := (q : Int)) (by omega) (by omega)
      by_cases hql : (q : Int) < (la : Int)
      · have hqla : q < la := by omega
        obtain ⟨t, ht⟩ : ∃ t, k % 4 = t := ⟨_, rfl⟩
        have htm : Int.tmod (k : Int) 4 = (t : Int) := by rw [← ht]; exact (Int.ofNat_tmod k 4).symm
        have htm2 : (k : Int) % 4 = (t : Int) := by omega
        have htl : t < 4 := by omega
        have hkt : k = 4 * q + t := by omega
        have htw := Nu.wr (x := (t : Int)) (by omega) (by omega)
        obtain ⟨sf, hsf⟩ : ∃ z, 8 * t = z := ⟨_, rfl⟩
        have hsfi : (8 : Int) * (t : Int) = (sf : Int) := by omega
        have hsfw := Nu.wr (x := (sf : Int)) (by omega) (by omega)
        have hw2 := Nu.wr (x := (many : Int) - 1) (by omega) (by omega)
        obtain ⟨ix, hix⟩ : ∃ z, many - 1 - k = z := ⟨_, rfl⟩
        have hixi : (many : Int) - 1 - (k : Int) = (ix : Int) := by omega
        have hw3 := Nu.wr (x := (ix : Int)) (by omega) (by omega)
        have hixl : (ix : Int) < (many : Int) := by omega
        obtain ⟨ba, oa, rfl, cA⟩ := hsAH.out.at hI.out.bel (j := q) (by rw [hlaH.out]; exact hqla)
        have hby := byte_digit (f := gd A) hAH.out.dig (q := q) (t := t) (m := la) hqla htl
        rw [show dsum (gd A) la = p from by rw [← hAvH.out, ← hlaH.out]; rfl, ← hkt, show (256 : Nat) ^ t = 2 ^ sf from by rw [← hsf, Nat.pow_mul]] at hby
        obtain ⟨d, hd⟩ : ∃ z, gd A q = z := ⟨_, rfl⟩
        rw [hd] at cA hby
        have hshr : (d : Int) / 2 ^ sf = ((d / 2 ^ sf : Nat) : Int) := by rw [Int.natCast_ediv, Int.natCast_pow]; rfl
        obtain ⟨y, hy⟩ : ∃ z, d / 2 ^ sf = z := ⟨_, rfl⟩
        rw [hy] at hby hshr
        have hc8 : (y : Int) % 256 = ((y % 256 : Nat) : Int) := by omega
        have hc8w : IntKind.u8.wrap (y : Int) = ((y % 256 : Nat) : Int) := by simp [IntKind.wrap, IntKind.bits, IntKind.signed]
        rw [hby] at hc8 hc8w
        obtain ⟨e, he⟩ : ∃ z, byteN p k = z := ⟨_, rfl⟩
        rw [he] at hc8 hc8w
        have cO := hI.out.row.cell ix (by rw [hI.out.is.1]; omega)
        have fO := hI.out.row.frozen ix
        have hI3 : Hid (RwI w (wr.setCell ⟨g, ix, none⟩ (.int .u8 (e : Int))) g p many (k + 1) (L.set ix e)) := Lib.hid (by
          rw [← hix]
          exact ⟨hI.out.bel.setCell (p := ⟨g, many - 1 - k, none⟩) (Nat.le_of_eq hgH.out) _, hI.out.row.set _ _, hI.out.is.step hkm he.symm⟩)
        clear ht hq hsf hix hby hy he hI hkt hd
        go_wp2_with fail
        go_roundw
        case rel => exact ⟨k + 1, _, by first | rfl | go_num, by omega, hI3⟩
        case measure => first | (simp [intOf]; done) | (simp [intOf]; omega)
      · have hI3 : Hid (RwI w wr g p many (k + 1) L) := Lib.hid ⟨hI.out.bel, hI.out.row, hI.out.is.skip (by
          have hz := val_lt hAH.out.dig
          rw [hAvH.out, hlaH.out] at hz
          refine byteN_zero (Nat.lt_of_lt_of_le hz ?_)
          rw [show (256 : Nat) ^ k = 2 ^ (8 * k) from by rw [Nat.pow_mul], bs_pow]
          exact Nat.pow_le_pow_right (by decide) (by omega))⟩
        clear hI hq
        go_wp2_with fail
        go_roundw
        case rel => exact ⟨k + 1, _, by first | rfl | go_num, by omega, hI3⟩
        case measure => first | (simp [intOf]; done) | (simp [intOf]; omega)
    · have hkm : many = k := by omega
      subst hkm
      have hcv := hI.out.row.conv (c := many)
      rw [hI.out.is.1, hI.out.is.done (fun j h1 h2 => by omega)] at hcv
      have hE := Lib.hid hI.out.bel
      clear hI
      go_wp2_with fail
      go_ret
      exact ⟨rfl, hE.out⟩
set_option maxHeartbeats 4000000 in
set_option maxRecDepth 100000 in
theorem RBytes_N {w : World} {u : Value} {p : Nat} (hu : NumAt w u p) (hp : blen p ≤ 400000) :
    Calls Tryd.prog 41 #[u] w fun e w' => e = .returned (.string (bytesW p)) ∧ Below w.heap.size w w' := by
  unfold bytesW
  obtain ⟨n, hn⟩ : ∃ z, (blen p + 7) / 8 = z := ⟨_, rfl⟩
  have hB := Lib.hid (hu.rbits (Nat.le_trans hp (by decide)))
  have hW := Lib.hid (RWide_N hu hp n (by omega))
  rw [hn]
  obtain ⟨b, hb⟩ : ∃ z, blen p = z := ⟨_, rfl⟩
  rw [hb] at hB hp
  have hw1 := Nu.wr (x := (b : Int) + 7) (by omega) (by omega)
  have hq1 : Int.tdiv ((b : Int) + 7) 8 = (n : Int) := by rw [← hn, hb]; exact (Int.ofNat_tdiv (b + 7) 8).symm
  have hq2 : ((b : Int) + 7) / 8 = (n : Int) := by omega
  have hnw := Nu.wr (x := (n : Int)) (by omega) (by omega)
  clear hu hb hn
  go_enter Tryd.func41, Tryd.ntmps41
  go_wp2_with fail
  refine hB.out.mono ?_
  rintro e w2 ⟨rfl, rfl⟩
  go_wp2_with fail
  refine hW.out.mono ?_
  rintro e w3 ⟨rfl, hb3⟩
  go_wp2_with fail
  go_ret
  exact ⟨rfl, hb3⟩
end Go.Proofs.YtffehdfddkgggaaDoor.Nu

/- The reference's Of. -/
namespace Go.Proofs.YtffehdfddkgggaaDoor.Nu
open Go.RowKit Rt
set_option linter.unusedSimpArgs false
set_option linter.unusedVariables false
theorem bsum_cons (g : Nat → Nat) : ∀ c, bsum g (c + 1) = g 0 + 256 * bsum (fun t => g (t + 1)) c
  | 0 => by simp [bsum]
  | c + 1 => by
    rw [bsum_succ, bsum_cons g c, bsum_succ, Nat.pow_succ]
    grind
/-- A digit of the reference's under way: the bytes from j0 up to j. -/
def dj (s : ByteArray) (j j0 : Nat) : Nat := bsum (fun t => bk s (s.size - j + t)) (j - j0)
theorem dj_start (s : ByteArray) (j : Nat) : dj s j j = 0 := by unfold dj; rw [Nat.sub_self]; rfl
theorem dj_step (s : ByteArray) {j j0 : Nat} (h0 : j0 ≤ j) (h : j < s.size) : dj s (j + 1) j0 = 256 * dj s j j0 + (s[j]).toNat := by
  have hb : bk s (s.size - (j + 1)) = (s[j]).toNat := by
    rw [bk_in (by omega)]
    congr 2
    omega
  unfold dj
  rw [show j + 1 - j0 = (j - j0) + 1 by omega, bsum_cons, Nat.add_zero, hb, Nat.add_comm]
  congr 2
  exact bsum_congr fun t _ => by rw [show s.size - (j + 1) + (t + 1) = s.size - j + t by omega]
theorem dj_lt (s : ByteArray) {j j0 : Nat} (h : j - j0 ≤ 4) : dj s j j0 < Bs := by
  have h1 := bsum_lt (g := fun t => bk s (s.size - j + t)) (fun t => bk_lt s _) (j - j0)
  have h2 : 256 ^ (j - j0) ≤ 256 ^ 4 := Nat.pow_le_pow_right (by decide) h
  unfold dj
  simp only [Bs]
  omega
theorem dj_done (s : ByteArray) {k q : Nat} (h : k + 4 * q = s.size) : dj s k (k - 4) = four (bk s) q := by
  unfold dj
  have e : four (bk s) q = bsum (fun t => bk s (4 * q + t)) 4 := by unfold four; simp only [bsum, Nat.add_zero]; omega
  rw [e, show s.size - k = 4 * q by omega]
  refine (bsum_zero (by omega) fun t h1 h2 => ?_).symm
  exact bk_out (by omega)
/-- The reference's digits under way. -/
structure RofI (w W : World) (s : ByteArray) (q : Nat) (v : Value) (L : List Nat) : Prop where
  row : W.ownsRow w.heap.size 60 1 v L.length (L.map dv)
  bel : Below w.heap.size w W
  dig : Dig L
  len : L.length = q
  is : ∀ j, j < q → gd L j = four (bk s) j
theorem NumAt.rbits_big {w : World} {v : Value} {n S : Nat} (h : NumAt w v n) (hn : n < 256 ^ S) (hS : S ≤ 140737488355328) : Calls Tryd.prog 18 #[v] w fun e w' => e = .returned (.int .i64 (blen n : Int)) ∧ w' = w := by
  obtain ⟨L, h1, h2, h3⟩ := h
  obtain ⟨a, c, rfl, -, -⟩ := id h3
  have hl : L.length ≤ 70368744177664 := by
    rcases Nat.eq_zero_or_pos L.length with h0 | h0
    · omega
    · have h4 := norm_ge h1 h0
      rw [h2, bs_pow] at h4
      rw [show (256 : Nat) ^ S = 2 ^ (8 * S) from by rw [Nat.pow_mul]] at hn
      rcases Nat.lt_or_ge (32 * (L.length - 1)) (8 * S) with h5 | h5
      · omega
      · have := Nat.pow_le_pow_right (n := 2) (by decide) h5
        omega
  have := RBits_any h3 hl h1
  rw [h2] at this
  exact this
set_option maxHeartbeats 4000000 in
set_option maxRecDepth 100000 in
theorem ROf_N (s : ByteArray) (hsz : s.size ≤ 140737488355328) (w : World) :
    Calls Tryd.prog 13 #[.string s] w fun e w' => ∃ r, e = .returned (.tuple #[r, .int .i64 (errN (numS s))]) ∧ NumAt w' r (capN (numS s)) ∧ Below w.heap.size w w' := by
  have hI0 : Hid (RofI w w s 0 (.slice none 0 0) []) := Lib.hid ⟨World.ownsRow_nil _ _ _ _, Below.refl _ _, norm_nil.dig, rfl, fun j hj => absurd hj (Nat.not_lt_zero _)⟩
  obtain ⟨n, hn⟩ : ∃ n, s.size = n := ⟨_, rfl⟩
  have hnH := Lib.hid hn
  have hszn : n ≤ 140737488355328 := by omega
  go_enter Tryd.func13, Tryd.ntmps13
  go_wp2_with fail
  go_loopw [4, 5] (fun va vk wr => ∃ (q : Nat) (L : List Nat), vk = .int .i64 ((n : Int) - 4 * (q : Int)) ∧ 4 * q ≤ n + 3 ∧ Hid (RofI w wr s q va L)) (fun _ vk _ => (intOf vk + 3).toNat)
  case atStart => exact ⟨0, [], by simp, by omega, hI0⟩
  case round =>
    obtain ⟨q, L, rfl, hq, hI⟩ := hrel
    clear hI0
    by_cases hlt : (0 : Int) < (n : Int) - 4 * (q : Int)
    · obtain ⟨k, hk⟩ : ∃ k : Nat, (n : Int) - 4 * (q : Int) = (k : Int) := ⟨n - 4 * q, by omega⟩
      have hkq : Hid (k + 4 * q = n) := Lib.hid (by omega)
      have hkn : k ≤ n := by omega
      rw [hk] at hlt ⊢
      have hkw := Nu.wr (x := (k : Int) - 4) (by omega) (by omega)
      obtain ⟨j0, hj0⟩ : ∃ z, k - 4 = z := ⟨_, rfl⟩
      have hmx : max (0 : Int) ((k : Int) - 4) = (j0 : Int) := by omega
      have hmx2 : max ((k : Int) - 4) (0 : Int) = (j0 : Int) := by omega
      have hj0H := Lib.hid hj0
      have hj0k : j0 ≤ k := by omega
      have hj4 : k ≤ j0 + 4 := by omega
      have hd0 := dj_start s j0
      clear hj0
      go_wp2_with fail
      go_loopw [6, 7] (fun vd vj wx => ∃ j : Nat, vd = .int .u32 ((dj s j j0 : Nat) : Int) ∧ vj = .int .i64 (j : Int) ∧ j0 ≤ j ∧ j ≤ k ∧ wx = wr) (fun _ vj _ => k - (intOf vj).toNat)
      case atStart => exact ⟨j0, by rw [hd0]; rfl, rfl, Nat.le_refl _, hj0k, rfl⟩
      case round =>
        obtain ⟨j, rfl, rfl, hj1, hj2, rfl⟩ := hrel
        by_cases hjk : (j : Int) < (k : Int)
        · have hjs : j < s.size := by rw [hn]; omega
          have hjn : (j : Int) < (n : Int) := by omega
          have hstep := dj_step s hj1 hjs
          have hlt1 := dj_lt s (j := j) (j0 := j0) (by omega)
          have hlt2 := dj_lt s (j := j + 1) (j0 := j0) (by omega)
          obtain ⟨d, hd⟩ : ∃ z, dj s j j0 = z := ⟨_, rfl⟩
          rw [hd] at hstep hlt1 ⊢
          obtain ⟨b, hb⟩ : ∃ z, (s[j]).toNat = z := ⟨_, rfl⟩
          have hbB : b < 256 := by rw [← hb]; exact UInt8.toNat_lt _
          rw [hb] at hstep
          rw [hstep] at hlt2
          simp only [Bs] at hlt1 hlt2
          have hbw := Nu.wr32 (x := (b : Int)) (by omega) (by omega)
          have hw1 := Nu.wr32 (x := 256 * (d : Int)) (by omega) (by omega)
          have hw2 := Nu.wr32 (x := 256 * (d : Int) + (b : Int)) (by omega) (by omega)
          have hjw := Nu.wr (x := (j : Int) + 1) (by omega) (by omega)
          have hsH : Hid (((dj s (j + 1) j0 : Nat) : Int) = 256 * (d : Int) + (b : Int)) := Lib.hid (by rw [hstep]; omega)
          clear hd hstep hd0
          go_wp2_with fail
          go_roundw
          case rel => exact ⟨j + 1, by rw [hsH.out], by first | rfl | go_num, by omega, by omega, by first | rfl | trivial⟩
          case measure => first | (simp [intOf]; done) | (simp [intOf]; omega)
        · have hjk2 : k = j := by omega
          subst hjk2
          have hdone := dj_done s (k := k) (q := q) (by rw [hkq.out, hn])
          rw [hj0H.out] at hdone
          have hlt1 := dj_lt s (j := k) (j0 := j0) (by omega)
          rw [hdone] at hlt1 ⊢
          obtain ⟨e, he⟩ : ∃ z, four (bk s) q = z := ⟨_, rfl⟩
          rw [he] at hlt1 ⊢
          have heH := Lib.hid he
          have heBH := Lib.hid hlt1
          have hlen := Lib.hid hI.out.len
          clear hd0 hdone he hlt1
          go_wp2_with (at_builtin; refine wpList_app_d rfl (.tmp 29) (.tmp 31) rfl rfl (own_below hI.out.row ((Below.refl _ wr).alloc (Nat.le_refl _) (.cells #[.int .u32 (e : Int)] 60))) (Nat.le_trans hI.out.bel.size (by simp)) (b := wr.heap.size) (off := 0) (m := 1) (c := 1) (T := [e]) rfl rfl (fun j hj => by { have hj0 : j = 0 := by { simp at hj; omega }; subst hj0; exact World.cell?_alloc_one _ _ _ }) (by have := hlen.out; have := hkq.out; simp; omega) ?_; intro v' w' hrow hgrow hat)
          have hI3 : Hid (RofI w w' s (q + 1) v' (L ++ [e])) := Lib.hid ⟨hrow, own_grow hI.out.row hI.out.bel hgrow, dig_snoc hI.out.dig heBH.out, by rw [List.length_append, List.length_singleton, hlen.out], fun j hj => by
            rw [gd_snoc, hlen.out]
            by_cases h1 : j = q
            · rw [if_pos h1, h1]; exact heH.out.symm
            · rw [if_neg h1]; exact hI.out.is j (by omega)⟩
          have hk4 : (k : Int) - 4 = (n : Int) - 4 * ((q + 1 : Nat) : Int) := by omega
          have hq4 : Hid (4 * (q + 1) ≤ n + 3) := Lib.hid (by have := hkq.out; omega)
          have hk4H := Lib.hid hk4
          clear hrow hgrow hat hI hk4 hk
          go_wp2_with fail
          go_roundw
          case rel => exact ⟨q + 1, _, by rw [← hk4H.out], hq4.out, hI3⟩
          case measure => first | (simp [intOf]; done) | (simp [intOf]; omega)
    · have hval : val L = numS s := by
        have h1 : val L = dsum (gd L) q := by unfold val; rw [hI.out.len]
        rw [h1, dsum_congr hI.out.is]
        exact numS_digits (by rw [hn]; omega)
      have hT := RTrim_own hI.out.row hI.out.dig (by rw [hI.out.len]; omega)
      rw [hval] at hT
      have hTH := Lib.hid hT
      have hb := Lib.hid hI.out.bel
      have hlt256 := Lib.hid (numS_lt s)
      clear hT hval hI
      go_wp2_with fail
      refine hTH.out.mono ?_
      rintro e w3 ⟨r, rfl, hn3, rfl⟩
      have hRb := Lib.hid (hn3.rbits_big (by have := hlt256.out; exact this) hsz)
      obtain ⟨ra, rl, rc, rfl⟩ := hn3.shape
      have hn3H := Lib.hid hn3
      obtain ⟨bl, hbl⟩ : ∃ z, blen (numS s) = z := ⟨_, rfl⟩
      rw [hbl] at hRb
      have hblH := Lib.hid hbl
      clear hn3 hTH hbl
      by_cases hlong : (4096 : Int) < (bl : Int)
      · go_wp2_with (go_at_call 18; refine hRb.out.mono ?_; rintro e w4 ⟨rfl, rfl⟩)
        refine bodyPost_ret (v := .tuple #[.slice none 0 0, .int .i64 3]) (by simp [results, Tryd.results13, go_sem]) rfl ⟨_, by unfold errN; rw [hblH.out, if_pos (by omega)], by unfold capN; rw [hblH.out, if_pos (by omega)]; exact NumAt.zero _, hb.out⟩
      · go_wp2_with (go_at_call 18; refine hRb.out.mono ?_; rintro e w4 ⟨rfl, rfl⟩)
        refine bodyPost_ret (v := .tuple #[.slice ra rl rc, .int .i64 0]) (by simp [results, Tryd.results13, go_sem]) rfl ⟨_, by unfold errN; rw [hblH.out, if_neg (by omega)], by unfold capN; rw [hblH.out, if_neg (by omega)]; exact hn3H.out, hb.out⟩
end Go.Proofs.YtffehdfddkgggaaDoor.Nu
