/- IndexFunc and DeleteFunc over rows of addresses; Band's closure. -/
import Derived.Test.YticijejnemnmlaaInH
namespace Go.Proofs.Yticijejnemnmlaa.If
open Go.RowKit Rt
set_option linter.unusedSimpArgs false
set_option linter.unusedVariables false
set_option maxHeartbeats 1000000 in
theorem IndexA_any {w : World} {p1 p2 : Nat} {f : Ad → Bool} {a : Option Addr} {n c : Nat} {L : List Ad} (hp : ∀ W, Below w.heap.size w W → ∀ x, x ∈ L → Calls Try.prog 37 #[.agg #[.bool x.v6, .int .u64 x.hi, .int .u64 x.lo], .pointer (some ⟨p1, 0, none⟩), .pointer (some ⟨p2, 0, none⟩)] W fun e w' => e = .returned (.bool (f x)) ∧ Below W.heap.size W w') (h : 0 < L.length → ∃ b, a = some ⟨b, 0, none⟩ ∧ OwnA w b c L) (hn : n = L.length) (hl : L.length < 5864062014720) :
    Calls Try.prog 50 #[.slice a n c, .func (.func 37) #[] #[.pointer (some ⟨p1, 0, none⟩), .pointer (some ⟨p2, 0, none⟩)]] w fun e w' => e = .returned (.int .i64 (idxA f L)) ∧ Below w.heap.size w w' := by
  have hR := Lib.hid h
  have hpH := Lib.hid hp
  have hnH := Lib.hid hn
  rw [← hn] at hl
  clear h hp hn
  go_enter Try.func50, Try.ntmps50
  go_wp2
  go_loopw [8] (fun v wr => ∃ j : Nat, j ≤ n ∧ v = .int .i64 j ∧ (∀ i, i < j → f (ga L i) = false) ∧ Below w.heap.size w wr)
    (fun v _ => n - (intOf v).toNat)
  case atStart => exact ⟨0, Nat.zero_le _, rfl, by simp, Below.refl _ _⟩
  case round =>
    obtain ⟨j, hj, rfl, hno, hb⟩ := hrel
    by_cases hlt : j < n
    · obtain ⟨b, rfl, hO⟩ := hR.out (by have := hnH.out; omega)
      obtain ⟨c0, c1, c2⟩ := (hO.below hb).at j (by have := hnH.out; omega)
      have hmem := ga_mem (l := L) (i := j) (by have := hnH.out; omega)
      obtain ⟨x, hx⟩ : ∃ x, ga L j = x := ⟨_, rfl⟩
      rw [hx] at c0 c1 c2 hmem
      have hP := Lib.hid (hpH.out wr hb x hmem)
      have hxH := Lib.hid hx
      have hnoH := Lib.hid hno
      have hji : (j : Int) < n := by omega
      clear hx hno hO hmem
      cases hE : f x with
      | true =>
        rw [hE] at hP
        go_wp2_with (go_at_call 37; refine hP.out.mono ?_; rintro e w1 ⟨rfl, hb1⟩)
        go_ret
        exact ⟨by rw [idxA_some (k := j) (by have := hnH.out; omega) hnoH.out (by rw [hxH.out]; exact hE)]; rfl, hb.trans (hb1.mono hb.size)⟩
      | false =>
        rw [hE] at hP
        go_wp2_with (go_at_call 37; refine hP.out.mono ?_; rintro e w1 ⟨rfl, hb1⟩)
        go_roundw
        case rel => exact ⟨j + 1, by omega, by go_num, fun i hi => by
                      by_cases e : i = j
                      · subst e; rw [hxH.out]; exact hE
                      · exact hnoH.out i (by omega), hb.trans (hb1.mono hb.size)⟩
        case measure => first | (simp [intOf]; done) | (simp [intOf]; omega)
    · obtain rfl : j = n := by omega
      have hI : Hid (idxA f L = -1) := Lib.hid (idxA_none (by rw [← hnH.out]; exact hno))
      clear hno
      go_wp2
      go_ret
      exact ⟨by rw [hI.out]; rfl, hb⟩
set_option maxHeartbeats 2000000 in
set_option maxRecDepth 100000 in
theorem DelA_row {w : World} {p1 p2 : Nat} {f : Ad → Bool} {b c : Nat} {L : List Ad} (hp : ∀ W, Kept (fun x => x = b) w W → ∀ x, x ∈ L → Calls Try.prog 37 #[.agg #[.bool x.v6, .int .u64 x.hi, .int .u64 x.lo], .pointer (some ⟨p1, 0, none⟩), .pointer (some ⟨p2, 0, none⟩)] W fun e w' => e = .returned (.bool (f x)) ∧ Below W.heap.size W w') (h : OwnA w b c L) (hl : L.length < 5864062014720) {k : Nat} (hk : k < L.length) (hy : f (ga L k) = true) (hno : ∀ i, i < k → f (ga L i) = false) :
    Calls Try.prog 36 #[.slice (some ⟨b, 0, none⟩) L.length c, .func (.func 37) #[] #[.pointer (some ⟨p1, 0, none⟩), .pointer (some ⟨p2, 0, none⟩)]] w fun e w' => e = .returned (.slice (some ⟨b, 0, none⟩) (keepA f L).length c) ∧ OwnA w' b c (keepA f L) ∧ Kept (fun x => x = b) w w' := by
  have hix := idxA_some hk hno hy
  have hI := Lib.hid (IndexA_any (fun W hW => hp W (Kept.of_below hW)) (fun _ => ⟨b, rfl, h⟩) rfl hl)
  rw [hix] at hI
  obtain ⟨hcl, hcm⟩ := h.cap
  have hcm' : (c : Int) ≤ 9223372036854775807 := by unfold maxLen at hcm; omega
  have hDF := Lib.hid (DG.start hk hy hno)
  have hH := Lib.hid h
  have hpH := Lib.hid hp
  obtain ⟨n, hn⟩ : ∃ n, L.length = n := ⟨_, rfl⟩
  have hnH := Lib.hid hn
  rw [hn] at hI hl hcl hk
  rw [hn]
  have hkm : ((k : Int) == -1) = false := by simp
  clear h hp hy hno hn hcm hix
  go_enter Try.func36, Try.ntmps36
  go_wp2_with (go_at_call 50; refine hI.out.mono ?_; rintro e w1 ⟨rfl, hb1⟩)
  go_loopw [5, 6] (fun vi vj wr => ∃ (i j : Nat) (M : List Ad), j ≤ n ∧ i < j ∧ vi = .int .i64 i ∧ vj = .int .i64 j ∧ Hid (DG f L M i j) ∧ Hid (OwnA wr b c M) ∧ Kept (fun x => x = b) w wr)
    (fun _ vj _ => n - (intOf vj).toNat)
  case atStart => exact ⟨k, k + 1, L, by omega, by omega, rfl, by go_num, hDF, Lib.hid (hH.out.below (by exact hb1)), Kept.of_below hb1⟩
  case round =>
    obtain ⟨i, j, M, hjn, hij, rfl, rfl, hD, hO, hKp⟩ := hrel
    have hML : M.length = n := hD.out.len.trans hnH.out
    by_cases hlt : j < n
    · obtain ⟨c0, c1, c2⟩ := hO.out.at j (by omega)
      rw [hD.out.tl j (Nat.le_refl _) (by have := hnH.out; omega)] at c0 c1 c2
      have hmem := ga_mem (l := L) (i := j) (by have := hnH.out; omega)
      have hblt := hO.out.lt
      obtain ⟨x, hx⟩ : ∃ x, ga L j = x := ⟨_, rfl⟩
      rw [hx] at c0 c1 c2 hmem
      have hji : (j : Int) < n := by omega
      have hii : (i : Int) < n := by omega
      have hxH := Lib.hid hx
      have hKH := Lib.hid hKp
      have hP := Lib.hid (hpH.out (wr.alloc (.cells #[.bool x.v6, .int .u64 x.hi, .int .u64 x.lo] 31)) (hKp.alloc _) x hmem)
      clear hx hKp hmem
      cases hE : f x with
      | true =>
        rw [hE] at hP
        go_wp2_with (go_at_call 37; refine hP.out.mono ?_; rintro e w2 ⟨rfl, hb2⟩)
        go_roundw
        case rel => exact ⟨i, j + 1, M, by omega, by omega, rfl, by go_num, Lib.hid (hD.out.skip (by have := hnH.out; omega) (by rw [hxH.out]; exact hE)), Lib.hid ((hO.out.below ((Below.refl _ _).alloc (Nat.le_refl _) _)).below hb2), (hKH.out.alloc _).trans (Kept.of_below hb2)⟩
        case measure => first | (simp [intOf]; done) | (simp [intOf]; omega)
      | false =>
        rw [hE] at hP
        have hO1 := hO.out.below ((Below.refl wr.heap.size wr).alloc (Nat.le_refl _) (.cells #[.bool x.v6, .int .u64 x.hi, .int .u64 x.lo] 31))
        have hO1H := Lib.hid hO1
        have k0 := World.alloc_heap_new wr (.cells #[.bool x.v6, .int .u64 x.hi, .int .u64 x.lo] 31)
        go_wp2_with (go_at_call 37; refine hP.out.mono ?_; rintro e w2 ⟨rfl, hb2⟩; have hO2 := hO1H.out.below hb2; have hk2 := (hb2.block wr.heap.size (by simp)).trans k0; have d0 : w2.cell? ⟨wr.heap.size, 0, none⟩ = some (.bool x.v6) := by { unfold World.cell?; simp only [hk2]; rfl }; have d1 : w2.cell? ⟨wr.heap.size, 1, none⟩ = some (.int .u64 x.hi) := by { unfold World.cell?; simp only [hk2]; rfl }; have d2 : w2.cell? ⟨wr.heap.size, 2, none⟩ = some (.int .u64 x.lo) := by { unfold World.cell?; simp only [hk2]; rfl }; have f0 := hO2.fr (i * 3); have f1 := hO2.fr (i * 3 + 1); have f2 := hO2.fr (i * 3 + 2); obtain ⟨e0, e1, e2⟩ := hO2.at i (by omega); have hO2H := Lib.hid hO2; clear hO1 hO2 k0 hk2)
        go_roundw
        case rel =>
          refine ⟨i + 1, j + 1, M.set i x, by omega, by omega, by go_num, by go_num, Lib.hid ?_, Lib.hid (hO2H.out.set i (by omega) x), ((((hKH.out.alloc _).trans (Kept.of_below hb2)).setCell (p := ⟨b, i * 3, none⟩) (.inl rfl) _).setCell (p := ⟨b, i * 3 + 1, none⟩) (.inl rfl) _).setCell (p := ⟨b, i * 3 + 2, none⟩) (.inl rfl) _⟩
          have := hD.out.put (by have := hnH.out; omega) (by rw [hxH.out]; exact hE)
          rw [hxH.out] at this; exact this
        case measure => first | (simp [intOf]; done) | (simp [intOf]; omega)
    · obtain rfl : j = n := by omega
      have hD2 : M.take i = keepA f L := by
        have := hD.out
        rw [← hnH.out] at this
        exact this.done
      have hlen : (keepA f L).length = i := by rw [← hD2, List.length_take]; omega
      obtain ⟨hc1, hc2⟩ := hO.out.clear (k := i) (by omega) (c - i)
      rw [hML] at hc1 hc2
      rw [hD2] at hc2
      have hci : ¬ c - i = 0 := by omega
      have hii : (i : Int) ≤ j := by omega
      have hic : (i : Int) ≤ c := by omega
      have hc2H := Lib.hid hc2
      have hKH := Lib.hid hKp
      have hbl := hO.out.lt
      obtain ⟨zs, hzs⟩ : ∃ zs, (Builtin.zeroCells (Value.agg #[.bool false, .int .u64 0, .int .u64 0]).cells (j - i)).toList = zs := ⟨_, rfl⟩
      rw [hzs] at hc1 hc2H
      have hKs : Hid (Kept (fun x => x = b) w (wr.setCells b (i * 3) zs)) := Lib.hid (by
        obtain ⟨s1, s2, s3, s4⟩ := Nm.setCells_same b zs (i * 3) wr
        exact hKH.out.trans ⟨s1, s2, s3, Nat.le_of_eq s4.symm, fun x hx hne => Nm.setCells_far zs _ x hne⟩)
      have hlen := Lib.hid hlen
      clear hc2 hD2 hKp hzs hML
      go_wp2
      go_ret
      exact ⟨by rw [hlen.out]; rfl, hc2H.out, hKs.out⟩
theorem DelA_any {w : World} {p1 p2 base : Nat} {f : Ad → Bool} {v : Value} {L : List Ad} (hp : ∀ W, Kept (fun x => base ≤ x) w W → ∀ x, x ∈ L → Calls Try.prog 37 #[.agg #[.bool x.v6, .int .u64 x.hi, .int .u64 x.lo], .pointer (some ⟨p1, 0, none⟩), .pointer (some ⟨p2, 0, none⟩)] W fun e w' => e = .returned (.bool (f x)) ∧ Below W.heap.size W w') (h : w.ownsRow base 31 3 v L.length (adC L)) (hbase : base ≤ w.heap.size) (hl : L.length < 5864062014720) :
    Calls Try.prog 36 #[v, .func (.func 37) #[] #[.pointer (some ⟨p1, 0, none⟩), .pointer (some ⟨p2, 0, none⟩)]] w fun e w' => ∃ v', e = .returned v' ∧ w'.ownsRow base 31 3 v' (keepA f L).length (adC (keepA f L)) ∧ Below base w w' := by
  rcases idxA_cases f L with ⟨hix, hno⟩ | ⟨k, hk, hix, hy, hno⟩
  · obtain ⟨a, c, rfl⟩ := own_slice h
    have hI := Lib.hid (IndexA_any (f := f) (a := a) (c := c) (fun W hW => hp W (Kept.of_below hW)) (fun h0 => by
      rcases h.2 with ⟨h1, e⟩ | ⟨g, cap, cur, h1, hg, _⟩
      · omega
      · cases h1; exact ⟨g, rfl, (OwnA.of h rfl).1⟩) rfl hl)
    rw [hix] at hI
    rw [keepA_all hno]
    have hH := Lib.hid h
    obtain ⟨n, hn⟩ : ∃ n, L.length = n := ⟨_, rfl⟩
    rw [hn] at hI hH ⊢
    clear h hp hno hn hix
    go_enter Try.func36, Try.ntmps36
    go_wp2_with (go_at_call 50; refine hI.out.mono ?_; rintro e w1 ⟨rfl, hb1⟩)
    go_ret
    exact ⟨_, rfl, row_below hH.out hb1, hb1.mono hbase⟩
  · rcases h.2 with ⟨rfl, e⟩ | ⟨g, cap, cur, rfl, hg, _⟩
    · omega
    · obtain ⟨hO, _⟩ := OwnA.of h rfl
      refine (DelA_row (fun W hW => hp W (hW.mono (fun x _ e => by show base ≤ x; omega))) hO hl hk hy hno).mono ?_
      rintro e w' ⟨rfl, hO', hK⟩
      exact ⟨_, rfl, hO'.row hg, hK.below hbase (fun x hx e => by omega)⟩
/-! ### Band's closure -/
def slow (st : Ad → Option Sp) (best : Int) (a : Ad) : Bool := decide (best + 400 < toP ((st a).getD zeroP))
theorem toP_bd (p : Sp) : 50 ≤ toP p ∧ toP p ≤ 12000 := by
  have h1 := wi_bd p.x0 1000000 (by decide)
  have h2 := wi_bd p.x1 1000000 (by decide)
  have h3 := wi_bd p.x2 10 (by decide)
  have h4 := pow_bd (wi p.x2 10) h3.2
  unfold toP tmR
  generalize wi p.x0 1000000 = a at *
  generalize wi p.x1 1000000 = b at *
  generalize (2 : Int) ^ (wi p.x2 10).toNat = q at *
  obtain ⟨x, hx⟩ : ∃ x : Int, (if (if a = 0 ∧ b = 0 then 376 else a + 4 * b) < 50 then 50 else if a = 0 ∧ b = 0 then 376 else a + 4 * b) = x := ⟨_, rfl⟩
  have hx50 : 50 ≤ x := by rw [← hx]; split <;> omega
  rw [hx]
  have : 50 ≤ x * q := by
    have := Int.mul_le_mul hx50 h4.1 (by decide) (by omega)
    simpa using this
  split
  · omega
  · omega
section
variable {w : World} {U : Nat → Prop} {xb most n : Nat} {st : Ad → Option Sp} {a : Ad}
set_option maxHeartbeats 1000000 in
theorem Band1_any (h : InfS w U xb most st n) (ha : a.ok) {p1 p2 : Nat} {best : Int} (h1 : w.cell? ⟨p1, 0, none⟩ = some (.pointer (some ⟨xb, 0, none⟩))) (h2 : w.cell? ⟨p2, 0, none⟩ = some (.int .i64 best)) (hb0 : 0 ≤ best) (hb1 : best ≤ 1000000) :
    Calls Try.prog 37 #[.agg #[.bool a.v6, .int .u64 a.hi, .int .u64 a.lo], .pointer (some ⟨p1, 0, none⟩), .pointer (some ⟨p2, 0, none⟩)] w fun e w' => e = .returned (.bool (slow st best a)) ∧ Below w.heap.size w w' := by
  obtain ⟨w1, hw1⟩ : ∃ w1, w.alloc (.cells #[.bool a.v6, .int .u64 a.hi, .int .u64 a.lo] 31) = w1 := ⟨_, rfl⟩
  have hbw : Below w.heap.size w w1 := by rw [← hw1]; exact (Below.refl _ w).alloc (Nat.le_refl _) _
  have hTo := Lib.hid (Timeout_I (h.below hbw).drew ha)
  obtain ⟨k0, k1, k2⟩ := (cellsNew w a.cs 31 hw1).1.three
  simp only [Nat.zero_add] at k1 k2
  have c1 := (hbw.cell (p := ⟨p1, 0, none⟩) (World.block_lt_of_cell? w _ h1)).trans h1
  have c2 := (hbw.cell (p := ⟨p2, 0, none⟩) (World.block_lt_of_cell? w _ h2)).trans h2
  unfold slow
  have hbd := toP_bd ((st a).getD zeroP)
  obtain ⟨t, ht⟩ : ∃ t, toP ((st a).getD zeroP) = t := ⟨_, rfl⟩
  rw [ht] at hTo hbd ⊢
  unfold Ad.val at hTo
  have hw1H := Lib.hid hw1
  have hbwH := Lib.hid hbw
  have hwb := wr (show -9223372036854775808 ≤ best + 400 by omega) (by omega)
  clear h ha h1 h2 ht hbw hw1
  by_cases hlt : best + 400 < t
  · have hd : Hid (decide (best + 400 < t) = true) := Lib.hid (decide_eq_true hlt)
    go_enter Try.func37, Try.ntmps37
    go_upto_region 1 with (fail)
    rw [hw1H.out]
    refine Rt.wp_region_ord [1, 1, 2, 1, 0, 0, 0] [0, 1, 3, 4, 2, 5, 6] (by kernel_rfl) (by kernel_rfl) ?_
    apply ord_read rfl rfl rfl; (· (intro W hW; have g0 := cell_up hW c1; have g1 := cell_up hW c2; have g2 := cell_up hW k0; have g3 := cell_up hW k1; have g4 := cell_up hW k2; go_simp; with_reducible rfl)); (· (simp only [Act.put, Act.eval, List.setIfInBounds_toArray, List.set_cons_zero, List.set_cons_succ, Array.getD_eq_getD_getElem?, List.getElem?_toArray, List.getElem?_cons_zero, List.getElem?_cons_succ, Option.getD_some, List.getElem_toArray, List.getElem_cons_succ, List.getElem_cons_zero]; with_reducible rfl))
    apply ord_read rfl rfl rfl; (· (intro W hW; have g0 := cell_up hW c1; have g1 := cell_up hW c2; have g2 := cell_up hW k0; have g3 := cell_up hW k1; have g4 := cell_up hW k2; go_simp; with_reducible rfl)); (· (simp only [Act.put, Act.eval, List.setIfInBounds_toArray, List.set_cons_zero, List.set_cons_succ, Array.getD_eq_getD_getElem?, List.getElem?_toArray, List.getElem?_cons_zero, List.getElem?_cons_succ, Option.getD_some, List.getElem_toArray, List.getElem_cons_succ, List.getElem_cons_zero]; with_reducible rfl))
    apply ord_read rfl rfl rfl; (· (intro W hW; have g0 := cell_up hW c1; have g1 := cell_up hW c2; have g2 := cell_up hW k0; have g3 := cell_up hW k1; have g4 := cell_up hW k2; go_simp; with_reducible rfl)); (· (simp only [Act.put, Act.eval, List.setIfInBounds_toArray, List.set_cons_zero, List.set_cons_succ, Array.getD_eq_getD_getElem?, List.getElem?_toArray, List.getElem?_cons_zero, List.getElem?_cons_succ, Option.getD_some, List.getElem_toArray, List.getElem_cons_succ, List.getElem_cons_zero]; with_reducible rfl))
    apply ord_pure rfl rfl rfl; (· (intro w; go_simp; with_reducible rfl)); (· (simp only [Act.put, Act.eval, List.setIfInBounds_toArray, List.set_cons_zero, List.set_cons_succ, Array.getD_eq_getD_getElem?, List.getElem?_toArray, List.getElem?_cons_zero, List.getElem?_cons_succ, Option.getD_some, List.getElem_toArray, List.getElem_cons_succ, List.getElem_cons_zero]; with_reducible rfl))
    refine ord_call rfl rfl rfl (by go_simp; first | exact ⟨rfl, rfl⟩ | exact ⟨⟨rfl, rfl⟩, rfl⟩ | (refine ⟨?_, ?_⟩; rfl; rfl)) ?_
    refine hTo.out.mono ?_
    rintro e w2 ⟨rfl, hb2⟩
    refine ⟨_, rfl, hb2, ?_⟩
    simp only [Act.put, Act.eval, List.setIfInBounds_toArray, List.set_cons_zero, List.set_cons_succ, Array.getD_eq_getD_getElem?, List.getElem?_toArray, List.getElem?_cons_zero, List.getElem?_cons_succ, Option.getD_some, List.getElem_toArray, List.getElem_cons_succ, List.getElem_cons_zero]
    apply ord_pure rfl rfl rfl; (· (intro w; go_simp; with_reducible rfl)); (· (simp only [Act.put, Act.eval, List.setIfInBounds_toArray, List.set_cons_zero, List.set_cons_succ, Array.getD_eq_getD_getElem?, List.getElem?_toArray, List.getElem?_cons_zero, List.getElem?_cons_succ, Option.getD_some, List.getElem_toArray, List.getElem_cons_succ, List.getElem_cons_zero]; with_reducible rfl))
    apply ord_pure rfl rfl rfl; (· (intro w; go_simp; with_reducible rfl)); (· (simp only [Act.put, Act.eval, List.setIfInBounds_toArray, List.set_cons_zero, List.set_cons_succ, Array.getD_eq_getD_getElem?, List.getElem?_toArray, List.getElem?_cons_zero, List.getElem?_cons_succ, Option.getD_some, List.getElem_toArray, List.getElem_cons_succ, List.getElem_cons_zero]; with_reducible rfl))
    with_reducible refine ord_nil ?_
    go_wp2
    go_ret
    exact ⟨by rw [hd.out]; first | rfl | simp [hlt], hbwH.out.drew.trans (hb2.mono (by have := hbwH.out.size; exact this))⟩
  · have hd : Hid (decide (best + 400 < t) = false) := Lib.hid (decide_eq_false hlt)
    go_enter Try.func37, Try.ntmps37
    go_upto_region 1 with (fail)
    rw [hw1H.out]
    refine Rt.wp_region_ord [1, 1, 2, 1, 0, 0, 0] [0, 1, 3, 4, 2, 5, 6] (by kernel_rfl) (by kernel_rfl) ?_
    apply ord_read rfl rfl rfl; (· (intro W hW; have g0 := cell_up hW c1; have g1 := cell_up hW c2; have g2 := cell_up hW k0; have g3 := cell_up hW k1; have g4 := cell_up hW k2; go_simp; with_reducible rfl)); (· (simp only [Act.put, Act.eval, List.setIfInBounds_toArray, List.set_cons_zero, List.set_cons_succ, Array.getD_eq_getD_getElem?, List.getElem?_toArray, List.getElem?_cons_zero, List.getElem?_cons_succ, Option.getD_some, List.getElem_toArray, List.getElem_cons_succ, List.getElem_cons_zero]; with_reducible rfl))
    apply ord_read rfl rfl rfl; (· (intro W hW; have g0 := cell_up hW c1; have g1 := cell_up hW c2; have g2 := cell_up hW k0; have g3 := cell_up hW k1; have g4 := cell_up hW k2; go_simp; with_reducible rfl)); (· (simp only [Act.put, Act.eval, List.setIfInBounds_toArray, List.set_cons_zero, List.set_cons_succ, Array.getD_eq_getD_getElem?, List.getElem?_toArray, List.getElem?_cons_zero, List.getElem?_cons_succ, Option.getD_some, List.getElem_toArray, List.getElem_cons_succ, List.getElem_cons_zero]; with_reducible rfl))
    apply ord_read rfl rfl rfl; (· (intro W hW; have g0 := cell_up hW c1; have g1 := cell_up hW c2; have g2 := cell_up hW k0; have g3 := cell_up hW k1; have g4 := cell_up hW k2; go_simp; with_reducible rfl)); (· (simp only [Act.put, Act.eval, List.setIfInBounds_toArray, List.set_cons_zero, List.set_cons_succ, Array.getD_eq_getD_getElem?, List.getElem?_toArray, List.getElem?_cons_zero, List.getElem?_cons_succ, Option.getD_some, List.getElem_toArray, List.getElem_cons_succ, List.getElem_cons_zero]; with_reducible rfl))
    apply ord_pure rfl rfl rfl; (· (intro w; go_simp; with_reducible rfl)); (· (simp only [Act.put, Act.eval, List.setIfInBounds_toArray, List.set_cons_zero, List.set_cons_succ, Array.getD_eq_getD_getElem?, List.getElem?_toArray, List.getElem?_cons_zero, List.getElem?_cons_succ, Option.getD_some, List.getElem_toArray, List.getElem_cons_succ, List.getElem_cons_zero]; with_reducible rfl))
    refine ord_call rfl rfl rfl (by go_simp; first | exact ⟨rfl, rfl⟩ | exact ⟨⟨rfl, rfl⟩, rfl⟩ | (refine ⟨?_, ?_⟩; rfl; rfl)) ?_
    refine hTo.out.mono ?_
    rintro e w2 ⟨rfl, hb2⟩
    refine ⟨_, rfl, hb2, ?_⟩
    simp only [Act.put, Act.eval, List.setIfInBounds_toArray, List.set_cons_zero, List.set_cons_succ, Array.getD_eq_getD_getElem?, List.getElem?_toArray, List.getElem?_cons_zero, List.getElem?_cons_succ, Option.getD_some, List.getElem_toArray, List.getElem_cons_succ, List.getElem_cons_zero]
    apply ord_pure rfl rfl rfl; (· (intro w; go_simp; with_reducible rfl)); (· (simp only [Act.put, Act.eval, List.setIfInBounds_toArray, List.set_cons_zero, List.set_cons_succ, Array.getD_eq_getD_getElem?, List.getElem?_toArray, List.getElem?_cons_zero, List.getElem?_cons_succ, Option.getD_some, List.getElem_toArray, List.getElem_cons_succ, List.getElem_cons_zero]; with_reducible rfl))
    apply ord_pure rfl rfl rfl; (· (intro w; go_simp; with_reducible rfl)); (· (simp only [Act.put, Act.eval, List.setIfInBounds_toArray, List.set_cons_zero, List.set_cons_succ, Array.getD_eq_getD_getElem?, List.getElem?_toArray, List.getElem?_cons_zero, List.getElem?_cons_succ, Option.getD_some, List.getElem_toArray, List.getElem_cons_succ, List.getElem_cons_zero]; with_reducible rfl))
    with_reducible refine ord_nil ?_
    go_wp2
    go_ret
    exact ⟨by rw [hd.out]; first | rfl | simp [hlt], hbwH.out.drew.trans (hb2.mono (by have := hbwH.out.size; exact this))⟩
end
end Go.Proofs.Yticijejnemnmlaa.If
