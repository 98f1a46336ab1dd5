/- Lame. -/
import Derived.Test.YticijejnemnmlaaInE
namespace Go.Proofs.Yticijejnemnmlaa.If
open Go.RowKit Rt
set_option linter.unusedSimpArgs false
set_option linter.unusedVariables false
def lmz (z : ByteArray) (now : Int) (p : Lm) : Bool := eqz z p && decide (now < p.2)
theorem pred2_any {w : World} {zb ub : Nat} {z : ByteArray} {now : Int} (hz : w.cell? ⟨zb, 0, none⟩ = some (.string z)) (hu : w.cell? ⟨ub, 0, none⟩ = some (.int .i64 now)) (p : Lm) :
    Calls Try.prog 40 #[.agg #[.string p.1, .int .i64 p.2], .pointer (some ⟨zb, 0, none⟩), .pointer (some ⟨ub, 0, none⟩)] w fun e w' => e = .returned (.bool (lmz z now p)) ∧ Below w.heap.size w w' := by
  obtain ⟨y, t⟩ := p
  have hz' := (Below.cell (Below.alloc (Below.refl w.heap.size w) (Nat.le_refl _) (.cells #[.string y, .int .i64 t] 72)) (p := ⟨zb, 0, none⟩) (World.block_lt_of_cell? w _ hz)).trans hz
  have hu' := (Below.cell (Below.alloc (Below.refl w.heap.size w) (Nat.le_refl _) (.cells #[.string y, .int .i64 t] 72)) (p := ⟨ub, 0, none⟩) (World.block_lt_of_cell? w _ hu)).trans hu
  by_cases h : y.toList = z.toList
  · by_cases hlt : now < t
    · have hE : lmz z now (y, t) = true := by simp [lmz, eqz, h, hlt]
      rw [hE]
      clear hE
      go_enter Try.func40, Try.ntmps40
      go_wp2
      go_ret
      exact ⟨by first | rfl | simp [h, hlt], (Below.refl _ _).alloc (Nat.le_refl _) _⟩
    · have hE : lmz z now (y, t) = false := by simp [lmz, eqz, h, hlt]
      rw [hE]
      clear hE
      go_enter Try.func40, Try.ntmps40
      go_wp2
      go_ret
      exact ⟨by first | rfl | simp [h, hlt], (Below.refl _ _).alloc (Nat.le_refl _) _⟩
  · have hE : lmz z now (y, t) = false := by simp [lmz, eqz, h]
    rw [hE]
    clear hE
    go_enter Try.func40, Try.ntmps40
    go_wp2
    go_ret
    exact ⟨by first | rfl | simp [h], (Below.refl _ _).alloc (Nat.le_refl _) _⟩
def idxP (f : Lm → Bool) (L : List Lm) : Int := match L.findIdx? f with | some i => (i : Int) | none => -1
theorem idxP_none {f : Lm → Bool} {L : List Lm} (h : ∀ i, i < L.length → f (gk L i) = false) : idxP f L = -1 := by
  unfold idxP
  rw [List.findIdx?_eq_none_iff.2 fun p hp => by obtain ⟨i, hi, rfl⟩ := List.getElem_of_mem hp; rw [← gk_eq hi]; exact h i hi]
theorem idxP_some {f : Lm → Bool} {L : List Lm} {k : Nat} (hk : k < L.length) (h : ∀ i, i < k → f (gk L i) = false) (hy : f (gk L k) = true) : idxP f L = k := by
  unfold idxP
  have : L.findIdx? f = some k := by
    rw [List.findIdx?_eq_some_iff_getElem]
    exact ⟨hk, by rw [← gk_eq hk]; exact hy, fun j hj => by rw [← gk_eq (by omega)]; simp [h j hj]⟩
  rw [this]
theorem idxP_any (f : Lm → Bool) (L : List Lm) : decide (0 ≤ idxP f L) = L.any f := by
  unfold idxP
  cases h : L.findIdx? f with
  | none =>
    have := List.findIdx?_eq_none_iff.1 h
    symm
    show L.any f = false
    rw [List.any_eq_false]
    intro x hx; simp [this x hx]
  | some k =>
    obtain ⟨hk, h1, h2⟩ := List.findIdx?_eq_some_iff_getElem.1 h
    have : L.any f = true := List.any_eq_true.2 ⟨_, List.getElem_mem hk, h1⟩
    rw [this]; simp
set_option maxHeartbeats 1000000 in
theorem Index2_any {w : World} {zb ub : Nat} {z : ByteArray} {now : Int} {a : Option Addr} {n c : Nat} {L : List Lm} (hz : w.cell? ⟨zb, 0, none⟩ = some (.string z)) (hu : w.cell? ⟨ub, 0, none⟩ = some (.int .i64 now)) (h : 0 < L.length → RowL w (.slice a n c) L) (hn : n = L.length) (hl : L.length < 1099511627776) :
    Calls Try.prog 49 #[.slice a n c, .func (.func 40) #[] #[.pointer (some ⟨zb, 0, none⟩), .pointer (some ⟨ub, 0, none⟩)]] w fun e w' => e = .returned (.int .i64 (idxP (lmz z now) L)) ∧ Below w.heap.size w w' := by
  have hR := Lib.hid h
  have hzH := Lib.hid hz
  have hnH := Lib.hid hn
  rw [← hn] at hl
  have huH := Lib.hid hu
  clear h hz hu hn
  go_enter Try.func49, Try.ntmps49
  go_wp2
  go_loopw [8] (fun v wr => ∃ j : Nat, j ≤ n ∧ v = .int .i64 j ∧ (∀ i, i < j → lmz z now (gk L i) = false) ∧ Below w.heap.size w wr)
    (fun v _ => n - (intOf v).toNat)
  case atStart => exact ⟨0, Nat.zero_le _, rfl, by simp, Below.refl _ _⟩
  case round =>
    obtain ⟨j, hj, rfl, hno, hb⟩ := hrel
    by_cases hlt : j < n
    · obtain ⟨b, rfl⟩ : ∃ b, a = some ⟨b, 0, none⟩ := by
        rcases hR.out (by have := hnH.out; omega) with ⟨h1, h2⟩ | ⟨b, c', h1, _⟩
        · have := hnH.out; rw [h2] at this; simp at this; omega
        · cases h1; exact ⟨b, rfl⟩
      obtain ⟨c0, c1⟩ := ((hR.out (by have := hnH.out; omega)).below hb).at j (by have := hnH.out; omega)
      have hzr := (hb.cell (p := ⟨zb, 0, none⟩) (World.block_lt_of_cell? w _ hzH.out)).trans hzH.out
      have hur := (hb.cell (p := ⟨ub, 0, none⟩) (World.block_lt_of_cell? w _ huH.out)).trans huH.out
      obtain ⟨p, hp⟩ : ∃ p, gk L j = p := ⟨_, rfl⟩
      rw [hp] at c0 c1
      have hpH := Lib.hid hp
      have hnoH := Lib.hid hno
      have hji : (j : Int) < n := by omega
      clear hp hno
      cases hE : lmz z now p with
      | true =>
        go_wp2_with (go_at_call 40; refine (pred2_any (w := wr) hzr hur p).mono ?_; rintro e w1 ⟨rfl, hb1⟩; rw [hE])
        go_ret
        exact ⟨by rw [idxP_some (k := j) (by have := hnH.out; omega) hnoH.out (by rw [hpH.out]; exact hE)]; rfl, hb.trans (hb1.mono hb.size)⟩
      | false =>
        go_wp2_with (go_at_call 40; refine (pred2_any (w := wr) hzr hur p).mono ?_; rintro e w1 ⟨rfl, hb1⟩; rw [hE])
        go_roundw
        case rel => exact ⟨j + 1, by omega, by go_num, fun i hi => by
                      by_cases e : i = j
                      · subst e; rw [hpH.out]; exact hE
                      · exact hnoH.out i (by omega), hb.trans (hb1.mono hb.size)⟩
        case measure => first | (simp [intOf]; done) | (simp [intOf]; omega)
    · obtain rfl : j = n := by omega
      have hI : Hid (idxP (lmz z now) L = -1) := Lib.hid (idxP_none (by rw [← hnH.out]; exact hno))
      clear hno
      go_wp2
      go_ret
      exact ⟨by rw [hI.out]; rfl, hb⟩

theorem Contains_any {w : World} {zb ub : Nat} {z : ByteArray} {now : Int} {a : Option Addr} {n c : Nat} {L : List Lm} (hz : w.cell? ⟨zb, 0, none⟩ = some (.string z)) (hu : w.cell? ⟨ub, 0, none⟩ = some (.int .i64 now)) (h : RowL w (.slice a n c) L) (hl : L.length ≤ 20) :
    Calls Try.prog 39 #[.slice a n c, .func (.func 40) #[] #[.pointer (some ⟨zb, 0, none⟩), .pointer (some ⟨ub, 0, none⟩)]] w fun e w' => e = .returned (.bool (L.any (lmz z now))) ∧ Below w.heap.size w w' := by
  have hn : n = L.length := by
    rcases h with ⟨h, rfl⟩ | ⟨b, c', h, _⟩
    · cases h; rfl
    · cases h; rfl
  have hI := Lib.hid (Index2_any hz hu (fun _ => h) hn (by omega))
  rw [← idxP_any]
  obtain ⟨x, hx⟩ : ∃ x, idxP (lmz z now) L = x := ⟨_, rfl⟩
  rw [hx] at hI ⊢
  clear h hn hx hz hu
  by_cases h0 : 0 ≤ x
  · have hd : Hid (decide (0 ≤ x) = true) := Lib.hid (decide_eq_true h0)
    go_enter Try.func39, Try.ntmps39
    go_wp2_with (go_at_call 49; refine hI.out.mono ?_; rintro e w1 ⟨rfl, hb1⟩)
    go_ret
    exact ⟨by first | rfl | (rw [hd.out]; first | rfl | simp [h0]), hb1⟩
  · have hd : Hid (decide (0 ≤ x) = false) := Lib.hid (decide_eq_false h0)
    go_enter Try.func39, Try.ntmps39
    go_wp2_with (go_at_call 49; refine hI.out.mono ?_; rintro e w1 ⟨rfl, hb1⟩)
    go_ret
    exact ⟨by first | rfl | (rw [hd.out]; first | rfl | simp [h0]), hb1⟩
/-! ### Lame -/
def lameB (z : ByteArray) (now : Int) (p : Sp) : Bool := isT now && (Nm.rightB z && p.lm.any (lmz (Nm.lowerW z) now))
section
variable {w : World} {U : Nat → Prop} {xb most n : Nat} {st : Ad → Option Sp} {a : Ad}
set_option maxHeartbeats 4000000 in
set_option maxRecDepth 100000 in
theorem Lame_I (h : InfS w U xb most st n) (ha : a.ok) (z : ByteArray) (hs : z.size ≤ 140737488351232) (now : Int) :
    Calls Try.prog 15 #[.pointer (some ⟨xb, 0, none⟩), a.val, .string z, .int .i64 now] w fun e w' => e = .returned (.bool (lameB z now ((st a).getD zeroP))) ∧ Below w.heap.size w w' := by
  have hB : Below w.heap.size w (((w.alloc (.cells #[.bool a.v6, .int .u64 a.hi, .int .u64 a.lo] 31)).alloc (.cells #[.string z] 9)).alloc (.cells #[.int .i64 now] 3)) := (((Below.refl _ w).alloc (Nat.le_refl _) _).alloc (by simp) _).alloc (by simp; omega) _
  have hT := Lib.hid (fun w => isTime_any w now)
  have hR := Lib.hid (fun w => Nm.Right_any z hs w)
  have hL := Lib.hid (fun w => Nm.Lower_any z hs w)
  have hu0 := (Boxed.new ((w.alloc (.cells #[.bool a.v6, .int .u64 a.hi, .int .u64 a.lo] 31)).alloc (.cells #[.string z] 9)) 3 (.int .i64 now)).cell
  rw [World.size_alloc, World.size_alloc] at hu0
  have hu0 := Lib.hid hu0
  have hz0 := (Boxed.new (w.alloc (.cells #[.bool a.v6, .int .u64 a.hi, .int .u64 a.lo] 31)) 9 (.string z)).alloc (.cells #[.int .i64 now] 3)
  rw [World.size_alloc] at hz0
  have hz0 := Lib.hid hz0
  obtain ⟨k0, k1, k2⟩ := (cellsNew w a.cs 31 rfl).1.three
  simp only [Nat.zero_add] at k1 k2
  have hA0 : Below (w.heap.size + 1) (w.alloc (.cells #[.bool a.v6, .int .u64 a.hi, .int .u64 a.lo] 31)) (((w.alloc (.cells #[.bool a.v6, .int .u64 a.hi, .int .u64 a.lo] 31)).alloc (.cells #[.string z] 9)).alloc (.cells #[.int .i64 now] 3)) := ((Below.refl _ _).alloc (by simp) _).alloc (by simp) _
  have p0 := Lib.hid ((hA0.cell (p := ⟨w.heap.size, 0, none⟩) (Nat.lt_succ_self _)).trans k0)
  have p1 := Lib.hid ((hA0.cell (p := ⟨w.heap.size, 1, none⟩) (Nat.lt_succ_self _)).trans k1)
  have p2 := Lib.hid ((hA0.cell (p := ⟨w.heap.size, 2, none⟩) (Nat.lt_succ_self _)).trans k2)
  clear k0 k1 k2 hA0
  obtain ⟨res, hres⟩ : ∃ r, lameB z now ((st a).getD zeroP) = r := ⟨_, rfl⟩
  rw [hres]
  unfold lameB at hres
  obtain ⟨zl, hzl⟩ : ∃ zl, Nm.lowerW z = zl := ⟨_, rfl⟩
  rw [hzl] at hL hres
  clear hzl
  cases ht : isT now with
  | false =>
    rw [ht] at hT hres
    have hr0 : res = false := hres.symm
    subst hr0
    clear h hres
    unfold Ad.val
    go_enter Try.func15, Try.ntmps15
    go_wp2_with (first | (go_at_call 28; refine (hR.out _).mono ?_; rintro e w1 ⟨rfl, hb1⟩) | (go_at_call 29; refine (hT.out _).mono ?_; rintro e w' ⟨rfl, rfl⟩))
    go_ret
    exact ⟨rfl, hB⟩
  | true =>
    rw [ht] at hT hres
    cases hr : Nm.rightB z with
    | false =>
      rw [hr] at hR hres
      have hr0 : res = false := hres.symm
      subst hr0
      clear h hres
      unfold Ad.val
      go_enter Try.func15, Try.ntmps15
      go_wp2_with (first | (go_at_call 28; refine (hR.out _).mono ?_; rintro e w1 ⟨rfl, hb1⟩) | (go_at_call 29; refine (hT.out _).mono ?_; rintro e w' ⟨rfl, rfl⟩))
      go_ret
      exact ⟨rfl, hB.trans (hb1.mono hB.size)⟩
    | true =>
      rw [hr] at hR hres
      simp only [Bool.true_and] at hres
      obtain ⟨tb, s, hx, hrel, hown, hlook⟩ := h.look ha
      have hlookH := Lib.hid hlook
      have hxH := Lib.hid hx
      obtain ⟨ok, hok⟩ : ∃ b, (st a).isSome = b := ⟨_, rfl⟩
      rw [hok] at hlookH
      obtain ⟨p, hp⟩ : ∃ p, (st a).getD zeroP = p := ⟨_, rfl⟩
      rw [hp] at hrel hres
      have hrelH := Lib.hid hrel
      have hresH := Lib.hid hres
      obtain ⟨ab, hab⟩ : ∃ x, w.heap.size = x := ⟨_, rfl⟩
      have habH := Lib.hid hab
      have hxl := World.block_lt_of_cell? w _ hx
      rw [hab] at hxl
      clear h ha hx hrel hown hlook hok hp hres hab
      unfold Ad.val
      go_enter Try.func15, Try.ntmps15
      go_upto_region 3 with (first | (go_at_call 28; refine (hR.out _).mono ?_; rintro e w1 ⟨rfl, hb1⟩) | (go_at_call 29; refine (hT.out _).mono ?_; rintro e w' ⟨rfl, rfl⟩))
      have hB1 := hB.trans (hb1.mono hB.size)
      have hz1 := Nm.boxed_below hz0.out hb1 (by simp)
      have hu1 := (hb1.cell (p := ⟨w.heap.size + 1 + 1, 0, none⟩) (by simp)).trans hu0.out
      have q0 := (hb1.cell (p := ⟨w.heap.size, 0, none⟩) (by simp; omega)).trans p0.out
      have q1 := (hb1.cell (p := ⟨w.heap.size, 1, none⟩) (by simp; omega)).trans p1.out
      have q2 := (hb1.cell (p := ⟨w.heap.size, 2, none⟩) (by simp; omega)).trans p2.out
      have cx := (hB1.cell (p := ⟨xb, 0, none⟩) (by show xb < w.heap.size; rw [habH.out]; exact hxl)).trans hxH.out
      have hs1 : ab + 3 ≤ w1.heap.size := by have := hb1.size; simp at this; rw [← habH.out]; omega
      have hLook := Lib.hid (hlookH.out w1.drew hB1.drew)
      have hL2 := Lib.hid (hlookH.out (w1.alloc (.cells #[.int .i64 0, .int .i64 0, .int .i64 0, .slice none 0 0, .int .i64 0] 59)).drew (hB1.alloc hB1.size _).drew)
      have hB1H := Lib.hid hB1
      rw [habH.out] at q0 q1 q2 hz1 hu1 ⊢
      have hz1H := Lib.hid hz1
      have hu1H := Lib.hid hu1
      clear hB1 hz1 hu1 hb1
      have hz0 := Lib.hid (World.alloc_heap_new w1 (.cells #[.int .i64 0, .int .i64 0, .int .i64 0, .slice none 0 0, .int .i64 0] 59))
      go_cut [9, 10] from 19 to 27 (fun p q wx => ∃ kb, p = .pointer (some ⟨kb, 0, none⟩) ∧ q = .bool ok ∧ (ab + 3) ≤ kb ∧ Box5 wx kb s ∧ Below (ab + 3) w1 wx)
      case first =>
        refine Rt.wp_region_split [0, 0, 0, 1, 1, 2, 0, 0, 0, 2, 3, 0] [0, 1, 2, 3, 4] [5, 6, 7, 8, 9, 10, 11] [9, 5, 6, 7, 8, 10, 11] (by kernel_rfl) (by kernel_rfl) ?_
        apply ord_move rfl rfl rfl rfl; (· (simp only [Act.put, Act.eval, List.setIfInBounds_toArray, List.set_cons_zero, List.set_cons_succ, Array.getD_eq_getD_getElem?, List.getElem?_toArray, List.getElem?_cons_zero, List.getElem?_cons_succ, Option.getD_some, List.getElem_toArray, List.getElem_cons_succ, List.getElem_cons_zero]; with_reducible rfl))
        apply ord_pure rfl rfl rfl; (· (intro w; go_simp; with_reducible rfl)); (· (simp only [Act.put, Act.eval, List.setIfInBounds_toArray, List.set_cons_zero, List.set_cons_succ, Array.getD_eq_getD_getElem?, List.getElem?_toArray, List.getElem?_cons_zero, List.getElem?_cons_succ, Option.getD_some, List.getElem_toArray, List.getElem_cons_succ, List.getElem_cons_zero]; with_reducible rfl))
        apply ord_pure rfl rfl rfl; (· (intro w; go_simp; with_reducible rfl)); (· (simp only [Act.put, Act.eval, List.setIfInBounds_toArray, List.set_cons_zero, List.set_cons_succ, Array.getD_eq_getD_getElem?, List.getElem?_toArray, List.getElem?_cons_zero, List.getElem?_cons_succ, Option.getD_some, List.getElem_toArray, List.getElem_cons_succ, List.getElem_cons_zero]; with_reducible rfl))
        apply ord_read rfl rfl rfl; (· (intro W hW; have g0 := cell_up hW cx; have g1 := cell_up hW q0; have g2 := cell_up hW q1; have g3 := cell_up hW q2; go_simp; with_reducible rfl)); (· (simp only [Act.put, Act.eval, List.setIfInBounds_toArray, List.set_cons_zero, List.set_cons_succ, Array.getD_eq_getD_getElem?, List.getElem?_toArray, List.getElem?_cons_zero, List.getElem?_cons_succ, Option.getD_some, List.getElem_toArray, List.getElem_cons_succ, List.getElem_cons_zero]; with_reducible rfl))
        apply ord_read rfl rfl rfl; (· (intro W hW; have g0 := cell_up hW cx; have g1 := cell_up hW q0; have g2 := cell_up hW q1; have g3 := cell_up hW q2; go_simp; with_reducible rfl)); (· (simp only [Act.put, Act.eval, List.setIfInBounds_toArray, List.set_cons_zero, List.set_cons_succ, Array.getD_eq_getD_getElem?, List.getElem?_toArray, List.getElem?_cons_zero, List.getElem?_cons_succ, Option.getD_some, List.getElem_toArray, List.getElem_cons_succ, List.getElem_cons_zero]; with_reducible rfl))
        with_reducible refine ord_nil ?_
        refine ⟨?_, ?_⟩
        · skip
          refine ord_call rfl rfl rfl (by go_simp; first | exact ⟨rfl, rfl⟩ | exact ⟨⟨rfl, rfl⟩, rfl⟩ | (refine ⟨?_, ?_⟩; rfl; rfl)) ?_
          refine hLook.out.mono ?_
          rintro e w2 ⟨rfl, hb2⟩
          refine ⟨_, rfl, hb2, ?_⟩
          simp only [Act.put, Act.eval, List.setIfInBounds_toArray, List.set_cons_zero, List.set_cons_succ, Array.getD_eq_getD_getElem?, List.getElem?_toArray, List.getElem?_cons_zero, List.getElem?_cons_succ, Option.getD_some, List.getElem_toArray, List.getElem_cons_succ, List.getElem_cons_zero]
          apply ord_move rfl rfl rfl rfl; (· (simp only [Act.put, Act.eval, List.setIfInBounds_toArray, List.set_cons_zero, List.set_cons_succ, Array.getD_eq_getD_getElem?, List.getElem?_toArray, List.getElem?_cons_zero, List.getElem?_cons_succ, Option.getD_some, List.getElem_toArray, List.getElem_cons_succ, List.getElem_cons_zero]; with_reducible rfl))
          apply ord_pure rfl rfl rfl; (· (intro w; go_simp; with_reducible rfl)); (· (simp only [Act.put, Act.eval, List.setIfInBounds_toArray, List.set_cons_zero, List.set_cons_succ, Array.getD_eq_getD_getElem?, List.getElem?_toArray, List.getElem?_cons_zero, List.getElem?_cons_succ, Option.getD_some, List.getElem_toArray, List.getElem_cons_succ, List.getElem_cons_zero]; with_reducible rfl))
          apply ord_pure rfl rfl rfl; (· (intro w; go_simp; with_reducible rfl)); (· (simp only [Act.put, Act.eval, List.setIfInBounds_toArray, List.set_cons_zero, List.set_cons_succ, Array.getD_eq_getD_getElem?, List.getElem?_toArray, List.getElem?_cons_zero, List.getElem?_cons_succ, Option.getD_some, List.getElem_toArray, List.getElem_cons_succ, List.getElem_cons_zero]; with_reducible rfl))
          apply ord_new rfl rfl rfl; (· (go_simp; exact ⟨rfl, rfl⟩)); (· (exact (Below.refl _ _).alloc (Nat.le_refl _) _)); (· (simp only [Act.put, Act.eval, List.setIfInBounds_toArray, List.set_cons_zero, List.set_cons_succ, Array.getD_eq_getD_getElem?, List.getElem?_toArray, List.getElem?_cons_zero, List.getElem?_cons_succ, Option.getD_some, List.getElem_toArray, List.getElem_cons_succ, List.getElem_cons_zero]; with_reducible rfl))
          apply ord_do rfl rfl rfl; (· (go_simp; with_reducible rfl)); (· (simp only [Act.put, Act.eval, List.setIfInBounds_toArray, List.set_cons_zero, List.set_cons_succ, Array.getD_eq_getD_getElem?, List.getElem?_toArray, List.getElem?_cons_zero, List.getElem?_cons_succ, Option.getD_some, List.getElem_toArray, List.getElem_cons_succ, List.getElem_cons_zero]; with_reducible rfl))
          apply ord_pure rfl rfl rfl; (· (intro w; go_simp; with_reducible rfl)); (· (simp only [Act.put, Act.eval, List.setIfInBounds_toArray, List.set_cons_zero, List.set_cons_succ, Array.getD_eq_getD_getElem?, List.getElem?_toArray, List.getElem?_cons_zero, List.getElem?_cons_succ, Option.getD_some, List.getElem_toArray, List.getElem_cons_succ, List.getElem_cons_zero]; with_reducible rfl))
          with_reducible refine ord_nil ?_
          go_wp2_with fail
          go_meet
          case rel => exact ⟨_, rfl, rfl, by have := hb2.size; have h9 : w1.heap.size ≤ w2.heap.size := this; omega, box5_new w2 s, ((Below.refl _ w1).drew.trans (hb2.mono (by show _ ≤ w1.heap.size; omega))).alloc (by have := hb2.size; have h9 : w1.heap.size ≤ w2.heap.size := this; omega) _⟩
        · skip
          apply ord_new rfl rfl rfl; (· (go_simp; exact ⟨rfl, rfl⟩)); (· (exact (Below.refl _ _).alloc (Nat.le_refl _) _)); (· (simp only [Act.put, Act.eval, List.setIfInBounds_toArray, List.set_cons_zero, List.set_cons_succ, Array.getD_eq_getD_getElem?, List.getElem?_toArray, List.getElem?_cons_zero, List.getElem?_cons_succ, Option.getD_some, List.getElem_toArray, List.getElem_cons_succ, List.getElem_cons_zero]; with_reducible rfl))
          refine ord_call rfl rfl rfl (by go_simp; first | exact ⟨rfl, rfl⟩ | exact ⟨⟨rfl, rfl⟩, rfl⟩ | (refine ⟨?_, ?_⟩; rfl; rfl)) ?_
          refine hL2.out.mono ?_
          rintro e w2 ⟨rfl, hb2⟩
          refine ⟨_, rfl, hb2, ?_⟩
          have hz1 := (hb2.block w1.heap.size (by simp)).trans hz0.out
          have z0 : w2.cell? ⟨w1.heap.size, 0, none⟩ = some (.int .i64 0) := by { unfold World.cell?; simp only [hz1]; rfl }
          have z1 : w2.cell? ⟨w1.heap.size, 1, none⟩ = some (.int .i64 0) := by { unfold World.cell?; simp only [hz1]; rfl }
          have z2 : w2.cell? ⟨w1.heap.size, 2, none⟩ = some (.int .i64 0) := by { unfold World.cell?; simp only [hz1]; rfl }
          have z3 : w2.cell? ⟨w1.heap.size, 3, none⟩ = some (.slice none 0 0) := by { unfold World.cell?; simp only [hz1]; rfl }
          have z4 : w2.cell? ⟨w1.heap.size, 4, none⟩ = some (.int .i64 0) := by { unfold World.cell?; simp only [hz1]; rfl }
          have y : ∀ j, w2.frozen? ⟨w1.heap.size, j, none⟩ = false := fun j => by { unfold World.frozen?; simp only [hz1]; simp }
          have hz1H := Lib.hid hz1
          clear hz1
          simp only [Act.put, Act.eval, List.setIfInBounds_toArray, List.set_cons_zero, List.set_cons_succ, Array.getD_eq_getD_getElem?, List.getElem?_toArray, List.getElem?_cons_zero, List.getElem?_cons_succ, Option.getD_some, List.getElem_toArray, List.getElem_cons_succ, List.getElem_cons_zero]
          apply ord_move rfl rfl rfl rfl; (· (simp only [Act.put, Act.eval, List.setIfInBounds_toArray, List.set_cons_zero, List.set_cons_succ, Array.getD_eq_getD_getElem?, List.getElem?_toArray, List.getElem?_cons_zero, List.getElem?_cons_succ, Option.getD_some, List.getElem_toArray, List.getElem_cons_succ, List.getElem_cons_zero]; with_reducible rfl))
          apply ord_pure rfl rfl rfl; (· (intro w; go_simp; with_reducible rfl)); (· (simp only [Act.put, Act.eval, List.setIfInBounds_toArray, List.set_cons_zero, List.set_cons_succ, Array.getD_eq_getD_getElem?, List.getElem?_toArray, List.getElem?_cons_zero, List.getElem?_cons_succ, Option.getD_some, List.getElem_toArray, List.getElem_cons_succ, List.getElem_cons_zero]; with_reducible rfl))
          apply ord_pure rfl rfl rfl; (· (intro w; go_simp; with_reducible rfl)); (· (simp only [Act.put, Act.eval, List.setIfInBounds_toArray, List.set_cons_zero, List.set_cons_succ, Array.getD_eq_getD_getElem?, List.getElem?_toArray, List.getElem?_cons_zero, List.getElem?_cons_succ, Option.getD_some, List.getElem_toArray, List.getElem_cons_succ, List.getElem_cons_zero]; with_reducible rfl))
          apply ord_do rfl rfl rfl; (· (go_simp; with_reducible rfl)); (· (simp only [Act.put, Act.eval, List.setIfInBounds_toArray, List.set_cons_zero, List.set_cons_succ, Array.getD_eq_getD_getElem?, List.getElem?_toArray, List.getElem?_cons_zero, List.getElem?_cons_succ, Option.getD_some, List.getElem_toArray, List.getElem_cons_succ, List.getElem_cons_zero]; with_reducible rfl))
          apply ord_pure rfl rfl rfl; (· (intro w; go_simp; with_reducible rfl)); (· (simp only [Act.put, Act.eval, List.setIfInBounds_toArray, List.set_cons_zero, List.set_cons_succ, Array.getD_eq_getD_getElem?, List.getElem?_toArray, List.getElem?_cons_zero, List.getElem?_cons_succ, Option.getD_some, List.getElem_toArray, List.getElem_cons_succ, List.getElem_cons_zero]; with_reducible rfl))
          with_reducible refine ord_nil ?_
          go_wp2_with fail
          go_meet
          case rel => exact ⟨_, rfl, rfl, by omega, box5_put s hz1H.out, below_put s ((((Below.refl _ w1).alloc (by omega) _).drew).trans (hb2.mono (by show _ ≤ (w1.alloc _).heap.size; rw [World.size_alloc]; omega))) (by omega)⟩
      case rest =>
        obtain ⟨kb, rfl, rfl, hkge, hBx, hbAW1⟩ := hcut
        have hzW := Nm.boxed_below hz1H.out hbAW1 (by omega)
        have huW := (hbAW1.cell (p := ⟨ab + 1 + 1, 0, none⟩) (by show ab + 1 + 1 < ab + 3; omega)).trans hu1H.out
        have hzc := hzW.cell
        have hbW : Below w.heap.size w wc := hB1H.out.trans (hbAW1.mono (by rw [habH.out]; omega))
        go_wp2_with (first
          | (go_at_call 30; refine (hL.out _).mono ?_; rintro e w2 ⟨rfl, hb2⟩
             have hz2 := Nm.boxed_below hzW hb2 hzW.lt
             have hz2c := hz2.cell
             have hz2f := hz2.frozen
             have hBx2 := hBx.below hb2
             obtain ⟨d0, d1, d2, d3, d4⟩ := hBx2.cells
             have hnk : ¬ kb = ab + 1 := by omega
             have hnk2 : ¬ ab + 1 = kb := by omega
             have hz3 := hz2.set (.string zl)
             have hu2 := (hb2.cell (p := ⟨ab + 1 + 1, 0, none⟩) (World.block_lt_of_cell? _ _ huW)).trans huW
             have hu3 := (World.cell?_setCell_other w2 ⟨ab + 1, 0, none⟩ ⟨ab + 1 + 1, 0, none⟩ (.string zl) (by simp)).trans hu2
             have hbF : Below w.heap.size w (w2.setCell ⟨ab + 1, 0, none⟩ (.string zl)) := (hbW.trans (hb2.mono hbW.size)).setCell (p := ⟨ab + 1, 0, none⟩) (by show w.heap.size ≤ ab + 1; rw [habH.out]; omega) _
             have hrow := (hrelH.out.below hbF).row
             have hC := Lib.hid (Contains_any hz3.cell hu3 hrow hrelH.out.len)
             rw [hresH.out] at hC
             have hbFH := Lib.hid hbF
             clear hz2 hz3 hu2 hu3 hbF hrow hb2)
          | (go_at_call 39; refine hC.out.mono ?_; rintro e w4 ⟨rfl, hb4⟩))
        go_ret
        exact ⟨rfl, hbFH.out.trans (hb4.mono hbFH.out.size)⟩
end
end Go.Proofs.Yticijejnemnmlaa.If
