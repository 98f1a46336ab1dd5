/- TablePlays walked. -/
import Derived.Test.YtmgapdbfaoflmaaTbJ
namespace Go.Proofs.Ytmgapdbfaoflmaa.Tb
open Go.RowKit Go.Shelf Rt Tm
set_option linter.unusedSimpArgs false
set_option linter.unusedVariables false
/-- Both tables, apart from each other and from what is old. -/
structure BT (w wr : World) (T : Nat → Prop) (tb bm p most : Nat) (u : Value) (l lr : List KV) : Prop where
  tab : TabS wr T tb bm most l
  ref : RefK wr p (most : Int) u lr
  own : ∀ x, T x → w.heap.size ≤ x ∧ x ≠ p ∧ (0 < lr.length → u.ownBlock ≠ some x)
  pb : w.heap.size ≤ p
  below : Below w.heap.size w wr
section
variable {w wr w' : World} {T : Nat → Prop} {tb bm p most : Nat} {u u' : Value} {l l' lr lr' : List KV}
theorem BT.later (h : BT w wr T tb bm p most u l lr) (hb : Below wr.heap.size wr w') : BT w w' T tb bm p most u l lr :=
  ⟨h.tab.below hb, h.ref.below hb, h.own, h.pb, h.below.trans (hb.mono h.below.size)⟩
theorem BT.table (h : BT w wr T tb bm p most u l lr) (hs : ∃ T', TabS w' T' tb bm most l' ∧ Later T T' wr w' ∧ Kept T wr w') : ∃ T', BT w w' T' tb bm p most u l' lr := by
  obtain ⟨T', k1, k2, k3⟩ := hs
  have hp := h.ref.lt
  refine ⟨T', k1, h.ref.keep2 (k3.block p hp (fun e => (h.own p e).2.1 rfl)) (fun h0 g hg => k3.block g (h.ref.own_lt h0 hg) (fun e => (h.own g e).2.2 h0 hg)) k3.size, fun x hx => ?_, h.pb, h.below.trans (k3.below h.below.size (fun x hx e => by have := (h.own x e).1; omega))⟩
  rcases k2 x hx with e | e
  · exact h.own x e
  · have := h.below.size
    exact ⟨by omega, by omega, fun h0 e2 => by have := h.ref.own_lt h0 e2; omega⟩
theorem BT.other (h : BT w wr T tb bm p most u l lr) (hr : RefK w' p (most : Int) u' lr') (hv : u' = u ∨ ∀ g, u'.ownBlock = some g → wr.heap.size ≤ g) (hk : Kept (fun y => y = p) wr w') : BT w w' T tb bm p most u' l lr' := by
  have hpb := h.pb
  refine ⟨h.tab.kept hk (fun x hx e => (h.own x hx).2.1 e), hr, fun x hx => ⟨(h.own x hx).1, (h.own x hx).2.1, fun h0 e => ?_⟩, h.pb, h.below.trans (hk.below h.below.size (fun x hx e => by omega))⟩
  rcases hv with rfl | hv
  · obtain ⟨a, c, e1, _⟩ := h.ref.row
    obtain ⟨a', c', e2, _⟩ := hr.row
    rw [e1] at e2
    injection e2 with _ e3 _
    exact (h.own x hx).2.2 (by omega) e
  · have := hv x e; have := h.tab.slt x hx; omega
theorem TabS.dist (h : TabS wr T tb bm most l) : DistK l := by
  obtain ⟨L, rfl, h2, _⟩ := h.ex
  unfold DistK
  rw [List.pairwise_map, List.pairwise_iff_getElem]
  intro i j hi hj hij
  have hAB : L = L.take i ++ L[i] :: L.drop (i + 1) := by rw [← List.drop_eq_getElem_cons hi, List.take_append_drop]
  obtain ⟨q, hq⟩ : ∃ q, L[i] = q := ⟨_, rfl⟩
  have hjm : L[j] ∈ L.drop (i + 1) := List.mem_drop_iff_getElem.2 ⟨j - (i + 1), by omega, by congr 1; omega⟩
  rw [hq] at hAB ⊢
  rw [hAB] at h2
  obtain ⟨f, _, _, _, hno⟩ := h2.find
  exact Ne.symm (hno _ (List.mem_append_right _ hjm))
end
/-- Deeds that lie in a row. -/
def RowDK (w : World) (a : Option Addr) (n : Nat) : Prop := ∀ j, j < n → ∃ b off x y z, a = some ⟨b, off, none⟩ ∧ wf x ∧ y.size ≤ maxLen ∧ wf z ∧ ∀ w', Below w.heap.size w w' → w'.cell? ⟨b, off + j * 3, none⟩ = some (.int .i64 x) ∧ w'.cell? ⟨b, off + j * 3 + 1, none⟩ = some (.string y) ∧ w'.cell? ⟨b, off + j * 3 + 2, none⟩ = some (.int .i64 z)
theorem plays_new {w w1 w2 : World} {T : Nat → Prop} {tb bm most : Nat} (hb1 : Below w.heap.size w w1) (hT : TabS w2 T tb bm most []) (hT2 : ∀ x, T x → w1.heap.size ≤ x) (hb2 : Below w1.heap.size w1 w2) {W : World} (hW : w2.alloc (.cells #[.int .i64 (most : Int), .slice none 0 0] 39) = W) :
    BT w W T tb bm w2.heap.size most (.slice none 0 0) [] [] := by
  have hb3 : Below w2.heap.size w2 W := by rw [← hW]; exact (Below.refl _ _).alloc (Nat.le_refl _) _
  have hs1 := hb1.size
  have hs2 := hb2.size
  refine ⟨hT.below hb3, ⟨by rw [← hW]; exact Array.getElem?_push_size, ⟨none, 0, rfl, by simp, by simp, by simp, by simp⟩, by simp [Value.ownBlock]⟩, fun x hx => ⟨by have := hT2 x hx; omega, by have := hT.slt x hx; omega, by simp⟩, by omega, (hb1.trans (hb2.mono hs1)).trans (hb3.mono (by omega))⟩
theorem mid_deed {w wr W4 : World} {T : Nat → Prop} {tb bm p most : Nat} {u : Value} {l lr : List KV} {x z : Int} {y : ByteArray} (h : BT w wr T tb bm p most u l lr) (hW : wr.alloc (.cells #[.int .i64 x, .string y, .int .i64 z] 41) = W4) :
    BT w W4 T tb bm p most u l lr ∧ W4.heap[wr.heap.size]? = some (.cells #[.int .i64 x, .string y, .int .i64 z] 41 (0, 0)) ∧ ¬ T wr.heap.size ∧ wr.heap.size ≠ p := by
  subst hW
  exact ⟨h.later ((Below.refl _ _).alloc (Nat.le_refl _) _), Array.getElem?_push_size, fun e => by have := h.tab.slt _ e; omega, by have := h.ref.lt; omega⟩
set_option maxRecDepth 100000 in
set_option maxHeartbeats 8000000 in
theorem TablePlays_any {w : World} {m0 : Int} (hm0 : wf m0) {a : Option Addr} {n c : Nat} (hnc : n ≤ c) (hcm : c ≤ maxLen) (hD : RowDK w a n) :
    Calls Try.prog 4 #[.int .i64 m0, .slice a n c] w fun e w' => e = .returned (.bool true) ∧ Below w.heap.size w w' := by
  have hcm' : (c : Int) ≤ 9223372036854775807 := by unfold maxLen at hcm; omega
  have hDH := Lib.hid hD
  clear hD
  by_cases hlo : m0 < 1
  · go_enter Try.func4, Try.ntmps4
    go_wp2_with fail
    refine (examples_any w).mono ?_
    rintro e w1 ⟨rfl, hb1⟩
    go_wp2_with fail
    refine (New_bad w1 m0 (.inl hlo)).mono ?_
    rintro e w2 ⟨rfl, rfl⟩
    go_wp2
    go_ret
    exact ⟨rfl, hb1⟩
  by_cases hhi : 100000 < m0
  · go_enter Try.func4, Try.ntmps4
    go_wp2_with fail
    refine (examples_any w).mono ?_
    rintro e w1 ⟨rfl, hb1⟩
    go_wp2_with fail
    refine (New_bad w1 m0 (.inr hhi)).mono ?_
    rintro e w2 ⟨rfl, rfl⟩
    go_wp2
    go_ret
    exact ⟨rfl, hb1⟩
  obtain ⟨most, hmost⟩ : ∃ most : Nat, m0 = (most : Int) := ⟨m0.toNat, by omega⟩
  subst hmost
  have hm1 : 1 ≤ most := by omega
  have hm2 : most ≤ 100000 := by omega
  go_enter Try.func4, Try.ntmps4
  go_wp2_with fail
  refine (examples_any w).mono ?_
  rintro e w1 ⟨rfl, hb1⟩
  go_wp2_with fail
  refine (New_S w1 most hm1 hm2).mono ?_
  rintro e w2 ⟨tb, bm, T, rfl, hT2, hS2, hb2⟩
  obtain ⟨W3, hW3⟩ : ∃ W, w2.alloc (.cells #[.int .i64 (most : Int), .slice none 0 0] 39) = W := ⟨_, rfl⟩
  have hB3 := plays_new hb1 hT2 hS2 hb2 hW3
  obtain ⟨p, hp⟩ : ∃ t, w2.heap.size = t := ⟨_, rfl⟩
  rw [hp] at hB3
  have hpH := Lib.hid hp
  have hW3H := Lib.hid hW3
  have hB3H := Lib.hid hB3
  clear hb1 hT2 hS2 hb2 hp hW3 hB3 hm0
  go_wp2
  rw [hpH.out, hW3H.out]
  go_loopw [9] (fun i wr => ∃ (k : Nat) (T : Nat → Prop) (u : Value) (l : List KV), i = .int .i64 k ∧ k ≤ n ∧ Hid (BT w wr T tb bm p most u l l)) (fun i _ => n - (intOf i).toNat)
  case atStart => exact ⟨0, T, _, [], rfl, Nat.zero_le _, hB3H⟩
  case round =>
    clear hB3H hpH hW3H
    obtain ⟨k, T, u, l, rfl, hk, hI⟩ := hrel
    by_cases hkn : k < n
    · have hkn' : (k : Int) < n := by omega
      by_cases hk200 : k < 200
      · have hk200' : (k : Int) < 200 := by omega
        obtain ⟨b, off, x, y, z, hba, hwx, hyz, hwz, hc⟩ := hDH.out k hkn
        obtain ⟨q0, q1, q2⟩ := hc wr hI.out.below
        subst hba
        have hpk := fun w => pick_any x 5 w hwx (by omega) (by omega)
        have hpb := pk_bd x 5 (by omega)
        obtain ⟨kd, hkd⟩ : ∃ t, pk x 5 = t := ⟨_, rfl⟩
        rw [hkd] at hpk hpb
        have hpkH := Lib.hid hpk
        have hmd := Lib.hid (fun W4 hW => mid_deed (x := x) (y := y) (z := z) (W4 := W4) hI.out hW)
        clear hc hpk hkd hI
        go_wp2_with fail
        refine (hpkH.out _).mono ?_
        rintro e w4 ⟨rfl, rfl⟩
        obtain ⟨W4, hW4⟩ : ∃ W, wr.alloc (.cells #[.int .i64 x, .string y, .int .i64 z] 41) = W := ⟨_, rfl⟩
        obtain ⟨hI4, hd4, hdT, hdp⟩ := hmd.out W4 hW4
        rw [hW4]
        obtain ⟨db, hdb⟩ : ∃ t, wr.heap.size = t := ⟨_, rfl⟩
        rw [hdb] at hd4 hdT hdp ⊢
        clear hW4 hdb hmd hpkH q0 q1 q2
        have hdl := (Array.getElem?_eq_some_iff.1 hd4).1
        have d0 : W4.cell? ⟨db, 0, none⟩ = some (.int .i64 x) := by simp [World.cell?, hd4]
        have d1 : W4.cell? ⟨db, 1, none⟩ = some (.string y) := by simp [World.cell?, hd4]
        have d2 : W4.cell? ⟨db, 2, none⟩ = some (.int .i64 z) := by simp [World.cell?, hd4]
        have hd4H := Lib.hid hd4
        have hI4H := Lib.hid hI4
        have hmm := hI4.tab.len
        have hdist := hI4.tab.dist
        have hdistH := Lib.hid hdist
        clear hd4 hI4 hdist
        obtain ⟨hpb0, hpb1⟩ := hpb
        rcases (by omega : kd = 0 ∨ kd = 1 ∨ kd = 2 ∨ kd = 3 ∨ kd = 4) with rfl | rfl | rfl | rfl | rfl
        · have hc1 := Lib.hid (Put_S hI4H.out.tab (k := y) hyz z)
          go_wp2_with fail
          refine hc1.out.mono ?_
          rintro e w5 ⟨rfl, hs5⟩
          have hd5 : w5.heap[db]? = some (.cells #[.int .i64 x, .string y, .int .i64 z] 41 (0, 0)) := by obtain ⟨T', _, _, k3⟩ := hs5; exact (k3.block db hdl hdT).trans hd4H.out
          obtain ⟨T5, hI5⟩ := hI4H.out.table hs5
          have d1' : w5.cell? ⟨db, 1, none⟩ = some (.string y) := by simp [World.cell?, hd5]
          have d2' : w5.cell? ⟨db, 2, none⟩ = some (.int .i64 z) := by simp [World.cell?, hd5]
          have hc2 := Lib.hid (RPut_any hI5.ref hdistH.out hmm hm1 hm2 y z)
          have hI5H := Lib.hid hI5
          obtain ⟨r1, hr1⟩ : ∃ r, (putG most l y).getD ⟨#[]⟩ = r := ⟨_, rfl⟩
          obtain ⟨r2, hr2⟩ : ∃ r, (putG most l y).isSome = r := ⟨_, rfl⟩
          rw [hr1, hr2] at hc2 ⊢
          clear hs5 hd5 hI5 hc1 d0 d1 d2 hr1 hr2
          go_wp2_with fail
          refine hc2.out.mono ?_
          rintro e w6 ⟨rfl, u6, hR6, hu6, hk6⟩
          have hJ := Lib.hid (hI5H.out.other hR6 (.inr hu6) hk6)
          clear hR6 hu6 hk6 hc2 d1' d2'
          have he1 : (r1.toList == r1.toList) = true := by simp
          have he2 : (r2 == r2) = true := by simp
          go_wp2
          go_roundw
          case rel => exact ⟨k + 1, T5, u6, _, by go_num, by omega, hJ⟩
          case measure => first | (simp [intOf]; done) | (simp [intOf]; omega)
        · have hc1 := Lib.hid (Get_S hI4H.out.tab (k := y) hyz)
          go_wp2_with fail
          refine hc1.out.mono ?_
          rintro e w5 ⟨rfl, hs5⟩
          have hd5 : w5.heap[db]? = some (.cells #[.int .i64 x, .string y, .int .i64 z] 41 (0, 0)) := by obtain ⟨T', _, _, k3⟩ := hs5; exact (k3.block db hdl hdT).trans hd4H.out
          obtain ⟨T5, hI5⟩ := hI4H.out.table hs5
          have d1' : w5.cell? ⟨db, 1, none⟩ = some (.string y) := by simp [World.cell?, hd5]
          have hc2 := Lib.hid (RGet_any hI5.ref hdistH.out hmm hm1 hm2 y)
          have hI5H := Lib.hid hI5
          obtain ⟨r1, hr1⟩ : ∃ r, (lookV l y).getD 0 = r := ⟨_, rfl⟩
          obtain ⟨r2, hr2⟩ : ∃ r, (lookV l y).isSome = r := ⟨_, rfl⟩
          rw [hr1, hr2] at hc2 ⊢
          clear hs5 hd5 hI5 hc1 d0 d1 d2 hr1 hr2
          go_wp2_with fail
          refine hc2.out.mono ?_
          rintro e w6 ⟨rfl, u6, hR6, hu6, hk6⟩
          have hJ := Lib.hid (hI5H.out.other hR6 hu6 hk6)
          clear hR6 hu6 hk6 hc2 d1'
          have he1 : (r1 == r1) = true := by simp
          have he2 : (r2 == r2) = true := by simp
          go_wp2
          go_roundw
          case rel => exact ⟨k + 1, T5, u6, _, by go_num, by omega, hJ⟩
          case measure => first | (simp [intOf]; done) | (simp [intOf]; omega)
        · have hc1 := Lib.hid (Look_S hI4H.out.tab (k := y) hyz)
          have hc2 := Lib.hid (RLook_any hI4H.out.ref hdistH.out (by omega) y)
          obtain ⟨r1, hr1⟩ : ∃ r, (lookV l y).getD 0 = r := ⟨_, rfl⟩
          obtain ⟨r2, hr2⟩ : ∃ r, (lookV l y).isSome = r := ⟨_, rfl⟩
          rw [hr1, hr2] at hc1 hc2
          clear hr1 hr2
          go_wp2_with fail
          refine hc1.out.mono ?_
          rintro e w5 ⟨rfl, rfl⟩
          go_wp2_with fail
          refine hc2.out.mono ?_
          rintro e w6 ⟨rfl, rfl⟩
          have hJ := hI4H
          clear hc1 hc2 d0 d1 d2
          have he1 : (r1 == r1) = true := by simp
          have he2 : (r2 == r2) = true := by simp
          go_wp2
          go_roundw
          case rel => exact ⟨k + 1, T, u, _, by go_num, by omega, hJ⟩
          case measure => first | (simp [intOf]; done) | (simp [intOf]; omega)
        · have hc1 := Lib.hid (Drop_S hI4H.out.tab (k := y) hyz)
          go_wp2_with fail
          refine hc1.out.mono ?_
          rintro e w5 ⟨rfl, hs5⟩
          have hd5 : w5.heap[db]? = some (.cells #[.int .i64 x, .string y, .int .i64 z] 41 (0, 0)) := by obtain ⟨T', _, _, k3⟩ := hs5; exact (k3.block db hdl hdT).trans hd4H.out
          obtain ⟨T5, hI5⟩ := hI4H.out.table hs5
          have d1' : w5.cell? ⟨db, 1, none⟩ = some (.string y) := by simp [World.cell?, hd5]
          have hc2 := Lib.hid (RDrop_any hI5.ref hdistH.out (by omega) y)
          have hI5H := Lib.hid hI5
          obtain ⟨r2, hr2⟩ : ∃ r, (lookV l y).isSome = r := ⟨_, rfl⟩
          rw [hr2] at hc2 ⊢
          clear hs5 hd5 hI5 hc1 d0 d1 d2 hr2
          go_wp2_with fail
          refine hc2.out.mono ?_
          rintro e w6 ⟨rfl, u6, hR6, hu6, hk6⟩
          have hJ := Lib.hid (hI5H.out.other hR6 hu6 hk6)
          clear hR6 hu6 hk6 hc2 d1'
          have he2 : (r2 == r2) = true := by simp
          go_wp2
          go_roundw
          case rel => exact ⟨k + 1, T5, u6, _, by go_num, by omega, hJ⟩
          case measure => first | (simp [intOf]; done) | (simp [intOf]; omega)
        · have hc1 := Lib.hid (keys_any hI4H.out.tab hI4H.out.ref (fun e => (hI4H.out.own p e).2.1 rfl))
          go_wp2_with fail
          refine hc1.out.mono ?_
          rintro e w6 ⟨rfl, hb6⟩
          have hJ := Lib.hid (hI4H.out.later hb6)
          clear hc1 hb6 d0 d1 d2
          go_wp2
          go_roundw
          case rel => exact ⟨k + 1, T, u, _, by go_num, by omega, hJ⟩
          case measure => first | (simp [intOf]; done) | (simp [intOf]; omega)
      · have hk200' : ¬ (k : Int) < 200 := by omega
        have hc1 := Lib.hid (keys_any hI.out.tab hI.out.ref (fun e => (hI.out.own p e).2.1 rfl))
        go_wp2_with fail
        refine hc1.out.mono ?_
        rintro e w6 ⟨rfl, hb6⟩
        have hJ := Lib.hid (hI.out.later hb6)
        clear hc1 hb6
        go_wp2
        go_ret
        exact ⟨rfl, hJ.out.below⟩
    · have hkn' : ¬ (k : Int) < n := by omega
      have hc1 := Lib.hid (keys_any hI.out.tab hI.out.ref (fun e => (hI.out.own p e).2.1 rfl))
      go_wp2_with fail
      refine hc1.out.mono ?_
      rintro e w6 ⟨rfl, hb6⟩
      have hJ := Lib.hid (hI.out.later hb6)
      clear hc1 hb6
      go_wp2
      go_ret
      exact ⟨rfl, hJ.out.below⟩
end Go.Proofs.Ytmgapdbfaoflmaa.Tb
