/- DrawsNext walked. -/
import Derived.Test.YtmgapdbfaoflmaaTmU
import Derived.Laws.AppendOwnNone
namespace Go.Proofs.Ytmgapdbfaoflmaa.Tm
open Go.RowKit Rt
set_option linter.unusedSimpArgs false
set_option linter.unusedVariables false
/-- append(nil, l...). -/
theorem wpList_app_u {w : World} {ops : Array Oper} {rest : List Oper} {o : Oper} {a : Act} {Q : Exit → Act → World → Prop} (hgd : o.guard = none) (s x : Operand)
    (ho : o.op = .call { callee := .builtin .append, args := #[s, x], argTypes := #[81, 81] }) (hs : a.eval s = .slice none 0 0) {v : Value} {L : List Int} {S : Nat → Prop} (hL : SliceU w v L S) (hr : L.length * 8 ≤ 140737488351232) (hx : a.eval x = v)
    (h : ∀ v' w', w'.ownsRow w.heap.size 87 1 v' L.length (uC L) → Below w.heap.size w w' → wpList Try.prog ops Q rest (a.put o.dst v') w') : wpList Try.prog ops Q (o :: rest) a w := by
  obtain ⟨i0, hi, hz0, hz1, hz2⟩ := info_parts info87
  obtain ⟨⟨A, c, rfl, h2, hc, hnn, h3⟩, h4⟩ := hL
  cases A with
  | none =>
    obtain rfl := hnn rfl
    obtain rfl := List.length_eq_zero_iff.1 (Nat.le_zero.1 h2)
    exact wpList_append_own_none hgd s x 81 ho w.heap.size 87 i0 1 Try.underlying81 hi (.slice none 0 0) 0 [] hs (World.ownsRow_nil _ _ _ _) hx (h _ _ (World.ownsRow_nil _ _ _ _) (Below.refl _ _))
  | some A =>
    have hul : (uC L).length = L.length * 1 := by simp [uC]
    have hone : ∀ u ∈ uC L, u.oneCell' = true := fun u hu => by obtain ⟨q, _, rfl⟩ := List.mem_map.1 hu; rfl
    have hnews : ∀ j u, (uC L)[j]? = some u → w.cell? (A.add j) = some u := by
      intro j u hj
      have hjl : j < L.length := by have := (List.getElem?_eq_some_iff.1 hj).1; simpa [uC] using this
      obtain ⟨b, off, e, hb, _, hcell⟩ := h3 (by omega)
      have e := Option.some.inj e
      subst e
      rw [Addr.add_lit, hcell j hjl]
      simp [uC, hjl] at hj
      rw [← hj, List.getD_eq_getElem?_getD, List.getElem?_eq_getElem hjl]; rfl
    refine wpList_append_own_at _ hgd s x 81 ho w.heap.size 87 i0 (.int .u64 0) 1 8 Try.underlying81 hi hz0 hz1 hz2 rfl (by decide) (.slice none 0 0) 0 [] hs (World.ownsRow_nil _ _ _ _) A L.length c (uC L) hx hul hnews hone (by unfold maxLen; omega) (by omega) (Nat.le_refl _) ?_
    intro v1 w1 hown1 hgrow1 hnil1 hat1
    rw [Nat.zero_add, List.nil_append] at hown1
    exact h v1 w1 hown1 ((Below.refl _ _).grown hgrow1 (by simp) (fun k hk => by simp [Value.ownBlock] at hk))
/-- The state of DrawsNext's loops. -/
structure NI (w wr : World) (p1 p2 : Nat) (S1 : Nat → Prop) (L : List Int) : Prop where
  d1 : DrawsAt wr p1 L S1
  d2 : RefAt wr p2 L (· < w.heap.size)
  below : Below w.heap.size w wr
/-- Where all lies. -/
structure NP (w : World) (p1 p2 : Nat) (S1 : Nat → Prop) : Prop where
  b1 : w.heap.size ≤ p1
  b2 : w.heap.size ≤ p2
  ne : p1 ≠ p2
  s1 : ∀ k, S1 k → w.heap.size ≤ k ∧ k ≠ p2
section
variable {w wr w' : World} {p1 p2 g : Nat} {S1 : Nat → Prop} {L L' : List Int}
theorem NI.drew (h : NI w wr p1 p2 S1 L) : NI w wr.drew p1 p2 S1 L := ⟨h.d1.keep (fun _ _ _ => rfl) (Nat.le_refl _), h.d2.keep (fun _ _ _ => rfl) (Nat.le_refl _), h.below.drew⟩
theorem NI.other (h : NI w wr p1 p2 S1 L) (hp : NP w p1 p2 S1) (hg : w.heap.size ≤ g) (h1 : g ≠ p1) (h2 : g ≠ p2) (h3 : ¬ S1 g) (hk : Kept (fun k => k = g) wr w') : NI w w' p1 p2 S1 L :=
  ⟨h.d1.keep (fun k hk' e => hk.block k hk' (by rintro rfl; rcases e with rfl | e; exact h1 rfl; exact h3 e)) hk.size, h.d2.keep (fun k hk' e => hk.block k hk' (by rintro rfl; rcases e with rfl | e; exact h2 rfl; omega)) hk.size,
   h.below.trans (hk.below h.below.size (fun k hk' e => by omega))⟩
/-- Behind the one's Next. -/
theorem NI.mid (h : NI w wr p1 p2 S1 L) (hp : NP w p1 p2 S1) (hk : Kept (fun k => k = p1) wr w') : RefAt w' p2 L (· < w.heap.size) ∧ Below w.heap.size w w' :=
  ⟨h.d2.keep (fun k hk' e => hk.block k hk' (by rintro rfl; rcases e with rfl | e; exact hp.ne rfl; have := hp.b1; omega)) hk.size, h.below.trans (hk.below h.below.size (fun k hk' e => by have := hp.b1; omega))⟩
/-- Behind the other's. -/
theorem NI.both {w5 : World} (hp : NP w p1 p2 S1) (h1 : DrawsAt w5 p1 L' S1) (hb : Below w.heap.size w w5) (h2 : RefAt w' p2 L' (· < w.heap.size)) (hk : Kept (fun k => k = p2) w5 w') : NI w w' p1 p2 S1 L' :=
  ⟨h1.keep (fun k hk' e => hk.block k hk' (by rintro rfl; rcases e with rfl | e; exact hp.ne rfl; exact (hp.s1 _ e).2 rfl)) hk.size, h2, hb.trans (hk.below hb.size (fun k hk' e => by have := hp.b2; omega))⟩
end
@[reducible] def keep1 (p : Nat) : Rk.KeepS := ⟨fun k => k = p⟩
set_option maxRecDepth 100000 in
set_option maxHeartbeats 8000000 in
theorem DrawsNext_any {w : World} {v0 v1 : Value} {L ns : List Int} (hL : SliceU w v0 L (· < w.heap.size)) (hN : SliceI w v1 ns (· < w.heap.size)) (hr : L.length * 8 ≤ 140737488351232) :
    Calls Try.prog 11 #[v0, v1] w fun e w' => e = .returned (.bool true) ∧ Below w.heap.size w w' := by
  obtain ⟨a0, c0, rfl, _⟩ := hL.val
  obtain ⟨a1, c1, rfl, hc1, hc1m, _⟩ := hN.val
  have hnl : ns.length ≤ 9223372036854775807 := by unfold maxLen at hc1m; omega
  have hll : L.length ≤ 9223372036854775807 := by omega
  go_enter Try.func11, Try.ntmps11
  go_wp2_with fail
  refine (examples_any w).mono ?_
  rintro e w1 ⟨rfl, hb1⟩
  have hL1 := hL.below (Nat.le_refl _) hb1
  have hwfs := hL.wfs
  clear hL
  go_wp2_with (at_builtin; refine wpList_app_u rfl (.const (.slice none 0 0)) (.tmp 12) rfl rfl hL1 hr rfl ?_; intro own w2 hown hb2)
  have hU := SliceU.of_row (n := 0) hown hwfs
  have hR9 := Row9.of hown
  have hob : ∀ k, own.ownBlock = some k → w1.heap.size ≤ k ∧ k < w2.heap.size := fun k hk => hown.lt k hk
  have hbw2 := hb1.trans (hb2.mono hb1.size)
  have hL2 := hL1.below hb1.size (hb2.mono hb1.size)
  obtain ⟨ao, co, rfl⟩ := hR9.val
  clear hown hL1
  go_wp2_with fail
  refine (NewDraws_any hU hr).mono ?_
  rintro e w3 ⟨p1, rfl, hp1, hq1, hD1, hb3⟩
  have hbw3 := hbw2.trans (hb3.mono hbw2.size)
  have hL3 := hL2.below hbw2.size (hb3.mono hbw2.size)
  have hR93 := hR9.keep (w' := w3) (fun k h1 h2 _ => hb3.block k h2)
  clear hU hL2 hR9
  have hz1 : w.heap.size ≤ w1.heap.size := hb1.size
  have hz2 : w1.heap.size ≤ w2.heap.size := hb2.size
  have hz3 : w2.heap.size ≤ w3.heap.size := hb3.size
  clear hwfs hb1 hb2 hb3 hbw2
  have hb4 : Below w3.heap.size w3 (w3.alloc (.cells #[.slice a0 L.length c0] 86)) := (Below.refl _ _).alloc (Nat.le_refl _) _
  have hD14 := hD1.below hb4
  have hR94 := hR93.keep (w' := w3.alloc (.cells #[.slice a0 L.length c0] 86)) (fun k h1 h2 _ => hb4.block k h2)
  have hD24 : RefAt (w3.alloc (.cells #[.slice a0 L.length c0] 86)) w3.heap.size L (· < w.heap.size) := ⟨⟨_, Array.getElem?_push_size, hL3.below hbw3.size (hb4.mono hbw3.size)⟩, by omega⟩
  have hbw4 := hbw3.trans (hb4.mono hbw3.size)
  have hob' := Lib.hid hob
  have hP : NP w p1 w3.heap.size (fun k => w2.heap.size ≤ k ∧ k < w3.heap.size ∧ k ≠ p1) := ⟨by omega, by omega, by omega, fun k h => by omega⟩
  have hog : ∀ k, ao = some ⟨k, 0, none⟩ → w.heap.size ≤ k ∧ k ≠ p1 ∧ k ≠ w3.heap.size ∧ ¬ (w2.heap.size ≤ k ∧ k < w3.heap.size ∧ k ≠ p1) := fun k hk => by
    have := hob k (by rw [hk]; rfl)
    omega
  obtain ⟨S1, hS1⟩ : ∃ S, (fun k => w2.heap.size ≤ k ∧ k < w3.heap.size ∧ k ≠ p1) = S := ⟨_, rfl⟩
  have hog2 : ∀ k, ao = some ⟨k, 0, none⟩ → w.heap.size ≤ k ∧ k ≠ p1 ∧ k ≠ w3.heap.size ∧ ¬ S1 k := by rw [← hS1]; exact hog
  rw [hS1] at hD14 hP
  obtain ⟨W4, hW4⟩ : ∃ W, w3.alloc (.cells #[.slice a0 L.length c0] 86) = W := ⟨_, rfl⟩
  have hW4H := Lib.hid hW4
  rw [hW4] at hD14 hR94 hD24 hbw4
  obtain ⟨p2, hp2⟩ : ∃ p, w3.heap.size = p := ⟨_, rfl⟩
  have hp2H := Lib.hid hp2
  rw [hp2] at hD24 hP hog2
  have hI : NI w W4 p1 p2 S1 L := ⟨hD14, hD24, hbw4⟩
  have hog2H := Lib.hid hog2
  clear hD1 hR93 hb4 hL3 hog hog2 hob hob' hS1 hW4 hp1 hq1 hz1 hz2 hz3 hD14 hD24 hbw4 hbw3 hp2
  go_upto_region 7 with (fail)
  rw [hp2H.out, hW4H.out]
  clear hp2H hW4H
  obtain ⟨B, hB⟩ : ∃ b, w1.heap.size = b := ⟨_, rfl⟩
  rw [hB] at hR94
  clear hB
  go_wp2_with fail
  go_loopw [9] (fun i wr => ∃ k : Nat, i = .int .i64 k ∧ k ≤ L.length ∧ Row9 wr B L.length (.slice ao L.length co) ∧ NI w wr p1 p2 S1 L) (fun i _ => L.length - (intOf i).toNat)
  case atStart => exact ⟨0, rfl, Nat.zero_le _, hR94, hI⟩
  case round =>
    clear hR94 hI
    obtain ⟨k, rfl, hk, hR, hI⟩ := hrel
    by_cases hlt : k < L.length
    · have hlt' : (k : Int) < L.length := by omega
      obtain ⟨g, u, hao, hBg, hgs, hcell, hfz, hR2⟩ := hR.at hlt 99
      obtain ⟨g1, g2, g3, g4⟩ := hog2H.out g hao
      have hI2 := hI.other hP g1 g2 g3 g4 (Kept.setCell (S := fun k => k = g) (p := ⟨g, k, none⟩) (Kept.refl _ wr) (.inl rfl) (.int .u64 99))
      cases hao
      clear hR hI
      go_wp2
      go_roundw
      case rel => exact ⟨k + 1, by go_num, by omega, hR2, hI2⟩
      case measure => simp [intOf]; omega
    · obtain rfl : k = L.length := by omega
      have hlt' : ¬ (L.length : Int) < L.length := by omega
      clear hR
      go_wp2_with fail
      go_loopw [10] (fun i wr => ∃ k : Nat, i = .int .i64 k ∧ k ≤ ns.length ∧ k ≤ 300 ∧ NI w wr p1 p2 S1 (restN L (ns.take k))) (fun i _ => ns.length - (intOf i).toNat)
      case atStart => exact ⟨0, rfl, Nat.zero_le _, by omega, hI⟩
      case round =>
        clear hI
        obtain ⟨k, rfl, hk, hk3, hI⟩ := hrel
        by_cases hlt : k < ns.length
        · have hlt' : (k : Int) < ns.length := by omega
          by_cases h300 : k < 300
          · have h300' : (k : Int) < 300 := by omega
            have hNr := hN.below (Nat.le_refl _) hI.below
            obtain ⟨b, off, rfl, hbn, hcell, hwf⟩ := hNr.at k hlt
            have hnb : b < w.heap.size := by
              obtain ⟨b', off', e, _, _⟩ := hN.at k hlt
              obtain ⟨⟨a', c', h1, h2, hc, hnn, h3⟩, h4⟩ := hN
              cases h1
              obtain ⟨b2, off2, e2, hb2, _⟩ := h3 (by omega)
              cases e2; exact hb2
            obtain ⟨x, hx⟩ : ∃ x, ns.getD k 0 = x := ⟨_, rfl⟩
            rw [hx] at hcell hwf
            have htk := Lib.hid (take_snoc' ns k hlt)
            have hxH := Lib.hid hx
            obtain ⟨L1, hL1⟩ : ∃ M, restN L (ns.take k) = M := ⟨_, rfl⟩
            have hL1H := Lib.hid hL1
            rw [hL1] at hI
            have hId := hI.drew
            have hqn : ∀ W, Kept (fun k => k = p1) wr.drew W → W.cell? ⟨b, off + k, none⟩ = some (.int .i64 x) := fun W hW => (hW.cell (p := ⟨b, off + k, none⟩) (by show b < wr.heap.size; have := hI.below.size; omega) (by show ¬ b = p1; have := hP.b1; omega)).trans hcell
            obtain ⟨vx, hvx, hsx⟩ := hId.d2.top
            obtain ⟨ax, cx, rfl, _⟩ := hsx.val
            have hqx : ∀ W, Kept (fun k => k = p1) wr.drew W → W.cell? ⟨p2, 0, none⟩ = some (.slice ax L1.length cx) := fun W hW => (hW.cell (p := ⟨p2, 0, none⟩) hId.d2.lt (by show ¬ p2 = p1; exact Ne.symm hP.ne)).trans (by simp [World.cell?, hvx])
            have hD := hId.d1
            have hqnH := Lib.hid hqn
            have hqxH := Lib.hid hqx
            obtain ⟨y, hy⟩ : ∃ y, nextD L1 x = y := ⟨_, rfl⟩
            obtain ⟨M, hM⟩ : ∃ M, restD L1 x = M := ⟨_, rfl⟩
            have hML : Hid (restN L (ns.take (k + 1)) = M) := Lib.hid (by rw [htk.out, restN_snoc, hx, hL1, hM])
            have hlx : L1.length ≤ 9223372036854775807 := by obtain ⟨⟨a', c', e, r1, r2, _⟩, _⟩ := hsx; unfold maxLen at r2; omega
            have hnd := fun w h => DNext_any (w := w) (p := p1) (S := S1) (L := L1) h x hwf
            have hnr := fun w9 h => RNext_any (w := w9) (p := p2) (S := (· < w.heap.size)) (L := L1) h x hwf
            rw [hy, hM] at hnd hnr
            have hndH := Lib.hid hnd
            have hnrH := Lib.hid hnr
            clear hx hL1 hqn hqx hvx hsx hNr hcell hnd hnr hy hM hI
            letI := keep1 p1
            go_upto_region 14 with (fail)
            refine Rk.wp_region_ord [0, 2, 0, 0, 0, 1, 0, 0, 0, 0, 0, 0, 0, 1, 2, 0, 0, 0, 0, 1, 3, 0, 0] [0, 2, 3, 4, 5, 1, 6, 7, 8, 9, 10, 11, 12, 13, 15, 16, 17, 18, 19, 14, 20, 21, 22] (by kernel_rfl) (by kernel_rfl) ?_
            apply Rk.ord_move rfl rfl rfl rfl; (· (simp only [Act.put, Act.eval, List.setIfInBounds_toArray, List.set_cons_zero, List.set_cons_succ, Array.getD_eq_getD_getElem?, List.getElem?_toArray, List.getElem?_cons_zero, List.getElem?_cons_succ, Option.getD_some, List.getElem_toArray, List.getElem_cons_succ, List.getElem_cons_zero]; with_reducible rfl))
            apply Rk.ord_move rfl rfl rfl rfl; (· (simp only [Act.put, Act.eval, List.setIfInBounds_toArray, List.set_cons_zero, List.set_cons_succ, Array.getD_eq_getD_getElem?, List.getElem?_toArray, List.getElem?_cons_zero, List.getElem?_cons_succ, Option.getD_some, List.getElem_toArray, List.getElem_cons_succ, List.getElem_cons_zero]; with_reducible rfl))
            apply Rk.ord_pure rfl rfl rfl; (· (intro w; go_simp; with_reducible rfl)); (· (simp only [Act.put, Act.eval, List.setIfInBounds_toArray, List.set_cons_zero, List.set_cons_succ, Array.getD_eq_getD_getElem?, List.getElem?_toArray, List.getElem?_cons_zero, List.getElem?_cons_succ, Option.getD_some, List.getElem_toArray, List.getElem_cons_succ, List.getElem_cons_zero]; with_reducible rfl))
            apply Rk.ord_pure rfl rfl rfl; (· (intro w; go_simp; with_reducible rfl)); (· (simp only [Act.put, Act.eval, List.setIfInBounds_toArray, List.set_cons_zero, List.set_cons_succ, Array.getD_eq_getD_getElem?, List.getElem?_toArray, List.getElem?_cons_zero, List.getElem?_cons_succ, Option.getD_some, List.getElem_toArray, List.getElem_cons_succ, List.getElem_cons_zero]; with_reducible rfl))
            apply Rk.ord_read rfl rfl rfl; (· (intro W hW; have q1 := hqnH.out W hW; have q2 := hqxH.out W hW; go_simp; with_reducible rfl)); (· (simp only [Act.put, Act.eval, List.setIfInBounds_toArray, List.set_cons_zero, List.set_cons_succ, Array.getD_eq_getD_getElem?, List.getElem?_toArray, List.getElem?_cons_zero, List.getElem?_cons_succ, Option.getD_some, List.getElem_toArray, List.getElem_cons_succ, List.getElem_cons_zero]; with_reducible rfl))
            refine Rk.ord_call rfl rfl rfl (by go_simp; exact ⟨rfl, rfl⟩) ?_
            refine (Left_any hD).mono ?_
            rintro e w6 ⟨rfl, rfl⟩
            refine ⟨_, rfl, Kept.refl _ _, ?_⟩
            simp only [Act.put, Act.eval, List.setIfInBounds_toArray, List.set_cons_zero, List.set_cons_succ, Array.getD_eq_getD_getElem?, List.getElem?_toArray, List.getElem?_cons_zero, List.getElem?_cons_succ, Option.getD_some, List.getElem_toArray, List.getElem_cons_succ, List.getElem_cons_zero]
            apply Rk.ord_pure rfl rfl rfl; (· (intro w; go_simp; with_reducible rfl)); (· (simp only [Act.put, Act.eval, List.setIfInBounds_toArray, List.set_cons_zero, List.set_cons_succ, Array.getD_eq_getD_getElem?, List.getElem?_toArray, List.getElem?_cons_zero, List.getElem?_cons_succ, Option.getD_some, List.getElem_toArray, List.getElem_cons_succ, List.getElem_cons_zero]; with_reducible rfl))
            apply Rk.ord_pure (v := .bool false) rfl rfl rfl; (· (intro w; go_simp; try rfl)); (· (simp only [Act.put, Act.eval, List.setIfInBounds_toArray, List.set_cons_zero, List.set_cons_succ, Array.getD_eq_getD_getElem?, List.getElem?_toArray, List.getElem?_cons_zero, List.getElem?_cons_succ, Option.getD_some, List.getElem_toArray, List.getElem_cons_succ, List.getElem_cons_zero]; with_reducible rfl))
            apply Rk.ord_move rfl rfl rfl rfl; (· (simp only [Act.put, Act.eval, List.setIfInBounds_toArray, List.set_cons_zero, List.set_cons_succ, Array.getD_eq_getD_getElem?, List.getElem?_toArray, List.getElem?_cons_zero, List.getElem?_cons_succ, Option.getD_some, List.getElem_toArray, List.getElem_cons_succ, List.getElem_cons_zero]; with_reducible rfl))
            apply Rk.ord_pure rfl rfl rfl; (· (intro w; go_simp; with_reducible rfl)); (· (simp only [Act.put, Act.eval, List.setIfInBounds_toArray, List.set_cons_zero, List.set_cons_succ, Array.getD_eq_getD_getElem?, List.getElem?_toArray, List.getElem?_cons_zero, List.getElem?_cons_succ, Option.getD_some, List.getElem_toArray, List.getElem_cons_succ, List.getElem_cons_zero]; with_reducible rfl))
            apply Rk.ord_pure rfl rfl rfl; (· (intro w; go_simp; with_reducible rfl)); (· (simp only [Act.put, Act.eval, List.setIfInBounds_toArray, List.set_cons_zero, List.set_cons_succ, Array.getD_eq_getD_getElem?, List.getElem?_toArray, List.getElem?_cons_zero, List.getElem?_cons_succ, Option.getD_some, List.getElem_toArray, List.getElem_cons_succ, List.getElem_cons_zero]; with_reducible rfl))
            apply Rk.ord_pure rfl rfl rfl; (· (intro w; go_simp; with_reducible rfl)); (· (simp only [Act.put, Act.eval, List.setIfInBounds_toArray, List.set_cons_zero, List.set_cons_succ, Array.getD_eq_getD_getElem?, List.getElem?_toArray, List.getElem?_cons_zero, List.getElem?_cons_succ, Option.getD_some, List.getElem_toArray, List.getElem_cons_succ, List.getElem_cons_zero]; with_reducible rfl))
            apply Rk.ord_pure rfl rfl rfl; (· (intro w; go_simp; with_reducible rfl)); (· (simp only [Act.put, Act.eval, List.setIfInBounds_toArray, List.set_cons_zero, List.set_cons_succ, Array.getD_eq_getD_getElem?, List.getElem?_toArray, List.getElem?_cons_zero, List.getElem?_cons_succ, Option.getD_some, List.getElem_toArray, List.getElem_cons_succ, List.getElem_cons_zero]; with_reducible rfl))
            apply Rk.ord_read rfl rfl rfl; (· (intro W hW; have q1 := hqnH.out W hW; have q2 := hqxH.out W hW; go_simp; with_reducible rfl)); (· (simp only [Act.put, Act.eval, List.setIfInBounds_toArray, List.set_cons_zero, List.set_cons_succ, Array.getD_eq_getD_getElem?, List.getElem?_toArray, List.getElem?_cons_zero, List.getElem?_cons_succ, Option.getD_some, List.getElem_toArray, List.getElem_cons_succ, List.getElem_cons_zero]; with_reducible rfl))
            apply Rk.ord_pure rfl rfl rfl; (· (intro w; go_simp; with_reducible rfl)); (· (simp only [Act.put, Act.eval, List.setIfInBounds_toArray, List.set_cons_zero, List.set_cons_succ, Array.getD_eq_getD_getElem?, List.getElem?_toArray, List.getElem?_cons_zero, List.getElem?_cons_succ, Option.getD_some, List.getElem_toArray, List.getElem_cons_succ, List.getElem_cons_zero]; with_reducible rfl))
            apply Rk.ord_pure rfl rfl rfl; (· (intro w; go_simp; with_reducible rfl)); (· (simp only [Act.put, Act.eval, List.setIfInBounds_toArray, List.set_cons_zero, List.set_cons_succ, Array.getD_eq_getD_getElem?, List.getElem?_toArray, List.getElem?_cons_zero, List.getElem?_cons_succ, Option.getD_some, List.getElem_toArray, List.getElem_cons_succ, List.getElem_cons_zero]; with_reducible rfl))
            apply Rk.ord_pure rfl rfl rfl; (· (intro w; go_simp; with_reducible rfl)); (· (simp only [Act.put, Act.eval, List.setIfInBounds_toArray, List.set_cons_zero, List.set_cons_succ, Array.getD_eq_getD_getElem?, List.getElem?_toArray, List.getElem?_cons_zero, List.getElem?_cons_succ, Option.getD_some, List.getElem_toArray, List.getElem_cons_succ, List.getElem_cons_zero]; with_reducible rfl))
            apply Rk.ord_pure rfl rfl rfl; (· (intro w; go_simp; with_reducible rfl)); (· (simp only [Act.put, Act.eval, List.setIfInBounds_toArray, List.set_cons_zero, List.set_cons_succ, Array.getD_eq_getD_getElem?, List.getElem?_toArray, List.getElem?_cons_zero, List.getElem?_cons_succ, Option.getD_some, List.getElem_toArray, List.getElem_cons_succ, List.getElem_cons_zero]; with_reducible rfl))
            apply Rk.ord_read rfl rfl rfl; (· (intro W hW; have q1 := hqnH.out W hW; have q2 := hqxH.out W hW; go_simp; with_reducible rfl)); (· (simp only [Act.put, Act.eval, List.setIfInBounds_toArray, List.set_cons_zero, List.set_cons_succ, Array.getD_eq_getD_getElem?, List.getElem?_toArray, List.getElem?_cons_zero, List.getElem?_cons_succ, Option.getD_some, List.getElem_toArray, List.getElem_cons_succ, List.getElem_cons_zero]; with_reducible rfl))
            refine Rk.ord_call rfl rfl rfl (by go_simp; exact ⟨rfl, rfl⟩) ?_
            refine (hndH.out _ hD).mono ?_
            rintro e w5 ⟨rfl, hD5, hk5⟩
            obtain ⟨hE5, hbw5⟩ := hId.mid hP hk5
            refine ⟨_, rfl, hk5, ?_⟩
            simp only [Act.put, Act.eval, List.setIfInBounds_toArray, List.set_cons_zero, List.set_cons_succ, Array.getD_eq_getD_getElem?, List.getElem?_toArray, List.getElem?_cons_zero, List.getElem?_cons_succ, Option.getD_some, List.getElem_toArray, List.getElem_cons_succ, List.getElem_cons_zero]
            refine Rk.ord_call_act rfl rfl rfl (by go_simp; exact ⟨⟨rfl, rfl⟩, rfl⟩) ?_
            refine (hnrH.out _ hE5).mono ?_
            rintro e w7 ⟨rfl, hE7, hk7⟩
            have hI7 := NI.both hP hD5 hbw5 hE7 hk7
            refine ⟨_, rfl, ?_⟩
            simp only [Act.put, Act.eval, List.setIfInBounds_toArray, List.set_cons_zero, List.set_cons_succ, Array.getD_eq_getD_getElem?, List.getElem?_toArray, List.getElem?_cons_zero, List.getElem?_cons_succ, Option.getD_some, List.getElem_toArray, List.getElem_cons_succ, List.getElem_cons_zero]
            apply Rk.ord_pure (v := .bool false) rfl rfl rfl; (· (intro w; go_simp; try rfl)); (· (simp only [Act.put, Act.eval, List.setIfInBounds_toArray, List.set_cons_zero, List.set_cons_succ, Array.getD_eq_getD_getElem?, List.getElem?_toArray, List.getElem?_cons_zero, List.getElem?_cons_succ, Option.getD_some, List.getElem_toArray, List.getElem_cons_succ, List.getElem_cons_zero]; with_reducible rfl))
            apply Rk.ord_pure rfl rfl rfl; (· (intro w; go_simp; with_reducible rfl)); (· (simp only [Act.put, Act.eval, List.setIfInBounds_toArray, List.set_cons_zero, List.set_cons_succ, Array.getD_eq_getD_getElem?, List.getElem?_toArray, List.getElem?_cons_zero, List.getElem?_cons_succ, Option.getD_some, List.getElem_toArray, List.getElem_cons_succ, List.getElem_cons_zero]; with_reducible rfl))
            with_reducible refine Rk.ord_nil ?_
            go_wp2
            go_roundw
            case rel => exact ⟨k + 1, by go_num, by omega, by omega, by rw [hML.out]; exact hI7⟩
            case measure => simp [intOf]; omega
          · have h300' : ¬ (k : Int) < 300 := by omega
            have hd := hI.d1
            have hbw := hI.below
            obtain ⟨vx, hvx, hsx⟩ := hI.d2.top
            obtain ⟨ax, cx, rfl, _⟩ := hsx.val
            have hcx : wr.cell? ⟨p2, 0, none⟩ = some (.slice ax (restN L (ns.take k)).length cx) := by simp [World.cell?, hvx]
            obtain ⟨q, hq⟩ : ∃ q, (restN L (ns.take k)).length = q := ⟨_, rfl⟩
            have hl := fun w h => Left_any (w := w) (p := p1) (S := S1) (L := restN L (ns.take k)) h
            rw [hq] at hcx hl
            have hdd := hI.drew.d1
            clear hvx hsx hI hq hd
            go_upto_region 16 with (fail)
            refine Rt.wp_region_text [0, 0, 0, 1, 0, 0, 0, 1, 0, 0, 0, 0] (by kernel_rfl) (by kernel_rfl) ?_
            apply txt_move rfl rfl; (· (simp only [Act.put, Act.eval, List.setIfInBounds_toArray, List.set_cons_zero, List.set_cons_succ, Array.getD_eq_getD_getElem?, List.getElem?_toArray, List.getElem?_cons_zero, List.getElem?_cons_succ, Option.getD_some]; with_reducible rfl))
            apply txt_move rfl rfl; (· (simp only [Act.put, Act.eval, List.setIfInBounds_toArray, List.set_cons_zero, List.set_cons_succ, Array.getD_eq_getD_getElem?, List.getElem?_toArray, List.getElem?_cons_zero, List.getElem?_cons_succ, Option.getD_some]; with_reducible rfl))
            apply txt_pure rfl rfl rfl; (· (intro w; go_simp; with_reducible rfl)); (· (simp only [Act.put, Act.eval, List.setIfInBounds_toArray, List.set_cons_zero, List.set_cons_succ, Array.getD_eq_getD_getElem?, List.getElem?_toArray, List.getElem?_cons_zero, List.getElem?_cons_succ, Option.getD_some]; with_reducible rfl))
            apply txt_quiet rfl rfl rfl; (· (go_simp; exact ⟨rfl, rfl⟩)); (· (exact hl _ hdd)); (· (simp only [Act.put, Act.eval, List.setIfInBounds_toArray, List.set_cons_zero, List.set_cons_succ, Array.getD_eq_getD_getElem?, List.getElem?_toArray, List.getElem?_cons_zero, List.getElem?_cons_succ, Option.getD_some]; with_reducible rfl))
            apply txt_pure rfl rfl rfl; (· (intro w; go_simp; with_reducible rfl)); (· (simp only [Act.put, Act.eval, List.setIfInBounds_toArray, List.set_cons_zero, List.set_cons_succ, Array.getD_eq_getD_getElem?, List.getElem?_toArray, List.getElem?_cons_zero, List.getElem?_cons_succ, Option.getD_some]; with_reducible rfl))
            apply txt_pure rfl rfl rfl; (· (intro w; go_simp; with_reducible rfl)); (· (simp only [Act.put, Act.eval, List.setIfInBounds_toArray, List.set_cons_zero, List.set_cons_succ, Array.getD_eq_getD_getElem?, List.getElem?_toArray, List.getElem?_cons_zero, List.getElem?_cons_succ, Option.getD_some]; with_reducible rfl))
            apply txt_pure rfl rfl rfl; (· (intro w; go_simp; with_reducible rfl)); (· (simp only [Act.put, Act.eval, List.setIfInBounds_toArray, List.set_cons_zero, List.set_cons_succ, Array.getD_eq_getD_getElem?, List.getElem?_toArray, List.getElem?_cons_zero, List.getElem?_cons_succ, Option.getD_some]; with_reducible rfl))
            apply txt_read rfl rfl rfl; (· (go_simp; with_reducible rfl)); (· (simp only [Act.put, Act.eval, List.setIfInBounds_toArray, List.set_cons_zero, List.set_cons_succ, Array.getD_eq_getD_getElem?, List.getElem?_toArray, List.getElem?_cons_zero, List.getElem?_cons_succ, Option.getD_some]; with_reducible rfl))
            apply txt_pure rfl rfl rfl; (· (intro w; go_simp; with_reducible rfl)); (· (simp only [Act.put, Act.eval, List.setIfInBounds_toArray, List.set_cons_zero, List.set_cons_succ, Array.getD_eq_getD_getElem?, List.getElem?_toArray, List.getElem?_cons_zero, List.getElem?_cons_succ, Option.getD_some]; with_reducible rfl))
            apply txt_pure rfl rfl rfl; (· (intro w; go_simp; with_reducible rfl)); (· (simp only [Act.put, Act.eval, List.setIfInBounds_toArray, List.set_cons_zero, List.set_cons_succ, Array.getD_eq_getD_getElem?, List.getElem?_toArray, List.getElem?_cons_zero, List.getElem?_cons_succ, Option.getD_some]; with_reducible rfl))
            apply txt_pure rfl rfl rfl; (· (intro w; go_simp; with_reducible rfl)); (· (simp only [Act.put, Act.eval, List.setIfInBounds_toArray, List.set_cons_zero, List.set_cons_succ, Array.getD_eq_getD_getElem?, List.getElem?_toArray, List.getElem?_cons_zero, List.getElem?_cons_succ, Option.getD_some]; with_reducible rfl))
            apply txt_assign rfl rfl; (· (simp only [Act.put, Act.eval, List.setIfInBounds_toArray, List.set_cons_zero, List.set_cons_succ, Array.getD_eq_getD_getElem?, List.getElem?_toArray, List.getElem?_cons_zero, List.getElem?_cons_succ, Option.getD_some]; with_reducible rfl))
            with_reducible refine txt_nil ?_
            go_wp2
            go_ret
            exact ⟨rfl, hbw.drew⟩
        · have hlt' : ¬ (k : Int) < ns.length := by omega
          have hd := hI.d1
          have hbw := hI.below
          obtain ⟨vx, hvx, hsx⟩ := hI.d2.top
          obtain ⟨ax, cx, rfl, _⟩ := hsx.val
          have hcx : wr.cell? ⟨p2, 0, none⟩ = some (.slice ax (restN L (ns.take k)).length cx) := by simp [World.cell?, hvx]
          obtain ⟨q, hq⟩ : ∃ q, (restN L (ns.take k)).length = q := ⟨_, rfl⟩
          have hl := fun w h => Left_any (w := w) (p := p1) (S := S1) (L := restN L (ns.take k)) h
          rw [hq] at hcx hl
          have hdd := hI.drew.d1
          clear hvx hsx hI hq hd
          go_upto_region 16 with (fail)
          refine Rt.wp_region_text [0, 0, 0, 1, 0, 0, 0, 1, 0, 0, 0, 0] (by kernel_rfl) (by kernel_rfl) ?_
          apply txt_move rfl rfl; (· (simp only [Act.put, Act.eval, List.setIfInBounds_toArray, List.set_cons_zero, List.set_cons_succ, Array.getD_eq_getD_getElem?, List.getElem?_toArray, List.getElem?_cons_zero, List.getElem?_cons_succ, Option.getD_some]; with_reducible rfl))
          apply txt_move rfl rfl; (· (simp only [Act.put, Act.eval, List.setIfInBounds_toArray, List.set_cons_zero, List.set_cons_succ, Array.getD_eq_getD_getElem?, List.getElem?_toArray, List.getElem?_cons_zero, List.getElem?_cons_succ, Option.getD_some]; with_reducible rfl))
          apply txt_pure rfl rfl rfl; (· (intro w; go_simp; with_reducible rfl)); (· (simp only [Act.put, Act.eval, List.setIfInBounds_toArray, List.set_cons_zero, List.set_cons_succ, Array.getD_eq_getD_getElem?, List.getElem?_toArray, List.getElem?_cons_zero, List.getElem?_cons_succ, Option.getD_some]; with_reducible rfl))
          apply txt_quiet rfl rfl rfl; (· (go_simp; exact ⟨rfl, rfl⟩)); (· (exact hl _ hdd)); (· (simp only [Act.put, Act.eval, List.setIfInBounds_toArray, List.set_cons_zero, List.set_cons_succ, Array.getD_eq_getD_getElem?, List.getElem?_toArray, List.getElem?_cons_zero, List.getElem?_cons_succ, Option.getD_some]; with_reducible rfl))
          apply txt_pure rfl rfl rfl; (· (intro w; go_simp; with_reducible rfl)); (· (simp only [Act.put, Act.eval, List.setIfInBounds_toArray, List.set_cons_zero, List.set_cons_succ, Array.getD_eq_getD_getElem?, List.getElem?_toArray, List.getElem?_cons_zero, List.getElem?_cons_succ, Option.getD_some]; with_reducible rfl))
          apply txt_pure rfl rfl rfl; (· (intro w; go_simp; with_reducible rfl)); (· (simp only [Act.put, Act.eval, List.setIfInBounds_toArray, List.set_cons_zero, List.set_cons_succ, Array.getD_eq_getD_getElem?, List.getElem?_toArray, List.getElem?_cons_zero, List.getElem?_cons_succ, Option.getD_some]; with_reducible rfl))
          apply txt_pure rfl rfl rfl; (· (intro w; go_simp; with_reducible rfl)); (· (simp only [Act.put, Act.eval, List.setIfInBounds_toArray, List.set_cons_zero, List.set_cons_succ, Array.getD_eq_getD_getElem?, List.getElem?_toArray, List.getElem?_cons_zero, List.getElem?_cons_succ, Option.getD_some]; with_reducible rfl))
          apply txt_read rfl rfl rfl; (· (go_simp; with_reducible rfl)); (· (simp only [Act.put, Act.eval, List.setIfInBounds_toArray, List.set_cons_zero, List.set_cons_succ, Array.getD_eq_getD_getElem?, List.getElem?_toArray, List.getElem?_cons_zero, List.getElem?_cons_succ, Option.getD_some]; with_reducible rfl))
          apply txt_pure rfl rfl rfl; (· (intro w; go_simp; with_reducible rfl)); (· (simp only [Act.put, Act.eval, List.setIfInBounds_toArray, List.set_cons_zero, List.set_cons_succ, Array.getD_eq_getD_getElem?, List.getElem?_toArray, List.getElem?_cons_zero, List.getElem?_cons_succ, Option.getD_some]; with_reducible rfl))
          apply txt_pure rfl rfl rfl; (· (intro w; go_simp; with_reducible rfl)); (· (simp only [Act.put, Act.eval, List.setIfInBounds_toArray, List.set_cons_zero, List.set_cons_succ, Array.getD_eq_getD_getElem?, List.getElem?_toArray, List.getElem?_cons_zero, List.getElem?_cons_succ, Option.getD_some]; with_reducible rfl))
          apply txt_pure rfl rfl rfl; (· (intro w; go_simp; with_reducible rfl)); (· (simp only [Act.put, Act.eval, List.setIfInBounds_toArray, List.set_cons_zero, List.set_cons_succ, Array.getD_eq_getD_getElem?, List.getElem?_toArray, List.getElem?_cons_zero, List.getElem?_cons_succ, Option.getD_some]; with_reducible rfl))
          apply txt_assign rfl rfl; (· (simp only [Act.put, Act.eval, List.setIfInBounds_toArray, List.set_cons_zero, List.set_cons_succ, Array.getD_eq_getD_getElem?, List.getElem?_toArray, List.getElem?_cons_zero, List.getElem?_cons_succ, Option.getD_some]; with_reducible rfl))
          with_reducible refine txt_nil ?_
          go_wp2
          go_ret
          exact ⟨rfl, hbw.drew⟩
end Go.Proofs.Ytmgapdbfaoflmaa.Tm
