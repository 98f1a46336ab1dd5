/- keys: both tables held against each other. -/
import Derived.Test.YtmgapdbfaoflmaaTbH
import Derived.Test.YtmgapdbfaoflmaaTbN
namespace Go.Proofs.Ytmgapdbfaoflmaa.Tb
open Go.RowKit Go.Shelf Rt Tm
set_option linter.unusedSimpArgs false
set_option linter.unusedVariables false
section
variable {w w' : World} {T : Nat → Prop} {tb bm most : Nat} {p : Nat} {v : Value} {l : List KV}
theorem TabS.look_at (h : TabS w T tb bm most l) {j : Nat} (hj : j < l.length) : lookV l l[j].1 = some l[j].2 := by
  obtain ⟨L, hL, h2, _⟩ := h.ex
  subst hL
  have hjL : j < L.length := by simpa using hj
  obtain ⟨A, B, hAB, hAl⟩ : ∃ A B, L = A ++ L[j] :: B ∧ A.length = j := ⟨L.take j, L.drop (j + 1), by rw [← List.drop_eq_getElem_cons hjL, List.take_append_drop], by rw [List.length_take]; omega⟩
  obtain ⟨q, hq⟩ : ∃ q, L[j] = q := ⟨_, rfl⟩
  rw [hq] at hAB
  have hgj : (L.map (·.2))[j] = q.2 := by simp [hq]
  rw [hgj]
  rw [hAB] at h2 ⊢
  obtain ⟨f, _, _, _, hno⟩ := h2.find
  rw [List.map_append, List.map_cons]
  exact lookV_yes fun r hr => by
    rw [← List.map_append] at hr
    obtain ⟨s, hs, rfl⟩ := List.mem_map.1 hr
    exact hno s hs
theorem TabS.szs' (h : TabS w T tb bm most l) : ∀ p ∈ l, p.1.size ≤ maxLen := by
  obtain ⟨L, rfl, h2, _⟩ := h.ex
  intro p hp
  obtain ⟨r, hr, rfl⟩ := List.mem_map.1 hp
  exact h2.sz r hr
/-- Over all that the table tells. -/
theorem keys_all {w0 : World} {Bg Bi Bx Ba : Nat} (hT : TabS w0 T tb bm most l) (hR : RefK w0 p (most : Int) v l) (hpT : ¬ T p) (bx : Boxed w0 Bx 36 (.pointer (some ⟨p, 0, none⟩))) (bi : Boxed w0 Bi 3 (.int .i64 0)) (bg : Boxed w0 Bg 4 (.bool true)) (ba : Boxed w0 Ba 25 (.pointer (some ⟨tb, 0, none⟩)))
    {B : Nat} (hTB : ∀ x, T x → x < B) (hvB : 0 < l.length → ∀ g, v.ownBlock = some g → g < B) (hpB : p < B) (hBx : B ≤ Bx) (hxi : Bx < Bi) (hig : Bi < Bg) (hga : Bg < Ba) :
    Calls Try.prog 56 #[.func (.func 54) #[] #[.pointer (some ⟨Bg, 0, none⟩), .pointer (some ⟨Bi, 0, none⟩), .pointer (some ⟨Bx, 0, none⟩)], .pointer (some ⟨Ba, 0, none⟩)] w0 fun e w' => e = .returned (.tuple #[]) ∧ Below Bi w0 w' ∧ Boxed w' Bg 4 (.bool true) ∧ Boxed w' Bi 3 (.int .i64 (l.length : Int)) := by
  have hm2 := hT.m2
  have hlen := hT.len
  have hBgl := bg.lt
  refine All1_any hT ba.cell (fun p hp => TabS.szs' hT p hp) (enters_of Try.func54 (by kernel_rfl) rfl) fun w1 hb1 => ?_
  have hs1 := hb1.size
  have hbx : ∀ {B : Nat} {t : TypeId} {v : Value}, Boxed w0 B t v → Boxed w1 B t v := fun h => (hb1.block _ h.lt).trans h
  refine ⟨fun j w' => Kept (fun x => x = Bg ∨ x = Bi) w1 w' ∧ Boxed w' Bg 4 (.bool true) ∧ Boxed w' Bi 3 (.int .i64 (j : Int)), fun _ => False, ⟨Kept.refl _ _, hbx bg, hbx bi⟩, ?_, ?_, fun _ h => h.elim⟩
  · rintro j w' ⟨hk, h1, h2⟩ hj
    have hkb : ∀ x, x < w1.heap.size → x ≠ Bg → x ≠ Bi → w'.heap[x]? = w1.heap[x]? := fun x hx a b => hk.block x hx (fun e => e.elim a b)
    have hT1 := hT.below hb1
    have hT' : TabS w' T tb bm most l := hT1.kept hk (fun x hx e => by have := hTB x hx; rcases e with e | e <;> omega)
    have hR1 := hR.below hb1
    have hR' : RefK w' p (most : Int) v l := hR1.keep2 (hkb p hR1.lt (by omega) (by omega)) (fun h0 g hg => hkb g (hR1.own_lt h0 hg) (by have := hvB h0 g hg; omega) (by have := hvB h0 g hg; omega)) hk.size
    have hba : Boxed w' Ba 25 (.pointer (some ⟨tb, 0, none⟩)) := (hkb Ba (by have := ba.lt; omega) (by omega) (by omega)).trans (hbx ba)
    refine ⟨hba.cell, T, bm, most, l, hT', fun hno => ?_, fun v1 hv1 => ?_⟩
    · rw [hT'.look_at hj] at hno; cases hno
    · rw [hT'.look_at hj] at hv1
      cases hv1
      have hgk := gk_eq hj
      rw [← hgk]
      refine (keys1_any hR' (by omega) hj h1 h2 ((hkb Bx (by have := bx.lt; omega) (by omega) (by omega)).trans (hbx bx))).mono ?_
      rintro e w'' ⟨rfl, k1, k2, k3⟩
      exact ⟨.inl ⟨rfl, hk.trans k1, k2, by exact_mod_cast k3⟩, k1.mono fun x hx e hr => by have := bi.lt; rcases e with e | e <;> omega⟩
  · rintro w' ⟨hk, h1, h2⟩
    exact ⟨(hb1.mono (by have := bi.lt; omega)).trans (hk.below (by have := bi.lt; omega) (fun x hx e => by rcases e with e | e <;> omega)), h1, h2⟩
theorem keys_mid (w2 : World) (tb : Nat) (wA : World) (h : (((w2.alloc (.cells #[.int .i64 0] 3)).alloc (.cells #[.bool true] 4)).alloc (.cells #[.pointer (some ⟨tb, 0, none⟩)] 25)).drew = wA) :
    Boxed wA w2.heap.size 3 (.int .i64 0) ∧ Boxed wA (w2.heap.size + 1) 4 (.bool true) ∧ Boxed wA (w2.heap.size + 2) 25 (.pointer (some ⟨tb, 0, none⟩)) ∧ Below w2.heap.size w2 wA := by
  have x1 := ((Boxed.new w2 3 (.int .i64 0)).alloc (.cells #[.bool true] 4)).alloc (.cells #[.pointer (some ⟨tb, 0, none⟩)] 25)
  have x2 := (Boxed.new (w2.alloc (.cells #[.int .i64 0] 3)) 4 (.bool true)).alloc (.cells #[.pointer (some ⟨tb, 0, none⟩)] 25)
  have x3 := Boxed.new ((w2.alloc (.cells #[.int .i64 0] 3)).alloc (.cells #[.bool true] 4)) 25 (.pointer (some ⟨tb, 0, none⟩))
  simp only [World.size_alloc] at x1 x2 x3
  subst h
  exact ⟨x1, x2, x3, ((((Below.refl _ w2).alloc (Nat.le_refl _) _).alloc (by simp) _).alloc (by simp; omega) _).drew⟩
set_option maxRecDepth 100000 in
set_option maxHeartbeats 4000000 in
theorem keys_any {wr : World} (hT : TabS wr T tb bm most l) (hR : RefK wr p (most : Int) v l) (hpT : ¬ T p) : Calls Try.prog 25 #[.pointer (some ⟨tb, 0, none⟩), .pointer (some ⟨p, 0, none⟩)] wr fun e w' => e = .returned (.bool true) ∧ Below wr.heap.size wr w' := by
  have hb1 : Below wr.heap.size wr (wr.alloc (.cells #[.pointer (some ⟨p, 0, none⟩)] 36)) := (Below.refl _ _).alloc (Nat.le_refl _) _
  have hx1 := Boxed.new wr 36 (.pointer (some ⟨p, 0, none⟩))
  have hT1 := hT.below hb1
  have hR1 := hR.below hb1
  have hm2 := hT.m2
  have hlen := hT.len
  obtain ⟨B, hB⟩ : ∃ B, wr.heap.size = B := ⟨_, rfl⟩
  obtain ⟨w1, hw1⟩ : ∃ W, wr.alloc (.cells #[.pointer (some ⟨p, 0, none⟩)] 36) = W := ⟨_, rfl⟩
  have hs1 : w1.heap.size = B + 1 := by rw [← hw1, ← hB]; simp
  have hTB : ∀ x, T x → x < B := fun x hx => hB ▸ hT.slt x hx
  have hpB : p < B := hB ▸ hR.lt
  have hvB : 0 < l.length → ∀ g, v.ownBlock = some g → g < B := fun h0 g hg => hB ▸ hR.own_lt h0 hg
  rw [hw1] at hb1 hx1 hT1 hR1
  rw [hB] at hb1 hx1
  have hw1H := Lib.hid hw1
  have hBH := Lib.hid hB
  have hkeys := Lib.hid (Keys_S hT1)
  have hT1H := Lib.hid hT1
  have hR1H := Lib.hid hR1
  have hb1H := Lib.hid hb1
  clear hT hR hw1 hB hT1 hR1 hb1
  rw [hBH.out]
  go_enter Try.func25, Try.ntmps25
  go_wp2_with fail
  rw [hw1H.out, hBH.out]
  refine hkeys.out.mono ?_
  rintro e w2 ⟨vk, rfl, hrow, hb2⟩
  obtain ⟨n, hn⟩ : ∃ n, l.length = n := ⟨_, rfl⟩
  obtain ⟨ak, ck, rfl⟩ : ∃ ak ck, vk = .slice ak l.length ck := own_slice hrow
  obtain ⟨av, cv, rfl, hlc, hcm, _⟩ := hR1H.out.row
  rw [hn] at hrow hlc hlen
  rw [hn]
  have hnH := Lib.hid hn
  have hT2 := Lib.hid (hT1H.out.below hb2)
  have hR2 := Lib.hid (hR1H.out.below hb2)
  have hlenq : ∀ w, w = w2.drew → Calls Try.prog 17 #[.pointer (some ⟨tb, 0, none⟩)] w fun e w' => e = .returned (.int .i64 (n : Int)) ∧ w' = w := fun w hw => by
    subst hw; have := Len_S hT2.out.drew; rw [hn] at this; exact this
  have hlenH := Lib.hid hlenq
  have x2 : Boxed w2 B 36 (.pointer (some ⟨p, 0, none⟩)) := (hb2.block B (by omega)).trans hx1
  have c2 := hR2.out.c1
  rw [hn] at c2
  have xc := x2.cell
  have hnn : ((n : Int) != (n : Int)) = false := by simp
  have hs2 := hb2.size
  have hrowH := Lib.hid hrow
  have x2H := Lib.hid x2
  have hb2H := Lib.hid (hb1H.out.trans (hb2.mono (by omega)))
  have hcm' : (cv : Int) ≤ 9223372036854775807 := by unfold maxLen at hcm; omega
  have hckn : n ≤ ck ∧ ck ≤ maxLen := by
    rcases hrow.2 with ⟨hv, e⟩ | ⟨g, cap, cur, hv, _, _, h1, h2, _⟩
    · cases hv; exact ⟨by omega, by unfold maxLen; omega⟩
    · cases hv; exact ⟨h1, h2⟩
  clear hlenq hrow x2 hb2 hkeys hn hx1
  go_upto_region 2 with (fail)
  refine Rt.wp_region_text [0, 0, 1, 0, 0, 1, 0, 0, 0, 0, 1, 1, 0, 0, 1, 0, 0, 0] (by kernel_rfl) (by kernel_rfl) ?_
  apply txt_move rfl rfl; (· (simp only [Act.put, Act.eval, List.setIfInBounds_toArray, List.set_cons_zero, List.set_cons_succ, Array.getD_eq_getD_getElem?, List.getElem?_toArray, List.getElem?_cons_zero, List.getElem?_cons_succ, Option.getD_some, List.getElem_toArray, List.getElem_cons_succ, List.getElem_cons_zero]; with_reducible rfl))
  apply txt_pure rfl rfl rfl; (· (intro w; go_simp; with_reducible rfl)); (· (simp only [Act.put, Act.eval, List.setIfInBounds_toArray, List.set_cons_zero, List.set_cons_succ, Array.getD_eq_getD_getElem?, List.getElem?_toArray, List.getElem?_cons_zero, List.getElem?_cons_succ, Option.getD_some, List.getElem_toArray, List.getElem_cons_succ, List.getElem_cons_zero]; with_reducible rfl))
  apply txt_read rfl rfl rfl; (· (go_simp; with_reducible rfl)); (· (simp only [Act.put, Act.eval, List.setIfInBounds_toArray, List.set_cons_zero, List.set_cons_succ, Array.getD_eq_getD_getElem?, List.getElem?_toArray, List.getElem?_cons_zero, List.getElem?_cons_succ, Option.getD_some, List.getElem_toArray, List.getElem_cons_succ, List.getElem_cons_zero]; with_reducible rfl))
  apply txt_pure rfl rfl rfl; (· (intro w; go_simp; with_reducible rfl)); (· (simp only [Act.put, Act.eval, List.setIfInBounds_toArray, List.set_cons_zero, List.set_cons_succ, Array.getD_eq_getD_getElem?, List.getElem?_toArray, List.getElem?_cons_zero, List.getElem?_cons_succ, Option.getD_some, List.getElem_toArray, List.getElem_cons_succ, List.getElem_cons_zero]; with_reducible rfl))
  apply txt_pure rfl rfl rfl; (· (intro w; go_simp; with_reducible rfl)); (· (simp only [Act.put, Act.eval, List.setIfInBounds_toArray, List.set_cons_zero, List.set_cons_succ, Array.getD_eq_getD_getElem?, List.getElem?_toArray, List.getElem?_cons_zero, List.getElem?_cons_succ, Option.getD_some, List.getElem_toArray, List.getElem_cons_succ, List.getElem_cons_zero]; with_reducible rfl))
  apply txt_read rfl rfl rfl; (· (go_simp; with_reducible rfl)); (· (simp only [Act.put, Act.eval, List.setIfInBounds_toArray, List.set_cons_zero, List.set_cons_succ, Array.getD_eq_getD_getElem?, List.getElem?_toArray, List.getElem?_cons_zero, List.getElem?_cons_succ, Option.getD_some, List.getElem_toArray, List.getElem_cons_succ, List.getElem_cons_zero]; with_reducible rfl))
  apply txt_pure rfl rfl rfl; (· (intro w; go_simp; with_reducible rfl)); (· (simp only [Act.put, Act.eval, List.setIfInBounds_toArray, List.set_cons_zero, List.set_cons_succ, Array.getD_eq_getD_getElem?, List.getElem?_toArray, List.getElem?_cons_zero, List.getElem?_cons_succ, Option.getD_some, List.getElem_toArray, List.getElem_cons_succ, List.getElem_cons_zero]; with_reducible rfl))
  apply txt_pure rfl rfl rfl; (· (intro w; go_simp; with_reducible rfl)); (· (simp only [Act.put, Act.eval, List.setIfInBounds_toArray, List.set_cons_zero, List.set_cons_succ, Array.getD_eq_getD_getElem?, List.getElem?_toArray, List.getElem?_cons_zero, List.getElem?_cons_succ, Option.getD_some, List.getElem_toArray, List.getElem_cons_succ, List.getElem_cons_zero]; with_reducible rfl))
  apply txt_move rfl rfl; (· (simp only [Act.put, Act.eval, List.setIfInBounds_toArray, List.set_cons_zero, List.set_cons_succ, Array.getD_eq_getD_getElem?, List.getElem?_toArray, List.getElem?_cons_zero, List.getElem?_cons_succ, Option.getD_some, List.getElem_toArray, List.getElem_cons_succ, List.getElem_cons_zero]; with_reducible rfl))
  apply txt_pure rfl rfl rfl; (· (intro w; go_simp; with_reducible rfl)); (· (simp only [Act.put, Act.eval, List.setIfInBounds_toArray, List.set_cons_zero, List.set_cons_succ, Array.getD_eq_getD_getElem?, List.getElem?_toArray, List.getElem?_cons_zero, List.getElem?_cons_succ, Option.getD_some, List.getElem_toArray, List.getElem_cons_succ, List.getElem_cons_zero]; with_reducible rfl))
  apply txt_quiet rfl rfl rfl; (· (go_simp; exact ⟨rfl, rfl⟩)); (· (exact hlenH.out _ rfl)); (· (simp only [Act.put, Act.eval, List.setIfInBounds_toArray, List.set_cons_zero, List.set_cons_succ, Array.getD_eq_getD_getElem?, List.getElem?_toArray, List.getElem?_cons_zero, List.getElem?_cons_succ, Option.getD_some, List.getElem_toArray, List.getElem_cons_succ, List.getElem_cons_zero]; with_reducible rfl))
  apply txt_read rfl rfl rfl; (· (go_simp; with_reducible rfl)); (· (simp only [Act.put, Act.eval, List.setIfInBounds_toArray, List.set_cons_zero, List.set_cons_succ, Array.getD_eq_getD_getElem?, List.getElem?_toArray, List.getElem?_cons_zero, List.getElem?_cons_succ, Option.getD_some, List.getElem_toArray, List.getElem_cons_succ, List.getElem_cons_zero]; with_reducible rfl))
  apply txt_pure rfl rfl rfl; (· (intro w; go_simp; with_reducible rfl)); (· (simp only [Act.put, Act.eval, List.setIfInBounds_toArray, List.set_cons_zero, List.set_cons_succ, Array.getD_eq_getD_getElem?, List.getElem?_toArray, List.getElem?_cons_zero, List.getElem?_cons_succ, Option.getD_some, List.getElem_toArray, List.getElem_cons_succ, List.getElem_cons_zero]; with_reducible rfl))
  apply txt_pure rfl rfl rfl; (· (intro w; go_simp; with_reducible rfl)); (· (simp only [Act.put, Act.eval, List.setIfInBounds_toArray, List.set_cons_zero, List.set_cons_succ, Array.getD_eq_getD_getElem?, List.getElem?_toArray, List.getElem?_cons_zero, List.getElem?_cons_succ, Option.getD_some, List.getElem_toArray, List.getElem_cons_succ, List.getElem_cons_zero]; with_reducible rfl))
  apply txt_read rfl rfl rfl; (· (go_simp; with_reducible rfl)); (· (simp only [Act.put, Act.eval, List.setIfInBounds_toArray, List.set_cons_zero, List.set_cons_succ, Array.getD_eq_getD_getElem?, List.getElem?_toArray, List.getElem?_cons_zero, List.getElem?_cons_succ, Option.getD_some, List.getElem_toArray, List.getElem_cons_succ, List.getElem_cons_zero]; with_reducible rfl))
  apply txt_pure rfl rfl rfl; (· (intro w; go_simp; with_reducible rfl)); (· (simp only [Act.put, Act.eval, List.setIfInBounds_toArray, List.set_cons_zero, List.set_cons_succ, Array.getD_eq_getD_getElem?, List.getElem?_toArray, List.getElem?_cons_zero, List.getElem?_cons_succ, Option.getD_some, List.getElem_toArray, List.getElem_cons_succ, List.getElem_cons_zero]; with_reducible rfl))
  apply txt_pure rfl rfl rfl; (· (intro w; go_simp; with_reducible rfl)); (· (simp only [Act.put, Act.eval, List.setIfInBounds_toArray, List.set_cons_zero, List.set_cons_succ, Array.getD_eq_getD_getElem?, List.getElem?_toArray, List.getElem?_cons_zero, List.getElem?_cons_succ, Option.getD_some, List.getElem_toArray, List.getElem_cons_succ, List.getElem_cons_zero]; with_reducible rfl))
  apply txt_pure rfl rfl rfl; (· (intro w; go_simp; with_reducible rfl)); (· (simp only [Act.put, Act.eval, List.setIfInBounds_toArray, List.set_cons_zero, List.set_cons_succ, Array.getD_eq_getD_getElem?, List.getElem?_toArray, List.getElem?_cons_zero, List.getElem?_cons_succ, Option.getD_some, List.getElem_toArray, List.getElem_cons_succ, List.getElem_cons_zero]; with_reducible rfl))
  with_reducible refine txt_nil ?_
  go_wp2_with fail
  refine (All_any _ tb).mono ?_
  rintro e w3 ⟨rfl, rfl⟩
  have hmid := Lib.hid (keys_mid w2 tb)
  simp only [Nat.add_assoc, Nat.reduceAdd]
  go_wp2_with fail
  obtain ⟨wA, hwA⟩ : ∃ W, (((w2.alloc (.cells #[.int .i64 0] 3)).alloc (.cells #[.bool true] 4)).alloc (.cells #[.pointer (some ⟨tb, 0, none⟩)] 25)).drew = W := ⟨_, rfl⟩
  rw [hwA]
  obtain ⟨m1, m2, m3, m4⟩ := hmid.out wA hwA
  have hcall := keys_all (hT2.out.below m4) (hR2.out.below m4) hpT ((m4.block B x2H.out.lt).trans x2H.out) m1 m2 m3 hTB hvB hpB (by omega) (by omega) (by omega) (by omega)
  have hcallH := Lib.hid hcall
  have hmAH := Lib.hid m4
  clear hcall hmid m1 m2 m3 m4 hwA c2 xc hlenH
  refine hcallH.out.mono ?_
  rintro e w5 ⟨rfl, hb5, bg5, bi5⟩
  have hb25 : Hid (Below w2.heap.size w2 w5) := Lib.hid (hmAH.out.trans hb5)
  have hrow5 := Lib.hid (own_keep hrowH.out (fun x hx => hb25.out.block x (own_lt hrowH.out hx)))
  have hR5 := Lib.hid (hR2.out.below hb25.out)
  have x5 : Hid (Boxed w5 B 36 (.pointer (some ⟨p, 0, none⟩))) := Lib.hid ((hb25.out.block B x2H.out.lt).trans x2H.out)
  have g5 := Lib.hid bg5
  have i5 := Lib.hid bi5
  have hckn' : (n : Int) ≤ 9223372036854775807 := by omega
  clear hcallH hb5 bg5 bi5 hmAH hrowH hT2 hR2 x2H hT1H hR1H
  go_wp2
  go_loopw [9] (fun i wr' => ∃ k : Nat, i = .int .i64 k ∧ k ≤ n ∧ Hid (Below w5.heap.size w5 wr')) (fun i _ => n - (intOf i).toNat)
  case atStart => exact ⟨0, rfl, Nat.zero_le _, Lib.hid (Below.refl _ _)⟩
  case round =>
    obtain ⟨k, rfl, hk, hbr⟩ := hrel
    have hRr := hR5.out.below hbr.out
    have c1 := hRr.c1
    rw [hnH.out] at c1
    have xr := (hbr.out.cell (p := ⟨B, 0, none⟩) x5.out.lt).trans x5.out.cell
    have gr := (hbr.out.cell (p := ⟨w2.heap.size + 1, 0, none⟩) g5.out.lt).trans g5.out.cell
    have ir := (hbr.out.cell (p := ⟨w2.heap.size, 0, none⟩) i5.out.lt).trans i5.out.cell
    by_cases hkn : k < n
    · have hkn' : (k : Int) < n := by omega
      obtain ⟨bv, ov, hav, r1, r2⟩ := hRr.row.at k (by rw [hnH.out]; exact hkn)
      subst hav
      have hkl : k < l.length := by rw [hnH.out]; exact hkn
      obtain ⟨b, rfl, qk⟩ : ∃ b, ak = some ⟨b, 0, none⟩ ∧ wr.cell? ⟨b, k, none⟩ = some (.string (gk l k).1) := by
        rcases hrow5.out.2 with ⟨_, e⟩ | ⟨g', cap, cur, hv, hg, hh, r⟩
        · omega
        · cases hv
          have hc := hrow5.out.cellAt k (by rw [Nat.mul_one]; exact hkn)
          refine ⟨g', rfl, ?_⟩
          rw [hbr.out.cell (p := ⟨g', k, none⟩) (Array.getElem?_eq_some_iff.1 hh).1, hc]
          simp [List.getD_eq_getElem?_getD, List.getElem?_map, List.getElem?_eq_getElem hkl, gk_eq hkl]
      obtain ⟨y, hy⟩ : ∃ y, (gk l k).1 = y := ⟨_, rfl⟩
      rw [hy] at r1 qk
      have hee : (y.toList == y.toList) = true := by simp
      have hkw := Tb.wr (show -9223372036854775808 ≤ (k : Int) + 1 by omega) (by omega)
      have hkv : (k : Int) < cv := by omega
      have hkc : (k : Int) < ck := by omega
      clear hRr r2 hy gr ir
      go_upto_region 11 with (fail)
      refine Rt.wp_region_text [0, 0, 0, 1, 1, 0, 0, 1, 0, 0, 0, 1, 0] (by kernel_rfl) (by kernel_rfl) ?_
      apply txt_move rfl rfl; (· (simp only [Act.put, Act.eval, List.setIfInBounds_toArray, List.set_cons_zero, List.set_cons_succ, Array.getD_eq_getD_getElem?, List.getElem?_toArray, List.getElem?_cons_zero, List.getElem?_cons_succ, Option.getD_some, List.getElem_toArray, List.getElem_cons_succ, List.getElem_cons_zero]; with_reducible rfl))
      apply txt_move rfl rfl; (· (simp only [Act.put, Act.eval, List.setIfInBounds_toArray, List.set_cons_zero, List.set_cons_succ, Array.getD_eq_getD_getElem?, List.getElem?_toArray, List.getElem?_cons_zero, List.getElem?_cons_succ, Option.getD_some, List.getElem_toArray, List.getElem_cons_succ, List.getElem_cons_zero]; with_reducible rfl))
      apply txt_pure rfl rfl rfl; (· (intro w; go_simp; with_reducible rfl)); (· (simp only [Act.put, Act.eval, List.setIfInBounds_toArray, List.set_cons_zero, List.set_cons_succ, Array.getD_eq_getD_getElem?, List.getElem?_toArray, List.getElem?_cons_zero, List.getElem?_cons_succ, Option.getD_some, List.getElem_toArray, List.getElem_cons_succ, List.getElem_cons_zero]; with_reducible rfl))
      apply txt_read rfl rfl rfl; (· (go_simp; with_reducible rfl)); (· (simp only [Act.put, Act.eval, List.setIfInBounds_toArray, List.set_cons_zero, List.set_cons_succ, Array.getD_eq_getD_getElem?, List.getElem?_toArray, List.getElem?_cons_zero, List.getElem?_cons_succ, Option.getD_some, List.getElem_toArray, List.getElem_cons_succ, List.getElem_cons_zero]; with_reducible rfl))
      apply txt_read rfl rfl rfl; (· (go_simp; with_reducible rfl)); (· (simp only [Act.put, Act.eval, List.setIfInBounds_toArray, List.set_cons_zero, List.set_cons_succ, Array.getD_eq_getD_getElem?, List.getElem?_toArray, List.getElem?_cons_zero, List.getElem?_cons_succ, Option.getD_some, List.getElem_toArray, List.getElem_cons_succ, List.getElem_cons_zero]; with_reducible rfl))
      apply txt_pure rfl rfl rfl; (· (intro w; go_simp; with_reducible rfl)); (· (simp only [Act.put, Act.eval, List.setIfInBounds_toArray, List.set_cons_zero, List.set_cons_succ, Array.getD_eq_getD_getElem?, List.getElem?_toArray, List.getElem?_cons_zero, List.getElem?_cons_succ, Option.getD_some, List.getElem_toArray, List.getElem_cons_succ, List.getElem_cons_zero]; with_reducible rfl))
      apply txt_pure rfl rfl rfl; (· (intro w; go_simp; with_reducible rfl)); (· (simp only [Act.put, Act.eval, List.setIfInBounds_toArray, List.set_cons_zero, List.set_cons_succ, Array.getD_eq_getD_getElem?, List.getElem?_toArray, List.getElem?_cons_zero, List.getElem?_cons_succ, Option.getD_some, List.getElem_toArray, List.getElem_cons_succ, List.getElem_cons_zero]; with_reducible rfl))
      apply txt_read rfl rfl rfl; (· (go_simp; with_reducible rfl)); (· (simp only [Act.put, Act.eval, List.setIfInBounds_toArray, List.set_cons_zero, List.set_cons_succ, Array.getD_eq_getD_getElem?, List.getElem?_toArray, List.getElem?_cons_zero, List.getElem?_cons_succ, Option.getD_some, List.getElem_toArray, List.getElem_cons_succ, List.getElem_cons_zero]; with_reducible rfl))
      apply txt_move rfl rfl; (· (simp only [Act.put, Act.eval, List.setIfInBounds_toArray, List.set_cons_zero, List.set_cons_succ, Array.getD_eq_getD_getElem?, List.getElem?_toArray, List.getElem?_cons_zero, List.getElem?_cons_succ, Option.getD_some, List.getElem_toArray, List.getElem_cons_succ, List.getElem_cons_zero]; with_reducible rfl))
      apply txt_pure rfl rfl rfl; (· (intro w; go_simp; with_reducible rfl)); (· (simp only [Act.put, Act.eval, List.setIfInBounds_toArray, List.set_cons_zero, List.set_cons_succ, Array.getD_eq_getD_getElem?, List.getElem?_toArray, List.getElem?_cons_zero, List.getElem?_cons_succ, Option.getD_some, List.getElem_toArray, List.getElem_cons_succ, List.getElem_cons_zero]; with_reducible rfl))
      apply txt_pure rfl rfl rfl; (· (intro w; go_simp; with_reducible rfl)); (· (simp only [Act.put, Act.eval, List.setIfInBounds_toArray, List.set_cons_zero, List.set_cons_succ, Array.getD_eq_getD_getElem?, List.getElem?_toArray, List.getElem?_cons_zero, List.getElem?_cons_succ, Option.getD_some, List.getElem_toArray, List.getElem_cons_succ, List.getElem_cons_zero]; with_reducible rfl))
      apply txt_read rfl rfl rfl; (· (go_simp; with_reducible rfl)); (· (simp only [Act.put, Act.eval, List.setIfInBounds_toArray, List.set_cons_zero, List.set_cons_succ, Array.getD_eq_getD_getElem?, List.getElem?_toArray, List.getElem?_cons_zero, List.getElem?_cons_succ, Option.getD_some, List.getElem_toArray, List.getElem_cons_succ, List.getElem_cons_zero]; with_reducible rfl))
      apply txt_pure rfl rfl rfl; (· (intro w; go_simp; with_reducible rfl)); (· (simp only [Act.put, Act.eval, List.setIfInBounds_toArray, List.set_cons_zero, List.set_cons_succ, Array.getD_eq_getD_getElem?, List.getElem?_toArray, List.getElem?_cons_zero, List.getElem?_cons_succ, Option.getD_some, List.getElem_toArray, List.getElem_cons_succ, List.getElem_cons_zero]; with_reducible rfl))
      with_reducible refine txt_nil ?_
      go_wp2
      go_roundw
      case rel => exact ⟨k + 1, by go_num, by omega, Lib.hid hbr.out.drew⟩
      case measure => first | (simp [intOf]; done) | (simp [intOf]; omega)
    · obtain rfl : k = n := by omega
      have hkn' : ¬ (k : Int) < k := by omega
      rw [hnH.out] at ir
      have hkk : ((k : Int) == (k : Int)) = true := by simp
      clear hRr c1 xr
      go_wp2
      go_ret
      exact ⟨rfl, (hb2H.out.trans (hb25.out.mono (by omega))).trans (hbr.out.mono (by have := hb25.out.size; omega))⟩
end
end Go.Proofs.Ytmgapdbfaoflmaa.Tb
