/- The table: Put of what is new, where there is room. -/
import Derived.Test.YticijejnemnmlaaInS
namespace Go.Proofs.Yticijejnemnmlaa.If
open Go.RowKit Rt
set_option linter.unusedSimpArgs false
set_option linter.unusedVariables false
theorem PLt.no_of {f : Ad → Option Nat} {L : List Nd} {k : Ad} (hp : PLt f L) (hno : ∀ p ∈ L, p.2.1 ≠ k) : f k = none := by
  cases hf : f k with
  | none => rfl
  | some j => obtain ⟨v, hv⟩ := (hp k j).1 hf; exact absurd rfl (hno _ hv)
theorem put_mid {w : World} {tb bm : Nat} {most : Int} {L : List Nd} (h : TabL w tb bm most L) (hn : L.length < maxLen) {k : Ad} (hk : k.ok) (hno : ∀ p ∈ L, p.2.1 ≠ k) (s : Sv) {n : Nat} (hnn : w.heap.size = n) {w1 : World} (hw1 : w.alloc (.cells #[.bool k.v6, .int .u64 k.hi, .int .u64 k.lo, .int .i64 0, .int .i64 0, .int .i64 0, .slice none 0 0, .int .i64 0, .pointer none, .pointer none] 90) = w1) :
    ∃ w2, (Instr.mapUpdate 87 (.map (some bm)) k.val (nod n)).run Try.prog w1.drew = .ok () w2 ∧ w1.cell? ⟨tb, 1, none⟩ = some (.map (some bm)) ∧ CellsAt w2 n 3 zeroS.cs ∧ Shp w2 n ∧ Kept (fun x => x = bm) w w2 ∧
      ∃ nx la f, TabAt (set5 w2 n 3 s) tb bm most L nx la ∧ NodeAt (set5 w2 n 3 s) n k s ∧ n ∉ tb :: L.map (·.1) ∧ n ≠ bm ∧
        MapAP (set5 w2 n 3 s) bm (L.length + 1) f ∧ (∀ u, PLt f ((n, k, u) :: L)) ∧ Kept (fun x => x = bm) w (set5 w2 n 3 s) := by
  obtain ⟨nx, la, h1⟩ := h.ring
  obtain ⟨f, h2, h3⟩ := h.map
  have hf := h3.no_of hno
  have hh : w1.heap[n]? = some (.cells #[.bool k.v6, .int .u64 k.hi, .int .u64 k.lo, .int .i64 0, .int .i64 0, .int .i64 0, .slice none 0 0, .int .i64 0, .pointer none, .pointer none] 90 (0, 0)) := by rw [← hw1, ← hnn]; exact Array.getElem?_push_size
  have hb1 : Below w.heap.size w w1 := hw1 ▸ (Below.refl _ _).alloc (Nat.le_refl _) _
  have hm1 := (h2.keep (hb1.block bm h2.lt)).keep (w' := w1.drew) rfl
  obtain ⟨w2, r1, r2, r3⟩ := hm1.put1 hk n hn
  rw [hf] at r2
  have hg := r3.grown
  have hlt := h.lt
  have hnb : n ≠ bm := by have := h2.lt; omega
  have hs1 := hb1.size
  have hn1 : n < w1.heap.size := (Array.getElem?_eq_some_iff.1 hh).1
  have hh2 : w2.heap[n]? = some (.cells #[.bool k.v6, .int .u64 k.hi, .int .u64 k.lo, .int .i64 0, .int .i64 0, .int .i64 0, .slice none 0 0, .int .i64 0, .pointer none, .pointer none] 90 (0, 0)) := (hg.block n hn1 (fun e => hnb (Option.some.inj e))).trans hh
  have hnL : n ∉ tb :: L.map (·.1) := fun e => by
    have := h1.lt n (List.mem_cons.1 e); omega
  have hN2 : NodeAt w2 n k zeroS := by
    refine ⟨fun j u hj => ?_, fun j u hj => ?_, ⟨.pointer none, by simp [World.cell?, hh2]⟩, ⟨.pointer none, by simp [World.cell?, hh2]⟩, ⟨_, _, hh2⟩⟩
    · have := (List.getElem?_eq_some_iff.1 hj).1
      simp only [Ad.cs, List.length_cons, List.length_nil] at this
      match j, hj with
      | 0, hj => simp [Ad.cs] at hj; subst hj; simp [World.cell?, hh2]
      | 1, hj => simp [Ad.cs] at hj; subst hj; simp [World.cell?, hh2]
      | 2, hj => simp [Ad.cs] at hj; subst hj; simp [World.cell?, hh2]
    · have := (List.getElem?_eq_some_iff.1 hj).1
      simp only [Sv.cs, List.length_cons, List.length_nil] at this
      match j, hj with
      | 0, hj => simp [Sv.cs, zeroS] at hj; subst hj; simp [World.cell?, hh2]
      | 1, hj => simp [Sv.cs, zeroS] at hj; subst hj; simp [World.cell?, hh2]
      | 2, hj => simp [Sv.cs, zeroS] at hj; subst hj; simp [World.cell?, hh2]
      | 3, hj => simp [Sv.cs, zeroS] at hj; subst hj; simp [World.cell?, hh2]
      | 4, hj => simp [Sv.cs, zeroS] at hj; subst hj; simp [World.cell?, hh2]
  have hk2 : Kept (fun x => x = bm) w w2 := Kept.turned (S := fun x => x = bm) (Kept.of_below hb1).drew r3 (.inl rfl)
  have hk5 : Kept (fun x => x = n) w2 (set5 w2 n 3 s) := set5_kept (Kept.refl _ _) (.inl rfl)
  have hblk : ∀ x, x = tb ∨ x ∈ L.map (·.1) → (set5 w2 n 3 s).heap[x]? = w.heap[x]? := by
    intro x hx
    have hxl := h1.lt x hx
    have hxn : x ≠ bm := h.bmn x hx
    exact (hk5.block x (by have := hk2.size; omega) (fun e => by omega)).trans (hk2.block x hxl hxn)
  refine ⟨w2, r1, ?_, hN2.val, hN2.shp, hk2, nx, la, _, h1.keep hblk, hN2.set, hnL, hnb, r2.keep (hk5.block bm r2.lt (Ne.symm hnb)), fun u => h3.put hf, set5_kept hk2 (.inr (by omega))⟩
  exact (World.cell?_of_block (hb1.block tb (hlt tb (.inl rfl)))).trans h1.c1
set_option maxRecDepth 100000 in
set_option maxHeartbeats 2000000 in
theorem Put_new {w : World} {tb bm : Nat} {most : Int} {L : List Nd} (h : TabL w tb bm most L) (hm0 : (L.length : Int) < most) (hmx : most ≤ 100000) {k : Ad} (hk : k.ok) (hno : ∀ p ∈ L, p.2.1 ≠ k) (s : Sv) :
    Calls Try.prog 45 #[.pointer (some ⟨tb, 0, none⟩), k.val, s.val] w fun e w' => (∃ u, e = .returned u) ∧ TabL w' tb bm most ((w.heap.size + 3, k, s) :: L) ∧ Kept (MineL tb bm L) w w' := by
  obtain ⟨W, hW⟩ : ∃ W, ((w.alloc (.cells #[.bool k.v6, .int .u64 k.hi, .int .u64 k.lo] 31)).alloc (.cells #[.int .i64 s.x0, .int .i64 s.x1, .int .i64 s.x2, .slice s.la s.ln s.lc, .int .i64 s.pl] 59)).alloc (.cells #[.bool false, .int .u64 0, .int .u64 0] 31) = W := ⟨_, rfl⟩
  obtain ⟨hB, k1, k2, k3, k4, hs⟩ := put_mid0 w k s hW
  have hlt := h.lt
  have hbmN : Hid (bm < w.heap.size) := Lib.hid (h.lt bm (.inr (.inl rfl)))
  have h' := h.keep (w' := W.drew) (fun x hx => hB.block x (h.lt x hx))
  have hWs : W.drew.heap.size = w.heap.size + 3 := hs
  obtain ⟨n, hnn⟩ : ∃ n, w.heap.size + 3 = n := ⟨_, rfl⟩
  rw [hnn] at hWs hs ⊢
  obtain ⟨w1, hw1⟩ : ∃ w1, W.drew.alloc (.cells #[.bool k.v6, .int .u64 k.hi, .int .u64 k.lo, .int .i64 0, .int .i64 0, .int .i64 0, .slice none 0 0, .int .i64 0, .pointer none, .pointer none] 90) = w1 := ⟨_, rfl⟩
  obtain ⟨w2, hup, c1', z, zs, hkw2, nx1, la1, f1, hT1, hN1, hnL, hnb, hm1, hpl1, hk1⟩ := put_mid h' (by unfold maxLen; omega) hk hno s hWs hw1
  have hw1' : (W.alloc (.cells #[.bool k.v6, .int .u64 k.hi, .int .u64 k.lo, .int .i64 0, .int .i64 0, .int .i64 0, .slice none 0 0, .int .i64 0, .pointer none, .pointer none] 90)).drew = w1 := hw1
  obtain ⟨nx, la, h1⟩ := h'.ring
  obtain ⟨f, hm, hp⟩ := h'.map
  have hl := hm.look hk
  rw [hp.no_of hno] at hl
  replace hl : (Instr.lookup 87 (.map (some bm)) (.agg #[.bool k.v6, .int .u64 k.hi, .int .u64 k.lo]) true).run Try.prog W.drew = .ok (.tuple #[.pointer none, .bool false]) W.drew := hl
  have c1 : W.cell? ⟨tb, 1, none⟩ = some (.map (some bm)) := h1.c1
  have hszH := Lib.hid h'.sz
  have hfr0 := front_T hT1 hN1 hnL
  rw [set5_3] at hfr0
  have hfr := Lib.hid hfr0
  have hm0H := Lib.hid hm0
  have hbmH := Lib.hid h'.bmn
  obtain ⟨q0, q1, q2⟩ := k1.three
  obtain ⟨kb, hkb⟩ : ∃ b, w.heap.size = b := ⟨_, rfl⟩
  have hWH := Lib.hid hW
  have hkbH := Lib.hid hkb
  have hBH := Lib.hid hB
  rw [hkb] at q0 q1 q2 k2 k3 k4 hnn hbmN
  simp only [Nat.zero_add] at q0 q1 q2
  have k1w : CellsAt w1 kb 0 k.cs := by
    rw [← hkb, ← hw1]
    exact k1.drew.keep (Below.heap_alloc _ _ _ (by omega))
  have k2H := Lib.hid k2
  have k3H := Lib.hid k3
  have k4H := Lib.hid k4
  have hkbl : ∀ x, x = tb ∨ x ∈ L.map (·.1) → x < kb := fun x hx => by rw [← hkb]; exact hlt x (hx.imp id .inr)
  obtain ⟨y0, y1, y2⟩ := k1w.three
  simp only [Nat.zero_add] at y0 y1 y2
  have hnnH := Lib.hid hnn
  replace hup : (Instr.mapUpdate 87 (.map (some bm)) (.agg #[.bool k.v6, .int .u64 k.hi, .int .u64 k.lo]) (.pointer (some ⟨n, 0, none⟩))).run Try.prog w1.drew = .ok () w2 := hup
  obtain ⟨z0, z1, z2, z3, z4⟩ := z.five
  simp only [Nat.reduceAdd] at z0 z1 z2 z3 z4
  have g1 := fun j => zs.frz j
  have k2w : CellsAt w2 (kb + 1) 0 s.cs := k2.drew.kept hkw2 (by omega) (fun e => by have := hbmN.out; omega)
  obtain ⟨s0, s1, s2, s3, s4⟩ := k2w.five
  simp only [Nat.zero_add, Nat.reduceAdd] at s0 s1 s2 s3 s4
  have hk1H := Lib.hid hk1
  have hm1H := Lib.hid hm1
  have hnot : ∀ x, x = tb ∨ x ∈ L.map (·.1) → x ≠ n := fun x hx => by have := hkbl x hx; omega
  clear h h' hm0 h1 hm hp hT1 hN1 hno k1 k2 k3 k4 hW hkb hB hlt hfr0 z zs k2w k1w hkw2 hk1 hm1 hw1
  go_enter Try.func45, Try.ntmps45
  unfold Ad.val Sv.val
  go_upto_region 1 with (fail)
  rw [hWH.out, hkbH.out]
  refine Rt.wp_region_text [0, 0, 0, 1, 1, 1, 0, 0, 0, 0, 0] (by kernel_rfl) (by kernel_rfl) ?_
  apply txt_move rfl rfl; (· (simp only [Act.put, Act.eval, List.setIfInBounds_toArray, List.set_cons_zero, List.set_cons_succ, Array.getD_eq_getD_getElem?, List.getElem?_toArray, List.getElem?_cons_zero, List.getElem?_cons_succ, Option.getD_some, List.getElem_toArray, List.getElem_cons_succ, List.getElem_cons_zero]; with_reducible rfl))
  apply txt_pure rfl rfl rfl; (· (intro w; go_simp; with_reducible rfl)); (· (simp only [Act.put, Act.eval, List.setIfInBounds_toArray, List.set_cons_zero, List.set_cons_succ, Array.getD_eq_getD_getElem?, List.getElem?_toArray, List.getElem?_cons_zero, List.getElem?_cons_succ, Option.getD_some, List.getElem_toArray, List.getElem_cons_succ, List.getElem_cons_zero]; with_reducible rfl))
  apply txt_pure rfl rfl rfl; (· (intro w; go_simp; with_reducible rfl)); (· (simp only [Act.put, Act.eval, List.setIfInBounds_toArray, List.set_cons_zero, List.set_cons_succ, Array.getD_eq_getD_getElem?, List.getElem?_toArray, List.getElem?_cons_zero, List.getElem?_cons_succ, Option.getD_some, List.getElem_toArray, List.getElem_cons_succ, List.getElem_cons_zero]; with_reducible rfl))
  apply txt_read rfl rfl rfl; (· (go_simp; with_reducible rfl)); (· (simp only [Act.put, Act.eval, List.setIfInBounds_toArray, List.set_cons_zero, List.set_cons_succ, Array.getD_eq_getD_getElem?, List.getElem?_toArray, List.getElem?_cons_zero, List.getElem?_cons_succ, Option.getD_some, List.getElem_toArray, List.getElem_cons_succ, List.getElem_cons_zero]; with_reducible rfl))
  apply txt_read rfl rfl rfl; (· (go_simp; with_reducible rfl)); (· (simp only [Act.put, Act.eval, List.setIfInBounds_toArray, List.set_cons_zero, List.set_cons_succ, Array.getD_eq_getD_getElem?, List.getElem?_toArray, List.getElem?_cons_zero, List.getElem?_cons_succ, Option.getD_some, List.getElem_toArray, List.getElem_cons_succ, List.getElem_cons_zero]; with_reducible rfl))
  apply txt_read rfl rfl rfl; (· (go_simp; with_reducible rfl)); (· (simp only [Act.put, Act.eval, List.setIfInBounds_toArray, List.set_cons_zero, List.set_cons_succ, Array.getD_eq_getD_getElem?, List.getElem?_toArray, List.getElem?_cons_zero, List.getElem?_cons_succ, Option.getD_some, List.getElem_toArray, List.getElem_cons_succ, List.getElem_cons_zero]; with_reducible rfl))
  apply txt_move rfl rfl; (· (simp only [Act.put, Act.eval, List.setIfInBounds_toArray, List.set_cons_zero, List.set_cons_succ, Array.getD_eq_getD_getElem?, List.getElem?_toArray, List.getElem?_cons_zero, List.getElem?_cons_succ, Option.getD_some, List.getElem_toArray, List.getElem_cons_succ, List.getElem_cons_zero]; with_reducible rfl))
  apply txt_pure rfl rfl rfl; (· (intro w; go_simp; with_reducible rfl)); (· (simp only [Act.put, Act.eval, List.setIfInBounds_toArray, List.set_cons_zero, List.set_cons_succ, Array.getD_eq_getD_getElem?, List.getElem?_toArray, List.getElem?_cons_zero, List.getElem?_cons_succ, Option.getD_some, List.getElem_toArray, List.getElem_cons_succ, List.getElem_cons_zero]; with_reducible rfl))
  apply txt_pure rfl rfl rfl; (· (intro w; go_simp; with_reducible rfl)); (· (simp only [Act.put, Act.eval, List.setIfInBounds_toArray, List.set_cons_zero, List.set_cons_succ, Array.getD_eq_getD_getElem?, List.getElem?_toArray, List.getElem?_cons_zero, List.getElem?_cons_succ, Option.getD_some, List.getElem_toArray, List.getElem_cons_succ, List.getElem_cons_zero]; with_reducible rfl))
  apply txt_assign rfl rfl; (· (simp only [Act.put, Act.eval, List.setIfInBounds_toArray, List.set_cons_zero, List.set_cons_succ, Array.getD_eq_getD_getElem?, List.getElem?_toArray, List.getElem?_cons_zero, List.getElem?_cons_succ, Option.getD_some, List.getElem_toArray, List.getElem_cons_succ, List.getElem_cons_zero]; with_reducible rfl))
  apply txt_assign rfl rfl; (· (simp only [Act.put, Act.eval, List.setIfInBounds_toArray, List.set_cons_zero, List.set_cons_succ, Array.getD_eq_getD_getElem?, List.getElem?_toArray, List.getElem?_cons_zero, List.getElem?_cons_succ, Option.getD_some, List.getElem_toArray, List.getElem_cons_succ, List.getElem_cons_zero]; with_reducible rfl))
  with_reducible refine txt_nil ?_
  go_upto_region 5 with (fail)
  refine Rt.wp_region_text [0, 0, 0, 1, 1, 0, 2] (by kernel_rfl) (by kernel_rfl) ?_
  apply txt_move rfl rfl; (· (simp only [Act.put, Act.eval, List.setIfInBounds_toArray, List.set_cons_zero, List.set_cons_succ, Array.getD_eq_getD_getElem?, List.getElem?_toArray, List.getElem?_cons_zero, List.getElem?_cons_succ, Option.getD_some, List.getElem_toArray, List.getElem_cons_succ, List.getElem_cons_zero]; with_reducible rfl))
  apply txt_pure rfl rfl rfl; (· (intro w; go_simp; with_reducible rfl)); (· (simp only [Act.put, Act.eval, List.setIfInBounds_toArray, List.set_cons_zero, List.set_cons_succ, Array.getD_eq_getD_getElem?, List.getElem?_toArray, List.getElem?_cons_zero, List.getElem?_cons_succ, Option.getD_some, List.getElem_toArray, List.getElem_cons_succ, List.getElem_cons_zero]; with_reducible rfl))
  apply txt_pure rfl rfl rfl; (· (intro w; go_simp; with_reducible rfl)); (· (simp only [Act.put, Act.eval, List.setIfInBounds_toArray, List.set_cons_zero, List.set_cons_succ, Array.getD_eq_getD_getElem?, List.getElem?_toArray, List.getElem?_cons_zero, List.getElem?_cons_succ, Option.getD_some, List.getElem_toArray, List.getElem_cons_succ, List.getElem_cons_zero]; with_reducible rfl))
  apply txt_read rfl rfl rfl; (· (go_simp; with_reducible rfl)); (· (simp only [Act.put, Act.eval, List.setIfInBounds_toArray, List.set_cons_zero, List.set_cons_succ, Array.getD_eq_getD_getElem?, List.getElem?_toArray, List.getElem?_cons_zero, List.getElem?_cons_succ, Option.getD_some, List.getElem_toArray, List.getElem_cons_succ, List.getElem_cons_zero]; with_reducible rfl))
  apply txt_read rfl rfl rfl; (· (go_simp; with_reducible rfl)); (· (simp only [Act.put, Act.eval, List.setIfInBounds_toArray, List.set_cons_zero, List.set_cons_succ, Array.getD_eq_getD_getElem?, List.getElem?_toArray, List.getElem?_cons_zero, List.getElem?_cons_succ, Option.getD_some, List.getElem_toArray, List.getElem_cons_succ, List.getElem_cons_zero]; with_reducible rfl))
  apply txt_move rfl rfl; (· (simp only [Act.put, Act.eval, List.setIfInBounds_toArray, List.set_cons_zero, List.set_cons_succ, Array.getD_eq_getD_getElem?, List.getElem?_toArray, List.getElem?_cons_zero, List.getElem?_cons_succ, Option.getD_some, List.getElem_toArray, List.getElem_cons_succ, List.getElem_cons_zero]; with_reducible rfl))
  apply txt_do rfl rfl rfl; (· (go_simp; with_reducible rfl)); (· (simp only [Act.put, Act.eval, List.setIfInBounds_toArray, List.set_cons_zero, List.set_cons_succ, Array.getD_eq_getD_getElem?, List.getElem?_toArray, List.getElem?_cons_zero, List.getElem?_cons_succ, Option.getD_some, List.getElem_toArray, List.getElem_cons_succ, List.getElem_cons_zero]; with_reducible rfl))
  with_reducible refine txt_nil ?_
  clear q0 q1 q2 y0 y1 y2 c1 c1' hl hup hw1'
  go_wp2_with fail
  refine hfr.out.mono ?_
  rintro e w3 ⟨rfl, nx2, la2, h2, hk2⟩
  have hkM0 : Kept (fun x => x = bm) W.drew (set5 w2 n 3 s) := hk1H.out
  rw [set5_3] at hkM0
  have hk12 : Kept (MineL tb bm L) W.drew w3 := thenAt (hkM0.mono fun x _ e => Or.inr (Or.inl e)) hk2 (fun x hx e => by
    rcases e with e | e | e
    · exact .inl e
    · omega
    · exact .inr (.inr e))
  have hm2 : MapAP w3 bm (L.length + 1) f1 := by
    have h5 := hm1H.out
    rw [set5_3] at h5
    exact h5.keep (hk2.block bm h5.lt (by
      rintro (e | e | e)
      · exact hbmH.out bm (.inl e) rfl
      · exact hnb e.symm
      · exact hbmH.out bm (.inr e) rfl))
  have hT : TabL w3 tb bm most ((n, k, s) :: L) := by
    refine ⟨⟨nx2, la2, h2⟩, ⟨f1, hm2, hpl1 s⟩, fun q hq => ?_⟩
    rcases List.mem_cons.1 hq with e | e
    · subst e; exact hk
    · exact hszH.out q e
  have d0 := h2.c0
  have d1 := h2.c1
  have hlen := fun ty => (hm2.keep (w' := w3.drew) rfl).len ty
  obtain ⟨m, hml⟩ : ∃ m, L.length + 1 = m := ⟨_, rfl⟩
  have hle : (m : Int) ≤ most := by have := hm0H.out; omega
  rw [hml] at hlen
  have hrb : ¬ MineL tb bm L (kb + 2) := by
    rintro (e | e | e)
    · have := hkbl _ (.inl e); omega
    · have := hbmN.out; omega
    · have := hkbl _ (.inr e); omega
  have hr := k3H.out.drew.kept hk12 (by rw [hWs]; omega) hrb
  have hrH := Lib.hid hr
  have hsh2 : Shp w3 (kb + 2) := Shp.keep (show Shp W.drew (kb + 2) from k4H.out) (hk12.block _ (by rw [hWs]; omega) hrb)
  obtain ⟨r0, r1, r2⟩ := hr.three
  simp only [Nat.zero_add, Nat.reduceAdd] at r0 r1 r2
  have g2 := fun j => hsh2.frz j
  have hw2s : kb + 3 ≤ w3.heap.size := by have := hk12.size; omega
  have hne1 : kb + 2 ≠ w3.heap.size := by omega
  have hne2 : kb + 2 < w3.heap.size := by omega
  have hkW : Hid (Kept (MineL tb bm L) w w3) := Lib.hid (((Kept.of_below hBH.out).drew).trans (hk12.mono fun x _ e => e))
  clear hfr h2 g1 hml hm2 z0 z1 z2 z3 z4 s0 s1 s2 s3 s4 hk12 hr hsh2 hkM0 hk2
  go_upto_region 8 with (fail)
  refine Rt.wp_region_text [0, 0, 0, 1, 1, 0, 0, 0, 1, 0] (by kernel_rfl) (by kernel_rfl) ?_
  apply txt_move rfl rfl; (· (simp only [Act.put, Act.eval, List.setIfInBounds_toArray, List.set_cons_zero, List.set_cons_succ, Array.getD_eq_getD_getElem?, List.getElem?_toArray, List.getElem?_cons_zero, List.getElem?_cons_succ, Option.getD_some, List.getElem_toArray, List.getElem_cons_succ, List.getElem_cons_zero]; with_reducible rfl))
  apply txt_pure rfl rfl rfl; (· (intro w; go_simp; with_reducible rfl)); (· (simp only [Act.put, Act.eval, List.setIfInBounds_toArray, List.set_cons_zero, List.set_cons_succ, Array.getD_eq_getD_getElem?, List.getElem?_toArray, List.getElem?_cons_zero, List.getElem?_cons_succ, Option.getD_some, List.getElem_toArray, List.getElem_cons_succ, List.getElem_cons_zero]; with_reducible rfl))
  apply txt_pure rfl rfl rfl; (· (intro w; go_simp; with_reducible rfl)); (· (simp only [Act.put, Act.eval, List.setIfInBounds_toArray, List.set_cons_zero, List.set_cons_succ, Array.getD_eq_getD_getElem?, List.getElem?_toArray, List.getElem?_cons_zero, List.getElem?_cons_succ, Option.getD_some, List.getElem_toArray, List.getElem_cons_succ, List.getElem_cons_zero]; with_reducible rfl))
  apply txt_read rfl rfl rfl; (· (go_simp; with_reducible rfl)); (· (simp only [Act.put, Act.eval, List.setIfInBounds_toArray, List.set_cons_zero, List.set_cons_succ, Array.getD_eq_getD_getElem?, List.getElem?_toArray, List.getElem?_cons_zero, List.getElem?_cons_succ, Option.getD_some, List.getElem_toArray, List.getElem_cons_succ, List.getElem_cons_zero]; with_reducible rfl))
  apply txt_read rfl rfl rfl; (· (go_simp; with_reducible rfl)); (· (simp only [Act.put, Act.eval, List.setIfInBounds_toArray, List.set_cons_zero, List.set_cons_succ, Array.getD_eq_getD_getElem?, List.getElem?_toArray, List.getElem?_cons_zero, List.getElem?_cons_succ, Option.getD_some, List.getElem_toArray, List.getElem_cons_succ, List.getElem_cons_zero]; with_reducible rfl))
  apply txt_move rfl rfl; (· (simp only [Act.put, Act.eval, List.setIfInBounds_toArray, List.set_cons_zero, List.set_cons_succ, Array.getD_eq_getD_getElem?, List.getElem?_toArray, List.getElem?_cons_zero, List.getElem?_cons_succ, Option.getD_some, List.getElem_toArray, List.getElem_cons_succ, List.getElem_cons_zero]; with_reducible rfl))
  apply txt_pure rfl rfl rfl; (· (intro w; go_simp; with_reducible rfl)); (· (simp only [Act.put, Act.eval, List.setIfInBounds_toArray, List.set_cons_zero, List.set_cons_succ, Array.getD_eq_getD_getElem?, List.getElem?_toArray, List.getElem?_cons_zero, List.getElem?_cons_succ, Option.getD_some, List.getElem_toArray, List.getElem_cons_succ, List.getElem_cons_zero]; with_reducible rfl))
  apply txt_pure rfl rfl rfl; (· (intro w; go_simp; with_reducible rfl)); (· (simp only [Act.put, Act.eval, List.setIfInBounds_toArray, List.set_cons_zero, List.set_cons_succ, Array.getD_eq_getD_getElem?, List.getElem?_toArray, List.getElem?_cons_zero, List.getElem?_cons_succ, Option.getD_some, List.getElem_toArray, List.getElem_cons_succ, List.getElem_cons_zero]; with_reducible rfl))
  apply txt_read rfl rfl rfl; (· (go_simp; with_reducible rfl)); (· (simp only [Act.put, Act.eval, List.setIfInBounds_toArray, List.set_cons_zero, List.set_cons_succ, Array.getD_eq_getD_getElem?, List.getElem?_toArray, List.getElem?_cons_zero, List.getElem?_cons_succ, Option.getD_some, List.getElem_toArray, List.getElem_cons_succ, List.getElem_cons_zero]; with_reducible rfl))
  apply txt_pure rfl rfl rfl; (· (intro w; go_simp; with_reducible rfl)); (· (simp only [Act.put, Act.eval, List.setIfInBounds_toArray, List.set_cons_zero, List.set_cons_succ, Array.getD_eq_getD_getElem?, List.getElem?_toArray, List.getElem?_cons_zero, List.getElem?_cons_succ, Option.getD_some, List.getElem_toArray, List.getElem_cons_succ, List.getElem_cons_zero]; with_reducible rfl))
  with_reducible refine txt_nil ?_
  go_wp2
  obtain ⟨WF, hWF⟩ : ∃ WF, ((((w3.setCell ⟨kb + 2, 0, none⟩ (.bool false)).setCell ⟨kb + 2, 1, none⟩ (.int .u64 0)).setCell ⟨kb + 2, 2, none⟩ (.int .u64 0)).alloc (.cells #[.bool false, .int .u64 0, .int .u64 0] 31)).drew = WF := ⟨_, rfl⟩
  obtain ⟨e1, e2, e3⟩ := put_end hrH.out hWF
  rw [hWF]
  obtain ⟨f0, f1', f2⟩ := e1.three
  simp only [Nat.zero_add, nilA] at f0 f1' f2
  have hTF : TabL WF tb bm most ((n, k, s) :: L) := hT.keep fun x hx => e2 x (hT.lt x hx) (fun e => by
    rcases hx with h | h | h
    · have := hkbl x (.inl h); omega
    · have := hbmN.out; omega
    · rcases List.mem_cons.1 h with h | h
      · have h : x = n := h
        omega
      · have := hkbl x (.inr h); omega)
  clear hWF hlen d0 d1 r0 r1 r2 g2
  refine bodyPost_ret (v := .tuple #[nilA.val, .bool false]) ?_ rfl ⟨⟨_, rfl⟩, hTF, thenAt hkW.out e3 (fun x hx e => by have := hkbH.out; omega)⟩
  simp [results, Try.results45, go_sem, f0, f1', f2]
  rfl
end Go.Proofs.Yticijejnemnmlaa.If
