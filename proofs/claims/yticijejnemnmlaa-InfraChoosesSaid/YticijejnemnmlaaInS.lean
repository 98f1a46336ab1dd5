/- The table: Put, where there is room. -/
import Derived.Test.YticijejnemnmlaaInQ
namespace Go.Proofs.Yticijejnemnmlaa.If
open Go.RowKit Rt
set_option linter.unusedSimpArgs false
set_option linter.unusedVariables false
theorem thenAt {S T : Nat → Prop} {a b c : World} (h : Kept S a b) (k : Kept T b c) (hs : ∀ x, x < a.heap.size → T x → S x) : Kept S a c :=
  ⟨k.os.trans h.os, k.tape.trans h.tape, k.output.trans h.output, Nat.le_trans h.size k.size, fun i hi ns => (k.block i (Nat.lt_of_lt_of_le hi h.size) (fun e => ns (hs i hi e))).trans (h.block i hi ns)⟩
theorem CellsAt.kept {w w' : World} {b o : Nat} {vs : List Value} (h : CellsAt w b o vs) {S : Nat → Prop} (hk : Kept S w w') (hb : b < w.heap.size) (hs : ¬ S b) : CellsAt w' b o vs := h.keep (hk.block b hb hs)
def nilA : Ad := ⟨false, 0, 0⟩
def set3 (W : World) (b : Nat) (a : Ad) : World := ((W.setCell ⟨b, 0, none⟩ (.bool a.v6)).setCell ⟨b, 1, none⟩ (.int .u64 a.hi)).setCell ⟨b, 2, none⟩ (.int .u64 a.lo)
theorem set3_cells {W : World} {b : Nat} {z : Ad} (h : CellsAt W b 0 z.cs) (a : Ad) : CellsAt (set3 W b a) b 0 a.cs := by
  intro j u hj
  have hjl : j < 3 := (List.getElem?_eq_some_iff.1 hj).1
  obtain ⟨z0, z1, z2⟩ := h.three
  simp only [Nat.zero_add] at z0 z1 z2
  unfold set3
  match j, hj with
  | 0, hj => simp [Ad.cs] at hj; subst hj; exact (cell_set (cell_set (World.cell?_setCell_same _ _ _ z0))).trans (by simp)
  | 1, hj => simp [Ad.cs] at hj; subst hj; exact (cell_set (cell_set (cell_set z1))).trans (by simp)
  | 2, hj => simp [Ad.cs] at hj; subst hj; exact (cell_set (cell_set (cell_set z2))).trans (by simp)
theorem set3_kept {S : Nat → Prop} {w W : World} {b : Nat} {a : Ad} (h : Kept S w W) (hb : S b ∨ w.heap.size ≤ b) : Kept S w (set3 W b a) :=
  ((h.setCell (p := ⟨b, 0, none⟩) hb _).setCell (p := ⟨b, 1, none⟩) hb _).setCell (p := ⟨b, 2, none⟩) hb _
theorem set3_size (W : World) (b : Nat) (a : Ad) : (set3 W b a).heap.size = W.heap.size := by unfold set3; simp [World.setCell]
theorem set3_block {W : World} {b x : Nat} {a : Ad} (h : x ≠ b) : (set3 W b a).heap[x]? = W.heap[x]? := by
  unfold set3
  exact ((Below.heap_setCell _ _ _ _ h).trans (Below.heap_setCell _ _ _ _ h)).trans (Below.heap_setCell _ _ _ _ h)
/-- The end of Put: nothing went. -/
theorem put_end {w2 WF : World} {rb : Nat} (h : CellsAt w2 rb 0 nilA.cs) (hF : ((((w2.setCell ⟨rb, 0, none⟩ (.bool false)).setCell ⟨rb, 1, none⟩ (.int .u64 0)).setCell ⟨rb, 2, none⟩ (.int .u64 0)).alloc (.cells #[.bool false, .int .u64 0, .int .u64 0] 31)).drew = WF) :
    CellsAt WF rb 0 nilA.cs ∧ (∀ x, x < w2.heap.size → x ≠ rb → WF.heap[x]? = w2.heap[x]?) ∧ Kept (fun x => x = rb) w2 WF := by
  have hlt := block_lt (h 0 _ rfl)
  have h3 := set3_cells h nilA
  have hk3 := set3_kept (a := nilA) (Kept.refl (fun x => x = rb) w2) (.inl rfl)
  have hb3 : ∀ x, x ≠ rb → (set3 w2 rb nilA).heap[x]? = w2.heap[x]? := fun x hx => set3_block hx
  have hs3 := set3_size w2 rb nilA
  have hF' : ((set3 w2 rb nilA).alloc (.cells #[.bool false, .int .u64 0, .int .u64 0] 31)).drew = WF := by unfold set3 nilA; exact hF
  clear hF
  obtain ⟨W3, hW3⟩ : ∃ W3, set3 w2 rb nilA = W3 := ⟨_, rfl⟩
  rw [hW3] at h3 hk3 hb3 hs3 hF'
  clear hW3
  subst hF'
  exact ⟨(h3.keep (Below.heap_alloc _ _ _ (by omega))).drew, fun x hx hne => (Below.heap_alloc W3 _ x (by omega)).trans (hb3 x hne), (hk3.alloc _).drew⟩
set_option maxRecDepth 100000 in
set_option maxHeartbeats 2000000 in
theorem Put_yes {w : World} {tb bm : Nat} {most : Int} {A B : List Nd} {p : Nd} (h : TabL w tb bm most (A ++ p :: B)) (hm0 : (A ++ p :: B).length ≤ most) (s : Sv) :
    Calls Try.prog 45 #[.pointer (some ⟨tb, 0, none⟩), p.2.1.val, s.val] w fun e w' => (∃ u, e = .returned u) ∧ TabL w' tb bm most ((p.1, p.2.1, s) :: (A ++ B)) ∧ Kept (MineL tb bm (A ++ p :: B)) w w' := by
  obtain ⟨W, hW⟩ : ∃ W, ((w.alloc (.cells #[.bool p.2.1.v6, .int .u64 p.2.1.hi, .int .u64 p.2.1.lo] 31)).alloc (.cells #[.int .i64 s.x0, .int .i64 s.x1, .int .i64 s.x2, .slice s.la s.ln s.lc, .int .i64 s.pl] 59)).alloc (.cells #[.bool false, .int .u64 0, .int .u64 0] 31) = W := ⟨_, rfl⟩
  obtain ⟨hB, k1, k2, k3, k4, hs⟩ := put_mid0 w p.2.1 s hW
  have hlt := h.lt
  have h' := h.keep (w' := W.drew) (fun x hx => hB.block x (h.lt x hx))
  have hltW := h'.lt
  have hbmN : Hid (bm < w.heap.size) := Lib.hid (h.lt bm (.inr (.inl rfl)))
  obtain ⟨f, hm, hp, hf, hno⟩ := h'.find
  obtain ⟨nx, la, h1⟩ := h'.ring
  have hsz := h'.sz p (by simp)
  have hl := hm.look hsz
  rw [hf] at hl
  replace hl : (Instr.lookup 87 (.map (some bm)) (.agg #[.bool p.2.1.v6, .int .u64 p.2.1.hi, .int .u64 p.2.1.lo]) true).run Try.prog W.drew = .ok (.tuple #[.pointer (some ⟨p.1, 0, none⟩), .bool true]) W.drew := hl
  have c1 : W.cell? ⟨tb, 1, none⟩ = some (.map (some bm)) := h1.c1
  have hbm := h'.bmn
  have hbmk : ¬ (bm = tb ∨ bm ∈ (A ++ p :: B).map (·.1)) := fun e => hbm bm e rfl
  have hszH := Lib.hid h'.sz
  have hout := Lib.hid (out_T h1)
  have hnd := Lib.hid h1.nd
  have hm0H := Lib.hid hm0
  obtain ⟨q0, q1, q2⟩ := k1.three
  obtain ⟨kb, hkb⟩ : ∃ b, w.heap.size = b := ⟨_, rfl⟩
  have hWH := Lib.hid hW
  have hkbH := Lib.hid hkb
  have hBH := Lib.hid hB
  rw [hkb] at q0 q1 q2 k2 k3 k4 hs hbmN
  simp only [Nat.zero_add] at q0 q1 q2
  have k2H := Lib.hid k2
  have k3H := Lib.hid k3
  have k4H := Lib.hid k4
  have hkbl : ∀ x, x = tb ∨ x ∈ (A ++ p :: B).map (·.1) → x < kb := fun x hx => by rw [← hkb]; exact hlt x (hx.imp id .inr)
  have hmH := Lib.hid hm
  have hpH := Lib.hid hp
  clear h h' hf hm0 k1 k2 k3 k4 hW hkb hB hltW hlt hm hp
  go_enter Try.func45, Try.ntmps45
  unfold Ad.val Sv.val
  go_upto_region 1 with (fail)
  rw [hWH.out, hkbH.out]
  refine Rt.wp_region_text [0, 0, 0, 1, 1, 1, 0, 0, 0, 0, 0] (by kernel_rfl) (by kernel_rfl) ?_
  apply txt_move rfl rfl; (· (simp only [Act.put, Act.eval, List.setIfInBounds_toArray, List.set_cons_zero, List.set_cons_succ, Array.getD_eq_getD_getElem?, List.getElem?_toArray, List.getElem?_cons_zero, List.getElem?_cons_succ, Option.getD_some, List.getElem_toArray, List.getElem_cons_succ, List.getElem_cons_zero]; with_reducible rfl))
  apply txt_pure rfl rfl rfl; (· (intro w; go_simp; with_reducible rfl)); (· (simp only [Act.put, Act.eval, List.setIfInBounds_toArray, List.set_cons_zero, List.set_cons_succ, Array.getD_eq_getD_getElem?, List.getElem?_toArray, List.getElem?_cons_zero, List.getElem?_cons_succ, Option.getD_some, List.getElem_toArray, List.getElem_cons_succ, List.getElem_cons_zero]; with_reducible rfl))
  apply txt_pure rfl rfl rfl; (· (intro w; go_simp; with_reducible rfl)); (· (simp only [Act.put, Act.eval, List.setIfInBounds_toArray, List.set_cons_zero, List.set_cons_succ, Array.getD_eq_getD_getElem?, List.getElem?_toArray, List.getElem?_cons_zero, List.getElem?_cons_succ, Option.getD_some, List.getElem_toArray, List.getElem_cons_succ, List.getElem_cons_zero]; with_reducible rfl))
  apply txt_read rfl rfl rfl; (· (go_simp; with_reducible rfl)); (· (simp only [Act.put, Act.eval, List.setIfInBounds_toArray, List.set_cons_zero, List.set_cons_succ, Array.getD_eq_getD_getElem?, List.getElem?_toArray, List.getElem?_cons_zero, List.getElem?_cons_succ, Option.getD_some, List.getElem_toArray, List.getElem_cons_succ, List.getElem_cons_zero]; with_reducible rfl))
  apply txt_read rfl rfl rfl; (· (go_simp; with_reducible rfl)); (· (simp only [Act.put, Act.eval, List.setIfInBounds_toArray, List.set_cons_zero, List.set_cons_succ, Array.getD_eq_getD_getElem?, List.getElem?_toArray, List.getElem?_cons_zero, List.getElem?_cons_succ, Option.getD_some, List.getElem_toArray, List.getElem_cons_succ, List.getElem_cons_zero]; with_reducible rfl))
  apply txt_read rfl rfl rfl; (· (go_simp; with_reducible rfl)); (· (simp only [Act.put, Act.eval, List.setIfInBounds_toArray, List.set_cons_zero, List.set_cons_succ, Array.getD_eq_getD_getElem?, List.getElem?_toArray, List.getElem?_cons_zero, List.getElem?_cons_succ, Option.getD_some, List.getElem_toArray, List.getElem_cons_succ, List.getElem_cons_zero]; with_reducible rfl))
  apply txt_move rfl rfl; (· (simp only [Act.put, Act.eval, List.setIfInBounds_toArray, List.set_cons_zero, List.set_cons_succ, Array.getD_eq_getD_getElem?, List.getElem?_toArray, List.getElem?_cons_zero, List.getElem?_cons_succ, Option.getD_some, List.getElem_toArray, List.getElem_cons_succ, List.getElem_cons_zero]; with_reducible rfl))
  apply txt_pure rfl rfl rfl; (· (intro w; go_simp; with_reducible rfl)); (· (simp only [Act.put, Act.eval, List.setIfInBounds_toArray, List.set_cons_zero, List.set_cons_succ, Array.getD_eq_getD_getElem?, List.getElem?_toArray, List.getElem?_cons_zero, List.getElem?_cons_succ, Option.getD_some, List.getElem_toArray, List.getElem_cons_succ, List.getElem_cons_zero]; with_reducible rfl))
  apply txt_pure rfl rfl rfl; (· (intro w; go_simp; with_reducible rfl)); (· (simp only [Act.put, Act.eval, List.setIfInBounds_toArray, List.set_cons_zero, List.set_cons_succ, Array.getD_eq_getD_getElem?, List.getElem?_toArray, List.getElem?_cons_zero, List.getElem?_cons_succ, Option.getD_some, List.getElem_toArray, List.getElem_cons_succ, List.getElem_cons_zero]; with_reducible rfl))
  apply txt_assign rfl rfl; (· (simp only [Act.put, Act.eval, List.setIfInBounds_toArray, List.set_cons_zero, List.set_cons_succ, Array.getD_eq_getD_getElem?, List.getElem?_toArray, List.getElem?_cons_zero, List.getElem?_cons_succ, Option.getD_some, List.getElem_toArray, List.getElem_cons_succ, List.getElem_cons_zero]; with_reducible rfl))
  apply txt_assign rfl rfl; (· (simp only [Act.put, Act.eval, List.setIfInBounds_toArray, List.set_cons_zero, List.set_cons_succ, Array.getD_eq_getD_getElem?, List.getElem?_toArray, List.getElem?_cons_zero, List.getElem?_cons_succ, Option.getD_some, List.getElem_toArray, List.getElem_cons_succ, List.getElem_cons_zero]; with_reducible rfl))
  with_reducible refine txt_nil ?_
  go_wp2_with fail
  refine hout.out.mono ?_
  rintro e w1 ⟨rfl, nx', la', h1', hn', hk1⟩
  have hpn : p.1 ∉ tb :: (A ++ B).map (·.1) := by
    have h5 := hnd.out
    simp only [List.nodup_cons, List.map_append, List.map_cons, List.nodup_append, List.mem_append, List.mem_cons, not_or] at h5 ⊢
    exact ⟨fun e => h5.1.2.1 e.symm, fun e => h5.2.2.2 _ e _ (.inl rfl) rfl, h5.2.2.1.1⟩
  have hn2 : NodeAt (set5 w1 p.1 3 s) p.1 p.2.1 s := hn'.set
  have h2' : TabAt (set5 w1 p.1 3 s) tb bm most (A ++ B) nx' la' := h1'.keep fun x hx =>
    (set5_kept (S := fun x => x = p.1) (s := s) (o := 3) (b := p.1) (Kept.refl _ w1) (.inl rfl)).block x (h1'.lt x hx) (fun e => hpn ((show x = p.1 from e) ▸ List.mem_cons.2 hx))
  have hkS : Kept (fun x => x = tb ∨ x ∈ (A ++ p :: B).map (·.1)) W.drew (set5 w1 p.1 3 s) := set5_kept hk1 (.inl (.inr (by simp)))
  have hfr0 := front_T h2' hn2 hpn
  have hkS0 := hkS
  rw [set5_3] at hfr0
  have hfr := Lib.hid hfr0
  have hkSH := Lib.hid hkS0
  have hWs : W.drew.heap.size = kb + 3 := hs
  obtain ⟨z0, z1, z2, z3, z4⟩ := hn'.val.five
  simp only [Nat.reduceAdd] at z0 z1 z2 z3 z4
  have g1 := fun j => hn'.shp.frz j
  obtain ⟨s0, s1, s2, s3, s4⟩ := (k2H.out.drew.kept hk1 (by rw [hWs]; omega) (fun e => by have := hkbl _ e; omega)).five
  simp only [Nat.zero_add, Nat.reduceAdd] at s0 s1 s2 s3 s4
  clear hl c1 h1 hout h1' hn' hn2 h2' hkS hkS0 hfr0 q0 q1 q2 hk1
  go_wp2_with fail
  refine hfr.out.mono ?_
  rintro e w2 ⟨rfl, nx2, la2, h2, hk2⟩
  have hsub : ∀ x, x = tb ∨ x = p.1 ∨ x ∈ (A ++ B).map (·.1) → x = tb ∨ x ∈ (A ++ p :: B).map (·.1) := by
    intro x hx
    simp only [List.map_append, List.map_cons, List.mem_append, List.mem_cons] at hx ⊢
    rcases hx with e | e | e | e
    · exact .inl e
    · exact .inr (.inr (.inl e))
    · exact .inr (.inl e)
    · exact .inr (.inr (.inr e))
  have hk12 : Kept (fun x => x = tb ∨ x ∈ (A ++ p :: B).map (·.1)) W.drew w2 := by
    have h5 := hkSH.out
    rw [set5_3] at h5
    exact h5.trans (hk2.mono fun x _ e => hsub x e)
  have hm2 := hmH.out.keep (hk12.block bm hmH.out.lt hbmk)
  have hT : TabL w2 tb bm most ((p.1, p.2.1, s) :: (A ++ B)) := by
    refine ⟨⟨nx2, la2, h2⟩, ⟨f, ?_, hpH.out.swap s⟩, fun q hq => ?_⟩
    · have e : ((p.1, p.2.1, s) :: (A ++ B)).length = (A ++ p :: B).length := by simp; omega
      rw [e]; exact hm2
    · simp only [List.mem_append, List.mem_cons] at hq
      rcases hq with e | e | e
      · subst e; exact hsz
      · exact hszH.out q (by simp [e])
      · exact hszH.out q (by simp [e])
  have d0 := h2.c0
  have d1 := h2.c1
  have hlen := fun ty => (hm2.keep (w' := w2.drew) rfl).len ty
  obtain ⟨m, hml⟩ : ∃ m, (A ++ p :: B).length = m := ⟨_, rfl⟩
  have hle : (m : Int) ≤ most := hml ▸ hm0H.out
  rw [hml] at hlen
  have hr := k3H.out.drew.kept hk12 (by rw [hWs]; omega) (fun e => by have := hkbl _ e; omega)
  have hrH := Lib.hid hr
  have hsh2 : Shp w2 (kb + 2) := Shp.keep (show Shp W.drew (kb + 2) from k4H.out) (hk12.block _ (by rw [hWs]; omega) (fun e => by have := hkbl _ e; omega))
  obtain ⟨r0, r1, r2⟩ := hr.three
  simp only [Nat.zero_add, Nat.reduceAdd] at r0 r1 r2
  have g2 := fun j => hsh2.frz j
  have hw2s : kb + 3 ≤ w2.heap.size := by have := hk12.size; omega
  have hne1 : kb + 2 ≠ w2.heap.size := by omega
  have hne2 : kb + 2 < w2.heap.size := by omega
  have hkW : Hid (Kept (MineL tb bm (A ++ p :: B)) w w2) := Lib.hid (((Kept.of_below hBH.out).drew).trans (hk12.mono fun x _ e => e.imp id .inr))
  clear hfr h2 g1 hml hm2 z0 z1 z2 z3 z4 s0 s1 s2 s3 s4 hk12 hr hsh2 hkSH
  go_upto_region 8 with (fail)
  refine Rt.wp_region_text [0, 0, 0, 1, 1, 0, 0, 0, 1, 0] (by kernel_rfl) (by kernel_rfl) ?_
  apply txt_move rfl rfl; (· (simp only [Act.put, Act.eval, List.setIfInBounds_toArray, List.set_cons_zero, List.set_cons_succ, Array.getD_eq_getD_getElem?, List.getElem?_toArray, List.getElem?_cons_zero, List.getElem?_cons_succ, Option.getD_some, List.getElem_toArray, List.getElem_cons_succ, List.getElem_cons_zero]; with_reducible rfl))
  apply txt_pure rfl rfl rfl; (· (intro w; go_simp; with_reducible rfl)); (· (simp only [Act.put, Act.eval, List.setIfInBounds_toArray, List.set_cons_zero, List.set_cons_succ, Array.getD_eq_getD_getElem?, List.getElem?_toArray, List.getElem?_cons_zero, List.getElem?_cons_succ, Option.getD_some, List.getElem_toArray, List.getElem_cons_succ, List.getElem_cons_zero]; with_reducible rfl))
  apply txt_pure rfl rfl rfl; (· (intro w; go_simp; with_reducible rfl)); (· (simp only [Act.put, Act.eval, List.setIfInBounds_toArray, List.set_cons_zero, List.set_cons_succ, Array.getD_eq_getD_getElem?, List.getElem?_toArray, List.getElem?_cons_zero, List.getElem?_cons_succ, Option.getD_some, List.getElem_toArray, List.getElem_cons_succ, List.getElem_cons_zero]; with_reducible rfl))
  apply txt_read rfl rfl rfl; (· (go_simp; with_reducible rfl)); (· (simp only [Act.put, Act.eval, List.setIfInBounds_toArray, List.set_cons_zero, List.set_cons_succ, Array.getD_eq_getD_getElem?, List.getElem?_toArray, List.getElem?_cons_zero, List.getElem?_cons_succ, Option.getD_some, List.getElem_toArray, List.getElem_cons_succ, List.getElem_cons_zero]; with_reducible rfl))
  apply txt_read rfl rfl rfl; (· (go_simp; with_reducible rfl)); (· (simp only [Act.put, Act.eval, List.setIfInBounds_toArray, List.set_cons_zero, List.set_cons_succ, Array.getD_eq_getD_getElem?, List.getElem?_toArray, List.getElem?_cons_zero, List.getElem?_cons_succ, Option.getD_some, List.getElem_toArray, List.getElem_cons_succ, List.getElem_cons_zero]; with_reducible rfl))
  apply txt_move rfl rfl; (· (simp only [Act.put, Act.eval, List.setIfInBounds_toArray, List.set_cons_zero, List.set_cons_succ, Array.getD_eq_getD_getElem?, List.getElem?_toArray, List.getElem?_cons_zero, List.getElem?_cons_succ, Option.getD_some, List.getElem_toArray, List.getElem_cons_succ, List.getElem_cons_zero]; with_reducible rfl))
  apply txt_pure rfl rfl rfl; (· (intro w; go_simp; with_reducible rfl)); (· (simp only [Act.put, Act.eval, List.setIfInBounds_toArray, List.set_cons_zero, List.set_cons_succ, Array.getD_eq_getD_getElem?, List.getElem?_toArray, List.getElem?_cons_zero, List.getElem?_cons_succ, Option.getD_some, List.getElem_toArray, List.getElem_cons_succ, List.getElem_cons_zero]; with_reducible rfl))
  apply txt_pure rfl rfl rfl; (· (intro w; go_simp; with_reducible rfl)); (· (simp only [Act.put, Act.eval, List.setIfInBounds_toArray, List.set_cons_zero, List.set_cons_succ, Array.getD_eq_getD_getElem?, List.getElem?_toArray, List.getElem?_cons_zero, List.getElem?_cons_succ, Option.getD_some, List.getElem_toArray, List.getElem_cons_succ, List.getElem_cons_zero]; with_reducible rfl))
  apply txt_read rfl rfl rfl; (· (go_simp; with_reducible rfl)); (· (simp only [Act.put, Act.eval, List.setIfInBounds_toArray, List.set_cons_zero, List.set_cons_succ, Array.getD_eq_getD_getElem?, List.getElem?_toArray, List.getElem?_cons_zero, List.getElem?_cons_succ, Option.getD_some, List.getElem_toArray, List.getElem_cons_succ, List.getElem_cons_zero]; with_reducible rfl))
  apply txt_pure rfl rfl rfl; (· (intro w; go_simp; with_reducible rfl)); (· (simp only [Act.put, Act.eval, List.setIfInBounds_toArray, List.set_cons_zero, List.set_cons_succ, Array.getD_eq_getD_getElem?, List.getElem?_toArray, List.getElem?_cons_zero, List.getElem?_cons_succ, Option.getD_some, List.getElem_toArray, List.getElem_cons_succ, List.getElem_cons_zero]; with_reducible rfl))
  with_reducible refine txt_nil ?_
  go_wp2
  obtain ⟨WF, hWF⟩ : ∃ WF, ((((w2.setCell ⟨kb + 2, 0, none⟩ (.bool false)).setCell ⟨kb + 2, 1, none⟩ (.int .u64 0)).setCell ⟨kb + 2, 2, none⟩ (.int .u64 0)).alloc (.cells #[.bool false, .int .u64 0, .int .u64 0] 31)).drew = WF := ⟨_, rfl⟩
  obtain ⟨e1, e2, e3⟩ := put_end hrH.out hWF
  rw [hWF]
  obtain ⟨f0, f1, f2⟩ := e1.three
  simp only [Nat.zero_add, nilA] at f0 f1 f2
  have hTF : TabL WF tb bm most ((p.1, p.2.1, s) :: (A ++ B)) := hT.keep fun x hx => e2 x (hT.lt x hx) (fun e => by
    rcases hx with h | h | h
    · have := hkbl x (.inl h); omega
    · have := hmH.out.lt; have h6 : bm < kb + 3 := by rw [hWs] at this; exact this
      have := hbmN.out; omega
    · have := hkbl x (.inr (by simp only [List.map_cons, List.map_append, List.mem_cons, List.mem_append] at h ⊢; rcases h with h | h | h; exact .inr (.inl h); exact .inl h; exact .inr (.inr h))); omega)
  clear hWF hlen d0 d1 r0 r1 r2 g2
  refine bodyPost_ret (v := .tuple #[nilA.val, .bool false]) ?_ rfl ⟨⟨_, rfl⟩, hTF, thenAt hkW.out e3 (fun x hx e => by have := hkbH.out; omega)⟩
  simp [results, Try.results45, go_sem, f0, f1, f2]
  rfl
end Go.Proofs.Yticijejnemnmlaa.If
