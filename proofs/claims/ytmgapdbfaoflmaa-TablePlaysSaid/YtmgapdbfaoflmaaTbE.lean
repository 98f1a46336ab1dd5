/- The table: Put. -/
import Derived.Test.YtmgapdbfaoflmaaTbD
namespace Go.Proofs.Ytmgapdbfaoflmaa.Tb
open Go.RowKit Rt Tm
set_option linter.unusedSimpArgs false
set_option linter.unusedVariables false
/-- A value is written. -/
theorem NodeAt.set {w : World} {n : Nat} {k : ByteArray} {v v' : Int} (h : NodeAt w n k v) : NodeAt (w.setCell ⟨n, 1, none⟩ (.int .i64 v')) n k v' := by
  obtain ⟨u, hu⟩ := h.lst
  obtain ⟨u', hu'⟩ := h.nxt
  exact ⟨(cell_set h.key).trans (by rw [if_neg (by simp)]), World.cell?_setCell_same _ _ _ h.val, ⟨_, cell_set hu⟩, ⟨_, cell_set hu'⟩, h.shp.set _ _⟩
set_option maxRecDepth 100000 in
theorem Put_yes {w : World} {tb bm : Nat} {most : Int} {A B : List Nd} {p : Nd} (h : TabL w tb bm most (A ++ p :: B)) (hm0 : (A ++ p :: B).length ≤ most) (v : Int) :
    Calls Try.prog 16 #[.pointer (some ⟨tb, 0, none⟩), .string p.2.1, .int .i64 v] w fun e w' => e = .returned (.tuple #[.string ⟨#[]⟩, .bool false]) ∧ TabL w' tb bm most ((p.1, p.2.1, v) :: (A ++ B)) ∧ Kept (MineL tb bm (A ++ p :: B)) w w' := by
  obtain ⟨f, hm, hp, hf, hno⟩ := h.find
  obtain ⟨nx, la, h1⟩ := h.ring
  have hsz := h.sz p (by simp)
  have hl := hm.look hsz
  rw [hf] at hl
  replace hl : (Instr.lookup 90 (.map (some bm)) (.string p.2.1) true).run Try.prog w = .ok (.tuple #[.pointer (some ⟨p.1, 0, none⟩), .bool true]) w := hl
  have c1 := h1.c1
  have hbm := h.bmn
  have hbmk : ¬ (bm = tb ∨ bm ∈ (A ++ p :: B).map (·.1)) := fun e => hbm bm e rfl
  have hszH := Lib.hid h.sz
  have hout := Lib.hid (out_T h1)
  have hnd := Lib.hid h1.nd
  have hm0H := Lib.hid hm0
  clear h hf hm0
  go_enter Try.func16, Try.ntmps16
  go_wp2_with fail
  refine hout.out.mono ?_
  rintro e w1 ⟨rfl, nx', la', h1', hn', hk1⟩
  have hpn : p.1 ∉ tb :: (A ++ B).map (·.1) := by
    have h5 := hnd.out
    simp only [List.nodup_cons, List.map_append, List.map_cons, List.nodup_append, List.mem_append, List.mem_cons, not_or] at h5 ⊢
    exact ⟨fun e => h5.1.2.1 e.symm, fun e => h5.2.2.2 _ e _ (.inl rfl) rfl, h5.2.2.1.1⟩
  have hn2 : NodeAt (w1.setCell ⟨p.1, 1, none⟩ (.int .i64 v)) p.1 p.2.1 v := hn'.set
  have h2' : TabAt (w1.setCell ⟨p.1, 1, none⟩ (.int .i64 v)) tb bm most (A ++ B) nx' la' := h1'.keep fun x hx => Below.heap_setCell _ _ _ _ (fun e => hpn ((show x = p.1 from e) ▸ List.mem_cons.2 hx))
  have hfr := Lib.hid (front_T h2' hn2 hpn)
  have g1 := hn'.fr 1
  have g2 := hn'.val
  clear hl c1 h1 hout h1' hn' hn2 h2'
  go_wp2_with fail
  refine hfr.out.mono ?_
  rintro e w2 ⟨rfl, nx2, la2, h2, hk2⟩
  have hsub : ∀ x, x = tb ∨ x = p.1 ∨ x ∈ (A ++ B).map (·.1) → x = tb ∨ x ∈ (A ++ p :: B).map (·.1) := by
    intro x hx
    simp only [List.map_append, List.map_cons, List.mem_append, List.mem_cons] at hx ⊢
    rcases hx with e | e | e | e
    · exact .inl e
    · exact .inr (.inr (.inl e))
    · exact .inr (.inl e)
    · exact .inr (.inr (.inr e))
  have hk12 : Kept (fun x => x = tb ∨ x ∈ (A ++ p :: B).map (·.1)) w w2 := (hk1.setCell (p := ⟨p.1, 1, none⟩) (.inl (hsub p.1 (.inr (.inl rfl)))) _).trans (hk2.mono fun x _ e => hsub x e)
  have hm2 := hm.keep (hk12.block bm hm.lt hbmk)
  have hT : TabL w2 tb bm most ((p.1, p.2.1, v) :: (A ++ B)) := by
    refine ⟨⟨nx2, la2, h2⟩, ⟨f, ?_, hp.swap v⟩, fun q hq => ?_⟩
    · have e : ((p.1, p.2.1, v) :: (A ++ B)).length = (A ++ p :: B).length := by simp; omega
      rw [e]; exact hm2
    · simp only [List.mem_append, List.mem_cons] at hq
      rcases hq with e | e | e
      · subst e; exact hsz
      · exact hszH.out q (by simp [e])
      · exact hszH.out q (by simp [e])
  have d0 := h2.c0
  have d1 := h2.c1
  have hlen := fun ty => (hm2.keep (w' := w2.drew) rfl).len ty
  obtain ⟨m, hml⟩ : ∃ m, (A ++ p :: B).length = m := ⟨_, rfl⟩
  have hle : (m : Int) ≤ most := hml ▸ hm0H.out
  rw [hml] at hlen
  have hmlH := Lib.hid hml
  clear hfr h2 hm g1 g2 hml hm2
  go_upto_region 8 with (fail)
  refine Rt.wp_region_text [0, 0, 0, 1, 1, 0, 0, 0, 1, 0] (by kernel_rfl) (by kernel_rfl) ?_
  apply txt_move rfl rfl; (· (simp only [Act.put, Act.eval, List.setIfInBounds_toArray, List.set_cons_zero, List.set_cons_succ, Array.getD_eq_getD_getElem?, List.getElem?_toArray, List.getElem?_cons_zero, List.getElem?_cons_succ, Option.getD_some, List.getElem_toArray, List.getElem_cons_succ, List.getElem_cons_zero]; with_reducible rfl))
  apply txt_pure rfl rfl rfl; (· (intro w; go_simp; with_reducible rfl)); (· (simp only [Act.put, Act.eval, List.setIfInBounds_toArray, List.set_cons_zero, List.set_cons_succ, Array.getD_eq_getD_getElem?, List.getElem?_toArray, List.getElem?_cons_zero, List.getElem?_cons_succ, Option.getD_some, List.getElem_toArray, List.getElem_cons_succ, List.getElem_cons_zero]; with_reducible rfl))
  apply txt_pure rfl rfl rfl; (· (intro w; go_simp; with_reducible rfl)); (· (simp only [Act.put, Act.eval, List.setIfInBounds_toArray, List.set_cons_zero, List.set_cons_succ, Array.getD_eq_getD_getElem?, List.getElem?_toArray, List.getElem?_cons_zero, List.getElem?_cons_succ, Option.getD_some, List.getElem_toArray, List.getElem_cons_succ, List.getElem_cons_zero]; with_reducible rfl))
  apply txt_read rfl rfl rfl; (· (go_simp; with_reducible rfl)); (· (simp only [Act.put, Act.eval, List.setIfInBounds_toArray, List.set_cons_zero, List.set_cons_succ, Array.getD_eq_getD_getElem?, List.getElem?_toArray, List.getElem?_cons_zero, List.getElem?_cons_succ, Option.getD_some, List.getElem_toArray, List.getElem_cons_succ, List.getElem_cons_zero]; with_reducible rfl))
  apply txt_read rfl rfl rfl; (· (go_simp; with_reducible rfl)); (· (simp only [Act.put, Act.eval, List.setIfInBounds_toArray, List.set_cons_zero, List.set_cons_succ, Array.getD_eq_getD_getElem?, List.getElem?_toArray, List.getElem?_cons_zero, List.getElem?_cons_succ, Option.getD_some, List.getElem_toArray, List.getElem_cons_succ, List.getElem_cons_zero]; with_reducible rfl))
  apply txt_move rfl rfl; (· (simp only [Act.put, Act.eval, List.setIfInBounds_toArray, List.set_cons_zero, List.set_cons_succ, Array.getD_eq_getD_getElem?, List.getElem?_toArray, List.getElem?_cons_zero, List.getElem?_cons_succ, Option.getD_some, List.getElem_toArray, List.getElem_cons_succ, List.getElem_cons_zero]; with_reducible rfl))
  apply txt_pure rfl rfl rfl; (· (intro w; go_simp; with_reducible rfl)); (· (simp only [Act.put, Act.eval, List.setIfInBounds_toArray, List.set_cons_zero, List.set_cons_succ, Array.getD_eq_getD_getElem?, List.getElem?_toArray, List.getElem?_cons_zero, List.getElem?_cons_succ, Option.getD_some, List.getElem_toArray, List.getElem_cons_succ, List.getElem_cons_zero]; with_reducible rfl))
  apply txt_pure rfl rfl rfl; (· (intro w; go_simp; with_reducible rfl)); (· (simp only [Act.put, Act.eval, List.setIfInBounds_toArray, List.set_cons_zero, List.set_cons_succ, Array.getD_eq_getD_getElem?, List.getElem?_toArray, List.getElem?_cons_zero, List.getElem?_cons_succ, Option.getD_some, List.getElem_toArray, List.getElem_cons_succ, List.getElem_cons_zero]; with_reducible rfl))
  apply txt_read rfl rfl rfl; (· (go_simp; with_reducible rfl)); (· (simp only [Act.put, Act.eval, List.setIfInBounds_toArray, List.set_cons_zero, List.set_cons_succ, Array.getD_eq_getD_getElem?, List.getElem?_toArray, List.getElem?_cons_zero, List.getElem?_cons_succ, Option.getD_some, List.getElem_toArray, List.getElem_cons_succ, List.getElem_cons_zero]; with_reducible rfl))
  apply txt_pure rfl rfl rfl; (· (intro w; go_simp; with_reducible rfl)); (· (simp only [Act.put, Act.eval, List.setIfInBounds_toArray, List.set_cons_zero, List.set_cons_succ, Array.getD_eq_getD_getElem?, List.getElem?_toArray, List.getElem?_cons_zero, List.getElem?_cons_succ, Option.getD_some, List.getElem_toArray, List.getElem_cons_succ, List.getElem_cons_zero]; with_reducible rfl))
  with_reducible refine txt_nil ?_
  go_wp2
  refine bodyPost_ret (v := .tuple #[.string ⟨#[]⟩, .bool false]) (by simp [results, Try.results16, go_sem]) rfl ⟨rfl, hT.keep fun x _ => rfl, (hk12.mono fun x _ e => e.imp id .inr).drew⟩
theorem thenAt {S T : Nat → Prop} {a b c : World} (h : Kept S a b) (k : Kept T b c) (hs : ∀ x, x < a.heap.size → T x → S x) : Kept S a c :=
  ⟨k.os.trans h.os, k.tape.trans h.tape, k.output.trans h.output, Nat.le_trans h.size k.size, fun i hi ns => (k.block i (Nat.lt_of_lt_of_le hi h.size) (fun e => ns (hs i hi e))).trans (h.block i hi ns)⟩
theorem PLt.no_of {f : ByteArray → Option Nat} {L : List Nd} {k : ByteArray} (hp : PLt f L) (hno : ∀ p ∈ L, p.2.1 ≠ k) : f k = none := by
  cases hf : f k with
  | none => rfl
  | some j => obtain ⟨v, hv⟩ := (hp k j).1 hf; exact absurd rfl (hno _ hv)
/-- The new node, the map with it; its value. -/
theorem put_mid {w : World} {tb bm : Nat} {most : Int} {L : List Nd} (h : TabL w tb bm most L) (hn : L.length < maxLen) {k : ByteArray} (hk : k.size ≤ maxLen) (hno : ∀ p ∈ L, p.2.1 ≠ k) (v : Int) {n : Nat} (hnn : w.heap.size = n) {w1 : World} (hw1 : w.alloc (.cells #[.string k, .int .i64 0, .pointer none, .pointer none] 93) = w1) :
    ∃ w2, (Instr.mapUpdate 90 (.map (some bm)) (.string k) (nod n)).run Try.prog w1 = .ok () w2 ∧ w1.cell? ⟨tb, 1, none⟩ = some (.map (some bm)) ∧ w2.cell? ⟨n, 1, none⟩ = some (.int .i64 0) ∧ w2.frozen? ⟨n, 1, none⟩ = false ∧
      ∃ nx la f, TabAt (w2.setCell ⟨n, 1, none⟩ (.int .i64 v)) tb bm most L nx la ∧ NodeAt (w2.setCell ⟨n, 1, none⟩ (.int .i64 v)) n k v ∧ n ∉ tb :: L.map (·.1) ∧ n ≠ bm ∧
        MapSP (w2.setCell ⟨n, 1, none⟩ (.int .i64 v)) bm (L.length + 1) f ∧ (∀ u, PLt f ((n, k, u) :: L)) ∧ Kept (fun x => x = bm) w (w2.setCell ⟨n, 1, none⟩ (.int .i64 v)) := by
  obtain ⟨nx, la, h1⟩ := h.ring
  obtain ⟨f, h2, h3⟩ := h.map
  have hf := h3.no_of hno
  have hh : w1.heap[n]? = some (.cells #[.string k, .int .i64 0, .pointer none, .pointer none] 93 (0, 0)) := by rw [← hw1, ← hnn]; exact Array.getElem?_push_size
  have hb1 : Below w.heap.size w w1 := hw1 ▸ (Below.refl _ _).alloc (Nat.le_refl _) _
  have hm1 := h2.keep (hb1.block bm h2.lt)
  obtain ⟨w2, r1, r2, r3⟩ := hm1.put1 hk n hn
  rw [hf] at r2
  have hg := r3.grown
  have hlt := h.lt
  have hnb : n ≠ bm := by have := h2.lt; omega
  have hs1 := hb1.size
  have hn1 : n < w1.heap.size := (Array.getElem?_eq_some_iff.1 hh).1
  have hh2 : w2.heap[n]? = some (.cells #[.string k, .int .i64 0, .pointer none, .pointer none] 93 (0, 0)) := (hg.block n hn1 (fun e => hnb (Option.some.inj e))).trans hh
  have hnL : n ∉ tb :: L.map (·.1) := fun e => by
    have := h1.lt n (List.mem_cons.1 e); omega
  have hN2 : NodeAt w2 n k 0 := ⟨by simp [World.cell?, hh2], by simp [World.cell?, hh2], ⟨_, by simp [World.cell?, hh2]; rfl⟩, ⟨_, by simp [World.cell?, hh2]; rfl⟩, ⟨_, _, hh2⟩⟩
  have hblk : ∀ x, x = tb ∨ x ∈ L.map (·.1) → (w2.setCell ⟨n, 1, none⟩ (.int .i64 v)).heap[x]? = w.heap[x]? := by
    intro x hx
    have hxl := h1.lt x hx
    have hxn : x ≠ bm := h.bmn x hx
    exact ((Below.heap_setCell _ _ _ _ (show x ≠ n by omega)).trans (hg.block x (by omega) (fun e => hxn (Option.some.inj e)))).trans (hb1.block x hxl)
  refine ⟨w2, r1, ?_, hN2.val, hN2.fr 1, nx, la, _, h1.keep hblk, hN2.set, hnL, hnb, r2.keep (Below.heap_setCell _ _ _ _ (Ne.symm hnb)), fun u => h3.put hf, ?_⟩
  · exact (World.cell?_of_block (hb1.block tb (hlt tb (.inl rfl)))).trans h1.c1
  · exact (Kept.turned (S := fun x => x = bm) (Kept.of_below hb1) r3 (.inl rfl)).setCell (p := ⟨n, 1, none⟩) (.inr (by simp [hnn])) _
set_option maxRecDepth 100000 in
theorem Put_new {w : World} {tb bm : Nat} {most : Int} {L : List Nd} (h : TabL w tb bm most L) (hm0 : (L.length : Int) < most) (hmx : most ≤ 100000) {k : ByteArray} (hk : k.size ≤ maxLen) (hno : ∀ q ∈ L, q.2.1 ≠ k) (v : Int) :
    Calls Try.prog 16 #[.pointer (some ⟨tb, 0, none⟩), .string k, .int .i64 v] w fun e w' => e = .returned (.tuple #[.string ⟨#[]⟩, .bool false]) ∧ TabL w' tb bm most ((w.heap.size, k, v) :: L) ∧ Kept (MineL tb bm L) w w' := by
  obtain ⟨n, hnn⟩ : ∃ n, w.heap.size = n := ⟨_, rfl⟩
  rw [hnn]
  obtain ⟨w1, hw1⟩ : ∃ w1, w.alloc (.cells #[.string k, .int .i64 0, .pointer none, .pointer none] 93) = w1 := ⟨_, rfl⟩
  obtain ⟨w2, hup, c1', g1, g2, nx1, la1, f1, hT1, hN1, hnL, hnb, hm1, hpl1, hk1⟩ := put_mid h (by unfold maxLen; omega) hk hno v hnn hw1
  obtain ⟨nx, la, h1⟩ := h.ring
  obtain ⟨f, hm, hp⟩ := h.map
  have hl := hm.look hk
  rw [hp.no_of hno] at hl
  replace hl : (Instr.lookup 90 (.map (some bm)) (.string k) true).run Try.prog w = .ok (.tuple #[.pointer none, .bool false]) w := hl
  have c1 := h1.c1
  have hszH := Lib.hid h.sz
  have hfr := Lib.hid (front_T hT1 hN1 hnL)
  have hm0H := Lib.hid hm0
  have hnnH := Lib.hid hnn
  have hbmH := Lib.hid h.bmn
  replace hup : (Instr.mapUpdate 90 (.map (some bm)) (.string k) (.pointer (some ⟨n, 0, none⟩))).run Try.prog w1 = .ok () w2 := hup
  clear h hm0 h1 hm hp hT1 hN1 hno
  go_enter Try.func16, Try.ntmps16
  go_wp2_with fail
  refine hfr.out.mono ?_
  rintro e w3 ⟨rfl, nx2, la2, h2, hk2⟩
  have hbmk : ¬ (bm = tb ∨ bm = n ∨ bm ∈ L.map (·.1)) := by
    rintro (e | e | e)
    · exact hbmH.out bm (.inl e) rfl
    · exact hnb e.symm
    · exact hbmH.out bm (.inr e) rfl
  have hkM : Kept (MineL tb bm L) w w3 := thenAt (hk1.mono fun x _ e => Or.inr (Or.inl e)) hk2 (fun x hx e => by
    rcases e with e | e | e
    · exact .inl e
    · have := hnnH.out; omega
    · exact .inr (.inr e))
  have hm2 := hm1.keep (hk2.block bm hm1.lt hbmk)
  have hT : TabL w3 tb bm most ((n, k, v) :: L) := by
    refine ⟨⟨nx2, la2, h2⟩, ⟨f1, hm2, hpl1 v⟩, fun q hq => ?_⟩
    rcases List.mem_cons.1 hq with e | e
    · subst e; exact hk
    · exact hszH.out q e
  have d0 := h2.c0
  have d1 := h2.c1
  have hlen := fun ty => (hm2.keep (w' := w3.drew) rfl).len ty
  obtain ⟨m, hml⟩ : ∃ m, L.length + 1 = m := ⟨_, rfl⟩
  have hle : (m : Int) ≤ most := by have := hm0H.out; omega
  rw [hml] at hlen
  have hmlH := Lib.hid hml
  clear hfr hl c1 c1' hup g1 g2 hml hm2 hm1 hw1
  go_upto_region 8 with (fail)
  refine Rt.wp_region_text [0, 0, 0, 1, 1, 0, 0, 0, 1, 0] (by kernel_rfl) (by kernel_rfl) ?_
  apply txt_move rfl rfl; (· (simp only [Act.put, Act.eval, List.setIfInBounds_toArray, List.set_cons_zero, List.set_cons_succ, Array.getD_eq_getD_getElem?, List.getElem?_toArray, List.getElem?_cons_zero, List.getElem?_cons_succ, Option.getD_some, List.getElem_toArray, List.getElem_cons_succ, List.getElem_cons_zero]; with_reducible rfl))
  apply txt_pure rfl rfl rfl; (· (intro w; go_simp; with_reducible rfl)); (· (simp only [Act.put, Act.eval, List.setIfInBounds_toArray, List.set_cons_zero, List.set_cons_succ, Array.getD_eq_getD_getElem?, List.getElem?_toArray, List.getElem?_cons_zero, List.getElem?_cons_succ, Option.getD_some, List.getElem_toArray, List.getElem_cons_succ, List.getElem_cons_zero]; with_reducible rfl))
  apply txt_pure rfl rfl rfl; (· (intro w; go_simp; with_reducible rfl)); (· (simp only [Act.put, Act.eval, List.setIfInBounds_toArray, List.set_cons_zero, List.set_cons_succ, Array.getD_eq_getD_getElem?, List.getElem?_toArray, List.getElem?_cons_zero, List.getElem?_cons_succ, Option.getD_some, List.getElem_toArray, List.getElem_cons_succ, List.getElem_cons_zero]; with_reducible rfl))
  apply txt_read rfl rfl rfl; (· (go_simp; with_reducible rfl)); (· (simp only [Act.put, Act.eval, List.setIfInBounds_toArray, List.set_cons_zero, List.set_cons_succ, Array.getD_eq_getD_getElem?, List.getElem?_toArray, List.getElem?_cons_zero, List.getElem?_cons_succ, Option.getD_some, List.getElem_toArray, List.getElem_cons_succ, List.getElem_cons_zero]; with_reducible rfl))
  apply txt_read rfl rfl rfl; (· (go_simp; with_reducible rfl)); (· (simp only [Act.put, Act.eval, List.setIfInBounds_toArray, List.set_cons_zero, List.set_cons_succ, Array.getD_eq_getD_getElem?, List.getElem?_toArray, List.getElem?_cons_zero, List.getElem?_cons_succ, Option.getD_some, List.getElem_toArray, List.getElem_cons_succ, List.getElem_cons_zero]; with_reducible rfl))
  apply txt_move rfl rfl; (· (simp only [Act.put, Act.eval, List.setIfInBounds_toArray, List.set_cons_zero, List.set_cons_succ, Array.getD_eq_getD_getElem?, List.getElem?_toArray, List.getElem?_cons_zero, List.getElem?_cons_succ, Option.getD_some, List.getElem_toArray, List.getElem_cons_succ, List.getElem_cons_zero]; with_reducible rfl))
  apply txt_pure rfl rfl rfl; (· (intro w; go_simp; with_reducible rfl)); (· (simp only [Act.put, Act.eval, List.setIfInBounds_toArray, List.set_cons_zero, List.set_cons_succ, Array.getD_eq_getD_getElem?, List.getElem?_toArray, List.getElem?_cons_zero, List.getElem?_cons_succ, Option.getD_some, List.getElem_toArray, List.getElem_cons_succ, List.getElem_cons_zero]; with_reducible rfl))
  apply txt_pure rfl rfl rfl; (· (intro w; go_simp; with_reducible rfl)); (· (simp only [Act.put, Act.eval, List.setIfInBounds_toArray, List.set_cons_zero, List.set_cons_succ, Array.getD_eq_getD_getElem?, List.getElem?_toArray, List.getElem?_cons_zero, List.getElem?_cons_succ, Option.getD_some, List.getElem_toArray, List.getElem_cons_succ, List.getElem_cons_zero]; with_reducible rfl))
  apply txt_read rfl rfl rfl; (· (go_simp; with_reducible rfl)); (· (simp only [Act.put, Act.eval, List.setIfInBounds_toArray, List.set_cons_zero, List.set_cons_succ, Array.getD_eq_getD_getElem?, List.getElem?_toArray, List.getElem?_cons_zero, List.getElem?_cons_succ, Option.getD_some, List.getElem_toArray, List.getElem_cons_succ, List.getElem_cons_zero]; with_reducible rfl))
  apply txt_pure rfl rfl rfl; (· (intro w; go_simp; with_reducible rfl)); (· (simp only [Act.put, Act.eval, List.setIfInBounds_toArray, List.set_cons_zero, List.set_cons_succ, Array.getD_eq_getD_getElem?, List.getElem?_toArray, List.getElem?_cons_zero, List.getElem?_cons_succ, Option.getD_some, List.getElem_toArray, List.getElem_cons_succ, List.getElem_cons_zero]; with_reducible rfl))
  with_reducible refine txt_nil ?_
  go_wp2
  refine bodyPost_ret (v := .tuple #[.string ⟨#[]⟩, .bool false]) (by simp [results, Try.results16, go_sem]) rfl ⟨rfl, hT.keep fun x _ => rfl, hkM.drew⟩
set_option maxRecDepth 100000 in
theorem Put_full {w : World} {tb bm : Nat} {most : Int} {L' : List Nd} {p : Nd} (h : TabL w tb bm most (L' ++ [p])) (hm0 : ((L' ++ [p]).length : Int) = most) (hmx : most ≤ 100000) {k : ByteArray} (hk : k.size ≤ maxLen) (hno : ∀ q ∈ L' ++ [p], q.2.1 ≠ k) (v : Int) :
    Calls Try.prog 16 #[.pointer (some ⟨tb, 0, none⟩), .string k, .int .i64 v] w fun e w' => e = .returned (.tuple #[.string p.2.1, .bool true]) ∧ TabL w' tb bm most ((w.heap.size, k, v) :: L') ∧ Kept (MineL tb bm (L' ++ [p])) w w' := by
  obtain ⟨L, hL⟩ : ∃ L, L' ++ [p] = L := ⟨_, rfl⟩
  rw [hL] at h hm0 hno ⊢
  have hLH := Lib.hid hL
  clear hL
  obtain ⟨n, hnn⟩ : ∃ n, w.heap.size = n := ⟨_, rfl⟩
  rw [hnn]
  obtain ⟨w1, hw1⟩ : ∃ w1, w.alloc (.cells #[.string k, .int .i64 0, .pointer none, .pointer none] 93) = w1 := ⟨_, rfl⟩
  obtain ⟨w2, hup, c1', g1, g2, nx1, la1, f1, hT1, hN1, hnL, hnb, hm1, hpl1, hk1⟩ := put_mid h (by unfold maxLen; omega) hk hno v hnn hw1
  obtain ⟨nx, la, h1⟩ := h.ring
  obtain ⟨f, hm, hp⟩ := h.map
  have hl := hm.look hk
  rw [hp.no_of hno] at hl
  replace hl : (Instr.lookup 90 (.map (some bm)) (.string k) true).run Try.prog w = .ok (.tuple #[.pointer none, .bool false]) w := hl
  have c1 := h1.c1
  have hszH := Lib.hid h.sz
  have hfr := Lib.hid (front_T hT1 hN1 hnL)
  have hm0H := Lib.hid hm0
  have hnnH := Lib.hid hnn
  have hbmH := Lib.hid h.bmn
  replace hup : (Instr.mapUpdate 90 (.map (some bm)) (.string k) (.pointer (some ⟨n, 0, none⟩))).run Try.prog w1 = .ok () w2 := hup
  clear h hm0 h1 hm hp hT1 hN1 hno
  go_enter Try.func16, Try.ntmps16
  go_wp2_with fail
  refine hfr.out.mono ?_
  rintro e w3 ⟨rfl, nx2, la2, h2, hk2⟩
  have hbmk : ¬ (bm = tb ∨ bm = n ∨ bm ∈ L.map (·.1)) := by
    rintro (e | e | e)
    · exact hbmH.out bm (.inl e) rfl
    · exact hnb e.symm
    · exact hbmH.out bm (.inr e) rfl
  have hkM : Kept (MineL tb bm L) w w3 := thenAt (hk1.mono fun x _ e => Or.inr (Or.inl e)) hk2 (fun x hx e => by
    rcases e with e | e | e
    · exact .inl e
    · have := hnnH.out; omega
    · exact .inr (.inr e))
  have hm2 := hm1.keep (hk2.block bm hm1.lt hbmk)
  have hT : TabL w3 tb bm most ((n, k, v) :: L) := by
    refine ⟨⟨nx2, la2, h2⟩, ⟨f1, hm2, hpl1 v⟩, fun q hq => ?_⟩
    rcases List.mem_cons.1 hq with e | e
    · subst e; exact hk
    · exact hszH.out q e
  have d0 := h2.c0
  have d1 := h2.c1
  have hlen := fun ty => (hm2.keep (w' := w3.drew) rfl).len ty
  obtain ⟨m, hml⟩ : ∃ m, L.length + 1 = m := ⟨_, rfl⟩
  have hle : ¬ (m : Int) ≤ most := by have := hm0H.out; omega
  rw [hml] at hlen
  have hmlH := Lib.hid hml
  have hlst := h2.lst tb (.inl rfl)
  clear hfr hl c1 c1' hup g1 g2 hml hm2 hm1 hw1
  go_upto_region 8 with (fail)
  refine Rt.wp_region_text [0, 0, 0, 1, 1, 0, 0, 0, 1, 0] (by kernel_rfl) (by kernel_rfl) ?_
  apply txt_move rfl rfl; (· (simp only [Act.put, Act.eval, List.setIfInBounds_toArray, List.set_cons_zero, List.set_cons_succ, Array.getD_eq_getD_getElem?, List.getElem?_toArray, List.getElem?_cons_zero, List.getElem?_cons_succ, Option.getD_some, List.getElem_toArray, List.getElem_cons_succ, List.getElem_cons_zero]; with_reducible rfl))
  apply txt_pure rfl rfl rfl; (· (intro w; go_simp; with_reducible rfl)); (· (simp only [Act.put, Act.eval, List.setIfInBounds_toArray, List.set_cons_zero, List.set_cons_succ, Array.getD_eq_getD_getElem?, List.getElem?_toArray, List.getElem?_cons_zero, List.getElem?_cons_succ, Option.getD_some, List.getElem_toArray, List.getElem_cons_succ, List.getElem_cons_zero]; with_reducible rfl))
  apply txt_pure rfl rfl rfl; (· (intro w; go_simp; with_reducible rfl)); (· (simp only [Act.put, Act.eval, List.setIfInBounds_toArray, List.set_cons_zero, List.set_cons_succ, Array.getD_eq_getD_getElem?, List.getElem?_toArray, List.getElem?_cons_zero, List.getElem?_cons_succ, Option.getD_some, List.getElem_toArray, List.getElem_cons_succ, List.getElem_cons_zero]; with_reducible rfl))
  apply txt_read rfl rfl rfl; (· (go_simp; with_reducible rfl)); (· (simp only [Act.put, Act.eval, List.setIfInBounds_toArray, List.set_cons_zero, List.set_cons_succ, Array.getD_eq_getD_getElem?, List.getElem?_toArray, List.getElem?_cons_zero, List.getElem?_cons_succ, Option.getD_some, List.getElem_toArray, List.getElem_cons_succ, List.getElem_cons_zero]; with_reducible rfl))
  apply txt_read rfl rfl rfl; (· (go_simp; with_reducible rfl)); (· (simp only [Act.put, Act.eval, List.setIfInBounds_toArray, List.set_cons_zero, List.set_cons_succ, Array.getD_eq_getD_getElem?, List.getElem?_toArray, List.getElem?_cons_zero, List.getElem?_cons_succ, Option.getD_some, List.getElem_toArray, List.getElem_cons_succ, List.getElem_cons_zero]; with_reducible rfl))
  apply txt_move rfl rfl; (· (simp only [Act.put, Act.eval, List.setIfInBounds_toArray, List.set_cons_zero, List.set_cons_succ, Array.getD_eq_getD_getElem?, List.getElem?_toArray, List.getElem?_cons_zero, List.getElem?_cons_succ, Option.getD_some, List.getElem_toArray, List.getElem_cons_succ, List.getElem_cons_zero]; with_reducible rfl))
  apply txt_pure rfl rfl rfl; (· (intro w; go_simp; with_reducible rfl)); (· (simp only [Act.put, Act.eval, List.setIfInBounds_toArray, List.set_cons_zero, List.set_cons_succ, Array.getD_eq_getD_getElem?, List.getElem?_toArray, List.getElem?_cons_zero, List.getElem?_cons_succ, Option.getD_some, List.getElem_toArray, List.getElem_cons_succ, List.getElem_cons_zero]; with_reducible rfl))
  apply txt_pure rfl rfl rfl; (· (intro w; go_simp; with_reducible rfl)); (· (simp only [Act.put, Act.eval, List.setIfInBounds_toArray, List.set_cons_zero, List.set_cons_succ, Array.getD_eq_getD_getElem?, List.getElem?_toArray, List.getElem?_cons_zero, List.getElem?_cons_succ, Option.getD_some, List.getElem_toArray, List.getElem_cons_succ, List.getElem_cons_zero]; with_reducible rfl))
  apply txt_read rfl rfl rfl; (· (go_simp; with_reducible rfl)); (· (simp only [Act.put, Act.eval, List.setIfInBounds_toArray, List.set_cons_zero, List.set_cons_succ, Array.getD_eq_getD_getElem?, List.getElem?_toArray, List.getElem?_cons_zero, List.getElem?_cons_succ, Option.getD_some, List.getElem_toArray, List.getElem_cons_succ, List.getElem_cons_zero]; with_reducible rfl))
  apply txt_pure rfl rfl rfl; (· (intro w; go_simp; with_reducible rfl)); (· (simp only [Act.put, Act.eval, List.setIfInBounds_toArray, List.set_cons_zero, List.set_cons_succ, Array.getD_eq_getD_getElem?, List.getElem?_toArray, List.getElem?_cons_zero, List.getElem?_cons_succ, Option.getD_some, List.getElem_toArray, List.getElem_cons_succ, List.getElem_cons_zero]; with_reducible rfl))
  with_reducible refine txt_nil ?_
  have hL := hLH.out
  subst hL
  have hla : la2 tb = p.1 := by
    have h3 := h2.ring
    rw [show ((n, k, v) :: (L' ++ [p])).map (·.1) = ((n, k, v) :: L').map (·.1) ++ [p.1] by simp] at h3
    exact ((Links.app (B := [])).1 h3).2.2
  have hpt : p.1 ≠ tb := fun e => (List.nodup_cons.1 h2.nd).1 (by simp [← e])
  rw [hla, off_same, off_other hpt] at hlst
  have hpk := h2.key p (by simp)
  have hTd : TabL w3.drew tb bm most (((n, k, v) :: L') ++ p :: []) := hT.keep fun x _ => rfl
  have hdr := Lib.hid (Drop_yes hTd)
  clear d0 d1 hlen h2
  unfold ptr at hlst
  go_wp2_with fail
  refine hdr.out.mono ?_
  rintro e w4 ⟨rfl, hT4, hN4, hk4⟩
  have hpk4 := hN4.key
  clear hpk hlst hdr
  go_wp2
  refine bodyPost_ret (v := .tuple #[.string p.2.1, .bool true]) (by simp [results, Try.results16, go_sem]) rfl ⟨rfl, by rw [List.append_nil] at hT4; exact hT4, thenAt hkM.drew hk4 (fun x hx e => by
    unfold MineL at e ⊢
    simp only [List.map_append, List.map_cons, List.mem_append, List.mem_cons, List.cons_append, List.map_nil] at e ⊢
    have := hnnH.out
    rcases e with e | e | e | e
    · exact .inl e
    · exact .inr (.inl e)
    · omega
    · exact .inr (.inr e))⟩
end Go.Proofs.Ytmgapdbfaoflmaa.Tb
