/- The table: New, Len, Look. -/
import Derived.Test.YticijejnemnmlaaInO
import Derived.Carry
namespace Go.Proofs.Yticijejnemnmlaa.If
open Go.RowKit Rt
set_option linter.unusedSimpArgs false
set_option linter.unusedVariables false
def PLt (f : Ad → Option Nat) (L : List Nd) : Prop := ∀ k j, f k = some j ↔ ∃ v, (j, k, v) ∈ L
/-- The table: ring and map. -/
structure TabL (w : World) (tb bm : Nat) (most : Int) (L : List Nd) : Prop where
  ring : ∃ nx la, TabAt w tb bm most L nx la
  map : ∃ f, MapAP w bm L.length f ∧ PLt f L
  sz : ∀ p ∈ L, p.2.1.ok
section
variable {w w' : World} {tb bm n : Nat} {most : Int} {v : Sv} {k : Ad} {L A B : List Nd} {p : Nd} {f : Ad → Option Nat}
theorem TabL.lt (h : TabL w tb bm most L) : ∀ x, x = tb ∨ x = bm ∨ x ∈ L.map (·.1) → x < w.heap.size := by
  obtain ⟨nx, la, h1⟩ := h.ring
  obtain ⟨f, h2, _⟩ := h.map
  intro x hx
  rcases hx with e | e | e
  · exact h1.lt x (.inl e)
  · exact e ▸ h2.lt
  · exact h1.lt x (.inr e)
theorem TabL.bmn (h : TabL w tb bm most L) : ∀ x, x = tb ∨ x ∈ L.map (·.1) → x ≠ bm := by
  obtain ⟨nx, la, h1⟩ := h.ring
  obtain ⟨f, h2, _⟩ := h.map
  rintro x hx rfl
  have := h1.lst x hx
  rw [h2.notCell] at this; cases this
theorem TabL.keep (h : TabL w tb bm most L) (hb : ∀ x, x = tb ∨ x = bm ∨ x ∈ L.map (·.1) → w'.heap[x]? = w.heap[x]?) : TabL w' tb bm most L := by
  obtain ⟨nx, la, h1⟩ := h.ring
  obtain ⟨f, h2, h3⟩ := h.map
  exact ⟨⟨nx, la, h1.keep fun x hx => hb x (hx.imp id .inr)⟩, ⟨f, h2.keep (hb bm (.inr (.inl rfl))), h3⟩, h.sz⟩
theorem PLt.split (hp : PLt f L) (hnd : (L.map (·.1)).Nodup) {j : Nat} (hf : f k = some j) : ∃ A v B, L = A ++ (j, k, v) :: B ∧ ∀ p ∈ A ++ B, p.2.1 ≠ k := by
  obtain ⟨v, hv⟩ := (hp k j).1 hf
  obtain ⟨A, B, rfl⟩ := List.append_of_mem hv
  refine ⟨A, v, B, rfl, ?_⟩
  rintro ⟨i, k', u⟩ hq rfl
  have hi : f k' = some i := (hp _ _).2 ⟨u, by simp only [List.mem_append, List.mem_cons] at hq ⊢; rcases hq with e | e; exact .inl e; exact .inr (.inr e)⟩
  rw [hf] at hi
  obtain rfl := Option.some.inj hi
  simp only [List.map_append, List.map_cons, List.nodup_append, List.nodup_cons] at hnd
  rcases List.mem_append.1 hq with e | e
  · exact hnd.2.2 _ (List.mem_map_of_mem e) _ (by simp) rfl
  · exact hnd.2.1.1 (List.mem_map_of_mem (f := (·.1)) e)
theorem PLt.no (hp : PLt f L) (hf : f k = none) : ∀ p ∈ L, p.2.1 ≠ k := by
  rintro ⟨i, k', u⟩ hq rfl
  have := (hp k' i).2 ⟨u, hq⟩
  rw [hf] at this; cases this
theorem PLt.drop (hp : PLt f (A ++ p :: B)) (hno : ∀ q ∈ A ++ B, q.2.1 ≠ p.2.1) : PLt (updK f p.2.1 none) (A ++ B) := by
  intro k j
  unfold updK
  by_cases e : k = p.2.1
  · rw [if_pos e]
    exact ⟨fun h => (by cases h), fun ⟨v, hv⟩ => absurd e (hno _ hv)⟩
  · rw [if_neg e, hp k j]
    refine ⟨fun ⟨v, hv⟩ => ⟨v, ?_⟩, fun ⟨v, hv⟩ => ⟨v, ?_⟩⟩
    · simp only [List.mem_append, List.mem_cons] at hv ⊢
      rcases hv with h | h | h
      · exact .inl h
      · exact absurd (by rw [← h]) e
      · exact .inr h
    · simp only [List.mem_append, List.mem_cons] at hv ⊢
      rcases hv with h | h
      · exact .inl h
      · exact .inr (.inr h)
theorem PLt.put (hp : PLt f L) (hf : f k = none) : PLt (updK f k (some n)) ((n, k, v) :: L) := by
  intro x j
  unfold updK
  by_cases e : x = k
  · subst e
    rw [if_pos rfl]
    refine ⟨fun h => ⟨v, by obtain rfl := Option.some.inj h; simp⟩, fun ⟨u, hu⟩ => ?_⟩
    rcases List.mem_cons.1 hu with h | h
    · rw [(Prod.mk.inj h).1]
    · have := (hp x j).2 ⟨u, h⟩
      rw [hf] at this; cases this
  · rw [if_neg e, hp x j]
    refine ⟨fun ⟨u, hu⟩ => ⟨u, List.mem_cons_of_mem _ hu⟩, fun ⟨u, hu⟩ => ⟨u, ?_⟩⟩
    rcases List.mem_cons.1 hu with h | h
    · exact absurd (Prod.mk.inj (Prod.mk.inj h).2).1 e
    · exact h
theorem PLt.swap (hp : PLt f (A ++ p :: B)) (v : Sv) : PLt f ((p.1, p.2.1, v) :: (A ++ B)) := by
  intro k j
  rw [hp k j]
  refine ⟨fun ⟨u, hu⟩ => ?_, fun ⟨u, hu⟩ => ?_⟩
  · simp only [List.mem_append, List.mem_cons] at hu
    rcases hu with h | h | h
    · exact ⟨u, by simp [h]⟩
    · exact ⟨v, by rw [← h]; simp⟩
    · exact ⟨u, by simp [h]⟩
  · rcases List.mem_cons.1 hu with h | h
    · have h1 := (Prod.mk.inj h).1
      have h2 := (Prod.mk.inj (Prod.mk.inj h).2).1
      exact ⟨p.2.2, by rw [h1, h2]; simp⟩
    · simp only [List.mem_append] at h
      rcases h with h | h
      · exact ⟨u, by simp [h]⟩
      · exact ⟨u, by simp [h]⟩
end
/-- The blocks that the table may write. -/
def MineL (tb bm : Nat) (L : List Nd) (x : Nat) : Prop := x = tb ∨ x = bm ∨ x ∈ L.map (·.1)
section
variable {w w' : World} {tb bm n : Nat} {most : Int} {v : Sv} {k : Ad} {L A B : List Nd} {p : Nd} {f : Ad → Option Nat}
theorem TabL.find (h : TabL w tb bm most (A ++ p :: B)) : ∃ f, MapAP w bm (A ++ p :: B).length f ∧ PLt f (A ++ p :: B) ∧ f p.2.1 = some p.1 ∧ ∀ q ∈ A ++ B, q.2.1 ≠ p.2.1 := by
  obtain ⟨nx, la, h1⟩ := h.ring
  obtain ⟨f, h2, h3⟩ := h.map
  have hf : f p.2.1 = some p.1 := (h3 _ _).2 ⟨p.2.2, by simp⟩
  refine ⟨f, h2, h3, hf, ?_⟩
  rintro ⟨i, k', u⟩ hq hk
  have hk : k' = p.2.1 := hk
  have hi : f k' = some i := (h3 _ _).2 ⟨u, by simp only [List.mem_append, List.mem_cons] at hq ⊢; rcases hq with e | e; exact .inl e; exact .inr (.inr e)⟩
  rw [hk, hf] at hi
  have hi := Option.some.inj hi
  have hnd := (List.nodup_cons.1 h1.nd).2
  simp only [List.map_append, List.map_cons, List.nodup_append, List.nodup_cons] at hnd
  rcases List.mem_append.1 hq with e | e
  · exact hnd.2.2 _ (List.mem_map_of_mem e) _ (by simp) hi.symm
  · exact hnd.2.1.1 (hi ▸ List.mem_map_of_mem (f := (·.1)) e)
end

def zeroS : Sv := ⟨0, 0, 0, none, 0, 0, 0⟩
set_option maxRecDepth 100000 in
theorem Len_any {w : World} {tb bm : Nat} {most : Int} {L : List Nd} (h : TabL w tb bm most L) : Calls Try.prog 44 #[.pointer (some ⟨tb, 0, none⟩)] w fun e w' => e = .returned (.int .i64 (L.length : Int)) ∧ w' = w := by
  obtain ⟨nx, la, h1⟩ := h.ring
  obtain ⟨f, h2, _⟩ := h.map
  have hl := fun ty => h2.len ty
  have c1 := h1.c1
  clear h
  go_enter Try.func44, Try.ntmps44
  go_wp2
  go_ret
  exact ⟨rfl, rfl⟩
/-- A block just laid reads as its cells. -/
theorem cellsNew (w : World) (vs : List Value) (t : TypeId) {W : World} (hW : w.alloc (.cells vs.toArray t) = W) : CellsAt W w.heap.size 0 vs ∧ Shp W w.heap.size := by
  subst hW
  have h0 : (w.alloc (.cells vs.toArray t)).heap[w.heap.size]? = some (.cells vs.toArray t (0, 0)) := Array.getElem?_push_size
  refine ⟨fun j u hj => ?_, ⟨_, _, h0⟩⟩
  simp only [World.cell?, h0, Nat.zero_add]
  simpa using hj
theorem CellsAt.keep {w w' : World} {b o : Nat} {vs : List Value} (h : CellsAt w b o vs) (hb : w'.heap[b]? = w.heap[b]?) : CellsAt w' b o vs := fun j u hj => (World.cell?_of_block hb).trans (h j u hj)
theorem CellsAt.drew {w : World} {b o : Nat} {vs : List Value} (h : CellsAt w b o vs) : CellsAt w.drew b o vs := fun j u hj => h j u hj
theorem Shp.lt {w : World} {x : Nat} (h : Shp w x) : x < w.heap.size := by obtain ⟨cs, t, h⟩ := h; exact (Array.getElem?_eq_some_iff.1 h).1
theorem CellsAt.three {w : World} {b o : Nat} {a : Ad} (h : CellsAt w b o a.cs) : w.cell? ⟨b, o, none⟩ = some (.bool a.v6) ∧ w.cell? ⟨b, o + 1, none⟩ = some (.int .u64 a.hi) ∧ w.cell? ⟨b, o + 2, none⟩ = some (.int .u64 a.lo) := ⟨h 0 _ rfl, h 1 _ rfl, h 2 _ rfl⟩
theorem CellsAt.five {w : World} {b o : Nat} {s : Sv} (h : CellsAt w b o s.cs) : w.cell? ⟨b, o, none⟩ = some (.int .i64 s.x0) ∧ w.cell? ⟨b, o + 1, none⟩ = some (.int .i64 s.x1) ∧ w.cell? ⟨b, o + 2, none⟩ = some (.int .i64 s.x2) ∧ w.cell? ⟨b, o + 3, none⟩ = some (.slice s.la s.ln s.lc) ∧ w.cell? ⟨b, o + 4, none⟩ = some (.int .i64 s.pl) := ⟨h 0 _ rfl, h 1 _ rfl, h 2 _ rfl, h 3 _ rfl, h 4 _ rfl⟩
/-- The two boxes that Look makes. -/
theorem look_mid (w : World) (a : Ad) {W : World} (hW : (w.alloc (.cells #[.bool a.v6, .int .u64 a.hi, .int .u64 a.lo] 31)).alloc (.cells #[.int .i64 0, .int .i64 0, .int .i64 0, .slice none 0 0, .int .i64 0] 59) = W) :
    Below w.heap.size w W ∧ CellsAt W w.heap.size 0 a.cs ∧ CellsAt W (w.heap.size + 1) 0 zeroS.cs ∧ Shp W (w.heap.size + 1) ∧ W.heap.size = w.heap.size + 2 := by
  obtain ⟨w1, hw1⟩ : ∃ w1, w.alloc (.cells #[.bool a.v6, .int .u64 a.hi, .int .u64 a.lo] 31) = w1 := ⟨_, rfl⟩
  obtain ⟨k1, _⟩ := cellsNew w a.cs 31 hw1
  rw [hw1] at hW
  obtain ⟨k2, k3⟩ := cellsNew w1 zeroS.cs 59 hW
  have hs : w1.heap.size = w.heap.size + 1 := by rw [← hw1]; simp
  rw [hs] at k2 k3
  refine ⟨?_, k1.keep ?_, k2, k3, by rw [← hW]; simp [hs]⟩
  · rw [← hW, ← hw1]; exact ((Below.refl _ w).alloc (Nat.le_refl _) _).alloc (by simp) _
  · rw [← hW]; exact Below.heap_alloc _ _ _ (by omega)
/-- Five cells are written. -/
def set5 (W : World) (b o : Nat) (s : Sv) : World :=
  ((((W.setCell ⟨b, o, none⟩ (.int .i64 s.x0)).setCell ⟨b, o + 1, none⟩ (.int .i64 s.x1)).setCell ⟨b, o + 2, none⟩ (.int .i64 s.x2)).setCell ⟨b, o + 3, none⟩ (.slice s.la s.ln s.lc)).setCell ⟨b, o + 4, none⟩ (.int .i64 s.pl)
theorem set5_cells {W : World} {b o : Nat} {z : Sv} (h : CellsAt W b o z.cs) (s : Sv) : CellsAt (set5 W b o s) b o s.cs := by
  intro j u hj
  have hjl : j < 5 := (List.getElem?_eq_some_iff.1 hj).1
  obtain ⟨z0, z1, z2, z3, z4⟩ := h.five
  unfold set5
  match j, hj with
  | 0, hj => simp [Sv.cs] at hj; subst hj; exact (cell_set (cell_set (cell_set (cell_set (World.cell?_setCell_same _ _ _ z0))))).trans (by simp)
  | 1, hj => simp [Sv.cs] at hj; subst hj; exact (cell_set (cell_set (cell_set (cell_set (cell_set z1))))).trans (by simp)
  | 2, hj => simp [Sv.cs] at hj; subst hj; exact (cell_set (cell_set (cell_set (cell_set (cell_set z2))))).trans (by simp)
  | 3, hj => simp [Sv.cs] at hj; subst hj; exact (cell_set (cell_set (cell_set (cell_set (cell_set z3))))).trans (by simp)
  | 4, hj => simp [Sv.cs] at hj; subst hj; exact (cell_set (cell_set (cell_set (cell_set (cell_set z4))))).trans (by simp)
theorem set5_shp {W : World} {b o x : Nat} {s : Sv} (h : Shp W x) : Shp (set5 W b o s) x := ((((h.set _ _).set _ _).set _ _).set _ _).set _ _
theorem set5_kept {S : Nat → Prop} {w W : World} {b o : Nat} {s : Sv} (h : Kept S w W) (hb : S b ∨ w.heap.size ≤ b) : Kept S w (set5 W b o s) :=
  ((((h.setCell (p := ⟨b, o, none⟩) hb _).setCell (p := ⟨b, o + 1, none⟩) hb _).setCell (p := ⟨b, o + 2, none⟩) hb _).setCell (p := ⟨b, o + 3, none⟩) hb _).setCell (p := ⟨b, o + 4, none⟩) hb _
theorem set5_far {W : World} {b o : Nat} {s : Sv} {q : Addr} (h : q.block ≠ b ∨ q.off < o ∨ o + 5 ≤ q.off) : (set5 W b o s).cell? q = W.cell? q := by
  have hne : ∀ i, i < 5 → (⟨b, o + i, none⟩ : Addr) ≠ q := by
    rintro i hi rfl
    simp at h; omega
  have h0 := hne 0 (by omega)
  rw [Nat.add_zero] at h0
  unfold set5
  rw [World.cell?_setCell_other _ _ _ _ (hne 4 (by omega)), World.cell?_setCell_other _ _ _ _ (hne 3 (by omega)), World.cell?_setCell_other _ _ _ _ (hne 2 (by omega)), World.cell?_setCell_other _ _ _ _ (hne 1 (by omega)), World.cell?_setCell_other _ _ _ _ h0]
set_option maxRecDepth 100000 in
set_option maxHeartbeats 2000000 in
theorem Look_yes {w : World} {tb bm : Nat} {most : Int} {L : List Nd} (h : TabL w tb bm most L) {p : Nd} (hp : p ∈ L) :
    Calls Try.prog 38 #[.pointer (some ⟨tb, 0, none⟩), p.2.1.val] w fun e w' => e = .returned (.tuple #[p.2.2.val, .bool true]) ∧ Below w.heap.size w w' := by
  obtain ⟨W, hW⟩ : ∃ W, ((w.alloc (.cells #[.bool p.2.1.v6, .int .u64 p.2.1.hi, .int .u64 p.2.1.lo] 31)).alloc (.cells #[.int .i64 0, .int .i64 0, .int .i64 0, .slice none 0 0, .int .i64 0] 59)) = W := ⟨_, rfl⟩
  obtain ⟨hB, k1, k2, k3, hs⟩ := look_mid w p.2.1 hW
  have h' := h.keep (w' := W) (fun x hx => hB.block x (h.lt x hx))
  obtain ⟨nx, la, h1⟩ := h'.ring
  obtain ⟨f, h2, h3⟩ := h'.map
  have hf : f p.2.1 = some p.1 := (h3 _ _).2 ⟨p.2.2, hp⟩
  have hl := (h2.keep (w' := W.drew) rfl).look (h.sz p hp)
  rw [hf] at hl
  replace hl : (Instr.lookup 87 (.map (some bm)) (.agg #[.bool p.2.1.v6, .int .u64 p.2.1.hi, .int .u64 p.2.1.lo]) true).run Try.prog W.drew = .ok (.tuple #[.pointer (some ⟨p.1, 0, none⟩), .bool true]) W.drew := hl
  have c1 := h1.c1
  obtain ⟨q0, q1, q2⟩ := k1.three
  obtain ⟨r0, r1, r2, r3, r4⟩ := k2.five
  obtain ⟨v0, v1, v2, v3, v4⟩ := (h1.val p hp).five
  have g := fun j => k3.frz j
  obtain ⟨j, a, s⟩ := p
  obtain ⟨kb, hkb⟩ : ∃ b, w.heap.size = b := ⟨_, rfl⟩
  have hWH := Lib.hid hW
  have hkbH := Lib.hid hkb
  have hBH := Lib.hid hB
  rw [hkb] at q0 q1 q2 r0 r1 r2 r3 r4 g
  simp only at hl v0 v1 v2 v3 v4 q0 q1 q2 ⊢
  have hsh := Lib.hid k3
  have hk2 : Hid (CellsAt W (kb + 1) 0 zeroS.cs) := Lib.hid (hkb ▸ k2)
  simp only [zeroS, Nat.zero_add, Nat.reduceAdd] at r0 r1 r2 r3 r4 v0 v1 v2 v3 v4 q0 q1 q2
  clear h h' h1 h2 h3 hf hp k1 k2 k3 hW hkb hB hs
  go_enter Try.func38, Try.ntmps38
  unfold Ad.val
  go_upto_region 1 with (fail)
  rw [hWH.out, hkbH.out]
  refine Rt.wp_region_text [0, 0, 0, 1, 1, 1, 0, 0, 0, 0, 0] (by kernel_rfl) (by kernel_rfl) ?_
  apply txt_move rfl rfl; (· (simp only [Act.put, Act.eval, List.setIfInBounds_toArray, List.set_cons_zero, List.set_cons_succ, Array.getD_eq_getD_getElem?, List.getElem?_toArray, List.getElem?_cons_zero, List.getElem?_cons_succ, Option.getD_some, List.getElem_toArray, List.getElem_cons_succ, List.getElem_cons_zero]; with_reducible rfl))
  apply txt_pure rfl rfl rfl; (· (intro w; go_simp; with_reducible rfl)); (· (simp only [Act.put, Act.eval, List.setIfInBounds_toArray, List.set_cons_zero, List.set_cons_succ, Array.getD_eq_getD_getElem?, List.getElem?_toArray, List.getElem?_cons_zero, List.getElem?_cons_succ, Option.getD_some, List.getElem_toArray, List.getElem_cons_succ, List.getElem_cons_zero]; with_reducible rfl))
  apply txt_pure rfl rfl rfl; (· (intro w; go_simp; with_reducible rfl)); (· (simp only [Act.put, Act.eval, List.setIfInBounds_toArray, List.set_cons_zero, List.set_cons_succ, Array.getD_eq_getD_getElem?, List.getElem?_toArray, List.getElem?_cons_zero, List.getElem?_cons_succ, Option.getD_some, List.getElem_toArray, List.getElem_cons_succ, List.getElem_cons_zero]; with_reducible rfl))
  apply txt_read rfl rfl rfl; (· (go_simp; with_reducible rfl)); (· (simp only [Act.put, Act.eval, List.setIfInBounds_toArray, List.set_cons_zero, List.set_cons_succ, Array.getD_eq_getD_getElem?, List.getElem?_toArray, List.getElem?_cons_zero, List.getElem?_cons_succ, Option.getD_some, List.getElem_toArray, List.getElem_cons_succ, List.getElem_cons_zero]; with_reducible rfl))
  apply txt_read rfl rfl rfl; (· (go_simp; with_reducible rfl)); (· (simp only [Act.put, Act.eval, List.setIfInBounds_toArray, List.set_cons_zero, List.set_cons_succ, Array.getD_eq_getD_getElem?, List.getElem?_toArray, List.getElem?_cons_zero, List.getElem?_cons_succ, Option.getD_some, List.getElem_toArray, List.getElem_cons_succ, List.getElem_cons_zero]; with_reducible rfl))
  apply txt_read rfl rfl rfl; (· (go_simp; with_reducible rfl)); (· (simp only [Act.put, Act.eval, List.setIfInBounds_toArray, List.set_cons_zero, List.set_cons_succ, Array.getD_eq_getD_getElem?, List.getElem?_toArray, List.getElem?_cons_zero, List.getElem?_cons_succ, Option.getD_some, List.getElem_toArray, List.getElem_cons_succ, List.getElem_cons_zero]; with_reducible rfl))
  apply txt_move rfl rfl; (· (simp only [Act.put, Act.eval, List.setIfInBounds_toArray, List.set_cons_zero, List.set_cons_succ, Array.getD_eq_getD_getElem?, List.getElem?_toArray, List.getElem?_cons_zero, List.getElem?_cons_succ, Option.getD_some, List.getElem_toArray, List.getElem_cons_succ, List.getElem_cons_zero]; with_reducible rfl))
  apply txt_pure rfl rfl rfl; (· (intro w; go_simp; with_reducible rfl)); (· (simp only [Act.put, Act.eval, List.setIfInBounds_toArray, List.set_cons_zero, List.set_cons_succ, Array.getD_eq_getD_getElem?, List.getElem?_toArray, List.getElem?_cons_zero, List.getElem?_cons_succ, Option.getD_some, List.getElem_toArray, List.getElem_cons_succ, List.getElem_cons_zero]; with_reducible rfl))
  apply txt_pure rfl rfl rfl; (· (intro w; go_simp; with_reducible rfl)); (· (simp only [Act.put, Act.eval, List.setIfInBounds_toArray, List.set_cons_zero, List.set_cons_succ, Array.getD_eq_getD_getElem?, List.getElem?_toArray, List.getElem?_cons_zero, List.getElem?_cons_succ, Option.getD_some, List.getElem_toArray, List.getElem_cons_succ, List.getElem_cons_zero]; with_reducible rfl))
  apply txt_assign rfl rfl; (· (simp only [Act.put, Act.eval, List.setIfInBounds_toArray, List.set_cons_zero, List.set_cons_succ, Array.getD_eq_getD_getElem?, List.getElem?_toArray, List.getElem?_cons_zero, List.getElem?_cons_succ, Option.getD_some, List.getElem_toArray, List.getElem_cons_succ, List.getElem_cons_zero]; with_reducible rfl))
  apply txt_assign rfl rfl; (· (simp only [Act.put, Act.eval, List.setIfInBounds_toArray, List.set_cons_zero, List.set_cons_succ, Array.getD_eq_getD_getElem?, List.getElem?_toArray, List.getElem?_cons_zero, List.getElem?_cons_succ, Option.getD_some, List.getElem_toArray, List.getElem_cons_succ, List.getElem_cons_zero]; with_reducible rfl))
  with_reducible refine txt_nil ?_
  go_wp2
  obtain ⟨WF, hWF⟩ : ∃ WF, (((((W.setCell ⟨kb + 1, 0, none⟩ (.int .i64 s.x0)).setCell ⟨kb + 1, 1, none⟩ (.int .i64 s.x1)).setCell ⟨kb + 1, 2, none⟩ (.int .i64 s.x2)).setCell ⟨kb + 1, 3, none⟩ (.slice s.la s.ln s.lc)).setCell ⟨kb + 1, 4, none⟩ (.int .i64 s.pl)).drew = WF := ⟨_, rfl⟩
  have hW5 : (set5 W (kb + 1) 0 s).drew = WF := by unfold set5; simp only [Nat.zero_add]; exact hWF
  have hF : CellsAt WF (kb + 1) 0 s.cs := by
    rw [← hW5]
    have h5 := set5_cells (z := zeroS) hk2.out s
    exact h5.drew
  have hFB : Below w.heap.size w WF := by
    rw [← hW5]
    have hk := (set5_kept (s := s) (o := 0) (b := kb + 1) (Kept.of_below (S := fun _ => False) hBH.out) (.inr (by have := hkbH.out; omega))).drew
    exact hk.below (Nat.le_refl _) (fun _ _ e => e)
  obtain ⟨f0, f1, f2, f3, f4⟩ := hF.five
  simp only [Nat.zero_add] at f1 f2 f3 f4
  rw [hWF]
  clear hWF hW5 r0 r1 r2 r3 r4 v0 v1 v2 v3 v4 q0 q1 q2 g
  refine bodyPost_ret (v := .tuple #[s.val, .bool true]) ?_ rfl ⟨rfl, hFB⟩
  simp [results, Try.results38, go_sem, f0, f1, f2, f3, f4]
  rfl
end Go.Proofs.Yticijejnemnmlaa.If
