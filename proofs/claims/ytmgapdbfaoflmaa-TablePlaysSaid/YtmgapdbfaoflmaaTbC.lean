/- The table: New, Look, Len, Drop. -/
import Derived.Test.YtmgapdbfaoflmaaTbB
namespace Go.Proofs.Ytmgapdbfaoflmaa.Tb
open Go.RowKit Rt Tm
set_option linter.unusedSimpArgs false
set_option linter.unusedVariables false
def PLt (f : ByteArray → Option Nat) (L : List Nd) : Prop := ∀ k j, f k = some j ↔ ∃ v, (j, k, v) ∈ L
/-- The table: ring and map. -/
structure TabL (w : World) (tb bm : Nat) (most : Int) (L : List Nd) : Prop where
  ring : ∃ nx la, TabAt w tb bm most L nx la
  map : ∃ f, MapSP w bm L.length f ∧ PLt f L
  sz : ∀ p ∈ L, p.2.1.size ≤ maxLen
section
variable {w w' : World} {tb bm n : Nat} {most v : Int} {k : ByteArray} {L A B : List Nd} {p : Nd} {f : ByteArray → Option Nat}
theorem TabL.lt (h : TabL w tb bm most L) : ∀ x, x = tb ∨ x = bm ∨ x ∈ L.map (·.1) → x < w.heap.size := by
  obtain ⟨nx, la, h1⟩ := h.ring
  obtain ⟨f, h2, _⟩ := h.map
  intro x hx
  rcases hx with e | e | e
  · exact h1.lt x (.inl e)
  · exact e ▸ h2.lt
  · exact h1.lt x (.inr e)
theorem TabL.bmn (h : TabL w tb bm most L) : ∀ x, x = tb ∨ x ∈ L.map (·.1) → x ≠ bm := by
  obtain ⟨nx, la, h1⟩ := h.ring
  obtain ⟨f, h2, _⟩ := h.map
  rintro x hx rfl
  have := h1.lst x hx
  rw [h2.notCell] at this; cases this
theorem TabL.keep (h : TabL w tb bm most L) (hb : ∀ x, x = tb ∨ x = bm ∨ x ∈ L.map (·.1) → w'.heap[x]? = w.heap[x]?) : TabL w' tb bm most L := by
  obtain ⟨nx, la, h1⟩ := h.ring
  obtain ⟨f, h2, h3⟩ := h.map
  exact ⟨⟨nx, la, h1.keep fun x hx => hb x (hx.imp id .inr)⟩, ⟨f, h2.keep (hb bm (.inr (.inl rfl))), h3⟩, h.sz⟩
theorem PLt.split (hp : PLt f L) (hnd : (L.map (·.1)).Nodup) {j : Nat} (hf : f k = some j) : ∃ A v B, L = A ++ (j, k, v) :: B ∧ ∀ p ∈ A ++ B, p.2.1 ≠ k := by
  obtain ⟨v, hv⟩ := (hp k j).1 hf
  obtain ⟨A, B, rfl⟩ := List.append_of_mem hv
  refine ⟨A, v, B, rfl, ?_⟩
  rintro ⟨i, k', u⟩ hq rfl
  have hi : f k' = some i := (hp _ _).2 ⟨u, by simp only [List.mem_append, List.mem_cons] at hq ⊢; rcases hq with e | e; exact .inl e; exact .inr (.inr e)⟩
  rw [hf] at hi
  obtain rfl := Option.some.inj hi
  simp only [List.map_append, List.map_cons, List.nodup_append, List.nodup_cons] at hnd
  rcases List.mem_append.1 hq with e | e
  · exact hnd.2.2 _ (List.mem_map_of_mem e) _ (by simp) rfl
  · exact hnd.2.1.1 (List.mem_map_of_mem (f := (·.1)) e)
theorem PLt.no (hp : PLt f L) (hf : f k = none) : ∀ p ∈ L, p.2.1 ≠ k := by
  rintro ⟨i, k', u⟩ hq rfl
  have := (hp k' i).2 ⟨u, hq⟩
  rw [hf] at this; cases this
theorem PLt.drop (hp : PLt f (A ++ p :: B)) (hno : ∀ q ∈ A ++ B, q.2.1 ≠ p.2.1) : PLt (updK f p.2.1 none) (A ++ B) := by
  intro k j
  unfold updK
  by_cases e : k = p.2.1
  · rw [if_pos e]
    exact ⟨fun h => (by cases h), fun ⟨v, hv⟩ => absurd e (hno _ hv)⟩
  · rw [if_neg e, hp k j]
    refine ⟨fun ⟨v, hv⟩ => ⟨v, ?_⟩, fun ⟨v, hv⟩ => ⟨v, ?_⟩⟩
    · simp only [List.mem_append, List.mem_cons] at hv ⊢
      rcases hv with h | h | h
      · exact .inl h
      · exact absurd (by rw [← h]) e
      · exact .inr h
    · simp only [List.mem_append, List.mem_cons] at hv ⊢
      rcases hv with h | h
      · exact .inl h
      · exact .inr (.inr h)
theorem PLt.put (hp : PLt f L) (hf : f k = none) : PLt (updK f k (some n)) ((n, k, v) :: L) := by
  intro x j
  unfold updK
  by_cases e : x = k
  · subst e
    rw [if_pos rfl]
    refine ⟨fun h => ⟨v, by obtain rfl := Option.some.inj h; simp⟩, fun ⟨u, hu⟩ => ?_⟩
    rcases List.mem_cons.1 hu with h | h
    · rw [(Prod.mk.inj h).1]
    · have := (hp x j).2 ⟨u, h⟩
      rw [hf] at this; cases this
  · rw [if_neg e, hp x j]
    refine ⟨fun ⟨u, hu⟩ => ⟨u, List.mem_cons_of_mem _ hu⟩, fun ⟨u, hu⟩ => ⟨u, ?_⟩⟩
    rcases List.mem_cons.1 hu with h | h
    · exact absurd (Prod.mk.inj (Prod.mk.inj h).2).1 e
    · exact h
theorem PLt.swap (hp : PLt f (A ++ p :: B)) (v : Int) : PLt f ((p.1, p.2.1, v) :: (A ++ B)) := by
  intro k j
  rw [hp k j]
  refine ⟨fun ⟨u, hu⟩ => ?_, fun ⟨u, hu⟩ => ?_⟩
  · simp only [List.mem_append, List.mem_cons] at hu
    rcases hu with h | h | h
    · exact ⟨u, by simp [h]⟩
    · exact ⟨v, by rw [← h]; simp⟩
    · exact ⟨u, by simp [h]⟩
  · rcases List.mem_cons.1 hu with h | h
    · have h1 := (Prod.mk.inj h).1
      have h2 := (Prod.mk.inj (Prod.mk.inj h).2).1
      exact ⟨p.2.2, by rw [h1, h2]; simp⟩
    · simp only [List.mem_append] at h
      rcases h with h | h
      · exact ⟨u, by simp [h]⟩
      · exact ⟨u, by simp [h]⟩
end
/-! ### walks -/
theorem New_bad (w : World) (most : Int) (h : most < 1 ∨ 100000 < most) : Calls Try.prog 15 #[.int .i64 most] w fun e w' => e = .returned (.tuple #[.pointer none, .int .i64 1]) ∧ w' = w := by
  by_cases h1 : most < 1
  · go_enter Try.func15, Try.ntmps15
    go_wp2
    refine bodyPost_ret (v := .tuple #[.pointer none, .int .i64 1]) (by simp [results, Try.results15, go_sem]) rfl ⟨rfl, rfl⟩
  · have h2 : 100000 < most := by omega
    go_enter Try.func15, Try.ntmps15
    go_wp2
    refine bodyPost_ret (v := .tuple #[.pointer none, .int .i64 1]) (by simp [results, Try.results15, go_sem]) rfl ⟨rfl, rfl⟩
theorem new_tab (w : World) (most : Int) {W : World} (hW : ((w.alloc (.map #[] 0)).alloc (.cells #[.int .i64 most, .map (some w.heap.size), .string ⟨#[]⟩, .int .i64 0, .pointer (some ⟨w.heap.size + 1, 2, none⟩), .pointer (some ⟨w.heap.size + 1, 2, none⟩)] 95)).drew = W) :
    TabL W (w.heap.size + 1) w.heap.size most [] ∧ Below w.heap.size w W ∧ W.heap.size = w.heap.size + 2 := by
  have hs1 : (w.alloc (.map #[] 0)).heap.size = w.heap.size + 1 := by simp
  obtain ⟨tb, htb⟩ : ∃ tb, w.heap.size + 1 = tb := ⟨_, rfl⟩
  rw [htb] at hs1 hW ⊢
  have h0 : W.heap[tb]? = some (.cells #[.int .i64 most, .map (some w.heap.size), .string ⟨#[]⟩, .int .i64 0, .pointer (some ⟨tb, 2, none⟩), .pointer (some ⟨tb, 2, none⟩)] 95 (0, 0)) := by
    rw [← hW, ← hs1]; exact Array.getElem?_push_size
  have hb : Below w.heap.size w W := by rw [← hW]; exact (((Below.refl _ _).alloc (Nat.le_refl _) _).alloc (by simp) _).drew
  have hm : MapSP W w.heap.size 0 (fun _ => none) := (MapSP.made w).keep (by rw [← hW]; exact Below.heap_alloc _ _ _ (by simp))
  refine ⟨⟨⟨fun _ => tb, fun _ => tb, ⟨by simp [World.cell?, h0], by simp [World.cell?, h0], fun p hp => (by cases hp), fun p hp => (by cases hp), ?_, ?_, ?_, ⟨rfl, rfl⟩, by simp⟩⟩, ⟨_, hm, fun k j => ⟨fun h => (by cases h), fun ⟨v, hv⟩ => (by cases hv)⟩⟩, fun p hp => (by cases hp)⟩, hb, ?_⟩
  · intro x hx
    obtain rfl : x = tb := by simpa using hx
    simp [World.cell?, h0, off_same, ptr]
  · intro x hx
    obtain rfl : x = tb := by simpa using hx
    simp [World.cell?, h0, off_same, ptr]
  · intro x hx
    obtain rfl : x = tb := by simpa using hx
    exact ⟨_, _, h0⟩
  · rw [← hW, ← htb]; show Array.size _ = _; simp
set_option maxRecDepth 100000 in
theorem New_any (w : World) (most : Int) (h1 : 1 ≤ most) (h2 : most ≤ 100000) : Calls Try.prog 15 #[.int .i64 most] w fun e w' =>
    e = .returned (.tuple #[.pointer (some ⟨w.heap.size + 1, 0, none⟩), .int .i64 0]) ∧ TabL w' (w.heap.size + 1) w.heap.size most [] ∧ Below w.heap.size w w' ∧ w'.heap.size = w.heap.size + 2 := by
  have hmm := @run_makeMap Try.prog
  have h1' : ¬ most < 1 := by omega
  have h2' : ¬ 100000 < most := by omega
  go_enter Try.func15, Try.ntmps15
  go_upto_region 4 with (fail)
  refine Rt.wp_region_text [0, 0, 0, 0, 0, 0, 0, 0, 0, 0, 0, 2, 0, 0, 0, 2] (by kernel_rfl) (by kernel_rfl) ?_
  apply txt_move rfl rfl; (· (simp only [Act.put, Act.eval, List.setIfInBounds_toArray, List.set_cons_zero, List.set_cons_succ, Array.getD_eq_getD_getElem?, List.getElem?_toArray, List.getElem?_cons_zero, List.getElem?_cons_succ, Option.getD_some, List.getElem_toArray, List.getElem_cons_succ, List.getElem_cons_zero]; with_reducible rfl))
  apply txt_move rfl rfl; (· (simp only [Act.put, Act.eval, List.setIfInBounds_toArray, List.set_cons_zero, List.set_cons_succ, Array.getD_eq_getD_getElem?, List.getElem?_toArray, List.getElem?_cons_zero, List.getElem?_cons_succ, Option.getD_some, List.getElem_toArray, List.getElem_cons_succ, List.getElem_cons_zero]; with_reducible rfl))
  apply txt_move rfl rfl; (· (simp only [Act.put, Act.eval, List.setIfInBounds_toArray, List.set_cons_zero, List.set_cons_succ, Array.getD_eq_getD_getElem?, List.getElem?_toArray, List.getElem?_cons_zero, List.getElem?_cons_succ, Option.getD_some, List.getElem_toArray, List.getElem_cons_succ, List.getElem_cons_zero]; with_reducible rfl))
  apply txt_pure rfl rfl rfl; (· (intro w; go_simp; with_reducible rfl)); (· (simp only [Act.put, Act.eval, List.setIfInBounds_toArray, List.set_cons_zero, List.set_cons_succ, Array.getD_eq_getD_getElem?, List.getElem?_toArray, List.getElem?_cons_zero, List.getElem?_cons_succ, Option.getD_some, List.getElem_toArray, List.getElem_cons_succ, List.getElem_cons_zero]; with_reducible rfl))
  apply txt_pure rfl rfl rfl; (· (intro w; go_simp; with_reducible rfl)); (· (simp only [Act.put, Act.eval, List.setIfInBounds_toArray, List.set_cons_zero, List.set_cons_succ, Array.getD_eq_getD_getElem?, List.getElem?_toArray, List.getElem?_cons_zero, List.getElem?_cons_succ, Option.getD_some, List.getElem_toArray, List.getElem_cons_succ, List.getElem_cons_zero]; with_reducible rfl))
  apply txt_move rfl rfl; (· (simp only [Act.put, Act.eval, List.setIfInBounds_toArray, List.set_cons_zero, List.set_cons_succ, Array.getD_eq_getD_getElem?, List.getElem?_toArray, List.getElem?_cons_zero, List.getElem?_cons_succ, Option.getD_some, List.getElem_toArray, List.getElem_cons_succ, List.getElem_cons_zero]; with_reducible rfl))
  apply txt_pure rfl rfl rfl; (· (intro w; go_simp; with_reducible rfl)); (· (simp only [Act.put, Act.eval, List.setIfInBounds_toArray, List.set_cons_zero, List.set_cons_succ, Array.getD_eq_getD_getElem?, List.getElem?_toArray, List.getElem?_cons_zero, List.getElem?_cons_succ, Option.getD_some, List.getElem_toArray, List.getElem_cons_succ, List.getElem_cons_zero]; with_reducible rfl))
  apply txt_pure rfl rfl rfl; (· (intro w; go_simp; with_reducible rfl)); (· (simp only [Act.put, Act.eval, List.setIfInBounds_toArray, List.set_cons_zero, List.set_cons_succ, Array.getD_eq_getD_getElem?, List.getElem?_toArray, List.getElem?_cons_zero, List.getElem?_cons_succ, Option.getD_some, List.getElem_toArray, List.getElem_cons_succ, List.getElem_cons_zero]; with_reducible rfl))
  apply txt_pure rfl rfl rfl; (· (intro w; go_simp; with_reducible rfl)); (· (simp only [Act.put, Act.eval, List.setIfInBounds_toArray, List.set_cons_zero, List.set_cons_succ, Array.getD_eq_getD_getElem?, List.getElem?_toArray, List.getElem?_cons_zero, List.getElem?_cons_succ, Option.getD_some, List.getElem_toArray, List.getElem_cons_succ, List.getElem_cons_zero]; with_reducible rfl))
  apply txt_pure rfl rfl rfl; (· (intro w; go_simp; with_reducible rfl)); (· (simp only [Act.put, Act.eval, List.setIfInBounds_toArray, List.set_cons_zero, List.set_cons_succ, Array.getD_eq_getD_getElem?, List.getElem?_toArray, List.getElem?_cons_zero, List.getElem?_cons_succ, Option.getD_some, List.getElem_toArray, List.getElem_cons_succ, List.getElem_cons_zero]; with_reducible rfl))
  apply txt_pure rfl rfl rfl; (· (intro w; go_simp; with_reducible rfl)); (· (simp only [Act.put, Act.eval, List.setIfInBounds_toArray, List.set_cons_zero, List.set_cons_succ, Array.getD_eq_getD_getElem?, List.getElem?_toArray, List.getElem?_cons_zero, List.getElem?_cons_succ, Option.getD_some, List.getElem_toArray, List.getElem_cons_succ, List.getElem_cons_zero]; with_reducible rfl))
  apply txt_do rfl rfl rfl; (· (go_simp; with_reducible rfl)); (· (simp only [Act.put, Act.eval, List.setIfInBounds_toArray, List.set_cons_zero, List.set_cons_succ, Array.getD_eq_getD_getElem?, List.getElem?_toArray, List.getElem?_cons_zero, List.getElem?_cons_succ, Option.getD_some, List.getElem_toArray, List.getElem_cons_succ, List.getElem_cons_zero]; with_reducible rfl))
  apply txt_pure rfl rfl rfl; (· (intro w; go_simp; with_reducible rfl)); (· (simp only [Act.put, Act.eval, List.setIfInBounds_toArray, List.set_cons_zero, List.set_cons_succ, Array.getD_eq_getD_getElem?, List.getElem?_toArray, List.getElem?_cons_zero, List.getElem?_cons_succ, Option.getD_some, List.getElem_toArray, List.getElem_cons_succ, List.getElem_cons_zero]; with_reducible rfl))
  apply txt_pure rfl rfl rfl; (· (intro w; go_simp; with_reducible rfl)); (· (simp only [Act.put, Act.eval, List.setIfInBounds_toArray, List.set_cons_zero, List.set_cons_succ, Array.getD_eq_getD_getElem?, List.getElem?_toArray, List.getElem?_cons_zero, List.getElem?_cons_succ, Option.getD_some, List.getElem_toArray, List.getElem_cons_succ, List.getElem_cons_zero]; with_reducible rfl))
  apply txt_pure rfl rfl rfl; (· (intro w; go_simp; with_reducible rfl)); (· (simp only [Act.put, Act.eval, List.setIfInBounds_toArray, List.set_cons_zero, List.set_cons_succ, Array.getD_eq_getD_getElem?, List.getElem?_toArray, List.getElem?_cons_zero, List.getElem?_cons_succ, Option.getD_some, List.getElem_toArray, List.getElem_cons_succ, List.getElem_cons_zero]; with_reducible rfl))
  apply txt_do rfl rfl rfl; (· (go_simp; with_reducible rfl)); (· (simp only [Act.put, Act.eval, List.setIfInBounds_toArray, List.set_cons_zero, List.set_cons_succ, Array.getD_eq_getD_getElem?, List.getElem?_toArray, List.getElem?_cons_zero, List.getElem?_cons_succ, Option.getD_some, List.getElem_toArray, List.getElem_cons_succ, List.getElem_cons_zero]; with_reducible rfl))
  with_reducible refine txt_nil ?_
  go_wp2
  refine bodyPost_ret (v := .tuple #[.pointer (some ⟨w.heap.size + 1, 0, none⟩), .int .i64 0]) (by simp [results, Try.results15, go_sem]) rfl ⟨rfl, new_tab w most rfl⟩
theorem Len_any {w : World} {tb bm : Nat} {most : Int} {L : List Nd} (h : TabL w tb bm most L) : Calls Try.prog 17 #[.pointer (some ⟨tb, 0, none⟩)] w fun e w' => e = .returned (.int .i64 (L.length : Int)) ∧ w' = w := by
  obtain ⟨nx, la, h1⟩ := h.ring
  obtain ⟨f, h2, _⟩ := h.map
  have hl := fun ty => h2.len ty
  have c1 := h1.c1
  clear h
  go_enter Try.func17, Try.ntmps17
  go_wp2
  go_ret
  exact ⟨rfl, rfl⟩
set_option maxRecDepth 100000 in
theorem Look_no {w : World} {tb bm : Nat} {most : Int} {L : List Nd} (h : TabL w tb bm most L) {k : ByteArray} (hk : k.size ≤ maxLen) (hno : ∀ p ∈ L, p.2.1 ≠ k) :
    Calls Try.prog 18 #[.pointer (some ⟨tb, 0, none⟩), .string k] w fun e w' => e = .returned (.tuple #[.int .i64 0, .bool false]) ∧ w' = w := by
  obtain ⟨nx, la, h1⟩ := h.ring
  obtain ⟨f, h2, h3⟩ := h.map
  have hf : f k = none := by
    cases hf : f k with
    | none => rfl
    | some j => obtain ⟨v, hv⟩ := (h3 k j).1 hf; exact absurd rfl (hno _ hv)
  have hl := h2.look hk
  rw [hf] at hl
  replace hl : (Instr.lookup 90 (.map (some bm)) (.string k) true).run Try.prog w = .ok (.tuple #[.pointer none, .bool false]) w := hl
  have c1 := h1.c1
  clear h h1 h2 hf
  go_enter Try.func18, Try.ntmps18
  go_wp2
  refine bodyPost_ret (v := .tuple #[.int .i64 0, .bool false]) (by simp [results, Try.results18, go_sem]) rfl ⟨rfl, rfl⟩
set_option maxRecDepth 100000 in
theorem Look_yes {w : World} {tb bm : Nat} {most : Int} {L : List Nd} (h : TabL w tb bm most L) {p : Nd} (hp : p ∈ L) :
    Calls Try.prog 18 #[.pointer (some ⟨tb, 0, none⟩), .string p.2.1] w fun e w' => e = .returned (.tuple #[.int .i64 p.2.2, .bool true]) ∧ w' = w := by
  obtain ⟨nx, la, h1⟩ := h.ring
  obtain ⟨f, h2, h3⟩ := h.map
  have hf : f p.2.1 = some p.1 := (h3 _ _).2 ⟨p.2.2, hp⟩
  have hl := h2.look (h.sz p hp)
  rw [hf] at hl
  obtain ⟨j, k, v⟩ := p
  replace hl : (Instr.lookup 90 (.map (some bm)) (.string k) true).run Try.prog w = .ok (.tuple #[.pointer (some ⟨j, 0, none⟩), .bool true]) w := hl
  have c1 := h1.c1
  have cv := h1.val _ hp
  simp only at cv ⊢
  clear h h1 h2 hf
  go_enter Try.func18, Try.ntmps18
  go_wp2
  refine bodyPost_ret (v := .tuple #[.int .i64 v, .bool true]) (by simp [results, Try.results18, go_sem]) rfl ⟨rfl, rfl⟩
end Go.Proofs.Ytmgapdbfaoflmaa.Tb
