/- The timer in memory; before, swap. -/
import Derived.Test.YtmgapdbfaoflmaaTmA
namespace Go.Proofs.Ytmgapdbfaoflmaa.Tm
open Go.RowKit Rt
set_option linter.unusedSimpArgs false
set_option linter.unusedVariables false

def agg (p : It) : Value := .agg #[.int .i64 p.1, .int .i64 p.2]
theorem before_any (a b : It) (w : World) : Calls Try.prog 67 #[agg a, agg b] w fun e w' => e = .returned (.bool (decide (lt a b))) ∧ Below w.heap.size w w' := by
  obtain ⟨a1, a2⟩ := a
  obtain ⟨b1, b2⟩ := b
  unfold agg
  by_cases h1 : a2 < b2
  · have hr : Hid (decide (lt (a1, a2) (b1, b2)) = true) := Lib.hid (decide_eq_true (Or.inl h1))
    go_enter Try.func67, Try.ntmps67
    go_wp2
    go_ret
    exact ⟨by rw [hr.out]; rfl, ((Below.refl _ _).alloc (Nat.le_refl _) _).alloc (by simp) _⟩
  · by_cases h2 : a2 = b2
    · subst h2
      by_cases h3 : a1 < b1
      · have hr : Hid (decide (lt (a1, a2) (b1, a2)) = true) := Lib.hid (decide_eq_true (Or.inr ⟨rfl, h3⟩))
        go_enter Try.func67, Try.ntmps67
        go_wp2
        go_ret
        exact ⟨by rw [hr.out]; rfl, ((Below.refl _ _).alloc (Nat.le_refl _) _).alloc (by simp) _⟩
      · have hr : Hid (decide (lt (a1, a2) (b1, a2)) = false) := Lib.hid (decide_eq_false fun h => by have h : a2 < a2 ∨ (a2 = a2 ∧ a1 < b1) := h; omega)
        go_enter Try.func67, Try.ntmps67
        go_wp2
        go_ret
        exact ⟨by rw [hr.out]; rfl, ((Below.refl _ _).alloc (Nat.le_refl _) _).alloc (by simp) _⟩
    · have hr : Hid (decide (lt (a1, a2) (b1, b2)) = false) := Lib.hid (decide_eq_false fun h => by have h : a2 < b2 ∨ (a2 = b2 ∧ a1 < b1) := h; omega)
      have h2' : (a2 == b2) = false := by simpa using h2
      go_enter Try.func67, Try.ntmps67
      go_wp2
      go_ret
      exact ⟨by rw [hr.out]; rfl, ((Below.refl _ _).alloc (Nat.le_refl _) _).alloc (by simp) _⟩

/-- The cells of a row of items. -/
def itCells (l : List It) : List Value := l.flatMap fun p => [.int .i64 p.1, .int .i64 p.2]
theorem itCells_length (l : List It) : (itCells l).length = l.length * 2 := by
  induction l with
  | nil => rfl
  | cons a l ih => simp [itCells] at ih ⊢; omega
theorem itCells_append (a b : List It) : itCells (a ++ b) = itCells a ++ itCells b := by simp [itCells]
theorem itCells_get : ∀ (l : List It) (i : Nat), i < l.length → (itCells l)[2 * i]? = some (.int .i64 (g l i).1) ∧ (itCells l)[2 * i + 1]? = some (.int .i64 (g l i).2)
  | [], i, h => by simp at h
  | a :: l, 0, _ => ⟨rfl, rfl⟩
  | a :: l, i + 1, h => by
    have := itCells_get l i (by simpa using h)
    exact this
theorem itCells_set : ∀ (l : List It) (i : Nat) (p : It), i < l.length → itCells (l.set i p) = ((itCells l).set (2 * i) (.int .i64 p.1)).set (2 * i + 1) (.int .i64 p.2)
  | [], i, p, h => by simp at h
  | a :: l, 0, p, _ => rfl
  | a :: l, i + 1, p, h => by
    have := itCells_set l i p (by simpa using h)
    show _ :: _ :: itCells (l.set i p) = _
    rw [this]; rfl

/-- The timer at tb, its map at bm, its slice v. -/
structure TimerAt (w : World) (tb bm : Nat) (v : Value) (l : List It) : Prop where
  top : w.heap[tb]? = some (.cells #[v, .map (some bm)] 108 (0, 0))
  row : w.ownsRow 0 110 2 v l.length (itCells l)
  map : ∃ f, MapII w bm l.length f ∧ PL f l
  wfs : ∀ p ∈ l, wf p.1 ∧ wf p.2
section
variable {w w' : World} {tb bm gb cap n : Nat} {v : Value} {l : List It}
theorem TimerAt.lt (h : TimerAt w tb bm v l) : tb < w.heap.size := (Array.getElem?_eq_some_iff.1 h.top).1
theorem TimerAt.mlt (h : TimerAt w tb bm v l) : bm < w.heap.size := by obtain ⟨f, h, _⟩ := h.map; exact h.lt
theorem TimerAt.c0 (h : TimerAt w tb bm v l) : w.cell? ⟨tb, 0, none⟩ = some v := by simp [World.cell?, h.top]
theorem TimerAt.c1 (h : TimerAt w tb bm v l) : w.cell? ⟨tb, 1, none⟩ = some (.map (some bm)) := by simp [World.cell?, h.top]
theorem TimerAt.fr (h : TimerAt w tb bm v l) (j : Nat) : w.frozen? ⟨tb, j, none⟩ = false := by simp [World.frozen?, h.top]
/-- The blocks that the timer may write. -/
def Mine (tb bm : Nat) (v : Value) (k : Nat) : Prop := k = tb ∨ k = bm ∨ v.ownBlock = some k
theorem TimerAt.keep (h : TimerAt w tb bm v l) (hb : ∀ k, k < w.heap.size → Mine tb bm v k → w'.heap[k]? = w.heap[k]?) : TimerAt w' tb bm v l := by
  refine ⟨(hb tb h.lt (.inl rfl)).trans h.top, ?_, ?_, h.wfs⟩
  · obtain ⟨h1, h2⟩ := h.row
    refine ⟨h1, ?_⟩
    rcases h2 with h2 | ⟨g, cap, cur, hv, hg, hh, r⟩
    · exact .inl h2
    · exact .inr ⟨g, cap, cur, hv, hg, (hb g (Array.getElem?_eq_some_iff.1 hh).1 (.inr (.inr (by rw [hv]; rfl)))).trans hh, r⟩
  · obtain ⟨f, h1, h2⟩ := h.map
    exact ⟨f, h1.keep (hb bm h1.lt (.inr (.inl rfl))), h2⟩
theorem TimerAt.below (h : TimerAt w tb bm v l) (hb : Below w.heap.size w w') : TimerAt w' tb bm v l := h.keep fun k hk _ => hb.block k hk
theorem TimerAt.kept (h : TimerAt w tb bm v l) {S : Nat → Prop} (hb : Kept S w w') (hs : ∀ k, Mine tb bm v k → ¬ S k) : TimerAt w' tb bm v l := h.keep fun k hk hm => hb.block k hk (hs k hm)
/-- Where something stands the slice is one. -/
theorem TimerAt.val (h : TimerAt w tb bm v l) (h0 : 0 < l.length) : ∃ g cap, v = .slice (some ⟨g, 0, none⟩) l.length cap := by
  rcases h.row.2 with ⟨_, h2⟩ | ⟨g, cap, cur, hv, _⟩
  · omega
  · exact ⟨g, cap, hv⟩
theorem TimerAt.cells (h : TimerAt w tb bm (.slice (some ⟨gb, 0, none⟩) l.length cap) l) (i : Nat) (hi : i < l.length) :
    w.cell? ⟨gb, i * 2, none⟩ = some (.int .i64 (g l i).1) ∧ w.cell? ⟨gb, i * 2 + 1, none⟩ = some (.int .i64 (g l i).2) ∧ w.frozen? ⟨gb, i * 2, none⟩ = false ∧ w.frozen? ⟨gb, i * 2 + 1, none⟩ = false := by
  have h1 := h.row.cellAt (i * 2) (by omega)
  have h2 := h.row.cellAt (i * 2 + 1) (by omega)
  have h3 := itCells_get l i hi
  rw [Nat.mul_comm 2 i] at h3
  rw [h3.1] at h1
  rw [h3.2] at h2
  exact ⟨h1, h2, h.row.frozenAt _, h.row.frozenAt _⟩
theorem TimerAt.ne_tb (h : TimerAt w tb bm (.slice (some ⟨gb, 0, none⟩) n cap) l) : gb ≠ tb := by
  rintro rfl
  rcases h.row.2 with ⟨h2, _⟩ | ⟨g, cap, cur, hv, _, hh, _⟩
  · cases h2
  · cases hv
    rw [h.top] at hh; cases hh
theorem TimerAt.ne_bm (h : TimerAt w tb bm (.slice (some ⟨gb, 0, none⟩) n cap) l) : gb ≠ bm := by
  rintro rfl
  obtain ⟨f, ⟨D, ⟨es, clock, hm, _⟩, _⟩, _⟩ := h.map
  rcases h.row.2 with ⟨h2, _⟩ | ⟨g, cap, cur, hv, _, hh, _⟩
  · cases h2
  · cases hv
    rw [hm] at hh; cases hh
theorem TimerAt.tb_bm (h : TimerAt w tb bm v l) : tb ≠ bm := by
  rintro rfl
  obtain ⟨f, ⟨D, ⟨es, clock, hm, _⟩, _⟩, _⟩ := h.map
  rw [h.top] at hm; cases hm
/-- The blocks that a move within the heap may write. -/
def MR (bm : Nat) (v : Value) (x : Nat) : Prop := x = bm ∨ v.ownBlock = some x
theorem TimerAt.own_tb (h : TimerAt w tb bm v l) : ¬ v.ownBlock = some tb := by
  intro e
  rcases h.row.2 with ⟨rfl, _⟩ | ⟨g, cap, cur, rfl, _⟩
  · cases e
  · exact h.ne_tb (Option.some.inj e)
theorem TimerAt.own_bm (h : TimerAt w tb bm v l) : ¬ v.ownBlock = some bm := by
  intro e
  rcases h.row.2 with ⟨rfl, _⟩ | ⟨g, cap, cur, rfl, _⟩
  · cases e
  · exact h.ne_bm (Option.some.inj e)
/-- An item is written. -/
theorem row_put (h : w.ownsRow 0 110 2 (.slice (some ⟨gb, 0, none⟩) n cap) n (itCells l)) (hl : l.length = n) (i : Nat) (hi : i < l.length) (p : It) :
    ((w.setCell ⟨gb, i * 2, none⟩ (.int .i64 p.1)).setCell ⟨gb, i * 2 + 1, none⟩ (.int .i64 p.2)).ownsRow 0 110 2 (.slice (some ⟨gb, 0, none⟩) n cap) n (itCells (l.set i p)) := by
  have h1 := ((h.stored (i * 2) (.int .i64 p.1)).1.stored (i * 2 + 1) (.int .i64 p.2)).1
  rw [itCells_set l i p hi, Nat.mul_comm 2 i]
  exact h1
theorem row_cells (h : w.ownsRow 0 110 2 (.slice (some ⟨gb, 0, none⟩) n cap) n (itCells l)) (hl : l.length = n) (i : Nat) (hi : i < l.length) :
    w.cell? ⟨gb, i * 2, none⟩ = some (.int .i64 (g l i).1) ∧ w.cell? ⟨gb, i * 2 + 1, none⟩ = some (.int .i64 (g l i).2) ∧ w.frozen? ⟨gb, i * 2, none⟩ = false ∧ w.frozen? ⟨gb, i * 2 + 1, none⟩ = false := by
  have h1 := h.cellAt (i * 2) (by omega)
  have h2 := h.cellAt (i * 2 + 1) (by omega)
  have h3 := itCells_get l i hi
  rw [Nat.mul_comm 2 i] at h3
  rw [h3.1] at h1
  rw [h3.2] at h2
  exact ⟨h1, h2, h.frozenAt _, h.frozenAt _⟩
theorem row_kept (h : w.ownsRow 0 110 2 (.slice (some ⟨gb, 0, none⟩) n cap) n (itCells l)) {S : Nat → Prop} (hk : Kept S w w') (hs : ¬ S gb) : w'.ownsRow 0 110 2 (.slice (some ⟨gb, 0, none⟩) n cap) n (itCells l) := by
  obtain ⟨h1, h2⟩ := h
  refine ⟨h1, ?_⟩
  rcases h2 with h2 | ⟨g, cap, cur, hv, hg, hh, r⟩
  · exact .inl h2
  · cases hv
    exact .inr ⟨gb, _, cur, rfl, hg, (hk.block gb (Array.getElem?_eq_some_iff.1 hh).1 hs).trans hh, r⟩
theorem PL.some_of_mem {f : Int → Option Nat} (h : PL f l) {p : It} (hp : p ∈ l) : (f p.1).isSome = true := by
  obtain ⟨k, hk, rfl⟩ := List.getElem_of_mem hp
  rw [(h l[k].1 k).2 ⟨hk, by rw [g_eq hk]⟩]; rfl
theorem TimerAt.cells' (h : TimerAt w tb bm (.slice (some ⟨gb, 0, none⟩) n cap) l) (hl : l.length = n) (i : Nat) (hi : i < n) :
    w.cell? ⟨gb, i * 2, none⟩ = some (.int .i64 (g l i).1) ∧ w.cell? ⟨gb, i * 2 + 1, none⟩ = some (.int .i64 (g l i).2) ∧ w.frozen? ⟨gb, i * 2, none⟩ = false ∧ w.frozen? ⟨gb, i * 2 + 1, none⟩ = false := by
  subst hl; exact row_cells h.row rfl i hi
theorem g_mem {i : Nat} (hi : i < l.length) : g l i ∈ l := by rw [g_eq hi]; exact List.getElem_mem hi
end

set_option maxHeartbeats 1000000 in
theorem swap_any {w : World} {tb bm : Nat} {v : Value} {l : List It} (h : TimerAt w tb bm v l) (i k : Nat) (hi : i < l.length) (hk : k < l.length) (hn : l.length < 1099511627776) :
    Calls Try.prog 59 #[.pointer (some ⟨tb, 0, none⟩), .int .i64 i, .int .i64 k] w fun e w' => e = .returned (.tuple #[]) ∧ TimerAt w' tb bm v (swapL l i k) ∧ Kept (MR bm v) w w' := by
  obtain ⟨gb, cap, rfl⟩ := h.val (by omega)
  have c0 := h.c0
  have c1 := h.c1
  obtain ⟨i0, i1, i2, i3⟩ := h.cells i hi
  obtain ⟨k0, k1, k2, k3⟩ := h.cells k hk
  have hii : (i : Int) < l.length := by omega
  have hkk : (k : Int) < l.length := by omega
  have hmem : ∀ j, j < (swapL l i k).length → wf (g (swapL l i k) j).1 ∧ wf (g (swapL l i k) j).2 := fun j hj => h.wfs _ ((swapL_perm hi hk).mem_iff.1 (g_mem hj))
  have hmi := hmem i (by simpa using hi)
  have hmk := hmem k (by simpa using hk)
  clear hmem
  go_enter Try.func59, Try.ntmps59
  go_wp2
  refine Rt.wp_region_text [0, 0, 0, 1, 0, 0, 0, 0, 1, 0, 0, 0, 0, 1, 0, 0, 1, 0, 0, 0, 1, 0, 0, 1, 0, 2, 0, 2] (by kernel_rfl) (by kernel_rfl) ?_
  apply txt_move rfl rfl; (· (simp only [Act.put, Act.eval, List.setIfInBounds_toArray, List.set_cons_zero, List.set_cons_succ, Array.getD_eq_getD_getElem?, List.getElem?_toArray, List.getElem?_cons_zero, List.getElem?_cons_succ, Option.getD_some]; with_reducible rfl))
  apply txt_pure rfl rfl rfl; (· (intro w; go_simp; with_reducible rfl)); (· (simp only [Act.put, Act.eval, List.setIfInBounds_toArray, List.set_cons_zero, List.set_cons_succ, Array.getD_eq_getD_getElem?, List.getElem?_toArray, List.getElem?_cons_zero, List.getElem?_cons_succ, Option.getD_some]; with_reducible rfl))
  apply txt_pure rfl rfl rfl; (· (intro w; go_simp; with_reducible rfl)); (· (simp only [Act.put, Act.eval, List.setIfInBounds_toArray, List.set_cons_zero, List.set_cons_succ, Array.getD_eq_getD_getElem?, List.getElem?_toArray, List.getElem?_cons_zero, List.getElem?_cons_succ, Option.getD_some]; with_reducible rfl))
  apply txt_read rfl rfl rfl; (· (go_simp; with_reducible rfl)); (· (simp only [Act.put, Act.eval, List.setIfInBounds_toArray, List.set_cons_zero, List.set_cons_succ, Array.getD_eq_getD_getElem?, List.getElem?_toArray, List.getElem?_cons_zero, List.getElem?_cons_succ, Option.getD_some]; with_reducible rfl))
  apply txt_move rfl rfl; (· (simp only [Act.put, Act.eval, List.setIfInBounds_toArray, List.set_cons_zero, List.set_cons_succ, Array.getD_eq_getD_getElem?, List.getElem?_toArray, List.getElem?_cons_zero, List.getElem?_cons_succ, Option.getD_some]; with_reducible rfl))
  apply txt_move rfl rfl; (· (simp only [Act.put, Act.eval, List.setIfInBounds_toArray, List.set_cons_zero, List.set_cons_succ, Array.getD_eq_getD_getElem?, List.getElem?_toArray, List.getElem?_cons_zero, List.getElem?_cons_succ, Option.getD_some]; with_reducible rfl))
  apply txt_pure rfl rfl rfl; (· (intro w; go_simp; with_reducible rfl)); (· (simp only [Act.put, Act.eval, List.setIfInBounds_toArray, List.set_cons_zero, List.set_cons_succ, Array.getD_eq_getD_getElem?, List.getElem?_toArray, List.getElem?_cons_zero, List.getElem?_cons_succ, Option.getD_some]; with_reducible rfl))
  apply txt_pure rfl rfl rfl; (· (intro w; go_simp; with_reducible rfl)); (· (simp only [Act.put, Act.eval, List.setIfInBounds_toArray, List.set_cons_zero, List.set_cons_succ, Array.getD_eq_getD_getElem?, List.getElem?_toArray, List.getElem?_cons_zero, List.getElem?_cons_succ, Option.getD_some]; with_reducible rfl))
  apply txt_read rfl rfl rfl; (· (go_simp; with_reducible rfl)); (· (simp only [Act.put, Act.eval, List.setIfInBounds_toArray, List.set_cons_zero, List.set_cons_succ, Array.getD_eq_getD_getElem?, List.getElem?_toArray, List.getElem?_cons_zero, List.getElem?_cons_succ, Option.getD_some]; with_reducible rfl))
  apply txt_move rfl rfl; (· (simp only [Act.put, Act.eval, List.setIfInBounds_toArray, List.set_cons_zero, List.set_cons_succ, Array.getD_eq_getD_getElem?, List.getElem?_toArray, List.getElem?_cons_zero, List.getElem?_cons_succ, Option.getD_some]; with_reducible rfl))
  apply txt_move rfl rfl; (· (simp only [Act.put, Act.eval, List.setIfInBounds_toArray, List.set_cons_zero, List.set_cons_succ, Array.getD_eq_getD_getElem?, List.getElem?_toArray, List.getElem?_cons_zero, List.getElem?_cons_succ, Option.getD_some]; with_reducible rfl))
  apply txt_pure rfl rfl rfl; (· (intro w; go_simp; with_reducible rfl)); (· (simp only [Act.put, Act.eval, List.setIfInBounds_toArray, List.set_cons_zero, List.set_cons_succ, Array.getD_eq_getD_getElem?, List.getElem?_toArray, List.getElem?_cons_zero, List.getElem?_cons_succ, Option.getD_some]; with_reducible rfl))
  apply txt_pure rfl rfl rfl; (· (intro w; go_simp; with_reducible rfl)); (· (simp only [Act.put, Act.eval, List.setIfInBounds_toArray, List.set_cons_zero, List.set_cons_succ, Array.getD_eq_getD_getElem?, List.getElem?_toArray, List.getElem?_cons_zero, List.getElem?_cons_succ, Option.getD_some]; with_reducible rfl))
  apply txt_read rfl rfl rfl; (· (go_simp; with_reducible rfl)); (· (simp only [Act.put, Act.eval, List.setIfInBounds_toArray, List.set_cons_zero, List.set_cons_succ, Array.getD_eq_getD_getElem?, List.getElem?_toArray, List.getElem?_cons_zero, List.getElem?_cons_succ, Option.getD_some]; with_reducible rfl))
  apply txt_move rfl rfl; (· (simp only [Act.put, Act.eval, List.setIfInBounds_toArray, List.set_cons_zero, List.set_cons_succ, Array.getD_eq_getD_getElem?, List.getElem?_toArray, List.getElem?_cons_zero, List.getElem?_cons_succ, Option.getD_some]; with_reducible rfl))
  apply txt_pure rfl rfl rfl; (· (intro w; go_simp; with_reducible rfl)); (· (simp only [Act.put, Act.eval, List.setIfInBounds_toArray, List.set_cons_zero, List.set_cons_succ, Array.getD_eq_getD_getElem?, List.getElem?_toArray, List.getElem?_cons_zero, List.getElem?_cons_succ, Option.getD_some]; with_reducible rfl))
  apply txt_read rfl rfl rfl; (· (go_simp; with_reducible rfl)); (· (simp only [Act.put, Act.eval, List.setIfInBounds_toArray, List.set_cons_zero, List.set_cons_succ, Array.getD_eq_getD_getElem?, List.getElem?_toArray, List.getElem?_cons_zero, List.getElem?_cons_succ, Option.getD_some]; with_reducible rfl))
  apply txt_move rfl rfl; (· (simp only [Act.put, Act.eval, List.setIfInBounds_toArray, List.set_cons_zero, List.set_cons_succ, Array.getD_eq_getD_getElem?, List.getElem?_toArray, List.getElem?_cons_zero, List.getElem?_cons_succ, Option.getD_some]; with_reducible rfl))
  apply txt_pure rfl rfl rfl; (· (intro w; go_simp; with_reducible rfl)); (· (simp only [Act.put, Act.eval, List.setIfInBounds_toArray, List.set_cons_zero, List.set_cons_succ, Array.getD_eq_getD_getElem?, List.getElem?_toArray, List.getElem?_cons_zero, List.getElem?_cons_succ, Option.getD_some]; with_reducible rfl))
  apply txt_pure rfl rfl rfl; (· (intro w; go_simp; with_reducible rfl)); (· (simp only [Act.put, Act.eval, List.setIfInBounds_toArray, List.set_cons_zero, List.set_cons_succ, Array.getD_eq_getD_getElem?, List.getElem?_toArray, List.getElem?_cons_zero, List.getElem?_cons_succ, Option.getD_some]; with_reducible rfl))
  apply txt_read rfl rfl rfl; (· (go_simp; with_reducible rfl)); (· (simp only [Act.put, Act.eval, List.setIfInBounds_toArray, List.set_cons_zero, List.set_cons_succ, Array.getD_eq_getD_getElem?, List.getElem?_toArray, List.getElem?_cons_zero, List.getElem?_cons_succ, Option.getD_some]; with_reducible rfl))
  apply txt_move rfl rfl; (· (simp only [Act.put, Act.eval, List.setIfInBounds_toArray, List.set_cons_zero, List.set_cons_succ, Array.getD_eq_getD_getElem?, List.getElem?_toArray, List.getElem?_cons_zero, List.getElem?_cons_succ, Option.getD_some]; with_reducible rfl))
  apply txt_pure rfl rfl rfl; (· (intro w; go_simp; with_reducible rfl)); (· (simp only [Act.put, Act.eval, List.setIfInBounds_toArray, List.set_cons_zero, List.set_cons_succ, Array.getD_eq_getD_getElem?, List.getElem?_toArray, List.getElem?_cons_zero, List.getElem?_cons_succ, Option.getD_some]; with_reducible rfl))
  apply txt_read rfl rfl rfl; (· (go_simp; with_reducible rfl)); (· (simp only [Act.put, Act.eval, List.setIfInBounds_toArray, List.set_cons_zero, List.set_cons_succ, Array.getD_eq_getD_getElem?, List.getElem?_toArray, List.getElem?_cons_zero, List.getElem?_cons_succ, Option.getD_some]; with_reducible rfl))
  apply txt_pure rfl rfl rfl; (· (intro w; go_simp; with_reducible rfl)); (· (simp only [Act.put, Act.eval, List.setIfInBounds_toArray, List.set_cons_zero, List.set_cons_succ, Array.getD_eq_getD_getElem?, List.getElem?_toArray, List.getElem?_cons_zero, List.getElem?_cons_succ, Option.getD_some]; with_reducible rfl))
  apply txt_do rfl rfl rfl; (· (go_simp; with_reducible rfl)); (· (simp only [Act.put, Act.eval, List.setIfInBounds_toArray, List.set_cons_zero, List.set_cons_succ, Array.getD_eq_getD_getElem?, List.getElem?_toArray, List.getElem?_cons_zero, List.getElem?_cons_succ, Option.getD_some]; with_reducible rfl))
  have hrow1 := row_put h.row rfl i hi (g l k)
  have hkp1 : Kept (fun x => x = gb) w (((w).setCell ⟨gb, i * 2, none⟩ (.int .i64 (g l k).1)).setCell ⟨gb, i * 2 + 1, none⟩ (.int .i64 (g l k).2)) := Kept.setCell (S := fun x => x = gb) (p := ⟨gb, _, none⟩) (Kept.setCell (S := fun x => x = gb) (p := ⟨gb, _, none⟩) (Kept.refl _ w) (.inl rfl) _) (.inl rfl) _
  obtain ⟨w1, hw1⟩ : ∃ W, (((w).setCell ⟨gb, i * 2, none⟩ (.int .i64 (g l k).1)).setCell ⟨gb, i * 2 + 1, none⟩ (.int .i64 (g l k).2)) = W := ⟨_, rfl⟩
  rw [hw1] at hrow1 hkp1 ⊢
  clear hw1
  obtain ⟨x0, x1, x2, x3⟩ := row_cells hrow1 (by simp) k (by simpa using hk)
  apply txt_pure rfl rfl rfl; (· (intro w; go_simp; with_reducible rfl)); (· (simp only [Act.put, Act.eval, List.setIfInBounds_toArray, List.set_cons_zero, List.set_cons_succ, Array.getD_eq_getD_getElem?, List.getElem?_toArray, List.getElem?_cons_zero, List.getElem?_cons_succ, Option.getD_some]; with_reducible rfl))
  apply txt_do rfl rfl rfl; (· (go_simp; with_reducible rfl)); (· (simp only [Act.put, Act.eval, List.setIfInBounds_toArray, List.set_cons_zero, List.set_cons_succ, Array.getD_eq_getD_getElem?, List.getElem?_toArray, List.getElem?_cons_zero, List.getElem?_cons_succ, Option.getD_some]; with_reducible rfl))
  have hrow2 := row_put hrow1 (by simp) k (by simpa using hk) (g l i)
  have hkp2 : Kept (fun x => x = gb) w (((w1).setCell ⟨gb, k * 2, none⟩ (.int .i64 (g l i).1)).setCell ⟨gb, k * 2 + 1, none⟩ (.int .i64 (g l i).2)) := Kept.setCell (S := fun x => x = gb) (p := ⟨gb, _, none⟩) (Kept.setCell (S := fun x => x = gb) (p := ⟨gb, _, none⟩) hkp1 (.inl rfl) _) (.inl rfl) _
  obtain ⟨w2, hw2⟩ : ∃ W, (((w1).setCell ⟨gb, k * 2, none⟩ (.int .i64 (g l i).1)).setCell ⟨gb, k * 2 + 1, none⟩ (.int .i64 (g l i).2)) = W := ⟨_, rfl⟩
  rw [hw2] at hrow2 hkp2 ⊢
  clear hw2
  with_reducible refine txt_nil ?_
  obtain ⟨l2, hl2⟩ : ∃ l2, swapL l i k = l2 := ⟨_, rfl⟩
  have hrow2 : w2.ownsRow 0 110 2 (.slice (some ⟨gb, 0, none⟩) l.length cap) l.length (itCells (swapL l i k)) := hrow2
  rw [hl2] at hrow2 hmi hmk
  have hl2n : l2.length = l.length := by rw [← hl2]; simp
  have hl2H := Lib.hid hl2
  clear hl2 hrow1 hkp1
  have cc0 : w2.cell? ⟨tb, 0, none⟩ = some (.slice (some ⟨gb, 0, none⟩) l.length cap) := (hkp2.cell (p := ⟨tb, 0, none⟩) h.lt (Ne.symm h.ne_tb)).trans c0
  have cc1 : w2.cell? ⟨tb, 1, none⟩ = some (.map (some bm)) := (hkp2.cell (p := ⟨tb, 1, none⟩) h.lt (Ne.symm h.ne_tb)).trans c1
  obtain ⟨i0, i1, i2, i3⟩ := row_cells hrow2 hl2n i (by omega)
  obtain ⟨k0, k1, k2, k3⟩ := row_cells hrow2 hl2n k (by omega)
  obtain ⟨f, hm, hpl⟩ := h.map
  have hm2 : MapII w2.drew.drew bm l.length f := hm.keep (hkp2.block bm hm.lt (Ne.symm h.ne_bm))
  have hl2nH := Lib.hid hl2n
  clear c0 c1 hl2n
  go_wp2_with fail
  refine Rt.wp_region_text [0, 0, 0, 1, 0, 0, 0, 1, 0, 0, 0, 1, 0, 0, 0, 1, 0, 0, 0, 1, 0, 0, 0, 1, 0, 0, 2, 0, 2, 2, 0, 2] (by kernel_rfl) (by kernel_rfl) ?_
  apply txt_move rfl rfl; (· (simp only [Act.put, Act.eval, List.setIfInBounds_toArray, List.set_cons_zero, List.set_cons_succ, Array.getD_eq_getD_getElem?, List.getElem?_toArray, List.getElem?_cons_zero, List.getElem?_cons_succ, Option.getD_some]; with_reducible rfl))
  apply txt_pure rfl rfl rfl; (· (intro w; go_simp; with_reducible rfl)); (· (simp only [Act.put, Act.eval, List.setIfInBounds_toArray, List.set_cons_zero, List.set_cons_succ, Array.getD_eq_getD_getElem?, List.getElem?_toArray, List.getElem?_cons_zero, List.getElem?_cons_succ, Option.getD_some]; with_reducible rfl))
  apply txt_pure rfl rfl rfl; (· (intro w; go_simp; with_reducible rfl)); (· (simp only [Act.put, Act.eval, List.setIfInBounds_toArray, List.set_cons_zero, List.set_cons_succ, Array.getD_eq_getD_getElem?, List.getElem?_toArray, List.getElem?_cons_zero, List.getElem?_cons_succ, Option.getD_some]; with_reducible rfl))
  apply txt_read rfl rfl rfl; (· (go_simp; with_reducible rfl)); (· (simp only [Act.put, Act.eval, List.setIfInBounds_toArray, List.set_cons_zero, List.set_cons_succ, Array.getD_eq_getD_getElem?, List.getElem?_toArray, List.getElem?_cons_zero, List.getElem?_cons_succ, Option.getD_some]; with_reducible rfl))
  apply txt_move rfl rfl; (· (simp only [Act.put, Act.eval, List.setIfInBounds_toArray, List.set_cons_zero, List.set_cons_succ, Array.getD_eq_getD_getElem?, List.getElem?_toArray, List.getElem?_cons_zero, List.getElem?_cons_succ, Option.getD_some]; with_reducible rfl))
  apply txt_pure rfl rfl rfl; (· (intro w; go_simp; with_reducible rfl)); (· (simp only [Act.put, Act.eval, List.setIfInBounds_toArray, List.set_cons_zero, List.set_cons_succ, Array.getD_eq_getD_getElem?, List.getElem?_toArray, List.getElem?_cons_zero, List.getElem?_cons_succ, Option.getD_some]; with_reducible rfl))
  apply txt_pure rfl rfl rfl; (· (intro w; go_simp; with_reducible rfl)); (· (simp only [Act.put, Act.eval, List.setIfInBounds_toArray, List.set_cons_zero, List.set_cons_succ, Array.getD_eq_getD_getElem?, List.getElem?_toArray, List.getElem?_cons_zero, List.getElem?_cons_succ, Option.getD_some]; with_reducible rfl))
  apply txt_read rfl rfl rfl; (· (go_simp; with_reducible rfl)); (· (simp only [Act.put, Act.eval, List.setIfInBounds_toArray, List.set_cons_zero, List.set_cons_succ, Array.getD_eq_getD_getElem?, List.getElem?_toArray, List.getElem?_cons_zero, List.getElem?_cons_succ, Option.getD_some]; with_reducible rfl))
  apply txt_move rfl rfl; (· (simp only [Act.put, Act.eval, List.setIfInBounds_toArray, List.set_cons_zero, List.set_cons_succ, Array.getD_eq_getD_getElem?, List.getElem?_toArray, List.getElem?_cons_zero, List.getElem?_cons_succ, Option.getD_some]; with_reducible rfl))
  apply txt_pure rfl rfl rfl; (· (intro w; go_simp; with_reducible rfl)); (· (simp only [Act.put, Act.eval, List.setIfInBounds_toArray, List.set_cons_zero, List.set_cons_succ, Array.getD_eq_getD_getElem?, List.getElem?_toArray, List.getElem?_cons_zero, List.getElem?_cons_succ, Option.getD_some]; with_reducible rfl))
  apply txt_pure rfl rfl rfl; (· (intro w; go_simp; with_reducible rfl)); (· (simp only [Act.put, Act.eval, List.setIfInBounds_toArray, List.set_cons_zero, List.set_cons_succ, Array.getD_eq_getD_getElem?, List.getElem?_toArray, List.getElem?_cons_zero, List.getElem?_cons_succ, Option.getD_some]; with_reducible rfl))
  apply txt_read rfl rfl rfl; (· (go_simp; with_reducible rfl)); (· (simp only [Act.put, Act.eval, List.setIfInBounds_toArray, List.set_cons_zero, List.set_cons_succ, Array.getD_eq_getD_getElem?, List.getElem?_toArray, List.getElem?_cons_zero, List.getElem?_cons_succ, Option.getD_some]; with_reducible rfl))
  apply txt_move rfl rfl; (· (simp only [Act.put, Act.eval, List.setIfInBounds_toArray, List.set_cons_zero, List.set_cons_succ, Array.getD_eq_getD_getElem?, List.getElem?_toArray, List.getElem?_cons_zero, List.getElem?_cons_succ, Option.getD_some]; with_reducible rfl))
  apply txt_pure rfl rfl rfl; (· (intro w; go_simp; with_reducible rfl)); (· (simp only [Act.put, Act.eval, List.setIfInBounds_toArray, List.set_cons_zero, List.set_cons_succ, Array.getD_eq_getD_getElem?, List.getElem?_toArray, List.getElem?_cons_zero, List.getElem?_cons_succ, Option.getD_some]; with_reducible rfl))
  apply txt_pure rfl rfl rfl; (· (intro w; go_simp; with_reducible rfl)); (· (simp only [Act.put, Act.eval, List.setIfInBounds_toArray, List.set_cons_zero, List.set_cons_succ, Array.getD_eq_getD_getElem?, List.getElem?_toArray, List.getElem?_cons_zero, List.getElem?_cons_succ, Option.getD_some]; with_reducible rfl))
  apply txt_read rfl rfl rfl; (· (go_simp; with_reducible rfl)); (· (simp only [Act.put, Act.eval, List.setIfInBounds_toArray, List.set_cons_zero, List.set_cons_succ, Array.getD_eq_getD_getElem?, List.getElem?_toArray, List.getElem?_cons_zero, List.getElem?_cons_succ, Option.getD_some]; with_reducible rfl))
  apply txt_move rfl rfl; (· (simp only [Act.put, Act.eval, List.setIfInBounds_toArray, List.set_cons_zero, List.set_cons_succ, Array.getD_eq_getD_getElem?, List.getElem?_toArray, List.getElem?_cons_zero, List.getElem?_cons_succ, Option.getD_some]; with_reducible rfl))
  apply txt_pure rfl rfl rfl; (· (intro w; go_simp; with_reducible rfl)); (· (simp only [Act.put, Act.eval, List.setIfInBounds_toArray, List.set_cons_zero, List.set_cons_succ, Array.getD_eq_getD_getElem?, List.getElem?_toArray, List.getElem?_cons_zero, List.getElem?_cons_succ, Option.getD_some]; with_reducible rfl))
  apply txt_pure rfl rfl rfl; (· (intro w; go_simp; with_reducible rfl)); (· (simp only [Act.put, Act.eval, List.setIfInBounds_toArray, List.set_cons_zero, List.set_cons_succ, Array.getD_eq_getD_getElem?, List.getElem?_toArray, List.getElem?_cons_zero, List.getElem?_cons_succ, Option.getD_some]; with_reducible rfl))
  apply txt_read rfl rfl rfl; (· (go_simp; with_reducible rfl)); (· (simp only [Act.put, Act.eval, List.setIfInBounds_toArray, List.set_cons_zero, List.set_cons_succ, Array.getD_eq_getD_getElem?, List.getElem?_toArray, List.getElem?_cons_zero, List.getElem?_cons_succ, Option.getD_some]; with_reducible rfl))
  apply txt_move rfl rfl; (· (simp only [Act.put, Act.eval, List.setIfInBounds_toArray, List.set_cons_zero, List.set_cons_succ, Array.getD_eq_getD_getElem?, List.getElem?_toArray, List.getElem?_cons_zero, List.getElem?_cons_succ, Option.getD_some]; with_reducible rfl))
  apply txt_pure rfl rfl rfl; (· (intro w; go_simp; with_reducible rfl)); (· (simp only [Act.put, Act.eval, List.setIfInBounds_toArray, List.set_cons_zero, List.set_cons_succ, Array.getD_eq_getD_getElem?, List.getElem?_toArray, List.getElem?_cons_zero, List.getElem?_cons_succ, Option.getD_some]; with_reducible rfl))
  apply txt_pure rfl rfl rfl; (· (intro w; go_simp; with_reducible rfl)); (· (simp only [Act.put, Act.eval, List.setIfInBounds_toArray, List.set_cons_zero, List.set_cons_succ, Array.getD_eq_getD_getElem?, List.getElem?_toArray, List.getElem?_cons_zero, List.getElem?_cons_succ, Option.getD_some]; with_reducible rfl))
  apply txt_read rfl rfl rfl; (· (go_simp; with_reducible rfl)); (· (simp only [Act.put, Act.eval, List.setIfInBounds_toArray, List.set_cons_zero, List.set_cons_succ, Array.getD_eq_getD_getElem?, List.getElem?_toArray, List.getElem?_cons_zero, List.getElem?_cons_succ, Option.getD_some]; with_reducible rfl))
  apply txt_move rfl rfl; (· (simp only [Act.put, Act.eval, List.setIfInBounds_toArray, List.set_cons_zero, List.set_cons_succ, Array.getD_eq_getD_getElem?, List.getElem?_toArray, List.getElem?_cons_zero, List.getElem?_cons_succ, Option.getD_some]; with_reducible rfl))
  apply txt_move rfl rfl; (· (simp only [Act.put, Act.eval, List.setIfInBounds_toArray, List.set_cons_zero, List.set_cons_succ, Array.getD_eq_getD_getElem?, List.getElem?_toArray, List.getElem?_cons_zero, List.getElem?_cons_succ, Option.getD_some]; with_reducible rfl))
  obtain ⟨v1, st1, wa1, wb1, ra1, rb1, hm3, ht1, hu1⟩ := hm2.put hmi.1 (j := i) (by unfold wf; omega) (by unfold maxLen; omega)
  apply txt_value rfl rfl rfl; (· (go_simp; exact ⟨rfl, rfl⟩)); (· (simp only [Act.put, Act.eval, List.setIfInBounds_toArray, List.set_cons_zero, List.set_cons_succ, Array.getD_eq_getD_getElem?, List.getElem?_toArray, List.getElem?_cons_zero, List.getElem?_cons_succ, Option.getD_some]; with_reducible rfl))
  apply txt_pure rfl rfl rfl; (· (intro w; go_simp; with_reducible rfl)); (· (simp only [Act.put, Act.eval, List.setIfInBounds_toArray, List.set_cons_zero, List.set_cons_succ, Array.getD_eq_getD_getElem?, List.getElem?_toArray, List.getElem?_cons_zero, List.getElem?_cons_succ, Option.getD_some]; with_reducible rfl))
  apply txt_do rfl rfl rfl; (· (go_simp; with_reducible rfl)); (· (simp only [Act.put, Act.eval, List.setIfInBounds_toArray, List.set_cons_zero, List.set_cons_succ, Array.getD_eq_getD_getElem?, List.getElem?_toArray, List.getElem?_cons_zero, List.getElem?_cons_succ, Option.getD_some]; with_reducible rfl))
  clear ra1 rb1
  obtain ⟨v2, st2, wa2, wb2, ra2, rb2, hm4, ht2, hu2⟩ := hm3.put hmk.1 (j := k) (by unfold wf; omega) (by unfold maxLen; split <;> omega)
  apply txt_value rfl rfl rfl; (· (go_simp; exact ⟨rfl, rfl⟩)); (· (simp only [Act.put, Act.eval, List.setIfInBounds_toArray, List.set_cons_zero, List.set_cons_succ, Array.getD_eq_getD_getElem?, List.getElem?_toArray, List.getElem?_cons_zero, List.getElem?_cons_succ, Option.getD_some]; with_reducible rfl))
  apply txt_pure rfl rfl rfl; (· (intro w; go_simp; with_reducible rfl)); (· (simp only [Act.put, Act.eval, List.setIfInBounds_toArray, List.set_cons_zero, List.set_cons_succ, Array.getD_eq_getD_getElem?, List.getElem?_toArray, List.getElem?_cons_zero, List.getElem?_cons_succ, Option.getD_some]; with_reducible rfl))
  apply txt_do rfl rfl rfl; (· (go_simp; with_reducible rfl)); (· (simp only [Act.put, Act.eval, List.setIfInBounds_toArray, List.set_cons_zero, List.set_cons_succ, Array.getD_eq_getD_getElem?, List.getElem?_toArray, List.getElem?_cons_zero, List.getElem?_cons_succ, Option.getD_some]; with_reducible rfl))
  with_reducible refine txt_nil ?_
  clear ra2 rb2
  have hsi : (f (g l2 i).1).isSome = true := by
    have := (swapL_perm hi hk).mem_iff.1 (g_mem (l := swapL l i k) (i := i) (by simpa using hi))
    rw [hl2H.out] at this
    exact hpl.some_of_mem this
  have hsk : (f (g l2 k).1).isSome = true := by
    have := (swapL_perm hi hk).mem_iff.1 (g_mem (l := swapL l i k) (i := k) (by simpa using hk))
    rw [hl2H.out] at this
    exact hpl.some_of_mem this
  have hsk2 : (upd f (g l2 i).1 (some i) (g l2 k).1).isSome = true := by unfold upd; split; rfl; exact hsk
  rw [if_pos hsk2, if_pos hsi] at hm4
  have hpl2 : PL (upd (upd f (g l2 i).1 (some i)) (g l2 k).1 (some k)) l2 := by
    have := hpl.swap hi hk
    rw [hl2H.out] at this
    exact this
  have hkF : Kept (fun x => x = bm ∨ gb = x) w wb2 :=
    Kept.turned (Kept.turned (S := fun x => x = bm ∨ gb = x) (hkp2.mono fun x _ e => .inr e.symm).drew.drew ht1 (.inl (.inl rfl))) ht2 (.inl (.inl rfl))
  have hkG : Kept (fun x => x = bm) w2 wb2 := Kept.turned (Kept.turned (S := fun x => x = bm) (Kept.refl _ w2).drew.drew ht1 (.inl rfl)) ht2 (.inl rfl)
  have hgb : gb < w2.heap.size := by
    rcases hrow2.2 with ⟨e, _⟩ | ⟨g, _, _, e, _, hh, _⟩
    · cases e
    · cases e; exact (Array.getElem?_eq_some_iff.1 hh).1
  have hF : TimerAt wb2 tb bm (.slice (some ⟨gb, 0, none⟩) l.length cap) l2 := by
    refine ⟨?_, ?_, ⟨_, ?_, hpl2⟩, ?_⟩
    · rw [hkG.block tb (Nat.lt_of_lt_of_le h.lt hkp2.size) h.tb_bm, hkp2.block tb h.lt (Ne.symm h.ne_tb)]; exact h.top
    · rw [hl2nH.out]; exact row_kept hrow2 hkG h.ne_bm
    · rw [hl2nH.out]; exact hm4
    · intro p hp
      rw [← hl2H.out] at hp
      exact h.wfs p ((swapL_perm hi hk).mem_iff.1 hp)
  clear hm hm2 hm3 hm4 ht1 hu1 ht2 hu2 hpl hpl2 hsi hsk hsk2
  go_wp2
  go_end0
  exact ⟨rfl, hl2H.out ▸ hF, hkF.mono fun x _ e => Or.imp id (fun e => by rw [e]; rfl) e⟩

end Go.Proofs.Ytmgapdbfaoflmaa.Tm
