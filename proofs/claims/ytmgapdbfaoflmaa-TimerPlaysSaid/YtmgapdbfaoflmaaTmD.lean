/- Cancel, Next, Len, New of the timer. -/
import Derived.Test.YtmgapdbfaoflmaaTmC
namespace Go.Proofs.Ytmgapdbfaoflmaa.Tm
open Go.RowKit Rt
set_option linter.unusedSimpArgs false
set_option linter.unusedVariables false

theorem Kept.setM {S : Nat → Prop} {a b : World} (h : Kept S a b) (p : Nat) (o : Nat) (hp : S p) (u : Value) : Kept S a (b.setCell ⟨p, o, none⟩ u) := h.setCell (p := ⟨p, o, none⟩) (.inl hp) u
/-- The slice in the timer is written. -/
theorem top_set {w : World} {tb bm : Nat} {v : Value} (h : w.heap[tb]? = some (.cells #[v, .map (some bm)] 108 (0, 0))) (v' : Value) : (w.setCell ⟨tb, 0, none⟩ v').heap[tb]? = some (.cells #[v', .map (some bm)] 108 (0, 0)) := by
  obtain ⟨hlt, hk⟩ := Array.getElem?_eq_some_iff.1 h
  show (w.heap.modify tb _)[tb]? = _
  rw [Array.getElem?_eq_getElem (by rw [Array.size_modify]; exact hlt), Array.getElem_modify_self, hk]
  rfl
theorem itCells_last {l : List It} (h : 0 < l.length) : itCells l = itCells l.dropLast ++ itCells [g l (l.length - 1)] := by
  rw [← itCells_append, ← snoc_g h]
theorem Cancel_no {w : World} {tb bm : Nat} {v : Value} {l : List It} (h : TimerAt w tb bm v l) (id : Int) (hid : wf id) (hno : ∀ p ∈ l, p.1 ≠ id) :
    Calls Try.prog 34 #[.pointer (some ⟨tb, 0, none⟩), .int .i64 id] w fun e w' => e = .returned (.bool false) ∧ w' = w := by
  obtain ⟨f, hm, hpl⟩ := h.map
  have hl := hm.look hid
  rw [(hpl.none_iff id).2 hno] at hl
  have c1 := h.c1
  simp only [Option.getD_none, Option.isSome_none] at hl
  have hl : (Instr.lookup 105 (.map (some bm)) (.int .i64 id) true).run Try.prog w = .ok (.tuple #[.int .i64 0, .bool false]) w := hl
  go_enter Try.func34, Try.ntmps34
  go_wp2
  go_ret
  exact ⟨rfl, rfl⟩
set_option maxRecDepth 100000 in
set_option maxHeartbeats 2000000 in
theorem Cancel_yes {w : World} {tb bm : Nat} {v : Value} {l : List It} (h : TimerAt w tb bm v l) (id : Int) (hid : wf id) (hn : l.length < 1099511627776) {f : Int → Option Nat} (hm : MapII w bm l.length f) (hpl : PL f l) {i : Nat} (hf : f id = some i) :
    Calls Try.prog 34 #[.pointer (some ⟨tb, 0, none⟩), .int .i64 id] w fun e w' => e = .returned (.bool true) ∧ ∃ v', TimerAt w' tb bm v' (cancelL l i) ∧ v'.ownBlock = v.ownBlock ∧ Kept (Mine tb bm v) w w' := by
  obtain ⟨hil, hie⟩ := (hpl id i).1 hf
  obtain ⟨gb, cap, rfl⟩ := h.val (by omega)
  have hl : (Instr.lookup 105 (.map (some bm)) (.int .i64 id) true).run Try.prog w = .ok (.tuple #[.int .i64 (i : Int), .bool true]) w := by have := hm.look hid; rw [hf] at this; exact this
  have c0 := h.c0
  have c1 := h.c1
  obtain ⟨m, hml⟩ : ∃ m, l.length - 1 = m := ⟨_, rfl⟩
  have hm1 : (l.length : Int) - 1 = (m : Int) := by omega
  have hmw : IntKind.i64.wrap (m : Int) = (m : Int) := by simp [IntKind.wrap, IntKind.bits, IntKind.signed]; omega
  have hmlH := Lib.hid hml
  have hmn : m < l.length := by omega
  have hcap : l.length ≤ cap := by
    rcases h.row.2 with ⟨e, _⟩ | ⟨g', cap', cur, hv, _, _, hle, _⟩
    · cases e
    · cases hv; exact hle
  have hfH := Lib.hid hf
  have hieH := Lib.hid hie
  clear hml hf hie
  go_enter Try.func34, Try.ntmps34
  go_wp2_with fail
  refine (swap_any h i m hil hmn hn).mono ?_
  rintro e w1 ⟨rfl, h1, hk1⟩
  obtain ⟨f1, hm1', hpl1⟩ := h1.map
  have hli : g (swapL l i m) m = g l i := by rw [g_swapL hil hmn, if_pos rfl]
  obtain ⟨l2, hl2⟩ : ∃ l2, swapL l i m = l2 := ⟨_, rfl⟩
  have hl2n : Hid (l2.length = l.length) := Lib.hid (by rw [← hl2]; simp)
  have hl2H := Lib.hid hl2
  rw [hl2] at h1 hm1' hpl1 hli
  have hliH := Lib.hid hli
  clear hl2 hli c0 c1 hl
  have c0 := h1.c0
  have c1 := h1.c1
  have f0 := h1.fr 0
  have hmc : (m : Int) ≤ cap := by omega
  have hw2 : MapII (w1.setCell ⟨tb, 0, none⟩ (.slice (some ⟨gb, 0, none⟩) m cap)) bm l.length f1 := (hl2n.out ▸ hm1').keep (Below.heap_setCell _ _ _ _ (Ne.symm h1.tb_bm))
  obtain ⟨w3, hdel, hm3, ht3⟩ := hw2.del hid (by
    have := hpl1.some_of_mem (g_mem (l := l2) (i := m) (by rw [hl2n.out]; exact hmn))
    rw [hliH.out, hieH.out] at this; exact this) 0
  have hcc1 : (w1.setCell ⟨tb, 0, none⟩ (.slice (some ⟨gb, 0, none⟩) m cap)).cell? ⟨tb, 1, none⟩ = some (.map (some bm)) := by
    simp [World.cell?, top_set h1.top]
  clear hm1' hw2
  go_upto_region 7 with (fail)
  clear c0 c1 f0
  obtain ⟨l3, hl3⟩ : ∃ l3, l2.dropLast = l3 := ⟨_, rfl⟩
  have hl3n : l3.length = m := by rw [← hl3, List.length_dropLast, hl2n.out]; exact hmlH.out
  have hk3 : Kept (fun x => x = tb ∨ x = bm) w1 w3 := Kept.turned (S := fun x => x = tb ∨ x = bm) ((Kept.refl _ w1).setCell (p := ⟨tb, 0, none⟩) (.inl (.inl rfl)) _) ht3 (.inl (.inr rfl))
  have h3 : TimerAt w3 tb bm (.slice (some ⟨gb, 0, none⟩) m cap) l3 := by
    refine ⟨?_, ?_, ⟨_, by rw [hl3n, ← hmlH.out]; exact hm3, ?_⟩, ?_⟩
    · rw [ht3.grown.block tb (by rw [show (w1.setCell ⟨tb, 0, none⟩ (.slice (some ⟨gb, 0, none⟩) m cap)).heap.size = w1.heap.size by simp [World.setCell]]; exact h1.lt) (fun e => h1.tb_bm (Option.some.inj e))]
      exact top_set h1.top _
    · rw [hl3n]
      have hr := h1.row
      rw [itCells_last (l := l2) (by rw [hl2n.out]; omega), hl3, hl2n.out, show l.length = m + 1 by have := hmlH.out; omega] at hr
      exact row_kept (ownsRow_pop (by rw [itCells_length, hl3n]) hr) hk3 (fun e => e.elim h1.ne_tb h1.ne_bm)
    · have := hpl1.drop (by rw [hl2n.out]; omega)
      rw [hl2n.out, hmlH.out, hliH.out, hieH.out, hl3] at this
      exact this
    · intro p hp
      rw [← hl3] at hp
      exact h1.wfs p ((List.dropLast_sublist l2).mem hp)
  have hcan : Hid (cancelL l i = if i < m then downF (upF l3 i) i else l3) := Lib.hid (by unfold cancelL; simp only []; rw [hmlH.out, hl2H.out, hl3])
  have hkw : Kept (Mine tb bm (.slice (some ⟨gb, 0, none⟩) l.length cap)) w w3 := (hk1.mono fun x _ e => Or.inr e).trans (hk3.mono fun x _ e => e.imp (fun e => e) .inl)
  have hl3H := Lib.hid hl3n
  clear hm3 ht3 hpl1 hk3 hl3 hl3n hk1 h1
  by_cases him : i < m
  · have him' : (i : Int) < m := by omega
    go_wp2_with fail
    refine (up_any h3 i (by rw [hl3H.out]; exact him) (by rw [hl3H.out]; omega)).mono ?_
    rintro e w4 ⟨rfl, h4, hk4⟩
    go_wp2_with fail
    refine (down_any h4 i (by rw [upF_length _ _ (by rw [hl3H.out]; exact him), hl3H.out]; exact him) (by rw [upF_length _ _ (by rw [hl3H.out]; exact him), hl3H.out]; omega)).mono ?_
    rintro e w5 ⟨rfl, h5, hk5⟩
    go_wp2
    go_ret
    refine ⟨rfl, .slice (some ⟨gb, 0, none⟩) m cap, ?_, rfl, hkw.trans ((hk4.mono fun x _ e => Or.inr e).trans (hk5.mono fun x _ e => Or.inr e))⟩
    rw [hcan.out, if_pos him]
    exact h5
  · have him' : ¬ (i : Int) < m := by omega
    go_wp2
    go_ret
    refine ⟨rfl, .slice (some ⟨gb, 0, none⟩) m cap, ?_, rfl, hkw⟩
    rw [hcan.out, if_neg him]
    exact h3

theorem Next_none {w : World} {tb bm : Nat} {v : Value} (h : TimerAt w tb bm v []) :
    Calls Try.prog 36 #[.pointer (some ⟨tb, 0, none⟩)] w fun e w' => e = .returned (.tuple #[.int .i64 0, .int .i64 0, .bool false]) ∧ w' = w := by
  have c0 := h.c0
  rcases h.row.2 with ⟨rfl, _⟩ | ⟨gb, cap, _, rfl, _⟩
  · go_enter Try.func36, Try.ntmps36
    go_wp2
    refine bodyPost_ret (v := .tuple #[.int .i64 0, .int .i64 0, .bool false]) (by simp [results, Try.results36, go_sem]) rfl ⟨rfl, rfl⟩
  · have c0 : w.cell? ⟨tb, 0, none⟩ = some (.slice (some ⟨gb, 0, none⟩) 0 cap) := c0
    go_enter Try.func36, Try.ntmps36
    go_wp2
    refine bodyPost_ret (v := .tuple #[.int .i64 0, .int .i64 0, .bool false]) (by simp [results, Try.results36, go_sem]) rfl ⟨rfl, rfl⟩
theorem Next_some {w : World} {tb bm : Nat} {v : Value} {l : List It} (h : TimerAt w tb bm v l) (h0 : 0 < l.length) (hn : l.length < 1099511627776) :
    Calls Try.prog 36 #[.pointer (some ⟨tb, 0, none⟩)] w fun e w' => e = .returned (.tuple #[.int .i64 (g l 0).1, .int .i64 (g l 0).2, .bool true]) ∧ Below w.heap.size w w' := by
  obtain ⟨gb, cap, rfl⟩ := h.val h0
  have c0 := h.c0
  obtain ⟨i0, i1, _, _⟩ := h.cells 0 h0
  rw [Nat.zero_mul] at i0 i1
  have h0' : (0 : Int) < l.length := by omega
  have hne : ((l.length : Int) == 0) = false := beq_eq_false_iff_ne.2 (by omega)
  have hne2 : l ≠ [] := fun e => by subst e; simp at h0
  have hne3 : l.isEmpty = false := by cases l; simp at h0; rfl
  go_enter Try.func36, Try.ntmps36
  go_wp2
  go_region
  go_wp2
  refine bodyPost_ret (v := .tuple #[.int .i64 (g l 0).1, .int .i64 (g l 0).2, .bool true]) (by simp [results, Try.results36, go_sem]) rfl ⟨rfl, (Below.refl _ _).drew⟩
theorem Len_any {w : World} {tb bm : Nat} {v : Value} {l : List It} (h : TimerAt w tb bm v l) :
    Calls Try.prog 39 #[.pointer (some ⟨tb, 0, none⟩)] w fun e w' => e = .returned (.int .i64 (l.length : Int)) ∧ w' = w := by
  have c0 := h.c0
  rcases h.row.2 with ⟨rfl, h2⟩ | ⟨gb, cap, _, rfl, _⟩
  · have := List.length_eq_zero_iff.1 h2
    subst this
    go_enter Try.func39, Try.ntmps39
    go_wp2
    go_ret
    exact ⟨rfl, rfl⟩
  · go_enter Try.func39, Try.ntmps39
    go_wp2
    go_ret
    exact ⟨rfl, rfl⟩
theorem New_any (w : World) : Calls Try.prog 30 #[] w fun e w' => e = .returned (.pointer (some ⟨w.heap.size + 1, 0, none⟩)) ∧ TimerAt w' (w.heap.size + 1) w.heap.size (.slice none 0 0) [] ∧ Below w.heap.size w w' := by
  have hmm := @run_makeMap Try.prog
  go_enter Try.func30, Try.ntmps30
  go_wp2
  go_ret
  refine ⟨rfl, ⟨?_, World.ownsRow_nil _ _ _ _, ⟨_, (MapII.made w).keep (Below.heap_alloc _ _ _ (by simp)), PL.nil⟩, by simp⟩, ((Below.refl _ _).alloc (Nat.le_refl _) _).alloc (by simp) _⟩
  show ((w.heap.push _).push _)[w.heap.size + 1]? = _
  rw [show w.heap.size + 1 = (w.heap.push (Obj.map #[] 0)).size by simp]
  exact Array.getElem?_push_size
end Go.Proofs.Ytmgapdbfaoflmaa.Tm
