/- The reference's Draws; a row of one's own that is stored over. -/
import Derived.Test.YtmgapdbfaoflmaaTmW
import Derived.Test.YtmgapdbfaoflmaaRk
namespace Go.Proofs.Ytmgapdbfaoflmaa.Tm
open Go.RowKit Rt
set_option linter.unusedSimpArgs false
set_option linter.unusedVariables false
/-- The reference's draws at p. -/
structure RefAt (w : World) (p : Nat) (L : List Int) (S : Nat → Prop) : Prop where
  top : ∃ v, w.heap[p]? = some (.cells #[v] 86 (0, 0)) ∧ SliceU w v L S
  sp : ¬ S p
section
variable {w w' : World} {p : Nat} {L : List Int} {S : Nat → Prop}
theorem RefAt.lt (h : RefAt w p L S) : p < w.heap.size := by obtain ⟨⟨v, h, _⟩, _⟩ := h; exact (Array.getElem?_eq_some_iff.1 h).1
theorem RefAt.keep (h : RefAt w p L S) (hk : ∀ k, k < w.heap.size → (k = p ∨ S k) → w'.heap[k]? = w.heap[k]?) (hs : w.heap.size ≤ w'.heap.size) : RefAt w' p L S := by
  have hl := h.lt
  obtain ⟨⟨v, h1, h2⟩, h3⟩ := h
  exact ⟨⟨v, (hk p hl (.inl rfl)).trans h1, h2.keep (fun k hk' hS => hk k hk' (.inr hS)) hs⟩, h3⟩
theorem RefAt.below (h : RefAt w p L S) (hb : Below w.heap.size w w') : RefAt w' p L S := h.keep (fun k hk _ => hb.block k hk) hb.size
theorem RNext_any (h : RefAt w p L S) (n : Int) (hn : wf n) : Calls Try.prog 49 #[.pointer (some ⟨p, 0, none⟩), .int .i64 n] w fun e w' => e = .returned (.int .i64 (nextD L n)) ∧ RefAt w' p (restD L n) S ∧ Kept (fun k => k = p) w w' := by
  have hD := h
  have hlt := h.lt
  obtain ⟨⟨v, h1, ⟨a, c, rfl, h2, hc, hnn, h3⟩, h4⟩, h5⟩ := h
  have c0 : w.cell? ⟨p, 0, none⟩ = some (.slice a L.length c) := by simp [World.cell?, h1]
  have f0 : w.frozen? ⟨p, 0, none⟩ = false := by simp [World.frozen?, h1]
  by_cases hn1 : n < 1
  · have e1 : Hid (nextD L n = 0) := Lib.hid (by unfold nextD; rw [if_pos hn1])
    have e2 : restD L n = L := by unfold restD; rw [if_pos hn1]
    rw [e2]
    clear e2 h1 h3 h4
    go_enter Try.func49, Try.ntmps49
    go_wp2
    go_ret
    exact ⟨by rw [e1.out]; rfl, hD, Kept.refl _ _⟩
  · cases L with
    | nil =>
      have e1 : Hid (nextD [] n = 0) := Lib.hid (by unfold nextD; rw [if_neg hn1]; simp)
      have e2 : restD [] n = [] := by unfold restD; rw [if_neg hn1]; rfl
      rw [e2]
      have c0 : w.cell? ⟨p, 0, none⟩ = some (.slice a 0 c) := c0
      clear e2 h1 h3 h4
      go_enter Try.func49, Try.ntmps49
      go_wp2
      go_ret
      exact ⟨by rw [e1.out]; rfl, hD, Kept.refl _ _⟩
    | cons x L =>
      obtain ⟨b, off, rfl, hbl, hSb, hcell⟩ := h3 (by simp)
      have hx := h4 x (by simp)
      have hx0 : w.cell? ⟨b, off, none⟩ = some (.int .u64 x) := by have := hcell 0 (by simp); simpa using this
      have hx1 := hx.1
      have hx2 := hx.2
      have hn2 := hn.1
      have hn3 := hn.2
      have hm0 : 0 ≤ x % n := Int.emod_nonneg _ (by omega)
      have hm1 : x % n < n := Int.emod_lt_of_pos _ (by omega)
      have hlen : (x :: L).length = L.length + 1 := rfl
      obtain ⟨m, hm⟩ : ∃ m, L.length + 1 = m := ⟨_, rfl⟩
      rw [hlen, hm] at c0 h2
      have hmH := Lib.hid hm
      have hm1' : 0 < m := by omega
      have hmne : ((m : Int) == 0) = false := beq_eq_false_iff_ne.2 (by omega)
      have hc2 : (m : Int) ≤ c := by omega
      have hc63 : (c : Int) ≤ 9223372036854775807 := by unfold maxLen at hc; omega
      have hdl : m - 1 = L.length := by omega
      have hmi : (0 : Int) < m := by omega
      have hmi1 : (1 : Int) ≤ m := by omega
      have e1 : Hid (nextD (x :: L) n = x % n) := Lib.hid (by unfold nextD; rw [if_neg hn1]; rfl)
      have e2 : restD (x :: L) n = L := by unfold restD; rw [if_neg hn1]; rfl
      rw [e2]
      have hn1' : 1 ≤ n := by omega
      have hcellH := Lib.hid hcell
      have h1H := Lib.hid h1
      have hpb : b ≠ p := fun e => h5 (e ▸ hSb)
      have htm : x.tmod n = x % n := Int.tmod_eq_emod_of_nonneg hx1
      clear e2 h1 h3 hlen hm hcell hx
      have hend : ∀ A, A ≠ none → (0 < L.length → A = some ⟨b, off + 1, none⟩) → RefAt (w.setCell ⟨p, 0, none⟩ (.slice A L.length (c - 1))) p L S ∧ Kept (fun k => k = p) w (w.setCell ⟨p, 0, none⟩ (.slice A L.length (c - 1))) := by
        intro A hne hA
        refine ⟨⟨⟨.slice A L.length (c - 1), ?_, ⟨A, c - 1, rfl, by have := hmH.out; omega, by omega, fun e => (hne e).elim, fun h0 => ⟨b, off + 1, hA h0, by simpa [World.setCell] using hbl, hSb, fun j hj => ?_⟩⟩, fun y hy => h4 y (by simp [hy])⟩, h5⟩, Kept.setCell (S := fun k => k = p) (p := ⟨p, 0, none⟩) (Kept.refl _ w) (.inl rfl) _⟩
        · obtain ⟨hl, hk⟩ := Array.getElem?_eq_some_iff.1 h1H.out
          show (w.heap.modify p _)[p]? = _
          rw [Array.getElem?_eq_getElem (by rw [Array.size_modify]; exact hl), Array.getElem_modify_self, hk]
          rfl
        · have h7 := hcellH.out (j + 1) (by simp; omega)
          rw [show off + 1 + j = off + (j + 1) by omega]
          rw [World.cell?_of_block (w := w) (Below.heap_setCell _ _ _ _ (by exact hpb)), h7]
          simp
      have hendH := Lib.hid hend
      clear hend
      by_cases hcap : c = 1
      · have hm1e : m = 1 := by omega
        have hL0 : L = [] := List.length_eq_zero_iff.1 (by omega)
        subst hcap hm1e hL0
        go_enter Try.func49, Try.ntmps49
        go_wp2
        go_ret
        have := hendH.out (some ⟨b, off, none⟩) (by simp) (by simp)
        exact ⟨by rw [e1.out]; rfl, this⟩
      · go_enter Try.func49, Try.ntmps49
        go_wp2
        go_ret
        exact ⟨by rw [e1.out]; rfl, hendH.out _ (by simp) (fun _ => rfl)⟩
end
/-- A row of one's own, of whatever numbers. -/
def Row9 (w : World) (base n : Nat) (v : Value) : Prop :=
  (v = .slice none 0 0 ∧ n = 0) ∨ ∃ g cap cur, v = .slice (some ⟨g, 0, none⟩) n cap ∧ base ≤ g ∧ w.heap[g]? = some (.cells cur 87 (0, 0)) ∧ n ≤ cap ∧ cap ≤ maxLen ∧ cur.size = cap
theorem Row9.of {w : World} {base n : Nat} {v : Value} {xs : List Value} (h : w.ownsRow base 87 1 v n xs) : Row9 w base n v := by
  rcases h.2 with h | ⟨g, cap, cur, h1, h2, h3, h4, h5, h6, _⟩
  · exact .inl h
  · exact .inr ⟨g, cap, cur, h1, h2, h3, h4, h5, by omega⟩
theorem Row9.keep {w w' : World} {base n : Nat} {v : Value} (h : Row9 w base n v) (hk : ∀ k, base ≤ k → k < w.heap.size → v.ownBlock = some k → w'.heap[k]? = w.heap[k]?) : Row9 w' base n v := by
  rcases h with h | ⟨g, cap, cur, rfl, h2, h3, h4, h5, h6⟩
  · exact .inl h
  · exact .inr ⟨g, cap, cur, rfl, h2, (hk g h2 (Array.getElem?_eq_some_iff.1 h3).1 rfl).trans h3, h4, h5, h6⟩
theorem Row9.val {w : World} {base n : Nat} {v : Value} (h : Row9 w base n v) : ∃ a c, v = .slice a n c := by
  rcases h with ⟨rfl, rfl⟩ | ⟨g, cap, cur, rfl, _⟩
  · exact ⟨_, _, rfl⟩
  · exact ⟨_, _, rfl⟩
theorem Row9.at {w : World} {base n c : Nat} {a : Option Addr} (h : Row9 w base n (.slice a n c)) {j : Nat} (hj : j < n) (z : Int) : ∃ g u, a = some ⟨g, 0, none⟩ ∧ base ≤ g ∧ g < w.heap.size ∧ w.cell? ⟨g, j, none⟩ = some u ∧ w.frozen? ⟨g, j, none⟩ = false ∧ Row9 (w.setCell ⟨g, j, none⟩ (.int .u64 z)) base n (.slice a n c) := by
  rcases h with ⟨_, rfl⟩ | ⟨g, cap, cur, hv, h2, h3, h4, h5, h6⟩
  · omega
  · cases hv
    obtain ⟨hl, hk⟩ := Array.getElem?_eq_some_iff.1 h3
    have hjc : j < cur.size := by omega
    refine ⟨g, cur[j], rfl, h2, hl, ?_, ?_, .inr ⟨g, c, cur.setIfInBounds j (.int .u64 z), rfl, h2, ?_, h4, h5, by simpa using h6⟩⟩
    · simp [World.cell?, h3, hjc]
    · simp [World.frozen?, h3]
    · show (w.heap.modify g _)[g]? = _
      rw [Array.getElem?_eq_getElem (by rw [Array.size_modify]; exact hl), Array.getElem_modify_self, hk]
      rfl
theorem SliceU.of_row {w : World} {base n : Nat} {v : Value} {L : List Int} (h : w.ownsRow base 87 1 v L.length (uC L)) (hw : ∀ x ∈ L, wu x) : SliceU w v L (fun k => base ≤ k) := by
  have hc := h
  refine ⟨?_, hw⟩
  rcases h.2 with ⟨rfl, e⟩ | ⟨g, cap, cur, rfl, hbg, hh, hle, hcm, hsz, htk⟩
  · exact ⟨none, 0, by rw [e], by omega, by simp, fun _ => rfl, fun h0 => by omega⟩
  · refine ⟨_, cap, rfl, hle, hcm, by simp, fun h0 => ⟨g, 0, rfl, (Array.getElem?_eq_some_iff.1 hh).1, hbg, fun j hj => ?_⟩⟩
    have := hc.cellAt j (by omega)
    rw [Nat.zero_add, this]
    simp [uC, hj]
end Go.Proofs.Ytmgapdbfaoflmaa.Tm
