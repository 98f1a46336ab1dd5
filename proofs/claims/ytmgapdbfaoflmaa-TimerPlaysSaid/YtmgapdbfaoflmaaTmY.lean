/- TimerPlays: both timers beside each other. -/
import Derived.Test.YtmgapdbfaoflmaaTmM
namespace Go.Proofs.Ytmgapdbfaoflmaa.Tm
open Go.RowKit Rt
set_option linter.unusedSimpArgs false
set_option linter.unusedVariables false
theorem RefT.keep2 {w w' : World} {p : Nat} {v : Value} {S : List It} (h : RefT w p v S) (hp : w'.heap[p]? = w.heap[p]?) (hk : 0 < S.length → ∀ k, v.ownBlock = some k → w'.heap[k]? = w.heap[k]?) (hs : w.heap.size ≤ w'.heap.size) : RefT w' p v S := by
  refine ⟨hp.trans h.top, ?_, h.sep⟩
  obtain ⟨a, c, rfl, h2, hc, hnn, h3⟩ := h.row
  refine ⟨a, c, rfl, h2, hc, hnn, fun h0 => ?_⟩
  obtain ⟨b, off, rfl, hb, hcell⟩ := h3 h0
  exact ⟨b, off, rfl, by omega, fun j u hj => (World.cell?_of_block (hk h0 b rfl)).trans (hcell j u hj)⟩
theorem RefT.own_lt {w : World} {p : Nat} {v : Value} {S : List It} (h : RefT w p v S) (h0 : 0 < S.length) {k : Nat} (hk : v.ownBlock = some k) : k < w.heap.size := by
  obtain ⟨a, c, rfl, _, _, _, h3⟩ := h.row
  obtain ⟨b, off, rfl, hb, _⟩ := h3 h0
  have : b = k := Option.some.inj hk
  omega
/-- Both timers, apart from each other and from what is old. -/
structure PI (w wr : World) (tb bm p : Nat) (v u : Value) (S : List It) : Prop where
  to : TO w wr tb bm v S
  ref : RefT wr p u S
  pb : w.heap.size ≤ p
  pn : ¬ Mine tb bm v p
  un : 0 < S.length → ∀ k, u.ownBlock = some k → ¬ Mine tb bm v k ∧ w.heap.size ≤ k
/-- .. behind the one's deed. -/
structure PM (w wr : World) (tb bm p : Nat) (v u : Value) (S S' : List It) : Prop where
  to : TO w wr tb bm v S'
  ref : RefT wr p u S
  pb : w.heap.size ≤ p
  pn : ¬ Mine tb bm v p
  un : 0 < S.length → ∀ k, u.ownBlock = some k → ¬ Mine tb bm v k ∧ w.heap.size ≤ k
section
variable {w wr w' : World} {tb bm p : Nat} {v u v' u' : Value} {S S' : List It}
theorem PI.later (h : PI w wr tb bm p v u S) (hb : Below wr.heap.size wr w') : PI w w' tb bm p v u S := ⟨h.to.later hb, h.ref.below hb, h.pb, h.pn, h.un⟩
theorem PM.later (h : PM w wr tb bm p v u S S') (hb : Below wr.heap.size wr w') : PM w w' tb bm p v u S S' := ⟨h.to.later hb, h.ref.below hb, h.pb, h.pn, h.un⟩
/-- The timer's deed. -/
theorem PI.timer (h : PI w wr tb bm p v u S) (ht : TimerS w' tb bm v' S') (hv : v'.ownBlock = v.ownBlock ∨ ∃ g, v'.ownBlock = some g ∧ wr.heap.size ≤ g) (hk : Kept (Mine tb bm v) wr w') : PM w w' tb bm p v' u S S' := by
  have hm : ∀ k, k < wr.heap.size → ¬ Mine tb bm v k → ¬ Mine tb bm v' k := by
    intro k hk' hn hm
    rcases hm with e | e | e
    · exact hn (.inl e)
    · exact hn (.inr (.inl e))
    · rcases hv with e2 | ⟨g, e2, hg⟩
      · exact hn (.inr (.inr (e2 ▸ e)))
      · rw [e2] at e; have := Option.some.inj e; omega
  refine ⟨h.to.set ht hv hk, h.ref.keep2 (hk.block p h.ref.lt h.pn) (fun h0 k hk' => hk.block k (h.ref.own_lt h0 hk') (h.un h0 k hk').1) hk.size, h.pb, hm p h.ref.lt h.pn, fun h0 k hk' => ⟨hm k (h.ref.own_lt h0 hk') (h.un h0 k hk').1, (h.un h0 k hk').2⟩⟩
/-- The reference's deed. -/
theorem PM.other (h : PM w wr tb bm p v u S S') (hr : RefT w' p u' S') (hv : (0 < S.length ∧ u'.ownBlock = u.ownBlock) ∨ S' = [] ∨ u'.ownBlock = none ∨ ∃ g, u'.ownBlock = some g ∧ wr.heap.size ≤ g) (hk : Kept (fun k => k = p) wr w') : PI w w' tb bm p v u' S' := by
  have hp := h.pb
  refine ⟨⟨h.to.t.kept hk (fun k hm e => by subst e; exact h.pn hm), h.to.own, h.to.below.trans (hk.below h.to.below.size (fun k hk' e => by omega))⟩, hr, h.pb, h.pn, fun h0 k hk' => ?_⟩
  rcases hv with ⟨h1, e⟩ | e | e | ⟨g, e, hg⟩
  · exact h.un h1 k (e ▸ hk')
  · subst e; simp at h0
  · rw [e] at hk'; cases hk'
  · rw [e] at hk'
    have hkg := Option.some.inj hk'
    refine ⟨fun hm => ?_, by have := h.to.below.size; omega⟩
    have := h.to.t.mine_lt hm
    omega
end
end Go.Proofs.Ytmgapdbfaoflmaa.Tm
