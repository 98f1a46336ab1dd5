/- TableGoes: a round of its own function. -/
import Derived.Test.YtmgapdbfaoflmaaTbL
import Derived.Test.YtmgapdbfaoflmaaTbT
namespace Go.Proofs.Ytmgapdbfaoflmaa.Tb
open Go.RowKit Go.Shelf Rt Tm
set_option linter.unusedSimpArgs false
set_option linter.unusedVariables false
/-- What goes on: told so far, and the table. -/
structure GI (w00 wF wr : World) (F : Nat → Prop) (tb Bo : Nat) (T : List ByteArray) (l : List KV) : Prop where
  same : ∀ x, F x → wr.heap[x]? = wF.heap[x]?
  size : wF.heap.size ≤ wr.heap.size
  below : Below w00.heap.size w00 wr
  bo : w00.heap.size ≤ Bo ∧ ¬ F Bo
  ex : ∃ S bm v, TabS wr S tb bm 1000 l ∧ Boxed wr Bo 22 v ∧ wr.ownsRow 0 9 1 v T.length (T.map Value.string) ∧ (∀ x, S x → w00.heap.size ≤ x ∧ ¬ F x ∧ x ≠ Bo ∧ v.ownBlock ≠ some x) ∧ (∀ x, v.ownBlock = some x → w00.heap.size ≤ x ∧ ¬ F x)
theorem own_lt {w : World} {base e size n : Nat} {v : Value} {xs : List Value} (h : w.ownsRow base e size v n xs) {x : Nat} (hx : v.ownBlock = some x) : x < w.heap.size := by
  rcases h.2 with ⟨rfl, _⟩ | ⟨g, cap, cur, rfl, _, hh, _⟩
  · cases hx
  · cases hx; exact (Array.getElem?_eq_some_iff.1 hh).1
theorem own_keep {w w' : World} {base e size n : Nat} {v : Value} {xs : List Value} (h : w.ownsRow base e size v n xs) (hb : ∀ x, v.ownBlock = some x → w'.heap[x]? = w.heap[x]?) : w'.ownsRow base e size v n xs := by
  obtain ⟨h1, h2⟩ := h
  refine ⟨h1, ?_⟩
  rcases h2 with h2 | ⟨g, cap, cur, rfl, hg, hh, r⟩
  · exact .inl h2
  · exact .inr ⟨g, cap, cur, rfl, hg, (hb g rfl).trans hh, r⟩
section
variable {w00 wF wr w' : World} {F : Nat → Prop} {tb Bo : Nat} {T : List ByteArray} {l l' : List KV} {k : ByteArray}
/-- What may be written. -/
def Mo (w00 : World) (F : Nat → Prop) (x : Nat) : Prop := w00.heap.size ≤ x ∧ ¬ F x
theorem GI.cell (h : GI w00 wF wr F tb Bo T l) {p : Addr} {v : Value} (hF : F p.block) (hc : wF.cell? p = some v) : wr.cell? p = some v := (World.cell?_of_block (h.same _ hF)).trans hc
theorem GI.later (h : GI w00 wF wr F tb Bo T l) (hF : ∀ x, F x → x < wF.heap.size) (hb : Below wr.heap.size wr w') : GI w00 wF w' F tb Bo T l := by
  obtain ⟨S, bm, v, h1, h2, h3, h4, h5⟩ := h.ex
  exact ⟨fun x hx => (hb.block x (Nat.lt_of_lt_of_le (hF x hx) h.size)).trans (h.same x hx), Nat.le_trans h.size hb.size, h.below.trans (hb.mono h.below.size), h.bo,
    S, bm, v, h1.below hb, (hb.block Bo h2.lt).trans h2, own_keep h3 (fun x hx => hb.block x (own_lt h3 hx)), h4, h5⟩
/-- The table's deed. -/
theorem GI.tab (h : GI w00 wF wr F tb Bo T l) (hF : ∀ x, F x → x < wF.heap.size) {S : Nat → Prop} {bm : Nat} {v : Value} (h2 : Boxed wr Bo 22 v) (h3 : wr.ownsRow 0 9 1 v T.length (T.map Value.string)) (h4 : ∀ x, S x → w00.heap.size ≤ x ∧ ¬ F x ∧ x ≠ Bo ∧ v.ownBlock ≠ some x) (h5 : ∀ x, v.ownBlock = some x → w00.heap.size ≤ x ∧ ¬ F x)
    (hs : ∃ S', TabS w' S' tb bm 1000 l' ∧ Later S S' wr w' ∧ Kept S wr w') : GI w00 wF w' F tb Bo T l' ∧ Kept (Mo w00 F) wr w' := by
  obtain ⟨S', k1, k2, k3⟩ := hs
  have hbs := h.below.size
  have hbo := h2.lt
  refine ⟨⟨fun x hx => (k3.block x (Nat.lt_of_lt_of_le (hF x hx) h.size) (fun e => (h4 x e).2.1 hx)).trans (h.same x hx), Nat.le_trans h.size k3.size, h.below.trans (k3.below hbs (fun x hx e => by have := (h4 x e).1; omega)), h.bo,
    S', bm, v, k1, (k3.block Bo hbo (fun e => (h4 Bo e).2.2.1 rfl)).trans h2, own_keep h3 (fun x hx => k3.block x (own_lt h3 hx) (fun e => (h4 x e).2.2.2 hx)), ?_, h5⟩, k3.mono fun x _ e => ⟨(h4 x e).1, (h4 x e).2.1⟩⟩
  intro x hx
  rcases k2 x hx with e | e
  · exact h4 x e
  · refine ⟨by omega, fun e2 => ?_, by omega, fun e2 => ?_⟩
    · have := hF x e2; have := h.size; omega
    · have := own_lt h3 e2; omega
theorem GI.drop (h : GI w00 wF wr F tb Bo T l) (hF : ∀ x, F x → x < wF.heap.size) (hk : k.size ≤ maxLen) : Calls Try.prog 23 #[.pointer (some ⟨tb, 0, none⟩), .string k] wr fun e w' => e = .returned (.bool (lookV l k).isSome) ∧ GI w00 wF w' F tb Bo T (delK l k) ∧ Kept (Mo w00 F) wr w' := by
  obtain ⟨S, bm, v, h1, h2, h3, h4, h5⟩ := h.ex
  exact (Drop_S h1 hk).mono fun e w' ⟨he, hs⟩ => ⟨he, h.tab hF h2 h3 h4 h5 hs⟩
theorem GI.put (h : GI w00 wF wr F tb Bo T l) (hF : ∀ x, F x → x < wF.heap.size) (hk : k.size ≤ maxLen) (x : Int) : Calls Try.prog 16 #[.pointer (some ⟨tb, 0, none⟩), .string k, .int .i64 x] wr fun e w' => (∃ u, e = .returned u) ∧ GI w00 wF w' F tb Bo T (putK 1000 l k x) ∧ Kept (Mo w00 F) wr w' := by
  obtain ⟨S, bm, v, h1, h2, h3, h4, h5⟩ := h.ex
  exact (Put_S h1 hk x).mono fun e w' ⟨he, hs⟩ => ⟨⟨_, he⟩, h.tab hF h2 h3 h4 h5 hs⟩
/-- One is told. -/
theorem GI.tell (h : GI w00 wF wr F tb Bo T l) (hF : ∀ x, F x → x < wF.heap.size) {S : Nat → Prop} {bm : Nat} {v v' : Value} {w1 : World} {tmp : Obj} (h1 : TabS wr S tb bm 1000 l) (h2 : Boxed wr Bo 22 v) (h3 : wr.ownsRow 0 9 1 v T.length (T.map Value.string)) (h4 : ∀ x, S x → w00.heap.size ≤ x ∧ ¬ F x ∧ x ≠ Bo ∧ v.ownBlock ≠ some x) (h5 : ∀ x, v.ownBlock = some x → w00.heap.size ≤ x ∧ ¬ F x)
    (hown : w1.ownsRow 0 9 1 v' (T ++ [k]).length ((T ++ [k]).map Value.string)) (hg : (wr.alloc tmp).grownBy w1 v.ownBlock) (hat : v'.ownBlock = v.ownBlock ∨ v'.ownBlock = some (wr.alloc tmp).heap.size) :
    Boxed w1 Bo 22 v ∧ GI w00 wF (w1.setCell ⟨Bo, 0, none⟩ v') F tb Bo (T ++ [k]) l ∧ Kept (Mo w00 F) wr (w1.setCell ⟨Bo, 0, none⟩ v') ∧ Boxed (w1.setCell ⟨Bo, 0, none⟩ v') Bo 22 v' := by
  have hs1 : (wr.alloc tmp).heap.size = wr.heap.size + 1 := by simp
  have hbo := h2.lt
  have hbs := h.below.size
  have hk1 : Kept (fun x => v.ownBlock = some x) wr w1 := ⟨hg.os, hg.tape, hg.output, by have := hg.size; omega, fun x hx e => (hg.block x (by omega) (fun e2 => e e2.symm)).trans (Below.heap_alloc _ _ _ hx)⟩
  have hnr := h2.not_row (by decide) h3
  have hv1 : Boxed w1 Bo 22 v := (hk1.block Bo hbo (fun e => hnr e.symm)).trans h2
  have hk2 : Kept (fun x => x = Bo ∨ v.ownBlock = some x) wr (w1.setCell ⟨Bo, 0, none⟩ v') := Kept.setCell (S := fun x => x = Bo ∨ v.ownBlock = some x) (p := ⟨Bo, 0, none⟩) (hk1.mono fun x _ e => .inr e) (.inl (.inl rfl)) _
  have hMo : ∀ x, (x = Bo ∨ v.ownBlock = some x) → Mo w00 F x := by
    rintro x (rfl | e)
    · exact h.bo
    · exact h5 x e
  have hv2 := hv1.set v'
  refine ⟨hv1, ⟨fun x hx => (hk2.block x (Nat.lt_of_lt_of_le (hF x hx) h.size) (fun e => (hMo x e).2 hx)).trans (h.same x hx), Nat.le_trans h.size hk2.size, h.below.trans (hk2.below hbs (fun x hx e => by have := (hMo x e).1; omega)), h.bo,
    S, bm, v', h1.kept hk2 (fun x hx e => e.elim (h4 x hx).2.2.1 (h4 x hx).2.2.2), hv2, own_keep hown (fun x hx => Below.heap_setCell _ _ _ _ (fun e => hv1.not_row (by decide) hown (by have e : x = Bo := e; rw [← e]; exact hx.symm))), ?_, ?_⟩, hk2.mono fun x _ e => hMo x e, hv2⟩
  · intro x hx
    refine ⟨(h4 x hx).1, (h4 x hx).2.1, (h4 x hx).2.2.1, fun e => ?_⟩
    rcases hat with e2 | e2
    · exact (h4 x hx).2.2.2 (e2 ▸ e)
    · rw [e2] at e; have := Option.some.inj e; have := h1.slt x hx; omega
  · intro x hx
    rcases hat with e2 | e2
    · exact h5 x (e2 ▸ hx)
    · rw [e2] at hx
      have hx := Option.some.inj hx
      refine ⟨by omega, fun e3 => ?_⟩
      have := hF x e3; have := h.size; omega
end
end Go.Proofs.Ytmgapdbfaoflmaa.Tb
