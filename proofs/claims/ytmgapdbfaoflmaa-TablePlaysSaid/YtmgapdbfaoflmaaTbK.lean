/- Keys. -/
import Derived.Test.YtmgapdbfaoflmaaTbI
import Derived.Maps.AppendAt
import Derived.Shelf.Abstract
namespace Go.Proofs.Ytmgapdbfaoflmaa.Tb
open Go.RowKit Go.Shelf Rt Tm
set_option linter.unusedSimpArgs false
set_option linter.unusedVariables false
attribute [local go_sem] Oper.semAt_some
theorem info9 : (Try.prog.info? 9).map (fun i => (i.zero, i.size, i.bytes)) = some (some (.string ⟨#[]⟩), 1, 16) := by kernel_rfl
theorem own_lower {w : World} {base base' : Nat} {e : TypeId} {size n : Nat} {v : Value} {xs : List Value} (h : w.ownsRow base e size v n xs) (hb : base' ≤ base) : w.ownsRow base' e size v n xs := by
  obtain ⟨h1, h2⟩ := h
  refine ⟨h1, ?_⟩
  rcases h2 with h2 | ⟨g, cap, cur, hv, hg, r⟩
  · exact .inl h2
  · exact .inr ⟨g, cap, cur, hv, Nat.le_trans hb hg, r⟩
theorem appendedT {T : Nat → Prop} {W w1 : World} {n₀ B : Nat} {t e : TypeId} {size : Nat} {v v' : Value} {k m : Nat} {xs ys : List Value} {tmp : Obj}
    (hv : Boxed W B t v) (hte : t ≠ e) (hrow : W.ownsRow n₀ e size v k xs) (hn₀ : n₀ ≤ W.heap.size) (hBn : B < n₀) (hT : ∀ b, T b → b < n₀ ∧ b ≠ B)
    (hown' : w1.ownsRow n₀ e size v' m ys) (hgrow : (W.alloc tmp).grownBy w1 v.ownBlock) :
    Boxed w1 B t v ∧ Boxed (w1.setCell ⟨B, 0, none⟩ v') B t v' ∧ (w1.setCell ⟨B, 0, none⟩ v').ownsRow n₀ e size v' m ys ∧ KeepsOthers W (w1.setCell ⟨B, 0, none⟩ v') ∧ KeepsT T W (w1.setCell ⟨B, 0, none⟩ v') ∧ Below B W (w1.setCell ⟨B, 0, none⟩ v') := by
  have hv1 : Boxed w1 B t v := (hv.alloc tmp).kept hgrow (hv.not_row hte hrow)
  have hb : Below n₀ W w1 := ((Below.refl n₀ W).alloc hn₀ tmp).grown hgrow (by simp; omega) fun j ej => by
    rcases hrow.2 with ⟨rfl, _⟩ | ⟨g, cap, cur, rfl, hb, _, _⟩
    · simp [Value.ownBlock] at ej
    · obtain rfl : g = j := by simpa [Value.ownBlock] using ej
      exact hb
  refine ⟨hv1, hv1.set v', hown'.kept (grownBy_setCell' w1 B v') (.inr (hv1.not_row hte hown').symm), ?_, (KeepsT.of_blocks fun b hb' _ => hb.block b (hT b hb').1).trans (KeepsT.setCell _ _ _ (fun e => (hT _ e).2 rfl)), (hb.mono (show B ≤ n₀ by omega)).setCell (p := ⟨B, 0, none⟩) (Nat.le_refl B) v'⟩
  refine ((KeepsOthers.alloc W tmp).trans (KeepsOthers.of_grownBy hgrow fun j o ej hj => ?_)).trans (KeepsOthers.setCell _ _ _)
  rcases (hrow.alloc tmp).2 with ⟨rfl, _⟩ | ⟨g, cap, cur, rfl, _, hgb, _⟩
  · simp [Value.ownBlock] at ej
  · obtain rfl : g = j := by simpa [Value.ownBlock] using ej
    rw [hgb] at hj; cases hj; rfl
theorem cell_up {w W : World} {p : Addr} {v : Value} (hW : Below w.drew.heap.size w.drew W) (h : w.cell? p = some v) : W.cell? p = some v := (hW.cell (World.block_lt_of_cell? w _ h)).trans h
def keyVs (L : List Nd) : List Value := L.map fun p => .string p.2.1
set_option maxRecDepth 100000 in
set_option maxHeartbeats 4000000 in
theorem Keys_any {w : World} {tb bm : Nat} {most : Int} {L : List Nd} (h : TabL w tb bm most L) (hlen : L.length ≤ 100001) :
    Calls Try.prog 26 #[.pointer (some ⟨tb, 0, none⟩)] w fun e W' => ∃ v, e = .returned v ∧ W'.ownsRow w.heap.size 9 1 v L.length (keyVs L) ∧ Below w.heap.size w W' := by
  obtain ⟨i0, hi, hz0, hz1, hz2⟩ := info_parts info9
  obtain ⟨nx, la, h1⟩ := h.ring
  have hR := h1.ringC
  have hnd := (List.nodup_cons.1 h1.nd).2
  have hkey := Lib.hid h1.key
  have hlt : Hid (∀ x, x = tb ∨ x ∈ L.map (·.1) → x < w.heap.size) := Lib.hid h1.lt
  clear h h1
  refine (callsIn_wide (n := 100)).1 (callsIn_of_wp_marks Try.func26 rfl trivial (wpIn_wide.2 ?_) rfl)
  simp only [Try.ntmps26, List.size_toArray, List.length_cons, List.length_nil, Nat.reduceAdd, Nat.reduceSub, Array.replicate_succ, Array.replicate_zero, List.push_toArray, List.append_toArray, List.nil_append, List.cons_append]
  go_wp2_with (go_at_call 55; refine (row_any tb _).mono ?_; rintro e w' ⟨rfl, rfl⟩)
  have bO := Boxed.new w 22 (.slice none 0 0)
  have bN := Boxed.new (w.alloc (.cells #[.slice none 0 0] 22)) 25 (.pointer (some ⟨tb, 0, none⟩))
  rw [World.size_alloc] at bN
  have hB0 : Below w.heap.size w ((w.alloc (.cells #[.slice none 0 0] 22)).alloc (.cells #[.pointer (some ⟨tb, 0, none⟩)] 25)) := ((Below.refl _ w).alloc (Nat.le_refl _) _).alloc (by simp) _
  have hR0 : RingC ((w.alloc (.cells #[.slice none 0 0] 22)).alloc (.cells #[.pointer (some ⟨tb, 0, none⟩)] 25)) tb L := hR.keepsT (KeepsT.of_size (T := fun b => b = tb ∨ b ∈ L.map (·.1)) hB0) (.inl rfl) (fun p hp => .inr (List.mem_map_of_mem hp))
  have hWay : ∀ b, Way (w.heap.size + 1) tb L b → b < w.heap.size + 2 ∧ b ≠ w.heap.size := fun b hb => by
    rcases hb with e | e | e
    · omega
    · have := hlt.out b (.inl e); omega
    · have := hlt.out b (.inr e); omega
  refine wpIn_wide.1 (wpIn_rangeFunc_ownG (F := Fence.wide) (n := 100) rfl (by omega) (gf := 66) (lb := #[.pointer (some ⟨w.heap.size + 1, 0, none⟩)]) rfl trivial (enters_of Try.func66 (by kernel_rfl) rfl)
    (row_stops Fence.wide 99 trivial rfl (by omega) (w.heap.size + 1) tb L hnd _ bN.cell hR0) KeepsT.trans KeepsT.putObj (Below.refl _ _) (fun _ => rfl)
    (fun pre W => (∃ v, Boxed W w.heap.size 22 v ∧ W.ownsRow (w.heap.size + 2) 9 1 v pre.length (pre.map (fun x => Value.string x.1.2.1)) ∧ w.heap.size + 2 ≤ W.heap.size) ∧ Below w.heap.size w W)
    (fun _ _ _ => False)
    (OwnFrom.and (fun pre A B row hs hg hr => by
        obtain ⟨v, hv, hrow, hsz⟩ := hs
        obtain ⟨v', hv', hrow', _⟩ := (holdsRow_own (w.heap.size + 2) w.heap.size 22 9 1 (fun pre : List (Of L) => pre.length) (fun pre => pre.map (fun x => Value.string x.1.2.1)) (fun _ _ => True)) pre A B row ⟨v, hv, hrow, trivial⟩ hg (fun r e => (hr r e).2)
        exact ⟨v', hv', hrow', Nat.le_trans hsz hg.size⟩) (ownFrom_below (Nat.le_refl _) (by simp; omega)))
    (fun _ _ _ _ _ hs _ _ => hs)
    ⟨⟨_, bO.alloc _, World.ownsRow_nil _ _ _ _, by simp⟩, hB0⟩
    (fun x => { tmps := #[.pointer (some ⟨tb, 0, none⟩), undef, .slice none 0 0, .pointer (some ⟨w.heap.size, 0, none⟩), .pointer (some ⟨x.1.1, 0, none⟩), .pointer (some ⟨tb, 0, none⟩), .func (.func 66) #[] #[.pointer (some ⟨w.heap.size + 1, 0, none⟩)], .pointer (some ⟨x.1.1, 0, none⟩), undef, undef, undef, undef, undef, undef, undef, undef], defers := [] }) ?assign ?body ?done ?stop)
  case assign =>
    intro l x W K hK
    gi_wp2
    exact hK
  case body =>
    rintro l pre x W ⟨⟨v, hv, hrow, hsW⟩, hB⟩ hlt2
    have hc := hv.cell
    have hkx := (hB.cell (p := ⟨x.1.1, 0, none⟩) (hlt.out _ (.inr (List.mem_map_of_mem x.2)))).trans (hkey.out x.1 x.2)
    have hplb : pre.length ≤ 100001 := by omega
    refine wpIn_block ?_
    refine Rt.wpIn_region_ord [1, 0, 0, 0, 1, 2, 3, 3] [0, 1, 2, 3, 4, 5, 6, 7] (by kernel_rfl) (by kernel_rfl) ?_
    apply ord_read rfl rfl rfl; (· (intro W hW; have c0 := cell_up hW hc; have k0 := cell_up hW hkx; go_simp; with_reducible rfl)); (· (simp only [Act.put, Act.eval, List.setIfInBounds_toArray, List.set_cons_zero, List.set_cons_succ, Array.getD_eq_getD_getElem?, List.getElem?_toArray, List.getElem?_cons_zero, List.getElem?_cons_succ, Option.getD_some, List.getElem_toArray, List.getElem_cons_succ, List.getElem_cons_zero]; with_reducible rfl))
    apply ord_move rfl rfl rfl rfl; (· (simp only [Act.put, Act.eval, List.setIfInBounds_toArray, List.set_cons_zero, List.set_cons_succ, Array.getD_eq_getD_getElem?, List.getElem?_toArray, List.getElem?_cons_zero, List.getElem?_cons_succ, Option.getD_some, List.getElem_toArray, List.getElem_cons_succ, List.getElem_cons_zero]; with_reducible rfl))
    apply ord_pure rfl rfl rfl; (· (intro w; go_simp; with_reducible rfl)); (· (simp only [Act.put, Act.eval, List.setIfInBounds_toArray, List.set_cons_zero, List.set_cons_succ, Array.getD_eq_getD_getElem?, List.getElem?_toArray, List.getElem?_cons_zero, List.getElem?_cons_succ, Option.getD_some, List.getElem_toArray, List.getElem_cons_succ, List.getElem_cons_zero]; with_reducible rfl))
    apply ord_pure rfl rfl rfl; (· (intro w; go_simp; with_reducible rfl)); (· (simp only [Act.put, Act.eval, List.setIfInBounds_toArray, List.set_cons_zero, List.set_cons_succ, Array.getD_eq_getD_getElem?, List.getElem?_toArray, List.getElem?_cons_zero, List.getElem?_cons_succ, Option.getD_some, List.getElem_toArray, List.getElem_cons_succ, List.getElem_cons_zero]; with_reducible rfl))
    apply ord_read rfl rfl rfl; (· (intro W hW; have c0 := cell_up hW hc; have k0 := cell_up hW hkx; go_simp; with_reducible rfl)); (· (simp only [Act.put, Act.eval, List.setIfInBounds_toArray, List.set_cons_zero, List.set_cons_succ, Array.getD_eq_getD_getElem?, List.getElem?_toArray, List.getElem?_cons_zero, List.getElem?_cons_succ, Option.getD_some, List.getElem_toArray, List.getElem_cons_succ, List.getElem_cons_zero]; with_reducible rfl))
    apply ord_new rfl rfl rfl; (· (go_simp; exact ⟨rfl, rfl⟩)); (· (exact (Below.refl _ _).alloc (Nat.le_refl _) _)); (· (simp only [Act.put, Act.eval, List.setIfInBounds_toArray, List.set_cons_zero, List.set_cons_succ, Array.getD_eq_getD_getElem?, List.getElem?_toArray, List.getElem?_cons_zero, List.getElem?_cons_succ, Option.getD_some, List.getElem_toArray, List.getElem_cons_succ, List.getElem_cons_zero]; with_reducible rfl))
    refine ord_act rfl rfl rfl fun K hK => wp_append_own _ (.tmp 8) (.tmp 13) 22 rfl (w.heap.size + 2) 9 i0 (.string ⟨#[]⟩) 1 16 Try.underlying22 hi hz0 hz1 hz2 rfl (by decide) v pre.length (pre.map (fun x => Value.string x.1.2.1)) rfl (show (World.drew (W.alloc (.cells #[.string x.1.2.1] 9))).ownsRow (w.heap.size + 2) 9 1 v pre.length (pre.map (fun x => Value.string x.1.2.1)) from hrow.alloc _) ⟨W.heap.size, 0, none⟩ 1 1 [.string x.1.2.1] rfl rfl (show _ from fun j u hj => (cell_one_new W (.string x.1.2.1) 9) j u hj) (by simp [Value.oneCell']) (by unfold maxLen; omega) (by omega) (by simp; omega) (fun v' w1 hown' hgrow _ => hK _ _ ?_)
    obtain ⟨g', cap', rfl⟩ := ownsRow_succ hown'
    obtain ⟨hv1, hv2, hr2, hk2, hkc, hb2⟩ := appendedT (T := Way (w.heap.size + 1) tb L) hv (by decide) hrow hsW (by omega) hWay hown' (tmp := .cells #[.string x.1.2.1] 9) ⟨hgrow.os, hgrow.tape, hgrow.output, hgrow.size, hgrow.block⟩
    have hc1 := hv1.cell
    have hf1 := hv1.frozen
    simp only [Act.put, Act.eval, List.setIfInBounds_toArray, List.set_cons_zero, List.set_cons_succ, Array.getD_eq_getD_getElem?, List.getElem?_toArray, List.getElem?_cons_zero, List.getElem?_cons_succ, Option.getD_some, List.getElem_toArray, List.getElem_cons_succ, List.getElem_cons_zero]
    apply ord_do rfl rfl rfl; (· (go_simp; with_reducible rfl)); (· (simp only [Act.put, Act.eval, List.setIfInBounds_toArray, List.set_cons_zero, List.set_cons_succ, Array.getD_eq_getD_getElem?, List.getElem?_toArray, List.getElem?_cons_zero, List.getElem?_cons_succ, Option.getD_some, List.getElem_toArray, List.getElem_cons_succ, List.getElem_cons_zero]; with_reducible rfl))
    with_reducible refine ord_nil ?_
    exact ⟨hk2.from _, hkc, ⟨_, hv2, by simpa using hr2, by have := hb2.size; omega⟩, hB.trans hb2⟩
  case done =>
    rintro D ys W hD hys ⟨⟨v, hv, hrow, hsW⟩, hB⟩ hK
    have hc := hv.cell
    have hfin : Below w.heap.size w (W.putObj D (.deferred none)) := hB.trans (belowK_b (w := w) (Nat.le_refl _) W D _ _ (by simp at hD; omega) hK rfl rfl)
    have hrow2 : W.ownsRow w.heap.size 9 1 v L.length (keyVs L) := by
      unfold keyVs
      rw [← hys, List.map_map, List.length_map]
      exact own_lower hrow (by omega)
    have hrow3 := ownsRow_putObj hrow2 (.deferred none) hK rfl
    clear hrow hrow2
    go_wp2
    refine ⟨by simp, .inl ⟨_, _, rfl, run_takeDeferred hK, ?_⟩⟩
    exact ⟨_, results_tmp rfl _ _ _, v, rfl, by simpa using hrow3, hfin⟩
  case stop =>
    rintro D c pre W _ _ h _
    exact h.elim
end Go.Proofs.Ytmgapdbfaoflmaa.Tb
