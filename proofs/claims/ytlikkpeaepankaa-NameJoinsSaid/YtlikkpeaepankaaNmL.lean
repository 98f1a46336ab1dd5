/- name.Labels. -/
import Derived.Test.YtlikkpeaepankaaNmR
import Derived.Maps.AppendAt
namespace Go.Proofs.Ytlikkpeaepankaa.Nm
open Go.RowKit Go.Shelf
attribute [local go_sem] Oper.semAt_some

theorem info9 : (Try.prog.info? 9).map (fun i => (i.zero, i.size, i.bytes)) = some (some (.string ⟨#[]⟩), 1, 16) := by kernel_rfl

/-- A name's labels, as it hands them back. -/
def labelsL (s : ByteArray) : List ByteArray := if rightB s then (labs s 0).map (·.2) else []

theorem own_lower {w : World} {base base' : Nat} {e : TypeId} {size n : Nat} {v : Value} {xs : List Value} (h : w.ownsRow base e size v n xs) (hb : base' ≤ base) : w.ownsRow base' e size v n xs := by
  obtain ⟨h1, h2⟩ := h
  refine ⟨h1, ?_⟩
  rcases h2 with h2 | ⟨g, cap, cur, hv, hg, r⟩
  · exact .inl h2
  · exact .inr ⟨g, cap, cur, hv, Nat.le_trans hb hg, r⟩

set_option maxRecDepth 100000 in
set_option maxHeartbeats 2000000 in
theorem Labels_in (F : Fence) (n : Nat) (h18 : F.fn 18) (h19 : F.fn 19) (h45 : F.fn 45) (h57 : F.fn 57) (hro : F.round = none) (hn : 5 ≤ n) (s : ByteArray) (hs : s.size ≤ 140737488351232) (w : World) :
    CallsIn F n Try.prog 18 #[.string s] w fun e W' => ∃ v, e = .returned v ∧ W'.ownsRow w.heap.size 9 1 v (labelsL s).length ((labelsL s).map Value.string) ∧ Below w.heap.size w W' := by
  have h1 : 1 ≤ n := by omega
  obtain ⟨i0, hi, hz0, hz1, hz2⟩ := info_parts info9
  by_cases hR : rightB s = true
  · have hsz : s.size ≤ 255 := by unfold rightB at hR; simp at hR; omega
    have hL : labelsL s = (labs s 0).map (·.2) := by unfold labelsL; rw [if_pos hR]
    rw [hL]
    have hH := Lib.hid hL
    clear hL
    refine callsIn_of_wp_marks Try.func18 rfl h18 ?_ hro
    simp only [Try.ntmps18, List.size_toArray, List.length_cons, List.length_nil, Nat.reduceAdd, Nat.reduceSub, Array.replicate_succ, Array.replicate_zero, List.push_toArray, List.append_toArray, List.nil_append, List.cons_append]
    gi_wp2_with (first | (gi_at_call 19; refine (Right_in F (n - 1) h19 h45 h57 hro (by omega) s hs _).mono ?_; rintro e w0 ⟨rfl, hb0⟩; rw [hR]) | (gi_at_call 45; refine (labels_in F (n - 1) h45 hro _ _).mono ?_; rintro e w' ⟨rfl, rfl⟩))
    have bO := Boxed.new w0 22 (.slice none 0 0)
    have bN := Boxed.new (w0.alloc (.cells #[.slice none 0 0] 22)) 9 (.string s)
    rw [World.size_alloc] at bN
    have hB0 : Below w0.heap.size w0 ((w0.alloc (.cells #[.slice none 0 0] 22)).alloc (.cells #[.string s] 9)) := ((Below.refl _ w0).alloc (Nat.le_refl _) _).alloc (by simp) _
    refine wpIn_rangeFunc_ownG hro h1 (gf := 57) (lb := #[.pointer (some ⟨w0.heap.size + 1, 0, none⟩)]) rfl h57 (enters_of Try.func57 (by kernel_rfl) rfl)
      (labels_stops F (n - 1) h57 hro (by omega) (w0.heap.size + 1) s hs _ (by simp) bN.cell) KeepsCell.trans KeepsCell.putObj (Below.refl _ _) (fun _ => rfl)
      (fun pre W => (∃ v, Boxed W w0.heap.size 22 v ∧ W.ownsRow (w0.heap.size + 2) 9 1 v pre.length (pre.map (fun x => Value.string x.1.2)) ∧ w0.heap.size + 2 ≤ W.heap.size) ∧ Below w0.heap.size w0 W)
      (fun _ _ _ => False)
      (OwnFrom.and (fun pre A B row hs hg hr => by
          obtain ⟨v, hv, hrow, hsz⟩ := hs
          obtain ⟨v', hv', hrow', _⟩ := (holdsRow_own (w0.heap.size + 2) w0.heap.size 22 9 1 (fun pre : List (Lb s) => pre.length) (fun pre => pre.map (fun x => Value.string x.1.2)) (fun _ _ => True)) pre A B row ⟨v, hv, hrow, trivial⟩ hg (fun r e => (hr r e).2)
          exact ⟨v', hv', hrow', Nat.le_trans hsz hg.size⟩) (ownFrom_below (Nat.le_refl _) (by simp; omega)))
      (fun _ _ _ _ _ hs _ _ => hs)
      ⟨⟨_, bO.alloc _, World.ownsRow_nil _ _ _ _, by simp⟩, hB0⟩
      (fun x => { tmps := #[.string s, undef, .slice none 0 0, .pointer (some ⟨w0.heap.size, 0, none⟩), undef, .string x.1.2, .string s, .bool true, .bool false, .string s, .func (.func 57) #[] #[.pointer (some ⟨w0.heap.size + 1, 0, none⟩)], .int .i64 (x.1.1 : Int), .string x.1.2, undef, undef, undef, undef, undef], defers := [] }) ?assign ?body ?done ?stop
    case assign =>
      intro l x W K hK
      gi_wp2
      exact hK
    case body =>
      rintro l pre x W ⟨⟨v, hv, hrow, hsW⟩, hB⟩ hlt
      have hc := hv.cell
      have hplb : pre.length ≤ 255 := by omega
      gi_wp2_with (gi_at_builtin; refine wpListIn_append_own _ rfl _ _ 22 rfl (w0.heap.size + 2) 9 i0 (.string ⟨#[]⟩) 1 16 Try.underlying22 hi hz0 hz1 hz2 rfl (by decide) _ _ _ rfl (hrow.alloc _) ⟨W.heap.size, 0, none⟩ 1 1 [.string x.1.2] rfl rfl (cell_one_new _ _ _) (by simp [Value.oneCell']) (by unfold maxLen; omega) (by omega) (by simp; omega) ?_; intro v' w1 hown' hgrow _; obtain ⟨g', cap', rfl⟩ := ownsRow_succ hown'; obtain ⟨hv1, hv2, hr2, hk2, hkc, hb2⟩ := appendedK (Bs := w0.heap.size + 1) hv (by decide) hrow hsW (by omega) (by omega) (by omega) hown' hgrow; have hc1 := hv1.cell; have hf1 := hv1.frozen)
      exact ⟨hk2.from _, hkc, ⟨_, hv2, by simpa using hr2, by have := hb2.size; omega⟩, hB.trans hb2⟩
    case done =>
      rintro D ys W hD hys ⟨⟨v, hv, hrow, hsW⟩, hB⟩ hK
      have hc := hv.cell
      have hfin : Below w.heap.size w (W.putObj D (.deferred none)) := hb0.trans ((hB.mono hb0.size).trans (belowK_b (w := w0) (hb0.size) W D _ _ (by simp at hD; omega) hK rfl rfl))
      have hrow2 : W.ownsRow w.heap.size 9 1 v ((labs s 0).map (·.2)).length (((labs s 0).map (·.2)).map Value.string) := by
        rw [← hys, List.map_map, List.map_map, List.length_map]
        exact own_lower hrow (by have := hb0.size; omega)
      have hrow3 := ownsRow_putObj hrow2 (.deferred none) hK rfl
      clear hrow hrow2
      gi_wp2
      refine ⟨by simp, .inl ⟨_, _, rfl, run_takeDeferred hK, ?_⟩⟩
      exact ⟨_, results_tmp rfl _ _ _, v, rfl, by simpa using hrow3, hfin⟩
    case stop =>
      rintro D c pre W _ _ h _
      exact h.elim
  · have hRf : rightB s = false := by simpa using hR
    have hL : labelsL s = [] := by unfold labelsL; rw [if_neg hR]
    rw [hL]
    clear hL hR
    refine callsIn_of_wp_marks Try.func18 rfl h18 ?_ hro
    simp only [Try.ntmps18, List.size_toArray, List.length_cons, List.length_nil, Nat.reduceAdd, Nat.reduceSub, Array.replicate_succ, Array.replicate_zero, List.push_toArray, List.append_toArray, List.nil_append, List.cons_append]
    gi_wp2_with (first | (gi_at_call 19; refine (Right_in F (n - 1) h19 h45 h57 hro (by omega) s hs _).mono ?_; rintro e w0 ⟨rfl, hb0⟩; rw [hRf]) | (gi_at_call 45; refine (labels_in F (n - 1) h45 hro _ _).mono ?_; rintro e w' ⟨rfl, rfl⟩))
    exact ⟨_, results_tmp rfl _ _ _, _, rfl, World.ownsRow_nil _ _ _ _, hb0⟩
end Go.Proofs.Ytlikkpeaepankaa.Nm
