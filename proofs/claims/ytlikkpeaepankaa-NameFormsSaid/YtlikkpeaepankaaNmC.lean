/- name.Common. -/
import Derived.Test.YtlikkpeaepankaaNmU
namespace Go.Proofs.Ytlikkpeaepankaa.Nm
open Go.RowKit Go.Shelf Rt
set_option linter.unusedSimpArgs false
attribute [local go_sem] Oper.semAt_some

theorem find_snoc {α : Type} (p : α → Bool) (l : List α) (x : α) (h : l.find? p = none) : (l ++ [x]).find? p = if p x then some x else none := by
  rw [List.find?_append, h, Option.none_or, List.find?_cons]
  split <;> simp_all

theorem keepsOthers_below {W W' : World} (h : Below W.heap.size W W') : KeepsOthers W W' := ⟨h.size, fun r _ hr _ => (h.block r (Array.getElem?_eq_some_iff.1 hr).1).trans hr⟩

def comP (a b : ByteArray) (x : Nat × ByteArray) : Bool := underW b (a.extract x.1 a.size)
/-- What Common hands back. -/
def commonW (a b : ByteArray) : ByteArray × Int :=
  if rightB a && rightB b then
    match (labs a 0).find? (comP a b) with
    | some x => (a.extract x.1 a.size, 0)
    | none => (⟨#[0]⟩, 0)
  else (⟨#[]⟩, 2)

set_option maxRecDepth 100000 in
set_option maxHeartbeats 2000000 in
theorem Common_loop (a b : ByteArray) (ha : a.size ≤ 140737488351232) (hb : b.size ≤ 140737488351232) (w : World) (hRa : rightB a = true) (hRb : rightB b = true) :
    Calls Try.prog 31 #[.string a, .string b] w fun e W' => e = .returned (.tuple #[.string (commonW a b).1, .int .i64 (commonW a b).2]) ∧ Below w.heap.size w W' := by
  have hsa := right_size hRa
  refine (callsIn_wide (n := 100)).1 (callsIn_of_wp_marks Try.func31 rfl trivial (wpIn_wide.2 ?_) rfl)
  simp only [Try.ntmps31, List.size_toArray, List.length_cons, List.length_nil, Nat.reduceAdd, Nat.reduceSub, Array.replicate_succ, Array.replicate_zero, List.push_toArray, List.append_toArray, List.nil_append, List.cons_append]
  have x0 := (((Boxed.new w 9 (.string a)).alloc (.cells #[.string b] 9)).alloc (.cells #[.string ⟨#[]⟩] 9)).alloc (.cells #[.int .i64 0] 26)
  have x1 := ((Boxed.new (w.alloc (.cells #[.string a] 9)) 9 (.string b)).alloc (.cells #[.string ⟨#[]⟩] 9)).alloc (.cells #[.int .i64 0] 26)
  have x2 := (Boxed.new ((w.alloc (.cells #[.string a] 9)).alloc (.cells #[.string b] 9)) 9 (.string ⟨#[]⟩)).alloc (.cells #[.int .i64 0] 26)
  have x3 := Boxed.new (((w.alloc (.cells #[.string a] 9)).alloc (.cells #[.string b] 9)).alloc (.cells #[.string ⟨#[]⟩] 9)) 26 (.int .i64 0)
  have hbb : Below w.heap.size w ((((w.alloc (.cells #[.string a] 9)).alloc (.cells #[.string b] 9)).alloc (.cells #[.string ⟨#[]⟩] 9)).alloc (.cells #[.int .i64 0] 26)) := ((((Below.refl _ w).alloc (Nat.le_refl _) _).alloc (by simp) _).alloc (by simp; omega) _).alloc (by simp; omega) _
  simp only [World.size_alloc] at x0 x1 x2 x3
  go_wp2_with (first | (go_at_call 19; (with_reducible refine (Right_any a ha _).mono ?_); rintro e w0 ⟨rfl, hb0⟩; rw [hRa]; replace x0 := boxed_below x0 hb0 x0.lt; replace x1 := boxed_below x1 hb0 x1.lt; replace x2 := boxed_below x2 hb0 x2.lt; replace x3 := boxed_below x3 hb0 x3.lt; replace hbb := hbb.trans (hb0.mono hbb.size); clear hb0; have c1 := x1.cell) | (go_at_call 19; (with_reducible refine (Right_any b hb _).mono ?_); rintro e w1 ⟨rfl, hb1⟩; rw [hRb]; replace x0 := boxed_below x0 hb1 x0.lt; replace x1 := boxed_below x1 hb1 x1.lt; replace x2 := boxed_below x2 hb1 x2.lt; replace x3 := boxed_below x3 hb1 x3.lt; replace hbb := hbb.trans (hb1.mono hbb.size); clear hb1; clear c1; have c0 := x0.cell) | (go_at_call 45; (with_reducible refine (labels_any a _).mono ?_); rintro e w' ⟨rfl, rfl⟩))
  have bN := Boxed.new w1 9 (.string a)
  have hB0 : Below w.heap.size w (w1.alloc (.cells #[.string a] 9)) := hbb.alloc hbb.size _
  refine wpIn_wide.1 (wpIn_rangeFunc_ownG (F := Fence.wide) (n := 100) rfl (by omega) (gf := 57) (lb := #[.pointer (some ⟨w1.heap.size, 0, none⟩)]) rfl trivial (enters_of Try.func57 (by kernel_rfl) rfl)
    (labels_stops Fence.wide 99 trivial rfl (by omega) w1.heap.size a ha _ (by simp) bN.cell) KeepsCell.trans KeepsCell.putObj (Below.refl _ _) (fun _ => rfl)
    (fun pre W => (((pre.map (·.1)).find? (comP a b) = none ∧ Boxed W w.heap.size 9 (.string a) ∧ Boxed W (w.heap.size + 1) 9 (.string b)) ∧ Boxed W (w.heap.size + 1 + 1) 9 (.string ⟨#[]⟩) ∧ Boxed W (w.heap.size + 1 + 1 + 1) 26 (.int .i64 0)) ∧ Below w.heap.size w W)
    (fun c pre W => (c = .ret ∧ ∃ x, (pre.map (·.1)).find? (comP a b) = some x ∧ Boxed W (w.heap.size + 1 + 1) 9 (.string (a.extract x.1 a.size)) ∧ Boxed W (w.heap.size + 1 + 1 + 1) 26 (.int .i64 0)) ∧ Below w.heap.size w W)
    (OwnFrom.and (Own.from (fun pre A B row hs hg hr => ⟨⟨hs.1.1, boxed_kept hs.1.2.1 hg hr, boxed_kept hs.1.2.2 hg hr⟩, boxed_kept hs.2.1 hg hr, boxed_kept hs.2.2 hg hr⟩) _) (ownFrom_below (Nat.le_refl _) (by have h0 := hbb.size; simp only [World.size_alloc]; omega)))
    (fun c => OwnFrom.and (Own.from (fun pre A B row hs hg hr => by obtain ⟨h1, x, h2, h3, h4⟩ := hs; exact ⟨h1, x, h2, boxed_kept h3 hg hr, boxed_kept h4 hg hr⟩) _) (ownFrom_below (Nat.le_refl _) (by have h0 := hbb.size; simp only [World.size_alloc]; omega)))
    ⟨⟨⟨rfl, x0.alloc _, x1.alloc _⟩, x2.alloc _, x3.alloc _⟩, hB0⟩
    (fun x => { tmps := #[.string a, .string b, .pointer (some ⟨w.heap.size, 0, none⟩), .pointer (some ⟨w.heap.size + 1, 0, none⟩), .pointer (some ⟨w.heap.size + 1 + 1, 0, none⟩), .pointer (some ⟨w.heap.size + 1 + 1 + 1, 0, none⟩), .int .i64 (x.1.1 : Int), .string a, .bool true, .bool false, .bool false, .string b, .bool true, .bool false, .bool false, .string a, .func (.func 57) #[] #[.pointer (some ⟨w1.heap.size, 0, none⟩)], .int .i64 (x.1.1 : Int), .string x.1.2, undef, undef, undef, undef, undef, undef, undef, undef], defers := [] }) ?assign ?body ?done ?stop)
  case assign =>
    intro l x W K hK
    gi_wp2
    exact hK
  case body =>
    rintro l pre x W ⟨⟨⟨hp, y0, y1⟩, y2, y3⟩, hB⟩ hlt
    obtain ⟨hx1, hx2, hx3, hxa, hxb⟩ := x.spec
    have hP : Hid (∀ v, (if comP a b x.1 then some x.1 else none) = v → ((pre ++ [x]).map (·.1)).find? (comP a b) = v) := Lib.hid (fun v hv => by rw [List.map_append, List.map_singleton, find_snoc _ _ _ hp]; exact hv)
    have hE : Hid (comP a b x.1 = underW b (a.extract x.1.1 a.size)) := Lib.hid rfl
    have hX : Hid (x.1.1 = x.1.1) := Lib.hid rfl
    have d0 := y0.cell
    have d1 := y1.cell
    have hW1 : w1.heap.size < W.heap.size ∨ True := .inr trivial
    have hx1' : (x.1.1 : Int) ≤ a.size := by omega
    have hx0' : 0 ≤ (x.1.1 : Int) := by omega
    have hes : (a.extract x.1.1 a.size).size ≤ 140737488351232 := by rw [extract_size _ _ _ (Nat.le_refl _)]; omega
    clear hxa hxb hp x0 x1 x2 x3 bN hB0 c0
    refine wpIn_block ?_
    refine wpIn_seq ?_
    refine Rt.wpIn_region_text [1, 1, 0, 0, 2] (by kernel_rfl) (by kernel_rfl) ?_
    repeat (first | (apply txt_move rfl rfl; (· (simp only [Act.put, Act.eval, List.setIfInBounds_toArray, List.set_cons_zero, List.set_cons_succ, Array.getD_eq_getD_getElem?, List.getElem?_toArray, List.getElem?_cons_zero, List.getElem?_cons_succ, Option.getD_some]; with_reducible rfl))) | (apply txt_assign rfl rfl; (· (simp only [Act.put, Act.eval, List.setIfInBounds_toArray, List.set_cons_zero, List.set_cons_succ, Array.getD_eq_getD_getElem?, List.getElem?_toArray, List.getElem?_cons_zero, List.getElem?_cons_succ, Option.getD_some]; with_reducible rfl))) | (apply txt_skip rfl rfl; (· (simp only [Act.put, Act.eval, List.setIfInBounds_toArray, List.set_cons_zero, List.set_cons_succ, Array.getD_eq_getD_getElem?, List.getElem?_toArray, List.getElem?_cons_zero, List.getElem?_cons_succ, Option.getD_some]; with_reducible rfl))) | (apply txt_pure rfl rfl rfl; (· (intro w; go_simp; (try go_bits); with_reducible rfl)); (· (simp only [Act.put, Act.eval, List.setIfInBounds_toArray, List.set_cons_zero, List.set_cons_succ, Array.getD_eq_getD_getElem?, List.getElem?_toArray, List.getElem?_cons_zero, List.getElem?_cons_succ, Option.getD_some]; with_reducible rfl))) | (apply txt_read rfl rfl rfl; (· (go_simp; with_reducible rfl)); (· (simp only [Act.put, Act.eval, List.setIfInBounds_toArray, List.set_cons_zero, List.set_cons_succ, Array.getD_eq_getD_getElem?, List.getElem?_toArray, List.getElem?_cons_zero, List.getElem?_cons_succ, Option.getD_some]; with_reducible rfl))) | (apply txt_do rfl rfl rfl; (· (go_simp; with_reducible rfl)); (· (simp only [Act.put, Act.eval, List.setIfInBounds_toArray, List.set_cons_zero, List.set_cons_succ, Array.getD_eq_getD_getElem?, List.getElem?_toArray, List.getElem?_cons_zero, List.getElem?_cons_succ, Option.getD_some]; with_reducible rfl))) | (apply txt_value rfl rfl rfl; (· (go_simp; exact ⟨rfl, rfl⟩)); (· (simp only [Act.put, Act.eval, List.setIfInBounds_toArray, List.set_cons_zero, List.set_cons_succ, Array.getD_eq_getD_getElem?, List.getElem?_toArray, List.getElem?_cons_zero, List.getElem?_cons_succ, Option.getD_some]; with_reducible rfl))))
    (apply txt_call rfl rfl rfl; (· (go_simp; exact ⟨⟨rfl, rfl⟩, rfl⟩)))
    refine (Under_any b _ hb hes _).mono ?_
    rintro e W1 ⟨rfl, hb1⟩
    refine ⟨_, rfl, ?_⟩
    simp only [Act.put, Act.eval, List.setIfInBounds_toArray, List.set_cons_zero, List.set_cons_succ]
    with_reducible refine txt_nil ?_
    replace hb1 : Below W.heap.size W W1 := (Below.refl _ W).drew.trans hb1
    have hko := keepsOthers_below hb1
    have hkc := KeepsCell.of_size (B := w1.heap.size) hb1
    replace y0 := boxed_below y0 hb1 y0.lt
    replace y1 := boxed_below y1 hb1 y1.lt
    replace y2 := boxed_below y2 hb1 y2.lt
    replace y3 := boxed_below y3 hb1 y3.lt
    replace hB : Below w.heap.size w W1 := hB.trans (hb1.mono hB.size)
    have hbs := hbb.size
    clear hb1 d0 d1 hX hW1
    have d0 := y0.cell
    have d2 := y2.cell
    have f2 := y2.frozen
    have d3 := y3.cell
    have f3 := y3.frozen
    cases he : underW b (a.extract x.1.1 a.size) with
    | true =>
      have hT : Hid (((pre ++ [x]).map (·.1)).find? (comP a b) = some x.1) := Lib.hid (hP.out _ (by rw [hE.out, he]; rfl))
      clear he hP hE
      gi_wp2
      exact ⟨(hko.trans ((KeepsOthers.setCell _ _ _).trans (KeepsOthers.setCell _ _ _))).from _, ⟨rfl, _, hT.out, (y2.set _).kept (grownBy_setCell' _ _ _) (by simp), (y3.kept (grownBy_setCell' _ _ _) (by simp)).set _⟩, (hB.setCell (p := ⟨w.heap.size + 1 + 1, 0, none⟩) (by simp; omega) _).setCell (p := ⟨w.heap.size + 1 + 1 + 1, 0, none⟩) (by simp; omega) _⟩
    | false =>
      have hT : Hid (((pre ++ [x]).map (·.1)).find? (comP a b) = none) := Lib.hid (hP.out _ (by rw [hE.out, he]; rfl))
      clear he hP hE
      gi_wp2
      exact ⟨hko.from _, hkc, ⟨⟨hT.out, y0, y1⟩, y2, y3⟩, hB⟩
  case done =>
    rintro D ys W hD hys ⟨⟨⟨hp, y0, y1⟩, y2, y3⟩, hB⟩ hK
    rw [hys] at hp
    have hC : commonW a b = (⟨#[0]⟩, 0) := by unfold commonW; rw [hRa, hRb, hp]; rfl
    have hp1 := Lib.hid hC
    have d2 := y2.cell
    have f2 := y2.frozen
    have d3 := y3.cell
    have f3 := y3.frozen
    clear hp hys x0 x1 x2 x3 bN hB0 c0 hC y0 y1
    go_wp2
    have z2 := (y2.set (.string ⟨#[0]⟩)).kept (grownBy_setCell' _ (w.heap.size + 1 + 1 + 1) (.int .i64 0)) (by simp)
    have z3 := (y3.kept (grownBy_setCell' W (w.heap.size + 1 + 1) (.string ⟨#[0]⟩)) (by simp)).set (.int .i64 0)
    have hK2 := ((KeepsOthers.setCell W ⟨w.heap.size + 1 + 1, 0, none⟩ (.string ⟨#[0]⟩)).trans (KeepsOthers.setCell _ ⟨w.heap.size + 1 + 1 + 1, 0, none⟩ (.int .i64 0))).same D _ hK rfl
    refine ⟨by simp, .inl ⟨_, _, rfl, run_takeDeferred hK2, ?_⟩⟩
    have c2 := cell_kept z2.cell (grownBy_putObj' _ D (.deferred none)) (fun r e => by cases e; exact ⟨_, hK2, rfl⟩)
    have c3 := cell_kept z3.cell (grownBy_putObj' _ D (.deferred none)) (fun r e => by cases e; exact ⟨_, hK2, rfl⟩)
    exact ⟨.tuple #[.string ⟨#[0]⟩, .int .i64 0], by simp [results, Try.f31, go_sem, c2, c3], by rw [hp1.out], ((hB.setCell (p := ⟨w.heap.size + 1 + 1, 0, none⟩) (by simp; omega) _).setCell (p := ⟨w.heap.size + 1 + 1 + 1, 0, none⟩) (by simp; omega) _).trans (belowK_b (w := w) (Nat.le_refl _) _ D _ _ (by have h0 := hbb.size; simp at hD; omega) hK2 rfl rfl)⟩
  case stop =>
    rintro D c pre W hD hpr ⟨⟨rfl, x, hp, y2, y3⟩, hB⟩ hK
    refine wpIn_wide.2 ?_
    have hp' : (labs a 0).find? (comP a b) = some x := by
      obtain ⟨t, ht⟩ := hpr
      rw [← ht, List.find?_append, hp, Option.some_or]
    have hC : commonW a b = (a.extract x.1 a.size, 0) := by unfold commonW; rw [hRa, hRb, hp']; rfl
    have hp1 := Lib.hid hC
    have d2 := y2.cell
    have d3 := y3.cell
    clear hp hp' hpr x0 x1 x2 x3 bN hB0 c0 hC
    go_wp2
    refine ⟨by simp, .inl ⟨_, _, rfl, run_takeDeferred hK, ?_⟩⟩
    have c2 := cell_kept d2 (grownBy_putObj' _ D (.deferred none)) (fun r e => by cases e; exact ⟨_, hK, rfl⟩)
    have c3 := cell_kept d3 (grownBy_putObj' _ D (.deferred none)) (fun r e => by cases e; exact ⟨_, hK, rfl⟩)
    exact ⟨.tuple #[.string (a.extract x.1 a.size), .int .i64 0], by simp [results, Try.f31, go_sem, c2, c3], by rw [hp1.out], hB.trans (belowK_b (w := w) (Nat.le_refl _) _ D _ _ (by have h0 := hbb.size; simp at hD; omega) hK rfl rfl)⟩

set_option maxRecDepth 100000 in
set_option maxHeartbeats 2000000 in
theorem Common_any (a b : ByteArray) (ha : a.size ≤ 140737488351232) (hb : b.size ≤ 140737488351232) (w : World) :
    Calls Try.prog 31 #[.string a, .string b] w fun e W' => e = .returned (.tuple #[.string (commonW a b).1, .int .i64 (commonW a b).2]) ∧ Below w.heap.size w W' := by
  by_cases hRa : rightB a = true
  · by_cases hRb : rightB b = true
    · exact Common_loop a b ha hb w hRa hRb
    · have hRbf : rightB b = false := by simpa using hRb
      have hC : commonW a b = (⟨#[]⟩, 2) := by unfold commonW; rw [hRbf]; simp
      rw [hC]
      clear hRb hC
      refine (callsIn_wide (n := 100)).1 (callsIn_of_wp_marks Try.func31 rfl trivial (wpIn_wide.2 ?_) rfl)
      simp only [Try.ntmps31, List.size_toArray, List.length_cons, List.length_nil, Nat.reduceAdd, Nat.reduceSub, Array.replicate_succ, Array.replicate_zero, List.push_toArray, List.append_toArray, List.nil_append, List.cons_append]
      have x1 := ((Boxed.new (w.alloc (.cells #[.string a] 9)) 9 (.string b)).alloc (.cells #[.string ⟨#[]⟩] 9)).alloc (.cells #[.int .i64 0] 26)
      have x2 := (Boxed.new ((w.alloc (.cells #[.string a] 9)).alloc (.cells #[.string b] 9)) 9 (.string ⟨#[]⟩)).alloc (.cells #[.int .i64 0] 26)
      have x3 := Boxed.new (((w.alloc (.cells #[.string a] 9)).alloc (.cells #[.string b] 9)).alloc (.cells #[.string ⟨#[]⟩] 9)) 26 (.int .i64 0)
      have hbb : Below w.heap.size w ((((w.alloc (.cells #[.string a] 9)).alloc (.cells #[.string b] 9)).alloc (.cells #[.string ⟨#[]⟩] 9)).alloc (.cells #[.int .i64 0] 26)) := ((((Below.refl _ w).alloc (Nat.le_refl _) _).alloc (by simp) _).alloc (by simp; omega) _).alloc (by simp; omega) _
      simp only [World.size_alloc] at x1 x2 x3
      go_wp2_with (first | (go_at_call 19; (with_reducible refine (Right_any a ha _).mono ?_); rintro e w0 ⟨rfl, hb0⟩; rw [hRa]; replace x1 := boxed_below x1 hb0 x1.lt; replace x2 := boxed_below x2 hb0 x2.lt; replace x3 := boxed_below x3 hb0 x3.lt; replace hbb := hbb.trans (hb0.mono hbb.size); clear hb0; have c1 := x1.cell) | (go_at_call 19; (with_reducible refine (Right_any b hb _).mono ?_); rintro e w1 ⟨rfl, hb1⟩; rw [hRbf]; replace x2 := boxed_below x2 hb1 x2.lt; replace x3 := boxed_below x3 hb1 x3.lt; replace hbb := hbb.trans (hb1.mono hbb.size); clear hb1; clear c1; have d2 := x2.cell; have f2 := x2.frozen; have d3 := x3.cell; have f3 := x3.frozen) | fail)
      have z2 := (x2.set (.string ⟨#[]⟩)).kept (grownBy_setCell' _ (w.heap.size + 1 + 1 + 1) (.int .i64 2)) (by simp)
      have z3 := (x3.kept (grownBy_setCell' _ (w.heap.size + 1 + 1) (.string ⟨#[]⟩)) (by simp)).set (.int .i64 2)
      have c2 := z2.cell
      have c3 := z3.cell
      exact ⟨.tuple #[.string ⟨#[]⟩, .int .i64 2], by simp [results, Try.f31, go_sem, c2, c3], rfl, (hbb.setCell (p := ⟨w.heap.size + 1 + 1, 0, none⟩) (by simp; omega) _).setCell (p := ⟨w.heap.size + 1 + 1 + 1, 0, none⟩) (by simp; omega) _⟩
  · have hRaf : rightB a = false := by simpa using hRa
    have hC : commonW a b = (⟨#[]⟩, 2) := by unfold commonW; rw [hRaf]; simp
    rw [hC]
    clear hRa hC
    refine (callsIn_wide (n := 100)).1 (callsIn_of_wp_marks Try.func31 rfl trivial (wpIn_wide.2 ?_) rfl)
    simp only [Try.ntmps31, List.size_toArray, List.length_cons, List.length_nil, Nat.reduceAdd, Nat.reduceSub, Array.replicate_succ, Array.replicate_zero, List.push_toArray, List.append_toArray, List.nil_append, List.cons_append]
    have x1 := ((Boxed.new (w.alloc (.cells #[.string a] 9)) 9 (.string b)).alloc (.cells #[.string ⟨#[]⟩] 9)).alloc (.cells #[.int .i64 0] 26)
    have x2 := (Boxed.new ((w.alloc (.cells #[.string a] 9)).alloc (.cells #[.string b] 9)) 9 (.string ⟨#[]⟩)).alloc (.cells #[.int .i64 0] 26)
    have x3 := Boxed.new (((w.alloc (.cells #[.string a] 9)).alloc (.cells #[.string b] 9)).alloc (.cells #[.string ⟨#[]⟩] 9)) 26 (.int .i64 0)
    have hbb : Below w.heap.size w ((((w.alloc (.cells #[.string a] 9)).alloc (.cells #[.string b] 9)).alloc (.cells #[.string ⟨#[]⟩] 9)).alloc (.cells #[.int .i64 0] 26)) := ((((Below.refl _ w).alloc (Nat.le_refl _) _).alloc (by simp) _).alloc (by simp; omega) _).alloc (by simp; omega) _
    simp only [World.size_alloc] at x1 x2 x3
    go_wp2_with (first | (go_at_call 19; (with_reducible refine (Right_any a ha _).mono ?_); rintro e w0 ⟨rfl, hb0⟩; rw [hRaf]; replace x2 := boxed_below x2 hb0 x2.lt; replace x3 := boxed_below x3 hb0 x3.lt; replace hbb := hbb.trans (hb0.mono hbb.size); clear hb0; have d2 := x2.cell; have f2 := x2.frozen; have d3 := x3.cell; have f3 := x3.frozen) | fail)
    have z2 := (x2.set (.string ⟨#[]⟩)).kept (grownBy_setCell' _ (w.heap.size + 1 + 1 + 1) (.int .i64 2)) (by simp)
    have z3 := (x3.kept (grownBy_setCell' _ (w.heap.size + 1 + 1) (.string ⟨#[]⟩)) (by simp)).set (.int .i64 2)
    have c2 := z2.cell
    have c3 := z3.cell
    exact ⟨.tuple #[.string ⟨#[]⟩, .int .i64 2], by simp [results, Try.f31, go_sem, c2, c3], rfl, (hbb.setCell (p := ⟨w.heap.size + 1 + 1, 0, none⟩) (by simp; omega) _).setCell (p := ⟨w.heap.size + 1 + 1 + 1, 0, none⟩) (by simp; omega) _⟩
end Go.Proofs.Ytlikkpeaepankaa.Nm
