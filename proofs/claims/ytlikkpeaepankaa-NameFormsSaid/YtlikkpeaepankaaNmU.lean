/- name.Under. -/
import Derived.Test.YtlikkpeaepankaaNmLo
namespace Go.Proofs.Ytlikkpeaepankaa.Nm
open Go.RowKit Go.Shelf Rt
set_option linter.unusedSimpArgs false
attribute [local go_sem] Oper.semAt_some

theorem right_size {s : ByteArray} (h : rightB s = true) : 0 < s.size ∧ s.size ≤ 255 := by unfold rightB at h; simp at h; omega
theorem lowerW_size (s : ByteArray) : (lowerW s).size = s.size := by
  unfold lowerW
  split
  · show (loAll s.data.toList (labs s 0)).toArray.size = _
    simp [loAll_length]
  · rfl

/-- Is a name, told with small letters, another one or under it? -/
def underL (low up : ByteArray) : Bool := decide (low.toList = up.toList) || (decide (up.toList = [0]) || (labs low 0).any fun x => decide ((low.extract x.1 low.size).toList = up.toList))
def underW (a b : ByteArray) : Bool := rightB a && (rightB b && underL (lowerW a) (lowerW b))

theorem Lower_any' (s : ByteArray) (hs : s.size ≤ 140737488351232) (w : World) : Calls Try.prog 20 #[.string s] w fun e W' => e = .returned (.string (lowerW s)) ∧ Below w.heap.size w W' := Lower_any s hs w

theorem boxed_kept {A B : World} {row : Option Nat} {g : Nat} {t : TypeId} {v : Value} (h : Boxed A g t v) (hg : A.grownBy B row) (hr : ∀ r, row = some r → ∃ o : Obj, A.heap[r]? = some o ∧ o.isCells = false) : Boxed B g t v :=
  h.kept hg (fun e => by obtain ⟨o, ho, hc⟩ := hr _ e.symm; rw [show A.heap[g]? = _ from h] at ho; cases ho; cases hc)
theorem boxed_below {W W' : World} {B n : Nat} {t : TypeId} {v : Value} (h : Boxed W B t v) (hb : Below n W W') (hn : B < n) : Boxed W' B t v := (hb.block B hn).trans h

set_option maxRecDepth 100000 in
set_option maxHeartbeats 2000000 in
theorem Under_same (a b : ByteArray) (ha : a.size ≤ 140737488351232) (hb : b.size ≤ 140737488351232) (w : World) (low up : ByteArray) (hRa : rightB a = true) (hRb : rightB b = true)
    (hLa : ∀ w, Calls Try.prog 20 #[.string a] w fun e W' => e = .returned (.string low) ∧ Below w.heap.size w W') (hLb : ∀ w, Calls Try.prog 20 #[.string b] w fun e W' => e = .returned (.string up) ∧ Below w.heap.size w W')
    (h1 : low.toList = up.toList ∨ (¬ low.toList = [0] ∧ up.toList = [0])) :
    Calls Try.prog 25 #[.string a, .string b] w fun e W' => e = .returned (.bool true) ∧ Below w.heap.size w W' := by
  rcases h1 with h1 | ⟨h1, h2⟩
  all_goals
    refine (callsIn_wide (n := 100)).1 (callsIn_of_wp_marks Try.func25 rfl trivial (wpIn_wide.2 ?_) rfl)
    simp only [Try.ntmps25, List.size_toArray, List.length_cons, List.length_nil, Nat.reduceAdd, Nat.reduceSub, Array.replicate_succ, Array.replicate_zero, List.push_toArray, List.append_toArray, List.nil_append, List.cons_append]
    have hx := Boxed.new w 4 (.bool false)
    have hbb : Below w.heap.size w (w.alloc (.cells #[.bool false] 4)) := (Below.refl _ w).alloc (Nat.le_refl _) _
    go_wp2_with (first | (go_at_call 19; (with_reducible refine (Right_any a ha _).mono ?_); rintro e w0 ⟨rfl, hb0⟩; rw [hRa]; replace hx := boxed_below hx hb0 hx.lt; replace hbb := hbb.trans (hb0.mono (by simp)); clear hb0) | (go_at_call 19; (with_reducible refine (Right_any b hb _).mono ?_); rintro e w1 ⟨rfl, hb1⟩; rw [hRb]; replace hx := boxed_below hx hb1 hx.lt; replace hbb := hbb.trans (hb1.mono hbb.size); clear hb1) | (go_at_call 20; (with_reducible refine (hLa _).mono ?_); rintro e w2 ⟨rfl, hb2⟩; replace hx := boxed_below hx hb2 hx.lt; replace hbb := hbb.trans (hb2.mono hbb.size); clear hb2) | (go_at_call 20; (with_reducible refine (hLb _).mono ?_); rintro e w3 ⟨rfl, hb3⟩; replace hx := boxed_below hx hb3 hx.lt; replace hbb := hbb.trans (hb3.mono hbb.size); clear hb3; have hxc := hx.cell; have hxf := hx.frozen; have hxl := hx.lt) | (go_at_call 45; (with_reducible refine (labels_any low _).mono ?_); rintro e w' ⟨rfl, rfl⟩))
    exact ⟨.bool true, by simp [results, Try.f25, go_sem, hxc, hxl], rfl, ((hbb.setCell (p := ⟨w.heap.size, 0, none⟩) (Nat.le_refl _) _).alloc (by simp; omega) _).alloc (by simp; omega) _⟩

/-- Does the end of low from a label on read as up? -/
def endIs (low up : ByteArray) (x : Nat × ByteArray) : Bool := decide ((low.extract x.1 low.size).toList = up.toList)

set_option maxRecDepth 100000 in
set_option maxHeartbeats 2000000 in
theorem Under_loop (a b : ByteArray) (ha : a.size ≤ 140737488351232) (hb : b.size ≤ 140737488351232) (w : World) (low up : ByteArray) (hRa : rightB a = true) (hRb : rightB b = true) (hsl : low.size ≤ 255)
    (hLa : ∀ w, Calls Try.prog 20 #[.string a] w fun e W' => e = .returned (.string low) ∧ Below w.heap.size w W') (hLb : ∀ w, Calls Try.prog 20 #[.string b] w fun e W' => e = .returned (.string up) ∧ Below w.heap.size w W')
    (h1 : ¬ low.toList = up.toList) (h2 : ¬ up.toList = [0]) :
    Calls Try.prog 25 #[.string a, .string b] w fun e W' => e = .returned (.bool ((labs low 0).any (endIs low up))) ∧ Below w.heap.size w W' := by
  have h1b : (low.toList == up.toList) = false := by simpa using h1
  have h2b : (up.toList == [0]) = false := by simpa using h2
  refine (callsIn_wide (n := 100)).1 (callsIn_of_wp_marks Try.func25 rfl trivial (wpIn_wide.2 ?_) rfl)
  simp only [Try.ntmps25, List.size_toArray, List.length_cons, List.length_nil, Nat.reduceAdd, Nat.reduceSub, Array.replicate_succ, Array.replicate_zero, List.push_toArray, List.append_toArray, List.nil_append, List.cons_append]
  have hx := Boxed.new w 4 (.bool false)
  have hbb : Below w.heap.size w (w.alloc (.cells #[.bool false] 4)) := (Below.refl _ w).alloc (Nat.le_refl _) _
  go_wp2_with (first | (go_at_call 19; (with_reducible refine (Right_any a ha _).mono ?_); rintro e w0 ⟨rfl, hb0⟩; rw [hRa]; replace hx := boxed_below hx hb0 hx.lt; replace hbb := hbb.trans (hb0.mono (by simp)); clear hb0) | (go_at_call 19; (with_reducible refine (Right_any b hb _).mono ?_); rintro e w1 ⟨rfl, hb1⟩; rw [hRb]; replace hx := boxed_below hx hb1 hx.lt; replace hbb := hbb.trans (hb1.mono hbb.size); clear hb1) | (go_at_call 20; (with_reducible refine (hLa _).mono ?_); rintro e w2 ⟨rfl, hb2⟩; replace hx := boxed_below hx hb2 hx.lt; replace hbb := hbb.trans (hb2.mono hbb.size); clear hb2) | (go_at_call 20; (with_reducible refine (hLb _).mono ?_); rintro e w3 ⟨rfl, hb3⟩; replace hx := boxed_below hx hb3 hx.lt; replace hbb := hbb.trans (hb3.mono hbb.size); clear hb3; have hxc := hx.cell; have hxf := hx.frozen; have hxl := hx.lt) | (go_at_call 45; (with_reducible refine (labels_any low _).mono ?_); rintro e w' ⟨rfl, rfl⟩))
  have bl := (Boxed.new w3 9 (.string low)).alloc (.cells #[.string up] 9)
  have bu := Boxed.new (w3.alloc (.cells #[.string low] 9)) 9 (.string up)
  have bN := Boxed.new ((w3.alloc (.cells #[.string low] 9)).alloc (.cells #[.string up] 9)) 9 (.string low)
  simp only [World.size_alloc] at bu bN
  have hB0 : Below w.heap.size w (((w3.alloc (.cells #[.string low] 9)).alloc (.cells #[.string up] 9)).alloc (.cells #[.string low] 9)) := ((hbb.alloc (by omega) _).alloc (by simp; omega) _).alloc (by simp; omega) _
  have hxx := ((hx.alloc (.cells #[.string low] 9)).alloc (.cells #[.string up] 9)).alloc (.cells #[.string low] 9)
  refine wpIn_wide.1 (wpIn_rangeFunc_ownG (F := Fence.wide) (n := 100) rfl (by omega) (gf := 57) (lb := #[.pointer (some ⟨w3.heap.size + 1 + 1, 0, none⟩)]) rfl trivial (enters_of Try.func57 (by kernel_rfl) rfl)
    (labels_stops Fence.wide 99 trivial rfl (by omega) (w3.heap.size + 1 + 1) low (by omega) _ (by simp) bN.cell) KeepsCell.trans KeepsCell.putObj (Below.refl _ _) (fun _ => rfl)
    (fun pre W => (((pre.map (·.1)).any (endIs low up) = false ∧ Boxed W w.heap.size 4 (.bool false)) ∧ Boxed W w3.heap.size 9 (.string low) ∧ Boxed W (w3.heap.size + 1) 9 (.string up)) ∧ Below w.heap.size w W)
    (fun c pre W => (c = .ret ∧ (pre.map (·.1)).any (endIs low up) = true ∧ Boxed W w.heap.size 4 (.bool true)) ∧ Below w.heap.size w W)
    (OwnFrom.and (Own.from (fun pre A B row hs hg hr => ⟨⟨hs.1.1, boxed_kept hs.1.2 hg hr⟩, boxed_kept hs.2.1 hg hr, boxed_kept hs.2.2 hg hr⟩) _) (ownFrom_below (Nat.le_refl _) (by simp; omega)))
    (fun c => OwnFrom.and (Own.from (fun pre A B row hs hg hr => ⟨hs.1, hs.2.1, boxed_kept hs.2.2 hg hr⟩) _) (ownFrom_below (Nat.le_refl _) (by simp; omega)))
    ⟨⟨⟨rfl, hxx⟩, bl.alloc _, bu.alloc _⟩, hB0⟩
    (fun x => { tmps := #[.string a, .string b, undef, undef, .pointer (some ⟨w.heap.size, 0, none⟩), .pointer (some ⟨w3.heap.size, 0, none⟩), .pointer (some ⟨w3.heap.size + 1, 0, none⟩), .int .i64 (x.1.1 : Int), .string a, .bool true, .bool false, .bool false, .string b, .bool true, .bool false, .bool false, .string a, .string low, .string b, .string up, .string low, .string up, .bool false, .bool false, .string up, .bool false, .bool false, .string low, .func (.func 57) #[] #[.pointer (some ⟨w3.heap.size + 1 + 1, 0, none⟩)], .int .i64 (x.1.1 : Int), .string x.1.2, undef, undef, undef, undef, undef], defers := [] }) ?assign ?body ?done ?stop)
  case assign =>
    intro l x W K hK
    gi_wp2
    exact hK
  case body =>
    rintro l pre x W ⟨⟨⟨hp, hr⟩, hl, hu⟩, hB⟩ hlt
    obtain ⟨hx1, hx2, hx3, hxa, hxb⟩ := x.spec
    have hP : Hid (∀ v, endIs low up x.1 = v → ((pre ++ [x]).map (·.1)).any (endIs low up) = v) := Lib.hid (fun v hv => by rw [List.map_append, List.any_append, hp]; simpa using hv)
    have hE : Hid (endIs low up x.1 = decide ((low.extract x.1.1 low.size).toList = up.toList)) := Lib.hid rfl
    have hlc := hl.cell
    have huc := hu.cell
    have hrc := hr.cell
    have hrf := hr.frozen
    obtain ⟨at0, hat⟩ : ∃ q, x.1.1 = q := ⟨_, rfl⟩
    rw [hat] at hx1 hE ⊢
    have hx1' : (at0 : Int) ≤ low.size := by omega
    have hx0' : 0 ≤ (at0 : Int) := by omega
    clear hxa hxb hp bl bu bN hB0 hxx hat hx hxc hxf
    refine wpIn_block ?_
    refine wpIn_seq ?_
    refine Rt.wpIn_region_text [1, 0, 0, 1, 0] (by kernel_rfl) (by kernel_rfl) ?_
    repeat (first | (apply txt_move rfl rfl; (· (simp only [Act.put, Act.eval, List.setIfInBounds_toArray, List.set_cons_zero, List.set_cons_succ, Array.getD_eq_getD_getElem?, List.getElem?_toArray, List.getElem?_cons_zero, List.getElem?_cons_succ, Option.getD_some]; with_reducible rfl))) | (apply txt_assign rfl rfl; (· (simp only [Act.put, Act.eval, List.setIfInBounds_toArray, List.set_cons_zero, List.set_cons_succ, Array.getD_eq_getD_getElem?, List.getElem?_toArray, List.getElem?_cons_zero, List.getElem?_cons_succ, Option.getD_some]; with_reducible rfl))) | (apply txt_skip rfl rfl; (· (simp only [Act.put, Act.eval, List.setIfInBounds_toArray, List.set_cons_zero, List.set_cons_succ, Array.getD_eq_getD_getElem?, List.getElem?_toArray, List.getElem?_cons_zero, List.getElem?_cons_succ, Option.getD_some]; with_reducible rfl))) | (apply txt_pure rfl rfl rfl; (· (intro w; go_simp; (try go_bits); with_reducible rfl)); (· (simp only [Act.put, Act.eval, List.setIfInBounds_toArray, List.set_cons_zero, List.set_cons_succ, Array.getD_eq_getD_getElem?, List.getElem?_toArray, List.getElem?_cons_zero, List.getElem?_cons_succ, Option.getD_some]; with_reducible rfl))) | (apply txt_read rfl rfl rfl; (· (go_simp; with_reducible rfl)); (· (simp only [Act.put, Act.eval, List.setIfInBounds_toArray, List.set_cons_zero, List.set_cons_succ, Array.getD_eq_getD_getElem?, List.getElem?_toArray, List.getElem?_cons_zero, List.getElem?_cons_succ, Option.getD_some]; with_reducible rfl))) | (apply txt_do rfl rfl rfl; (· (go_simp; with_reducible rfl)); (· (simp only [Act.put, Act.eval, List.setIfInBounds_toArray, List.set_cons_zero, List.set_cons_succ, Array.getD_eq_getD_getElem?, List.getElem?_toArray, List.getElem?_cons_zero, List.getElem?_cons_succ, Option.getD_some]; with_reducible rfl))) | (apply txt_value rfl rfl rfl; (· (go_simp; exact ⟨rfl, rfl⟩)); (· (simp only [Act.put, Act.eval, List.setIfInBounds_toArray, List.set_cons_zero, List.set_cons_succ, Array.getD_eq_getD_getElem?, List.getElem?_toArray, List.getElem?_cons_zero, List.getElem?_cons_succ, Option.getD_some]; with_reducible rfl))))
    with_reducible refine txt_nil ?_
    by_cases he : (low.extract at0 low.size).toList = up.toList
    · have he1 : ((low.extract at0 low.size).toList == up.toList) = true := by simpa using he
      have hT : Hid (((pre ++ [x]).map (·.1)).any (endIs low up) = true) := Lib.hid (hP.out _ (by rw [hE.out]; simpa using he))
      rw [he1]
      clear he hP hE he1
      gi_wp2
      exact ⟨((KeepsOthers.setCell _ _ _).trans (KeepsOthers.drew _)).from _, ⟨rfl, hT.out, hr.set _⟩, (hB.setCell (p := ⟨w.heap.size, 0, none⟩) (Nat.le_refl _) _).drew⟩
    · have he1 : ((low.extract at0 low.size).toList == up.toList) = false := by simpa using he
      have hT : Hid (((pre ++ [x]).map (·.1)).any (endIs low up) = false) := Lib.hid (hP.out _ (by rw [hE.out]; simpa using he))
      rw [he1]
      clear he hP hE he1
      gi_wp2
      exact ⟨(KeepsOthers.drew W).from _, KeepsCell.drew (KeepsCell.refl _ _), ⟨⟨hT.out, hr⟩, hl, hu⟩, hB.drew⟩
  case done =>
    rintro D ys W hD hys ⟨⟨⟨hp, hr⟩, hl, hu⟩, hB⟩ hK
    rw [hys] at hp
    have hrc := hr.cell
    have hrf := hr.frozen
    have hp1 := Lib.hid hp
    clear hp hys hx hxc hxf bl bu bN hB0 hxx
    go_wp2
    have hK2 := (KeepsOthers.setCell W ⟨w.heap.size, 0, none⟩ (.bool false)).same D _ hK rfl
    refine ⟨by simp, .inl ⟨_, _, rfl, run_takeDeferred hK2, ?_⟩⟩
    have hc5 := cell_kept (World.cell?_setCell_same' W ⟨w.heap.size, 0, none⟩ (.bool false) (by rw [hrc]; rfl)) (grownBy_putObj' _ D (.deferred none)) (fun r e => by cases e; exact ⟨_, hK2, rfl⟩)
    exact ⟨.bool false, by simp [results, Try.f25, go_sem, hc5], ret_bool hp1.out.symm, (hB.setCell (p := ⟨w.heap.size, 0, none⟩) (Nat.le_refl _) _).trans (belowK_b (w := w) (Nat.le_refl _) _ D _ _ (by simp at hD; omega) hK2 rfl rfl)⟩
  case stop =>
    rintro D c pre W hD hpr ⟨⟨rfl, hp, hr⟩, hB⟩ hK
    have hA : (labs low 0).any (endIs low up) = true := by
      obtain ⟨x, hx, he⟩ := List.any_eq_true.1 hp
      exact List.any_eq_true.2 ⟨x, hpr.subset hx, he⟩
    have hp1 := Lib.hid hA
    have hrc := hr.cell
    have hrf := hr.frozen
    clear hp hpr hx hxc hxf bl bu bN hB0 hxx hA
    refine wpIn_wide.2 ?_
    go_wp2
    refine ⟨by simp, .inl ⟨_, _, rfl, run_takeDeferred hK, ?_⟩⟩
    have hc5 := cell_kept hrc (grownBy_putObj' _ D (.deferred none)) (fun r e => by cases e; exact ⟨_, hK, rfl⟩)
    exact ⟨.bool true, by simp [results, Try.f25, go_sem, hc5], ret_bool hp1.out.symm, hB.trans (belowK_b (w := w) (Nat.le_refl _) _ D _ _ (by simp at hD; omega) hK rfl rfl)⟩

set_option maxRecDepth 100000 in
set_option maxHeartbeats 2000000 in
theorem Under_any (a b : ByteArray) (ha : a.size ≤ 140737488351232) (hb : b.size ≤ 140737488351232) (w : World) :
    Calls Try.prog 25 #[.string a, .string b] w fun e W' => e = .returned (.bool (underW a b)) ∧ Below w.heap.size w W' := by
  by_cases hRa : rightB a = true
  · by_cases hRb : rightB b = true
    · obtain ⟨low, hlow⟩ : ∃ low, lowerW a = low := ⟨_, rfl⟩
      obtain ⟨up, hup⟩ : ∃ up, lowerW b = up := ⟨_, rfl⟩
      have hsl : low.size ≤ 255 := by rw [← hlow, lowerW_size]; exact (right_size hRa).2
      have hU : underW a b = underL low up := by unfold underW; rw [hRa, hRb, hlow, hup, Bool.true_and, Bool.true_and]
      rw [hU]
      have hLa : ∀ w, Calls Try.prog 20 #[.string a] w fun e W' => e = .returned (.string low) ∧ Below w.heap.size w W' := fun w => by rw [← hlow]; exact Lower_any a ha w
      have hLb : ∀ w, Calls Try.prog 20 #[.string b] w fun e W' => e = .returned (.string up) ∧ Below w.heap.size w W' := fun w => by rw [← hup]; exact Lower_any b hb w
      clear hU hlow hup
      by_cases h1 : low.toList = up.toList
      · have hU : underL low up = true := by unfold underL; rw [decide_eq_true h1, Bool.true_or]
        rw [hU]
        exact Under_same a b ha hb w low up hRa hRb hLa hLb (.inl h1)
      · by_cases h2 : up.toList = [0]
        · have hU : underL low up = true := by unfold underL; rw [decide_eq_true h2]; simp
          rw [hU]
          exact Under_same a b ha hb w low up hRa hRb hLa hLb (.inr ⟨by rw [← h2]; exact h1, h2⟩)
        · have hU : underL low up = (labs low 0).any (endIs low up) := by unfold underL; rw [decide_eq_false h1, decide_eq_false h2, Bool.false_or, Bool.false_or]; rfl
          rw [hU]
          exact Under_loop a b ha hb w low up hRa hRb hsl hLa hLb h1 h2
    · have hRbf : rightB b = false := by simpa using hRb
      have hU : underW a b = false := by unfold underW; rw [hRbf]; simp
      rw [hU]
      clear hU hRb
      refine (callsIn_wide (n := 100)).1 (callsIn_of_wp_marks Try.func25 rfl trivial (wpIn_wide.2 ?_) rfl)
      simp only [Try.ntmps25, List.size_toArray, List.length_cons, List.length_nil, Nat.reduceAdd, Nat.reduceSub, Array.replicate_succ, Array.replicate_zero, List.push_toArray, List.append_toArray, List.nil_append, List.cons_append]
      have hx := Boxed.new w 4 (.bool false)
      have hbb : Below w.heap.size w (w.alloc (.cells #[.bool false] 4)) := (Below.refl _ w).alloc (Nat.le_refl _) _
      go_wp2_with (first | (go_at_call 19; (with_reducible refine (Right_any a ha _).mono ?_); rintro e w0 ⟨rfl, hb0⟩; rw [hRa]; replace hx := boxed_below hx hb0 hx.lt; replace hbb := hbb.trans (hb0.mono (by simp)); clear hb0) | (go_at_call 19; (with_reducible refine (Right_any b hb _).mono ?_); rintro e w1 ⟨rfl, hb1⟩; rw [hRbf]; replace hx := boxed_below hx hb1 hx.lt; replace hbb := hbb.trans (hb1.mono hbb.size); clear hb1; have hxc := hx.cell; have hxf := hx.frozen; have hxl := hx.lt) | fail)
      exact ⟨.bool false, by simp [results, Try.f25, go_sem, hxc], rfl, hbb.setCell (p := ⟨w.heap.size, 0, none⟩) (Nat.le_refl _) _⟩
  · have hRaf : rightB a = false := by simpa using hRa
    have hU : underW a b = false := by unfold underW; rw [hRaf]; simp
    rw [hU]
    clear hU hRa
    refine (callsIn_wide (n := 100)).1 (callsIn_of_wp_marks Try.func25 rfl trivial (wpIn_wide.2 ?_) rfl)
    simp only [Try.ntmps25, List.size_toArray, List.length_cons, List.length_nil, Nat.reduceAdd, Nat.reduceSub, Array.replicate_succ, Array.replicate_zero, List.push_toArray, List.append_toArray, List.nil_append, List.cons_append]
    have hx := Boxed.new w 4 (.bool false)
    have hbb : Below w.heap.size w (w.alloc (.cells #[.bool false] 4)) := (Below.refl _ w).alloc (Nat.le_refl _) _
    go_wp2_with (first | (go_at_call 19; (with_reducible refine (Right_any a ha _).mono ?_); rintro e w0 ⟨rfl, hb0⟩; rw [hRaf]; replace hx := boxed_below hx hb0 hx.lt; replace hbb := hbb.trans (hb0.mono (by simp)); clear hb0; have hxc := hx.cell; have hxf := hx.frozen; have hxl := hx.lt) | fail)
    exact ⟨.bool false, by simp [results, Try.f25, go_sem, hxc], rfl, hbb.setCell (p := ⟨w.heap.size, 0, none⟩) (Nat.le_refl _) _⟩
end Go.Proofs.Ytlikkpeaepankaa.Nm
