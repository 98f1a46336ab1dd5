/- name.Right and the other functions that go over labels. -/
import Derived.Test.YticijejnemnmlaaNmIt
namespace Go.Proofs.Yticijejnemnmlaa.Nm
open Go.RowKit Go.Shelf
attribute [local go_sem] Oper.semAt_some

theorem ret_bool {a b : Bool} (h : a = b) : Ending.returned (.bool a) = .returned (.bool b) := by rw [h]

def endOf (pre : List (Nat × ByteArray)) : Nat := pre.foldl (fun _ x => x.1 + 1 + x.2.size) 0
theorem endOf_snoc (pre : List (Nat × ByteArray)) (x : Nat × ByteArray) : endOf (pre ++ [x]) = x.1 + 1 + x.2.size := by simp [endOf]

def zeroAt (s : ByteArray) (k : Nat) : Bool := if h : k < s.size then s[k].toNat == 0 else false

def rightB (s : ByteArray) : Bool := decide (0 < s.size) && decide (s.size ≤ 255) && decide (endOf (labs s 0) + 1 = s.size) && zeroAt s (endOf (labs s 0))

set_option maxRecDepth 100000 in
set_option maxHeartbeats 1000000 in
theorem Right_in (F : Fence) (n : Nat) (h28 : F.fn 28) (h43 : F.fn 43) (h51 : F.fn 51) (hro : F.round = none) (hn : 3 ≤ n) (s : ByteArray) (hs : s.size ≤ 140737488351232) (w : World) :
    CallsIn F n Try.prog 28 #[.string s] w fun e W' => e = .returned (.bool (rightB s)) ∧ Below w.heap.size w W' := by
  have h1 : 1 ≤ n := by omega
  by_cases h0 : s.size = 0
  · have hR : rightB s = false := by simp [rightB, h0]
    have hz1 : ((s.size : Int) == 0) = true := by simpa using h0
    rw [hR]
    have hH := Lib.hid h0
    clear h0 hR
    refine callsIn_of_wp_marks Try.func28 rfl h28 ?_ hro
    simp only [Try.ntmps28, List.size_toArray, List.length_cons, List.length_nil, Nat.reduceAdd, Nat.reduceSub, Array.replicate_succ, Array.replicate_zero, List.push_toArray, List.append_toArray, List.nil_append, List.cons_append]
    gi_wp2
    exact ⟨_, results_tmp rfl _ _ _, rfl, Below.refl _ _⟩
  by_cases h255 : 255 < s.size
  · have hR : rightB s = false := by simp [rightB]; omega
    have hz1 : ((s.size : Int) == 0) = false := by simpa using h0
    have hz2 : ((255 : Int) < s.size) := by omega
    rw [hR]
    clear h0 hR h255
    refine callsIn_of_wp_marks Try.func28 rfl h28 ?_ hro
    simp only [Try.ntmps28, List.size_toArray, List.length_cons, List.length_nil, Nat.reduceAdd, Nat.reduceSub, Array.replicate_succ, Array.replicate_zero, List.push_toArray, List.append_toArray, List.nil_append, List.cons_append]
    gi_wp2
    exact ⟨_, results_tmp rfl _ _ _, rfl, Below.refl _ _⟩
  refine callsIn_of_wp_marks Try.func28 rfl h28 ?_ hro
  simp only [Try.ntmps28, List.size_toArray, List.length_cons, List.length_nil, Nat.reduceAdd, Nat.reduceSub, Array.replicate_succ, Array.replicate_zero, List.push_toArray, List.append_toArray, List.nil_append, List.cons_append]
  have hz1 : ((s.size : Int) == 0) = false := by simpa using h0
  have hz2 : ¬ ((255 : Int) < s.size) := by omega
  have hH := Lib.hid h0
  have hH2 := Lib.hid h255
  clear h0 h255
  gi_wp2_with (gi_at_call 43; refine (labels_in F (n - 1) h43 hro _ _).mono ?_; rintro e w' ⟨rfl, rfl⟩)
  have bS := Boxed.new w 3 (.int .i64 0)
  have bN := Boxed.new (w.alloc (.cells #[.int .i64 0] 3)) 9 (.string s)
  rw [World.size_alloc] at bN
  have hB0 : Below w.heap.size w ((w.alloc (.cells #[.int .i64 0] 3)).alloc (.cells #[.string s] 9)) := ((Below.refl _ w).alloc (Nat.le_refl _) _).alloc (by simp) _
  refine wpIn_rangeFunc_ownG hro h1 (gf := 51) (lb := #[.pointer (some ⟨w.heap.size + 1, 0, none⟩)]) rfl h51 (enters_of Try.func51 (by kernel_rfl) rfl)
    (labels_stops F (n - 1) h51 hro (by omega) (w.heap.size + 1) s hs _ (by simp) bN.cell) KeepsCell.trans KeepsCell.putObj (Below.refl _ _) (fun _ => rfl)
    (fun pre W => (W.cell? ⟨w.heap.size, 0, none⟩ = some (.int .i64 (endOf (pre.map (·.1)))) ∧ W.frozen? ⟨w.heap.size, 0, none⟩ = false) ∧ Below w.heap.size w W)
    (fun _ _ _ => False)
    (OwnFrom.and (Own.from (fun s A B row hs hg hr => ⟨cell_kept hs.1 hg hr, (frozen_kept hs.1 hg hr).trans hs.2⟩) _) (ownFrom_below (Nat.le_refl _) (by simp; omega)))
    (fun _ _ _ _ _ hs _ _ => hs)
    ⟨⟨(bS.alloc _).cell, (bS.alloc _).frozen⟩, hB0⟩
    (fun x => { tmps := #[.string s, undef, .bool false, .pointer (some ⟨w.heap.size, 0, none⟩), .int .i64 (x.1.1 : Int), .string x.1.2, .string s, .int .i64 s.size, .bool false, .bool false, .string s, .int .i64 s.size, .bool false, .bool false, .string s, .func (.func 51) #[] #[.pointer (some ⟨w.heap.size + 1, 0, none⟩)], .int .i64 (x.1.1 : Int), .string x.1.2, undef, undef, undef, undef, undef, undef, undef, undef, undef, undef, undef, undef, undef, undef, undef, undef], defers := [] }) ?assign ?body ?done ?stop
  case assign =>
    intro l x W K hK
    gi_wp2
    exact hK
  case body =>
    rintro l pre x W ⟨⟨hc, hf⟩, hB⟩ _
    have hx := x.spec
    have b1 : (x.1.1 : Int) + 1 + x.1.2.size ≤ 140737488351232 := by omega
    clear hx
    gi_wp2
    refine ⟨(KeepsOthers.setCell _ _ _).from _, KeepsCell.setCell _ _ _ (by simp), ⟨by rw [List.map_append, List.map_singleton, endOf_snoc]; exact World.cell?_setCell_same' _ _ _ (by rw [hc]; rfl), by rw [World.frozen?_setCell]; exact hf⟩, hB.setCell (p := ⟨w.heap.size, 0, none⟩) (Nat.le_refl _) _⟩
  case done =>
    rintro D ys W hD hys ⟨⟨hc, _⟩, hB⟩ hK
    rw [hys] at hc
    have hfin : Below w.heap.size w (W.putObj D (.deferred none)) := hB.trans (belowK_b (w := w) (Nat.le_refl _) W D _ _ (by simp at hD; omega) hK rfl rfl)
    have hR : rightB s = (decide (endOf (labs s 0) + 1 = s.size) && zeroAt s (endOf (labs s 0))) := by
      unfold rightB; have := hH.out; have := hH2.out
      rw [decide_eq_true (show 0 < s.size by omega), decide_eq_true (show s.size ≤ 255 by omega), Bool.true_and, Bool.true_and]
    obtain ⟨q, hq⟩ : ∃ q, endOf (labs s 0) = q := ⟨_, rfl⟩
    rw [hq] at hc hR
    have hRH := Lib.hid hR
    clear hR hq hys
    simp only [Exit.inBlock]
    by_cases hlast : q + 1 = s.size
    · have hqs : q < s.size := by omega
      have hE : (zeroAt s q) = (s[q].toNat == 0) := by unfold zeroAt; rw [dif_pos hqs]
      have hX : Hid ((s[q].toNat == 0) = rightB s) := Lib.hid (by rw [hRH.out, hE, decide_eq_true hlast, Bool.true_and])
      have e1 : ((q : Int) == (s.size : Int) - 1) = true := by simp; omega
      clear hlast hE
      gi_wp2
      refine ⟨by simp, .inl ⟨_, _, rfl, run_takeDeferred hK, ?_⟩⟩
      exact ⟨.bool ((s[q].toNat : Int) == 0), results_tmp (t := 2) rfl _ _ _, ret_bool (by rw [← hX.out, Bool.eq_iff_iff]; simp), hfin⟩
    · have hX : Hid (false = rightB s) := Lib.hid (by rw [hRH.out, decide_eq_false hlast, Bool.false_and])
      have e1 : ((q : Int) == (s.size : Int) - 1) = false := by simp; omega
      clear hlast
      gi_wp2
      refine ⟨by simp, .inl ⟨_, _, rfl, run_takeDeferred hK, ?_⟩⟩
      exact ⟨.bool false, results_tmp (t := 2) rfl _ _ _, ret_bool hX.out, hfin⟩
  case stop =>
    rintro D c pre W _ _ h _
    exact h.elim
end Go.Proofs.Yticijejnemnmlaa.Nm
