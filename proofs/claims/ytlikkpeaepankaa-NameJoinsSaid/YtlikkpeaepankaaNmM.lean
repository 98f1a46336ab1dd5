/- guidepostref01.Labels: the labels of a name, and whether it is one. -/
import Derived.Test.YtlikkpeaepankaaNmS
namespace Go.Proofs.Ytlikkpeaepankaa.Nm
open Go.RowKit Rt Go.Proofs.YtlikkpeaepankaaW.PrintWords
set_option linter.unusedSimpArgs false

theorem not_right_of {s : ByteArray} {done : List (Nat × ByteArray)} {k : Nat} (h1 : labs s 0 = done ++ labs s k) (h2 : endOf done = k) (h3 : labs s k = []) (h4 : k + 1 ≠ s.size ∨ zeroAt s k = false) : rightB s = false := by
  unfold rightB
  rw [h1, h3, List.append_nil, h2]
  rcases h4 with h | h
  · rw [decide_eq_false h]; simp
  · rw [h]; simp
theorem is_right_of {s : ByteArray} {done : List (Nat × ByteArray)} {k : Nat} (h1 : labs s 0 = done ++ labs s k) (h2 : endOf done = k) (h3 : labs s k = []) (h4 : k + 1 = s.size) (h5 : zeroAt s k = true) (h6 : s.size ≤ 255) : rightB s = true ∧ labelsL s = done.map (·.2) := by
  have hr : rightB s = true := by
    unfold rightB
    rw [h1, h3, List.append_nil, h2, h5, decide_eq_true h4, decide_eq_true h6, decide_eq_true (by omega)]; rfl
  refine ⟨hr, ?_⟩
  unfold labelsL
  rw [if_pos hr, h1, h3, List.append_nil]
theorem labelsL_not {s : ByteArray} (h : rightB s = false) : labelsL s = [] := by unfold labelsL; rw [if_neg (by rw [h]; simp)]

set_option maxRecDepth 100000 in
set_option maxHeartbeats 2000000 in
theorem Labels_ref (s : ByteArray) (hs : s.size ≤ 140737488351232) (w : World) :
    Calls Try.prog 14 #[.string s] w fun e W' => ∃ v, e = .returned (.tuple #[v, .bool (rightB s)]) ∧ W'.ownsRow w.heap.size 9 1 v (labelsL s).length ((labelsL s).map Value.string) ∧ Below w.heap.size w W' := by
  obtain ⟨i0, hi, hz0, hz1, hz2⟩ := info_parts info9
  by_cases hbig : 255 < s.size
  · have hr : rightB s = false := by unfold rightB; rw [decide_eq_false (show ¬ s.size ≤ 255 by omega)]; simp
    rw [labelsL_not hr, hr]
    have hb' : 255 < (s.size : Int) := by omega
    clear hr
    go_enter Try.func14, Try.ntmps14
    go_wp2
    go_ret2
    exact ⟨_, rfl, World.ownsRow_nil _ _ _ _, Below.refl _ _⟩
  · have hb' : ¬ 255 < (s.size : Int) := by omega
    have hsz : s.size ≤ 255 := by omega
    go_enter Try.func14, Try.ntmps14
    go_wp2
    go_loopw [4, 5] (fun v i wr => ∃ (k : Nat) (done : List (Nat × ByteArray)), i = .int .i64 k ∧ k ≤ s.size ∧ Hid (labs s 0 = done ++ labs s k ∧ endOf done = k) ∧ wr.ownsRow w.heap.size 9 1 v done.length (done.map fun x => Value.string x.2) ∧ Below w.heap.size w wr) (fun _ i _ => s.size - (intOf i).toNat)
    case atStart => exact ⟨0, [], rfl, Nat.zero_le _, Lib.hid ⟨rfl, rfl⟩, World.ownsRow_nil _ _ _ _, Below.refl _ _⟩
    case round =>
      obtain ⟨k, done, rfl, hk, hD, hrow, hb⟩ := hrel
      have hdl : done.length ≤ 255 := by
        have h1 := labs_length s _ 0 rfl
        rw [hD.out.1, List.length_append] at h1; omega
      by_cases hlt : k < s.size
      · have hlt' : (k : Int) < s.size := by omega
        obtain ⟨m, hm⟩ : ∃ m, s[k].toNat = m := ⟨_, rfl⟩
        have hm255 : m ≤ 255 := by have := UInt8.toNat_lt s[k]; omega
        have hmI : (m : Int) ≤ 255 := by omega
        have hw64 : wrap64 (m : Int) = m := by unfold wrap64; omega
        have hmH := Lib.hid hm
        by_cases hz : m = 0
        · have hl1 : lab1 s k = none := by unfold lab1; rw [dif_pos hlt, if_pos (by omega)]
          have hzA : zeroAt s k = true := by unfold zeroAt; rw [dif_pos hlt, hm, hz]; rfl
          have e1 : ((m : Int) == 0) = true := by simp; omega
          by_cases hend : k + 1 = s.size
          · obtain ⟨hr, hll⟩ := is_right_of hD.out.1 hD.out.2 (labs_none hl1) hend hzA hsz
            have hrH := Lib.hid hr
            have hlH := Lib.hid hll
            have e2 : ((k : Int) == (s.size : Int) - 1) = true := by simp; omega
            have hrow2 : Hid (wr.ownsRow w.heap.size 9 1 u4 (labelsL s).length ((labelsL s).map Value.string)) := Lib.hid (by rw [hll, List.length_map, List.map_map]; exact hrow)
            clear hr hll hzA hl1 hz hrow
            go_wp2
            go_ret2
            exact ⟨_, by rw [hrH.out]; rfl, hrow2.out, hb⟩
          · have hr := not_right_of hD.out.1 hD.out.2 (labs_none hl1) (.inl hend)
            have hrH := Lib.hid hr
            have e2 : ((k : Int) == (s.size : Int) - 1) = false := by simp; omega
            clear hr hzA hl1 hz
            go_wp2
            go_ret2
            exact ⟨_, by rw [hrH.out]; rfl, by rw [labelsL_not hrH.out]; exact World.ownsRow_nil _ _ _ _, hb⟩
        · have e1 : ((m : Int) == 0) = false := by simp; omega
          by_cases hbad : 63 < m ∨ s.size < k + 1 + m
          · have hl1 : lab1 s k = none := by
              unfold lab1; rw [dif_pos hlt, hm, if_neg hz]
              by_cases h63 : 63 < m
              · rw [if_pos h63]
              · rw [if_neg h63, if_pos (by omega)]
            have hzA : zeroAt s k = false := by unfold zeroAt; rw [dif_pos hlt, hm]; simpa using hz
            have hr := not_right_of hD.out.1 hD.out.2 (labs_none hl1) (.inr hzA)
            have hrH := Lib.hid hr
            clear hr hzA hl1
            by_cases h63 : 63 < m
            · have e3 : 63 < (m : Int) := by omega
              clear hbad h63 hz
              go_wp2
              go_ret2
              exact ⟨_, by rw [hrH.out]; rfl, by rw [labelsL_not hrH.out]; exact World.ownsRow_nil _ _ _ _, hb⟩
            · have e3 : ¬ 63 < (m : Int) := by omega
              have e4 : (s.size : Int) < (k : Int) + 1 + m := by omega
              clear hbad h63 hz
              go_wp2
              go_ret2
              exact ⟨_, by rw [hrH.out]; rfl, by rw [labelsL_not hrH.out]; exact World.ownsRow_nil _ _ _ _, hb⟩
          · have hl1 : lab1 s k = some (k + 1 + m) := by
              unfold lab1; rw [dif_pos hlt, hm, if_neg hz, if_neg (by omega), if_neg (by omega)]
            have hxs := extract_size s (k + 1) (k + 1 + m) (by omega)
            have hD2 : Hid (labs s 0 = (done ++ [(k, s.extract (k + 1) (k + 1 + m))]) ++ labs s (k + 1 + m) ∧ endOf (done ++ [(k, s.extract (k + 1) (k + 1 + m))]) = k + 1 + m) := Lib.hid ⟨by rw [List.append_assoc, List.singleton_append, ← labs_some hl1]; exact hD.out.1, by rw [endOf_snoc]; simp only [hxs]; omega⟩
            have e3 : ¬ 63 < (m : Int) := by omega
            have e4 : ¬ (s.size : Int) < (k : Int) + 1 + m := by omega
            have e5 : (k : Int) + 1 + m ≤ (s.size : Int) := by omega
            have e6 : ((k : Int) + 1).toNat = k + 1 := by omega
            have e7 : ((k : Int) + 1 + m).toNat = k + 1 + m := by omega
            have hm1 : 1 ≤ m := by omega
            have hbs := hb.size
            clear hbad hz hl1 hxs
            go_wp2_with (at_builtin; go_loud (refine wpList_append_own _ rfl _ _ 22 rfl w.heap.size 9 i0 (.string ⟨#[]⟩) 1 16 Try.underlying22 hi hz0 hz1 hz2 rfl (by decide) _ _ _ rfl (hrow.alloc _) ⟨wr.heap.size, 0, none⟩ 1 1 [.string (s.extract (k + 1) (k + 1 + m))] rfl rfl (cell_one_new _ _ _) (by simp [Value.oneCell']) (by unfold maxLen; omega) (by omega) (by simp; omega) ?_); intro v' w1 hown' hgrow _; have hb2 : Below w.heap.size w w1 := (hb.alloc hbs _).grown hgrow (by simp; omega) (fun k hk => (hrow.lt k hk).1); clear hgrow hrow)
            go_roundw
            case rel => exact ⟨k + 1 + m, done ++ [(k, s.extract (k + 1) (k + 1 + m))], by congr 1, by omega, hD2, by simpa using hown', hb2⟩
            case measure => simp [intOf]; omega
      · obtain rfl : k = s.size := by omega
        have hr := not_right_of hD.out.1 hD.out.2 (labs_none (by unfold lab1; rw [dif_neg (by omega)])) (.inl (by omega))
        have hrH := Lib.hid hr
        clear hr
        go_wp2
        go_ret2
        exact ⟨_, by rw [hrH.out]; rfl, by rw [labelsL_not hrH.out]; exact World.ownsRow_nil _ _ _ _, hb⟩
end Go.Proofs.Ytlikkpeaepankaa.Nm
