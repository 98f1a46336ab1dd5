/- guidepostref04.Hex. -/
import Derived.Test.YtndiagcpinmefaaDgB
namespace Go.Proofs.Ytndiagcpinmefaa.Dg
open Go.RowKit Rt Go.Proofs.YtndiagcpinmefaaW.PrintWords
set_option linter.unusedSimpArgs false

set_option maxRecDepth 100000 in
set_option maxHeartbeats 2000000 in
theorem Hex_ref (s : ByteArray) (hs : s.size ≤ 4194304) (w : World) :
    Calls Try.prog 18 #[.string s] w fun e W' => e = .returned (.string (mk (hexL s.data.toList))) ∧ Below w.heap.size w W' := by
  obtain ⟨i0, hi, hz0, hz1, hz2⟩ := info_parts info5
  obtain ⟨L, hL⟩ : ∃ L, s.data.toList = L := ⟨_, rfl⟩
  have hlen : L.length = s.size := by rw [← hL]; rfl
  have hat : Hid (∀ k (h : k < s.size) (h2 : k < L.length), s[k] = L[k]) := Lib.hid (fun k h h2 => by subst hL; rfl)
  rw [hL]
  clear hL
  go_enter Try.func18, Try.ntmps18
  go_wp2
  go_loopw [3, 4] (fun v i wr => ∃ k : Nat, i = .int .i64 k ∧ k ≤ s.size ∧ wr.ownsRow w.heap.size 5 1 v (hexL (L.take k)).length (cells (hexL (L.take k))) ∧ Below w.heap.size w wr) (fun _ i _ => s.size - (intOf i).toNat)
  case atStart => exact ⟨0, rfl, Nat.zero_le _, World.ownsRow_nil _ _ _ _, Below.refl _ _⟩
  case round =>
    obtain ⟨k, rfl, hk, hrow, hb⟩ := hrel
    by_cases hlt : k < s.size
    · have hlt' : (k : Int) < s.size := by omega
      have hT : Hid (hexL (L.take (k + 1)) = hexL (L.take k) ++ hexB (L[k]'(by omega))) := Lib.hid (by unfold hexL; rw [List.take_succ_eq_append_getElem (by omega), List.flatMap_append]; simp)
      have hsk := hat.out k hlt (by omega)
      obtain ⟨c, hcc⟩ : ∃ c, L[k]'(by omega) = c := ⟨_, rfl⟩
      rw [hcc] at hT hsk
      have hcl := UInt8.toNat_lt c
      clear hcc
      obtain ⟨a, ha⟩ : ∃ a, c.toNat / 16 = a := ⟨_, rfl⟩
      obtain ⟨b, hb16⟩ : ∃ b, c.toNat % 16 = b := ⟨_, rfl⟩
      have hA : Int.tdiv (c.toNat : Int) 16 = (a : Int) := by rw [Int.tdiv_eq_ediv_of_nonneg (by omega)]; omega
      have hB : Int.tmod (c.toNat : Int) 16 = (b : Int) := by rw [Int.tmod_eq_emod_of_nonneg (by omega)]; omega
      have ha2 : (a : Int) < 16 := by omega
      have hb2 : (b : Int) < 16 := by omega
      have hwa : IntKind.u8.wrap (a : Int) = (a : Int) := by simp [IntKind.wrap, IntKind.bits, IntKind.signed]; omega
      have hT2 : Hid (hexL (L.take (k + 1)) = hexL (L.take k) ++ [hexD a, hexD b]) := Lib.hid (by rw [hT.out, ← ha, ← hb16]; rfl)
      clear ha hb16 hcl hT
      go_wp2
      refine Rt.wp_region_text [0, 0, 0, 0, 0, 0, 0, 0, 0, 0, 0, 2, 2, 0] (by kernel_rfl) (by kernel_rfl) ?_
      repeat (first | (apply txt_move rfl rfl; (· (simp only [Act.put, Act.eval, List.setIfInBounds_toArray, List.set_cons_zero, List.set_cons_succ, Array.getD_eq_getD_getElem?, List.getElem?_toArray, List.getElem?_cons_zero, List.getElem?_cons_succ, Option.getD_some]; with_reducible rfl))) | (apply txt_assign rfl rfl; (· (simp only [Act.put, Act.eval, List.setIfInBounds_toArray, List.set_cons_zero, List.set_cons_succ, Array.getD_eq_getD_getElem?, List.getElem?_toArray, List.getElem?_cons_zero, List.getElem?_cons_succ, Option.getD_some]; with_reducible rfl))) | (apply txt_skip rfl rfl; (· (simp only [Act.put, Act.eval, List.setIfInBounds_toArray, List.set_cons_zero, List.set_cons_succ, Array.getD_eq_getD_getElem?, List.getElem?_toArray, List.getElem?_cons_zero, List.getElem?_cons_succ, Option.getD_some]; with_reducible rfl))) | (apply txt_pure rfl rfl rfl; (· (intro w; go_simp; (try go_bits); with_reducible rfl)); (· (simp only [Act.put, Act.eval, List.setIfInBounds_toArray, List.set_cons_zero, List.set_cons_succ, Array.getD_eq_getD_getElem?, List.getElem?_toArray, List.getElem?_cons_zero, List.getElem?_cons_succ, Option.getD_some]; with_reducible rfl))) | (apply txt_read rfl rfl rfl; (· (go_simp; with_reducible rfl)); (· (simp only [Act.put, Act.eval, List.setIfInBounds_toArray, List.set_cons_zero, List.set_cons_succ, Array.getD_eq_getD_getElem?, List.getElem?_toArray, List.getElem?_cons_zero, List.getElem?_cons_succ, Option.getD_some]; with_reducible rfl))) | (apply txt_do rfl rfl rfl; (· (go_simp; with_reducible rfl)); (· (simp only [Act.put, Act.eval, List.setIfInBounds_toArray, List.set_cons_zero, List.set_cons_succ, Array.getD_eq_getD_getElem?, List.getElem?_toArray, List.getElem?_cons_zero, List.getElem?_cons_succ, Option.getD_some]; with_reducible rfl))) | (apply txt_value rfl rfl rfl; (· (go_simp; exact ⟨rfl, rfl⟩)); (· (simp only [Act.put, Act.eval, List.setIfInBounds_toArray, List.set_cons_zero, List.set_cons_succ, Array.getD_eq_getD_getElem?, List.getElem?_toArray, List.getElem?_cons_zero, List.getElem?_cons_succ, Option.getD_some]; with_reducible rfl))))
      have hn : (wr.alloc (.cells #[.int .u8 (hexD a).toNat, .int .u8 (hexD b).toNat] 5)).drew.heap[wr.heap.size]? = some (.cells #[.int .u8 (hexD a).toNat, .int .u8 (hexD b).toNat] 5) := heap_new _ _
      have hxa := fun (q : Nat) (h : q < 16) => hexAt ⟨q, h⟩
      rw [hxa a (by omega), hxa b (by omega)]
      have hbs := hb.size
      have hle : (hexL (L.take k)).length ≤ 8388608 := by rw [hexL_length, List.length_take]; omega
      refine txt_append rfl rfl rfl (.tmp 11) (.tmp 22) rfl w.heap.size u3 (hexL (L.take k)) rfl ((hrow.alloc _).drew) wr.heap.size 2 2 [hexD a, hexD b] rfl rfl _ _ hn rfl (by simp; omega) (by simp; omega) ?_
      intro v' w' hown hgr
      have hb3 : Below w.heap.size w w' := ((hb.alloc hbs _).drew).grown hgr (by simp; omega) (fun q hq => (hrow.lt q hq).1)
      simp only [Act.put, Act.eval, List.setIfInBounds_toArray, List.set_cons_zero, List.set_cons_succ]
      repeat (first | (apply txt_move rfl rfl; (· (simp only [Act.put, Act.eval, List.setIfInBounds_toArray, List.set_cons_zero, List.set_cons_succ, Array.getD_eq_getD_getElem?, List.getElem?_toArray, List.getElem?_cons_zero, List.getElem?_cons_succ, Option.getD_some]; with_reducible rfl))) | (apply txt_assign rfl rfl; (· (simp only [Act.put, Act.eval, List.setIfInBounds_toArray, List.set_cons_zero, List.set_cons_succ, Array.getD_eq_getD_getElem?, List.getElem?_toArray, List.getElem?_cons_zero, List.getElem?_cons_succ, Option.getD_some]; with_reducible rfl))) | (apply txt_skip rfl rfl; (· (simp only [Act.put, Act.eval, List.setIfInBounds_toArray, List.set_cons_zero, List.set_cons_succ, Array.getD_eq_getD_getElem?, List.getElem?_toArray, List.getElem?_cons_zero, List.getElem?_cons_succ, Option.getD_some]; with_reducible rfl))) | (apply txt_pure rfl rfl rfl; (· (intro w; go_simp; (try go_bits); with_reducible rfl)); (· (simp only [Act.put, Act.eval, List.setIfInBounds_toArray, List.set_cons_zero, List.set_cons_succ, Array.getD_eq_getD_getElem?, List.getElem?_toArray, List.getElem?_cons_zero, List.getElem?_cons_succ, Option.getD_some]; with_reducible rfl))) | (apply txt_read rfl rfl rfl; (· (go_simp; with_reducible rfl)); (· (simp only [Act.put, Act.eval, List.setIfInBounds_toArray, List.set_cons_zero, List.set_cons_succ, Array.getD_eq_getD_getElem?, List.getElem?_toArray, List.getElem?_cons_zero, List.getElem?_cons_succ, Option.getD_some]; with_reducible rfl))) | (apply txt_do rfl rfl rfl; (· (go_simp; with_reducible rfl)); (· (simp only [Act.put, Act.eval, List.setIfInBounds_toArray, List.set_cons_zero, List.set_cons_succ, Array.getD_eq_getD_getElem?, List.getElem?_toArray, List.getElem?_cons_zero, List.getElem?_cons_succ, Option.getD_some]; with_reducible rfl))) | (apply txt_value rfl rfl rfl; (· (go_simp; exact ⟨rfl, rfl⟩)); (· (simp only [Act.put, Act.eval, List.setIfInBounds_toArray, List.set_cons_zero, List.set_cons_succ, Array.getD_eq_getD_getElem?, List.getElem?_toArray, List.getElem?_cons_zero, List.getElem?_cons_succ, Option.getD_some]; with_reducible rfl))))
      with_reducible refine txt_nil ?_
      clear hrow hgr hn
      go_wp2
      go_roundw
      case rel => exact ⟨k + 1, by go_num, by omega, by (rw [hT2.out]; exact hown), hb3⟩
      case measure => simp [intOf]; omega
    · obtain rfl : k = s.size := by omega
      rw [show L.take s.size = L by rw [← hlen, List.take_length]] at hrow
      have hcv := conv_own hrow Try.underlying31 Try.underlying5 Try.underlying9
      clear hrow
      go_wp2
      go_ret
      exact ⟨rfl, hb⟩
end Go.Proofs.Ytndiagcpinmefaa.Dg
