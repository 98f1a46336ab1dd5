/- digest.Hex. -/
import Derived.Test.YtndiagcpinmefaaDgA
namespace Go.Proofs.Ytndiagcpinmefaa.Dg
open Go.RowKit Rt Go.Proofs.YtndiagcpinmefaaW.PrintWords
set_option linter.unusedSimpArgs false

/-- A digit's letter. -/
def hexD (n : Nat) : UInt8 := if n < 10 then UInt8.ofNat (48 + n) else UInt8.ofNat (87 + n)
def hexB (c : UInt8) : List UInt8 := [hexD (c.toNat / 16), hexD (c.toNat % 16)]
def hexL (L : List UInt8) : List UInt8 := L.flatMap hexB
theorem hexL_length (L : List UInt8) : (hexL L).length = 2 * L.length := by
  induction L with
  | nil => rfl
  | cons c L ih => simp [hexL, hexB] at ih ⊢; omega

theorem hexAt : ∀ q : Fin 16, (⟨#[48, 49, 50, 51, 52, 53, 54, 55, 56, 57, 97, 98, 99, 100, 101, 102]⟩ : ByteArray)[q.val]'(q.isLt) = hexD q.val := by decide +kernel
theorem and15_fin : ∀ c : Fin 256, Go.bits .and .u8 (c.val : Int) 15 = ((c.val % 16 : Nat) : Int) := by decide +kernel

set_option maxRecDepth 100000 in
set_option maxHeartbeats 2000000 in
theorem Hex_any (s : ByteArray) (hs : s.size ≤ 4194304) (w : World) :
    Calls Try.prog 17 #[.string s] w fun e W' => e = .returned (.string (mk (hexL s.data.toList))) ∧ Below w.heap.size w W' := by
  obtain ⟨i0, hi, hz0, hz1, hz2⟩ := info_parts info5
  obtain ⟨L, hL⟩ : ∃ L, s.data.toList = L := ⟨_, rfl⟩
  have hlen : L.length = s.size := by rw [← hL]; rfl
  obtain ⟨sp, hsp⟩ := bytes9_new w s
  have hbw := bytesWorld_below w 5 s
  rw [hL] at hsp ⊢
  go_enter Try.func17, Try.ntmps17
  go_wp2
  rw [Lib.run_convert_string_bytes _ 9 31 5 _ Try.underlying9 Try.underlying31 Try.underlying5]
  simp only [Result.andThen]
  rw [Oper.upon_value]
  obtain ⟨cp, hcp⟩ : ∃ cp, grownCap w s.size 0 5 = cp := ⟨_, rfl⟩
  rw [hcp]
  obtain ⟨W0, hW0⟩ : ∃ W0, Lib.bytesWorld w 5 s = W0 := ⟨_, rfl⟩
  rw [hW0] at hsp hbw ⊢
  have hg := hsp.lt
  have hCe : Hid (∀ wr, Below W0.heap.size W0 wr → ∀ k (h : k < L.length), wr.cell? ⟨w.heap.size, k, none⟩ = some (.int .u8 (L[k].toNat : Int))) := Lib.hid (fun wr hb k h => by
    rw [hb.cell (p := ⟨w.heap.size, k, none⟩) hg, hsp.cell k h]; simp [List.getD_eq_getElem?_getD, h])
  have hbH := Lib.hid hbw
  clear hW0 hcp hsp hbw hL
  go_wp2
  go_loopw [3, 9] (fun v i wr => ∃ k : Nat, i = .int .i64 k ∧ k ≤ s.size ∧ wr.ownsRow W0.heap.size 5 1 v (hexL (L.take k)).length (cells (hexL (L.take k))) ∧ Below W0.heap.size W0 wr) (fun _ i _ => s.size - (intOf i).toNat)
  case atStart => exact ⟨0, rfl, Nat.zero_le _, World.ownsRow_nil _ _ _ _, Below.refl _ _⟩
  case round =>
    obtain ⟨k, rfl, hk, hrow, hb⟩ := hrel
    by_cases hlt : k < s.size
    · have hlt' : (k : Int) < s.size := by omega
      have hc := hCe.out wr hb k (by omega)
      have hT : Hid (hexL (L.take (k + 1)) = hexL (L.take k) ++ hexB L[k]) := Lib.hid (by unfold hexL; rw [List.take_succ_eq_append_getElem (by omega), List.flatMap_append]; simp)
      obtain ⟨c, hcc⟩ : ∃ c, L[k] = c := ⟨_, rfl⟩
      rw [hcc] at hc hT
      have hcl := UInt8.toNat_lt c
      clear hcc
      obtain ⟨a, ha⟩ : ∃ a, c.toNat / 16 = a := ⟨_, rfl⟩
      obtain ⟨b, hb16⟩ : ∃ b, c.toNat % 16 = b := ⟨_, rfl⟩
      have hA : (c.toNat : Int) / 16 = (a : Int) := by omega
      have hB : (c.toNat : Int) % 16 = (b : Int) := by omega
      have ha2 : (a : Int) < 16 := by omega
      have hb2 : (b : Int) < 16 := by omega
      have hbits : Go.bits .and .u8 (c.toNat : Int) 15 = (b : Int) := by rw [and15_fin ⟨c.toNat, hcl⟩, hb16]
      have hT2 : Hid (hexL (L.take (k + 1)) = hexL (L.take k) ++ [hexD a, hexD b]) := Lib.hid (by rw [hT.out, ← ha, ← hb16]; rfl)
      clear ha hb16 hcl hT
      go_wp2
      refine Rt.wp_region_text [0, 0, 0, 0, 0, 0, 0, 2, 2, 0] (by kernel_rfl) (by kernel_rfl) ?_
      repeat (first | (apply txt_move rfl rfl; (· (simp only [Act.put, Act.eval, List.setIfInBounds_toArray, List.set_cons_zero, List.set_cons_succ, Array.getD_eq_getD_getElem?, List.getElem?_toArray, List.getElem?_cons_zero, List.getElem?_cons_succ, Option.getD_some]; with_reducible rfl))) | (apply txt_assign rfl rfl; (· (simp only [Act.put, Act.eval, List.setIfInBounds_toArray, List.set_cons_zero, List.set_cons_succ, Array.getD_eq_getD_getElem?, List.getElem?_toArray, List.getElem?_cons_zero, List.getElem?_cons_succ, Option.getD_some]; with_reducible rfl))) | (apply txt_skip rfl rfl; (· (simp only [Act.put, Act.eval, List.setIfInBounds_toArray, List.set_cons_zero, List.set_cons_succ, Array.getD_eq_getD_getElem?, List.getElem?_toArray, List.getElem?_cons_zero, List.getElem?_cons_succ, Option.getD_some]; with_reducible rfl))) | (apply txt_pure rfl rfl rfl; (· (intro w; go_simp; (try go_bits); with_reducible rfl)); (· (simp only [Act.put, Act.eval, List.setIfInBounds_toArray, List.set_cons_zero, List.set_cons_succ, Array.getD_eq_getD_getElem?, List.getElem?_toArray, List.getElem?_cons_zero, List.getElem?_cons_succ, Option.getD_some]; with_reducible rfl))) | (apply txt_read rfl rfl rfl; (· (go_simp; with_reducible rfl)); (· (simp only [Act.put, Act.eval, List.setIfInBounds_toArray, List.set_cons_zero, List.set_cons_succ, Array.getD_eq_getD_getElem?, List.getElem?_toArray, List.getElem?_cons_zero, List.getElem?_cons_succ, Option.getD_some]; with_reducible rfl))) | (apply txt_do rfl rfl rfl; (· (go_simp; with_reducible rfl)); (· (simp only [Act.put, Act.eval, List.setIfInBounds_toArray, List.set_cons_zero, List.set_cons_succ, Array.getD_eq_getD_getElem?, List.getElem?_toArray, List.getElem?_cons_zero, List.getElem?_cons_succ, Option.getD_some]; with_reducible rfl))) | (apply txt_value rfl rfl rfl; (· (go_simp; exact ⟨rfl, rfl⟩)); (· (simp only [Act.put, Act.eval, List.setIfInBounds_toArray, List.set_cons_zero, List.set_cons_succ, Array.getD_eq_getD_getElem?, List.getElem?_toArray, List.getElem?_cons_zero, List.getElem?_cons_succ, Option.getD_some]; with_reducible rfl))))
      have hn : (wr.alloc (.cells #[.int .u8 (hexD a).toNat, .int .u8 (hexD b).toNat] 5)).drew.heap[wr.heap.size]? = some (.cells #[.int .u8 (hexD a).toNat, .int .u8 (hexD b).toNat] 5) := heap_new _ _
      have hxa := fun (q : Nat) (h : q < 16) => hexAt ⟨q, h⟩
      rw [hxa a (by omega), hxa b (by omega)]
      have hbs := hb.size
      have hle : (hexL (L.take k)).length ≤ 8388608 := by rw [hexL_length, List.length_take]; omega
      refine txt_append rfl rfl rfl (.tmp 13) (.tmp 20) rfl W0.heap.size u3 (hexL (L.take k)) rfl ((hrow.alloc _).drew) wr.heap.size 2 2 [hexD a, hexD b] rfl rfl _ _ hn rfl (by simp; omega) (by simp; omega) ?_
      intro v' w' hown hgr
      have hb3 : Below W0.heap.size W0 w' := ((hb.alloc hbs _).drew).grown hgr (by simp; omega) (fun q hq => (hrow.lt q hq).1)
      simp only [Act.put, Act.eval, List.setIfInBounds_toArray, List.set_cons_zero, List.set_cons_succ]
      repeat (first | (apply txt_move rfl rfl; (· (simp only [Act.put, Act.eval, List.setIfInBounds_toArray, List.set_cons_zero, List.set_cons_succ, Array.getD_eq_getD_getElem?, List.getElem?_toArray, List.getElem?_cons_zero, List.getElem?_cons_succ, Option.getD_some]; with_reducible rfl))) | (apply txt_assign rfl rfl; (· (simp only [Act.put, Act.eval, List.setIfInBounds_toArray, List.set_cons_zero, List.set_cons_succ, Array.getD_eq_getD_getElem?, List.getElem?_toArray, List.getElem?_cons_zero, List.getElem?_cons_succ, Option.getD_some]; with_reducible rfl))) | (apply txt_skip rfl rfl; (· (simp only [Act.put, Act.eval, List.setIfInBounds_toArray, List.set_cons_zero, List.set_cons_succ, Array.getD_eq_getD_getElem?, List.getElem?_toArray, List.getElem?_cons_zero, List.getElem?_cons_succ, Option.getD_some]; with_reducible rfl))) | (apply txt_pure rfl rfl rfl; (· (intro w; go_simp; (try go_bits); with_reducible rfl)); (· (simp only [Act.put, Act.eval, List.setIfInBounds_toArray, List.set_cons_zero, List.set_cons_succ, Array.getD_eq_getD_getElem?, List.getElem?_toArray, List.getElem?_cons_zero, List.getElem?_cons_succ, Option.getD_some]; with_reducible rfl))) | (apply txt_read rfl rfl rfl; (· (go_simp; with_reducible rfl)); (· (simp only [Act.put, Act.eval, List.setIfInBounds_toArray, List.set_cons_zero, List.set_cons_succ, Array.getD_eq_getD_getElem?, List.getElem?_toArray, List.getElem?_cons_zero, List.getElem?_cons_succ, Option.getD_some]; with_reducible rfl))) | (apply txt_do rfl rfl rfl; (· (go_simp; with_reducible rfl)); (· (simp only [Act.put, Act.eval, List.setIfInBounds_toArray, List.set_cons_zero, List.set_cons_succ, Array.getD_eq_getD_getElem?, List.getElem?_toArray, List.getElem?_cons_zero, List.getElem?_cons_succ, Option.getD_some]; with_reducible rfl))) | (apply txt_value rfl rfl rfl; (· (go_simp; exact ⟨rfl, rfl⟩)); (· (simp only [Act.put, Act.eval, List.setIfInBounds_toArray, List.set_cons_zero, List.set_cons_succ, Array.getD_eq_getD_getElem?, List.getElem?_toArray, List.getElem?_cons_zero, List.getElem?_cons_succ, Option.getD_some]; with_reducible rfl))))
      with_reducible refine txt_nil ?_
      clear hrow hgr hn
      go_wp2
      go_roundw
      case rel => exact ⟨k + 1, by go_num, by omega, by (rw [hT2.out]; exact hown), hb3⟩
      case measure => simp [intOf]; omega
    · obtain rfl : k = s.size := by omega
      rw [show L.take s.size = L by rw [← hlen, List.take_length]] at hrow
      have hcv := conv_own hrow Try.underlying31 Try.underlying5 Try.underlying9
      have hbe := hbH.out.trans (hb.mono hbH.out.size)
      clear hrow
      go_wp2
      go_ret
      exact ⟨rfl, hbe⟩
end Go.Proofs.Ytndiagcpinmefaa.Dg
