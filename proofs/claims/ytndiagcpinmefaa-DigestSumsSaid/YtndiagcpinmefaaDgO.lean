/- digest.tell and guidepostref04.padded. -/
import Derived.Test.YtndiagcpinmefaaDgN
namespace Go.Proofs.Ytndiagcpinmefaa.Dg
open Go.RowKit Rt Go.Proofs.YtndiagcpinmefaaW.PrintWords
set_option linter.unusedSimpArgs false
set_option linter.unusedVariables false

def byteAt (x : UInt32) (s : Nat) : UInt8 := UInt8.ofNat (x.toNat / 2 ^ s)
def bytes4 (x : UInt32) : List UInt8 := [byteAt x 24, byteAt x 16, byteAt x 8, byteAt x 0]
/-- Words as bytes. -/
def tellL (l : List UInt32) : List UInt8 := l.flatMap bytes4
theorem byteAt_mod (x : UInt32) (s : Nat) : (u x / ((2 ^ s : Nat) : Int)) % (256 : Int) = ((byteAt x s).toNat : Int) := by
  unfold byteAt u; simp
theorem byteAt_wrap (x : UInt32) (s : Nat) : IntKind.u8.wrap (u x / ((2 ^ s : Nat) : Int)) = ((byteAt x s).toNat : Int) := by
  rw [← byteAt_mod]; simp [IntKind.wrap, IntKind.bits, IntKind.signed]
theorem tellL_length (l : List UInt32) : (tellL l).length = 4 * l.length := by
  induction l with
  | nil => rfl
  | cons c l ih => simp [tellL, bytes4] at ih ⊢; omega

set_option maxRecDepth 100000 in
set_option maxHeartbeats 2000000 in
theorem tell_any (l : List UInt32) (hl : l.length ≤ 1048576) (T : TypeId) (g : Nat) (w : World) (hg : C32 w g T l) :
    Calls Try.prog 24 #[.slice (some ⟨g, 0, none⟩) l.length l.length] w fun e W' => e = .returned (.string (mk (tellL l))) ∧ Below w.heap.size w W' := by
  have hlt := hg.lt
  obtain ⟨n, hn⟩ : ∃ n, l.length = n := ⟨_, rfl⟩
  have hnl := Lib.hid hn
  rw [hn] at hl ⊢
  clear hn
  go_enter Try.func24, Try.ntmps24
  go_wp2
  go_loopw [8, 3] (fun i v wr => ∃ k : Nat, i = .int .i64 k ∧ k ≤ n ∧ wr.ownsRow w.heap.size 5 1 v (tellL (l.take k)).length (cells (tellL (l.take k))) ∧ Below w.heap.size w wr) (fun i _ _ => n - (intOf i).toNat)
  case atStart => exact ⟨0, rfl, Nat.zero_le _, World.ownsRow_nil _ _ _ _, Below.refl _ _⟩
  case round =>
    obtain ⟨k, rfl, hk, hrow, hb⟩ := hrel
    have hbs := hb.size
    by_cases hkn : k < n
    · have hkn' : (k : Int) < n := by omega
      have hT : Hid (tellL (l.take (k + 1)) = tellL (l.take k) ++ bytes4 (l.getD k 0)) := Lib.hid (by
        unfold tellL; rw [List.take_succ_eq_append_getElem (by rw [hnl.out]; exact hkn), List.flatMap_append]
        rw [List.getD_eq_getElem?_getD, List.getElem?_eq_getElem (by rw [hnl.out]; exact hkn)]; simp)
      have hc := (hb.cell (p := ⟨g, k, none⟩) hlt).trans (hg.cell k (by rw [hnl.out]; exact hkn))
      obtain ⟨x, hx⟩ : ∃ x, l.getD k 0 = x := ⟨_, rfl⟩
      rw [hx] at hc hT
      clear hx
      have hle : (tellL (l.take k)).length ≤ 4194304 := by rw [tellL_length, List.length_take]; omega
      unfold bytes4 at hT
      have m24 := byteAt_mod x 24
      have w24 := byteAt_wrap x 24
      obtain ⟨b24, hb24⟩ : ∃ b, byteAt x 24 = b := ⟨_, rfl⟩
      rw [hb24] at m24 w24 hT
      rw [show ((2 ^ 24 : Nat) : Int) = 16777216 by rfl] at m24 w24
      clear hb24
      have m16 := byteAt_mod x 16
      have w16 := byteAt_wrap x 16
      obtain ⟨b16, hb16⟩ : ∃ b, byteAt x 16 = b := ⟨_, rfl⟩
      rw [hb16] at m16 w16 hT
      rw [show ((2 ^ 16 : Nat) : Int) = 65536 by rfl] at m16 w16
      clear hb16
      have m8 := byteAt_mod x 8
      have w8 := byteAt_wrap x 8
      obtain ⟨b8, hb8⟩ : ∃ b, byteAt x 8 = b := ⟨_, rfl⟩
      rw [hb8] at m8 w8 hT
      rw [show ((2 ^ 8 : Nat) : Int) = 256 by rfl] at m8 w8
      clear hb8
      have m0 := byteAt_mod x 0
      have w0 := byteAt_wrap x 0
      obtain ⟨b0, hb0⟩ : ∃ b, byteAt x 0 = b := ⟨_, rfl⟩
      rw [hb0] at m0 w0 hT
      rw [show ((2 ^ 0 : Nat) : Int) = 1 by rfl, Int.ediv_one] at m0 w0
      clear hb0
      go_upto_region 5 with (fail)
      refine Rt.wp_region_seq [0, 0, 0, 0, 0, 0, 0, 0, 0, 0, 0, 0, 2, 2, 0] ?_
      apply txt_move rfl rfl; (· (simp only [Act.put, Act.eval, List.setIfInBounds_toArray, List.set_cons_zero, List.set_cons_succ, Array.getD_eq_getD_getElem?, List.getElem?_toArray, List.getElem?_cons_zero, List.getElem?_cons_succ, Option.getD_some]; with_reducible rfl))
      apply txt_move rfl rfl; (· (simp only [Act.put, Act.eval, List.setIfInBounds_toArray, List.set_cons_zero, List.set_cons_succ, Array.getD_eq_getD_getElem?, List.getElem?_toArray, List.getElem?_cons_zero, List.getElem?_cons_succ, Option.getD_some]; with_reducible rfl))
      apply txt_pure rfl rfl rfl; (· (intro w; go_simp; (try go_bits); with_reducible rfl)); (· (simp only [Act.put, Act.eval, List.setIfInBounds_toArray, List.set_cons_zero, List.set_cons_succ, Array.getD_eq_getD_getElem?, List.getElem?_toArray, List.getElem?_cons_zero, List.getElem?_cons_succ, Option.getD_some]; with_reducible rfl))
      apply txt_pure rfl rfl rfl; (· (intro w; go_simp; (try go_bits); with_reducible rfl)); (· (simp only [Act.put, Act.eval, List.setIfInBounds_toArray, List.set_cons_zero, List.set_cons_succ, Array.getD_eq_getD_getElem?, List.getElem?_toArray, List.getElem?_cons_zero, List.getElem?_cons_succ, Option.getD_some]; with_reducible rfl))
      apply txt_move rfl rfl; (· (simp only [Act.put, Act.eval, List.setIfInBounds_toArray, List.set_cons_zero, List.set_cons_succ, Array.getD_eq_getD_getElem?, List.getElem?_toArray, List.getElem?_cons_zero, List.getElem?_cons_succ, Option.getD_some]; with_reducible rfl))
      apply txt_pure rfl rfl rfl; (· (intro w; go_simp; (try go_bits); with_reducible rfl)); (· (simp only [Act.put, Act.eval, List.setIfInBounds_toArray, List.set_cons_zero, List.set_cons_succ, Array.getD_eq_getD_getElem?, List.getElem?_toArray, List.getElem?_cons_zero, List.getElem?_cons_succ, Option.getD_some]; with_reducible rfl))
      apply txt_pure rfl rfl rfl; (· (intro w; go_simp; (try go_bits); with_reducible rfl)); (· (simp only [Act.put, Act.eval, List.setIfInBounds_toArray, List.set_cons_zero, List.set_cons_succ, Array.getD_eq_getD_getElem?, List.getElem?_toArray, List.getElem?_cons_zero, List.getElem?_cons_succ, Option.getD_some]; with_reducible rfl))
      apply txt_move rfl rfl; (· (simp only [Act.put, Act.eval, List.setIfInBounds_toArray, List.set_cons_zero, List.set_cons_succ, Array.getD_eq_getD_getElem?, List.getElem?_toArray, List.getElem?_cons_zero, List.getElem?_cons_succ, Option.getD_some]; with_reducible rfl))
      apply txt_pure rfl rfl rfl; (· (intro w; go_simp; (try go_bits); with_reducible rfl)); (· (simp only [Act.put, Act.eval, List.setIfInBounds_toArray, List.set_cons_zero, List.set_cons_succ, Array.getD_eq_getD_getElem?, List.getElem?_toArray, List.getElem?_cons_zero, List.getElem?_cons_succ, Option.getD_some]; with_reducible rfl))
      apply txt_pure rfl rfl rfl; (· (intro w; go_simp; (try go_bits); with_reducible rfl)); (· (simp only [Act.put, Act.eval, List.setIfInBounds_toArray, List.set_cons_zero, List.set_cons_succ, Array.getD_eq_getD_getElem?, List.getElem?_toArray, List.getElem?_cons_zero, List.getElem?_cons_succ, Option.getD_some]; with_reducible rfl))
      apply txt_move rfl rfl; (· (simp only [Act.put, Act.eval, List.setIfInBounds_toArray, List.set_cons_zero, List.set_cons_succ, Array.getD_eq_getD_getElem?, List.getElem?_toArray, List.getElem?_cons_zero, List.getElem?_cons_succ, Option.getD_some]; with_reducible rfl))
      apply txt_pure rfl rfl rfl; (· (intro w; go_simp; (try go_bits); with_reducible rfl)); (· (simp only [Act.put, Act.eval, List.setIfInBounds_toArray, List.set_cons_zero, List.set_cons_succ, Array.getD_eq_getD_getElem?, List.getElem?_toArray, List.getElem?_cons_zero, List.getElem?_cons_succ, Option.getD_some]; with_reducible rfl))
      apply txt_value rfl rfl rfl; (· (go_simp; exact ⟨rfl, rfl⟩)); (· (simp only [Act.put, Act.eval, List.setIfInBounds_toArray, List.set_cons_zero, List.set_cons_succ, Array.getD_eq_getD_getElem?, List.getElem?_toArray, List.getElem?_cons_zero, List.getElem?_cons_succ, Option.getD_some]; with_reducible rfl))
      have hn : (wr.alloc (.cells #[.int .u8 b24.toNat, .int .u8 b16.toNat, .int .u8 b8.toNat, .int .u8 b0.toNat] 5)).heap[wr.heap.size]? = some (.cells #[.int .u8 b24.toNat, .int .u8 b16.toNat, .int .u8 b8.toNat, .int .u8 b0.toNat] 5) := heap_new _ _
      refine txt_append rfl rfl rfl (.tmp 12) (.tmp 24) rfl w.heap.size u3 (tellL (l.take k)) rfl (hrow.alloc _) wr.heap.size 4 4 [b24, b16, b8, b0] rfl rfl _ _ hn rfl (by simp; omega) (by simp; omega) ?_
      intro v' w' hown hgr
      have hb3 : Below w.heap.size w w' := (hb.alloc hbs _).grown hgr (by simp; omega) (fun q hq => (hrow.lt q hq).1)
      simp only [Act.put, Act.eval, List.setIfInBounds_toArray, List.set_cons_zero, List.set_cons_succ, Array.getD_eq_getD_getElem?, List.getElem?_toArray, List.getElem?_cons_zero, List.getElem?_cons_succ, Option.getD_some]
      apply txt_assign rfl rfl; (· (simp only [Act.put, Act.eval, List.setIfInBounds_toArray, List.set_cons_zero, List.set_cons_succ, Array.getD_eq_getD_getElem?, List.getElem?_toArray, List.getElem?_cons_zero, List.getElem?_cons_succ, Option.getD_some]; with_reducible rfl))
      with_reducible refine txt_nil ?_
      go_wp2
      go_roundw
      case rel => exact ⟨k + 1, by go_num, by omega, by (rw [hT.out]; exact hown), hb3⟩
      case measure => simp [intOf]; omega
    · obtain rfl : k = n := by omega
      rw [show l.take k = l by rw [← hnl.out, List.take_length]] at hrow
      have hcv := conv_own hrow Try.underlying31 Try.underlying5 Try.underlying9
      clear hrow
      go_wp2
      go_ret
      exact ⟨rfl, hb⟩
end Go.Proofs.Ytndiagcpinmefaa.Dg
