/- guidepostref04.padded. -/
import Derived.Test.YtndiagcpinmefaaDgO
import Derived.Test.YtndiagcpinmefaaDgQ
namespace Go.Proofs.Ytndiagcpinmefaa.Dg
open Go.RowKit Rt Go.Proofs.YtndiagcpinmefaaW.PrintWords
set_option linter.unusedSimpArgs false
set_option linter.unusedVariables false

def lenV (v : Value) : Nat := match v with | .slice _ n _ => n | _ => 0
theorem lenV_slice (a : Option Addr) (n c : Nat) : lenV (.slice a n c) = n := rfl
theorem BRow.shape {w : World} {base : Nat} {v : Value} {L : List UInt8} (h : BRow w base v L) : ∃ g cap, v = .slice (some ⟨g, 0, none⟩) L.length cap := by
  obtain ⟨g, cap, rfl, _⟩ := h; exact ⟨g, cap, rfl⟩

set_option maxRecDepth 100000 in
set_option maxHeartbeats 4000000 in
theorem padded_any (L : List UInt8) (hsL : L.length ≤ 140737488351232) (w : World) :
    Calls Try.prog 25 #[.string (mk L)] w fun e W' => e = .returned (.string (mk (padL L))) ∧ Below w.heap.size w W' := by
  obtain ⟨s, hs0⟩ : ∃ s, mk L = s := ⟨_, rfl⟩
  have hsz : s.size = L.length := by rw [← hs0]; rfl
  have hs : s.size ≤ 140737488351232 := by omega
  have e1 : IntKind.u64.wrap (8 * (s.size : Int)) = ((8 * s.size : Nat) : Int) := by simp [IntKind.wrap, IntKind.bits, IntKind.signed]; omega
  obtain ⟨n, hn⟩ : ∃ n, 8 * s.size = n := ⟨_, rfl⟩
  rw [hn] at e1
  obtain ⟨c, hc⟩ : ∃ c, (119 - s.size % 64) % 64 = c := ⟨_, rfl⟩
  have hc64 : c < 64 := by omega
  have hnb : n < 2 ^ 51 := by omega
  have hcm : (L.length + 1 + c) % 64 = 56 := by omega
  have hcn : ∀ j, j < c → (L.length + 1 + j) % 64 ≠ 56 := by intro j hj; omega
  have hP : Hid (padL L = (L ++ 128 :: List.replicate c 0) ++ [lenB n 56, lenB n 48, lenB n 40, lenB n 32, lenB n 24, lenB n 16, lenB n 8, lenB n 0]) := Lib.hid (by unfold padL tailL; rw [← hsz, hc, hn]; simp)
  have hrow0 : BRow (Lib.bytesWorld w 5 s) w.heap.size (.slice (some ⟨w.heap.size, 0, none⟩) s.size (grownCap w s.size 0 5)) L := by
    have := bytes_row w s (by unfold maxLen; omega)
    rw [show s.data.toList = L by rw [← hs0]; rfl] at this; exact this
  have hb0 := bytesWorld_below w 5 s
  rw [hs0]
  have hszH := Lib.hid hsz
  have hcnH := Lib.hid hcn
  have hcmH := Lib.hid hcm
  clear hs0 hsz hn hc hcn hcm
  go_enter Try.func25, Try.ntmps25
  go_wp2
  rw [Lib.run_convert_string_bytes _ 9 31 5 _ Try.underlying9 Try.underlying31 Try.underlying5]
  simp only [Result.andThen]
  rw [Oper.upon_value]
  obtain ⟨cp, hcp⟩ : ∃ cp, grownCap w s.size 0 5 = cp := ⟨_, rfl⟩
  rw [hcp] at hrow0 ⊢
  obtain ⟨W0, hW0⟩ : ∃ W0, Lib.bytesWorld w 5 s = W0 := ⟨_, rfl⟩
  rw [hW0] at hrow0 hb0 ⊢
  clear hW0 hcp e1
  have hbs0 := hb0.size
  go_upto_region 3 with (fail)
  refine Rt.wp_region_seq [0, 2, 2, 0] ?_
  apply txt_move rfl rfl; (· (simp only [Act.put, Act.eval, List.setIfInBounds_toArray, List.set_cons_zero, List.set_cons_succ, Array.getD_eq_getD_getElem?, List.getElem?_toArray, List.getElem?_cons_zero, List.getElem?_cons_succ, Option.getD_some]; with_reducible rfl))
  apply txt_value rfl rfl rfl; (· (go_simp; exact ⟨rfl, rfl⟩)); (· (simp only [Act.put, Act.eval, List.setIfInBounds_toArray, List.set_cons_zero, List.set_cons_succ, Array.getD_eq_getD_getElem?, List.getElem?_toArray, List.getElem?_cons_zero, List.getElem?_cons_succ, Option.getD_some]; with_reducible rfl))
  have hn : (W0.alloc (.cells #[.int .u8 128] 5)).heap[W0.heap.size]? = some (.cells #[.int .u8 128] 5) := heap_new _ _
  refine txt_append_brow rfl rfl rfl (.tmp 12) (.tmp 13) rfl w.heap.size _ (L) rfl (hrow0.alloc _) (by simp; omega) W0.heap.size 1 1 [128] rfl rfl _ _ hn rfl (by simp; omega) ?_
  intro v' w' hown hbl
  simp only [Act.put, Act.eval, List.setIfInBounds_toArray, List.set_cons_zero, List.set_cons_succ, Array.getD_eq_getD_getElem?, List.getElem?_toArray, List.getElem?_cons_zero, List.getElem?_cons_succ, Option.getD_some]
  apply txt_assign rfl rfl; (· (simp only [Act.put, Act.eval, List.setIfInBounds_toArray, List.set_cons_zero, List.set_cons_succ, Array.getD_eq_getD_getElem?, List.getElem?_toArray, List.getElem?_cons_zero, List.getElem?_cons_succ, Option.getD_some]; with_reducible rfl))
  with_reducible refine txt_nil ?_
  have hb1 : Below w.heap.size w w' := hb0.trans (((Below.refl _ _).alloc (by omega) _).trans hbl)
  clear hbl hn hrow0 hb0 hbs0
  go_wp2_with fail
  go_loopw [4] (fun v wr => ∃ j : Nat, j ≤ c ∧ BRow wr w.heap.size v (L ++ 128 :: List.replicate j 0) ∧ Below w.heap.size w wr) (fun v _ => L.length + 1 + c - lenV v)
  case atStart => exact ⟨0, Nat.zero_le _, hown, hb1⟩
  case round =>
    obtain ⟨j, hj, hrow, hb⟩ := hrel
    have hbs := hb.size
    obtain ⟨g, cap, rfl⟩ := hrow.shape
    have hrl : (L ++ (128 : UInt8) :: List.replicate j 0).length = L.length + 1 + j := by simp; omega
    obtain ⟨l, hl⟩ : ∃ l, (L ++ (128 : UInt8) :: List.replicate j 0).length = l := ⟨_, rfl⟩
    rw [hl] at hrow hrl ⊢
    by_cases hjc : j < c
    · have hne : ((l : Int) % 64 == 56) = false := by
        have := hcnH.out j hjc
        rw [beq_eq_false_iff_ne]; omega
      have hne2 : ((l : Int) % 64 != 56) = true := by simp [bne, hne]
      have hrlH := Lib.hid hrl
      have hlH := Lib.hid hl
      clear hrl hl
      go_upto_region 5 with (fail)
      refine Rt.wp_region_seq [0, 2, 2, 0] ?_
      apply txt_move rfl rfl; (· (simp only [Act.put, Act.eval, List.setIfInBounds_toArray, List.set_cons_zero, List.set_cons_succ, Array.getD_eq_getD_getElem?, List.getElem?_toArray, List.getElem?_cons_zero, List.getElem?_cons_succ, Option.getD_some]; with_reducible rfl))
      apply txt_value rfl rfl rfl; (· (go_simp; exact ⟨rfl, rfl⟩)); (· (simp only [Act.put, Act.eval, List.setIfInBounds_toArray, List.set_cons_zero, List.set_cons_succ, Array.getD_eq_getD_getElem?, List.getElem?_toArray, List.getElem?_cons_zero, List.getElem?_cons_succ, Option.getD_some]; with_reducible rfl))
      have hn : (wr.alloc (.cells #[.int .u8 0] 5)).heap[wr.heap.size]? = some (.cells #[.int .u8 0] 5) := heap_new _ _
      refine txt_append_brow rfl rfl rfl (.tmp 19) (.tmp 20) rfl w.heap.size _ (L ++ 128 :: List.replicate j 0) rfl (hrow.alloc _) (by simp; omega) wr.heap.size 1 1 [0] rfl rfl _ _ hn rfl (by simp; omega) ?_
      intro v' w' hown hbl
      simp only [Act.put, Act.eval, List.setIfInBounds_toArray, List.set_cons_zero, List.set_cons_succ, Array.getD_eq_getD_getElem?, List.getElem?_toArray, List.getElem?_cons_zero, List.getElem?_cons_succ, Option.getD_some]
      apply txt_assign rfl rfl; (· (simp only [Act.put, Act.eval, List.setIfInBounds_toArray, List.set_cons_zero, List.set_cons_succ, Array.getD_eq_getD_getElem?, List.getElem?_toArray, List.getElem?_cons_zero, List.getElem?_cons_succ, Option.getD_some]; with_reducible rfl))
      with_reducible refine txt_nil ?_
      have hb1 : Below w.heap.size w w' := hb.trans (((Below.refl _ _).alloc (by omega) _).trans hbl)
      obtain ⟨g2, cap2, rfl⟩ := hown.shape
      have hl2 : (L ++ (128 : UInt8) :: List.replicate j 0 ++ [0]).length = l + 1 := by rw [List.length_append, hlH.out]; rfl
      clear hbl hn hrow hne hne2
      go_wp2
      go_roundw
      case rel => exact ⟨j + 1, by omega, by rw [show L ++ 128 :: List.replicate (j + 1) 0 = L ++ 128 :: List.replicate j 0 ++ [0] by simp [List.replicate_succ']]; exact hown, hb1⟩
      case measure => rw [lenV_slice, lenV_slice, hl2, hrlH.out]; omega
    · obtain rfl : j = c := by omega
      have hne : ((l : Int) % 64 == 56) = true := by
        have := hcmH.out
        rw [beq_iff_eq]; omega
      have hne2 : ((l : Int) % 64 != 56) = false := by simp [bne, hne]
      obtain ⟨P0, hP0⟩ : ∃ P0, L ++ (128 : UInt8) :: List.replicate j 0 = P0 := ⟨_, rfl⟩
      rw [hP0] at hrow hl hP
      have hlP : P0.length < 140737488351232 + 100 := by omega
      clear hrl hP0 hj hjc hcnH hcmH
      have hlH := Lib.hid hl
      clear hl
      go_wp2_with fail
      go_loopw [4, 5] (fun v i wr => ∃ (j : Nat) (k : Int), i = .int .i64 k ∧ k = 7 - (j : Int) ∧ j ≤ 8 ∧ BRow wr w.heap.size v (P0 ++ ([lenB n 56, lenB n 48, lenB n 40, lenB n 32, lenB n 24, lenB n 16, lenB n 8, lenB n 0]).take j) ∧ Below w.heap.size w wr) (fun _ i _ => (intOf i + 1).toNat)
      case atStart => exact ⟨0, 7, rfl, by omega, by omega, by simpa using hrow, hb⟩
      case round =>
        clear hrow hb hbs hne hne2
        obtain ⟨j, sh, rfl, hsh, hj, hrow, hb⟩ := hrel
        have hbs := hb.size
        by_cases hj8 : j < 8
        · rcases (show j = 0 ∨ j = 1 ∨ j = 2 ∨ j = 3 ∨ j = 4 ∨ j = 5 ∨ j = 6 ∨ j = 7 by omega) with rfl | rfl | rfl | rfl | rfl | rfl | rfl | rfl
          · obtain rfl : sh = 7 := by omega
            clear hsh hj hj8
            obtain ⟨b, hb8⟩ : ∃ b, lenB n 56 = b := ⟨_, rfl⟩
            have hbv : ((n : Int) / (72057594037927936 : Int)) % (256 : Int) = (b.toNat : Int) := by rw [← hb8]; unfold lenB; simp
            have hbw : IntKind.u8.wrap ((n : Int) / (72057594037927936 : Int)) = (b.toNat : Int) := by rw [← hbv]; simp [IntKind.wrap, IntKind.bits, IntKind.signed]
            obtain ⟨T, hT0⟩ : ∃ T, P0 ++ ([lenB n 56, lenB n 48, lenB n 40, lenB n 32, lenB n 24, lenB n 16, lenB n 8, lenB n 0]).take 0 = T := ⟨_, rfl⟩
            have hT1 : Hid (P0 ++ ([lenB n 56, lenB n 48, lenB n 40, lenB n 32, lenB n 24, lenB n 16, lenB n 8, lenB n 0]).take (0 + 1) = T ++ [b]) := Lib.hid (by rw [← hT0, ← hb8, List.append_assoc]; rfl)
            have hTs : T.length < 140737488351232 + 200 := by rw [← hT0]; simp; omega
            rw [hT0] at hrow
            clear hT0 hb8
            go_upto_region 9 with (fail)
            refine Rt.wp_region_seq [0, 0, 0, 0, 0, 0, 2, 2, 0] ?_
            apply txt_move rfl rfl; (· (simp only [Act.put, Act.eval, List.setIfInBounds_toArray, List.set_cons_zero, List.set_cons_succ, Array.getD_eq_getD_getElem?, List.getElem?_toArray, List.getElem?_cons_zero, List.getElem?_cons_succ, Option.getD_some]; with_reducible rfl))
            apply txt_move rfl rfl; (· (simp only [Act.put, Act.eval, List.setIfInBounds_toArray, List.set_cons_zero, List.set_cons_succ, Array.getD_eq_getD_getElem?, List.getElem?_toArray, List.getElem?_cons_zero, List.getElem?_cons_succ, Option.getD_some]; with_reducible rfl))
            apply txt_move rfl rfl; (· (simp only [Act.put, Act.eval, List.setIfInBounds_toArray, List.set_cons_zero, List.set_cons_succ, Array.getD_eq_getD_getElem?, List.getElem?_toArray, List.getElem?_cons_zero, List.getElem?_cons_succ, Option.getD_some]; with_reducible rfl))
            apply txt_pure rfl rfl rfl; (· (intro w; go_simp; (try go_bits); with_reducible rfl)); (· (simp only [Act.put, Act.eval, List.setIfInBounds_toArray, List.set_cons_zero, List.set_cons_succ, Array.getD_eq_getD_getElem?, List.getElem?_toArray, List.getElem?_cons_zero, List.getElem?_cons_succ, Option.getD_some]; with_reducible rfl))
            apply txt_pure rfl rfl rfl; (· (intro w; go_simp; (try go_bits); with_reducible rfl)); (· (simp only [Act.put, Act.eval, List.setIfInBounds_toArray, List.set_cons_zero, List.set_cons_succ, Array.getD_eq_getD_getElem?, List.getElem?_toArray, List.getElem?_cons_zero, List.getElem?_cons_succ, Option.getD_some]; with_reducible rfl))
            apply txt_pure rfl rfl rfl; (· (intro w; go_simp; (try go_bits); with_reducible rfl)); (· (simp only [Act.put, Act.eval, List.setIfInBounds_toArray, List.set_cons_zero, List.set_cons_succ, Array.getD_eq_getD_getElem?, List.getElem?_toArray, List.getElem?_cons_zero, List.getElem?_cons_succ, Option.getD_some]; with_reducible rfl))
            apply txt_value rfl rfl rfl; (· (go_simp; exact ⟨rfl, rfl⟩)); (· (simp only [Act.put, Act.eval, List.setIfInBounds_toArray, List.set_cons_zero, List.set_cons_succ, Array.getD_eq_getD_getElem?, List.getElem?_toArray, List.getElem?_cons_zero, List.getElem?_cons_succ, Option.getD_some]; with_reducible rfl))
            have hn : (wr.alloc (.cells #[.int .u8 (b.toNat : Int)] 5)).heap[wr.heap.size]? = some (.cells #[.int .u8 (b.toNat : Int)] 5) := heap_new _ _
            refine txt_append_brow rfl rfl rfl (.tmp 26) (.tmp 32) rfl w.heap.size _ (T) rfl (hrow.alloc _) (by simp; omega) wr.heap.size 1 1 [b] rfl rfl _ _ hn rfl (by simp; omega) ?_
            intro v' w' hown hbl
            simp only [Act.put, Act.eval, List.setIfInBounds_toArray, List.set_cons_zero, List.set_cons_succ, Array.getD_eq_getD_getElem?, List.getElem?_toArray, List.getElem?_cons_zero, List.getElem?_cons_succ, Option.getD_some]
            apply txt_assign rfl rfl; (· (simp only [Act.put, Act.eval, List.setIfInBounds_toArray, List.set_cons_zero, List.set_cons_succ, Array.getD_eq_getD_getElem?, List.getElem?_toArray, List.getElem?_cons_zero, List.getElem?_cons_succ, Option.getD_some]; with_reducible rfl))
            with_reducible refine txt_nil ?_
            have hb1 : Below w.heap.size w w' := hb.trans (((Below.refl _ _).alloc (by omega) _).trans hbl)
            clear hbl hn hrow
            go_wp2
            go_roundw
            case rel => exact ⟨1, 6, rfl, by omega, by omega, by rw [hT1.out]; exact hown, hb1⟩
            case measure => simp [intOf]
          · obtain rfl : sh = 6 := by omega
            clear hsh hj hj8
            obtain ⟨b, hb8⟩ : ∃ b, lenB n 48 = b := ⟨_, rfl⟩
            have hbv : ((n : Int) / (281474976710656 : Int)) % (256 : Int) = (b.toNat : Int) := by rw [← hb8]; unfold lenB; simp
            have hbw : IntKind.u8.wrap ((n : Int) / (281474976710656 : Int)) = (b.toNat : Int) := by rw [← hbv]; simp [IntKind.wrap, IntKind.bits, IntKind.signed]
            obtain ⟨T, hT0⟩ : ∃ T, P0 ++ ([lenB n 56, lenB n 48, lenB n 40, lenB n 32, lenB n 24, lenB n 16, lenB n 8, lenB n 0]).take 1 = T := ⟨_, rfl⟩
            have hT1 : Hid (P0 ++ ([lenB n 56, lenB n 48, lenB n 40, lenB n 32, lenB n 24, lenB n 16, lenB n 8, lenB n 0]).take (1 + 1) = T ++ [b]) := Lib.hid (by rw [← hT0, ← hb8, List.append_assoc]; rfl)
            have hTs : T.length < 140737488351232 + 200 := by rw [← hT0]; simp; omega
            rw [hT0] at hrow
            clear hT0 hb8
            go_upto_region 9 with (fail)
            refine Rt.wp_region_seq [0, 0, 0, 0, 0, 0, 2, 2, 0] ?_
            apply txt_move rfl rfl; (· (simp only [Act.put, Act.eval, List.setIfInBounds_toArray, List.set_cons_zero, List.set_cons_succ, Array.getD_eq_getD_getElem?, List.getElem?_toArray, List.getElem?_cons_zero, List.getElem?_cons_succ, Option.getD_some]; with_reducible rfl))
            apply txt_move rfl rfl; (· (simp only [Act.put, Act.eval, List.setIfInBounds_toArray, List.set_cons_zero, List.set_cons_succ, Array.getD_eq_getD_getElem?, List.getElem?_toArray, List.getElem?_cons_zero, List.getElem?_cons_succ, Option.getD_some]; with_reducible rfl))
            apply txt_move rfl rfl; (· (simp only [Act.put, Act.eval, List.setIfInBounds_toArray, List.set_cons_zero, List.set_cons_succ, Array.getD_eq_getD_getElem?, List.getElem?_toArray, List.getElem?_cons_zero, List.getElem?_cons_succ, Option.getD_some]; with_reducible rfl))
            apply txt_pure rfl rfl rfl; (· (intro w; go_simp; (try go_bits); with_reducible rfl)); (· (simp only [Act.put, Act.eval, List.setIfInBounds_toArray, List.set_cons_zero, List.set_cons_succ, Array.getD_eq_getD_getElem?, List.getElem?_toArray, List.getElem?_cons_zero, List.getElem?_cons_succ, Option.getD_some]; with_reducible rfl))
            apply txt_pure rfl rfl rfl; (· (intro w; go_simp; (try go_bits); with_reducible rfl)); (· (simp only [Act.put, Act.eval, List.setIfInBounds_toArray, List.set_cons_zero, List.set_cons_succ, Array.getD_eq_getD_getElem?, List.getElem?_toArray, List.getElem?_cons_zero, List.getElem?_cons_succ, Option.getD_some]; with_reducible rfl))
            apply txt_pure rfl rfl rfl; (· (intro w; go_simp; (try go_bits); with_reducible rfl)); (· (simp only [Act.put, Act.eval, List.setIfInBounds_toArray, List.set_cons_zero, List.set_cons_succ, Array.getD_eq_getD_getElem?, List.getElem?_toArray, List.getElem?_cons_zero, List.getElem?_cons_succ, Option.getD_some]; with_reducible rfl))
            apply txt_value rfl rfl rfl; (· (go_simp; exact ⟨rfl, rfl⟩)); (· (simp only [Act.put, Act.eval, List.setIfInBounds_toArray, List.set_cons_zero, List.set_cons_succ, Array.getD_eq_getD_getElem?, List.getElem?_toArray, List.getElem?_cons_zero, List.getElem?_cons_succ, Option.getD_some]; with_reducible rfl))
            have hn : (wr.alloc (.cells #[.int .u8 (b.toNat : Int)] 5)).heap[wr.heap.size]? = some (.cells #[.int .u8 (b.toNat : Int)] 5) := heap_new _ _
            refine txt_append_brow rfl rfl rfl (.tmp 26) (.tmp 32) rfl w.heap.size _ (T) rfl (hrow.alloc _) (by simp; omega) wr.heap.size 1 1 [b] rfl rfl _ _ hn rfl (by simp; omega) ?_
            intro v' w' hown hbl
            simp only [Act.put, Act.eval, List.setIfInBounds_toArray, List.set_cons_zero, List.set_cons_succ, Array.getD_eq_getD_getElem?, List.getElem?_toArray, List.getElem?_cons_zero, List.getElem?_cons_succ, Option.getD_some]
            apply txt_assign rfl rfl; (· (simp only [Act.put, Act.eval, List.setIfInBounds_toArray, List.set_cons_zero, List.set_cons_succ, Array.getD_eq_getD_getElem?, List.getElem?_toArray, List.getElem?_cons_zero, List.getElem?_cons_succ, Option.getD_some]; with_reducible rfl))
            with_reducible refine txt_nil ?_
            have hb1 : Below w.heap.size w w' := hb.trans (((Below.refl _ _).alloc (by omega) _).trans hbl)
            clear hbl hn hrow
            go_wp2
            go_roundw
            case rel => exact ⟨2, 5, rfl, by omega, by omega, by rw [hT1.out]; exact hown, hb1⟩
            case measure => simp [intOf]
          · obtain rfl : sh = 5 := by omega
            clear hsh hj hj8
            obtain ⟨b, hb8⟩ : ∃ b, lenB n 40 = b := ⟨_, rfl⟩
            have hbv : ((n : Int) / (1099511627776 : Int)) % (256 : Int) = (b.toNat : Int) := by rw [← hb8]; unfold lenB; simp
            have hbw : IntKind.u8.wrap ((n : Int) / (1099511627776 : Int)) = (b.toNat : Int) := by rw [← hbv]; simp [IntKind.wrap, IntKind.bits, IntKind.signed]
            obtain ⟨T, hT0⟩ : ∃ T, P0 ++ ([lenB n 56, lenB n 48, lenB n 40, lenB n 32, lenB n 24, lenB n 16, lenB n 8, lenB n 0]).take 2 = T := ⟨_, rfl⟩
            have hT1 : Hid (P0 ++ ([lenB n 56, lenB n 48, lenB n 40, lenB n 32, lenB n 24, lenB n 16, lenB n 8, lenB n 0]).take (2 + 1) = T ++ [b]) := Lib.hid (by rw [← hT0, ← hb8, List.append_assoc]; rfl)
            have hTs : T.length < 140737488351232 + 200 := by rw [← hT0]; simp; omega
            rw [hT0] at hrow
            clear hT0 hb8
            go_upto_region 9 with (fail)
            refine Rt.wp_region_seq [0, 0, 0, 0, 0, 0, 2, 2, 0] ?_
            apply txt_move rfl rfl; (· (simp only [Act.put, Act.eval, List.setIfInBounds_toArray, List.set_cons_zero, List.set_cons_succ, Array.getD_eq_getD_getElem?, List.getElem?_toArray, List.getElem?_cons_zero, List.getElem?_cons_succ, Option.getD_some]; with_reducible rfl))
            apply txt_move rfl rfl; (· (simp only [Act.put, Act.eval, List.setIfInBounds_toArray, List.set_cons_zero, List.set_cons_succ, Array.getD_eq_getD_getElem?, List.getElem?_toArray, List.getElem?_cons_zero, List.getElem?_cons_succ, Option.getD_some]; with_reducible rfl))
            apply txt_move rfl rfl; (· (simp only [Act.put, Act.eval, List.setIfInBounds_toArray, List.set_cons_zero, List.set_cons_succ, Array.getD_eq_getD_getElem?, List.getElem?_toArray, List.getElem?_cons_zero, List.getElem?_cons_succ, Option.getD_some]; with_reducible rfl))
            apply txt_pure rfl rfl rfl; (· (intro w; go_simp; (try go_bits); with_reducible rfl)); (· (simp only [Act.put, Act.eval, List.setIfInBounds_toArray, List.set_cons_zero, List.set_cons_succ, Array.getD_eq_getD_getElem?, List.getElem?_toArray, List.getElem?_cons_zero, List.getElem?_cons_succ, Option.getD_some]; with_reducible rfl))
            apply txt_pure rfl rfl rfl; (· (intro w; go_simp; (try go_bits); with_reducible rfl)); (· (simp only [Act.put, Act.eval, List.setIfInBounds_toArray, List.set_cons_zero, List.set_cons_succ, Array.getD_eq_getD_getElem?, List.getElem?_toArray, List.getElem?_cons_zero, List.getElem?_cons_succ, Option.getD_some]; with_reducible rfl))
            apply txt_pure rfl rfl rfl; (· (intro w; go_simp; (try go_bits); with_reducible rfl)); (· (simp only [Act.put, Act.eval, List.setIfInBounds_toArray, List.set_cons_zero, List.set_cons_succ, Array.getD_eq_getD_getElem?, List.getElem?_toArray, List.getElem?_cons_zero, List.getElem?_cons_succ, Option.getD_some]; with_reducible rfl))
            apply txt_value rfl rfl rfl; (· (go_simp; exact ⟨rfl, rfl⟩)); (· (simp only [Act.put, Act.eval, List.setIfInBounds_toArray, List.set_cons_zero, List.set_cons_succ, Array.getD_eq_getD_getElem?, List.getElem?_toArray, List.getElem?_cons_zero, List.getElem?_cons_succ, Option.getD_some]; with_reducible rfl))
            have hn : (wr.alloc (.cells #[.int .u8 (b.toNat : Int)] 5)).heap[wr.heap.size]? = some (.cells #[.int .u8 (b.toNat : Int)] 5) := heap_new _ _
            refine txt_append_brow rfl rfl rfl (.tmp 26) (.tmp 32) rfl w.heap.size _ (T) rfl (hrow.alloc _) (by simp; omega) wr.heap.size 1 1 [b] rfl rfl _ _ hn rfl (by simp; omega) ?_
            intro v' w' hown hbl
            simp only [Act.put, Act.eval, List.setIfInBounds_toArray, List.set_cons_zero, List.set_cons_succ, Array.getD_eq_getD_getElem?, List.getElem?_toArray, List.getElem?_cons_zero, List.getElem?_cons_succ, Option.getD_some]
            apply txt_assign rfl rfl; (· (simp only [Act.put, Act.eval, List.setIfInBounds_toArray, List.set_cons_zero, List.set_cons_succ, Array.getD_eq_getD_getElem?, List.getElem?_toArray, List.getElem?_cons_zero, List.getElem?_cons_succ, Option.getD_some]; with_reducible rfl))
            with_reducible refine txt_nil ?_
            have hb1 : Below w.heap.size w w' := hb.trans (((Below.refl _ _).alloc (by omega) _).trans hbl)
            clear hbl hn hrow
            go_wp2
            go_roundw
            case rel => exact ⟨3, 4, rfl, by omega, by omega, by rw [hT1.out]; exact hown, hb1⟩
            case measure => simp [intOf]
          · obtain rfl : sh = 4 := by omega
            clear hsh hj hj8
            obtain ⟨b, hb8⟩ : ∃ b, lenB n 32 = b := ⟨_, rfl⟩
            have hbv : ((n : Int) / (4294967296 : Int)) % (256 : Int) = (b.toNat : Int) := by rw [← hb8]; unfold lenB; simp
            have hbw : IntKind.u8.wrap ((n : Int) / (4294967296 : Int)) = (b.toNat : Int) := by rw [← hbv]; simp [IntKind.wrap, IntKind.bits, IntKind.signed]
            obtain ⟨T, hT0⟩ : ∃ T, P0 ++ ([lenB n 56, lenB n 48, lenB n 40, lenB n 32, lenB n 24, lenB n 16, lenB n 8, lenB n 0]).take 3 = T := ⟨_, rfl⟩
            have hT1 : Hid (P0 ++ ([lenB n 56, lenB n 48, lenB n 40, lenB n 32, lenB n 24, lenB n 16, lenB n 8, lenB n 0]).take (3 + 1) = T ++ [b]) := Lib.hid (by rw [← hT0, ← hb8, List.append_assoc]; rfl)
            have hTs : T.length < 140737488351232 + 200 := by rw [← hT0]; simp; omega
            rw [hT0] at hrow
            clear hT0 hb8
            go_upto_region 9 with (fail)
            refine Rt.wp_region_seq [0, 0, 0, 0, 0, 0, 2, 2, 0] ?_
            apply txt_move rfl rfl; (· (simp only [Act.put, Act.eval, List.setIfInBounds_toArray, List.set_cons_zero, List.set_cons_succ, Array.getD_eq_getD_getElem?, List.getElem?_toArray, List.getElem?_cons_zero, List.getElem?_cons_succ, Option.getD_some]; with_reducible rfl))
            apply txt_move rfl rfl; (· (simp only [Act.put, Act.eval, List.setIfInBounds_toArray, List.set_cons_zero, List.set_cons_succ, Array.getD_eq_getD_getElem?, List.getElem?_toArray, List.getElem?_cons_zero, List.getElem?_cons_succ, Option.getD_some]; with_reducible rfl))
            apply txt_move rfl rfl; (· (simp only [Act.put, Act.eval, List.setIfInBounds_toArray, List.set_cons_zero, List.set_cons_succ, Array.getD_eq_getD_getElem?, List.getElem?_toArray, List.getElem?_cons_zero, List.getElem?_cons_succ, Option.getD_some]; with_reducible rfl))
            apply txt_pure rfl rfl rfl; (· (intro w; go_simp; (try go_bits); with_reducible rfl)); (· (simp only [Act.put, Act.eval, List.setIfInBounds_toArray, List.set_cons_zero, List.set_cons_succ, Array.getD_eq_getD_getElem?, List.getElem?_toArray, List.getElem?_cons_zero, List.getElem?_cons_succ, Option.getD_some]; with_reducible rfl))
            apply txt_pure rfl rfl rfl; (· (intro w; go_simp; (try go_bits); with_reducible rfl)); (· (simp only [Act.put, Act.eval, List.setIfInBounds_toArray, List.set_cons_zero, List.set_cons_succ, Array.getD_eq_getD_getElem?, List.getElem?_toArray, List.getElem?_cons_zero, List.getElem?_cons_succ, Option.getD_some]; with_reducible rfl))
            apply txt_pure rfl rfl rfl; (· (intro w; go_simp; (try go_bits); with_reducible rfl)); (· (simp only [Act.put, Act.eval, List.setIfInBounds_toArray, List.set_cons_zero, List.set_cons_succ, Array.getD_eq_getD_getElem?, List.getElem?_toArray, List.getElem?_cons_zero, List.getElem?_cons_succ, Option.getD_some]; with_reducible rfl))
            apply txt_value rfl rfl rfl; (· (go_simp; exact ⟨rfl, rfl⟩)); (· (simp only [Act.put, Act.eval, List.setIfInBounds_toArray, List.set_cons_zero, List.set_cons_succ, Array.getD_eq_getD_getElem?, List.getElem?_toArray, List.getElem?_cons_zero, List.getElem?_cons_succ, Option.getD_some]; with_reducible rfl))
            have hn : (wr.alloc (.cells #[.int .u8 (b.toNat : Int)] 5)).heap[wr.heap.size]? = some (.cells #[.int .u8 (b.toNat : Int)] 5) := heap_new _ _
            refine txt_append_brow rfl rfl rfl (.tmp 26) (.tmp 32) rfl w.heap.size _ (T) rfl (hrow.alloc _) (by simp; omega) wr.heap.size 1 1 [b] rfl rfl _ _ hn rfl (by simp; omega) ?_
            intro v' w' hown hbl
            simp only [Act.put, Act.eval, List.setIfInBounds_toArray, List.set_cons_zero, List.set_cons_succ, Array.getD_eq_getD_getElem?, List.getElem?_toArray, List.getElem?_cons_zero, List.getElem?_cons_succ, Option.getD_some]
            apply txt_assign rfl rfl; (· (simp only [Act.put, Act.eval, List.setIfInBounds_toArray, List.set_cons_zero, List.set_cons_succ, Array.getD_eq_getD_getElem?, List.getElem?_toArray, List.getElem?_cons_zero, List.getElem?_cons_succ, Option.getD_some]; with_reducible rfl))
            with_reducible refine txt_nil ?_
            have hb1 : Below w.heap.size w w' := hb.trans (((Below.refl _ _).alloc (by omega) _).trans hbl)
            clear hbl hn hrow
            go_wp2
            go_roundw
            case rel => exact ⟨4, 3, rfl, by omega, by omega, by rw [hT1.out]; exact hown, hb1⟩
            case measure => simp [intOf]
          · obtain rfl : sh = 3 := by omega
            clear hsh hj hj8
            obtain ⟨b, hb8⟩ : ∃ b, lenB n 24 = b := ⟨_, rfl⟩
            have hbv : ((n : Int) / (16777216 : Int)) % (256 : Int) = (b.toNat : Int) := by rw [← hb8]; unfold lenB; simp
            have hbw : IntKind.u8.wrap ((n : Int) / (16777216 : Int)) = (b.toNat : Int) := by rw [← hbv]; simp [IntKind.wrap, IntKind.bits, IntKind.signed]
            obtain ⟨T, hT0⟩ : ∃ T, P0 ++ ([lenB n 56, lenB n 48, lenB n 40, lenB n 32, lenB n 24, lenB n 16, lenB n 8, lenB n 0]).take 4 = T := ⟨_, rfl⟩
            have hT1 : Hid (P0 ++ ([lenB n 56, lenB n 48, lenB n 40, lenB n 32, lenB n 24, lenB n 16, lenB n 8, lenB n 0]).take (4 + 1) = T ++ [b]) := Lib.hid (by rw [← hT0, ← hb8, List.append_assoc]; rfl)
            have hTs : T.length < 140737488351232 + 200 := by rw [← hT0]; simp; omega
            rw [hT0] at hrow
            clear hT0 hb8
            go_upto_region 9 with (fail)
            refine Rt.wp_region_seq [0, 0, 0, 0, 0, 0, 2, 2, 0] ?_
            apply txt_move rfl rfl; (· (simp only [Act.put, Act.eval, List.setIfInBounds_toArray, List.set_cons_zero, List.set_cons_succ, Array.getD_eq_getD_getElem?, List.getElem?_toArray, List.getElem?_cons_zero, List.getElem?_cons_succ, Option.getD_some]; with_reducible rfl))
            apply txt_move rfl rfl; (· (simp only [Act.put, Act.eval, List.setIfInBounds_toArray, List.set_cons_zero, List.set_cons_succ, Array.getD_eq_getD_getElem?, List.getElem?_toArray, List.getElem?_cons_zero, List.getElem?_cons_succ, Option.getD_some]; with_reducible rfl))
            apply txt_move rfl rfl; (· (simp only [Act.put, Act.eval, List.setIfInBounds_toArray, List.set_cons_zero, List.set_cons_succ, Array.getD_eq_getD_getElem?, List.getElem?_toArray, List.getElem?_cons_zero, List.getElem?_cons_succ, Option.getD_some]; with_reducible rfl))
            apply txt_pure rfl rfl rfl; (· (intro w; go_simp; (try go_bits); with_reducible rfl)); (· (simp only [Act.put, Act.eval, List.setIfInBounds_toArray, List.set_cons_zero, List.set_cons_succ, Array.getD_eq_getD_getElem?, List.getElem?_toArray, List.getElem?_cons_zero, List.getElem?_cons_succ, Option.getD_some]; with_reducible rfl))
            apply txt_pure rfl rfl rfl; (· (intro w; go_simp; (try go_bits); with_reducible rfl)); (· (simp only [Act.put, Act.eval, List.setIfInBounds_toArray, List.set_cons_zero, List.set_cons_succ, Array.getD_eq_getD_getElem?, List.getElem?_toArray, List.getElem?_cons_zero, List.getElem?_cons_succ, Option.getD_some]; with_reducible rfl))
            apply txt_pure rfl rfl rfl; (· (intro w; go_simp; (try go_bits); with_reducible rfl)); (· (simp only [Act.put, Act.eval, List.setIfInBounds_toArray, List.set_cons_zero, List.set_cons_succ, Array.getD_eq_getD_getElem?, List.getElem?_toArray, List.getElem?_cons_zero, List.getElem?_cons_succ, Option.getD_some]; with_reducible rfl))
            apply txt_value rfl rfl rfl; (· (go_simp; exact ⟨rfl, rfl⟩)); (· (simp only [Act.put, Act.eval, List.setIfInBounds_toArray, List.set_cons_zero, List.set_cons_succ, Array.getD_eq_getD_getElem?, List.getElem?_toArray, List.getElem?_cons_zero, List.getElem?_cons_succ, Option.getD_some]; with_reducible rfl))
            have hn : (wr.alloc (.cells #[.int .u8 (b.toNat : Int)] 5)).heap[wr.heap.size]? = some (.cells #[.int .u8 (b.toNat : Int)] 5) := heap_new _ _
            refine txt_append_brow rfl rfl rfl (.tmp 26) (.tmp 32) rfl w.heap.size _ (T) rfl (hrow.alloc _) (by simp; omega) wr.heap.size 1 1 [b] rfl rfl _ _ hn rfl (by simp; omega) ?_
            intro v' w' hown hbl
            simp only [Act.put, Act.eval, List.setIfInBounds_toArray, List.set_cons_zero, List.set_cons_succ, Array.getD_eq_getD_getElem?, List.getElem?_toArray, List.getElem?_cons_zero, List.getElem?_cons_succ, Option.getD_some]
            apply txt_assign rfl rfl; (· (simp only [Act.put, Act.eval, List.setIfInBounds_toArray, List.set_cons_zero, List.set_cons_succ, Array.getD_eq_getD_getElem?, List.getElem?_toArray, List.getElem?_cons_zero, List.getElem?_cons_succ, Option.getD_some]; with_reducible rfl))
            with_reducible refine txt_nil ?_
            have hb1 : Below w.heap.size w w' := hb.trans (((Below.refl _ _).alloc (by omega) _).trans hbl)
            clear hbl hn hrow
            go_wp2
            go_roundw
            case rel => exact ⟨5, 2, rfl, by omega, by omega, by rw [hT1.out]; exact hown, hb1⟩
            case measure => simp [intOf]
          · obtain rfl : sh = 2 := by omega
            clear hsh hj hj8
            obtain ⟨b, hb8⟩ : ∃ b, lenB n 16 = b := ⟨_, rfl⟩
            have hbv : ((n : Int) / (65536 : Int)) % (256 : Int) = (b.toNat : Int) := by rw [← hb8]; unfold lenB; simp
            have hbw : IntKind.u8.wrap ((n : Int) / (65536 : Int)) = (b.toNat : Int) := by rw [← hbv]; simp [IntKind.wrap, IntKind.bits, IntKind.signed]
            obtain ⟨T, hT0⟩ : ∃ T, P0 ++ ([lenB n 56, lenB n 48, lenB n 40, lenB n 32, lenB n 24, lenB n 16, lenB n 8, lenB n 0]).take 5 = T := ⟨_, rfl⟩
            have hT1 : Hid (P0 ++ ([lenB n 56, lenB n 48, lenB n 40, lenB n 32, lenB n 24, lenB n 16, lenB n 8, lenB n 0]).take (5 + 1) = T ++ [b]) := Lib.hid (by rw [← hT0, ← hb8, List.append_assoc]; rfl)
            have hTs : T.length < 140737488351232 + 200 := by rw [← hT0]; simp; omega
            rw [hT0] at hrow
            clear hT0 hb8
            go_upto_region 9 with (fail)
            refine Rt.wp_region_seq [0, 0, 0, 0, 0, 0, 2, 2, 0] ?_
            apply txt_move rfl rfl; (· (simp only [Act.put, Act.eval, List.setIfInBounds_toArray, List.set_cons_zero, List.set_cons_succ, Array.getD_eq_getD_getElem?, List.getElem?_toArray, List.getElem?_cons_zero, List.getElem?_cons_succ, Option.getD_some]; with_reducible rfl))
            apply txt_move rfl rfl; (· (simp only [Act.put, Act.eval, List.setIfInBounds_toArray, List.set_cons_zero, List.set_cons_succ, Array.getD_eq_getD_getElem?, List.getElem?_toArray, List.getElem?_cons_zero, List.getElem?_cons_succ, Option.getD_some]; with_reducible rfl))
            apply txt_move rfl rfl; (· (simp only [Act.put, Act.eval, List.setIfInBounds_toArray, List.set_cons_zero, List.set_cons_succ, Array.getD_eq_getD_getElem?, List.getElem?_toArray, List.getElem?_cons_zero, List.getElem?_cons_succ, Option.getD_some]; with_reducible rfl))
            apply txt_pure rfl rfl rfl; (· (intro w; go_simp; (try go_bits); with_reducible rfl)); (· (simp only [Act.put, Act.eval, List.setIfInBounds_toArray, List.set_cons_zero, List.set_cons_succ, Array.getD_eq_getD_getElem?, List.getElem?_toArray, List.getElem?_cons_zero, List.getElem?_cons_succ, Option.getD_some]; with_reducible rfl))
            apply txt_pure rfl rfl rfl; (· (intro w; go_simp; (try go_bits); with_reducible rfl)); (· (simp only [Act.put, Act.eval, List.setIfInBounds_toArray, List.set_cons_zero, List.set_cons_succ, Array.getD_eq_getD_getElem?, List.getElem?_toArray, List.getElem?_cons_zero, List.getElem?_cons_succ, Option.getD_some]; with_reducible rfl))
            apply txt_pure rfl rfl rfl; (· (intro w; go_simp; (try go_bits); with_reducible rfl)); (· (simp only [Act.put, Act.eval, List.setIfInBounds_toArray, List.set_cons_zero, List.set_cons_succ, Array.getD_eq_getD_getElem?, List.getElem?_toArray, List.getElem?_cons_zero, List.getElem?_cons_succ, Option.getD_some]; with_reducible rfl))
            apply txt_value rfl rfl rfl; (· (go_simp; exact ⟨rfl, rfl⟩)); (· (simp only [Act.put, Act.eval, List.setIfInBounds_toArray, List.set_cons_zero, List.set_cons_succ, Array.getD_eq_getD_getElem?, List.getElem?_toArray, List.getElem?_cons_zero, List.getElem?_cons_succ, Option.getD_some]; with_reducible rfl))
            have hn : (wr.alloc (.cells #[.int .u8 (b.toNat : Int)] 5)).heap[wr.heap.size]? = some (.cells #[.int .u8 (b.toNat : Int)] 5) := heap_new _ _
            refine txt_append_brow rfl rfl rfl (.tmp 26) (.tmp 32) rfl w.heap.size _ (T) rfl (hrow.alloc _) (by simp; omega) wr.heap.size 1 1 [b] rfl rfl _ _ hn rfl (by simp; omega) ?_
            intro v' w' hown hbl
            simp only [Act.put, Act.eval, List.setIfInBounds_toArray, List.set_cons_zero, List.set_cons_succ, Array.getD_eq_getD_getElem?, List.getElem?_toArray, List.getElem?_cons_zero, List.getElem?_cons_succ, Option.getD_some]
            apply txt_assign rfl rfl; (· (simp only [Act.put, Act.eval, List.setIfInBounds_toArray, List.set_cons_zero, List.set_cons_succ, Array.getD_eq_getD_getElem?, List.getElem?_toArray, List.getElem?_cons_zero, List.getElem?_cons_succ, Option.getD_some]; with_reducible rfl))
            with_reducible refine txt_nil ?_
            have hb1 : Below w.heap.size w w' := hb.trans (((Below.refl _ _).alloc (by omega) _).trans hbl)
            clear hbl hn hrow
            go_wp2
            go_roundw
            case rel => exact ⟨6, 1, rfl, by omega, by omega, by rw [hT1.out]; exact hown, hb1⟩
            case measure => simp [intOf]
          · obtain rfl : sh = 1 := by omega
            clear hsh hj hj8
            obtain ⟨b, hb8⟩ : ∃ b, lenB n 8 = b := ⟨_, rfl⟩
            have hbv : ((n : Int) / (256 : Int)) % (256 : Int) = (b.toNat : Int) := by rw [← hb8]; unfold lenB; simp
            have hbw : IntKind.u8.wrap ((n : Int) / (256 : Int)) = (b.toNat : Int) := by rw [← hbv]; simp [IntKind.wrap, IntKind.bits, IntKind.signed]
            obtain ⟨T, hT0⟩ : ∃ T, P0 ++ ([lenB n 56, lenB n 48, lenB n 40, lenB n 32, lenB n 24, lenB n 16, lenB n 8, lenB n 0]).take 6 = T := ⟨_, rfl⟩
            have hT1 : Hid (P0 ++ ([lenB n 56, lenB n 48, lenB n 40, lenB n 32, lenB n 24, lenB n 16, lenB n 8, lenB n 0]).take (6 + 1) = T ++ [b]) := Lib.hid (by rw [← hT0, ← hb8, List.append_assoc]; rfl)
            have hTs : T.length < 140737488351232 + 200 := by rw [← hT0]; simp; omega
            rw [hT0] at hrow
            clear hT0 hb8
            go_upto_region 9 with (fail)
            refine Rt.wp_region_seq [0, 0, 0, 0, 0, 0, 2, 2, 0] ?_
            apply txt_move rfl rfl; (· (simp only [Act.put, Act.eval, List.setIfInBounds_toArray, List.set_cons_zero, List.set_cons_succ, Array.getD_eq_getD_getElem?, List.getElem?_toArray, List.getElem?_cons_zero, List.getElem?_cons_succ, Option.getD_some]; with_reducible rfl))
            apply txt_move rfl rfl; (· (simp only [Act.put, Act.eval, List.setIfInBounds_toArray, List.set_cons_zero, List.set_cons_succ, Array.getD_eq_getD_getElem?, List.getElem?_toArray, List.getElem?_cons_zero, List.getElem?_cons_succ, Option.getD_some]; with_reducible rfl))
            apply txt_move rfl rfl; (· (simp only [Act.put, Act.eval, List.setIfInBounds_toArray, List.set_cons_zero, List.set_cons_succ, Array.getD_eq_getD_getElem?, List.getElem?_toArray, List.getElem?_cons_zero, List.getElem?_cons_succ, Option.getD_some]; with_reducible rfl))
            apply txt_pure rfl rfl rfl; (· (intro w; go_simp; (try go_bits); with_reducible rfl)); (· (simp only [Act.put, Act.eval, List.setIfInBounds_toArray, List.set_cons_zero, List.set_cons_succ, Array.getD_eq_getD_getElem?, List.getElem?_toArray, List.getElem?_cons_zero, List.getElem?_cons_succ, Option.getD_some]; with_reducible rfl))
            apply txt_pure rfl rfl rfl; (· (intro w; go_simp; (try go_bits); with_reducible rfl)); (· (simp only [Act.put, Act.eval, List.setIfInBounds_toArray, List.set_cons_zero, List.set_cons_succ, Array.getD_eq_getD_getElem?, List.getElem?_toArray, List.getElem?_cons_zero, List.getElem?_cons_succ, Option.getD_some]; with_reducible rfl))
            apply txt_pure rfl rfl rfl; (· (intro w; go_simp; (try go_bits); with_reducible rfl)); (· (simp only [Act.put, Act.eval, List.setIfInBounds_toArray, List.set_cons_zero, List.set_cons_succ, Array.getD_eq_getD_getElem?, List.getElem?_toArray, List.getElem?_cons_zero, List.getElem?_cons_succ, Option.getD_some]; with_reducible rfl))
            apply txt_value rfl rfl rfl; (· (go_simp; exact ⟨rfl, rfl⟩)); (· (simp only [Act.put, Act.eval, List.setIfInBounds_toArray, List.set_cons_zero, List.set_cons_succ, Array.getD_eq_getD_getElem?, List.getElem?_toArray, List.getElem?_cons_zero, List.getElem?_cons_succ, Option.getD_some]; with_reducible rfl))
            have hn : (wr.alloc (.cells #[.int .u8 (b.toNat : Int)] 5)).heap[wr.heap.size]? = some (.cells #[.int .u8 (b.toNat : Int)] 5) := heap_new _ _
            refine txt_append_brow rfl rfl rfl (.tmp 26) (.tmp 32) rfl w.heap.size _ (T) rfl (hrow.alloc _) (by simp; omega) wr.heap.size 1 1 [b] rfl rfl _ _ hn rfl (by simp; omega) ?_
            intro v' w' hown hbl
            simp only [Act.put, Act.eval, List.setIfInBounds_toArray, List.set_cons_zero, List.set_cons_succ, Array.getD_eq_getD_getElem?, List.getElem?_toArray, List.getElem?_cons_zero, List.getElem?_cons_succ, Option.getD_some]
            apply txt_assign rfl rfl; (· (simp only [Act.put, Act.eval, List.setIfInBounds_toArray, List.set_cons_zero, List.set_cons_succ, Array.getD_eq_getD_getElem?, List.getElem?_toArray, List.getElem?_cons_zero, List.getElem?_cons_succ, Option.getD_some]; with_reducible rfl))
            with_reducible refine txt_nil ?_
            have hb1 : Below w.heap.size w w' := hb.trans (((Below.refl _ _).alloc (by omega) _).trans hbl)
            clear hbl hn hrow
            go_wp2
            go_roundw
            case rel => exact ⟨7, 0, rfl, by omega, by omega, by rw [hT1.out]; exact hown, hb1⟩
            case measure => simp [intOf]
          · obtain rfl : sh = 0 := by omega
            clear hsh hj hj8
            obtain ⟨b, hb8⟩ : ∃ b, lenB n 0 = b := ⟨_, rfl⟩
            have hbv : ((n : Int) / (1 : Int)) % (256 : Int) = (b.toNat : Int) := by rw [← hb8]; unfold lenB; simp
            have hbw : IntKind.u8.wrap ((n : Int) / (1 : Int)) = (b.toNat : Int) := by rw [← hbv]; simp [IntKind.wrap, IntKind.bits, IntKind.signed]
            have hbv0 : (n : Int) % (256 : Int) = (b.toNat : Int) := by simpa using hbv
            have hbw0 : IntKind.u8.wrap (n : Int) = (b.toNat : Int) := by simpa using hbw
            obtain ⟨T, hT0⟩ : ∃ T, P0 ++ ([lenB n 56, lenB n 48, lenB n 40, lenB n 32, lenB n 24, lenB n 16, lenB n 8, lenB n 0]).take 7 = T := ⟨_, rfl⟩
            have hT1 : Hid (P0 ++ ([lenB n 56, lenB n 48, lenB n 40, lenB n 32, lenB n 24, lenB n 16, lenB n 8, lenB n 0]).take (7 + 1) = T ++ [b]) := Lib.hid (by rw [← hT0, ← hb8, List.append_assoc]; rfl)
            have hTs : T.length < 140737488351232 + 200 := by rw [← hT0]; simp; omega
            rw [hT0] at hrow
            clear hT0 hb8
            go_upto_region 9 with (fail)
            refine Rt.wp_region_seq [0, 0, 0, 0, 0, 0, 2, 2, 0] ?_
            apply txt_move rfl rfl; (· (simp only [Act.put, Act.eval, List.setIfInBounds_toArray, List.set_cons_zero, List.set_cons_succ, Array.getD_eq_getD_getElem?, List.getElem?_toArray, List.getElem?_cons_zero, List.getElem?_cons_succ, Option.getD_some]; with_reducible rfl))
            apply txt_move rfl rfl; (· (simp only [Act.put, Act.eval, List.setIfInBounds_toArray, List.set_cons_zero, List.set_cons_succ, Array.getD_eq_getD_getElem?, List.getElem?_toArray, List.getElem?_cons_zero, List.getElem?_cons_succ, Option.getD_some]; with_reducible rfl))
            apply txt_move rfl rfl; (· (simp only [Act.put, Act.eval, List.setIfInBounds_toArray, List.set_cons_zero, List.set_cons_succ, Array.getD_eq_getD_getElem?, List.getElem?_toArray, List.getElem?_cons_zero, List.getElem?_cons_succ, Option.getD_some]; with_reducible rfl))
            apply txt_pure rfl rfl rfl; (· (intro w; go_simp; (try go_bits); with_reducible rfl)); (· (simp only [Act.put, Act.eval, List.setIfInBounds_toArray, List.set_cons_zero, List.set_cons_succ, Array.getD_eq_getD_getElem?, List.getElem?_toArray, List.getElem?_cons_zero, List.getElem?_cons_succ, Option.getD_some]; with_reducible rfl))
            apply txt_pure rfl rfl rfl; (· (intro w; go_simp; (try go_bits); with_reducible rfl)); (· (simp only [Act.put, Act.eval, List.setIfInBounds_toArray, List.set_cons_zero, List.set_cons_succ, Array.getD_eq_getD_getElem?, List.getElem?_toArray, List.getElem?_cons_zero, List.getElem?_cons_succ, Option.getD_some]; with_reducible rfl))
            apply txt_pure rfl rfl rfl; (· (intro w; go_simp; (try go_bits); with_reducible rfl)); (· (simp only [Act.put, Act.eval, List.setIfInBounds_toArray, List.set_cons_zero, List.set_cons_succ, Array.getD_eq_getD_getElem?, List.getElem?_toArray, List.getElem?_cons_zero, List.getElem?_cons_succ, Option.getD_some]; with_reducible rfl))
            apply txt_value rfl rfl rfl; (· (go_simp; exact ⟨rfl, rfl⟩)); (· (simp only [Act.put, Act.eval, List.setIfInBounds_toArray, List.set_cons_zero, List.set_cons_succ, Array.getD_eq_getD_getElem?, List.getElem?_toArray, List.getElem?_cons_zero, List.getElem?_cons_succ, Option.getD_some]; with_reducible rfl))
            have hn : (wr.alloc (.cells #[.int .u8 (b.toNat : Int)] 5)).heap[wr.heap.size]? = some (.cells #[.int .u8 (b.toNat : Int)] 5) := heap_new _ _
            refine txt_append_brow rfl rfl rfl (.tmp 26) (.tmp 32) rfl w.heap.size _ (T) rfl (hrow.alloc _) (by simp; omega) wr.heap.size 1 1 [b] rfl rfl _ _ hn rfl (by simp; omega) ?_
            intro v' w' hown hbl
            simp only [Act.put, Act.eval, List.setIfInBounds_toArray, List.set_cons_zero, List.set_cons_succ, Array.getD_eq_getD_getElem?, List.getElem?_toArray, List.getElem?_cons_zero, List.getElem?_cons_succ, Option.getD_some]
            apply txt_assign rfl rfl; (· (simp only [Act.put, Act.eval, List.setIfInBounds_toArray, List.set_cons_zero, List.set_cons_succ, Array.getD_eq_getD_getElem?, List.getElem?_toArray, List.getElem?_cons_zero, List.getElem?_cons_succ, Option.getD_some]; with_reducible rfl))
            with_reducible refine txt_nil ?_
            have hb1 : Below w.heap.size w w' := hb.trans (((Below.refl _ _).alloc (by omega) _).trans hbl)
            clear hbl hn hrow
            go_wp2
            go_roundw
            case rel => exact ⟨8, -1, rfl, by omega, by omega, by rw [hT1.out]; exact hown, hb1⟩
            case measure => simp [intOf]
        · obtain rfl : j = 8 := by omega
          obtain rfl : sh = -1 := by omega
          rw [show P0 ++ ([lenB n 56, lenB n 48, lenB n 40, lenB n 32, lenB n 24, lenB n 16, lenB n 8, lenB n 0]).take 8 = padL L by rw [hP.out]; rfl] at hrow
          have hcv := hrow.conv Try.underlying31 Try.underlying5 Try.underlying9
          clear hrow
          go_wp2
          go_ret
          exact ⟨rfl, hb⟩
end Go.Proofs.Ytndiagcpinmefaa.Dg
