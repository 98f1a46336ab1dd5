/- guidepostref04.Unhex. -/
import Derived.Test.YtndiagcpinmefaaDgR
namespace Go.Proofs.Ytndiagcpinmefaa.Dg
open Go.RowKit Rt Go.Proofs.YtndiagcpinmefaaW.PrintWords
set_option linter.unusedSimpArgs false
set_option linter.unusedVariables false

theorem valueN_hex_fin : ∀ c : Fin 256, (hexV (UInt8.ofNat c.val) < 0 ∧ valueN c.val 16 = 99) ∨ (¬ hexV (UInt8.ofNat c.val) < 0 ∧ valueN c.val 16 = (hexV (UInt8.ofNat c.val)).toNat ∧ valueN c.val 16 < 16) := by decide +kernel
theorem valueN_hex (c : UInt8) : (hexV c < 0 ∧ valueN c.toNat 16 = 99) ∨ (¬ hexV c < 0 ∧ valueN c.toNat 16 = (hexV c).toNat ∧ valueN c.toNat 16 < 16) := by
  have := valueN_hex_fin ⟨c.toNat, UInt8.toNat_lt c⟩; simpa using this
theorem unhexL_cons (c d : UInt8) (r : List UInt8) : unhexL (c :: d :: r) = if hexV c < 0 ∨ hexV d < 0 then none else (unhexL r).map (fun M => UInt8.ofNat (16 * (hexV c).toNat + (hexV d).toNat) :: M) := rfl
def unhexR (L : List UInt8) : ByteArray × Bool := match unhexL L with | some M => (mk M, true) | none => (⟨#[]⟩, false)

set_option maxRecDepth 100000 in
set_option maxHeartbeats 2000000 in
theorem Unhex_ref (s : ByteArray) (hs : s.size ≤ 140737488351232) (w : World) :
    Calls Try.prog 14 #[.string s] w fun e W' => e = .returned (.tuple #[.string (unhexR s.data.toList).1, .bool (unhexR s.data.toList).2]) ∧ Below w.heap.size w W' := by
  obtain ⟨i0, hi, hz0, hz1, hz2⟩ := info_parts info5
  obtain ⟨L, hL⟩ : ∃ L, s.data.toList = L := ⟨_, rfl⟩
  have hlen : L.length = s.size := by rw [← hL]; rfl
  have hat : Hid (∀ k (h : k < s.size) (h2 : k < L.length), s[k] = L[k]) := Lib.hid (fun k h h2 => by subst hL; rfl)
  rw [hL]
  obtain ⟨R, hR⟩ : ∃ R, unhexR L = R := ⟨_, rfl⟩
  rw [hR]
  have hRH := Lib.hid hR
  clear hL hR
  go_enter Try.func14, Try.ntmps14
  go_wp2
  go_loopw [4, 5] (fun v i wr => ∃ (k : Nat) (M : List UInt8), i = .int .i64 k ∧ k ≤ s.size ∧ k % 2 = 0 ∧ M.length ≤ k ∧ wr.ownsRow w.heap.size 5 1 v M.length (cells M) ∧ Below w.heap.size w wr ∧ unhexL L = (unhexL (L.drop k)).map (M ++ ·)) (fun _ i _ => s.size - (intOf i).toNat)
  case atStart => exact ⟨0, [], rfl, Nat.zero_le _, rfl, Nat.le_refl _, World.ownsRow_nil _ _ _ _, Below.refl _ _, by simp⟩
  case round =>
    obtain ⟨k, M, rfl, hk, hk2, hMk, hrow, hb, hU⟩ := hrel
    by_cases hlt : k + 1 < s.size
    · have hlt' : (k : Int) + 1 < s.size := by omega
      have hc0 := hat.out k (by omega) (by omega)
      have hd0 := hat.out (k + 1) (by omega) (by omega)
      have hdrop : L.drop k = L[k]'(by omega) :: L[k + 1]'(by omega) :: L.drop (k + 2) := by
        rw [List.drop_eq_getElem_cons (by omega), List.drop_eq_getElem_cons (by omega)]
      obtain ⟨c, hcc⟩ : ∃ c, L[k]'(by omega) = c := ⟨_, rfl⟩
      obtain ⟨d, hdd⟩ : ∃ c, L[k + 1]'(by omega) = c := ⟨_, rfl⟩
      rw [hcc] at hc0 hdrop
      rw [hdd] at hd0 hdrop
      rw [hdrop] at hU
      rw [unhexL_cons] at hU
      have hVc := valueN_hex c
      have hVd := valueN_hex d
      obtain ⟨va, hva⟩ : ∃ v, valueN c.toNat 16 = v := ⟨_, rfl⟩
      obtain ⟨vb, hvb⟩ : ∃ v, valueN d.toNat 16 = v := ⟨_, rfl⟩
      rw [hva] at hVc
      rw [hvb] at hVd
      have hcl := UInt8.toNat_lt c
      have hdl := UInt8.toNat_lt d
      clear hcc hdd hdrop
      have hUH := Lib.hid hU
      have hVcH := Lib.hid hVc
      have hVdH := Lib.hid hVd
      clear hU hVc hVd
      go_wp2_with fail
      refine (value_ref c.toNat 16 (by omega) (by omega) wr).mono ?_
      rintro e w1 ⟨rfl, rfl⟩
      rw [hva]
      go_wp2_with fail
      refine (value_ref d.toNat 16 (by omega) (by omega) _).mono ?_
      rintro e w1 ⟨rfl, rfl⟩
      rw [hvb]
      rcases hVcH.out with ⟨n1, rfl⟩ | ⟨n1, n2, n3⟩
      · have hres : Hid (R = (⟨#[]⟩, false)) := Lib.hid (by rw [← hRH.out]; unfold unhexR; rw [hUH.out, if_pos (.inl n1)]; rfl)
        go_wp2
        go_ret2
        exact ⟨by rw [hres.out]; rfl, hb⟩
      · have m1 : ((va : Int) == 99) = false := by rw [beq_eq_false_iff_ne]; omega
        rcases hVdH.out with ⟨n4, rfl⟩ | ⟨n4, n5, n6⟩
        · have hres : Hid (R = (⟨#[]⟩, false)) := Lib.hid (by rw [← hRH.out]; unfold unhexR; rw [hUH.out, if_pos (.inr n4)]; rfl)
          go_wp2
          go_ret2
          exact ⟨by rw [hres.out]; rfl, hb⟩
        · have m2 : ((vb : Int) == 99) = false := by rw [beq_eq_false_iff_ne]; omega
          have g1 : ¬ (va : Int) = 99 := by omega
          have g2 : ¬ (vb : Int) = 99 := by omega
          obtain ⟨q, hq⟩ : ∃ q, UInt8.ofNat (16 * va + vb) = q := ⟨_, rfl⟩
          have hqn : q.toNat = 16 * va + vb := by rw [← hq]; simp; omega
          have hw1 : IntKind.u8.wrap (16 * (va : Int)) = 16 * (va : Int) := by simp [IntKind.wrap, IntKind.bits, IntKind.signed]; omega
          have hw2 : IntKind.u8.wrap (16 * (va : Int) + (vb : Int)) = (q.toNat : Int) := by rw [hqn]; simp [IntKind.wrap, IntKind.bits, IntKind.signed]; omega
          have hU2 : Hid (unhexL L = (unhexL (L.drop (k + 2))).map ((M ++ [q]) ++ ·)) := Lib.hid (by
            rw [hUH.out, if_neg (by omega), ← n2, ← n5, hq, Option.map_map]
            congr 1; funext x; simp)
          clear n1 n2 n3 n4 n5 n6 hq hqn hva hvb hc0 hd0 hcl hdl
          go_upto_region 9 with (fail)
          refine Rt.wp_region_seq [0, 0, 0, 0, 0, 2, 2, 0] ?_
          apply txt_move rfl rfl; (· (simp only [Act.put, Act.eval, List.setIfInBounds_toArray, List.set_cons_zero, List.set_cons_succ, Array.getD_eq_getD_getElem?, List.getElem?_toArray, List.getElem?_cons_zero, List.getElem?_cons_succ, Option.getD_some]; with_reducible rfl))
          apply txt_move rfl rfl; (· (simp only [Act.put, Act.eval, List.setIfInBounds_toArray, List.set_cons_zero, List.set_cons_succ, Array.getD_eq_getD_getElem?, List.getElem?_toArray, List.getElem?_cons_zero, List.getElem?_cons_succ, Option.getD_some]; with_reducible rfl))
          apply txt_pure rfl rfl rfl; (· (intro w; go_simp; (try go_bits); with_reducible rfl)); (· (simp only [Act.put, Act.eval, List.setIfInBounds_toArray, List.set_cons_zero, List.set_cons_succ, Array.getD_eq_getD_getElem?, List.getElem?_toArray, List.getElem?_cons_zero, List.getElem?_cons_succ, Option.getD_some]; with_reducible rfl))
          apply txt_move rfl rfl; (· (simp only [Act.put, Act.eval, List.setIfInBounds_toArray, List.set_cons_zero, List.set_cons_succ, Array.getD_eq_getD_getElem?, List.getElem?_toArray, List.getElem?_cons_zero, List.getElem?_cons_succ, Option.getD_some]; with_reducible rfl))
          apply txt_pure rfl rfl rfl; (· (intro w; go_simp; (try go_bits); with_reducible rfl)); (· (simp only [Act.put, Act.eval, List.setIfInBounds_toArray, List.set_cons_zero, List.set_cons_succ, Array.getD_eq_getD_getElem?, List.getElem?_toArray, List.getElem?_cons_zero, List.getElem?_cons_succ, Option.getD_some]; with_reducible rfl))
          apply txt_value rfl rfl rfl; (· (go_simp; exact ⟨rfl, rfl⟩)); (· (simp only [Act.put, Act.eval, List.setIfInBounds_toArray, List.set_cons_zero, List.set_cons_succ, Array.getD_eq_getD_getElem?, List.getElem?_toArray, List.getElem?_cons_zero, List.getElem?_cons_succ, Option.getD_some]; with_reducible rfl))
          have hbs := hb.size
          have hn : (w1.alloc (.cells #[.int .u8 (q.toNat : Int)] 5)).heap[w1.heap.size]? = some (.cells #[.int .u8 (q.toNat : Int)] 5) := heap_new _ _
          refine txt_append rfl rfl rfl (.tmp 30) (.tmp 35) rfl w.heap.size _ M rfl (hrow.alloc _) w1.heap.size 1 1 [q] rfl rfl _ _ hn rfl (by simp; omega) (by simp; omega) ?_
          intro v' w' hown hgr
          simp only [Act.put, Act.eval, List.setIfInBounds_toArray, List.set_cons_zero, List.set_cons_succ, Array.getD_eq_getD_getElem?, List.getElem?_toArray, List.getElem?_cons_zero, List.getElem?_cons_succ, Option.getD_some]
          apply txt_assign rfl rfl; (· (simp only [Act.put, Act.eval, List.setIfInBounds_toArray, List.set_cons_zero, List.set_cons_succ, Array.getD_eq_getD_getElem?, List.getElem?_toArray, List.getElem?_cons_zero, List.getElem?_cons_succ, Option.getD_some]; with_reducible rfl))
          with_reducible refine txt_nil ?_
          have hb3 : Below w.heap.size w w' := (hb.alloc hbs _).grown hgr (by simp; omega) (fun q hq => (hrow.lt q hq).1)
          clear hrow hgr hn
          go_wp2
          go_roundw
          case rel => exact ⟨k + 2, M ++ [q], by go_num, by omega, by omega, by simp; omega, hown, hb3, hU2.out⟩
          case measure => simp [intOf]; omega
    · by_cases hodd : s.size % 2 = 1
      · have hres : Hid (R = (⟨#[]⟩, false)) := Lib.hid (by
          rw [← hRH.out]; unfold unhexR; rw [unhexL_odd _ _ (Nat.le_refl _) (by omega)])
        have hlt' : ¬ (k : Int) + 1 < s.size := by omega
        have hm : Int.tmod (s.size : Int) 2 = 1 := by rw [Int.tmod_eq_emod_of_nonneg (by omega)]; omega
        go_wp2
        go_ret2
        exact ⟨by rw [hres.out]; rfl, hb⟩
      · have hlt' : ¬ (k : Int) + 1 < s.size := by omega
        have hm : Int.tmod (s.size : Int) 2 = 0 := by rw [Int.tmod_eq_emod_of_nonneg (by omega)]; omega
        have hd : unhexL (L.drop k) = some [] := by
          rcases (show (L.drop k).length = 0 ∨ (L.drop k).length = 1 by rw [List.length_drop]; omega) with h | h
          · rw [List.length_eq_zero_iff.mp h]; rfl
          · rw [List.length_drop] at h; omega
        have hres : Hid (R = (mk M, true)) := Lib.hid (by
          rw [← hRH.out]; unfold unhexR; rw [hU, hd]; simp)
        have hcv := conv_own hrow Try.underlying31 Try.underlying5 Try.underlying9
        clear hrow
        go_wp2
        go_ret2
        exact ⟨by rw [hres.out]; rfl, hb⟩
end Go.Proofs.Ytndiagcpinmefaa.Dg
