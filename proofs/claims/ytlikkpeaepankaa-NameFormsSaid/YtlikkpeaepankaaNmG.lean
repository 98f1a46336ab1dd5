/- guidepostref01.Of. -/
import Derived.Test.YtlikkpeaepankaaNmN
namespace Go.Proofs.Ytlikkpeaepankaa.Nm
open Go.RowKit Rt Go.Proofs.YtlikkpeaepankaaW.PrintWords
set_option linter.unusedSimpArgs false

set_option maxRecDepth 100000 in
set_option maxHeartbeats 4000000 in
theorem Of_ref (A : Option Addr) (c : Nat) (l : List ByteArray) (w : World) (hr : StrRow w A l) (hn : l.length * 16 ≤ 140737488351232) :
    Calls Try.prog 16 #[.slice A l.length c] w fun e W' => e = .returned (.tuple #[.string (ofW l).1, .int .i64 (ofW l).2]) ∧ Below w.heap.size w W' := by
  go_enter Try.func16, Try.ntmps16
  go_wp2
  go_loop [6] (fun v => ∃ k : Nat, k ≤ l.length ∧ v = .int .i64 k ∧ (l.take k).all labOk = true) (fun v => l.length - (intOf v).toNat)
  case atStart => exact ⟨0, Nat.zero_le _, rfl, by simp⟩
  case round =>
    obtain ⟨k, hk, rfl, hg⟩ := hrel
    by_cases hlt : k < l.length
    · obtain ⟨ad, rfl, hc⟩ := hr k hlt
      have hG := Lib.hid hg
      have hR := Lib.hid hr
      have hlt' : (k : Int) < l.length := by omega
      clear hg hr
      by_cases hbad : l[k].size < 1 ∨ 63 < l[k].size
      · have hC : ofW l = (⟨#[]⟩, 2) := by
          unfold ofW; rw [if_neg]
          intro ha
          have := List.all_eq_true.1 ha l[k] (List.getElem_mem hlt)
          simp [labOk] at this; omega
        have hCH := Lib.hid hC
        clear hC
        rcases hbad with h | h
        · have h1' : (l[k].size : Int) < 1 := by omega
          clear h
          go_wp2
          go_ret2
          exact ⟨by rw [hCH.out]; rfl, Below.refl _ _⟩
        · have h1' : ¬ (l[k].size : Int) < 1 := by omega
          have h2' : (63 : Int) < (l[k].size : Int) := by omega
          clear h
          go_wp2
          go_ret2
          exact ⟨by rw [hCH.out]; rfl, Below.refl _ _⟩
      · have h1' : ¬ (l[k].size : Int) < 1 := by omega
        have h2' : ¬ (63 : Int) < (l[k].size : Int) := by omega
        have hG2 : Hid ((l.take (k + 1)).all labOk = true) := Lib.hid (by
          rw [List.take_succ_eq_append_getElem hlt, List.all_append, hG.out]
          simp [labOk]; omega)
        clear hG hbad
        go_wp2
        go_round
        case rel => exact ⟨k + 1, by omega, by go_num, hG2.out⟩
        case measure => simp [intOf]; omega
    · have hall : l.all labOk = true := by rw [List.take_of_length_le (by omega)] at hg; exact hg
      obtain rfl : k = l.length := by omega
      have hok : Hid (∀ k (h : k < l.length), 1 ≤ l[k].size ∧ l[k].size ≤ 63) := Lib.hid (fun k h => by
        have := List.all_eq_true.1 hall l[k] (List.getElem_mem h)
        simp [labOk] at this; omega)
      have hC : Hid (ofW l = if ofSize l ≤ 255 then (⟨(ofBytes l ++ [0]).toArray⟩, 0) else (⟨#[]⟩, 3)) := Lib.hid (by unfold ofW; rw [if_pos hall])
      have hRow := Lib.hid hr
      clear hg hall hlt hr
      go_wp2
      go_loopw [4, 5, 7] (fun z b v wr => ∃ k : Nat, k ≤ l.length ∧ v = .int .i64 k ∧ z = .string (mk (ofBytes (l.take k))) ∧ b = .bool (decide (255 < ofSize (l.take k))) ∧ ofSize (l.take k) ≤ 400 ∧ Below w.heap.size w wr) (fun _ _ v _ => l.length - (intOf v).toNat)
      case atStart => exact ⟨0, Nat.zero_le _, rfl, rfl, rfl, by simp [ofSize], Below.refl _ _⟩
      case round =>
        obtain ⟨k, hk, rfl, rfl, rfl, hsz, hb⟩ := hrel
        by_cases hlt : k < l.length
        · have hlt' : (k : Int) < l.length := by omega
          by_cases hbig : 255 < ofSize (l.take k)
          · have hCC : Hid (ofW l = (⟨#[]⟩, 3)) := Lib.hid (by
              have h1 := ofSize_le (l.take k) (l.drop k)
              rw [List.take_append_drop] at h1
              rw [hC.out, if_neg (by omega)])
            rw [decide_eq_true hbig]
            clear hbig hsz
            go_wp2
            go_ret2
            exact ⟨by rw [hCC.out]; rfl, hb⟩
          · obtain ⟨ad, rfl, hc0⟩ := hRow.out k hlt
            have hok1 := hok.out k hlt
            have hcw : wr.cell? (ad.add k) = some (.string l[k]) := Lib.Below.cellOf hb hc0 (Nat.le_refl _)
            have hblk := World.block_lt_of_cell? wr _ hcw
            have hcA : ∀ o, (wr.alloc o).cell? (ad.add k) = some (.string l[k]) := fun o => (World.cell?_of_block (w := wr) (Below.heap_alloc wr o _ hblk)).trans hcw
            have hsk := ofSize_len (l.take k)
            have hS : Hid (ofSize (l.take (k + 1)) = ofSize (l.take k) + (1 + l[k].size)) := Lib.hid (by rw [List.take_succ_eq_append_getElem hlt, ofSize_snoc])
            have hT : Hid (ofBytes (l.take (k + 1)) = ofBytes (l.take k) ++ (UInt8.ofNat l[k].size :: l[k].data.toList)) := Lib.hid (by rw [List.take_succ_eq_append_getElem hlt, ofBytes_snoc])
            rw [decide_eq_false hbig]
            obtain ⟨x, hx⟩ : ∃ x, l[k] = x := ⟨_, rfl⟩
            obtain ⟨z, hz⟩ : ∃ z, ofBytes (l.take k) = z := ⟨_, rfl⟩
            obtain ⟨m, hm⟩ : ∃ m, ofSize (l.take k) = m := ⟨_, rfl⟩
            rw [hx] at hcw hcA hok1 hS hT
            rw [hz] at hT hsk ⊢
            rw [hm] at hS hbig hsz hsk
            obtain ⟨hx1, hx2⟩ := hok1
            have hconv : ∀ (W : World) (q cp : Nat), W.cell? ⟨q, 0, none⟩ = some (.int .u8 (x.size : Int)) → (convert 53 9 (.slice (some ⟨q, 0, none⟩) 1 cp)).run Try.prog W = .ok (.string (mk [UInt8.ofNat x.size])) W := fun W q cp h => by
              have h1 := run_convert_bytes_arg (P := Try.prog) W 53 5 Try.underlying53 Try.underlying5 q 0 1 cp [(x.size : Int)] rfl
                (fun i hi => by
                  obtain rfl : i = 0 := by simp at hi; omega
                  rw [Nat.zero_add, h]; rfl) 9 Try.underlying9
              rw [h1]; rfl
            have hwr : IntKind.u8.wrap (x.size : Int) = (x.size : Int) := by simp [IntKind.wrap, IntKind.bits, IntKind.signed]; omega
            clear hc0 hx hz hm
            go_wp2
            go_region
            all_goals (
              have hS4 : mk z ++ mk [UInt8.ofNat x.size] ++ x = mk (z ++ (UInt8.ofNat x.size :: x.data.toList)) := by
                rw [← mk_toList x, mk_append, mk_append]; simp
              rw [hS4]
              have hsz4 : (mk (z ++ (UInt8.ofNat x.size :: x.data.toList))).size = m + x.size := by
                have : x.data.toList.length = x.size := rfl
                rw [mk_size, List.length_append, List.length_cons, this]; omega
              go_wp2
              go_roundw
              case rel => exact ⟨k + 1, by omega, by go_num, by rw [hT.out], by (rw [hS.out]; congr 1; apply Bool.eq_iff_iff.2; rw [decide_eq_true_eq, decide_eq_true_eq]; omega), by (rw [hS.out]; omega), by first | exact (hb.alloc hb.size _).drew | exact hb.drew.alloc hb.size _ | exact hb.alloc hb.size _⟩
              case measure => simp [intOf]; omega)
        · obtain rfl : k = l.length := by omega
          have htk : l.take l.length = l := List.take_length
          rw [htk] at hsz ⊢
          have hsk := ofSize_len l
          by_cases hbig : 255 < ofSize l
          · have hCC : Hid (ofW l = (⟨#[]⟩, 3)) := Lib.hid (by rw [hC.out, if_neg (by omega)])
            rw [decide_eq_true hbig]
            clear hbig
            go_wp2
            go_ret2
            exact ⟨by rw [hCC.out]; rfl, hb⟩
          · have hCC : Hid (ofW l = (mk (ofBytes l ++ [0]), 0)) := Lib.hid (by rw [hC.out, if_pos (by omega)]; rfl)
            rw [decide_eq_false hbig]
            have hsz5 : (mk (ofBytes l)).size + 1 ≤ 9223372036854775807 := by rw [mk_size]; omega
            clear hbig
            go_wp2
            go_ret2
            exact ⟨by rw [hCC.out, ← mk_append]; rfl, hb⟩
end Go.Proofs.Ytlikkpeaepankaa.Nm
