/- guidepostref01.Lower. -/
import Derived.Test.YtlikkpeaepankaaNmM
import Derived.Deep.RegionWith
namespace Go.Proofs.Ytlikkpeaepankaa.Nm
open Go.RowKit Rt Go.Proofs.YtlikkpeaepankaaW.PrintWords
set_option linter.unusedSimpArgs false

theorem own_cell {w : World} {B n : Nat} {e : TypeId} {v : Value} {xs : List Value} (h : w.ownsRow B e 1 v n xs) (hn : n ≠ 0) : ∃ g cap, v = .slice (some ⟨g, 0, none⟩) n cap ∧ g < w.heap.size ∧ ∀ k (hk : k < xs.length), w.cell? ⟨g, k, none⟩ = some xs[k] := by
  rcases h.2 with ⟨_, h0⟩ | ⟨g, cap, cur, hv, _, hg, hle, _, hsz, htk⟩
  · exact absurd h0 hn
  · refine ⟨g, cap, hv, (Array.getElem?_eq_some_iff.1 hg).1, fun k hk => ?_⟩
    have h1 := h.1
    have hk2 : k < n * 1 := by omega
    have hk3 : k < cur.size := by rw [hsz]; omega
    have h2 : xs[k]? = cur.toList[k]? := by rw [← htk, List.getElem?_take, if_pos hk2]
    rw [List.getElem?_eq_getElem hk, List.getElem?_eq_getElem (by simpa using hk3)] at h2
    simp only [World.cell?, hg]
    have h3 := Option.some.inj h2
    simp [hk3, h3]

set_option maxRecDepth 100000 in
set_option maxHeartbeats 4000000 in
theorem Lower_ref (s : ByteArray) (hs : s.size ≤ 140737488351232) (w : World) :
    Calls Try.prog 21 #[.string s] w fun e W' => e = .returned (.string (lowerW s)) ∧ Below w.heap.size w W' := by
  by_cases hR : rightB s = true
  · obtain ⟨a, ha, rfl⟩ := right_isN hR
    have hLr := ha.labels
    have hal : a.length ≤ 128 := by have := labs_length (mk (enc a)) _ 0 rfl; rw [labs_enc a ha.ok] at this; have h2 := congrArg List.length (posL_snd a 0); simp at h2; have := ha.size; omega
    have hfl : ∀ k, (flat ((a.take k).map lowL)).length ≤ 255 := fun k => by
      rw [flat_lowL]
      have h1 : (flat (a.take k)).length ≤ (flat a).length := by
        have h2 := congrArg List.length (flat_append (a.take k) (a.drop k))
        rw [List.take_append_drop, List.length_append] at h2; omega
      have h3 := ha.le
      rw [enc_length] at h3; omega
    have hF := Lib.hid hfl
    rw [ha.lower]
    go_enter Try.func21, Try.ntmps21
    go_wp2_with (go_at_call 14; refine (Labels_ref _ hs _).mono ?_; rintro e w1 ⟨v, rfl, hrow, hb1⟩; rw [hR])
    rw [hLr, List.length_map] at hrow
    by_cases h0 : a.length = 0
    · obtain rfl := List.length_eq_zero_iff.1 h0
      rcases hrow.2 with ⟨rfl, _⟩ | ⟨g, cap, cur, rfl, _, hg, _⟩
      · go_loopw [5, 6] (fun z i wr => i = .int .i64 0 ∧ z = .string ⟨#[]⟩ ∧ wr = w1) (fun _ _ _ => 0)
        case atStart => exact ⟨rfl, rfl, rfl⟩
        case round =>
          obtain ⟨rfl, rfl, rfl⟩ := hrel
          go_wp2
          go_ret
          exact ⟨rfl, hb1⟩
      · go_loopw [5, 6] (fun z i wr => i = .int .i64 0 ∧ z = .string ⟨#[]⟩ ∧ wr = w1) (fun _ _ _ => 0)
        case atStart => exact ⟨rfl, rfl, rfl⟩
        case round =>
          obtain ⟨rfl, rfl, rfl⟩ := hrel
          go_wp2
          go_ret
          exact ⟨rfl, hb1⟩
    · obtain ⟨g, cap, rfl, hgl, hcell⟩ := own_cell hrow h0
      have hCe : Hid (∀ wr, Below w1.heap.size w1 wr → ∀ k (h : k < a.length), wr.cell? ⟨g, k, none⟩ = some (.string (mk a[k]))) := Lib.hid (fun wr hb k h => by
        rw [hb.cell (p := ⟨g, k, none⟩) hgl, hcell k (by simpa using h)]; simp)
      have hok := Lib.hid ha.ok
      clear hcell hrow hfl hLr
      go_loopw [5, 6] (fun z i wr => ∃ k : Nat, i = .int .i64 k ∧ k ≤ a.length ∧ z = .string (mk (flat ((a.take k).map lowL))) ∧ Below w1.heap.size w1 wr) (fun _ i _ => a.length - (intOf i).toNat)
      case atStart => exact ⟨0, rfl, Nat.zero_le _, rfl, Below.refl _ _⟩
      case round =>
        obtain ⟨k, rfl, hk, rfl, hb⟩ := hrel
        by_cases hlt : k < a.length
        · have hlt' : (k : Int) < a.length := by omega
          have hc := hCe.out wr hb k hlt
          have hT : Hid (flat ((a.take (k + 1)).map lowL) = flat ((a.take k).map lowL) ++ (UInt8.ofNat a[k].length :: lowL a[k])) := Lib.hid (by rw [List.take_succ_eq_append_getElem hlt, List.map_append, flat_append]; simp)
          have hx := hok.out a[k] (List.getElem_mem hlt)
          obtain ⟨hx1, hx2⟩ := hx
          have hfk := hF.out k
          obtain ⟨x, hxx⟩ : ∃ x, a[k] = x := ⟨_, rfl⟩
          obtain ⟨z, hz⟩ : ∃ z, flat ((a.take k).map lowL) = z := ⟨_, rfl⟩
          rw [hxx] at hc hT hx1 hx2
          rw [hz] at hT hfk ⊢
          clear hz
          go_wp2
          have hsz : w1.heap.size ≤ wr.heap.size := hb.size
          have hgl2 : g < wr.heap.size := by omega
          have hsx : (mk x).size ≤ 140737488351232 := by rw [mk_size]; omega
          have hxl : (x.length : Int) ≤ 255 := by omega
          have hconv : ∀ (W : World) (q cp : Nat), W.cell? ⟨q, 0, none⟩ = some (.int .u8 (x.length : Int)) → (convert 53 9 (.slice (some ⟨q, 0, none⟩) 1 cp)).run Try.prog W = .ok (.string (mk [UInt8.ofNat x.length])) W := fun W q cp h => by
            have h1 := run_convert_bytes_arg (P := Try.prog) W 53 5 Try.underlying53 Try.underlying5 q 0 1 cp [(x.length : Int)] rfl
              (fun i hi => by
                obtain rfl : i = 0 := by simp at hi; omega
                rw [Nat.zero_add, h]; rfl) 9 Try.underlying9
            rw [h1]; rfl
          have hxz : (mk x).size = x.length := rfl
          have hwr : IntKind.u8.wrap (x.length : Int) = (x.length : Int) := by simp [IntKind.wrap, IntKind.bits, IntKind.signed]; omega
          go_region_with (go_at_call 47; refine (small_ref (mk x) hsx _).mono ?_; rintro e w2 ⟨rfl, hb2⟩; have hb3 : Below w1.heap.size w1 w2 := Below.trans (by first | exact hb.drew | exact hb.drew.alloc (by simp; omega) _ | exact hb | exact hb.alloc (by omega) _) (hb2.mono (by simp; omega)); have hc2 := hCe.out w2 hb3 k hlt; have hq2 := hb2.cell (p := ⟨wr.heap.size, 0, none⟩); simp at hq2)
          all_goals (
            go_wp2
            exact ⟨⟨k + 1, by congr 1, by omega, by (rw [hT.out]; simp [mk_append]), by (first | exact hb3 | exact hb3.drew | exact hb3.alloc (by have := hb3.size; omega) _ | exact (hb3.alloc (by have := hb3.size; omega) _).drew | exact hb3.drew.alloc (by have := hb3.size; simp; omega) _)⟩, by simp [intOf]; omega⟩)
        · obtain rfl : k = a.length := by omega
          have htk : a.take a.length = a := List.take_length
          have hfk := hF.out a.length
          rw [htk] at hfk ⊢
          have hsz : (mk (flat (a.map lowL))).size + 1 ≤ 9223372036854775807 := by rw [mk_size]; omega
          go_wp2
          go_ret
          exact ⟨rfl, hb1.trans (hb.mono hb1.size)⟩
  · have hRf : rightB s = false := by simpa using hR
    have hL : lowerW s = s := by unfold lowerW; rw [if_neg hR]
    rw [hL]
    clear hL hR
    go_enter Try.func21, Try.ntmps21
    go_wp2_with (go_at_call 14; refine (Labels_ref _ hs _).mono ?_; rintro e w1 ⟨v, rfl, hrow, hb1⟩; rw [hRf])
    go_ret
    exact ⟨rfl, hb1⟩
end Go.Proofs.Ytlikkpeaepankaa.Nm
