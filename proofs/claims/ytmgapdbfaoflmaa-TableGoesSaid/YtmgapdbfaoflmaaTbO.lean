/- TableGoes: a round of its own function, walked. -/
import Derived.Test.YtmgapdbfaoflmaaTbN
namespace Go.Proofs.Ytmgapdbfaoflmaa.Tb
open Go.RowKit Go.Shelf Rt Tm
set_option linter.unusedSimpArgs false
set_option linter.unusedVariables false
/-- What stays: the boxes and the rows that are only read. -/
structure St (wF : World) (F : Nat → Prop) (Bd Bt Bb Bl tb : Nat) (q : Nat) (ad : Option Addr) (nd cd : Nat) (fd : Nat → ByteArray) (ab : Option Addr) (nb cb : Nat) (fb : Nat → ByteArray) : Prop where
  lt : ∀ x, F x → x < wF.heap.size
  d : F Bd ∧ wF.cell? ⟨Bd, 0, none⟩ = some (.slice ad nd cd)
  t : F Bt ∧ wF.cell? ⟨Bt, 0, none⟩ = some (.pointer (some ⟨tb, 0, none⟩))
  b : F Bb ∧ wF.cell? ⟨Bb, 0, none⟩ = some (.slice ab nb cb)
  l : F Bl ∧ wF.cell? ⟨Bl, 0, none⟩ = some (.int .i64 (q : Int))
  dr : ∀ j, j < nd → (fd j).size ≤ 140737488351232 ∧ ∃ b off, ad = some ⟨b, off, none⟩ ∧ F b ∧ wF.cell? ⟨b, off + j, none⟩ = some (.string (fd j))
  br : ∀ j, j < nb → ∃ b off, ab = some ⟨b, off, none⟩ ∧ F b ∧ wF.cell? ⟨b, off + j, none⟩ = some (.string (fb j))
  ndc : nd ≤ cd ∧ cd ≤ maxLen
  nbc : nb ≤ cb ∧ cb ≤ maxLen ∧ nb ≤ 100000
def newK (d : ByteArray) : ByteArray := (⟨#[110, 101, 119]⟩ : ByteArray) ++ d
theorem GI.box {w00 wF wr : World} {F : Nat → Prop} {tb Bo : Nat} {T : List ByteArray} {l : List KV} (h : GI w00 wF wr F tb Bo T l) : ∃ a c, wr.cell? ⟨Bo, 0, none⟩ = some (.slice a T.length c) := by
  obtain ⟨S, bm, v, h1, h2, h3, h4, h5⟩ := h.ex
  rcases h3.2 with ⟨rfl, e⟩ | ⟨g, cap, cur, rfl, _⟩
  · exact ⟨none, 0, by rw [h2.cell, e]⟩
  · exact ⟨_, cap, h2.cell⟩
theorem newK_size (d : ByteArray) : (newK d).size = d.size + 3 := by unfold newK; rw [ByteArray.size_append]; show 3 + _ = _; omega
/-- The table behind a round. -/
def stepL (nd : Nat) (fd : Nat → ByteArray) (nb : Nat) (fb : Nat → ByteArray) (m : Nat) (l : List KV) : List KV :=
  if m < nd then (if decide (∃ i, i < nb ∧ fb i = newK (fd m)) then delK l (fd m) else putK 1000 (delK l (fd m)) (newK (fd m)) 1) else l
section
variable {w00 wF wr : World} {F : Nat → Prop} {Bd Bt Bb Bl Bo tb q : Nat} {ad ab : Option Addr} {nd cd nb cb : Nat} {fd fb : Nat → ByteArray} {T : List ByteArray} {l : List KV}
set_option maxRecDepth 100000 in
set_option maxHeartbeats 4000000 in
theorem Goes1_any (hS : St wF F Bd Bt Bb Bl tb q ad nd cd fd ab nb cb fb) (hG : GI w00 wF wr F tb Bo T l) (hT : T.length ≤ 100) (hq : q ≤ 100) (k : ByteArray) (x : Int) :
    Calls Try.prog 28 #[.string k, .int .i64 x, .pointer (some ⟨Bo, 0, none⟩), .pointer (some ⟨Bd, 0, none⟩), .pointer (some ⟨Bt, 0, none⟩), .pointer (some ⟨Bb, 0, none⟩), .pointer (some ⟨Bl, 0, none⟩)] wr fun e w' =>
      e = .returned (.bool (decide (T.length + 1 ≤ q))) ∧ GI w00 wF w' F tb Bo (T ++ [k]) (stepL nd fd nb fb T.length l) ∧ Kept (Mo w00 F) wr w' := by
  obtain ⟨i0, hi, hz0, hz1, hz2⟩ := info_parts info9
  obtain ⟨S, bm, v, h1, h2, h3, h4, h5⟩ := hG.ex
  have hcv := h2.cell
  have hSH := Lib.hid hS
  have hGH := Lib.hid hG
  have hnbc := hS.nbc
  have hndc := hS.ndc
  have hnd' : (nd : Int) ≤ 9223372036854775807 := by have := hndc.2; unfold maxLen at this; omega
  have hcd' : (cd : Int) ≤ 9223372036854775807 := by have := hndc.2; unfold maxLen at this; omega
  clear hS hG
  obtain ⟨m, hm⟩ : ∃ m, T.length = m := ⟨_, rfl⟩
  have hmH := Lib.hid hm
  have hTc : Hid (T.map Value.string ++ [Value.string k] = (T ++ [k]).map Value.string) := Lib.hid (by simp)
  rw [hm] at h3 hT ⊢
  clear hm
  go_enter Try.func28, Try.ntmps28
  have hdec : Hid ((decide ((m : Int) + 1 ≤ (q : Int))) = decide (m + 1 ≤ q)) := Lib.hid (by simp only [decide_eq_decide]; omega)
  by_cases hmn : m < nd
  · have hmn' : (m : Int) + 1 ≤ nd := by omega
    obtain ⟨hds, b, off, rfl, hFb, hcm⟩ := hSH.out.dr m hmn
    have e1 : (m : Int) + 1 - 1 = (m : Int) := by omega
    have hmn2 : (m : Int) < nd := by omega
    have hmw := Tb.wr (show -9223372036854775808 ≤ (m : Int) by omega) (by omega)
    obtain ⟨d, hd⟩ : ∃ d, fd m = d := ⟨_, rfl⟩
    rw [hd] at hds hcm
    have hsL : Hid (stepL nd fd nb fb m l = if decide (∃ i, i < nb ∧ fb i = newK d) then delK l d else putK 1000 (delK l d) (newK d) 1) := Lib.hid (by unfold stepL; rw [if_pos hmn, hd])
    clear hmn hd
    go_wp2_with (at_builtin; refine wpList_append_own_at _ rfl (.tmp 13) (.tmp 15) 22 rfl 0 9 i0 (.string ⟨#[]⟩) 1 16 Try.underlying22 hi hz0 hz1 hz2 rfl (by decide) v m (T.map Value.string) rfl (h3.alloc _) ⟨wr.heap.size, 0, none⟩ 1 1 [.string k] rfl rfl (cell_one_new _ _ _) (by intro u hu; simp at hu; rcases hu with rfl; rfl) (by unfold maxLen; omega) (by omega) (Nat.zero_le _) ?_; intro v3 w3 hown3 hgrow3 hnil3 hat3; rw [hTc.out] at hown3; obtain ⟨hb1, hG2, hK2, hb2⟩ := hGH.out.tell (k := k) hSH.out.lt h1 h2 (by rw [hmH.out]; exact h3) h4 h5 (by rw [List.length_append, hmH.out]; exact hown3) hgrow3 hat3; obtain ⟨g3, cap3, rfl⟩ := ownsRow_succ hown3; have hcb2 := hb2.cell; have hc3 := hb1.cell; have hf3 := hb1.frozen; have hG2H := Lib.hid hG2; have hd2 := hG2.cell (p := ⟨Bd, 0, none⟩) hSH.out.d.1 hSH.out.d.2; have hdx := hG2.cell (p := ⟨b, off + m, none⟩) hFb hcm; have ht2 := hG2.cell (p := ⟨Bt, 0, none⟩) hSH.out.t.1 hSH.out.t.2; have hK2H := Lib.hid hK2; clear hK2; clear hown3 hgrow3 hnil3 hat3 hb1 hb2 hG2 hcv)
    have hdrop := Lib.hid (hG2H.out.drop hSH.out.lt (k := d) (by unfold maxLen; omega))
    refine hdrop.out.mono ?_
    rintro e w5 ⟨rfl, hG5, hk5⟩
    have hK5 := Lib.hid (hK2H.out.trans hk5)
    have hb5 := hG5.cell (p := ⟨Bb, 0, none⟩) hSH.out.b.1 hSH.out.b.2
    have hl5 := hG5.cell (p := ⟨Bl, 0, none⟩) hSH.out.l.1 hSH.out.l.2
    have ht5 := hG5.cell (p := ⟨Bt, 0, none⟩) hSH.out.t.1 hSH.out.t.2
    obtain ⟨ao, co, ho5⟩ := hG5.box
    rw [List.length_append, hmH.out, List.length_singleton] at ho5
    have hG5H := Lib.hid hG5
    clear hdrop hk5 hdx ht2 hd2 hcb2 hc3 hf3 hG2H hG5 h1 h2 h3 h4 h5
    go_wp2
    go_loop [11, 12] (fun o i => ∃ (L : Bool) (x : Nat), o = .bool L ∧ i = .int .i64 (x : Int) ∧ x ≤ nb ∧ Hid (L = true ↔ ∀ i', i' < x → fb i' ≠ newK d)) (fun o i => nb - (intOf i).toNat)
    case atStart => exact ⟨true, 0, rfl, rfl, Nat.zero_le _, Lib.hid ⟨fun _ i' h => (by omega), fun _ => rfl⟩⟩
    case round =>
      obtain ⟨L, x, rfl, rfl, hx, hL⟩ := hrel
      by_cases hxn : x < nb
      · have hxn' : (x : Int) < nb := by omega
        obtain ⟨bb, offb, hab, hFbb, hcx⟩ := hSH.out.br x hxn
        subst hab
        have qx := hG5H.out.cell (p := ⟨bb, offb + x, none⟩) hFbb hcx
        have hxw := Tb.wr (show -9223372036854775808 ≤ (x : Int) + 1 by omega) (by omega)
        have hcc : (x : Int) < cb := by omega
        clear hcx
        cases L with
        | false =>
          have hL2 : Hid (false = true ↔ ∀ i', i' < x + 1 → fb i' ≠ newK d) := Lib.hid ⟨fun h => (by cases h), fun h => hL.out.2 fun i' hi' => h i' (by omega)⟩
          go_wp2
          go_round
          case rel => exact ⟨false, x + 1, rfl, by go_num, by omega, hL2⟩
          case measure => first | (simp [intOf]; done) | (simp [intOf]; omega)
        | true =>
          have hL2 : Hid ((!((fb x).toList == (newK d).toList)) = true ↔ ∀ i', i' < x + 1 → fb i' ≠ newK d) := Lib.hid (by
            have htb := tl_beq (fb x) (newK d)
            cases hq2 : ((fb x).toList == (newK d).toList) with
            | true =>
              rw [hq2] at htb
              simp only [Bool.not_true, Bool.false_eq_true, false_iff]
              exact fun h => h x (by omega) (htb.1 rfl)
            | false =>
              rw [hq2] at htb
              simp only [Bool.not_false, true_iff]
              intro i' hi' e
              by_cases h2 : i' = x
              · subst h2; have := htb.2 e; cases this
              · exact hL.out.1 rfl i' (by omega) e)
          have hadd := run_string_add_sum (P := Try.prog) w5 ⟨#[110, 101, 119]⟩ d (by show 3 + _ ≤ _; omega)
          go_wp2
          go_round
          case rel => exact ⟨_, x + 1, rfl, by go_num, by omega, hL2⟩
          case measure => first | (simp [intOf]; done) | (simp [intOf]; omega)
      · obtain rfl : x = nb := by omega
        have hxn' : ¬ (x : Int) < x := by omega
        cases L with
        | false =>
          have hex : Hid (decide (∃ i, i < x ∧ fb i = newK d) = true) := Lib.hid (by
            rw [decide_eq_true_iff]
            apply Classical.byContradiction
            intro hne
            have := hL.out.2 fun i' hi' e => hne ⟨i', hi', e⟩
            cases this)
          go_wp2
          refine bodyPost_ret (v := .bool (decide ((m : Int) + 1 ≤ (q : Int)))) (by simp [results, Try.results28, go_sem]) rfl ⟨by rw [hdec.out], ?_, ?_⟩
          · rw [hsL.out, hex.out]; exact hG5H.out
          · exact hK5.out
        | true =>
          have hex : Hid (decide (∃ i, i < x ∧ fb i = newK d) = false) := Lib.hid (by
            rw [decide_eq_false_iff_not]
            rintro ⟨i', hi', e⟩
            exact hL.out.1 rfl i' hi' e)
          have hadd := run_string_add_sum (P := Try.prog) w5 ⟨#[110, 101, 119]⟩ d (by show 3 + _ ≤ _; omega)
          have hput := Lib.hid (hG5H.out.put hSH.out.lt (k := newK d) (by rw [newK_size]; unfold maxLen; omega) 1)
          go_wp2_with fail
          refine hput.out.mono ?_
          rintro e w7 ⟨⟨u, rfl⟩, hG7, hk7⟩
          have hl7 := hG7.cell (p := ⟨Bl, 0, none⟩) hSH.out.l.1 hSH.out.l.2
          obtain ⟨ao7, co7, ho7⟩ := hG7.box
          rw [List.length_append, hmH.out, List.length_singleton] at ho7
          have hG7H := Lib.hid hG7
          clear hput hb5 hl5 ht5 ho5 hG7
          go_wp2
          refine bodyPost_ret (v := .bool (decide ((m : Int) + 1 ≤ (q : Int)))) (by simp [results, Try.results28, go_sem]) rfl ⟨by rw [hdec.out], ?_, ?_⟩
          · rw [hsL.out, hex.out]; exact hG7H.out
          · exact hK5.out.trans hk7
  · have hmn' : ¬ (m : Int) + 1 ≤ nd := by omega
    have hsL : Hid (stepL nd fd nb fb m l = l) := Lib.hid (by unfold stepL; rw [if_neg hmn])
    go_wp2_with (at_builtin; refine wpList_append_own_at _ rfl (.tmp 13) (.tmp 15) 22 rfl 0 9 i0 (.string ⟨#[]⟩) 1 16 Try.underlying22 hi hz0 hz1 hz2 rfl (by decide) v m (T.map Value.string) rfl (h3.alloc _) ⟨wr.heap.size, 0, none⟩ 1 1 [.string k] rfl rfl (cell_one_new _ _ _) (by intro u hu; simp at hu; rcases hu with rfl; rfl) (by unfold maxLen; omega) (by omega) (Nat.zero_le _) ?_; intro v3 w3 hown3 hgrow3 hnil3 hat3; rw [hTc.out] at hown3; obtain ⟨hb1, hG2, hK2, hb2⟩ := hGH.out.tell (k := k) hSH.out.lt h1 h2 (by rw [hmH.out]; exact h3) h4 h5 (by rw [List.length_append, hmH.out]; exact hown3) hgrow3 hat3; obtain ⟨g3, cap3, rfl⟩ := ownsRow_succ hown3; have hcb2 := hb2.cell; have hc3 := hb1.cell; have hf3 := hb1.frozen; have hG2H := Lib.hid hG2; have hd2 := hG2.cell (p := ⟨Bd, 0, none⟩) hSH.out.d.1 hSH.out.d.2; have hl2 := hG2.cell (p := ⟨Bl, 0, none⟩) hSH.out.l.1 hSH.out.l.2; clear hown3 hgrow3 hnil3 hat3 hb1 hb2 hG2 hcv)
    refine bodyPost_ret (v := .bool (decide ((m : Int) + 1 ≤ (q : Int)))) (by simp [results, Try.results28, go_sem]) rfl ⟨by rw [hdec.out], ?_, ?_⟩
    · rw [hsL.out]; exact hG2H.out
    · exact hK2
end
end Go.Proofs.Ytmgapdbfaoflmaa.Tb
