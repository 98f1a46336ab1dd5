/- All: goes over the keys that were there, those that are there still. -/
import Derived.Test.YtmgapdbfaoflmaaTbX
namespace Go.Proofs.Ytmgapdbfaoflmaa.Tb
open Go.RowKit Go.Shelf Rt Tm
set_option linter.unusedSimpArgs false
set_option linter.unusedVariables false
theorem All_any (w : World) (tb : Nat) : Calls Try.prog 27 #[.pointer (some ⟨tb, 0, none⟩)] w fun e w' => e = .returned (.func (.func 56) #[] #[.pointer (some ⟨w.heap.size, 0, none⟩)]) ∧ w' = w.alloc (.cells #[.pointer (some ⟨tb, 0, none⟩)] 25) := by
  go_enter Try.func27, Try.ntmps27
  go_wp2
  go_ret
  exact ⟨rfl, rfl⟩
set_option maxRecDepth 100000 in
set_option maxHeartbeats 2000000 in
theorem All1_any {w0 : World} {S0 : Nat → Prop} {Bt tb bm most : Nat} {l0 : List KV} {g : FuncId} {caps : Array Value} {Q : World → Prop} (h0 : TabS w0 S0 tb bm most l0) (hbox : w0.cell? ⟨Bt, 0, none⟩ = some (.pointer (some ⟨tb, 0, none⟩))) (hsz : ∀ p ∈ l0, p.1.size ≤ maxLen) (hen : ∀ args w, (callFunc g args).run Try.prog w = .ok (.enter g args) w)
    (hI : ∀ w1, Below w0.heap.size w0 w1 → ∃ (I : Nat → World → Prop) (Ix : World → Prop), I 0 w1 ∧
      (∀ j w, I j w → (hj : j < l0.length) → w.cell? ⟨Bt, 0, none⟩ = some (.pointer (some ⟨tb, 0, none⟩)) ∧ ∃ S bm' most' l, TabS w S tb bm' most' l ∧ (lookV l l0[j].1 = none → I (j + 1) w) ∧
        ∀ v, lookV l l0[j].1 = some v → Calls Try.prog g (#[.string l0[j].1, .int .i64 v] ++ caps) w fun e w' => ((e = .returned (.bool true) ∧ I (j + 1) w') ∨ (e = .returned (.bool false) ∧ Ix w')) ∧ Kept (fun x => ¬ (w0.heap.size ≤ x ∧ x < w1.heap.size)) w w') ∧
      (∀ w, I l0.length w → Q w) ∧ (∀ w, Ix w → Q w)) :
    Calls Try.prog 56 #[.func (.func g) #[] caps, .pointer (some ⟨Bt, 0, none⟩)] w0 fun e w' => e = .returned (.tuple #[]) ∧ Q w' := by
  have hkeys := Lib.hid (Keys_S h0)
  have hlen := h0.len
  have hm2 := h0.m2
  clear h0
  go_enter Try.func56, Try.ntmps56
  go_wp2_with fail
  refine hkeys.out.mono ?_
  rintro e w1 ⟨v, rfl, hrow, hb1⟩
  obtain ⟨I, Ix, hI0, hstep, hQ, hQx⟩ := hI w1 hb1
  obtain ⟨n, hn⟩ : ∃ n, l0.length = n := ⟨_, rfl⟩
  rw [hn] at hrow hlen
  obtain ⟨a, c, rfl⟩ : ∃ a c, v = .slice a n c := by
    rcases hrow.2 with ⟨rfl, rfl⟩ | ⟨g, cap, cur, rfl, _⟩
    · exact ⟨_, _, rfl⟩
    · exact ⟨_, _, rfl⟩
  have hrowH := Lib.hid hrow
  have hnH := Lib.hid hn
  have hbox1 := (hb1.cell (p := ⟨Bt, 0, none⟩) (block_lt hbox)).trans hbox
  have hstepH := Lib.hid hstep
  have hQH := Lib.hid hQ
  have hQxH := Lib.hid hQx
  have hI0H := Lib.hid hI0
  clear hI hkeys hrow hn hstep hQ hQx hI0
  go_wp2
  go_loopw [10] (fun i wr => ∃ k : Nat, i = .int .i64 k ∧ k ≤ n ∧ Hid (I k wr) ∧ Kept (fun x => ¬ (w0.heap.size ≤ x ∧ x < w1.heap.size)) w1 wr) (fun i _ => n - (intOf i).toNat)
  case atStart => exact ⟨0, rfl, Nat.zero_le _, hI0H, Kept.refl _ _⟩
  case round =>
    clear hI0H hbox hbox1
    obtain ⟨k, rfl, hk, hIk, hkp⟩ := hrel
    by_cases hkn : k < n
    · have hkn' : (k : Int) < n := by omega
      have hkl : k < l0.length := by rw [hnH.out]; exact hkn
      obtain ⟨hbx, S, bm', most', l, hT, hno, hyes⟩ := hstepH.out k wr hIk.out hkl
      obtain ⟨p, hp⟩ : ∃ p, l0[k] = p := ⟨_, rfl⟩
      have hpm : p ∈ l0 := hp ▸ List.getElem_mem hkl
      have hps := hsz p hpm
      rw [hp] at hno hyes
      obtain ⟨b, rfl, qk⟩ : ∃ b, a = some ⟨b, 0, none⟩ ∧ wr.cell? ⟨b, k, none⟩ = some (.string p.1) := by
        rcases hrowH.out.2 with ⟨_, e⟩ | ⟨g', cap, cur, hv, hg, hh, r⟩
        · omega
        · cases hv
          have hc := hrowH.out.cellAt k (by rw [Nat.mul_one]; exact hkn)
          refine ⟨g', rfl, ?_⟩
          have hblk : wr.heap[g']? = w1.heap[g']? := hkp.block g' (Array.getElem?_eq_some_iff.1 hh).1 (fun e => e ⟨hg, (Array.getElem?_eq_some_iff.1 hh).1⟩)
          rw [World.cell?_of_block (a := ⟨g', k, none⟩) hblk, hc]
          simp [List.getD_eq_getElem?_getD, List.getElem?_map, List.getElem?_eq_getElem hkl, hp]
      have hlook := Lib.hid (Look_S hT hps)
      clear hT hpm
      cases hlv : lookV l p.1 with
      | none =>
        rw [hlv] at hlook
        have hI2 := Lib.hid (hno hlv)
        clear hyes hno hlv
        go_wp2_with fail
        refine hlook.out.mono ?_
        rintro e w2 ⟨rfl, rfl⟩
        simp only [Option.getD_none, Option.isSome_none]
        clear hlook
        go_wp2
        go_roundw
        case rel => exact ⟨k + 1, by go_num, by omega, hI2, hkp⟩
        case measure => first | (simp [intOf]; done) | (simp [intOf]; omega)
      | some v =>
        rw [hlv] at hlook
        have hcall := Lib.hid (hyes v hlv)
        have hen2 := hen (#[.string p.1, .int .i64 v] ++ caps) wr
        clear hyes hno hlv
        go_wp2_with fail
        refine hlook.out.mono ?_
        rintro e w2 ⟨rfl, rfl⟩
        simp only [Option.getD_some, Option.isSome_some]
        clear hlook
        go_wp2_with fail
        refine hcall.out.mono ?_
        rintro e w3 ⟨⟨rfl, hI3⟩ | ⟨rfl, hI3⟩, hk3⟩
        · have hI3H := Lib.hid hI3
          clear hI3 hcall hen2
          go_wp2
          go_roundw
          case rel => exact ⟨k + 1, by go_num, by omega, hI3H, hkp.trans hk3⟩
          case measure => first | (simp [intOf]; done) | (simp [intOf]; omega)
        · have hI3H := Lib.hid hI3
          clear hI3 hcall hen2
          go_wp2
          refine bodyPost_ret (results_none rfl _ _ _) rfl ?_
          exact ⟨rfl, hQxH.out _ hI3H.out⟩
    · obtain rfl : k = n := by omega
      have hkn' : ¬ (k : Int) < k := by omega
      go_wp2
      go_end0
      exact ⟨rfl, hQH.out _ (by rw [hnH.out]; exact hIk.out)⟩
end Go.Proofs.Ytmgapdbfaoflmaa.Tb
