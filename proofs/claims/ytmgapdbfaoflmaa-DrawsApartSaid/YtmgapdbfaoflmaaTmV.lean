/- DrawsApart walked. -/
import Derived.Test.YtmgapdbfaoflmaaTmW
namespace Go.Proofs.Ytmgapdbfaoflmaa.Tm
open Go.RowKit Rt
set_option linter.unusedSimpArgs false
set_option linter.unusedVariables false
theorem own_keep {w w' : World} {base : Nat} {e : TypeId} {size n : Nat} {v : Value} {xs : List Value} (h : w.ownsRow base e size v n xs) (hk : ∀ k, base ≤ k → k < w.heap.size → w'.heap[k]? = w.heap[k]?) : w'.ownsRow base e size v n xs := by
  obtain ⟨h1, h2⟩ := h
  refine ⟨h1, ?_⟩
  rcases h2 with h2 | ⟨g, cap, cur, hv, hg, hh, r⟩
  · exact .inl h2
  · exact .inr ⟨g, cap, cur, hv, hg, (hk g hg (Array.getElem?_eq_some_iff.1 hh).1).trans hh, r⟩
theorem DrawsAt.wfs {w : World} {p : Nat} {L : List Int} {S : Nat → Prop} (h : DrawsAt w p L S) : ∀ x ∈ L, wu x := by obtain ⟨⟨v, _, h⟩, _⟩ := h; exact h.wfs
/-- The state of DrawsApart's loops. -/
structure AI (w w3 wr : World) (p1 p2 : Nat) (S1 S2 : Nat → Prop) (L1 L2 : List Int) (first : Value) (m : Nat) (out : List Int) : Prop where
  d1 : DrawsAt wr p1 L1 S1
  d2 : DrawsAt wr p2 L2 S2
  row : wr.ownsRow w3.heap.size 3 1 first m (numC out)
  below : Below w.heap.size w wr
  size : w3.heap.size ≤ wr.heap.size
/-- Where the two lie. -/
structure AP (w w3 : World) (p1 p2 : Nat) (S1 S2 : Nat → Prop) : Prop where
  sz : w.heap.size ≤ w3.heap.size
  p1b : w.heap.size ≤ p1 ∧ p1 < w3.heap.size
  p2b : w.heap.size ≤ p2 ∧ p2 < w3.heap.size
  ne : p1 ≠ p2
  s1 : ∀ k, S1 k → k < w3.heap.size ∧ k ≠ p2
  s2 : ∀ k, S2 k → k < w3.heap.size ∧ k ≠ p1
section
variable {w w3 wr w5 : World} {p1 p2 : Nat} {S1 S2 : Nat → Prop} {L1 L2 : List Int} {first : Value} {m : Nat} {out : List Int}
theorem AI.next1 (h : AI w w3 wr p1 p2 S1 S2 L1 L2 first m out) (hp : AP w w3 p1 p2 S1 S2) {L1' : List Int} (hd : DrawsAt w5 p1 L1' S1) (hk : Kept (fun k => k = p1) wr w5) : AI w w3 w5 p1 p2 S1 S2 L1' L2 first m out :=
  ⟨hd, h.d2.keep (fun k hk' e => hk.block k hk' (by rcases e with rfl | e; exact Ne.symm hp.ne; exact (hp.s2 k e).2)) hk.size, own_keep h.row (fun k h1 h2 => hk.block k h2 (by have := hp.p1b; omega)), h.below.trans (hk.below h.below.size (fun k hk' e => by have := hp.p1b; omega)), Nat.le_trans h.size hk.size⟩
theorem AI.next2 (h : AI w w3 wr p1 p2 S1 S2 L1 L2 first m out) (hp : AP w w3 p1 p2 S1 S2) {L2' : List Int} (hd : DrawsAt w5 p2 L2' S2) (hk : Kept (fun k => k = p2) wr w5) : AI w w3 w5 p1 p2 S1 S2 L1 L2' first m out :=
  ⟨h.d1.keep (fun k hk' e => hk.block k hk' (by rcases e with rfl | e; exact hp.ne; exact (hp.s1 k e).2)) hk.size, hd, own_keep h.row (fun k h1 h2 => hk.block k h2 (by have := hp.p2b; omega)), h.below.trans (hk.below h.below.size (fun k hk' e => by have := hp.p2b; omega)), Nat.le_trans h.size hk.size⟩
theorem AI.push (h : AI w w3 wr p1 p2 S1 S2 L1 L2 first m out) (hp : AP w w3 p1 p2 S1 S2) {x : Int} {v' : Value} {w6 : World} {c : Value} {t : TypeId} (hown : w6.ownsRow w3.heap.size 3 1 v' (m + 1) (numC out ++ [.int .i64 x])) (hg : (wr.alloc (.cells #[c] t)).grownBy w6 first.ownBlock) :
    AI w w3 w6 p1 p2 S1 S2 L1 L2 v' (m + 1) (out ++ [x]) := by
  have hk : ∀ k, k < wr.heap.size → k < w3.heap.size → w6.heap[k]? = wr.heap[k]? := fun k h1 h2 => (hg.block k (by simp; omega) (fun e => by have := (h.row.lt k e.symm).1; omega)).trans (Below.heap_alloc _ _ _ h1)
  have hs : wr.heap.size ≤ w6.heap.size := Nat.le_trans (by simp) hg.size
  refine ⟨h.d1.keep (fun k h1 e => hk k h1 (by rcases e with rfl | e; exact hp.p1b.2; exact (hp.s1 k e).1)) hs, h.d2.keep (fun k h1 e => hk k h1 (by rcases e with rfl | e; exact hp.p2b.2; exact (hp.s2 k e).1)) hs, ?_, h.below.trans ⟨hg.os, hg.tape, hg.output, hs, fun k hk' => hk k (Nat.lt_of_lt_of_le hk' h.below.size) (by have := hp.sz; omega)⟩, Nat.le_trans h.size hs⟩
  rw [numC, List.map_append]; exact hown
/-- A number that was drawn. -/
theorem AI.cell (h : AI w w3 wr p1 p2 S1 S2 L1 L2 first m out) (j : Nat) (hj : j < m) : ∃ g cap, first = .slice (some ⟨g, 0, none⟩) m cap ∧ wr.cell? ⟨g, j, none⟩ = some (.int .i64 (out.getD j 0)) := by
  have h0 := h.row
  have hl : out.length = m := by have := h.row.1; simpa [numC] using this
  rcases h.row.2 with ⟨_, e⟩ | ⟨g, cap, cur, rfl, hb, hh, _⟩
  · omega
  · refine ⟨g, cap, rfl, ?_⟩
    rw [h0.cellAt j (by omega)]
    simp [numC, hl, hj]
theorem AI.len (h : AI w w3 wr p1 p2 S1 S2 L1 L2 first m out) : ∃ a c, first = .slice a m c := by
  rcases h.row.2 with ⟨rfl, e⟩ | ⟨g, cap, cur, rfl, hb, hh, _⟩
  · exact ⟨none, 0, by rw [e]⟩
  · exact ⟨_, cap, rfl⟩
end
set_option maxRecDepth 100000 in
set_option maxHeartbeats 4000000 in
theorem DrawsApart_any {w : World} {v0 v1 : Value} {L ns : List Int} (hL : SliceU w v0 L (· < w.heap.size)) (hN : SliceI w v1 ns (· < w.heap.size)) (hr : L.length * 8 ≤ 140737488351232) :
    Calls Try.prog 12 #[v0, v1] w fun e w' => e = .returned (.bool true) ∧ Below w.heap.size w w' := by
  obtain ⟨i0, hi, hz0, hz1, hz2⟩ := info_parts info3
  obtain ⟨a0, c0, rfl, _⟩ := hL.val
  obtain ⟨a1, c1, rfl, hc1, hc1m, _⟩ := hN.val
  have hnl : ns.length ≤ 9223372036854775807 := by unfold maxLen at hc1m; omega
  have hll : L.length ≤ 9223372036854775807 := by omega
  go_enter Try.func12, Try.ntmps12
  go_wp2_with fail
  refine (examples_any w).mono ?_
  rintro e w1 ⟨rfl, hb1⟩
  have hL1 := hL.below (Nat.le_refl _) hb1
  clear hL
  go_wp2_with fail
  refine (NewDraws_any hL1 hr).mono ?_
  rintro e w2 ⟨p1, rfl, hp1, hq1, hD1, hb2⟩
  have hbw2 := hb1.trans (hb2.mono hb1.size)
  have hL2 := hL1.below hb1.size (hb2.mono hb1.size)
  clear hL1
  go_wp2_with fail
  refine (NewDraws_any hL2 hr).mono ?_
  rintro e w3 ⟨p2, rfl, hp2, hq2, hD2, hb3⟩
  have hbw3 := hbw2.trans (hb3.mono hbw2.size)
  have hD1 := hD1.below hb3
  have hwfs := hL2.wfs
  clear hL2
  have hz1 : w.heap.size ≤ w1.heap.size := hb1.size
  have hz2' : w1.heap.size ≤ w2.heap.size := hb2.size
  have hz3 : w2.heap.size ≤ w3.heap.size := hb3.size
  have hH := Lib.hid hwfs
  clear hwfs hb1 hb2 hb3 hbw2
  have hAP : AP w w3 p1 p2 (fun k => w1.heap.size ≤ k ∧ k < w2.heap.size ∧ k ≠ p1) (fun k => w2.heap.size ≤ k ∧ k < w3.heap.size ∧ k ≠ p2) := ⟨by omega, by omega, by omega, by omega, fun k h => by omega, fun k h => by omega⟩
  obtain ⟨S1, hS1⟩ : ∃ S, (fun k => w1.heap.size ≤ k ∧ k < w2.heap.size ∧ k ≠ p1) = S := ⟨_, rfl⟩
  obtain ⟨S2, hS2⟩ : ∃ S, (fun k => w2.heap.size ≤ k ∧ k < w3.heap.size ∧ k ≠ p2) = S := ⟨_, rfl⟩
  rw [hS1] at hD1 hAP
  rw [hS2] at hD2 hAP
  clear hS1 hS2 hp1 hq1 hp2 hq2 hz1 hz2' hz3
  have hA0 : AI w w3 w3 p1 p2 S1 S2 L L (.slice none 0 0) 0 [] := ⟨hD1, hD2, World.ownsRow_nil _ _ _ _, hbw3, Nat.le_refl _⟩
  clear hD1 hD2 hbw3
  go_wp2
  go_loopw [8, 9] (fun first i wr => ∃ k : Nat, i = .int .i64 k ∧ k ≤ ns.length ∧ k ≤ 100 ∧ AI w w3 wr p1 p2 S1 S2 (restN L (ns.take k)) L first k (outN L (ns.take k))) (fun _ i _ => ns.length - (intOf i).toNat)
  case atStart => exact ⟨0, rfl, Nat.zero_le _, by omega, hA0⟩
  case round =>
    clear hA0
    obtain ⟨k, rfl, hk, hk100, hA⟩ := hrel
    have hNr := hN.below (Nat.le_refl _) hA.below
    by_cases hlt : k < ns.length
    · have hlt' : (k : Int) < ns.length := by omega
      by_cases h100 : k < 100
      · have h100' : (k : Int) < 100 := by omega
        obtain ⟨b, off, rfl, _, hcell, hwf⟩ := hNr.at k hlt
        obtain ⟨x, hx⟩ : ∃ x, ns.getD k 0 = x := ⟨_, rfl⟩
        rw [hx] at hcell hwf
        have hd := hA.d1
        have htk := Lib.hid (take_snoc' ns k hlt)
        have hxH := Lib.hid hx
        clear hx
        go_wp2_with fail
        refine (DNext_any hd x hwf).mono ?_
        rintro e w5 ⟨rfl, hD5, hk5⟩
        have hA5 := hA.next1 hAP hD5 hk5
        have hs5 := hA5.size
        have hrow := hA5.row
        clear hD5 hk5 hd hA hcell
        go_wp2_with (at_builtin; refine wpList_append_own_at _ rfl (.tmp 33) (.tmp 40) 68 rfl w3.heap.size 3 i0 (.int .i64 0) 1 8 Try.underlying68 hi hz0 hz1 hz2 rfl (by decide) u8 k (numC (outN L (ns.take k))) rfl (hrow.alloc _) ⟨w5.heap.size, 0, none⟩ 1 1 [.int .i64 (nextD (restN L (ns.take k)) x)] rfl rfl (cell_one_new _ _ _) (by intro u hu; simp at hu; rw [hu]; rfl) (by unfold maxLen; omega) (by omega) (by simp; omega) ?_; intro v4 w4 hown4 hgrow4 hnil4 hat4; clear hnil4)
        go_roundw
        case rel =>
          refine ⟨k + 1, by go_num, by omega, by omega, ?_⟩
          rw [htk.out, restN_snoc, outN_snoc, hxH.out]
          exact hA5.push hAP hown4 hgrow4
        case measure => simp [intOf]; omega
      · have h100' : ¬ (k : Int) < 100 := by omega
        obtain ⟨af, cf, rfl⟩ := hA.len
        have hd2 := hA.d2
        go_wp2_with fail
        refine (Left_any hd2).mono ?_
        rintro e w6 ⟨rfl, rfl⟩
        clear hd2
        obtain ⟨m, hm⟩ : ∃ m, m = k := ⟨_, rfl⟩
        have hLm := Lib.hid (show L.length = L.length from rfl)
        go_wp2_with fail
        go_loopw [10] (fun i w9 => ∃ j : Nat, i = .int .i64 j ∧ j ≤ k ∧ AI w w3 w9 p1 p2 S1 S2 (restN L (ns.take k)) (restN L (ns.take j)) (.slice af k cf) k (outN L (ns.take k))) (fun i _ => k - (intOf i).toNat)
        case atStart => exact ⟨0, rfl, Nat.zero_le _, hA⟩
        case round =>
          clear hA hNr
          obtain ⟨j, rfl, hj, hA⟩ := hrel
          have hNr := hN.below (Nat.le_refl _) hA.below
          by_cases hjk : j < k
          · have hjk' : (j : Int) < k := by omega
            have hjn : j < ns.length := by omega
            obtain ⟨b, off, rfl, _, hcell, hwf⟩ := hNr.at j hjn
            have hget := outN_get (ns.take k) L j (by rw [List.length_take]; omega)
            rw [List.take_take, Nat.min_eq_left (by omega), show (ns.take k).getD j 0 = ns.getD j 0 by simp only [List.getD_eq_getElem?_getD, List.getElem?_take]; rw [if_pos hjk]] at hget
            have hbd := nextD_bd (restN L (ns.take j)) (ns.getD j 0) hA.d2.wfs
            have htk := Lib.hid (take_snoc' ns j hjn)
            obtain ⟨x, hx⟩ : ∃ x, ns.getD j 0 = x := ⟨_, rfl⟩
            obtain ⟨y, hy⟩ : ∃ y, nextD (restN L (ns.take j)) x = y := ⟨_, rfl⟩
            rw [hx] at hcell hwf hbd hget
            rw [hy] at hbd hget
            have hd2 := hA.d2
            have hxH := Lib.hid hx
            have hyH := Lib.hid hy
            have hgH := Lib.hid hget
            obtain ⟨hy0, hyx⟩ := hbd
            clear hx hget hy
            go_wp2_with fail
            refine (DNext_any hd2 x hwf).mono ?_
            rintro e w5 ⟨rfl, hD5, hk5⟩
            rw [hyH.out]
            have hA5 := hA.next2 hAP hD5 hk5
            have hNr5 := hN.below (Nat.le_refl _) hA5.below
            obtain ⟨b2, off2, hbo, _, hcell5, _⟩ := hNr5.at j hjn
            cases hbo
            obtain ⟨g2, cap2, hfirst2, hfc5⟩ := hA5.cell j hjk
            cases hfirst2
            rw [hgH.out] at hfc5
            rw [hxH.out] at hcell5
            have hy0' : ¬ y < 0 := by omega
            clear hA hcell hd2 hD5 hk5
            by_cases hx0 : 0 < x
            · have hyx' : ¬ x ≤ y := by have := hyx hx0; omega
              clear hyx
              go_wp2
              go_roundw
              case rel => exact ⟨j + 1, by go_num, by omega, by rw [htk.out, restN_snoc, hxH.out]; exact hA5⟩
              case measure => simp [intOf]; omega
            · clear hyx
              go_wp2
              go_roundw
              case rel => exact ⟨j + 1, by go_num, by omega, by rw [htk.out, restN_snoc, hxH.out]; exact hA5⟩
              case measure => simp [intOf]; omega
          · obtain rfl : j = k := by omega
            have hd1 := hA.d1
            have hd2 := hA.d2
            have hbw := hA.below
            go_wp2_with fail
            refine (Left_any hd1).mono ?_
            rintro e w6 ⟨rfl, rfl⟩
            go_wp2_with fail
            refine (Left_any hd2).mono ?_
            rintro e w7 ⟨rfl, rfl⟩
            go_wp2
            go_ret
            exact ⟨rfl, hbw⟩
    · have hlt' : ¬ (k : Int) < ns.length := by omega
      obtain ⟨af, cf, rfl⟩ := hA.len
      have hd2 := hA.d2
      go_wp2_with fail
      refine (Left_any hd2).mono ?_
      rintro e w6 ⟨rfl, rfl⟩
      clear hd2
      obtain ⟨m, hm⟩ : ∃ m, m = k := ⟨_, rfl⟩
      have hLm := Lib.hid (show L.length = L.length from rfl)
      go_wp2_with fail
      go_loopw [10] (fun i w9 => ∃ j : Nat, i = .int .i64 j ∧ j ≤ k ∧ AI w w3 w9 p1 p2 S1 S2 (restN L (ns.take k)) (restN L (ns.take j)) (.slice af k cf) k (outN L (ns.take k))) (fun i _ => k - (intOf i).toNat)
      case atStart => exact ⟨0, rfl, Nat.zero_le _, hA⟩
      case round =>
        clear hA hNr
        obtain ⟨j, rfl, hj, hA⟩ := hrel
        have hNr := hN.below (Nat.le_refl _) hA.below
        by_cases hjk : j < k
        · have hjk' : (j : Int) < k := by omega
          have hjn : j < ns.length := by omega
          obtain ⟨b, off, rfl, _, hcell, hwf⟩ := hNr.at j hjn
          have hget := outN_get (ns.take k) L j (by rw [List.length_take]; omega)
          rw [List.take_take, Nat.min_eq_left (by omega), show (ns.take k).getD j 0 = ns.getD j 0 by simp only [List.getD_eq_getElem?_getD, List.getElem?_take]; rw [if_pos hjk]] at hget
          have hbd := nextD_bd (restN L (ns.take j)) (ns.getD j 0) hA.d2.wfs
          have htk := Lib.hid (take_snoc' ns j hjn)
          obtain ⟨x, hx⟩ : ∃ x, ns.getD j 0 = x := ⟨_, rfl⟩
          obtain ⟨y, hy⟩ : ∃ y, nextD (restN L (ns.take j)) x = y := ⟨_, rfl⟩
          rw [hx] at hcell hwf hbd hget
          rw [hy] at hbd hget
          have hd2 := hA.d2
          have hxH := Lib.hid hx
          have hyH := Lib.hid hy
          have hgH := Lib.hid hget
          obtain ⟨hy0, hyx⟩ := hbd
          clear hx hget hy
          go_wp2_with fail
          refine (DNext_any hd2 x hwf).mono ?_
          rintro e w5 ⟨rfl, hD5, hk5⟩
          rw [hyH.out]
          have hA5 := hA.next2 hAP hD5 hk5
          have hNr5 := hN.below (Nat.le_refl _) hA5.below
          obtain ⟨b2, off2, hbo, _, hcell5, _⟩ := hNr5.at j hjn
          cases hbo
          obtain ⟨g2, cap2, hfirst2, hfc5⟩ := hA5.cell j hjk
          cases hfirst2
          rw [hgH.out] at hfc5
          rw [hxH.out] at hcell5
          have hy0' : ¬ y < 0 := by omega
          clear hA hcell hd2 hD5 hk5
          by_cases hx0 : 0 < x
          · have hyx' : ¬ x ≤ y := by have := hyx hx0; omega
            clear hyx
            go_wp2
            go_roundw
            case rel => exact ⟨j + 1, by go_num, by omega, by rw [htk.out, restN_snoc, hxH.out]; exact hA5⟩
            case measure => simp [intOf]; omega
          · clear hyx
            go_wp2
            go_roundw
            case rel => exact ⟨j + 1, by go_num, by omega, by rw [htk.out, restN_snoc, hxH.out]; exact hA5⟩
            case measure => simp [intOf]; omega
        · obtain rfl : j = k := by omega
          have hd1 := hA.d1
          have hd2 := hA.d2
          have hbw := hA.below
          go_wp2_with fail
          refine (Left_any hd1).mono ?_
          rintro e w6 ⟨rfl, rfl⟩
          go_wp2_with fail
          refine (Left_any hd2).mono ?_
          rintro e w7 ⟨rfl, rfl⟩
          go_wp2
          go_ret
          exact ⟨rfl, hbw⟩
end Go.Proofs.Ytmgapdbfaoflmaa.Tm
