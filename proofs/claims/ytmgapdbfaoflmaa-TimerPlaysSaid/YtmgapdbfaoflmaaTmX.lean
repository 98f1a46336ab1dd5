/- The examples of chapter 12's statements hold. -/
import Derived.Test.YtmgapdbfaoflmaaTmR
namespace Go.Proofs.Ytmgapdbfaoflmaa.Tm
open Go.RowKit Rt
set_option linter.unusedSimpArgs false
set_option linter.unusedVariables false

/-- What a timer owns lies from B0 on, outside of some blocks. -/
def Outside (B0 B1 B2 tb bm : Nat) (v : Value) : Prop := ∀ k, Mine tb bm v k → B0 ≤ k ∧ (k < B1 ∨ B2 ≤ k)
theorem Outside.step {B0 B1 B2 tb bm : Nat} {v v' : Value} (h : Outside B0 B1 B2 tb bm v) {n : Nat} (hn : B2 ≤ n) (h0 : B0 ≤ B2) (hv : v'.ownBlock = v.ownBlock ∨ ∃ g, v'.ownBlock = some g ∧ n ≤ g) : Outside B0 B1 B2 tb bm v' := by
  intro k hk
  rcases hk with e | e | e
  · exact h k (.inl e)
  · exact h k (.inr (.inl e))
  · rcases hv with e2 | ⟨g, e2, hg⟩
    · exact h k (.inr (.inr (e2 ▸ e)))
    · rw [e2] at e; have := Option.some.inj e; omega
theorem Outside.below {B0 B1 B2 tb bm : Nat} {v : Value} {w0 w w' : World} (h : Outside B0 B1 B2 tb bm v) (hb : Below B0 w0 w) (hk : Kept (Mine tb bm v) w w') (hB : B0 ≤ w.heap.size) : Below B0 w0 w' :=
  hb.trans (hk.below hB fun k hk' hm => by have := (h k hm).1; omega)
theorem DrawsAt.past {w w' : World} {p B0 B1 B2 tb bm : Nat} {v : Value} {L : List Int} {S : Nat → Prop} (h : DrawsAt w p L S) (hk : Kept (Mine tb bm v) w w') (hO : Outside B0 B1 B2 tb bm v) (hp : B1 ≤ p ∧ p < B2) (hS : ∀ k, S k → B1 ≤ k ∧ k < B2) : DrawsAt w' p L S :=
  h.keep (fun k hk' h => hk.block k hk' (fun hm => by have := (hO k hm).2; rcases h with rfl | h; omega; have := hS k h; omega)) hk.size
theorem TimerS.past {w w' : World} {p B0 B1 B2 tb bm : Nat} {v : Value} {S : List It} (h : TimerS w tb bm v S) (hk : Kept (fun k => k = p) w w') (hO : Outside B0 B1 B2 tb bm v) (hp : B1 ≤ p ∧ p < B2) : TimerS w' tb bm v S :=
  h.kept hk fun k hm e => by have := (hO k hm).2; omega
theorem out_two {w : World} {base : Nat} {out : Value} {a b c d : Int} (h : w.ownsRow base 3 1 out [((a, b) : It), (c, d)].length (idsC [(a, b), (c, d)])) : ∃ g cap, out = .slice (some ⟨g, 0, none⟩) 2 cap ∧ base ≤ g ∧ g < w.heap.size ∧ w.cell? ⟨g, 0, none⟩ = some (.int .i64 a) ∧ w.cell? ⟨g, 1, none⟩ = some (.int .i64 c) := by
  have h0 := h
  rcases h.2 with ⟨_, e⟩ | ⟨g, cap, cur, rfl, hb, hh, _⟩
  · simp at e
  · exact ⟨g, cap, rfl, hb, (Array.getElem?_eq_some_iff.1 hh).1, h0.cellAt 0 (by simp), h0.cellAt 1 (by simp)⟩
set_option maxRecDepth 100000 in
set_option maxHeartbeats 8000000 in
theorem examples_any (w : World) : Calls Try.prog 29 #[] w fun e w' => e = .returned (.bool true) ∧ Below w.heap.size w w' := by
  go_enter Try.func29, Try.ntmps29
  go_wp2_with fail
  refine (New_any _).mono ?_
  rintro e w1 ⟨rfl, h1, hb1⟩
  have hT1 : TimerS w1 (w.heap.size + 1) w.heap.size (.slice none 0 0) [] := ⟨[], h1, Rel.nil⟩
  obtain ⟨tb, htb⟩ : ∃ t, w.heap.size + 1 = t := ⟨_, rfl⟩
  rw [htb] at hT1 ⊢
  have htbH := Lib.hid htb
  clear h1 htb
  go_wp2_with fail
  have hsl : SliceU (w1.alloc (.cells #[.int .u64 7, .int .u64 9] 87)) (.slice (some ⟨w1.heap.size, 0, none⟩) 2 2) [7, 9] (fun _ => True) := by
    refine ⟨⟨some ⟨w1.heap.size, 0, none⟩, 2, rfl, by simp, by unfold maxLen; omega, by simp, fun _ => ⟨w1.heap.size, 0, rfl, by simp, trivial, fun j hj => ?_⟩⟩, by simp [wu]⟩
    simp at hj
    have h := cell_two_new w1 (.int .u64 7) (.int .u64 9) 87 j (if j = 0 then .int .u64 7 else .int .u64 9)
    have h2 : j = 0 ∨ j = 1 := by omega
    rcases h2 with rfl | rfl
    · exact h rfl
    · exact h rfl
  refine (NewDraws_any hsl (by simp)).mono ?_
  rintro e w2 ⟨p, rfl, hp, hpl, hD, hb2⟩
  obtain ⟨B1, hB1⟩ : ∃ B, w1.heap.size = B := ⟨_, rfl⟩
  obtain ⟨B2, hB2⟩ : ∃ B, w2.heap.size = B := ⟨_, rfl⟩
  obtain ⟨bm, hbm⟩ : ∃ B, w.heap.size = B := ⟨_, rfl⟩
  have hTw := Lib.hid htbH.out
  have hw1l := hT1.lt
  have hw2l := hb2.size
  simp only [World.size_alloc] at hw2l hp
  have hT2 := (hT1.below ((Below.refl _ _).alloc (Nat.le_refl _) _)).below hb2
  have hp12 : B1 ≤ p ∧ p < B2 := by omega
  have hD2 : DrawsAt w2 p [7, 9] (fun k => B1 + 1 ≤ k ∧ k < B2 ∧ k ≠ p) := by
    have := hD
    simp only [World.size_alloc, hB1, hB2] at this
    exact this
  have hS12 : ∀ k, (B1 + 1 ≤ k ∧ k < B2 ∧ k ≠ p) → B1 ≤ k ∧ k < B2 := fun k h => by omega
  have hO2 : Outside w.heap.size B1 B2 tb w.heap.size (.slice none 0 0) := by
    intro k hk
    rcases hk with rfl | rfl | e
    · have := htbH.out; omega
    · have := htbH.out; exact ⟨Nat.le_refl _, by omega⟩
    · cases e
  have hz2 : B2 ≤ w2.heap.size := by omega
  have hB02 : w.heap.size ≤ B2 := by have := hb1.size; omega
  have hB01 : w.heap.size ≤ B1 := by have := hb1.size; omega
  have hbw2 : Below w.heap.size w w2 := (hb1.trans ((Below.refl _ _).alloc hb1.size _)).trans (hb2.mono (by simp; have := hb1.size; omega))
  clear hD hb2 hsl hT1 hb1 hB1 hB2 hp hpl hw1l hw2l
  go_wp2_with fail
  refine (Set_S hT2 1 50 (by unfold wf; omega) (by unfold wf; omega) (by omega) (by simp)).mono ?_
  rintro e w3 ⟨rfl, v3, hT3, hv3, hk3⟩
  rw [show insS (eraseS [] 1) (1, 50) = [(1, 50)] by decide] at hT3
  have hO3 := hO2.step hz2 hB02 hv3
  have hD3 := hD2.past hk3 hO2 hp12 hS12
  have hz3 : B2 ≤ w3.heap.size := Nat.le_trans hz2 hk3.size
  have hbw3 : Below w.heap.size w w3 := hO2.below hbw2 hk3 hbw2.size
  clear hT2 hv3 hk3 hD2 hbw2 hO2
  go_wp2_with fail
  refine (Set_S hT3 2 30 (by unfold wf; omega) (by unfold wf; omega) (by omega) (by simp)).mono ?_
  rintro e w4 ⟨rfl, v4, hT4, hv4, hk4⟩
  rw [show insS (eraseS [(1, 50)] 2) (2, 30) = [(2, 30), (1, 50)] by decide] at hT4
  have hO4 := hO3.step hz3 hB02 hv4
  have hD4 := hD3.past hk4 hO3 hp12 hS12
  have hz4 : B2 ≤ w4.heap.size := Nat.le_trans hz3 hk4.size
  have hbw4 : Below w.heap.size w w4 := hO3.below hbw3 hk4 hbw3.size
  clear hT3 hv4 hk4 hD3 hbw3 hO3
  go_wp2_with fail
  refine (Set_S hT4 1 20 (by unfold wf; omega) (by unfold wf; omega) (by omega) (by simp)).mono ?_
  rintro e w5 ⟨rfl, v5, hT5, hv5, hk5⟩
  rw [show insS (eraseS [(2, 30), (1, 50)] 1) (1, 20) = [(1, 20), (2, 30)] by decide] at hT5
  have hO5 := hO4.step hz4 hB02 hv5
  have hD5 := hD4.past hk5 hO4 hp12 hS12
  have hz5 : B2 ≤ w5.heap.size := Nat.le_trans hz4 hk5.size
  have hbw5 : Below w.heap.size w w5 := hO4.below hbw4 hk5 hbw4.size
  clear hT4 hv5 hk5 hD4 hbw4 hO4
  go_wp2_with fail
  refine (Next_cons hT5 (by simp)).mono ?_
  rintro e w6 ⟨rfl, hb6⟩
  have hT6 := hT5.below hb6
  have hD6 := hD5.below hb6
  have hz6 : B2 ≤ w6.heap.size := Nat.le_trans hz5 hb6.size
  have hbw6 : Below w.heap.size w w6 := hbw5.trans (hb6.mono hbw5.size)
  clear hT5 hD5 hbw5 hb6
  go_wp2_with fail
  refine (Due_S hT6 40 (by unfold wf; omega) (by simp)).mono ?_
  rintro e w7 ⟨out, v7, rfl, hout, hT7, hv7, hk7⟩
  rw [show restS [(1, 20), (2, 30)] 40 = [] by decide] at hT7
  rw [show dueS [(1, 20), (2, 30)] 40 = [(1, 20), (2, 30)] by decide] at hout
  have hO7 := hO5.step hz6 hB02 (.inl hv7)
  have hD7 := hD6.past hk7 hO5 hp12 hS12
  have hz7 : B2 ≤ w7.heap.size := Nat.le_trans hz6 hk7.size
  have hbw7 : Below w.heap.size w w7 := hO5.below hbw6 hk7 hbw6.size
  obtain ⟨g, cap, rfl, hgw, hgl, hg0, hg1⟩ := out_two hout
  clear hT6 hv7 hk7 hD6 hbw6 hO5 hout
  have hs1 := fun w => Sample_any 0 0 0 100 w
  rw [show (smpR (wi 0 1000000) (wi 0 1000000) (wi 100 1000000)).1 = 100 by decide, show (smpR (wi 0 1000000) (wi 0 1000000) (wi 100 1000000)).2 = 50 by decide] at hs1
  have hs2 := fun w => Sample_any 100 50 0 180 w
  rw [show (smpR (wi 100 1000000) (wi 50 1000000) (wi 180 1000000)).1 = 110 by decide, show (smpR (wi 100 1000000) (wi 50 1000000) (wi 180 1000000)).2 = 57 by decide] at hs2
  have hs1H := Lib.hid hs1
  have hs2H := Lib.hid hs2
  clear hs1 hs2
  go_wp2_with fail
  refine (hs1H.out _).mono ?_
  rintro e w8 ⟨rfl, hb8⟩
  unfold agg3
  go_wp2_with fail
  refine (hs2H.out _).mono ?_
  rintro e w9 ⟨rfl, hb9⟩
  unfold agg3
  obtain ⟨gr, hgr⟩ : ∃ x, w8.heap.size = x := ⟨_, rfl⟩
  have kr9 : w9.heap[gr]? = some (.cells #[.int .i64 100, .int .i64 50, .int .i64 0] 72 (0, 0)) := by
    rw [← hgr, hb9.block _ (by simp)]
    show (w8.heap.push _)[w8.heap.size]? = _
    exact Array.getElem?_push_size
  have hz89 : w8.heap.size < w9.heap.size := by have := hb9.size; simp at this; omega
  have hb79 : Below w7.heap.size w7 w9 := (hb8.trans ((Below.refl _ _).alloc hb8.size _)).trans (hb9.mono (by simp; have := hb8.size; omega))
  have hT9 := hT7.below hb79
  have hD9 := hD7.below hb79
  have hz9 : B2 ≤ w9.heap.size := Nat.le_trans hz7 hb79.size
  have hbw9 : Below w.heap.size w w9 := hbw7.trans (hb79.mono hbw7.size)
  have hg09 : w9.cell? ⟨g, 0, none⟩ = some (.int .i64 1) := (hb79.cell (p := ⟨g, 0, none⟩) hgl).trans hg0
  have hg19 : w9.cell? ⟨g, 1, none⟩ = some (.int .i64 2) := (hb79.cell (p := ⟨g, 1, none⟩) hgl).trans hg1
  have hgl9 : g < w9.heap.size := by have := hb79.size; omega
  rw [hgr]
  have hgr9 : gr < w9.heap.size := by omega
  clear hb8 hb9 hb79 hT7 hD7 hz7 hbw7 hg0 hg1 hgl hgw hgr hz89
  have hX0 : (w9.alloc (.cells #[.int .i64 110, .int .i64 57, .int .i64 0] 72)).cell? ⟨g, 0, none⟩ = some (.int .i64 1) := (World.cell?_of_block (w := w9) (Below.heap_alloc _ _ _ hgl9)).trans hg09
  have hX1 : (w9.alloc (.cells #[.int .i64 110, .int .i64 57, .int .i64 0] 72)).cell? ⟨g, 1, none⟩ = some (.int .i64 2) := (World.cell?_of_block (w := w9) (Below.heap_alloc _ _ _ hgl9)).trans hg19
  have hbX : Below w9.heap.size w9 (w9.alloc (.cells #[.int .i64 110, .int .i64 57, .int .i64 0] 72)) := (Below.refl _ _).alloc (Nat.le_refl _) _
  have hTX := hT9.below hbX
  have hDX := hD9.below hbX
  have hbwX := hbw9.trans (hbX.mono hbw9.size)
  have krX : (w9.alloc (.cells #[.int .i64 110, .int .i64 57, .int .i64 0] 72)).heap[gr]? = some (.cells #[.int .i64 100, .int .i64 50, .int .i64 0] 72 (0, 0)) := (Below.heap_alloc _ _ _ hgr9).trans kr9
  have ksX : (w9.alloc (.cells #[.int .i64 110, .int .i64 57, .int .i64 0] 72)).heap[w9.heap.size]? = some (.cells #[.int .i64 110, .int .i64 57, .int .i64 0] 72 (0, 0)) := by
    show (w9.heap.push _)[w9.heap.size]? = _
    exact Array.getElem?_push_size
  have krXH := Lib.hid krX
  have ksXH := Lib.hid ksX
  clear hT9 hD9 hbw9 kr9 krX ksX hbX hg09 hg19
  go_wp2_with fail
  refine (Len_S hTX).mono ?_
  rintro e wl ⟨rfl, rfl⟩
  go_wp2_with fail
  refine (Set_neg _ tb 1 (-1) (by omega)).mono ?_
  rintro e wl2 ⟨rfl, rfl⟩
  have kr := krXH.out
  have ks := ksXH.out
  have hzX : B2 ≤ (w9.alloc (.cells #[.int .i64 110, .int .i64 57, .int .i64 0] 72)).heap.size := by simp; omega
  obtain ⟨gs, hgs⟩ : ∃ x, w9.heap.size = x := ⟨_, rfl⟩
  obtain ⟨X, hXe⟩ : ∃ x, (w9.alloc (.cells #[.int .i64 110, .int .i64 57, .int .i64 0] 72)) = x := ⟨_, rfl⟩
  rw [hXe] at hDX hbwX kr ks hzX ⊢
  rw [hgs] at ks ⊢
  clear hXe hgs hX0 hX1 hTX krXH ksXH hgl9 hgr9 hz9 hO7 hs1H hs2H
  have t1 := Lib.hid (fun w => by have := Timeout_any 0 0 0 w; rw [show tmR (wi 0 1000000) (wi 0 1000000) (wi 0 10) = 376 by decide] at this; exact this)
  have t2 := Lib.hid (fun w => by have := Timeout_any 100 50 0 w; rw [show tmR (wi 100 1000000) (wi 50 1000000) (wi 0 10) = 300 by decide] at this; exact this)
  have t3 := Lib.hid (fun w => by have := Miss_any 110 57 0 w; rw [show wi 110 1000000 = 110 by decide, show wi 57 1000000 = 57 by decide, show (if wi 0 10 < 10 then wi 0 10 + 1 else 10) = 1 by decide] at this; exact this)
  have t4 := Lib.hid (fun w => by have := Timeout_any 110 57 1 w; rw [show tmR (wi 110 1000000) (wi 57 1000000) (wi 1 10) = 676 by decide] at this; exact this)
  have krH := Lib.hid kr
  have ksH := Lib.hid ks
  clear kr ks
  obtain ⟨a0, a1, a2, _, _, _⟩ := cells3 krH.out
  obtain ⟨c0, c1, c2, _, _, _⟩ := cells3 ksH.out
  go_wp2_with fail
  have kr := krH.out
  have ks := ksH.out
  clear krH ksH a0 a1 a2 c0 c1 c2
  refine (t1.out _).mono ?_
  rintro e w10 ⟨rfl, hb⟩
  have kr := (hb.block gr (Array.getElem?_eq_some_iff.1 kr).1).trans kr
  have ks := (hb.block gs (Array.getElem?_eq_some_iff.1 ks).1).trans ks
  have hDX := hDX.below hb
  have hbwX := hbwX.trans (hb.mono hbwX.size)
  have hzX : B2 ≤ w10.heap.size := Nat.le_trans hzX hb.size
  have krH := Lib.hid kr
  have ksH := Lib.hid ks
  clear hb kr ks
  obtain ⟨a0, a1, a2, _, _, _⟩ := cells3 krH.out
  obtain ⟨c0, c1, c2, _, _, _⟩ := cells3 ksH.out
  go_wp2_with fail
  have kr := krH.out
  have ks := ksH.out
  clear krH ksH a0 a1 a2 c0 c1 c2
  refine (t2.out _).mono ?_
  rintro e w11 ⟨rfl, hb⟩
  have kr := (hb.block gr (Array.getElem?_eq_some_iff.1 kr).1).trans kr
  have ks := (hb.block gs (Array.getElem?_eq_some_iff.1 ks).1).trans ks
  have hDX := hDX.below hb
  have hbwX := hbwX.trans (hb.mono hbwX.size)
  have hzX : B2 ≤ w11.heap.size := Nat.le_trans hzX hb.size
  have krH := Lib.hid kr
  have ksH := Lib.hid ks
  clear hb kr ks
  obtain ⟨a0, a1, a2, _, _, _⟩ := cells3 krH.out
  obtain ⟨c0, c1, c2, _, _, _⟩ := cells3 ksH.out
  go_wp2_with fail
  have kr := krH.out
  have ks := ksH.out
  clear krH ksH a0 a1 a2 c0 c1 c2
  refine (t3.out _).mono ?_
  rintro e w12 ⟨rfl, hb⟩
  have kr := (hb.block gr (Array.getElem?_eq_some_iff.1 kr).1).trans kr
  have ks := (hb.block gs (Array.getElem?_eq_some_iff.1 ks).1).trans ks
  have hDX := hDX.below hb
  have hbwX := hbwX.trans (hb.mono hbwX.size)
  have hzX : B2 ≤ w12.heap.size := Nat.le_trans hzX hb.size
  have krH := Lib.hid kr
  have ksH := Lib.hid ks
  clear hb kr ks
  obtain ⟨a0, a1, a2, _, _, _⟩ := cells3 krH.out
  obtain ⟨c0, c1, c2, _, _, _⟩ := cells3 ksH.out
  unfold agg3
  go_wp2_with fail
  have kr := krH.out
  have ks := ksH.out
  clear krH ksH a0 a1 a2 c0 c1 c2
  refine (t4.out _).mono ?_
  rintro e w13 ⟨rfl, hb⟩
  have kr := (hb.block gr (Array.getElem?_eq_some_iff.1 kr).1).trans kr
  have ks := (hb.block gs (Array.getElem?_eq_some_iff.1 ks).1).trans ks
  have hDX := hDX.below hb
  have hbwX := hbwX.trans (hb.mono hbwX.size)
  have hzX : B2 ≤ w13.heap.size := Nat.le_trans hzX hb.size
  have krH := Lib.hid kr
  have ksH := Lib.hid ks
  clear hb kr ks
  obtain ⟨a0, a1, a2, _, _, _⟩ := cells3 krH.out
  obtain ⟨c0, c1, c2, _, _, _⟩ := cells3 ksH.out
  clear a0 a1 a2 c0 c1 c2 krH ksH t1 t2 t3 t4
  go_wp2_with fail
  refine (DNext_any hDX 5 (by unfold wf; omega)).mono ?_
  rintro e w14 ⟨rfl, hD, hk⟩
  rw [show restD [7, 9] 5 = [9] by decide] at hD
  rw [show nextD [7, 9] 5 = 2 by decide]
  have hbwX := hbwX.trans (hk.below hbwX.size (fun k hk' e => by omega))
  clear hDX
  have hDX := hD
  clear hD hk
  go_wp2_with fail
  refine (DNext_any hDX 0 (by unfold wf; omega)).mono ?_
  rintro e w15 ⟨rfl, hD, hk⟩
  rw [show restD [9] 0 = [9] by decide] at hD
  rw [show nextD [9] 0 = 0 by decide]
  have hbwX := hbwX.trans (hk.below hbwX.size (fun k hk' e => by omega))
  clear hDX
  have hDX := hD
  clear hD hk
  go_wp2_with fail
  refine (DNext_any hDX 5 (by unfold wf; omega)).mono ?_
  rintro e w16 ⟨rfl, hD, hk⟩
  rw [show restD [9] 5 = [] by decide] at hD
  rw [show nextD [9] 5 = 4 by decide]
  have hbwX := hbwX.trans (hk.below hbwX.size (fun k hk' e => by omega))
  clear hDX
  have hDX := hD
  clear hD hk
  go_wp2_with fail
  refine (DNext_any hDX 5 (by unfold wf; omega)).mono ?_
  rintro e w17 ⟨rfl, hD, hk⟩
  rw [show restD [] 5 = [] by decide] at hD
  rw [show nextD [] 5 = 0 by decide]
  have hbwX := hbwX.trans (hk.below hbwX.size (fun k hk' e => by omega))
  clear hDX
  have hDX := hD
  clear hD hk
  go_wp2
  go_ret
  exact ⟨rfl, hbwX⟩
end Go.Proofs.Ytmgapdbfaoflmaa.Tm
