/- What is done with what is known: Sample, Miss, SetPlain, SetLame, Len, New. -/
import Derived.Test.YticijejnemnmlaaInC
namespace Go.Proofs.Yticijejnemnmlaa.If
open Go.RowKit Rt
set_option linter.unusedSimpArgs false
set_option linter.unusedVariables false
/-- What a change leaves. -/
def Chg (w : World) (U : Nat → Prop) (xb most n : Nat) (st : Ad → Option Sp) (a : Ad) (f : Sp → Sp) (e : Ending) (w' : World) : Prop :=
  (rightA a = false ∧ e = .returned (.int .i64 1) ∧ Below w.heap.size w w') ∨ (rightA a = true ∧ e = .returned (.int .i64 0) ∧ ∃ U', InfS w' U' xb most (upd st a f) (if (st a).isSome then n else n + 1) ∧ Later U U' w w' ∧ Kept U w w')
theorem Chg.up {w w0 : World} {U : Nat → Prop} {xb most n : Nat} {st : Ad → Option Sp} {a : Ad} {f : Sp → Sp} {e : Ending} {w' : World} (h : Chg w0 U xb most n st a f e w') (hb : Below w.heap.size w w0) : Chg w U xb most n st a f e w' := by
  rcases h with ⟨h1, h2, h3⟩ | ⟨h1, h2, U', h3, h4, h5⟩
  · exact .inl ⟨h1, h2, hb.trans (h3.mono hb.size)⟩
  · exact .inr ⟨h1, h2, U', h3, fun x hx => (h4 x hx).imp id (fun e => Nat.le_trans hb.size e), (Kept.of_below hb).trans h5⟩
theorem Chg.val {w w' : World} {U : Nat → Prop} {xb most n : Nat} {st : Ad → Option Sp} {a : Ad} {f : Sp → Sp} {e : Ending} (h : Chg w U xb most n st a f e w') : ∃ x, e = .returned (.int .i64 x) ∧ Chg w U xb most n st a f (.returned (.int .i64 x)) w' := by
  rcases h with ⟨h1, rfl, h3⟩ | ⟨h1, rfl, h3⟩
  · exact ⟨1, rfl, .inl ⟨h1, rfl, h3⟩⟩
  · exact ⟨0, rfl, .inr ⟨h1, rfl, h3⟩⟩
section
variable {w : World} {U : Nat → Prop} {xb most n : Nat} {st : Ad → Option Sp} {a : Ad}
theorem change_C {g : FuncId} {caps : Array Value} {f : Sp → Sp} (h : InfS w U xb most st n) (ha : a.ok) (hroom : n < most) (hg : Does w g caps f) (hen : ∀ args w, (callFunc g args).run Try.prog w = .ok (.enter g args) w) :
    Calls Try.prog 23 #[.pointer (some ⟨xb, 0, none⟩), .agg #[.bool a.v6, .int .u64 a.hi, .int .u64 a.lo], .func (.func g) #[] caps] w (Chg w U xb most n st a f) := change_any h ha hroom hg hen
theorem Sample_I (h : InfS w U xb most st n) (ha : a.ok) (hroom : n < most) (ms : Int) :
    Calls Try.prog 9 #[.pointer (some ⟨xb, 0, none⟩), a.val, .int .i64 ms] w (Chg w U xb most n st a (smpP ms)) := by
  have hB : Below w.heap.size w ((w.alloc (.cells #[.bool a.v6, .int .u64 a.hi, .int .u64 a.lo] 31)).alloc (.cells #[.int .i64 ms] 3)) := ((Below.refl _ w).alloc (Nat.le_refl _) _).alloc (by simp) _
  have hu := (Boxed.new (w.alloc (.cells #[.bool a.v6, .int .u64 a.hi, .int .u64 a.lo] 31)) 3 (.int .i64 ms)).cell
  rw [World.size_alloc] at hu
  have hC := Lib.hid (change_C (h.below hB) ha hroom (smp_does hu) (enters_of Try.func24 (by kernel_rfl) rfl))
  clear hu h
  unfold Ad.val
  go_enter Try.func9, Try.ntmps9
  go_wp2_with (go_at_call 23; refine hC.out.mono ?_; intro e w' hc; obtain ⟨v, rfl, hc2⟩ := hc.val)
  go_ret
  exact hc2.up hB
theorem Miss_I (h : InfS w U xb most st n) (ha : a.ok) (hroom : n < most) :
    Calls Try.prog 10 #[.pointer (some ⟨xb, 0, none⟩), a.val] w (Chg w U xb most n st a missP) := by
  have hB : Below w.heap.size w (w.alloc (.cells #[.bool a.v6, .int .u64 a.hi, .int .u64 a.lo] 31)) := (Below.refl _ w).alloc (Nat.le_refl _) _
  have hC := Lib.hid (change_C (h.below hB) ha hroom miss_does (enters_of Try.func26 (by kernel_rfl) rfl))
  clear h
  unfold Ad.val
  go_enter Try.func10, Try.ntmps10
  go_wp2_with (go_at_call 23; refine hC.out.mono ?_; intro e w' hc; obtain ⟨v, rfl, hc2⟩ := hc.val)
  go_ret
  exact hc2.up hB
theorem SetPlain_I (h : InfS w U xb most st n) (ha : a.ok) (hroom : n < most) (now : Int) :
    Calls Try.prog 17 #[.pointer (some ⟨xb, 0, none⟩), a.val, .int .i64 now] w fun e w' => (isT now = false ∧ e = .returned (.int .i64 1) ∧ Below w.heap.size w w') ∨ (isT now = true ∧ Chg w U xb most n st a (plainP now) e w') := by
  have hB : Below w.heap.size w ((w.alloc (.cells #[.bool a.v6, .int .u64 a.hi, .int .u64 a.lo] 31)).alloc (.cells #[.int .i64 now] 3)) := ((Below.refl _ w).alloc (Nat.le_refl _) _).alloc (by simp) _
  have hT := Lib.hid (fun w => isTime_any w now)
  cases ht : isT now with
  | false =>
    rw [ht] at hT
    clear h
    unfold Ad.val
    go_enter Try.func17, Try.ntmps17
    go_wp2_with (go_at_call 29; refine (hT.out _).mono ?_; rintro e w' ⟨rfl, rfl⟩)
    go_ret
    exact .inl ⟨by trivial, rfl, hB⟩
  | true =>
    rw [ht] at hT
    have hu := (Boxed.new (w.alloc (.cells #[.bool a.v6, .int .u64 a.hi, .int .u64 a.lo] 31)) 3 (.int .i64 now)).cell
    rw [World.size_alloc] at hu
    have ht2 : 0 ≤ now ∧ now ≤ 4503599627370496 := by simpa [isT] using ht
    have hC := Lib.hid (change_C (h.below hB) ha hroom (plain_does hu ht2.1 ht2.2) (enters_of Try.func42 (by kernel_rfl) rfl))
    clear hu h ht2
    unfold Ad.val
    go_enter Try.func17, Try.ntmps17
    go_wp2_with (first | (go_at_call 29; refine (hT.out _).mono ?_; rintro e w' ⟨rfl, rfl⟩) | (go_at_call 23; refine hC.out.mono ?_; intro e w' hc; obtain ⟨v, rfl, hc2⟩ := hc.val))
    go_ret
    exact .inr ⟨by trivial, hc2.up hB⟩
set_option maxHeartbeats 1000000 in
theorem SetLame_I (h : InfS w U xb most st n) (ha : a.ok) (hroom : n < most) (z : ByteArray) (hs : z.size ≤ 140737488351232) (now : Int) :
    Calls Try.prog 11 #[.pointer (some ⟨xb, 0, none⟩), a.val, .string z, .int .i64 now] w fun e w' => ((Nm.rightB z && isT now) = false ∧ e = .returned (.int .i64 1) ∧ Below w.heap.size w w') ∨ ((Nm.rightB z && isT now) = true ∧ Chg w U xb most n st a (lameP (Nm.lowerW z) now) e w') := by
  have hB : Below w.heap.size w (((w.alloc (.cells #[.bool a.v6, .int .u64 a.hi, .int .u64 a.lo] 31)).alloc (.cells #[.string z] 9)).alloc (.cells #[.int .i64 now] 3)) := (((Below.refl _ w).alloc (Nat.le_refl _) _).alloc (by simp) _).alloc (by simp; omega) _
  have hT := Lib.hid (fun w => isTime_any w now)
  have hR := Lib.hid (fun w => Nm.Right_any z hs w)
  have hL := Lib.hid (fun w => Nm.Lower_any z hs w)
  have hu0 := (Boxed.new ((w.alloc (.cells #[.bool a.v6, .int .u64 a.hi, .int .u64 a.lo] 31)).alloc (.cells #[.string z] 9)) 3 (.int .i64 now)).cell
  rw [World.size_alloc, World.size_alloc] at hu0
  have hu0 := Lib.hid hu0
  have hz0 := (Boxed.new (w.alloc (.cells #[.bool a.v6, .int .u64 a.hi, .int .u64 a.lo] 31)) 9 (.string z)).alloc (.cells #[.int .i64 now] 3)
  rw [World.size_alloc] at hz0
  have hz0 := Lib.hid hz0
  obtain ⟨k0, k1, k2⟩ := (cellsNew w a.cs 31 rfl).1.three
  simp only [Nat.zero_add] at k1 k2
  have hA0 : Below (w.heap.size + 1) (w.alloc (.cells #[.bool a.v6, .int .u64 a.hi, .int .u64 a.lo] 31)) (((w.alloc (.cells #[.bool a.v6, .int .u64 a.hi, .int .u64 a.lo] 31)).alloc (.cells #[.string z] 9)).alloc (.cells #[.int .i64 now] 3)) := ((Below.refl _ _).alloc (by simp) _).alloc (by simp) _
  have q0 := Lib.hid ((hA0.cell (p := ⟨w.heap.size, 0, none⟩) (Nat.lt_succ_self _)).trans k0)
  have q1 := Lib.hid ((hA0.cell (p := ⟨w.heap.size, 1, none⟩) (Nat.lt_succ_self _)).trans k1)
  have q2 := Lib.hid ((hA0.cell (p := ⟨w.heap.size, 2, none⟩) (Nat.lt_succ_self _)).trans k2)
  clear k0 k1 k2 hA0
  obtain ⟨zl, hzl⟩ : ∃ zl, Nm.lowerW z = zl := ⟨_, rfl⟩
  rw [hzl] at hL ⊢
  clear hzl
  cases hr : Nm.rightB z with
  | false =>
    rw [hr] at hR
    clear h
    unfold Ad.val
    go_enter Try.func11, Try.ntmps11
    go_wp2_with (first | (go_at_call 28; refine (hR.out _).mono ?_; rintro e w1 ⟨rfl, hb1⟩) | (go_at_call 29; refine (hT.out _).mono ?_; rintro e w' ⟨rfl, rfl⟩))
    go_ret
    exact .inl ⟨by trivial, rfl, hB.trans (hb1.mono hB.size)⟩
  | true =>
    rw [hr] at hR
    cases ht : isT now with
    | false =>
      rw [ht] at hT
      clear h
      unfold Ad.val
      go_enter Try.func11, Try.ntmps11
      go_wp2_with (first | (go_at_call 28; refine (hR.out _).mono ?_; rintro e w1 ⟨rfl, hb1⟩; have hu1 := (hb1.cell (p := ⟨w.heap.size + 1 + 1, 0, none⟩) (by simp)).trans hu0.out) | (go_at_call 29; refine (hT.out _).mono ?_; rintro e w' ⟨rfl, rfl⟩))
      go_ret
      exact .inl ⟨by trivial, rfl, hB.trans (hb1.mono hB.size)⟩
    | true =>
      rw [ht] at hT
      have ht2 : 0 ≤ now ∧ now ≤ 4503599627370496 := by simpa [isT] using ht
      have hH := Lib.hid h
      have haH := Lib.hid ha
      have hroomH := Lib.hid hroom
      have ht2H := Lib.hid ht2
      clear h ha hroom ht2
      unfold Ad.val
      go_enter Try.func11, Try.ntmps11
      go_wp2_with (first
        | (go_at_call 28; refine (hR.out _).mono ?_; rintro e w1 ⟨rfl, hb1⟩; have hu1 := (hb1.cell (p := ⟨w.heap.size + 1 + 1, 0, none⟩) (by simp)).trans hu0.out; have hz1 := Nm.boxed_below hz0.out hb1 (by simp); have hz1c := hz1.cell)
        | (go_at_call 29; refine (hT.out _).mono ?_; rintro e w' ⟨rfl, rfl⟩)
        | (go_at_call 30; refine (hL.out _).mono ?_; rintro e w2 ⟨rfl, hb2⟩
           have hb12 := hb1.trans (hb2.mono hb1.size)
           have hz2 := Nm.boxed_below hz0.out hb12 (by simp)
           have hz2c := hz2.cell
           have hz2f := hz2.frozen
           have p0 := (hb12.cell (p := ⟨w.heap.size, 0, none⟩) (by simp; omega)).trans q0.out
           have p1 := (hb12.cell (p := ⟨w.heap.size, 1, none⟩) (by simp; omega)).trans q1.out
           have p2 := (hb12.cell (p := ⟨w.heap.size, 2, none⟩) (by simp; omega)).trans q2.out
           have hu2 := (hb12.cell (p := ⟨w.heap.size + 1 + 1, 0, none⟩) (by simp)).trans hu0.out
           have hBz : Below w.heap.size w (w2.setCell ⟨w.heap.size + 1, 0, none⟩ (.string zl)) := (hB.trans (hb12.mono hB.size)).setCell (p := ⟨w.heap.size + 1, 0, none⟩) (Nat.le_succ _) _
           have hC := Lib.hid (change_C (hH.out.below hBz) haH.out hroomH.out (lame_does (hz2.set (.string zl)).cell ((World.cell?_setCell_other _ _ _ _ (by simp)).trans hu2) ht2H.out.1 ht2H.out.2) (enters_of Try.func31 (by kernel_rfl) rfl))
           clear hu2 hz2 hb1 hb2 hu1 hz1 hz1c hb12)
        | (go_at_call 23; refine hC.out.mono ?_; intro e w' hc; obtain ⟨v, rfl, hc2⟩ := hc.val))
      go_ret
      exact .inr ⟨by trivial, hc2.up hBz⟩
theorem Len_I (h : InfS w U xb most st n) : Calls Try.prog 20 #[.pointer (some ⟨xb, 0, none⟩)] w fun e w' => e = .returned (.int .i64 (n : Int)) ∧ w' = w := by
  obtain ⟨S, tb, bm, l, h1, h2, h3, h4, h5, h6, h7⟩ := h.ex
  have hL := Lib.hid (Len_S h1)
  rw [h6] at hL
  clear h h1 h2 h3 h4 h6 h7
  go_enter Try.func20, Try.ntmps20
  go_wp2_with (go_at_call 44; refine hL.out.mono ?_; rintro e w' ⟨rfl, rfl⟩)
  go_ret
  exact ⟨rfl, rfl⟩
theorem New_I (w : World) (most : Nat) (h1 : 1 ≤ most) (h2 : most ≤ 100000) : Calls Try.prog 7 #[.int .i64 (most : Int)] w fun e w' =>
    ∃ xb U, e = .returned (.tuple #[.pointer (some ⟨xb, 0, none⟩), .int .i64 0]) ∧ InfS w' U xb most (fun _ => none) 0 ∧ (∀ x, U x → w.heap.size ≤ x) ∧ Below w.heap.size w w' := by
  have hN := Lib.hid (New_S w most h1 h2)
  go_enter Try.func7, Try.ntmps7
  go_wp2_with (go_at_call 22; refine hN.out.mono ?_; rintro e w1 ⟨tb, bm, S, rfl, hT, hge, hb⟩)
  refine bodyPost_ret (v := .tuple #[.pointer (some ⟨w1.heap.size, 0, none⟩), .int .i64 0]) (by simp [results, Try.results7, go_sem]) rfl ⟨_, fun x => S x ∨ x = w1.heap.size, rfl, ⟨⟨S, tb, bm, [], ?_, fun x hx => .inl hx, .inr rfl, fun hx => ?_, ?_, rfl, fun k => trivial⟩, fun x hx => ?_⟩, fun x hx => ?_, hb.alloc hb.size _⟩
  · exact hT.below ((Below.refl _ _).alloc (Nat.le_refl _) _)
  · exact absurd (hT.slt _ hx) (Nat.lt_irrefl _)
  · exact (Boxed.new w1 61 (.pointer (some ⟨tb, 0, none⟩))).cell
  · rw [World.size_alloc]
    rcases hx with hx | rfl
    · exact Nat.lt_succ_of_lt (hT.slt _ hx)
    · exact Nat.lt_succ_self _
  · rcases hx with hx | rfl
    · exact hge x hx
    · exact hb.size
theorem New_I0 (w : World) : Calls Try.prog 7 #[.int .i64 0] w fun e w' => e = .returned (.tuple #[.pointer none, .int .i64 1]) ∧ w' = w := by
  have hN := Lib.hid (New_bad w 0 (.inl (by decide)))
  go_enter Try.func7, Try.ntmps7
  go_wp2_with (go_at_call 22; refine hN.out.mono ?_; rintro e w1 ⟨rfl, rfl⟩)
  refine bodyPost_ret (v := .tuple #[.pointer none, .int .i64 1]) (by simp [results, Try.results7, go_sem]) rfl ⟨rfl, rfl⟩
end
end Go.Proofs.Yticijejnemnmlaa.If
