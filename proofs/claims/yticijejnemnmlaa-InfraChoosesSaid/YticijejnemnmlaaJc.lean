/- Changes of a store, told of the blocks that it owns; a store that leaves some blocks alone. -/
import Derived.Test.YticijejnemnmlaaJb
namespace Go.Proofs.Yticijejnemnmlaa.If
open Go.RowKit Rt
set_option linter.unusedSimpArgs false
set_option linter.unusedVariables false
/-- What a change leaves, in one case. -/
def Chg1 (w : World) (U : Nat → Prop) (xb most : Nat) (st' : Ad → Option Sp) (n' : Nat) (v : Int) (e : Ending) (w' : World) : Prop :=
  e = .returned (.int .i64 v) ∧ ∃ U', InfS w' U' xb most st' n' ∧ Later U U' w w' ∧ Kept U w w'
/-- A store that owns none of the blocks P. -/
def InfP (P : Nat → Prop) (w : World) (xb most : Nat) (st : Ad → Option Sp) (n : Nat) : Prop := ∃ U, InfS w U xb most st n ∧ (∀ x, U x → ¬ P x) ∧ ∀ x, P x → x < w.heap.size
section
variable {w w' : World} {U P : Nat → Prop} {xb most n : Nat} {st : Ad → Option Sp} {a : Ad}
theorem Chg.one {f : Sp → Sp} {e : Ending} (hS : InfS w U xb most st n) (h : Chg w U xb most n st a f e w') : Chg1 w U xb most (chg st a f) (nchg st a n) (if rightA a then 0 else 1) e w' := by
  rcases h with ⟨h1, h2, h3⟩ | ⟨h1, h2, U', h3, h4, h5⟩
  · refine ⟨by rw [h1]; exact h2, U, ?_, fun x hx => .inl hx, Kept.of_below h3⟩
    unfold chg nchg; rw [h1]; exact hS.below h3
  · refine ⟨by rw [h1]; exact h2, U', ?_, h4, h5⟩
    unfold chg nchg; rw [h1]
    have e2 : (if (st a).isSome = true then n else n + 1) = (if (true && (st a).isNone) = true then n + 1 else n) := by cases st a <;> rfl
    rw [e2] at h3; exact h3
theorem Sample_U (h : InfS w U xb most st n) (ha : a.ok) (hroom : n < most) (ms : Int) :
    Calls Try.prog 9 #[.pointer (some ⟨xb, 0, none⟩), .agg #[.bool a.v6, .int .u64 a.hi, .int .u64 a.lo], .int .i64 ms] w (Chg1 w U xb most (chg st a (smpP ms)) (nchg st a n) (if rightA a then 0 else 1)) :=
  (Sample_I h ha hroom ms).mono fun e w' hc => hc.one h
theorem Miss_U (h : InfS w U xb most st n) (ha : a.ok) (hroom : n < most) :
    Calls Try.prog 10 #[.pointer (some ⟨xb, 0, none⟩), .agg #[.bool a.v6, .int .u64 a.hi, .int .u64 a.lo]] w (Chg1 w U xb most (chg st a missP) (nchg st a n) (if rightA a then 0 else 1)) :=
  (Miss_I h ha hroom).mono fun e w' hc => hc.one h
theorem SetLame_U (h : InfS w U xb most st n) (ha : a.ok) (hroom : n < most) (z : ByteArray) (hs : z.size ≤ 140737488351232) (now : Int) :
    Calls Try.prog 11 #[.pointer (some ⟨xb, 0, none⟩), .agg #[.bool a.v6, .int .u64 a.hi, .int .u64 a.lo], .string z, .int .i64 now] w (Chg1 w U xb most (setLameS st a z now) (setLameN st a z now n) (if (Nm.rightB z && isT now) && rightA a then 0 else 1)) := by
  refine (SetLame_I h ha hroom z hs now).mono ?_
  unfold setLameS setLameN
  rintro e w' (⟨h1, h2, h3⟩ | ⟨h1, h2⟩)
  · rw [h1]; exact ⟨h2, U, h.below h3, fun x hx => .inl hx, Kept.of_below h3⟩
  · rw [h1]; exact h2.one h
theorem SetPlain_U (h : InfS w U xb most st n) (ha : a.ok) (hroom : n < most) (now : Int) :
    Calls Try.prog 17 #[.pointer (some ⟨xb, 0, none⟩), .agg #[.bool a.v6, .int .u64 a.hi, .int .u64 a.lo], .int .i64 now] w (Chg1 w U xb most (setPlainS st a now) (setPlainN st a now n) (if isT now && rightA a then 0 else 1)) := by
  refine (SetPlain_I h ha hroom now).mono ?_
  unfold setPlainS setPlainN
  rintro e w' (⟨h1, h2, h3⟩ | ⟨h1, h2⟩)
  · rw [h1]; exact ⟨h2, U, h.below h3, fun x hx => .inl hx, Kept.of_below h3⟩
  · rw [h1]; exact h2.one h
theorem setLameN_le (st : Ad → Option Sp) (a : Ad) (z : ByteArray) (now : Int) (n : Nat) : setLameN st a z now n ≤ n + 1 := by unfold setLameN; split; exact nchg_le _ _ _; omega
theorem setPlainN_le (st : Ad → Option Sp) (a : Ad) (now : Int) (n : Nat) : setPlainN st a now n ≤ n + 1 := by unfold setPlainN; split; exact nchg_le _ _ _; omega
/-! ### a store that leaves some blocks alone -/
/-- What a change leaves of such a store. -/
def ChgP (P : Nat → Prop) (w : World) (xb most : Nat) (st' : Ad → Option Sp) (n' : Nat) (v : Int) (e : Ending) (w' : World) : Prop :=
  e = .returned (.int .i64 v) ∧ InfP P w' xb most st' n' ∧ Kept (fun x => ¬ P x) w w'
theorem Chg1.apart {st' : Ad → Option Sp} {n' : Nat} {v : Int} {e : Ending} (hU : ∀ x, U x → ¬ P x) (hP : ∀ x, P x → x < w.heap.size) (h : Chg1 w U xb most st' n' v e w') : ChgP P w xb most st' n' v e w' := by
  obtain ⟨h1, U', h2, h3, h4⟩ := h
  refine ⟨h1, ⟨U', h2, fun x hx hp => ?_, fun x hp => Nat.lt_of_lt_of_le (hP x hp) h4.size⟩, h4.mono fun k _ h => hU k h⟩
  rcases h3 x hx with h | h
  · exact hU x h hp
  · have := hP x hp; omega
theorem InfP.read (h : InfP P w xb most st n) (hb : Below w.heap.size w w') : InfP P w' xb most st n := by
  obtain ⟨U, h1, h2, h3⟩ := h
  exact ⟨U, h1.below hb, h2, fun x hx => Nat.lt_of_lt_of_le (h3 x hx) hb.size⟩
/-- What was made since may be left alone, too. -/
theorem InfP.add {P' : Nat → Prop} (h : InfP P w xb most st n) (hb : Below w.heap.size w w') (hP : ∀ x, P' x → P x ∨ (w.heap.size ≤ x ∧ x < w'.heap.size)) : InfP P' w' xb most st n := by
  obtain ⟨U, h1, h2, h3⟩ := h
  refine ⟨U, h1.below hb, fun x hx hp => ?_, fun x hp => ?_⟩
  · rcases hP x hp with h | ⟨h, _⟩
    · exact h2 x hx h
    · have := h1.lt x hx; omega
  · rcases hP x hp with h | ⟨_, h⟩
    · exact Nat.lt_of_lt_of_le (h3 x h) hb.size
    · exact h
theorem Sample_P (h : InfP P w xb most st n) (ha : a.ok) (hroom : n < most) (ms : Int) :
    Calls Try.prog 9 #[.pointer (some ⟨xb, 0, none⟩), .agg #[.bool a.v6, .int .u64 a.hi, .int .u64 a.lo], .int .i64 ms] w (ChgP P w xb most (chg st a (smpP ms)) (nchg st a n) (if rightA a then 0 else 1)) := by
  obtain ⟨U, h1, h2, h3⟩ := h
  exact (Sample_U h1 ha hroom ms).mono fun e w' hc => hc.apart h2 h3
theorem Miss_P (h : InfP P w xb most st n) (ha : a.ok) (hroom : n < most) :
    Calls Try.prog 10 #[.pointer (some ⟨xb, 0, none⟩), .agg #[.bool a.v6, .int .u64 a.hi, .int .u64 a.lo]] w (ChgP P w xb most (chg st a missP) (nchg st a n) (if rightA a then 0 else 1)) := by
  obtain ⟨U, h1, h2, h3⟩ := h
  exact (Miss_U h1 ha hroom).mono fun e w' hc => hc.apart h2 h3
theorem SetLame_P (h : InfP P w xb most st n) (ha : a.ok) (hroom : n < most) (z : ByteArray) (hs : z.size ≤ 140737488351232) (now : Int) :
    Calls Try.prog 11 #[.pointer (some ⟨xb, 0, none⟩), .agg #[.bool a.v6, .int .u64 a.hi, .int .u64 a.lo], .string z, .int .i64 now] w (ChgP P w xb most (setLameS st a z now) (setLameN st a z now n) (if (Nm.rightB z && isT now) && rightA a then 0 else 1)) := by
  obtain ⟨U, h1, h2, h3⟩ := h
  exact (SetLame_U h1 ha hroom z hs now).mono fun e w' hc => hc.apart h2 h3
theorem Timeout_P (h : InfP P w xb most st n) (ha : a.ok) :
    Calls Try.prog 16 #[.pointer (some ⟨xb, 0, none⟩), .agg #[.bool a.v6, .int .u64 a.hi, .int .u64 a.lo]] w fun e w' => e = .returned (.int .i64 (toP ((st a).getD zeroP))) ∧ Below w.heap.size w w' := by
  obtain ⟨U, hS, _⟩ := h
  exact Timeout_I hS ha
theorem Lame_P (h : InfP P w xb most st n) (ha : a.ok) (z : ByteArray) (hs : z.size ≤ 140737488351232) (now : Int) :
    Calls Try.prog 15 #[.pointer (some ⟨xb, 0, none⟩), .agg #[.bool a.v6, .int .u64 a.hi, .int .u64 a.lo], .string z, .int .i64 now] w fun e w' => e = .returned (.bool (lameB z now ((st a).getD zeroP))) ∧ Below w.heap.size w w' := by
  obtain ⟨U, hS, _⟩ := h
  exact Lame_I hS ha z hs now
theorem Plain_P (h : InfP P w xb most st n) (ha : a.ok) (now : Int) :
    Calls Try.prog 18 #[.pointer (some ⟨xb, 0, none⟩), .agg #[.bool a.v6, .int .u64 a.hi, .int .u64 a.lo], .int .i64 now] w fun e w' => e = .returned (.bool (plainB st a now)) ∧ Below w.heap.size w w' := by
  obtain ⟨U, hS, _⟩ := h
  exact Plain_I hS ha now
theorem SetPlain_P (h : InfP P w xb most st n) (ha : a.ok) (hroom : n < most) (now : Int) :
    Calls Try.prog 17 #[.pointer (some ⟨xb, 0, none⟩), .agg #[.bool a.v6, .int .u64 a.hi, .int .u64 a.lo], .int .i64 now] w (ChgP P w xb most (setPlainS st a now) (setPlainN st a now n) (if isT now && rightA a then 0 else 1)) := by
  obtain ⟨U, h1, h2, h3⟩ := h
  exact (SetPlain_U h1 ha hroom now).mono fun e w' hc => hc.apart h2 h3
theorem Choose_P (h : InfP P w xb most st n) {v : Value} {l : List Ad} (hv : ArgA w v l) (hok : ∀ a ∈ l, a.ok) (hl : l.length < 5864062014720) (z : ByteArray) (hs : z.size ≤ 140737488351232) (draw now : Int) (hdr : wf draw) :
    Calls Try.prog 12 #[.pointer (some ⟨xb, 0, none⟩), v, .string z, .int .i64 draw, .int .i64 now] w fun e w' => e = .returned (.tuple #[.agg #[.bool (chooseA st z now l draw).1.v6, .int .u64 (chooseA st z now l draw).1.hi, .int .u64 (chooseA st z now l draw).1.lo], .bool (chooseA st z now l draw).2]) ∧ Below w.heap.size w w' := by
  obtain ⟨U, hS, _⟩ := h
  exact Choose_any hS hv hok hl z hs draw now hdr
theorem Len_P (h : InfP P w xb most st n) : Calls Try.prog 20 #[.pointer (some ⟨xb, 0, none⟩)] w fun e w' => e = .returned (.int .i64 (n : Int)) ∧ w' = w := by
  obtain ⟨U, hS, _⟩ := h
  exact Len_I hS
theorem Band_P (h : InfP P w xb most st n) {v : Value} {l : List Ad} (hv : ArgA w v l) (hok : ∀ a ∈ l, a.ok) (hl : l.length < 5864062014720) (z : ByteArray) (hs : z.size ≤ 140737488351232) (now : Int) :
    Calls Try.prog 13 #[.pointer (some ⟨xb, 0, none⟩), v, .string z, .int .i64 now] w fun e w' => ∃ v', e = .returned v' ∧ w'.ownsRow w.heap.size 31 3 v' (bandL st z now l).length (adC (bandL st z now l)) ∧ Below w.heap.size w w' := by
  obtain ⟨U, hS, _⟩ := h
  exact Band_any hS hv hok hl z hs now
end
end Go.Proofs.Yticijejnemnmlaa.If
