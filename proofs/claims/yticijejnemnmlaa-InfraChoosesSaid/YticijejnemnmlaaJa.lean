/- pick, Equal; a store of one's own. -/
import Derived.Test.YticijejnemnmlaaInL
namespace Go.Proofs.Yticijejnemnmlaa.If
open Go.RowKit Rt
set_option linter.unusedSimpArgs false
set_option linter.unusedVariables false
/-! ### pick -/
def pk (x n : Int) : Int := if x < 0 then (-(x + 1)) % n else x % n
theorem pk_bd (x n : Int) (hn : 0 < n) : 0 ≤ pk x n ∧ pk x n < n := by
  unfold pk; split <;> exact ⟨Int.emod_nonneg _ (by omega), Int.emod_lt_of_pos _ hn⟩
theorem pick_any (x n : Int) (w : World) (hx : wf x) (hn : 0 < n) (hn2 : n ≤ 1125899906842624) : Calls Try.prog 8 #[.int .i64 x, .int .i64 n] w fun e w' => e = .returned (.int .i64 (pk x n)) ∧ w' = w := by
  obtain ⟨hx1, hx2⟩ := hx
  by_cases h : x < 0
  · have e1 : Hid (pk x n = (-(x + 1)) % n) := Lib.hid (by unfold pk; rw [if_pos h])
    obtain ⟨y, hy⟩ : ∃ y, x + 1 = y := ⟨_, rfl⟩
    obtain ⟨z, hz⟩ : ∃ z, -y = z := ⟨_, rfl⟩
    have hw1 := If.wr (show -9223372036854775808 ≤ y by omega) (by omega)
    have hw2 := If.wr (show -9223372036854775808 ≤ z by omega) (by omega)
    have hw3 : wrap64 y = y := by unfold wrap64; omega
    have hw4 : wrap64 z = z := by unfold wrap64; omega
    have hz0 : 0 ≤ z := by omega
    have htm : z.tmod n = z % n := Int.tmod_eq_emod_of_nonneg hz0
    have hn0 : (n == 0) = false := beq_eq_false_iff_ne.2 (by omega)
    have hn1 : n ≠ 0 := by omega
    rw [hy, hz] at e1
    go_enter Try.func8, Try.ntmps8
    go_wp2
    go_ret
    exact ⟨by rw [e1.out]; rfl, rfl⟩
  · have e1 : Hid (pk x n = x % n) := Lib.hid (by unfold pk; rw [if_neg h])
    have hx0 : 0 ≤ x := by omega
    have htm : x.tmod n = x % n := Int.tmod_eq_emod_of_nonneg hx0
    have hn0 : (n == 0) = false := beq_eq_false_iff_ne.2 (by omega)
    have hn1 : n ≠ 0 := by omega
    go_enter Try.func8, Try.ntmps8
    go_wp2
    go_ret
    exact ⟨by rw [e1.out]; rfl, rfl⟩
/-! ### Equal -/
def eqW (a b : ByteArray) : Bool := Nm.rightB a && (Nm.rightB b && decide ((Nm.lowerW a).toList = (Nm.lowerW b).toList))
set_option maxHeartbeats 1000000 in
theorem Equal_any (a b : ByteArray) (ha : a.size ≤ 140737488351232) (hb : b.size ≤ 140737488351232) (w : World) : Calls Try.prog 21 #[.string a, .string b] w fun e w' => e = .returned (.bool (eqW a b)) ∧ Below w.heap.size w w' := by
  have hRa := Lib.hid (fun w => Nm.Right_any a ha w)
  have hRb := Lib.hid (fun w => Nm.Right_any b hb w)
  have hLa := Lib.hid (fun w => Nm.Lower_any a ha w)
  have hLb := Lib.hid (fun w => Nm.Lower_any b hb w)
  unfold eqW
  cases h1 : Nm.rightB a with
  | false =>
    rw [h1] at hRa
    go_enter Try.func21, Try.ntmps21
    go_wp2_with (go_at_call 28; refine (hRa.out _).mono ?_; rintro e w1 ⟨rfl, hb1⟩)
    go_ret
    exact ⟨rfl, hb1⟩
  | true =>
    rw [h1] at hRa
    cases h2 : Nm.rightB b with
    | false =>
      rw [h2] at hRb
      go_enter Try.func21, Try.ntmps21
      go_wp2_with (go_at_call 28; first | (with_reducible refine (hRa.out _).mono ?_; rintro e w1 ⟨rfl, hb1⟩) | (refine (hRb.out _).mono ?_; rintro e w2 ⟨rfl, hb2⟩))
      go_ret
      exact ⟨rfl, hb1.trans (hb2.mono hb1.size)⟩
    | true =>
      rw [h2] at hRb
      generalize Nm.lowerW a = la at *
      generalize Nm.lowerW b = lb at *
      go_enter Try.func21, Try.ntmps21
      go_wp2_with (first | (go_at_call 28; first | (with_reducible refine (hRa.out _).mono ?_; rintro e w1 ⟨rfl, hb1⟩) | (refine (hRb.out _).mono ?_; rintro e w2 ⟨rfl, hb2⟩)) | (go_at_call 30; first | (with_reducible refine (hLa.out _).mono ?_; rintro e w3 ⟨rfl, hb3⟩) | (refine (hLb.out _).mono ?_; rintro e w4 ⟨rfl, hb4⟩)))
      go_ret
      have c2 := hb1.trans (hb2.mono hb1.size)
      have c3 := c2.trans (hb3.mono c2.size)
      exact ⟨by rw [show (la.toList == lb.toList) = decide (la.toList = lb.toList) by rw [Bool.eq_iff_iff, beq_iff_eq, decide_eq_true_eq]]; rfl, c3.trans (hb4.mono c3.size)⟩
/-! ### a store of one's own -/
/-- A store that was made behind w0, and nothing of w0 was changed. -/
def InfT (w0 w : World) (xb most : Nat) (st : Ad → Option Sp) (n : Nat) : Prop := ∃ U, InfS w U xb most st n ∧ (∀ x, U x → w0.heap.size ≤ x) ∧ Below w0.heap.size w0 w
def nchg (st : Ad → Option Sp) (a : Ad) (n : Nat) : Nat := if rightA a && (st a).isNone then n + 1 else n
theorem nchg_le (st : Ad → Option Sp) (a : Ad) (n : Nat) : nchg st a n ≤ n + 1 := by unfold nchg; split <;> omega
section
variable {w0 w w' : World} {xb most n : Nat} {st : Ad → Option Sp} {a : Ad}
theorem InfT.bel (h : InfT w0 w xb most st n) : Below w0.heap.size w0 w := by obtain ⟨_, _, _, h⟩ := h; exact h
theorem InfT.read (h : InfT w0 w xb most st n) (hb : Below w.heap.size w w') : InfT w0 w' xb most st n := by
  obtain ⟨U, h1, h2, h3⟩ := h
  exact ⟨U, h1.below hb, h2, h3.trans (hb.mono h3.size)⟩
/-- What a change leaves, told of a store of one's own. -/
theorem Chg.own {f : Sp → Sp} {e : Ending} {U : Nat → Prop} (hU : ∀ x, U x → w0.heap.size ≤ x) (hb : Below w0.heap.size w0 w) (hS : InfS w U xb most st n) (h : Chg w U xb most n st a f e w') :
    e = .returned (.int .i64 (if rightA a then 0 else 1)) ∧ InfT w0 w' xb most (chg st a f) (nchg st a n) := by
  rcases h with ⟨h1, h2, h3⟩ | ⟨h1, h2, U', h3, h4, h5⟩
  · refine ⟨by rw [h1]; exact h2, U, ?_, hU, hb.trans (h3.mono hb.size)⟩
    unfold chg nchg; rw [h1]; exact hS.below h3
  · refine ⟨by rw [h1]; exact h2, U', ?_, fun x hx => ?_, ?_⟩
    · unfold chg nchg; rw [h1]
      have e2 : (if (st a).isSome = true then n else n + 1) = (if (true && (st a).isNone) = true then n + 1 else n) := by cases st a <;> rfl
      rw [e2] at h3; exact h3
    · rcases h4 x hx with h | h
      · exact hU x h
      · exact Nat.le_trans hb.size h
    · exact hb.trans (h5.below hb.size fun k hk e => Nat.lt_irrefl _ (Nat.lt_of_lt_of_le hk (hU k e)))
end
end Go.Proofs.Yticijejnemnmlaa.If
