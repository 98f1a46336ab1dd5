/- Contracts of a store of one's own. -/
import Derived.Test.YticijejnemnmlaaJa
namespace Go.Proofs.Yticijejnemnmlaa.If
open Go.RowKit Rt
set_option linter.unusedSimpArgs false
set_option linter.unusedVariables false
section
variable {w0 w : World} {xb most n : Nat} {st : Ad → Option Sp} {a : Ad}
theorem New_T (w0 w : World) (hb : Below w0.heap.size w0 w) (most : Nat) (h1 : 1 ≤ most) (h2 : most ≤ 100000) :
    Calls Try.prog 7 #[.int .i64 (most : Int)] w fun e w' => ∃ xb, e = .returned (.tuple #[.pointer (some ⟨xb, 0, none⟩), .int .i64 0]) ∧ InfT w0 w' xb most (fun _ => none) 0 := by
  refine (New_I w most h1 h2).mono ?_
  rintro e w' ⟨xb, U, rfl, hS, hU, hb2⟩
  exact ⟨xb, rfl, U, hS, fun x hx => Nat.le_trans hb.size (hU x hx), hb.trans (hb2.mono hb.size)⟩
theorem Sample_T (h : InfT w0 w xb most st n) (ha : a.ok) (hroom : n < most) (ms : Int) :
    Calls Try.prog 9 #[.pointer (some ⟨xb, 0, none⟩), .agg #[.bool a.v6, .int .u64 a.hi, .int .u64 a.lo], .int .i64 ms] w fun e w' => e = .returned (.int .i64 (if rightA a then 0 else 1)) ∧ InfT w0 w' xb most (chg st a (smpP ms)) (nchg st a n) := by
  obtain ⟨U, hS, hU, hb⟩ := h
  exact (Sample_I hS ha hroom ms).mono fun e w' hc => hc.own hU hb hS
theorem Miss_T (h : InfT w0 w xb most st n) (ha : a.ok) (hroom : n < most) :
    Calls Try.prog 10 #[.pointer (some ⟨xb, 0, none⟩), .agg #[.bool a.v6, .int .u64 a.hi, .int .u64 a.lo]] w fun e w' => e = .returned (.int .i64 (if rightA a then 0 else 1)) ∧ InfT w0 w' xb most (chg st a missP) (nchg st a n) := by
  obtain ⟨U, hS, hU, hb⟩ := h
  exact (Miss_I hS ha hroom).mono fun e w' hc => hc.own hU hb hS
def setLameS (st : Ad → Option Sp) (a : Ad) (z : ByteArray) (now : Int) : Ad → Option Sp := if Nm.rightB z && isT now then chg st a (lameP (Nm.lowerW z) now) else st
def setLameN (st : Ad → Option Sp) (a : Ad) (z : ByteArray) (now : Int) (n : Nat) : Nat := if Nm.rightB z && isT now then nchg st a n else n
theorem SetLame_T (h : InfT w0 w xb most st n) (ha : a.ok) (hroom : n < most) (z : ByteArray) (hs : z.size ≤ 140737488351232) (now : Int) :
    Calls Try.prog 11 #[.pointer (some ⟨xb, 0, none⟩), .agg #[.bool a.v6, .int .u64 a.hi, .int .u64 a.lo], .string z, .int .i64 now] w fun e w' => e = .returned (.int .i64 (if (Nm.rightB z && isT now) && rightA a then 0 else 1)) ∧ InfT w0 w' xb most (setLameS st a z now) (setLameN st a z now n) := by
  obtain ⟨U, hS, hU, hb⟩ := h
  refine (SetLame_I hS ha hroom z hs now).mono ?_
  unfold setLameS setLameN
  rintro e w' (⟨h1, h2, h3⟩ | ⟨h1, h2⟩)
  · rw [h1]; exact ⟨h2, U, hS.below h3, hU, hb.trans (h3.mono hb.size)⟩
  · rw [h1]; exact h2.own hU hb hS
def setPlainS (st : Ad → Option Sp) (a : Ad) (now : Int) : Ad → Option Sp := if isT now then chg st a (plainP now) else st
def setPlainN (st : Ad → Option Sp) (a : Ad) (now : Int) (n : Nat) : Nat := if isT now then nchg st a n else n
theorem SetPlain_T (h : InfT w0 w xb most st n) (ha : a.ok) (hroom : n < most) (now : Int) :
    Calls Try.prog 17 #[.pointer (some ⟨xb, 0, none⟩), .agg #[.bool a.v6, .int .u64 a.hi, .int .u64 a.lo], .int .i64 now] w fun e w' => e = .returned (.int .i64 (if isT now && rightA a then 0 else 1)) ∧ InfT w0 w' xb most (setPlainS st a now) (setPlainN st a now n) := by
  obtain ⟨U, hS, hU, hb⟩ := h
  refine (SetPlain_I hS ha hroom now).mono ?_
  unfold setPlainS setPlainN
  rintro e w' (⟨h1, h2, h3⟩ | ⟨h1, h2⟩)
  · rw [h1]; exact ⟨h2, U, hS.below h3, hU, hb.trans (h3.mono hb.size)⟩
  · rw [h1]; exact h2.own hU hb hS
theorem Timeout_T (h : InfT w0 w xb most st n) (ha : a.ok) :
    Calls Try.prog 16 #[.pointer (some ⟨xb, 0, none⟩), .agg #[.bool a.v6, .int .u64 a.hi, .int .u64 a.lo]] w fun e w' => e = .returned (.int .i64 (toP ((st a).getD zeroP))) ∧ Below w.heap.size w w' := by
  obtain ⟨U, hS, hU, hb⟩ := h
  exact Timeout_I hS ha
theorem Lame_T (h : InfT w0 w xb most st n) (ha : a.ok) (z : ByteArray) (hs : z.size ≤ 140737488351232) (now : Int) :
    Calls Try.prog 15 #[.pointer (some ⟨xb, 0, none⟩), .agg #[.bool a.v6, .int .u64 a.hi, .int .u64 a.lo], .string z, .int .i64 now] w fun e w' => e = .returned (.bool (lameB z now ((st a).getD zeroP))) ∧ Below w.heap.size w w' := by
  obtain ⟨U, hS, hU, hb⟩ := h
  exact Lame_I hS ha z hs now
def plainB (st : Ad → Option Sp) (a : Ad) (now : Int) : Bool := (st a).isSome && (isT now && decide (now < ((st a).getD zeroP).pl))
theorem Plain_T (h : InfT w0 w xb most st n) (ha : a.ok) (now : Int) :
    Calls Try.prog 18 #[.pointer (some ⟨xb, 0, none⟩), .agg #[.bool a.v6, .int .u64 a.hi, .int .u64 a.lo], .int .i64 now] w fun e w' => e = .returned (.bool (plainB st a now)) ∧ Below w.heap.size w w' := by
  obtain ⟨U, hS, hU, hb⟩ := h
  exact Plain_I hS ha now
theorem Len_T (h : InfT w0 w xb most st n) : Calls Try.prog 20 #[.pointer (some ⟨xb, 0, none⟩)] w fun e w' => e = .returned (.int .i64 (n : Int)) ∧ w' = w := by
  obtain ⟨U, hS, hU, hb⟩ := h
  exact Len_I hS
theorem Band_T (h : InfT w0 w xb most st n) {v : Value} {l : List Ad} (hv : ArgA w v l) (hok : ∀ a ∈ l, a.ok) (hl : l.length < 5864062014720) (z : ByteArray) (hs : z.size ≤ 140737488351232) (now : Int) :
    Calls Try.prog 13 #[.pointer (some ⟨xb, 0, none⟩), v, .string z, .int .i64 now] w fun e w' => ∃ v', e = .returned v' ∧ w'.ownsRow w.heap.size 31 3 v' (bandL st z now l).length (adC (bandL st z now l)) ∧ Below w.heap.size w w' := by
  obtain ⟨U, hS, hU, hb⟩ := h
  exact Band_any hS hv hok hl z hs now
theorem Choose_T (h : InfT w0 w xb most st n) {v : Value} {l : List Ad} (hv : ArgA w v l) (hok : ∀ a ∈ l, a.ok) (hl : l.length < 5864062014720) (z : ByteArray) (hs : z.size ≤ 140737488351232) (draw now : Int) (hdr : wf draw) :
    Calls Try.prog 12 #[.pointer (some ⟨xb, 0, none⟩), v, .string z, .int .i64 draw, .int .i64 now] w fun e w' => e = .returned (.tuple #[.agg #[.bool (chooseA st z now l draw).1.v6, .int .u64 (chooseA st z now l draw).1.hi, .int .u64 (chooseA st z now l draw).1.lo], .bool (chooseA st z now l draw).2]) ∧ Below w.heap.size w w' := by
  obtain ⟨U, hS, hU, hb⟩ := h
  exact Choose_any hS hv hok hl z hs draw now hdr
end
end Go.Proofs.Yticijejnemnmlaa.If
