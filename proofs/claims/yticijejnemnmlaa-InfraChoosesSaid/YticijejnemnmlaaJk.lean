/- Two addresses compared. -/
import Derived.Test.YticijejnemnmlaaJh
namespace Go.Proofs.Yticijejnemnmlaa.If
open Go.RowKit Rt
set_option linter.unusedSimpArgs false
set_option linter.unusedVariables false
theorem ad_eq (x y : Ad) : decide (x = y) = ((x.v6 == y.v6) && ((x.hi == y.hi) && (x.lo == y.lo))) := by
  cases x with
  | mk a b c => cases y with
    | mk a' b' c' =>
      rw [Bool.eq_iff_iff]
      simp only [decide_eq_true_eq, Ad.mk.injEq, Bool.and_eq_true, beq_iff_eq]
theorem exec_eqA {ρ : Operand → Value} {o : Oper} {p q : Operand} {x y : Ad} (ho : o.op = .binOp .eql 31 p q 31) (hp : ρ p = .agg #[.bool x.v6, .int .u64 x.hi, .int .u64 x.lo]) (hq : ρ q = .agg #[.bool y.v6, .int .u64 y.hi, .int .u64 y.lo]) (w : World) :
    (execOp ρ o).run Try.prog w = .ok (.value (.bool (decide (x = y)))) w := by
  obtain ⟨d, op, t, ps, af, g⟩ := o
  cases ho
  unfold execOp
  simp only [hp, hq]
  go_simp
  rw [ad_eq]
  by_cases e1 : x.v6 = y.v6 <;> by_cases e2 : x.hi = y.hi <;> by_cases e3 : x.lo = y.lo <;> simp [e1, e2, e3]
theorem exec_neqA {ρ : Operand → Value} {o : Oper} {p q : Operand} {x y : Ad} (ho : o.op = .binOp .neq 31 p q 31) (hp : ρ p = .agg #[.bool x.v6, .int .u64 x.hi, .int .u64 x.lo]) (hq : ρ q = .agg #[.bool y.v6, .int .u64 y.hi, .int .u64 y.lo]) (w : World) :
    (execOp ρ o).run Try.prog w = .ok (.value (.bool (!decide (x = y)))) w := by
  obtain ⟨d, op, t, ps, af, g⟩ := o
  cases ho
  unfold execOp
  simp only [hp, hq]
  go_simp
  rw [ad_eq]
  by_cases e1 : x.v6 = y.v6 <;> by_cases e2 : x.hi = y.hi <;> by_cases e3 : x.lo = y.lo <;> simp [e1, e2, e3]
end Go.Proofs.Yticijejnemnmlaa.If
