/- The chapter's examples: plain facts. -/
import Derived.Test.YticijejnemnmlaaJc
namespace Go.Proofs.Yticijejnemnmlaa.If
open Go.RowKit Rt
set_option linter.unusedSimpArgs false
set_option linter.unusedVariables false
def kA : Ad := ⟨false, 0, 1⟩
def kB : Ad := ⟨false, 0, 2⟩
def kC : Ad := ⟨false, 0, 3⟩
def e0 : Ad → Option Sp := fun _ => none
def e1 : Ad → Option Sp := chg e0 kA (smpP 100)
def e2 : Ad → Option Sp := chg e1 kC (smpP 1000)
def e3 : Ad → Option Sp := setLameS e2 kB ⟨#[1, 120, 0]⟩ 0
def e4 : Ad → Option Sp := chg e3 kA missP
theorem ex_a : toP ((e0 kA).getD zeroP) = 376 := by decide +kernel
theorem ex_b : bandL e2 ⟨#[0]⟩ 0 [kA, kB, kC] = [kA, kB] := by decide +kernel
theorem ex_c : toP ((e3 kA).getD zeroP) = 300 := by decide +kernel
theorem ex_d : toP ((e4 kA).getD zeroP) = 600 := by decide +kernel
theorem ex_e : lameB ⟨#[1, 88, 0]⟩ 899999 ((e4 kB).getD zeroP) = true := by decide +kernel
theorem ex_f : lameB ⟨#[1, 120, 0]⟩ 900000 ((e4 kB).getD zeroP) = false := by decide +kernel
theorem ex_g : lameB ⟨#[1, 121, 0]⟩ 0 ((e4 kB).getD zeroP) = false := by decide +kernel
theorem ex_n1 : nchg e0 kA 0 = 1 := by decide +kernel
theorem ex_n2 : nchg e1 kC 1 = 2 := by decide +kernel
theorem ex_n3 : setLameN e2 kB ⟨#[1, 120, 0]⟩ 0 2 = 3 := by decide +kernel
theorem ex_n4 : nchg e3 kA 3 = 3 := by decide +kernel
theorem kA_ok : kA.ok := by unfold Ad.ok wu kA; decide
theorem kB_ok : kB.ok := by unfold Ad.ok wu kB; decide
theorem kC_ok : kC.ok := by unfold Ad.ok wu kC; decide
end Go.Proofs.Yticijejnemnmlaa.If
