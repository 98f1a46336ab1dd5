/- The row of DrawsNext: the call returns true for every input, and the arguments stay. -/
import Derived.Test.YtmgapdbfaoflmaaRows
import Derived.Test.YtmgapdbfaoflmaaTmT
import Derived.WalkKit
import Derived.ProofKit
import Derived.OpenShut
import Derived.ShutString
import Derived.ChangeOld
import Derived.Below
import Derived.SizedLaws
import Derived.Carry
namespace Go.Proofs.Ytmgapdbfaoflmaa.drawsNext
open Go.ChangeShapes Go.WideShapes Go.ChangeAt Go.RowKit
open Go.ChangeMaps (open_string shut_string)
set_option linter.unusedVariables false
set_option linter.unusedSimpArgs false
theorem laidOut : laidOutB Try.prog = true := by kernel_rfl
theorem own : ownKnob Try.prog.godebug = none := by kernel_rfl
set_option maxRecDepth 100000 in
theorem lifted (os : Os) (started : os.Started) (H : Type) (enc : TypeId × Value → H) :
    ReturnsInHanded {} Try.checked os 11 .any (Rows.drawsNextSpec.pre6 enc Try.prog Try.f11 Rows.drawsNextRow.domain false) (Rows.drawsNextSpec.post enc Try.prog Try.f11 false true false false) := by
  refine returnsInHanded_of_change_sized (C := Try.checked) own started (by kernel_rfl) Try.func11
    (ChangeSpec.witness6 (enc := enc) (C := Try.checked) false ⟨#[], #[.slice none 0 0, .slice none 0 0], []⟩ 8 (by kernel_rfl) (by kernel_rfl) (by kernel_rfl) (by kernel_rfl)) ?_
  intro W base args ds gs before hval0 hW hcnd hsz0 _
  have hsz : (DataW.weightsEach Try.prog (Try.f11.params.toList ++ Rows.drawsNextSpec.plain.varTypes Try.prog) (ds ++ gs)).all (· ≤ reachBytes) = true := hsz0
  have hval : ∀ (j : Nat) t v, Try.f11.params[j]? = some t → args[j]? = some v → Value.okWide Try.prog W .any base t v := hval0
  have hW' := hW
  obtain ⟨p, q, hA0, hV, rfl, hfz, hnd⟩ := hW
  have hA : DataW.TrodAll enc Try.prog W 0 (fun _ => true) true Try.f11.params.toList args.toList ds p := hA0
  rw [Try.params11] at hA hval hsz
  obtain ⟨v0, vs0, d0, ds0, p0, q0, hargs, rfl, rfl, h0, r0⟩ := trodAll_cons hA
  obtain ⟨v1, vs1, d1, ds1, p1, q1, rfl, rfl, rfl, h1, r1⟩ := trodAll_cons r0
  obtain ⟨rfl, rfl, rfl⟩ := trodAll_nil r1
  obtain rfl : args = #[v0, v1] := by cases args; simp_all
  obtain ⟨rfl, rfl⟩ := trodVars_none hV
  obtain ⟨a0, len0, cap0, rfl⟩ := okWide_slice Try.underlying81 (hval 0 81 v0 rfl rfl)
  have k0 := h0
  have lt0 : ∀ x ∈ p0, x.block < W.heap.size := by obtain ⟨m, hm⟩ := k0; exact DataW.trod_lt m _ _ _ hm
  obtain ⟨z0, s0, e0⟩ := Tm.open_rowU Try.underlying81 h0
  have n0 : z0.length * 8 ≤ 140737488351232 := by
    rcases e0 with ⟨_, rfl⟩ | ⟨es, rs, hd, hl⟩
    · simp
    · have z := sized_slice hsz (j := 0) (t := 81) rfl (by rw [hd]; rfl) Try.underlying81
      have hB : Try.prog.bytesOf 87 = 8 := by kernel_rfl
      have hr : reachBytes = 140737488351232 := by decide
      rw [hB, hr] at z
      have := Nat.mul_le_mul_right 8 (show z0.length ≤ es.length + rs.length by omega)
      first | exact Nat.le_trans this z | (simp only [hl] at z; exact z) | omega
  obtain ⟨a1, len1, cap1, rfl⟩ := okWide_slice Try.underlying68 (hval 1 68 v1 rfl rfl)
  have k1 := h1
  have lt1 : ∀ x ∈ p1, x.block < W.heap.size := by obtain ⟨m, hm⟩ := k1; exact DataW.trod_lt m _ _ _ hm
  obtain ⟨z1, s1, e1⟩ := Tm.open_rowI Try.underlying68 h1
  have n1 : z1.length * 8 ≤ 140737488351232 := by
    rcases e1 with ⟨_, rfl⟩ | ⟨es, rs, hd, hl⟩
    · simp
    · have z := sized_slice hsz (j := 1) (t := 68) rfl (by rw [hd]; rfl) Try.underlying68
      have hB : Try.prog.bytesOf 3 = 8 := by kernel_rfl
      have hr : reachBytes = 140737488351232 := by decide
      rw [hB, hr] at z
      have := Nat.mul_le_mul_right 8 (show z1.length ≤ es.length + rs.length by omega)
      first | exact Nat.le_trans this z | (simp only [hl] at z; exact z) | omega
  clear hA0 hval0 hsz0 hsz
  refine (Tm.DrawsNext_any s0 s1 n0).mono fun e W' ⟨he, bel⟩ => ?_
  subst he
  exact ⟨_, rfl, _, _, _, [], _, [], hW', trodAll_mk1 (shut_bool Try.underlying4 _), (trodAll_cons_mk (Below.trod laidOut (by kernel_rfl) (of_decide_eq_true (by kernel_rfl)) k0 bel lt0) (trodAll_cons_mk (Below.trod laidOut (by kernel_rfl) (of_decide_eq_true (by kernel_rfl)) k1 bel lt1) trodAll_mk0)), rfl, bel.frame _, fun h => by cases h⟩
theorem over : Rows.drawsNextRow.holds Try.pinned (OpenSpec.ofChange Rows.drawsNextSpec) :=
  OpenClaim.holds_of_wide 11 Try.f11 rfl rfl rfl rfl rfl rfl rfl ⟨rfl, rfl, rfl, rfl, rfl⟩ rfl rfl rfl rfl rfl (by kernel_rfl) Try.func11 (by kernel_rfl)
    (of_decide_eq_true (by kernel_rfl)) (by unfold Func.isWrapper; first | (rw [if_pos (by decide +kernel)]; kernel_rfl) | (rw [if_neg (by decide +kernel)]; exact ⟨rfl, rfl⟩))
    (fun os started H enc _ => lifted os started H enc)
theorem proved : Rows.DrawsNextSaid := over
#print axioms proved
end Go.Proofs.Ytmgapdbfaoflmaa.drawsNext
namespace Go.Proofs.Ytmgapdbfaoflmaa
/-- The row, under a short name, for the claim. -/
theorem drawsNext_holds : Rows.DrawsNextSaid := drawsNext.proved
end Go.Proofs.Ytmgapdbfaoflmaa
