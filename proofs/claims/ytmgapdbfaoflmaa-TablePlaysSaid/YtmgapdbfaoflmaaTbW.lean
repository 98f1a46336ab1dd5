/- A slice of texts that came in. -/
import Derived.Test.YtmgapdbfaoflmaaTbT
import Derived.Deep.SlicePairs
namespace Go.Proofs.Ytmgapdbfaoflmaa.Tb
open Go.RowKit Rt
set_option linter.unusedSimpArgs false
set_option linter.unusedVariables false
section
variable {H : Type} {enc : TypeId × Value → H} {W : World} {d : DataW H} {ps : List MemPlace}
open Go.ChangeShapes Go.WideShapes Go.ChangeAt
set_option maxRecDepth 100000 in
theorem open_strs {a : Option Addr} {n c : Nat} (h : DataW.Trod enc Try.prog W 0 (fun _ => true) true 22 (.slice a n c) d ps) :
    n ≤ c ∧ c ≤ maxLen ∧ ∀ j, j < n → ∃ b off s, a = some ⟨b, off, none⟩ ∧ b < W.heap.size ∧ s.size ≤ maxLen ∧ W.cell? ⟨b, off + j, none⟩ = some (.string s) := by
  obtain ⟨fuel, hf⟩ := h
  have ce : Try.prog.cellsOf 9 = 1 := by kernel_rfl
  rcases Go.Deep.open_slice Try.underlying22 hf with ⟨hcs, _⟩ | ⟨A, len, cap, m, n', D, Pl, hcs, hb, hl, hm, hmm, hx, hel⟩
  · simp [Value.cells] at hcs
    obtain ⟨rfl, rfl, rfl⟩ := hcs
    exact ⟨Nat.le_refl _, by unfold maxLen; omega, fun j hj => by omega⟩
  · simp [Value.cells] at hcs
    obtain ⟨rfl, rfl, rfl⟩ := hcs
    simp at hmm
    subst hmm
    have hone : ∀ j, j < n → ∃ s : ByteArray, s.size ≤ maxLen ∧ W.cell? (A.add j) = some (.string s) := by
      intro j hj
      obtain ⟨cs', h1, h2⟩ := hel j (by omega)
      rw [ce] at h1
      obtain ⟨_, hlen, hcell⟩ := World.cells?_some h1
      obtain ⟨s, rfl, _, hs⟩ := DataW.trod_string Try.underlying9 h2
      have k0 := hcell 0 (by simp)
      refine ⟨s, hs, ?_⟩
      have e : (Addr.add (Addr.add A (j * 1)) 0) = A.add j := by simp [Addr.add]
      rw [e] at k0
      exact k0
    refine ⟨hl, hm, fun j hj => ?_⟩
    obtain ⟨b, off, spot⟩ := A
    have hsp : spot = none := by
      obtain ⟨s0, _, k0⟩ := hone 0 (by omega)
      unfold World.cell? at k0
      split at k0
      · cases spot with
        | none => rfl
        | some s => simp [Addr.add] at k0
      · simp at k0
    subst hsp
    obtain ⟨s, hs, hc⟩ := hone j hj
    rw [Addr.add_lit] at hc
    exact ⟨b, off, s, rfl, World.block_lt_of_cell? W _ hc, hs, hc⟩
theorem open_rowB {a : Option Addr} {n c : Nat} (h : DataW.Trod enc Try.prog W 0 (fun _ => true) true 22 (.slice a n c) d ps) : n ≤ c ∧ c ≤ maxLen ∧ ∃ f, RowB W a n f := by
  obtain ⟨h1, h2, h3⟩ := open_strs h
  refine ⟨h1, h2, ?_⟩
  have hch : ∀ j, ∃ s : ByteArray, j < n → ∃ b off, a = some ⟨b, off, none⟩ ∧ b < W.heap.size ∧ s.size ≤ maxLen ∧ W.cell? ⟨b, off + j, none⟩ = some (.string s) := fun j => by
    by_cases hj : j < n
    · obtain ⟨b, off, s, e, hb, hs, hc⟩ := h3 j hj
      exact ⟨s, fun _ => ⟨b, off, e, hb, hs, hc⟩⟩
    · exact ⟨ByteArray.empty, fun h => absurd h hj⟩
  obtain ⟨f, hf⟩ := Classical.axiomOfChoice hch
  refine ⟨f, fun j hj => ?_⟩
  obtain ⟨b, off, e, hb, hs, hc⟩ := hf j hj
  exact ⟨hs, b, off, e, fun w' hw => (hw.cell (p := ⟨b, off + j, none⟩) hb).trans hc⟩
end
theorem wf_of {x : Int} (h : (Lit.int .i64 x).wf = true) : Tm.wf x := by
  simp [Lit.wf, IntKind.min, IntKind.max, IntKind.bits, IntKind.signed] at h; exact h
theorem TableKeeps_ex {w : World} {most0 : Int} (hm0 : (Lit.int .i64 most0).wf = true) {a : Option Addr} {n c : Nat} (hnc : n ≤ c) (hcm : c ≤ maxLen) (hD : ∃ f, RowB w a n f) :
    Calls Try.prog 3 #[.int .i64 most0, .slice a n c] w fun e w' => e = .returned (.bool true) ∧ Below w.heap.size w w' := by
  obtain ⟨f, hf⟩ := hD
  exact TableKeeps_any (wf_of hm0) hnc hcm hf
end Go.Proofs.Ytmgapdbfaoflmaa.Tb
