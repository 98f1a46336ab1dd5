/- A slice of deeds that came in; TablePlays for its row. -/
import Derived.Test.YtmgapdbfaoflmaaTbS
import Derived.Test.YtmgapdbfaoflmaaTbW
import Derived.Deep.SlicePairs
namespace Go.Proofs.Ytmgapdbfaoflmaa.Tb
open Go.RowKit Rt
set_option linter.unusedSimpArgs false
set_option linter.unusedVariables false
section
variable {H : Type} {enc : TypeId × Value → H} {W : World} {d : DataW H} {ps : List MemPlace}
open Go.ChangeShapes Go.WideShapes Go.ChangeAt
set_option maxRecDepth 100000 in
theorem open_deeds {a : Option Addr} {n c : Nat} (h : DataW.Trod enc Try.prog W 0 (fun _ => true) true 35 (.slice a n c) d ps) :
    n ≤ c ∧ c ≤ maxLen ∧ ∀ j, j < n → ∃ b off x y z, a = some ⟨b, off, none⟩ ∧ b < W.heap.size ∧ Tm.wf x ∧ y.size ≤ maxLen ∧ Tm.wf z ∧ W.cell? ⟨b, off + j * 3, none⟩ = some (.int .i64 x) ∧ W.cell? ⟨b, off + j * 3 + 1, none⟩ = some (.string y) ∧ W.cell? ⟨b, off + j * 3 + 2, none⟩ = some (.int .i64 z) := by
  obtain ⟨fuel, hf⟩ := h
  have ce : Try.prog.cellsOf 41 = 3 := by kernel_rfl
  have c3 : Try.prog.cellsOf 3 = 1 := by kernel_rfl
  have c9 : Try.prog.cellsOf 9 = 1 := by kernel_rfl
  rcases Go.Deep.open_slice Try.underlying35 hf with ⟨hcs, _⟩ | ⟨A, len, cap, m, n', D, Pl, hcs, hb, hl, hm, hmm, hx, hel⟩
  · simp [Value.cells] at hcs
    obtain ⟨rfl, rfl, rfl⟩ := hcs
    exact ⟨Nat.le_refl _, by unfold maxLen; omega, fun j hj => by omega⟩
  · simp [Value.cells] at hcs
    obtain ⟨rfl, rfl, rfl⟩ := hcs
    simp at hmm
    subst hmm
    refine ⟨hl, hm, fun j hj => ?_⟩
    obtain ⟨cs', h1, h2⟩ := hel j (by omega)
    rw [ce] at h1
    obtain ⟨_, hlen, hcell⟩ := World.cells?_some h1
    obtain ⟨xs, k, hk, hxy, _, hxl, hf'⟩ := DataW.trod_struct Try.underlying41 h2
    match xs, hxl, cs', hlen with
    | [y0, y1, y2], _, [v0, v1, v2], _ =>
      have g0 := hf' 0 _ rfl
      have g1 := hf' 1 _ rfl
      have g2 := hf' 2 _ rfl
      simp [c3, c9] at g0 g1 g2
      obtain ⟨x, ex, _, wx⟩ := DataW.trod_int Try.underlying3 g0
      obtain ⟨y, ey, _, wy⟩ := DataW.trod_string Try.underlying9 g1
      obtain ⟨z, ez, _, wz⟩ := DataW.trod_int Try.underlying3 g2
      simp at ex ey ez
      subst ex ey ez
      have e0 := hcell 0 (by omega)
      have e1 := hcell 1 (by omega)
      have e2 := hcell 2 (by omega)
      obtain ⟨b, off, spot⟩ := A
      have hsp : spot = none := by
        obtain ⟨cs0, k1, _⟩ := hel 0 (by omega)
        rw [ce] at k1
        obtain ⟨_, hl0, kc⟩ := World.cells?_some k1
        have k0 := kc 0 (by omega)
        have e : (Addr.add (Addr.add ⟨b, off, spot⟩ (0 * 3)) 0) = ⟨b, off, spot⟩ := by simp [Addr.add]
        rw [e] at k0
        match cs0, hl0 with
        | [a0, a1, a2], _ =>
          unfold World.cell? at k0
          split at k0
          · cases spot with
            | none => rfl
            | some s => simp at k0
          · simp at k0
      subst hsp
      simp only [Addr.add_lit] at e0 e1 e2
      refine ⟨b, off, x, y, z, rfl, World.block_lt_of_cell? W _ e0, wf_of wx, wy, wf_of wz, by simpa using e0, by simpa using e1, by simpa using e2⟩
theorem open_rowDK {a : Option Addr} {n c : Nat} (h : DataW.Trod enc Try.prog W 0 (fun _ => true) true 35 (.slice a n c) d ps) : n ≤ c ∧ c ≤ maxLen ∧ RowDK W a n := by
  obtain ⟨h1, h2, h3⟩ := open_deeds h
  refine ⟨h1, h2, fun j hj => ?_⟩
  obtain ⟨b, off, x, y, z, e, hb, wx, wy, wz, c0, c1, c2⟩ := h3 j hj
  exact ⟨b, off, x, y, z, e, wx, wy, wz, fun w' hw => ⟨(hw.cell (p := ⟨b, off + j * 3, none⟩) hb).trans c0, (hw.cell (p := ⟨b, off + j * 3 + 1, none⟩) hb).trans c1, (hw.cell (p := ⟨b, off + j * 3 + 2, none⟩) hb).trans c2⟩⟩
end
theorem TablePlays_ex {w : World} {m0 : Int} (hm0 : (Lit.int .i64 m0).wf = true) {a : Option Addr} {n c : Nat} (hnc : n ≤ c) (hcm : c ≤ maxLen) (hD : RowDK w a n) :
    Calls Try.prog 4 #[.int .i64 m0, .slice a n c] w fun e w' => e = .returned (.bool true) ∧ Below w.heap.size w w' := TablePlays_any (wf_of hm0) hnc hcm hD
end Go.Proofs.Ytmgapdbfaoflmaa.Tb
