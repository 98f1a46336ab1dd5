/- What came in: an address, slices of addresses, slices of deeds. -/
import Derived.Test.YticijejnemnmlaaJf
import Derived.Deep.SlicePairs
import Derived.Lib.SmallJoins
import Derived.SizedLaws
namespace Go.Proofs.Yticijejnemnmlaa.If
open Go.RowKit Rt
set_option linter.unusedSimpArgs false
set_option linter.unusedVariables false
theorem wf_of {x : Int} (h : (Lit.int .i64 x).wf = true) : wf x := by
  simp [Lit.wf, IntKind.min, IntKind.max, IntKind.bits, IntKind.signed] at h
  exact h
theorem wu_of {x : Int} (h : (Lit.int .u64 x).wf = true) : wu x := by
  simp [Lit.wf, IntKind.min, IntKind.max, IntKind.bits, IntKind.signed] at h
  exact h
/-- A slice of deeds that came in. -/
def RowDe (w : World) (a : Option Addr) (n : Nat) (f : Nat → De) : Prop := ∀ j, j < n → (f j).a.ok ∧ wf (f j).k ∧ wf (f j).n ∧ wf (f j).now ∧ (f j).z.size ≤ 140737488351232 ∧ ∃ b off la ln lc, a = some ⟨b, off, none⟩ ∧ b < w.heap.size ∧
  w.cell? ⟨b, off + j * 8, none⟩ = some (.int .i64 (f j).k) ∧ w.cell? ⟨b, off + j * 8 + 1, none⟩ = some (.bool (f j).a.v6) ∧ w.cell? ⟨b, off + j * 8 + 2, none⟩ = some (.int .u64 (f j).a.hi) ∧ w.cell? ⟨b, off + j * 8 + 3, none⟩ = some (.int .u64 (f j).a.lo) ∧
  w.cell? ⟨b, off + j * 8 + 4, none⟩ = some (.string (f j).z) ∧ w.cell? ⟨b, off + j * 8 + 5, none⟩ = some (.int .i64 (f j).n) ∧ w.cell? ⟨b, off + j * 8 + 6, none⟩ = some (.int .i64 (f j).now) ∧ w.cell? ⟨b, off + j * 8 + 7, none⟩ = some (.slice la ln lc)
section
variable {H : Type} {enc : TypeId × Value → H} {W : World} {d : DataW H} {ps : List MemPlace}
open Go.ChangeShapes Go.WideShapes Go.ChangeAt
theorem cells31 {fuel : Nat} {c0 c1 c2 : Value} {x : DataW H × List MemPlace} (h : DataW.trod enc Try.prog W 0 (fun _ => true) true fuel 31 [c0, c1, c2] = some x) :
    ∃ a : Ad, c0 = .bool a.v6 ∧ c1 = .int .u64 a.hi ∧ c2 = .int .u64 a.lo ∧ a.ok := by
  obtain ⟨xs, k, _, _, _, hxl, hf'⟩ := DataW.trod_struct Try.underlying31 h
  have k29 : Try.prog.cellsOf 29 = 1 := by kernel_rfl
  have k4 : Try.prog.cellsOf 4 = 1 := by kernel_rfl
  match xs, hxl with
  | [y0, y1, y2], _ =>
    have g0 := hf' 0 _ rfl
    have g1 := hf' 1 _ rfl
    have g2 := hf' 2 _ rfl
    simp [k29, k4] at g0 g1 g2
    obtain ⟨b, e0, _⟩ := DataW.trod_bool Try.underlying4 g0
    obtain ⟨p, e1, _, w1⟩ := DataW.trod_int Try.underlying29 g1
    obtain ⟨q, e2, _, w2⟩ := DataW.trod_int Try.underlying29 g2
    simp at e0 e1 e2
    exact ⟨⟨b, p, q⟩, e0, e1, e2, wu_of w1, wu_of w2⟩
theorem open_addr {v : Value} (hval : Value.okWide Try.prog W .any 0 31 v) (h : DataW.Trod enc Try.prog W 0 (fun _ => true) true 31 v d ps) :
    ∃ a : Ad, v = .agg #[.bool a.v6, .int .u64 a.hi, .int .u64 a.lo] ∧ a.ok := by
  obtain ⟨cs, rfl, hsz⟩ := okWide_struct Try.underlying31 hval
  have k31 : Try.prog.cellsOf 31 = 3 := by kernel_rfl
  rw [k31] at hsz
  obtain ⟨fuel, hf⟩ := h
  obtain ⟨L⟩ := cs
  match L, hsz with
  | [c0, c1, c2], _ =>
    have hf2 : DataW.trod enc Try.prog W 0 (fun _ => true) true fuel 31 [c0, c1, c2] = some (d, ps) := hf
    obtain ⟨a, rfl, rfl, rfl, ha⟩ := cells31 hf2
    exact ⟨a, rfl, ha⟩
end
theorem Lasts_ex {w : World} (a : Ad) (ha : a.ok) {zone other : ByteArray} (hz : zone.size ≤ 140737488351232) (ho : other.size ≤ 140737488351232) {bits now later : Int} (hb : (Lit.int .u64 bits).wf = true) (hnow : (Lit.int .i64 now).wf = true) (hlater : (Lit.int .i64 later).wf = true) :
    Calls Try.prog 5 #[.agg #[.bool a.v6, .int .u64 a.hi, .int .u64 a.lo], .string zone, .string other, .int .u64 bits, .int .i64 now, .int .i64 later] w fun e w' => e = .returned (.bool true) ∧ Below w.heap.size w w' := by
  obtain ⟨h1, h2⟩ := wu_of hb
  obtain ⟨b, rfl⟩ := Int.eq_ofNat_of_zero_le h1
  exact Lasts_any w a ha zone other hz ho b (by omega) now later (wf_of hnow) (wf_of hlater)
end Go.Proofs.Yticijejnemnmlaa.If
