/- Slices of numbers that came in: words for the rows; pick. -/
import Derived.Test.YtmgapdbfaoflmaaTmX
import Derived.ProofKit
import Derived.OpenShut
import Derived.ShutString
import Derived.ChangeOld
import Derived.SizedLaws
namespace Go.Proofs.Ytmgapdbfaoflmaa.Tm
open Go.RowKit Rt
set_option linter.unusedSimpArgs false
set_option linter.unusedVariables false

/-- A slice of ints, wherever it lies. -/
structure SliceI (w : World) (v : Value) (L : List Int) (S : Nat → Prop) : Prop where
  val : ∃ a c, v = .slice a L.length c ∧ L.length ≤ c ∧ c ≤ maxLen ∧ (a = none → c = 0) ∧ (0 < L.length → ∃ b off, a = some ⟨b, off, none⟩ ∧ b < w.heap.size ∧ S b ∧ ∀ j, j < L.length → w.cell? ⟨b, off + j, none⟩ = some (.int .i64 (L.getD j 0)))
  wfs : ∀ x ∈ L, wf x
theorem SliceI.keep {w w' : World} {v : Value} {L : List Int} {S : Nat → Prop} (h : SliceI w v L S) (hk : ∀ k, k < w.heap.size → S k → w'.heap[k]? = w.heap[k]?) (hs : w.heap.size ≤ w'.heap.size) : SliceI w' v L S := by
  obtain ⟨⟨a, c, h1, h2, hc, hnn, h3⟩, h4⟩ := h
  refine ⟨⟨a, c, h1, h2, hc, hnn, fun h0 => ?_⟩, h4⟩
  obtain ⟨b, off, e, hb, hS, hc⟩ := h3 h0
  exact ⟨b, off, e, by omega, hS, fun j hj => (World.cell?_of_block (hk b hb hS)).trans (hc j hj)⟩
theorem SliceI.below {w w' : World} {v : Value} {L : List Int} {B : Nat} (h : SliceI w v L (· < B)) (hB : B ≤ w.heap.size) (hb : Below B w w') : SliceI w' v L (· < B) := h.keep (fun k _ hS => hb.block k hS) hb.size
theorem SliceU.below {w w' : World} {v : Value} {L : List Int} {B : Nat} (h : SliceU w v L (· < B)) (hB : B ≤ w.heap.size) (hb : Below B w w') : SliceU w' v L (· < B) := h.keep (fun k _ hS => hb.block k hS) hb.size
/-- An element of a slice of ints. -/
theorem SliceI.at {w : World} {a : Option Addr} {n c : Nat} {L : List Int} {S : Nat → Prop} (h : SliceI w (.slice a n c) L S) (j : Nat) (hj : j < L.length) : ∃ b off, a = some ⟨b, off, none⟩ ∧ n = L.length ∧ w.cell? ⟨b, off + j, none⟩ = some (.int .i64 (L.getD j 0)) ∧ wf (L.getD j 0) := by
  obtain ⟨⟨a', c', h1, h2, hc, hnn, h3⟩, h4⟩ := h
  cases h1
  obtain ⟨b, off, e, hb, hS, hc⟩ := h3 (by omega)
  refine ⟨b, off, e, rfl, hc j hj, h4 _ ?_⟩
  rw [List.getD_eq_getElem?_getD, List.getElem?_eq_getElem hj]
  exact List.getElem_mem hj
theorem SliceI.len {w : World} {a : Option Addr} {n c : Nat} {L : List Int} {S : Nat → Prop} (h : SliceI w (.slice a n c) L S) : n = L.length := by
  obtain ⟨⟨a', c', h1, _⟩, _⟩ := h; cases h1; rfl

theorem wf_of {x : Int} (h : (Lit.int .i64 x).wf = true) : wf x := by
  simp [Lit.wf, IntKind.min, IntKind.max, IntKind.bits, IntKind.signed] at h; exact h
theorem wu_of {x : Int} (h : (Lit.int .u64 x).wf = true) : wu x := by
  simp [Lit.wf, IntKind.min, IntKind.max, IntKind.bits, IntKind.signed] at h; exact h

section
variable {H : Type} {enc : TypeId × Value → H} {W : World} {v : Value} {d : DataW H} {ps : List MemPlace}
open Go.ChangeShapes Go.WideShapes Go.ChangeAt
/-- What a slice of numbers that came in is. -/
theorem open_row {t e : TypeId} {k : IntKind} (ht : Try.prog.underlying t = some (.slice e)) (he : Try.prog.underlying e = some (.int k)) (hc : Try.prog.cellsOf e = 1) {a : Option Addr} {n c : Nat}
    (h : DataW.Trod enc Try.prog W 0 (fun _ => true) true t (.slice a n c) d ps) :
    ∃ L : List Int, n = L.length ∧ L.length ≤ c ∧ c ≤ maxLen ∧ (a = none → c = 0) ∧ (∀ x ∈ L, (Lit.int k x).wf = true) ∧ (0 < L.length → ∃ b off, a = some ⟨b, off, none⟩ ∧ b < W.heap.size ∧ ∀ j, j < L.length → W.cell? ⟨b, off + j, none⟩ = some (.int k (L.getD j 0))) ∧
      ((d = .nil ∧ L = []) ∨ ∃ es rs, d = .slice es rs ∧ es.length = L.length) := by
  have lt1 : ∀ x ∈ ps, x.block < W.heap.size := by obtain ⟨m, hm⟩ := h; exact DataW.trod_lt m _ _ _ hm
  obtain ⟨fuel, hf⟩ := h
  rcases open_ints ht he hc hf with ⟨hcs, hx⟩ | ⟨A, l, cp, zs, hcs, _, hl, hm, hz, hx, hcell, hw⟩
  · simp [Value.cells] at hcs
    obtain ⟨rfl, rfl, rfl⟩ := hcs
    exact ⟨[], rfl, Nat.le_refl _, by unfold maxLen; omega, fun _ => rfl, by simp, by simp, .inl ⟨congrArg Prod.fst hx, rfl⟩⟩
  · simp [Value.cells] at hcs
    obtain ⟨rfl, rfl, rfl⟩ := hcs
    simp at hz
    have hlen : (zs.take n).length = n := by rw [List.length_take]; omega
    refine ⟨zs.take n, hlen.symm, by omega, hm, by simp, fun x hx => hw x (List.mem_of_mem_take hx), fun h0 => ?_, .inr ⟨_, _, congrArg Prod.fst hx, by simp [lits]⟩⟩
    have h1 := hcell 0 (by omega)
    obtain ⟨b, off, spot⟩ := A
    have hsp : spot = none := by
      cases spot with
      | none => rfl
      | some s => simp only [World.cell?, Addr.add] at h1; split at h1 <;> simp at h1
    subst hsp
    refine ⟨b, off, rfl, World.block_lt_of_cell? W _ h1, fun j hj => ?_⟩
    have h2 := hcell j (by omega)
    rw [Addr.add_lit] at h2
    rw [h2]
    simp only [List.getD_eq_getElem?_getD, List.getElem?_take]
    rw [if_pos (by omega)]
theorem open_rowI {t : TypeId} (ht : Try.prog.underlying t = some (.slice 3)) {a : Option Addr} {n c : Nat} (h : DataW.Trod enc Try.prog W 0 (fun _ => true) true t (.slice a n c) d ps) :
    ∃ L : List Int, SliceI W (.slice a n c) L (· < W.heap.size) ∧ ((d = .nil ∧ L = []) ∨ ∃ es rs, d = .slice es rs ∧ es.length = L.length) := by
  obtain ⟨L, h1, h2, h3, h4, h5, h6, h7⟩ := open_row ht Try.underlying3 (by kernel_rfl) h
  exact ⟨L, ⟨⟨a, c, by rw [h1], h2, h3, h4, fun h0 => by obtain ⟨b, off, e, hb, hc⟩ := h6 h0; exact ⟨b, off, e, hb, hb, hc⟩⟩, fun x hx => wf_of (h5 x hx)⟩, h7⟩
theorem open_rowU {t : TypeId} (ht : Try.prog.underlying t = some (.slice 87)) {a : Option Addr} {n c : Nat} (h : DataW.Trod enc Try.prog W 0 (fun _ => true) true t (.slice a n c) d ps) :
    ∃ L : List Int, SliceU W (.slice a n c) L (· < W.heap.size) ∧ ((d = .nil ∧ L = []) ∨ ∃ es rs, d = .slice es rs ∧ es.length = L.length) := by
  obtain ⟨L, h1, h2, h3, h4, h5, h6, h7⟩ := open_row ht Try.underlying87 (by kernel_rfl) h
  exact ⟨L, ⟨⟨a, c, by rw [h1], h2, h3, h4, fun h0 => by obtain ⟨b, off, e, hb, hc⟩ := h6 h0; exact ⟨b, off, e, hb, hb, hc⟩⟩, fun x hx => wu_of (h5 x hx)⟩, h7⟩
end
/-- Draws one behind the other. -/
def restN : List Int → List Int → List Int
  | L, [] => L
  | L, n :: ns => restN (restD L n) ns
def outN : List Int → List Int → List Int
  | _, [] => []
  | L, n :: ns => nextD L n :: outN (restD L n) ns
theorem restN_snoc : ∀ (ns : List Int) (L : List Int) (n : Int), restN L (ns ++ [n]) = restD (restN L ns) n
  | [], _, _ => rfl
  | m :: ns, L, n => restN_snoc ns (restD L m) n
theorem outN_snoc : ∀ (ns : List Int) (L : List Int) (n : Int), outN L (ns ++ [n]) = outN L ns ++ [nextD (restN L ns) n]
  | [], _, _ => rfl
  | m :: ns, L, n => by simp only [List.cons_append, outN, restN]; rw [outN_snoc ns]
theorem outN_length : ∀ (ns : List Int) (L : List Int), (outN L ns).length = ns.length
  | [], _ => rfl
  | m :: ns, L => by simp [outN, outN_length ns]
theorem take_snoc' (l : List Int) (k : Nat) (h : k < l.length) : l.take (k + 1) = l.take k ++ [l.getD k 0] := by
  rw [List.take_succ_eq_append_getElem h, List.getD_eq_getElem?_getD, List.getElem?_eq_getElem h]; rfl
theorem outN_get (ns L : List Int) (k : Nat) (h : k < ns.length) : (outN L ns).getD k 0 = nextD (restN L (ns.take k)) (ns.getD k 0) := by
  induction ns generalizing L k with
  | nil => simp at h
  | cons m ns ih =>
    cases k with
    | zero => simp [outN, restN]
    | succ k =>
      have := ih (restD L m) k (by simpa using h)
      simpa [outN, restN] using this
theorem nextD_bd (L : List Int) (n : Int) (hL : ∀ x ∈ L, wu x) : 0 ≤ nextD L n ∧ (0 < n → nextD L n < n) := by
  unfold nextD
  split
  · exact ⟨Int.le_refl _, fun h => h⟩
  · exact ⟨Int.emod_nonneg _ (by omega), fun h => Int.emod_lt_of_pos _ h⟩
def numC (L : List Int) : List Value := L.map fun x => .int .i64 x
end Go.Proofs.Ytmgapdbfaoflmaa.Tm
