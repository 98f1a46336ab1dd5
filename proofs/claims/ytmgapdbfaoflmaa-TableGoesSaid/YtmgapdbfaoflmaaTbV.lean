/- Slices of texts that came in, with the texts' sizes; TableGoes for its row. -/
import Derived.Test.YtmgapdbfaoflmaaTbU
import Derived.Test.YtmgapdbfaoflmaaTbW
namespace Go.Proofs.Ytmgapdbfaoflmaa.Tb
open Go.RowKit Rt
set_option linter.unusedSimpArgs false
set_option linter.unusedVariables false
section
variable {H : Type} {enc : TypeId × Value → H} {W : World} {d : DataW H} {ps : List MemPlace}
open Go.ChangeShapes Go.WideShapes Go.ChangeAt
theorem mem_weightsAll {P : Program} {e : TypeId} {x : DataW H} {m : Nat} (hm : m ∈ x.weights P e) : ∀ {l : List (DataW H)}, x ∈ l → m ∈ DataW.weightsAll P e l
  | y :: l, h => by
    unfold DataW.weightsAll
    rcases List.mem_cons.1 h with rfl | h
    · exact List.mem_append_left _ hm
    · exact List.mem_append_right _ (mem_weightsAll hm h)
set_option maxRecDepth 100000 in
theorem open_sizes {a : Option Addr} {n c : Nat} (h : DataW.Trod enc Try.prog W 0 (fun _ => true) true 22 (.slice a n c) d ps) (hw : ∀ m, m ∈ d.weights Try.prog 22 → m ≤ reachBytes) :
    ∀ j, j < n → ∀ b off s, a = some ⟨b, off, none⟩ → W.cell? ⟨b, off + j, none⟩ = some (.string s) → s.size ≤ 140737488351232 := by
  obtain ⟨fuel, hf⟩ := h
  have ce : Try.prog.cellsOf 9 = 1 := by kernel_rfl
  rcases Go.Deep.open_slice Try.underlying22 hf with ⟨hcs, _⟩ | ⟨A, len, cap, m, n', D, Pl, hcs, hb, hl, hm, hmm, hx, hel⟩
  · simp [Value.cells] at hcs
    obtain ⟨rfl, rfl, rfl⟩ := hcs
    intro j hj; omega
  · simp [Value.cells] at hcs
    obtain ⟨rfl, rfl, rfl⟩ := hcs
    simp at hmm
    subst hmm
    intro j hj b off s e hc
    have e := Option.some.inj e
    subst e
    obtain ⟨cs', h1, h2⟩ := hel j (by omega)
    rw [ce] at h1
    obtain ⟨_, hlen, hcell⟩ := World.cells?_some h1
    obtain ⟨s', rfl, hD, hs⟩ := DataW.trod_string Try.underlying9 h2
    have k0 := hcell 0 (by simp)
    have e : (Addr.add (Addr.add ⟨b, off, none⟩ (j * 1)) 0) = ⟨b, off + j, none⟩ := by simp [Addr.add]
    rw [e, hc] at k0
    simp at k0
    subst k0
    have hd : d = .slice ((List.range n).map D) ((List.range (m - n)).map fun j => D (n + j)) := congrArg Prod.fst hx
    have hDj : D j = .lit (.string s.data.toList) := congrArg Prod.fst hD
    have hin : (D j) ∈ (List.range n).map D := List.mem_map_of_mem (List.mem_range.2 hj)
    have hmw : s.data.toList.length ∈ (D j).weights Try.prog 9 := by rw [hDj]; exact List.mem_singleton.2 rfl
    have := hw s.data.toList.length (by
      rw [hd]
      unfold DataW.weights
      rw [Try.underlying22]
      exact List.mem_cons_of_mem _ (List.mem_append_left _ (mem_weightsAll hmw hin)))
    have hr : reachBytes = 140737488351232 := by decide
    rw [hr] at this
    have e2 : s.data.toList.length = s.size := Array.length_toList
    rw [e2] at this
    exact this
theorem open_rowBs {a : Option Addr} {n c : Nat} (h : DataW.Trod enc Try.prog W 0 (fun _ => true) true 22 (.slice a n c) d ps) (hw : ∀ m, m ∈ d.weights Try.prog 22 → m ≤ reachBytes) :
    n ≤ c ∧ c ≤ maxLen ∧ ∃ f, RowB W a n f ∧ ∀ j, j < n → (f j).size ≤ 140737488351232 := by
  obtain ⟨h1, h2, f, hf⟩ := open_rowB h
  refine ⟨h1, h2, f, hf, fun j hj => ?_⟩
  obtain ⟨_, b, off, e, hc⟩ := hf j hj
  exact open_sizes h hw j hj b off _ e (hc W (Below.refl _ _))
end
theorem TableGoes_ex {w : World} {a : Option Addr} {n c : Nat} (hnc : n ≤ c) (hcm : c ≤ maxLen) (hD : ∃ f, RowB w a n f)
    {ad : Option Addr} {nd cd : Nat} (hnd : nd ≤ cd) (hcd : cd ≤ maxLen) (hDd : ∃ fd, RowB w ad nd fd ∧ ∀ j, j < nd → (fd j).size ≤ 140737488351232) {s0 : Int} (hs0 : (Lit.int .i64 s0).wf = true) :
    Calls Try.prog 5 #[.slice a n c, .slice ad nd cd, .int .i64 s0] w fun e w' => e = .returned (.bool true) ∧ Below w.heap.size w w' := by
  obtain ⟨f, hf⟩ := hD
  obtain ⟨fd, hfd, hs⟩ := hDd
  exact TableGoes_any hnc hcm hf hnd hcd hfd hs (wf_of hs0)
end Go.Proofs.Ytmgapdbfaoflmaa.Tb
