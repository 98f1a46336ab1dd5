/- Rows of addresses; IndexFunc and DeleteFunc over them. -/
import Derived.Test.YticijejnemnmlaaInG
namespace Go.Proofs.Yticijejnemnmlaa.If
open Go.RowKit Rt
set_option linter.unusedSimpArgs false
set_option linter.unusedVariables false
def ga (l : List Ad) (i : Nat) : Ad := l.getD i ⟨false, 0, 0⟩
theorem ga_eq {l : List Ad} {i : Nat} (h : i < l.length) : ga l i = l[i] := by unfold ga; rw [List.getD_eq_getElem?_getD, List.getElem?_eq_getElem h]; rfl
theorem ga_mem {l : List Ad} {i : Nat} (h : i < l.length) : ga l i ∈ l := by rw [ga_eq h]; exact List.getElem_mem h
def adC (l : List Ad) : List Value := l.flatMap Ad.cs
theorem adC_length (l : List Ad) : (adC l).length = l.length * 3 := by
  induction l with
  | nil => rfl
  | cons a l ih => simp [adC, Ad.cs] at ih ⊢; omega
theorem adC_append (a b : List Ad) : adC (a ++ b) = adC a ++ adC b := by simp [adC]
theorem adC_get : ∀ (l : List Ad) (i : Nat), i < l.length → (adC l)[3 * i]? = some (.bool (ga l i).v6) ∧ (adC l)[3 * i + 1]? = some (.int .u64 (ga l i).hi) ∧ (adC l)[3 * i + 2]? = some (.int .u64 (ga l i).lo)
  | [], i, h => by simp at h
  | a :: l, 0, _ => ⟨rfl, rfl, rfl⟩
  | a :: l, i + 1, h => by
    have := adC_get l i (by simpa using h)
    exact this
theorem adC_set : ∀ (l : List Ad) (i : Nat) (p : Ad), i < l.length → adC (l.set i p) = (((adC l).set (3 * i) (.bool p.v6)).set (3 * i + 1) (.int .u64 p.hi)).set (3 * i + 2) (.int .u64 p.lo)
  | [], i, p, h => by simp at h
  | a :: l, 0, p, _ => rfl
  | a :: l, i + 1, p, h => by
    have := adC_set l i p (by simpa using h)
    show _ :: _ :: _ :: adC (l.set i p) = _
    rw [this]; rfl
theorem adC_take (l : List Ad) (k : Nat) : (adC l).take (k * 3) = adC (l.take k) := by
  by_cases hk : k ≤ l.length
  · have e : adC l = adC (l.take k) ++ adC (l.drop k) := by rw [← adC_append, List.take_append_drop]
    rw [e]
    exact List.take_left' (by rw [adC_length, List.length_take, Nat.min_eq_left hk])
  · rw [List.take_of_length_le (by rw [adC_length]; omega), List.take_of_length_le (by omega)]
theorem adC_one (l : List Ad) : ∀ u ∈ adC l, u.oneCell' = true := fun u hu => by obtain ⟨q, _, hq⟩ := List.mem_flatMap.1 hu; simp [Ad.cs] at hq; rcases hq with rfl | rfl | rfl <;> rfl
theorem info31 : (Try.prog.info? 31).map (fun i => (i.zero, i.size, i.bytes)) = some (some (.agg #[.bool false, .int .u64 0, .int .u64 0]), 3, 24) := by kernel_rfl
theorem zero31 (w : World) : (zeroValue 31).run Try.prog w = .ok (.agg #[.bool false, .int .u64 0, .int .u64 0]) w := by kernel_rfl
section
variable {w w' : World} {base n b c k : Nat} {v : Value} {L M : List Ad}
/-- A row of one's own, in its block. -/
def OwnA (w : World) (b c : Nat) (L : List Ad) : Prop := w.ownsRow 0 31 3 (.slice (some ⟨b, 0, none⟩) L.length c) L.length (adC L)
theorem OwnA.row (h : OwnA w b c L) (hb : base ≤ b) : w.ownsRow base 31 3 (.slice (some ⟨b, 0, none⟩) L.length c) L.length (adC L) := by
  obtain ⟨h1, h2 | ⟨g, cap, cur, hv, hg, r⟩⟩ := h
  · cases h2.1
  · cases hv; exact ⟨h1, .inr ⟨b, _, cur, rfl, hb, r⟩⟩
theorem OwnA.of (h : w.ownsRow base 31 3 (.slice (some ⟨b, 0, none⟩) n c) n (adC L)) (hn : n = L.length) : OwnA w b c L ∧ base ≤ b := by
  subst hn
  obtain ⟨h1, h2 | ⟨g, cap, cur, hv, hg, r⟩⟩ := h
  · cases h2.1
  · cases hv; exact ⟨⟨h1, .inr ⟨b, _, cur, rfl, Nat.zero_le _, r⟩⟩, hg⟩
theorem OwnA.lt (h : OwnA w b c L) : b < w.heap.size := (World.ownsRow.lt h b rfl).2
theorem OwnA.cap (h : OwnA w b c L) : L.length ≤ c ∧ c ≤ maxLen := by
  obtain ⟨h1, h2 | ⟨g, cap, cur, hv, hg, hh, r1, r2, _⟩⟩ := h
  · cases h2.1
  · cases hv; exact ⟨r1, r2⟩
theorem OwnA.keep (h : OwnA w b c L) (hb : w'.heap[b]? = w.heap[b]?) : OwnA w' b c L := by
  obtain ⟨h1, h2 | ⟨g, cap, cur, hv, hg, hh, r⟩⟩ := h
  · cases h2.1
  · cases hv; exact ⟨h1, .inr ⟨b, _, cur, rfl, hg, hb.trans hh, r⟩⟩
theorem OwnA.below (h : OwnA w b c L) (hb : Below w.heap.size w w') : OwnA w' b c L := h.keep (hb.block b h.lt)
theorem OwnA.at (h : OwnA w b c L) (i : Nat) (hi : i < L.length) :
    w.cell? ⟨b, i * 3, none⟩ = some (.bool (ga L i).v6) ∧ w.cell? ⟨b, i * 3 + 1, none⟩ = some (.int .u64 (ga L i).hi) ∧ w.cell? ⟨b, i * 3 + 2, none⟩ = some (.int .u64 (ga L i).lo) := by
  have h1 := World.ownsRow.cellAt h (i * 3) (by omega)
  have h2 := World.ownsRow.cellAt h (i * 3 + 1) (by omega)
  have h4 := World.ownsRow.cellAt h (i * 3 + 2) (by omega)
  have h3 := adC_get L i hi
  rw [Nat.mul_comm 3 i] at h3
  rw [h3.1] at h1
  rw [h3.2.1] at h2
  rw [h3.2.2] at h4
  exact ⟨h1, h2, h4⟩
theorem OwnA.fr (h : OwnA w b c L) (j : Nat) : w.frozen? ⟨b, j, none⟩ = false := World.ownsRow.frozenAt h j
theorem OwnA.set (h : OwnA w b c L) (i : Nat) (hi : i < L.length) (p : Ad) : OwnA (((w.setCell ⟨b, i * 3, none⟩ (.bool p.v6)).setCell ⟨b, i * 3 + 1, none⟩ (.int .u64 p.hi)).setCell ⟨b, i * 3 + 2, none⟩ (.int .u64 p.lo)) b c (L.set i p) := by
  have h1 := (World.ownsRow.stored (World.ownsRow.stored (World.ownsRow.stored h (i * 3) (.bool p.v6)).1 (i * 3 + 1) (.int .u64 p.hi)).1 (i * 3 + 2) (.int .u64 p.lo)).1
  unfold OwnA
  rw [adC_set L i p hi, Nat.mul_comm 3 i, List.length_set]
  exact h1
/-- Fewer of them. -/
theorem OwnA.take (h : OwnA w b c L) (k : Nat) (hk : k ≤ L.length) : OwnA w b c (L.take k) := by
  obtain ⟨h1, h2 | ⟨g, cap, cur, hv, hg, hh, r1, r2, r3, r4⟩⟩ := h
  · cases h2.1
  · cases hv
    have hl : (L.take k).length = k := by rw [List.length_take, Nat.min_eq_left hk]
    refine ⟨adC_length _, .inr ⟨b, _, cur, rfl, hg, hh, by omega, r2, r3, ?_⟩⟩
    rw [hl, ← adC_take, ← r4, List.take_take]
    congr 1; omega
/-- What is behind the k-th one is cleared. -/
theorem OwnA.clear (h : OwnA w b c L) (hk : k < L.length) (cc : Nat) :
    (Builtin.clear_ #[23] 0 #[.slice (some ⟨b, k * 3, none⟩) (L.length - k) cc]).run Try.prog w = .ok (.tuple #[]) (w.setCells b (k * 3) (Builtin.zeroCells (Value.agg #[.bool false, .int .u64 0, .int .u64 0]).cells (L.length - k)).toList) ∧
      OwnA (w.setCells b (k * 3) (Builtin.zeroCells (Value.agg #[.bool false, .int .u64 0, .int .u64 0]).cells (L.length - k)).toList) b c (L.take k) := by
  have hfr := h.fr
  obtain ⟨h1, h2 | ⟨g, cap, cur, hv, hg, hh, r1, r2, r3, r4⟩⟩ := h
  · cases h2.1
  · cases hv
    obtain ⟨zs, hzs⟩ : ∃ zs, (Builtin.zeroCells (Value.agg #[.bool false, .int .u64 0, .int .u64 0]).cells (L.length - k)).toList = zs := ⟨_, rfl⟩
    have hzl : zs.length = (L.length - k) * 3 := by rw [← hzs, Array.length_toList, size_zeroCells]; rfl
    have hz1 : ∀ u ∈ zs, u.oneCell' = true := by
      intro u hu
      rw [← hzs] at hu
      simp [Builtin.zeroCells, Value.cells] at hu
      obtain ⟨j, hj, rfl⟩ := hu
      rcases (by omega : j % 3 = 0 ∨ j % 3 = 1 ∨ j % 3 = 2) with e | e | e <;> simp [e, Value.oneCell']
    obtain ⟨m, hm⟩ : ∃ m, L.length - k = m + 1 := ⟨L.length - k - 1, by omega⟩
    obtain ⟨cur', q1, q2, q3⟩ := Nm.setCells_row zs (k * 3) w cur hh (by omega)
    have hcell : ∀ j, j < zs.length → (w.cell? ⟨b, k * 3 + j, none⟩).isSome = true := fun j hj => by simp [World.cell?, hh]; omega
    have hst := run_storeCells_cells (P := Try.prog) b (k * 3) zs 0 w (by simpa using hcell) (by intro j _; exact hfr _) (by intro u hu; exact hz1 u hu)
    simp only [Nat.add_zero] at hst
    rw [hzs]
    refine ⟨?_, adC_length _, .inr ⟨b, _, cur', rfl, Nat.zero_le _, q1, by rw [List.length_take]; omega, r2, q2.trans r3, ?_⟩⟩
    · rw [hm] at hzs ⊢
      simp only [Builtin.clear_]
      simp [run_underlying Try.underlying23, zero31, hzs, hst]
    · rw [q3, List.length_take, Nat.min_eq_left (by omega), ← adC_take, ← r4, List.append_assoc, List.take_take]
      have e : (List.take (k * 3) cur.toList).length = k * 3 := by rw [List.length_take, Array.length_toList]; omega
      rw [List.take_append_of_le_length (by omega), List.take_take, Nat.min_self]
      congr 1; omega
end
def keepA (f : Ad → Bool) (L : List Ad) : List Ad := L.filter (fun p => !f p)
theorem keepA_snoc (f : Ad → Bool) (L : List Ad) (j : Nat) (hj : j < L.length) : keepA f (L.take (j + 1)) = if f (ga L j) = true then keepA f (L.take j) else keepA f (L.take j) ++ [ga L j] := by
  unfold keepA
  rw [List.take_succ_eq_append_getElem hj, List.filter_append, ga_eq hj]
  by_cases h : f L[j] = true
  · rw [if_pos h]; simp [h]
  · rw [if_neg h]; simp [h]
theorem keepA_all {f : Ad → Bool} {L : List Ad} (h : ∀ i, i < L.length → f (ga L i) = false) : keepA f L = L := List.filter_eq_self.2 fun p hp => by
  obtain ⟨i, hi, rfl⟩ := List.getElem_of_mem hp; rw [← ga_eq hi, h i hi]; rfl
/-- How the row stands in a round. -/
structure DG (f : Ad → Bool) (L M : List Ad) (i j : Nat) : Prop where
  len : M.length = L.length
  ij : i < j
  jl : j ≤ L.length
  hd : M.take i = keepA f (L.take j)
  tl : ∀ k, j ≤ k → k < L.length → ga M k = ga L k
theorem DG.skip {f : Ad → Bool} {L M : List Ad} {i j : Nat} (h : DG f L M i j) (hj : j < L.length) (he : f (ga L j) = true) : DG f L M i (j + 1) :=
  ⟨h.len, by have := h.ij; omega, hj, by rw [keepA_snoc f L j hj, if_pos he]; exact h.hd, fun k hk => h.tl k (by omega)⟩
theorem DG.put {f : Ad → Bool} {L M : List Ad} {i j : Nat} (h : DG f L M i j) (hj : j < L.length) (he : f (ga L j) = false) : DG f L (M.set i (ga L j)) (i + 1) (j + 1) := by
  have h1 := h.ij
  have h2 := h.len
  refine ⟨by rw [List.length_set]; exact h2, by omega, hj, ?_, fun k hk hk2 => ?_⟩
  · rw [keepA_snoc f L j hj, if_neg (by simp [he]), ← h.hd, List.take_succ_eq_append_getElem (by rw [List.length_set]; omega), List.take_set_of_le (Nat.le_refl _), List.getElem_set_self]
  · rw [← h.tl k (by omega) hk2, ga_eq (l := M.set i (ga L j)) (by rw [List.length_set]; omega), ga_eq (l := M) (by omega), List.getElem_set_ne (by omega)]
theorem DG.done {f : Ad → Bool} {L M : List Ad} {i : Nat} (h : DG f L M i L.length) : M.take i = keepA f L := by rw [h.hd, List.take_length]
theorem DG.start {f : Ad → Bool} {L : List Ad} {k : Nat} (hk : k < L.length) (hy : f (ga L k) = true) (hno : ∀ i, i < k → f (ga L i) = false) : DG f L L k (k + 1) := by
  refine ⟨rfl, by omega, hk, ?_, fun _ _ _ => rfl⟩
  rw [keepA_snoc f L k hk, if_pos hy]
  refine (keepA_all fun i hi => ?_).symm
  rw [List.length_take] at hi
  have : ga (L.take k) i = ga L i := by rw [ga_eq (by rw [List.length_take]; exact hi), ga_eq (by omega), List.getElem_take]
  rw [this]; exact hno i (by omega)

def idxA (f : Ad → Bool) (L : List Ad) : Int := match L.findIdx? f with | some i => (i : Int) | none => -1
theorem idxA_none {f : Ad → Bool} {L : List Ad} (h : ∀ i, i < L.length → f (ga L i) = false) : idxA f L = -1 := by
  unfold idxA
  rw [List.findIdx?_eq_none_iff.2 fun p hp => by obtain ⟨i, hi, rfl⟩ := List.getElem_of_mem hp; rw [← ga_eq hi]; exact h i hi]
theorem idxA_some {f : Ad → Bool} {L : List Ad} {k : Nat} (hk : k < L.length) (h : ∀ i, i < k → f (ga L i) = false) (hy : f (ga L k) = true) : idxA f L = k := by
  unfold idxA
  have : L.findIdx? f = some k := by
    rw [List.findIdx?_eq_some_iff_getElem]
    exact ⟨hk, by rw [← ga_eq hk]; exact hy, fun j hj => by rw [← ga_eq (by omega)]; simp [h j hj]⟩
  rw [this]
theorem idxA_cases (f : Ad → Bool) (L : List Ad) : (idxA f L = -1 ∧ ∀ i, i < L.length → f (ga L i) = false) ∨ ∃ k, k < L.length ∧ idxA f L = (k : Int) ∧ f (ga L k) = true ∧ ∀ i, i < k → f (ga L i) = false := by
  cases h : L.findIdx? f with
  | none => exact .inl ⟨by unfold idxA; rw [h], fun i hi => by rw [ga_eq hi]; exact List.findIdx?_eq_none_iff.1 h _ (List.getElem_mem hi)⟩
  | some k =>
    obtain ⟨hk, h1, h2⟩ := List.findIdx?_eq_some_iff_getElem.1 h
    exact .inr ⟨k, hk, by unfold idxA; rw [h], by rw [ga_eq hk]; exact h1, fun i hi => by rw [ga_eq (by omega)]; simpa using h2 i hi⟩
end Go.Proofs.Yticijejnemnmlaa.If
