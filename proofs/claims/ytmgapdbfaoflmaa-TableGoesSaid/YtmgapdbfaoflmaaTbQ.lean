/- TableGoes, plainly: who is told; counts by texts. -/
import Derived.Test.YtmgapdbfaoflmaaTbO
namespace Go.Proofs.Ytmgapdbfaoflmaa.Tb
open Go.RowKit Go.Shelf Rt Tm
set_option linter.unusedSimpArgs false
set_option linter.unusedVariables false
/-- Was it taken away by the first m of those that are to be? -/
def Gone (nd : Nat) (fd : Nat → ByteArray) (m : Nat) (b : ByteArray) : Prop := ∃ j, j < nd ∧ j < m ∧ fd j = b
open Classical in
noncomputable def stepT (nd : Nat) (fd : Nat → ByteArray) (q : Nat) (T : List ByteArray) (b : ByteArray) : List ByteArray :=
  if q < T.length then T else if Gone nd fd T.length b then T else T ++ [b]
noncomputable def toldF (nd : Nat) (fd : Nat → ByteArray) (q : Nat) (fb : Nat → ByteArray) : Nat → List ByteArray
  | 0 => []
  | j + 1 => stepT nd fd q (toldF nd fd q fb j) (fb j)
section
variable {nd nb q : Nat} {fd fb : Nat → ByteArray} {T : List ByteArray} {b : ByteArray} {l : List KV} {m : Nat}
theorem stepT_stop (h : q < T.length) : stepT nd fd q T b = T := by unfold stepT; rw [if_pos h]
theorem stepT_gone (h : Gone nd fd T.length b) : stepT nd fd q T b = T := by
  unfold stepT
  by_cases h0 : q < T.length
  · rw [if_pos h0]
  · rw [if_neg h0, if_pos h]
theorem stepT_told (h0 : ¬ q < T.length) (h : ¬ Gone nd fd T.length b) : stepT nd fd q T b = T ++ [b] := by unfold stepT; rw [if_neg h0, if_neg h]
theorem stepT_prefix : T <+: stepT nd fd q T b := by
  unfold stepT
  split
  · exact List.prefix_rfl
  · split
    · exact List.prefix_rfl
    · exact List.prefix_append _ _
theorem toldF_prefix {i : Nat} : ∀ {j : Nat}, i ≤ j → toldF nd fd q fb i <+: toldF nd fd q fb j
  | 0, h => by obtain rfl : i = 0 := by omega
               exact List.prefix_rfl
  | j + 1, h => by
    by_cases e : i = j + 1
    · subst e; exact List.prefix_rfl
    · exact (toldF_prefix (j := j) (by omega)).trans stepT_prefix
theorem toldF_stop {i : Nat} (hs : q < (toldF nd fd q fb i).length) : ∀ {j : Nat}, i ≤ j → toldF nd fd q fb j = toldF nd fd q fb i
  | 0, h => by obtain rfl : i = 0 := by omega
               rfl
  | j + 1, h => by
    by_cases e : i = j + 1
    · subst e; rfl
    · have := toldF_stop hs (j := j) (by omega)
      show stepT nd fd q (toldF nd fd q fb j) (fb j) = _
      rw [this, stepT_stop hs]
theorem toldF_len : ∀ j, (toldF nd fd q fb j).length ≤ q + 1 ∧ (toldF nd fd q fb j).length ≤ j
  | 0 => ⟨Nat.zero_le _, Nat.le_refl _⟩
  | j + 1 => by
    obtain ⟨h1, h2⟩ := toldF_len j
    have e : toldF nd fd q fb (j + 1) = stepT nd fd q (toldF nd fd q fb j) (fb j) := rfl
    rw [e]
    unfold stepT
    split
    · exact ⟨h1, by omega⟩
    · split
      · exact ⟨h1, by omega⟩
      · rw [List.length_append, List.length_singleton]; omega
/-! ### the table meanwhile -/
theorem lookV_delK (d b : ByteArray) : lookV (delK l d) b = if b = d then none else lookV l b := by
  unfold lookV delK
  rw [List.find?_filter]
  by_cases e : b = d
  · rw [if_pos e, List.find?_eq_none.2]
    · rfl
    · intro x _
      subst e
      simp
  · rw [if_neg e]
    congr 2
    funext x
    by_cases h : x.1 = b
    · simp [h, e]
    · simp [h]
theorem lookV_cons {k b : ByteArray} {v : Int} (h : b ≠ k) : lookV ((k, v) :: l) b = lookV l b := by
  unfold lookV
  rw [List.find?_cons]
  simp [Ne.symm h]
/-- Of those keys just these are there. -/
structure Inv (nd : Nat) (fd : Nat → ByteArray) (nb : Nat) (fb : Nat → ByteArray) (m : Nat) (l : List KV) : Prop where
  there : ∀ i, i < nb → ((lookV l (fb i)).isSome = true ↔ ¬ Gone nd fd m (fb i))
  len : l.length ≤ nb + m
theorem Inv.step (h : Inv nd fd nb fb m l) (hn : nb + m < 999) : Inv nd fd nb fb (m + 1) (stepL nd fd nb fb m l) := by
  have hle := delK_length_le l (fd m)
  have hlen := h.len
  unfold stepL
  by_cases hm : m < nd
  · rw [if_pos hm]
    have hdel : ∀ i, i < nb → ((lookV (delK l (fd m)) (fb i)).isSome = true ↔ ¬ Gone nd fd (m + 1) (fb i)) := by
      intro i hi
      rw [lookV_delK]
      by_cases e : fb i = fd m
      · rw [if_pos e]
        simp only [Option.isSome_none, Bool.false_eq_true, false_iff, Classical.not_not]
        exact ⟨m, hm, by omega, e.symm⟩
      · rw [if_neg e, h.there i hi]
        refine ⟨fun hg ⟨j, h1, h2, h3⟩ => ?_, fun hg ⟨j, h1, h2, h3⟩ => hg ⟨j, h1, by omega, h3⟩⟩
        by_cases ej : j = m
        · subst ej; exact e h3.symm
        · exact hg ⟨j, h1, by omega, h3⟩
    cases hd : decide (∃ i, i < nb ∧ fb i = newK (fd m)) with
    | true => rw [if_pos rfl]; exact ⟨hdel, by omega⟩
    | false =>
      rw [if_neg (by simp)]
      have hno := of_decide_eq_false hd
      have hp : putK 1000 (delK l (fd m)) (newK (fd m)) 1 = (newK (fd m), 1) :: delK (delK l (fd m)) (newK (fd m)) := by
        unfold putK
        have := delK_length_le (delK l (fd m)) (newK (fd m))
        rw [List.take_of_length_le (by rw [List.length_cons]; omega)]
      rw [hp]
      refine ⟨fun i hi => ?_, ?_⟩
      · have hne : fb i ≠ newK (fd m) := fun e => hno ⟨i, hi, e⟩
        rw [lookV_cons hne, lookV_delK, if_neg hne]
        exact hdel i hi
      · have := delK_length_le (delK l (fd m)) (newK (fd m))
        rw [List.length_cons]; omega
  · rw [if_neg hm]
    refine ⟨fun i hi => ?_, by omega⟩
    rw [h.there i hi]
    exact ⟨fun hg ⟨j, h1, h2, h3⟩ => hg ⟨j, h1, by omega, h3⟩, fun hg ⟨j, h1, h2, h3⟩ => hg ⟨j, h1, by omega, h3⟩⟩
end
/-! ### counts by texts -/
def MapSI (w : World) (b n : Nat) (c : ByteArray → Nat) : Prop :=
  ∃ D : DataW Unit, w.ownsMap Try.prog 9 (plainElem Try.prog 3) b n D ∧ ∀ k : ByteArray, D.atKey (kl k) (.lit (.int .i64 0)) = .lit (.int .i64 (c k)) ∧ c k ≤ n
section
variable {w w' : World} {b n : Nat} {c : ByteArray → Nat}
theorem MapSI.keep (h : MapSI w b n c) (hb : w'.heap[b]? = w.heap[b]?) : MapSI w' b n c := by
  obtain ⟨D, ⟨es, clock, h1, h2⟩, h3⟩ := h
  exact ⟨D, ⟨es, clock, hb.trans h1, h2⟩, h3⟩
theorem MapSI.lt (h : MapSI w b n c) : b < w.heap.size := by obtain ⟨D, h, _⟩ := h; exact h.lt
theorem MapSI.made (w : World) : MapSI (w.alloc (.map #[] 0)) w.heap.size 0 (fun _ => 0) :=
  ⟨.map [], World.ownsMap_made _ _ _ _, fun k => ⟨rfl, Nat.le_refl _⟩⟩
theorem zero3' (w : World) : (zeroValue 3).run Try.prog w = .ok (.int .i64 0) w := by kernel_rfl
theorem MapSI.look (h : MapSI w b n c) {k : ByteArray} (hk : k.size ≤ maxLen) : (Instr.lookup 50 (.map (some b)) (.string k) false).run Try.prog w = .ok (.int .i64 (c k : Nat)) w := by
  obtain ⟨D, h1, h2⟩ := h
  obtain ⟨a, hrun, ha, _⟩ := h1.lookup_int (t := 50) K9 Try.underlying50 Try.underlying3 (zero3' w) (key9 hk)
  rw [(h2 k).1] at ha
  rw [hrun]
  simp at ha
  rw [ha]
theorem MapSI.put (h : MapSI w b n c) {k : ByteArray} (hk : k.size ≤ maxLen) (hn : n < 1000000) :
    ∃ w2, (Instr.mapUpdate 50 (.map (some b)) (.string k) (.int .i64 ((c k : Nat) + 1))).run Try.prog w = .ok () w2 ∧ MapSI w2 b (n + 1) (fun x => if x = k then c k + 1 else c x) ∧ w.mapTurned w2 b := by
  obtain ⟨D, h1, h2⟩ := h
  have hw : (Lit.int .i64 (((c k + 1 : Nat) : Int))).wf = true := WalkArith.wf_i64 (by have := (h2 k).2; omega)
  obtain ⟨w2, r2, r3, r4⟩ := h1.store (t := 50) K9 Try.underlying50 (by unfold maxLen; omega) (key9 hk) (plainElem_int Try.underlying3 hw)
  have hT := h1.isMap
  refine ⟨w2, by rw [← r2]; rfl, ⟨_, r3, fun x => ?_⟩, r4⟩
  dsimp only
  by_cases e : x = k
  · subst e
    rw [if_pos rfl]
    exact ⟨Maps.atKey_put_same hT (show WideAt.IsKeyLit (kl x) from trivial) _ _, by have := (h2 x).2; omega⟩
  · rw [if_neg e]
    have hne : kl x ≠ kl k := fun h => e (kl_inj h)
    exact ⟨(Maps.atKey_put_other hne _ _).trans (h2 x).1, by have := (h2 x).2; omega⟩
end
end Go.Proofs.Ytmgapdbfaoflmaa.Tb
