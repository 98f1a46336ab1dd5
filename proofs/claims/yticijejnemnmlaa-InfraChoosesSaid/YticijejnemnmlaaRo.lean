/- A region that draws its order, told in an order of one's own: 0: an operation that looks at no memory; 1: one that leaves memory alone and yields the same in whatever world lies above; 2: one that makes memory and leaves the old as it was; else one that may act. Reads may stand ahead of what makes memory. -/
import Derived.Test.YticijejnemnmlaaRt
import Derived.Below
namespace Go.Proofs.Yticijejnemnmlaa.Rt
open Go Go.RowKit
set_option linter.unusedSectionVars false
set_option linter.unusedVariables false

section
variable {P : Program} {ops : Array Oper} {md : Region.Mode}

/-- It yields v in this world, and in every world above it. -/
def YE (P : Program) (ops : Array Oper) (w : World) (o : Oper) (v : Value) (a : Act) : Prop := ∀ W, Below w.heap.size w W → YieldsAt P ops W o v a
theorem YE.up {w w' : World} {o : Oper} {v : Value} {a : Act} (h : YE P ops w o v a) (hb : Below w.heap.size w w') : YE P ops w' o v a :=
  fun W hW => h W (hb.trans (hW.mono hb.size))
theorem YE.now {w : World} {o : Oper} {v : Value} {a : Act} (h : YE P ops w o v a) : YieldsAt P ops w o v a := h w (Below.refl _ _)

def stepO (P : Program) (ops : Array Oper) (fl : Nat → Nat) (i : Nat) (K : Act → World → Prop) (a : Act) (w : World) : Prop :=
  match ops[i]? with
  | none => K a w
  | some o =>
    match fl i with
    | 0 => ∃ v, Yields P ops o v a ∧ K (a.put o.dst v) w
    | 1 => ∃ v, YE P ops w o v a ∧ K (a.put o.dst v) w
    | 2 => wpOp P ops (nq fun _ _ => False) i (fun a' w' => Below w.heap.size w w' ∧ K a' w') a w
    | _ => wpOp P ops (nq fun _ _ => False) i K a w

theorem stepO_0 {fl : Nat → Nat} {i : Nat} {o : Oper} (hi : ops[i]? = some o) (hf : fl i = 0) (K : Act → World → Prop) (a : Act) (w : World) : stepO P ops fl i K a w = ∃ v, Yields P ops o v a ∧ K (a.put o.dst v) w := by unfold stepO; simp only [hi, hf]
theorem stepO_1 {fl : Nat → Nat} {i : Nat} {o : Oper} (hi : ops[i]? = some o) (hf : fl i = 1) (K : Act → World → Prop) (a : Act) (w : World) : stepO P ops fl i K a w = ∃ v, YE P ops w o v a ∧ K (a.put o.dst v) w := by unfold stepO; simp only [hi, hf]
theorem stepO_2 {fl : Nat → Nat} {i : Nat} {o : Oper} (hi : ops[i]? = some o) (hf : fl i = 2) (K : Act → World → Prop) (a : Act) (w : World) : stepO P ops fl i K a w = wpOp P ops (nq fun _ _ => False) i (fun a' w' => Below w.heap.size w w' ∧ K a' w') a w := by unfold stepO; simp only [hi, hf]
theorem stepO_3 {fl : Nat → Nat} {i : Nat} {o : Oper} (hi : ops[i]? = some o) (h0 : fl i ≠ 0) (h1 : fl i ≠ 1) (h2 : fl i ≠ 2) (K : Act → World → Prop) (a : Act) (w : World) : stepO P ops fl i K a w = wpOp P ops (nq fun _ _ => False) i K a w := by unfold stepO; simp only [hi]
theorem stepO_none {fl : Nat → Nat} {i : Nat} (hi : ops[i]? = none) (K : Act → World → Prop) (a : Act) (w : World) : stepO P ops fl i K a w = K a w := by unfold stepO; simp only [hi]

theorem stepO_some {fl : Nat → Nat} {i : Nat} {K : Act → World → Prop} {a : Act} {w : World} (h : stepO P ops fl i K a w) : ∃ a' w', K a' w' := by
  cases ho : ops[i]? with
  | none => rw [stepO_none ho] at h; exact ⟨_, _, h⟩
  | some o =>
    by_cases h0 : fl i = 0
    · rw [stepO_0 ho h0] at h; obtain ⟨v, _, h⟩ := h; exact ⟨_, _, h⟩
    · by_cases h1 : fl i = 1
      · rw [stepO_1 ho h1] at h; obtain ⟨v, _, h⟩ := h; exact ⟨_, _, h⟩
      · by_cases h2 : fl i = 2
        · rw [stepO_2 ho h2] at h; obtain ⟨v, ds, w', h⟩ := wpOp_some ho h; exact ⟨_, _, h.2⟩
        · rw [stepO_3 ho h0 h1 h2] at h; obtain ⟨v, ds, w', h⟩ := wpOp_some ho h; exact ⟨_, _, h⟩

theorem stepO_mono {fl : Nat → Nat} {i : Nat} {K K' : Act → World → Prop} {a : Act} {w : World} (hk : ∀ a w, K a w → K' a w) (h : stepO P ops fl i K a w) : stepO P ops fl i K' a w := by
  cases ho : ops[i]? with
  | none => rw [stepO_none ho] at h ⊢; exact hk _ _ h
  | some o =>
    by_cases h0 : fl i = 0
    · rw [stepO_0 ho h0] at h ⊢; obtain ⟨v, hy, h⟩ := h; exact ⟨v, hy, hk _ _ h⟩
    · by_cases h1 : fl i = 1
      · rw [stepO_1 ho h1] at h ⊢; obtain ⟨v, hy, h⟩ := h; exact ⟨v, hy, hk _ _ h⟩
      · by_cases h2 : fl i = 2
        · rw [stepO_2 ho h2] at h ⊢; exact wpOp_mono (fun a w h => ⟨h.1, hk _ _ h.2⟩) h
        · rw [stepO_3 ho h0 h1 h2] at h ⊢; exact wpOp_mono hk h

section
variable {oi oj : Oper} (hsi : ∀ cs b, oi.op ≠ .select cs b) (hsj : ∀ cs b, oj.op ≠ .select cs b) (hap : oi.apart ops oj = true)
include hsi hsj hap
theorem ye_put_j {w : World} {u : Value} {a : Act} (v : Value) : YE P ops w oj u (a.put oi.dst v) ↔ YE P ops w oj u a :=
  ⟨fun h W hW => (yieldsAt_put_j hsi hsj hap v).1 (h W hW), fun h W hW => (yieldsAt_put_j hsi hsj hap v).2 (h W hW)⟩
theorem ye_put_i {w : World} {u : Value} {a : Act} (v : Value) : YE P ops w oi u (a.put oj.dst v) ↔ YE P ops w oi u a :=
  ⟨fun h W hW => (yieldsAt_put_i hsi hsj hap v).1 (h W hW), fun h W hW => (yieldsAt_put_i hsi hsj hap v).2 (h W hW)⟩

/-- What acts, behind what looks at no memory: the other way round. -/
theorem act_then_0 {i : Nat} (hi : ops[i]? = some oi) {K : Act → World → Prop} {a : Act} {w : World}
    (h : wpOp P ops (nq fun _ _ => False) i (fun a' w' => ∃ u, Yields P ops oj u a' ∧ K (a'.put oj.dst u) w') a w) :
    ∃ u, Yields P ops oj u a ∧ wpOp P ops (nq fun _ _ => False) i K (a.put oj.dst u) w := by
  obtain ⟨h1, h2, h3⟩ := Oper.apart_spec hap
  obtain ⟨u, hu⟩ : ∃ u, Yields P ops oj u a := by
    obtain ⟨v, ds, w', u, hu, _⟩ := wpOp_some hi h
    exact ⟨u, (yields_put_j (a := { a with defers := ds }) hsi hsj hap v).1 hu⟩
  refine ⟨u, hu, ?_⟩
  have put2 : ∀ (a : Act) v u, (a.put oi.dst v).put oj.dst u = (a.put oj.dst u).put oi.dst v := fun a v u => put_two hsi hsj hap v u
  have key : ∀ (ds : List Deferred) v w', (∃ u', Yields P ops oj u' (({ a with defers := ds } : Act).put oi.dst v) ∧ K ((({ a with defers := ds } : Act).put oi.dst v).put oj.dst u') w') → K ((({ a with defers := ds } : Act).put oj.dst u).put oi.dst v) w' := fun ds v w' ⟨u', hu', hK⟩ => by
    have := (yields_put_j (a := { a with defers := ds }) hsi hsj hap v).1 hu'
    obtain rfl := Yields.unique (P := P) (ops := ops) hu this
    rw [← put2]; exact hK
  unfold wpOp at h ⊢
  simp only [hi] at h ⊢
  rw [wanted_put oi a oj.dst u h3]
  split
  · rename_i hw
    simp only [hw, if_true] at h
    rcases h with h | ⟨_, h⟩
    · refine .inl ?_
      unfold Oper.wp at h ⊢
      rw [execOp_put oi hsi a oj.dst u h3]
      generalize (execOp a.eval oi).run P w = r at h ⊢
      cases r with
      | ok n w' =>
        cases n <;> simp only [Oper.upon] at h ⊢
        case value v => exact key a.defers v w' h
        case skip => exact key a.defers undef w' h
        case defer d =>
          have := key (d :: a.defers) undef w' h
          rw [Act.put_defers]; exact this
        case enter f args =>
          refine Calls.mono h fun e w'' he => ?_
          cases e with
          | returned v => exact key a.defers v w'' he
          | panicked c => exact he
          | outgrown => exact he
        case row row args => exact Rows.mono h fun v w'' he => key a.defers v w'' he
      | halt x w' => cases x <;> simp only [Oper.upon] at h ⊢; exact h
    · exact (nq_lets h).elim
  · rename_i hw
    simp only [hw] at h
    exact key a.defers undef w h

/-- What acts, told behind a value that has been put: what is put may come behind it. -/
theorem wpOp_swap {j : Nat} (hj : ops[j]? = some oj) {K : Act → World → Prop} {a : Act} {w : World} {v : Value}
    (h : wpOp P ops (nq fun _ _ => False) j K (a.put oi.dst v) w) :
    wpOp P ops (nq fun _ _ => False) j (fun a' w' => (∃ ds u, a' = (({ a with defers := ds } : Act).put oj.dst u)) ∧ K (a'.put oi.dst v) w') a w := by
  obtain ⟨h1, h2, h3⟩ := Oper.apart_spec hap
  have put2 : ∀ (a : Act) u, (a.put oi.dst v).put oj.dst u = (a.put oj.dst u).put oi.dst v := fun a u => put_two hsi hsj hap v u
  unfold wpOp at h ⊢
  simp only [hj] at h ⊢
  rw [wanted_put oj a oi.dst v h1] at h
  split
  · rename_i hw
    simp only [hw, if_true] at h
    rcases h with h | ⟨_, h⟩
    · refine .inl ?_
      unfold Oper.wp at h ⊢
      rw [execOp_put oj hsj a oi.dst v h1] at h
      generalize (execOp a.eval oj).run P w = r at h ⊢
      cases r with
      | ok n w' =>
        cases n <;> simp only [Oper.upon] at h ⊢
        case value x => exact ⟨⟨a.defers, x, rfl⟩, by rw [← put2]; exact h⟩
        case skip => exact ⟨⟨a.defers, undef, rfl⟩, by rw [← put2]; exact h⟩
        case defer d =>
          refine ⟨⟨d :: a.defers, undef, rfl⟩, ?_⟩
          have e : ({ a.put oi.dst v with defers := d :: (a.put oi.dst v).defers } : Act) = (({ a with defers := d :: a.defers } : Act).put oi.dst v) := by
            cases hd : oi.dst <;> simp [Act.put]
          rw [e, put2] at h; exact h
        case enter f args =>
          refine Calls.mono h fun e w'' he => ?_
          cases e with
          | returned x => exact ⟨⟨a.defers, x, rfl⟩, by rw [← put2]; exact he⟩
          | panicked c => exact he
          | outgrown => exact he
        case row row args => exact Rows.mono h fun x w'' he => ⟨⟨a.defers, x, rfl⟩, by rw [← put2]; exact he⟩
      | halt x w' => cases x <;> simp only [Oper.upon] at h ⊢; exact h
    · exact (nq_lets h).elim
  · rename_i hw
    simp only [hw] at h
    exact ⟨⟨a.defers, undef, rfl⟩, by rw [← put2]; exact h⟩
end

/-- Two operations that are apart, of classes that suit, may change places: the first one comes behind. -/
theorem stepO_comm {fl : Nat → Nat} {i j : Nat} {oi oj : Oper} (hi : ops[i]? = some oi) (hj : ops[j]? = some oj)
    (hsi : ∀ cs b, oi.op ≠ .select cs b) (hsj : ∀ cs b, oj.op ≠ .select cs b) (hap : oi.apart ops oj = true)
    (hcl : fl i = 0 ∨ fl j = 0 ∨ (fl i = 1 ∧ (fl j = 1 ∨ fl j = 2))) {K : Act → World → Prop} {a : Act} {w : World}
    (h : stepO P ops fl i (fun a' w' => stepO P ops fl j K a' w') a w) : stepO P ops fl j (fun a' w' => stepO P ops fl i K a' w') a w := by
  by_cases hi0 : fl i = 0
  · rw [stepO_0 hi hi0] at h
    obtain ⟨v, hy, h⟩ := h
    have eI : ∀ a' w', Yields P ops oi v a' → K (a'.put oi.dst v) w' → stepO P ops fl i K a' w' := fun a' w' h1 h2 => by rw [stepO_0 hi hi0]; exact ⟨v, h1, h2⟩
    by_cases hj0 : fl j = 0
    · rw [stepO_0 hj hj0] at h ⊢
      obtain ⟨u, hu, hK⟩ := h
      rw [yields_put_j hsi hsj hap] at hu
      exact ⟨u, hu, eI _ _ ((yields_put_i hsi hsj hap _).2 hy) (by rw [← put_two hsi hsj hap]; exact hK)⟩
    · by_cases hj1 : fl j = 1
      · rw [stepO_1 hj hj1] at h ⊢
        obtain ⟨u, hu, hK⟩ := h
        rw [ye_put_j hsi hsj hap] at hu
        exact ⟨u, hu, eI _ _ ((yields_put_i hsi hsj hap _).2 hy) (by rw [← put_two hsi hsj hap]; exact hK)⟩
      · by_cases hj2 : fl j = 2
        · rw [stepO_2 hj hj2] at h ⊢
          have h5 := wpOp_put (Q := nq fun _ _ => False) hj hap hsi hsj (fun c a w hh => hh) hy h
          exact wpOp_mono (fun a' w' hh => ⟨hh.2.1, eI _ _ hh.1 hh.2.2⟩) h5
        · rw [stepO_3 hj hj0 hj1 hj2] at h ⊢
          have h5 := wpOp_put (Q := nq fun _ _ => False) hj hap hsi hsj (fun c a w hh => hh) hy h
          exact wpOp_mono (fun a' w' hh => eI _ _ hh.1 hh.2) h5
  · by_cases hj0 : fl j = 0
    · have eJ : ∀ a' w', stepO P ops fl j K a' w' ↔ ∃ u, Yields P ops oj u a' ∧ K (a'.put oj.dst u) w' := fun a' w' => by rw [stepO_0 hj hj0]
      rw [stepO_0 hj hj0]
      by_cases hi1 : fl i = 1
      · rw [stepO_1 hi hi1] at h
        obtain ⟨v, hy, h⟩ := h
        rw [eJ] at h
        obtain ⟨u, hu, hK⟩ := h
        rw [yields_put_j hsi hsj hap] at hu
        refine ⟨u, hu, ?_⟩
        rw [stepO_1 hi hi1]
        exact ⟨v, (ye_put_i hsi hsj hap _).2 hy, by rw [← put_two hsi hsj hap]; exact hK⟩
      · by_cases hi2 : fl i = 2
        · rw [stepO_2 hi hi2] at h
          obtain ⟨u, hu, hK⟩ := act_then_0 (K := fun a' w' => Below w.heap.size w w' ∧ K a' w') hsi hsj hap hi (wpOp_mono (fun a' w' hh => by
            obtain ⟨u, h1, h2⟩ := (eJ _ _).1 hh.2
            exact ⟨u, h1, hh.1, h2⟩) h)
          exact ⟨u, hu, by rw [stepO_2 hi hi2]; exact hK⟩
        · rw [stepO_3 hi hi0 hi1 hi2] at h
          obtain ⟨u, hu, hK⟩ := act_then_0 (K := K) hsi hsj hap hi (wpOp_mono (fun a' w' hh => (eJ _ _).1 hh) h)
          exact ⟨u, hu, by rw [stepO_3 hi hi0 hi1 hi2]; exact hK⟩
    · obtain ⟨hi1, hj12⟩ := (hcl.resolve_left hi0).resolve_left hj0
      rw [stepO_1 hi hi1] at h
      obtain ⟨v, hy, h⟩ := h
      rcases hj12 with hj1 | hj2
      · rw [stepO_1 hj hj1] at h ⊢
        obtain ⟨u, hu, hK⟩ := h
        rw [ye_put_j hsi hsj hap] at hu
        exact ⟨u, hu, by rw [stepO_1 hi hi1]; exact ⟨v, (ye_put_i hsi hsj hap _).2 hy, by rw [← put_two hsi hsj hap]; exact hK⟩⟩
      · rw [stepO_2 hj hj2] at h ⊢
        refine wpOp_mono (fun a' w' hh => ?_) (wpOp_swap hsi hsj hap hj h)
        obtain ⟨⟨ds, u, rfl⟩, hb, hK⟩ := hh
        refine ⟨hb, ?_⟩
        rw [stepO_1 hi hi1]
        have hy' : YE P ops w oi v ({ a with defers := ds } : Act) := fun W hW => hy W hW
        exact ⟨v, ((ye_put_i hsi hsj hap _).2 hy').up hb, hK⟩

def wpAnyO (P : Program) (md : Region.Mode) (ops : Array Oper) (fl : Nat → Nat) (Q : Act → World → Prop) : Nat → Array Bool → Act → World → Prop
  | 0, listed, a, w => Region.ready md ops listed = [] ∧ Q a w
  | fuel + 1, listed, a, w =>
    (Region.ready md ops listed = [] → Q a w) ∧
    ∀ i ∈ Region.ready md ops listed, stepO P ops fl i (wpAnyO P md ops fl Q fuel (listed.setIfInBounds i true)) a w

/-- May j, which does not wait for i, come up ahead of i, which is told first? -/
def suitsO (fl : Nat → Nat) (i j : Nat) : Bool := fl i == 0 || fl j == 0 || (fl i == 1 && (fl j == 1 || fl j == 2))
theorem suitsO_spec {fl : Nat → Nat} {i j : Nat} (h : suitsO fl i j = true) : fl i = 0 ∨ fl j = 0 ∨ (fl i = 1 ∧ (fl j = 1 ∨ fl j = 2)) := by
  simp [suitsO] at h
  rcases h with (h | h) | h
  · exact .inl h
  · exact .inr (.inl h)
  · exact .inr (.inr h)

theorem wpAnyO_first {fl : Nat → Nat} {Q : Act → World → Prop} {i : Nat} {oi : Oper} (hi : ops[i]? = some oi) (hsel : ∀ (j : Nat) (o : Oper) cs b, ops[j]? = some o → o.op ≠ .select cs b) :
    ∀ (fuel : Nat) (listed : Array Bool) (a : Act) (w : World), Closed md ops listed →
      (∀ j oj, ops[j]? = some oj → j ≠ i → listed.getD j true = false → waits md ops ops.size j i = false → oi.apart ops oj = true ∧ suitsO fl i j = true) →
      i ∈ Region.ready md ops listed →
      stepO P ops fl i (wpAnyO P md ops fl Q fuel (listed.setIfInBounds i true)) a w → wpAnyO P md ops fl Q (fuel + 1) listed a w := by
  intro fuel
  induction fuel with
  | zero =>
    intro listed a w _ _ hr H
    refine ⟨fun h => (by rw [h] at hr; cases hr), fun j hj => ?_⟩
    by_cases hji : j = i
    · subst hji; exact H
    · obtain ⟨a', w', h'⟩ := stepO_some H
      have := ready_mono hj hji
      rw [h'.1] at this
      cases this
  | succ fuel ih =>
    intro listed a w hcl hfree hr H
    refine ⟨fun h => (by rw [h] at hr; cases hr), fun j hj => ?_⟩
    by_cases hji : j = i
    · subst hji; exact H
    · obtain ⟨hjun, oj, hoj, hall⟩ := mem_ready.1 hj
      have hnot : waits md ops ops.size j i = false := not_waits hcl (mem_ready.1 hr).1 _ j oj hoj hall
      obtain ⟨hap, hsu⟩ := hfree j oj hoj hji hjun hnot
      have H2 : stepO P ops fl i (fun a' w' => stepO P ops fl j (wpAnyO P md ops fl Q fuel ((listed.setIfInBounds i true).setIfInBounds j true)) a' w') a w :=
        stepO_mono (fun a' w' hK => hK.2 j (ready_mono hj hji)) H
      have H3 := stepO_comm hi hoj (fun cs b => hsel i oi cs b hi) (fun cs b => hsel j oj cs b hoj) hap (suitsO_spec hsu) H2
      have hfree' : ∀ k ok, ops[k]? = some ok → k ≠ i → (listed.setIfInBounds j true).getD k true = false →
          waits md ops ops.size k i = false → oi.apart ops ok = true ∧ suitsO fl i k = true := fun k ok hk hki hun hno => by
        refine hfree k ok hk hki ?_ hno
        by_cases hjk : j = k
        · subst hjk; exact hjun
        · rw [getD_set_ne true hjk] at hun; exact hun
      refine stepO_mono (fun a' w' h3 => ih (listed.setIfInBounds j true) a' w' (hcl.set hj) hfree' (ready_mono hr (Ne.symm hji)) ?_) H3
      rw [Array.setIfInBounds_comm _ _ hji]
      exact h3

def freeO (md : Region.Mode) (ops : Array Oper) (fl : Nat → Nat) (listed : Array Bool) (i : Nat) : Bool :=
  match ops[i]? with
  | none => false
  | some oi => (List.range ops.size).all fun j => j == i || listed.getD j true || match ops[j]? with
      | some oj => waits md ops ops.size j i || (oi.apart ops oj && suitsO fl i j)
      | none => true
theorem freeO_spec {fl : Nat → Nat} {i : Nat} {oi : Oper} {listed : Array Bool} (hi : ops[i]? = some oi) (h : freeO md ops fl listed i = true) (j : Nat) (oj : Oper)
    (hj : ops[j]? = some oj) (hne : j ≠ i) (hun : listed.getD j true = false) (hno : waits md ops ops.size j i = false) :
    oi.apart ops oj = true ∧ suitsO fl i j = true := by
  simp only [freeO, hi, List.all_eq_true, List.mem_range] at h
  have h1 := h j (Array.getElem?_eq_some_iff.1 hj).1
  simpa [hj, hne, hun, hno] using h1

def ordFrom (md : Region.Mode) (ops : Array Oper) (fl : Nat → Nat) : List Nat → Array Bool → Bool
  | [], listed => (Region.ready md ops listed).isEmpty
  | k :: ks, listed => (Region.ready md ops listed).contains k && freeO md ops fl listed k && ordFrom md ops fl ks (listed.setIfInBounds k true)
/-- What is asked of a region and an order, once and for all, by reckoning. -/
def ordB (md : Region.Mode) (ops : Array Oper) (l ord : List Nat) : Bool := Region.noSelect ops && noDefer ops && ord.length == ops.size && ordFrom md ops (flOf l) ord (Array.replicate ops.size false)
/-- The operations in the order that is told. -/
def wpOrd (P : Program) (ops : Array Oper) (fl : Nat → Nat) (Q : Act → World → Prop) : List Nat → Act → World → Prop
  | [], a, w => Q a w
  | k :: rest, a, w => stepO P ops fl k (wpOrd P ops fl Q rest) a w

theorem wpAnyO_ord {fl : Nat → Nat} {Q : Act → World → Prop} (hs : Region.noSelect ops = true) : ∀ (l : List Nat) (listed : Array Bool) (a : Act) (w : World), Closed md ops listed →
    ordFrom md ops fl l listed = true → wpOrd P ops fl Q l a w → wpAnyO P md ops fl Q l.length listed a w
  | [], _, _, _, _, hB, h => ⟨by simpa [ordFrom] using hB, h⟩
  | k :: l, listed, a, w, hcl, hB, h => by
    simp only [ordFrom, Bool.and_eq_true] at hB
    obtain ⟨⟨hr, hf⟩, hB'⟩ := hB
    have hr' : k ∈ Region.ready md ops listed := by simpa using hr
    obtain ⟨_, o, h0, _⟩ := mem_ready.1 hr'
    refine wpAnyO_first h0 (Region.noSelect_spec hs) l.length listed a w hcl (freeO_spec h0 hf) hr' ?_
    exact stepO_mono (fun a' w' h' => wpAnyO_ord hs l _ a' w' (hcl.set hr') hB' h') h

theorem wpOp_of_stepO {fl : Nat → Nat} {Q' : Act → World → Prop} {i : Nat} {K K' : Act → World → Prop} {a : Act} {w : World} (hk : ∀ a w, K a w → K' a w) (h : stepO P ops fl i K a w) : wpOp P ops (nq Q') i K' a w := by
  -- by the elder steps
  have toF : ∃ fl2 : Nat → Nat, stepF P ops fl2 i K a w := by
    cases ho : ops[i]? with
    | none => exact ⟨fun _ => 0, by unfold stepF; simp only [ho]; rw [stepO_none ho] at h; exact h⟩
    | some o =>
      by_cases h0 : fl i = 0
      · rw [stepO_0 ho h0] at h; exact ⟨fun _ => 0, by unfold stepF; simp only [ho]; exact h⟩
      · by_cases h1 : fl i = 1
        · rw [stepO_1 ho h1] at h; obtain ⟨v, hy, h⟩ := h; exact ⟨fun _ => 1, by unfold stepF; simp only [ho]; exact ⟨v, hy.now, h⟩⟩
        · by_cases h2 : fl i = 2
          · rw [stepO_2 ho h2] at h; exact ⟨fun _ => 2, by unfold stepF; simp only [ho]; exact wpOp_mono (fun a w h => h.2) h⟩
          · rw [stepO_3 ho h0 h1 h2] at h; exact ⟨fun _ => 2, by unfold stepF; simp only [ho]; exact h⟩
  obtain ⟨fl2, h2⟩ := toF
  exact wpOp_of_stepF hk h2

theorem wpAny_of_O {fl : Nat → Nat} {Q : Act → World → Prop} : ∀ (fuel : Nat) (listed : Array Bool) (a : Act) (w : World), wpAnyO P md ops fl Q fuel listed a w → wpAny P md ops (nq Q) fuel listed a w
  | 0, _, _, _, h => h
  | fuel + 1, _, _, _, h => ⟨h.1, fun i hi => wpOp_of_stepO (wpAny_of_O fuel _) (h.2 i hi)⟩

theorem wpAny_ord {fl ord : List Nat} {Q : Act → World → Prop} {a : Act} {w : World} (hB : ordB md ops fl ord = true) (h : wpOrd P ops (flOf fl) Q ord a w) :
    wpAny P md ops (nq Q) ops.size (Array.replicate ops.size false) a w := by
  simp only [ordB, Bool.and_eq_true, beq_iff_eq] at hB
  have := wpAnyO_ord (md := md) hB.1.1.1 ord (Array.replicate ops.size false) a w (fun m om _ h => by rw [getD_replicate_false'] at h; cases h) hB.2 h
  rw [hB.1.2] at this
  exact wpAny_of_O _ _ _ _ this

/-- A REGION THAT DRAWS, IN AN ORDER OF ONE's OWN. -/
theorem wp_region_ord {id : Nat} {Q : Exit → Act → World → Prop} {a : Act} {w : World} {l : List Oper} (fl ord : List Nat) (hm : P.follows .mixedOrders = true) (hB : ordB .any l.toArray fl ord = true)
    (h : wpOrd P l.toArray (flOf fl) (fun a' w' => Q .normal a' w') ord a w.drew) : (Code.region id l.toArray true).wp P Q a w :=
  Code.wp_mono nq_sub (wp_region_any hm (wpAny_ord hB (by simpa using h)))
/-- .. in a round of a loop over a function. -/
theorem wpIn_region_ord {id n l : Nat} {Q : Exit → Act → World → Prop} {a : Act} {w : World} {os : List Oper} (fl ord : List Nat) (hm : P.follows .mixedOrders = true) (hB : ordB .any os.toArray fl ord = true)
    (h : wpOrd P os.toArray (flOf fl) (fun a' w' => Q .normal a' w') ord a w.drew) : (Code.region id os.toArray true).wpIn (Fence.wide.inRound l) n P Q a w := by
  have hd : noDefer os.toArray = true := by simp only [ordB, Bool.and_eq_true] at hB; exact hB.1.1.2
  exact wpIn_mono (wpIn_region_any hm (wpAnyIn_of hd _ _ _ _ (wpAny_ord hB (by simpa using h)))) nq_sub

/-! ### Steps -/
section steps
variable {fl : Nat → Nat} {Q : Act → World → Prop} {k : Nat} {rest : List Nat} {a a' : Act} {w : World}

theorem ord_nil (h : Q a w) : wpOrd P ops fl Q [] a w := h
theorem ord_move {o : Oper} {x : Operand} (hk : ops[k]? = some o) (hf : fl k = 0) (ho : o.op = .move x) (hg : o.guard = none) (ha : a.put o.dst (a.eval x) = a')
    (h : wpOrd P ops fl Q rest a' w) : wpOrd P ops fl Q (k :: rest) a w := by
  subst ha
  unfold wpOrd
  rw [stepO_0 hk hf]
  obtain ⟨d, op, t, p, af, g⟩ := o
  cases ho
  cases hg
  exact ⟨_, .inl ⟨rfl, fun w => rfl⟩, h⟩
theorem ord_assign {o : Oper} {x : Operand} (hk : ops[k]? = some o) (hf : fl k = 0) (ho : o.op = .assign x) (hg : o.guard = none) (ha : a.put o.dst (a.eval x) = a')
    (h : wpOrd P ops fl Q rest a' w) : wpOrd P ops fl Q (k :: rest) a w := by
  subst ha
  unfold wpOrd
  rw [stepO_0 hk hf]
  obtain ⟨d, op, t, p, af, g⟩ := o
  cases ho
  cases hg
  exact ⟨_, .inl ⟨rfl, fun w => rfl⟩, h⟩
theorem ord_pure {o : Oper} {v : Value} (hk : ops[k]? = some o) (hf : fl k = 0) (hw : Region.wanted o (yielded ops a.tmps) = true) (hr : ∀ w, (execOp a.eval o).run P w = .ok (.value v) w) (ha : a.put o.dst v = a')
    (h : wpOrd P ops fl Q rest a' w) : wpOrd P ops fl Q (k :: rest) a w := by
  subst ha
  unfold wpOrd
  rw [stepO_0 hk hf]
  exact ⟨v, .inl ⟨hw, hr⟩, h⟩
theorem ord_skip {o : Oper} (hk : ops[k]? = some o) (hw : Region.wanted o (yielded ops a.tmps) = false) (ha : a.put o.dst undef = a')
    (h : wpOrd P ops fl Q rest a' w) : wpOrd P ops fl Q (k :: rest) a w := by
  subst ha
  unfold wpOrd
  have hwp : ∀ K : Act → World → Prop, K (a.put o.dst undef) w → wpOp P ops (nq fun _ _ => False) k K a w := fun K hK => by unfold wpOp; simp only [hk, hw]; exact hK
  by_cases h0 : fl k = 0
  · rw [stepO_0 hk h0]; exact ⟨undef, .inr ⟨hw, rfl⟩, h⟩
  · by_cases h1 : fl k = 1
    · rw [stepO_1 hk h1]; exact ⟨undef, fun W _ => .inr ⟨hw, rfl⟩, h⟩
    · by_cases h2 : fl k = 2
      · rw [stepO_2 hk h2]; exact hwp _ ⟨Below.refl _ _, h⟩
      · rw [stepO_3 hk h0 h1 h2]; exact hwp _ h
theorem ord_read {o : Oper} {v : Value} (hk : ops[k]? = some o) (hf : fl k = 1) (hw : Region.wanted o (yielded ops a.tmps) = true) (hr : ∀ W, Below w.heap.size w W → (execOp a.eval o).run P W = .ok (.value v) W) (ha : a.put o.dst v = a')
    (h : wpOrd P ops fl Q rest a' w) : wpOrd P ops fl Q (k :: rest) a w := by
  subst ha
  unfold wpOrd
  rw [stepO_1 hk hf]
  exact ⟨v, fun W hW => .inl ⟨hw, .inl (hr W hW)⟩, h⟩
/-- A call that leaves memory alone and tells the same in every world above. -/
theorem ord_quiet {o : Oper} {v : Value} {f : FuncId} {args : Array Value} (hk : ops[k]? = some o) (hf : fl k = 1) (hw : Region.wanted o (yielded ops a.tmps) = true) (hr : ∀ W, Below w.heap.size w W → (execOp a.eval o).run P W = .ok (.enter f args) W)
    (hc : ∀ W, Below w.heap.size w W → Calls P f args W fun e w' => e = .returned v ∧ w' = W) (ha : a.put o.dst v = a')
    (h : wpOrd P ops fl Q rest a' w) : wpOrd P ops fl Q (k :: rest) a w := by
  subst ha
  unfold wpOrd
  rw [stepO_1 hk hf]
  exact ⟨v, fun W hW => .inl ⟨hw, .inr (.inr ⟨f, args, hr W hW, hc W hW⟩)⟩, h⟩
theorem ord_act {o : Oper} (hk : ops[k]? = some o) (hf : fl k = 3) (hw : Region.wanted o (yielded ops a.tmps) = true)
    (h : ∀ K : Act → World → Prop, (∀ a w, wpOrd P ops fl Q rest a w → K a w) → o.wp P a w K (nq fun _ _ => False)) : wpOrd P ops fl Q (k :: rest) a w := by
  unfold wpOrd
  rw [stepO_3 hk (by omega) (by omega) (by omega)]
  unfold wpOp
  simp only [hk, hw, if_true]
  exact .inl (h _ fun _ _ h => h)
theorem ord_make {o : Oper} (hk : ops[k]? = some o) (hf : fl k = 2) (hw : Region.wanted o (yielded ops a.tmps) = true)
    (h : ∀ K : Act → World → Prop, (∀ a w', Below w.heap.size w w' → wpOrd P ops fl Q rest a w' → K a w') → o.wp P a w K (nq fun _ _ => False)) : wpOrd P ops fl Q (k :: rest) a w := by
  unfold wpOrd
  rw [stepO_2 hk hf]
  unfold wpOp
  simp only [hk, hw, if_true]
  exact .inl (h _ fun _ _ hb h => ⟨hb, h⟩)
theorem ord_value {o : Oper} {v : Value} {w' : World} (hk : ops[k]? = some o) (hf : fl k = 3) (hw : Region.wanted o (yielded ops a.tmps) = true) (hr : (execOp a.eval o).run P w = .ok (.value v) w') (ha : a.put o.dst v = a')
    (h : wpOrd P ops fl Q rest a' w') : wpOrd P ops fl Q (k :: rest) a w := by
  subst ha
  exact ord_act hk hf hw fun K hK => by unfold Oper.wp; rw [hr]; exact hK _ _ h
theorem ord_do {o : Oper} {w' : World} (hk : ops[k]? = some o) (hf : fl k = 3) (hw : Region.wanted o (yielded ops a.tmps) = true) (hr : (execOp a.eval o).run P w = .ok .skip w') (ha : a.put o.dst undef = a')
    (h : wpOrd P ops fl Q rest a' w') : wpOrd P ops fl Q (k :: rest) a w := by
  subst ha
  exact ord_act hk hf hw fun K hK => by unfold Oper.wp; rw [hr]; exact hK _ _ h
/-- What makes memory (a new block), by its run. -/
theorem ord_new {o : Oper} {v : Value} {w' : World} (hk : ops[k]? = some o) (hf : fl k = 2) (hw : Region.wanted o (yielded ops a.tmps) = true) (hr : (execOp a.eval o).run P w = .ok (.value v) w') (hb : Below w.heap.size w w') (ha : a.put o.dst v = a')
    (h : wpOrd P ops fl Q rest a' w') : wpOrd P ops fl Q (k :: rest) a w := by
  subst ha
  exact ord_make hk hf hw fun K hK => by unfold Oper.wp; rw [hr]; exact hK _ _ hb h
/-- A call that makes memory. -/
theorem ord_call {o : Oper} {f : FuncId} {args : Array Value} (hk : ops[k]? = some o) (hf : fl k = 2) (hw : Region.wanted o (yielded ops a.tmps) = true) (hr : (execOp a.eval o).run P w = .ok (.enter f args) w)
    (h : Calls P f args w fun e w'' => ∃ v, e = .returned v ∧ Below w.heap.size w w'' ∧ wpOrd P ops fl Q rest (a.put o.dst v) w'') : wpOrd P ops fl Q (k :: rest) a w :=
  ord_make hk hf hw fun K hK => by
    unfold Oper.wp
    rw [hr]
    exact h.mono fun e w'' ⟨v, he, hb, hh⟩ => by subst he; exact hK _ _ hb hh
/-- A call that may change old memory. -/
theorem ord_call_act {o : Oper} {f : FuncId} {args : Array Value} {w' : World} (hk : ops[k]? = some o) (hf : fl k = 3) (hw : Region.wanted o (yielded ops a.tmps) = true) (hr : (execOp a.eval o).run P w = .ok (.enter f args) w')
    (h : Calls P f args w' fun e w'' => ∃ v, e = .returned v ∧ wpOrd P ops fl Q rest (a.put o.dst v) w'') : wpOrd P ops fl Q (k :: rest) a w :=
  ord_act hk hf hw fun K hK => by
    unfold Oper.wp
    rw [hr]
    exact h.mono fun e w'' ⟨v, he, hh⟩ => by subst he; exact hK _ _ hh
end steps

/-- A cell that is there is there above. -/
theorem cell_up {w W : World} {p : Addr} {v : Value} (hW : Below w.heap.size w W) (h : w.cell? p = some v) : W.cell? p = some v :=
  (hW.cell (World.block_lt_of_cell? _ _ h)).trans h
end
end Go.Proofs.Yticijejnemnmlaa.Rt
