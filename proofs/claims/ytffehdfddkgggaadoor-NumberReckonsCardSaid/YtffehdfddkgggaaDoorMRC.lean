/- A region that draws its order, told in the text's order: each operation is one that looks at no memory, one that leaves memory alone, or one that acts; two that may come up in either order may not both act, nor one act and the other look. -/
import Derived.Tactics2
import Derived.Still
import Derived.OrdersIn
import Derived.CallsIn
import Derived.TacticsIn
import Derived.WalkKit
import Derived.RangeFuncCalls
import Derived.Below
namespace Go.Proofs.YtffehdfddkgggaaDoor.Rt
open Go
set_option linter.unusedSectionVars false

section
variable {P : Program} {ops : Array Oper} {md : Region.Mode}

/-- The exits, of which the normal one alone is meant. -/
def nq (K : Act → World → Prop) : Exit → Act → World → Prop
  | .normal, a, w => K a w
  | _, _, _ => False

theorem nq_lets {K : Act → World → Prop} : ¬ LetsOut (nq K) := by
  rintro ⟨a, w, h⟩; exact h

/-- One operation, by its class: 0: it looks at no memory; 1: it leaves memory alone; else it may act. -/
def stepF (P : Program) (ops : Array Oper) (fl : Nat → Nat) (i : Nat) (K : Act → World → Prop) (a : Act) (w : World) : Prop :=
  match ops[i]? with
  | none => K a w
  | some o =>
    match fl i with
    | 0 => ∃ v, Yields P ops o v a ∧ K (a.put o.dst v) w
    | 1 => ∃ v, YieldsAt P ops w o v a ∧ K (a.put o.dst v) w
    | _ => wpOp P ops (nq fun _ _ => False) i K a w

theorem wpOp_some {i : Nat} {K : Act → World → Prop} {a : Act} {w : World} {o : Oper} (hi : ops[i]? = some o) (h : wpOp P ops (nq fun _ _ => False) i K a w) :
    ∃ (v : Value) (ds : List Deferred) (w' : World), K (({ a with defers := ds } : Act).put o.dst v) w' := by
  unfold wpOp at h
  simp only [hi] at h
  split at h
  · rcases h with h | ⟨_, h⟩
    · unfold Oper.wp at h
      generalize (execOp a.eval o).run P w = r at h
      cases r with
      | ok n w' =>
        cases n <;> simp only [Oper.upon] at h
        case value u => exact ⟨u, a.defers, w', h⟩
        case skip => exact ⟨undef, a.defers, w', h⟩
        case defer d => exact ⟨undef, d :: a.defers, w', h⟩
        case enter f args =>
          obtain ⟨e, w'', fr, hR, _⟩ := h []
          cases e with
          | returned u => exact ⟨u, a.defers, w'', hR⟩
          | panicked c => exact hR.elim
          | outgrown => exact (nq_lets hR).elim
        case row row args =>
          obtain ⟨u, w'', hR, _⟩ := h default []
          exact ⟨u, a.defers, w'', hR⟩
      | halt x w' => cases x <;> simp only [Oper.upon, nq] at h
    · exact (nq_lets h).elim
  · exact ⟨undef, a.defers, w, h⟩

theorem stepF_some {fl : Nat → Nat} {i : Nat} {K : Act → World → Prop} {a : Act} {w : World} (h : stepF P ops fl i K a w) : ∃ a' w', K a' w' := by
  unfold stepF at h
  split at h
  · exact ⟨_, _, h⟩
  · rename_i o ho
    split at h
    · obtain ⟨v, _, h⟩ := h; exact ⟨_, _, h⟩
    · obtain ⟨v, _, h⟩ := h; exact ⟨_, _, h⟩
    · obtain ⟨v, ds, w', h⟩ := wpOp_some ho h; exact ⟨_, _, h⟩

theorem stepF_mono {fl : Nat → Nat} {i : Nat} {K K' : Act → World → Prop} {a : Act} {w : World} (hk : ∀ a w, K a w → K' a w) (h : stepF P ops fl i K a w) : stepF P ops fl i K' a w := by
  unfold stepF at *
  split
  · exact hk _ _ (by simpa [*] using h)
  · rename_i o ho
    simp only [ho] at h
    split
    · rename_i hf; simp only [hf] at h; obtain ⟨v, hy, h⟩ := h; exact ⟨v, hy, hk _ _ h⟩
    · rename_i hf; simp only [hf] at h; obtain ⟨v, hy, h⟩ := h; exact ⟨v, hy, hk _ _ h⟩
    · rename_i h0 h1
      have : stepF P ops fl i K a w = wpOp P ops (nq fun _ _ => False) i K a w := by
        unfold stepF; simp only [ho]
      have h' : wpOp P ops (nq fun _ _ => False) i K a w := by
        split at h
        · rename_i h2; exact absurd h2 h0
        · rename_i h2; exact absurd h2 h1
        · exact h
      exact wpOp_mono hk h'

theorem Yields.unique {o : Oper} {v u : Value} {a : Act} (h : Yields P ops o v a) (k : Yields P ops o u a) : v = u := by
  rcases h with ⟨hw, h⟩ | ⟨hw, h⟩ <;> rcases k with ⟨kw, k⟩ | ⟨kw, k⟩
  · have := (h default).symm.trans (k default)
    simpa using this
  · rw [hw] at kw; cases kw
  · rw [hw] at kw; cases kw
  · rw [h, k]

section
variable {oi oj : Oper} (hsi : ∀ cs b, oi.op ≠ .select cs b) (hsj : ∀ cs b, oj.op ≠ .select cs b) (hap : oi.apart ops oj = true)
include hsi hsj hap

theorem yields_put_j {u : Value} {a : Act} (v : Value) : Yields P ops oj u (a.put oi.dst v) ↔ Yields P ops oj u a := by
  obtain ⟨h1, h2, h3⟩ := Oper.apart_spec hap
  unfold Yields
  rw [execOp_put oj hsj a oi.dst v h1, wanted_put oj a oi.dst v h1]

theorem yieldsAt_put_j {w : World} {u : Value} {a : Act} (v : Value) : YieldsAt P ops w oj u (a.put oi.dst v) ↔ YieldsAt P ops w oj u a := by
  obtain ⟨h1, h2, h3⟩ := Oper.apart_spec hap
  unfold YieldsAt
  rw [execOp_put oj hsj a oi.dst v h1, wanted_put oj a oi.dst v h1]

theorem yields_put_i {u : Value} {a : Act} (v : Value) : Yields P ops oi u (a.put oj.dst v) ↔ Yields P ops oi u a := by
  obtain ⟨h1, h2, h3⟩ := Oper.apart_spec hap
  unfold Yields
  rw [execOp_put oi hsi a oj.dst v h3, wanted_put oi a oj.dst v h3]

theorem yieldsAt_put_i {w : World} {u : Value} {a : Act} (v : Value) : YieldsAt P ops w oi u (a.put oj.dst v) ↔ YieldsAt P ops w oi u a := by
  obtain ⟨h1, h2, h3⟩ := Oper.apart_spec hap
  unfold YieldsAt
  rw [execOp_put oi hsi a oj.dst v h3, wanted_put oi a oj.dst v h3]

theorem put_two {a : Act} (v u : Value) : (a.put oi.dst v).put oj.dst u = (a.put oj.dst u).put oi.dst v :=
  Act.put_comm a v u (Oper.apart_spec hap).2.1
end

theorem yields_defers {o : Oper} {u : Value} {a : Act} (ds : List Deferred) : Yields P ops o u { a with defers := ds } ↔ Yields P ops o u a := Iff.rfl

/-- Two operations that are apart, of classes that suit, may change places. -/
theorem stepF_comm {fl : Nat → Nat} {i j : Nat} {oi oj : Oper} (hi : ops[i]? = some oi) (hj : ops[j]? = some oj)
    (hsi : ∀ cs b, oi.op ≠ .select cs b) (hsj : ∀ cs b, oj.op ≠ .select cs b) (hap : oi.apart ops oj = true)
    (hcl : fl i = 0 ∨ fl j = 0 ∨ (fl i = 1 ∧ fl j = 1)) {K : Act → World → Prop} {a : Act} {w : World}
    (h : stepF P ops fl i (fun a' w' => stepF P ops fl j K a' w') a w) : stepF P ops fl j (fun a' w' => stepF P ops fl i K a' w') a w := by
  by_cases hi0 : fl i = 0
  · -- i looks at no memory
    have e1 : ∀ (K : Act → World → Prop) a w, stepF P ops fl i K a w = ∃ v, Yields P ops oi v a ∧ K (a.put oi.dst v) w := fun K a w => by unfold stepF; simp only [hi, hi0]
    rw [e1] at h
    obtain ⟨v, hy, h⟩ := h
    unfold stepF at h ⊢
    simp only [hj] at h ⊢
    split
    · rename_i h2
      simp only [h2] at h
      obtain ⟨u, hu, hK⟩ := h
      rw [yields_put_j hsi hsj hap] at hu
      refine ⟨u, hu, ?_⟩
      simp only [hi, hi0]
      exact ⟨v, (yields_put_i hsi hsj hap _).2 hy, by rw [← put_two hsi hsj hap]; exact hK⟩
    · rename_i h2
      simp only [h2] at h
      obtain ⟨u, hu, hK⟩ := h
      rw [yieldsAt_put_j hsi hsj hap] at hu
      refine ⟨u, hu, ?_⟩
      simp only [hi, hi0]
      exact ⟨v, (yields_put_i hsi hsj hap _).2 hy, by rw [← put_two hsi hsj hap]; exact hK⟩
    · rename_i h2 h3
      have h' : wpOp P ops (nq fun _ _ => False) j K (a.put oi.dst v) w := by
        split at h
        · rename_i h4; exact absurd h4 h2
        · rename_i h4; exact absurd h4 h3
        · exact h
      have h5 := wpOp_put (Q := nq fun _ _ => False) hj hap hsi hsj (fun c a w hh => hh) hy h'
      refine wpOp_mono (fun a' w' hh => ?_) h5
      simp only [hi, hi0]
      exact ⟨v, hh.1, hh.2⟩
  · by_cases hj0 : fl j = 0
    · have e1 : ∀ (K : Act → World → Prop) a w, stepF P ops fl j K a w = ∃ v, Yields P ops oj v a ∧ K (a.put oj.dst v) w := fun K a w => by unfold stepF; simp only [hj, hj0]
      simp only [e1] at h ⊢
      by_cases hi1 : fl i = 1
      · have e2 : ∀ (K : Act → World → Prop) a w, stepF P ops fl i K a w = ∃ v, YieldsAt P ops w oi v a ∧ K (a.put oi.dst v) w := fun K a w => by unfold stepF; simp only [hi, hi1]
        rw [e2] at h
        obtain ⟨v, hy, u, hu, hK⟩ := h
        rw [yields_put_j hsi hsj hap] at hu
        refine ⟨u, hu, ?_⟩
        rw [e2]
        exact ⟨v, (yieldsAt_put_i hsi hsj hap _).2 hy, by rw [← put_two hsi hsj hap]; exact hK⟩
      · have e2 : ∀ (K : Act → World → Prop) a w, stepF P ops fl i K a w = wpOp P ops (nq fun _ _ => False) i K a w := fun K a w => by
          unfold stepF; simp only [hi]
        rw [e2] at h
        obtain ⟨h1, h2, h3⟩ := Oper.apart_spec hap
        -- what j yields
        obtain ⟨u, hu⟩ : ∃ u, Yields P ops oj u a := by
          obtain ⟨v, ds, w', u, hu, _⟩ := wpOp_some hi h
          exact ⟨u, (yields_put_j (a := { a with defers := ds }) hsi hsj hap v).1 hu⟩
        refine ⟨u, hu, ?_⟩
        rw [e2]
        have put2 : ∀ (a : Act) v u, (a.put oi.dst v).put oj.dst u = (a.put oj.dst u).put oi.dst v := fun a v u => put_two hsi hsj hap v u
        have key : ∀ (ds : List Deferred) v w', (∃ u', Yields P ops oj u' (({ a with defers := ds } : Act).put oi.dst v) ∧ K ((({ a with defers := ds } : Act).put oi.dst v).put oj.dst u') w') → K ((({ a with defers := ds } : Act).put oj.dst u).put oi.dst v) w' := fun ds v w' ⟨u', hu', hK⟩ => by
          have := (yields_put_j (a := { a with defers := ds }) hsi hsj hap v).1 hu'
          obtain rfl := Yields.unique (P := P) (ops := ops) hu this
          rw [← put2]; exact hK
        unfold wpOp at h ⊢
        simp only [hi] at h ⊢
        rw [wanted_put oi a oj.dst u h3]
        split
        · rename_i hw
          simp only [hw, if_true] at h
          rcases h with h | ⟨_, h⟩
          · refine .inl ?_
            unfold Oper.wp at h ⊢
            rw [execOp_put oi hsi a oj.dst u h3]
            generalize (execOp a.eval oi).run P w = r at h ⊢
            cases r with
            | ok n w' =>
              cases n <;> simp only [Oper.upon] at h ⊢
              case value v => exact key a.defers v w' h
              case skip => exact key a.defers undef w' h
              case defer d =>
                have := key (d :: a.defers) undef w' h
                rw [Act.put_defers]; exact this
              case enter f args =>
                refine Calls.mono h fun e w'' he => ?_
                cases e with
                | returned v => exact key a.defers v w'' he
                | panicked c => exact he
                | outgrown => exact he
              case row row args => exact Rows.mono h fun v w'' he => key a.defers v w'' he
            | halt x w' => cases x <;> simp only [Oper.upon] at h ⊢; exact h
          · exact (nq_lets h).elim
        · rename_i hw
          simp only [hw] at h
          exact key a.defers undef w h
    · obtain ⟨hi1, hj1⟩ : fl i = 1 ∧ fl j = 1 := (hcl.resolve_left hi0).resolve_left hj0
      have e1 : ∀ (K : Act → World → Prop) a w, stepF P ops fl j K a w = ∃ v, YieldsAt P ops w oj v a ∧ K (a.put oj.dst v) w := fun K a w => by unfold stepF; simp only [hj, hj1]
      have e2 : ∀ (K : Act → World → Prop) a w, stepF P ops fl i K a w = ∃ v, YieldsAt P ops w oi v a ∧ K (a.put oi.dst v) w := fun K a w => by unfold stepF; simp only [hi, hi1]
      simp only [e1, e2] at h ⊢
      obtain ⟨v, hy, u, hu, hK⟩ := h
      rw [yieldsAt_put_j hsi hsj hap] at hu
      exact ⟨u, hu, v, (yieldsAt_put_i hsi hsj hap _).2 hy, by rw [← put_two hsi hsj hap]; exact hK⟩

/-- Every order, by classes. -/
def wpAnyF (P : Program) (md : Region.Mode) (ops : Array Oper) (fl : Nat → Nat) (Q : Act → World → Prop) : Nat → Array Bool → Act → World → Prop
  | 0, listed, a, w => Region.ready md ops listed = [] ∧ Q a w
  | fuel + 1, listed, a, w =>
    (Region.ready md ops listed = [] → Q a w) ∧
    ∀ i ∈ Region.ready md ops listed, stepF P ops fl i (wpAnyF P md ops fl Q fuel (listed.setIfInBounds i true)) a w

/-- May j, which does not wait for i, come up ahead of i? -/
def suits (fl : Nat → Nat) (i j : Nat) : Bool := fl i == 0 || fl j == 0 || (fl i == 1 && fl j == 1)

theorem suits_spec {fl : Nat → Nat} {i j : Nat} (h : suits fl i j = true) : fl i = 0 ∨ fl j = 0 ∨ (fl i = 1 ∧ fl j = 1) := by
  simp [suits] at h
  rcases h with (h | h) | h
  · exact .inl h
  · exact .inr (.inl h)
  · exact .inr (.inr h)

/-- Does j wait for i, at whatever remove? -/
def waits (md : Region.Mode) (ops : Array Oper) : Nat → Nat → Nat → Bool
  | 0, _, _ => false
  | f + 1, j, i => match ops[j]? with
    | some oj => oj.after.any fun e => Region.binds md e && (e.on == i || waits md ops f e.on i)
    | none => false

def Closed (md : Region.Mode) (ops : Array Oper) (listed : Array Bool) : Prop :=
  ∀ m om, ops[m]? = some om → listed.getD m false = true → ∀ e ∈ om.after, Region.binds md e = true → listed.getD e.on false = true

theorem getD_no {listed : Array Bool} {i : Nat} (h : listed.getD i true = false) : listed.getD i false = false := by
  rcases Nat.lt_or_ge i listed.size with h' | h'
  · simp [h'] at h ⊢; exact h
  · simp [Array.getElem?_eq_none h'] at h

theorem Closed.set {listed : Array Bool} {i : Nat} (h : Closed md ops listed) (hi : i ∈ Region.ready md ops listed) : Closed md ops (listed.setIfInBounds i true) := by
  obtain ⟨_, oi, hoi, hall⟩ := mem_ready.1 hi
  intro m om hm hl e he hb
  by_cases him : i = m
  · subst him
    obtain rfl : om = oi := Option.some.inj (hm.symm.trans hoi)
    exact getD_set_true (hall e he hb)
  · rw [getD_set_ne false him] at hl
    exact getD_set_true (h m om hm hl e he hb)

theorem not_waits {listed : Array Bool} (hc : Closed md ops listed) {i : Nat} (hi : listed.getD i true = false) : ∀ (f j : Nat) (oj : Oper), ops[j]? = some oj → (∀ e ∈ oj.after, Region.binds md e = true → listed.getD e.on false = true) → waits md ops f j i = false := by
  intro f
  induction f with
  | zero => intro j oj _ _; rfl
  | succ f ih =>
    intro j oj hj hall
    simp only [waits, hj]
    rw [Bool.eq_false_iff]
    intro h
    obtain ⟨e, he, hb⟩ := Array.any_eq_true'.1 h
    simp only [Bool.and_eq_true, Bool.or_eq_true, beq_iff_eq] at hb
    have hl := hall e he hb.1
    rcases hb.2 with h1 | h1
    · rw [h1, getD_no hi] at hl; cases hl
    · cases ho : ops[e.on]? with
      | none =>
        cases f with
        | zero => simp [waits] at h1
        | succ f => simp [waits, ho] at h1
      | some oe =>
        rw [ih e.on oe ho (hc e.on oe ho hl)] at h1
        cases h1

theorem wpAnyF_first {fl : Nat → Nat} {Q : Act → World → Prop} {i : Nat} {oi : Oper} (hi : ops[i]? = some oi) (hsel : ∀ (j : Nat) (o : Oper) cs b, ops[j]? = some o → o.op ≠ .select cs b) :
    ∀ (fuel : Nat) (listed : Array Bool) (a : Act) (w : World), Closed md ops listed →
      (∀ j oj, ops[j]? = some oj → j ≠ i → listed.getD j true = false → waits md ops ops.size j i = false → oi.apart ops oj = true ∧ suits fl i j = true) →
      i ∈ Region.ready md ops listed →
      stepF P ops fl i (wpAnyF P md ops fl Q fuel (listed.setIfInBounds i true)) a w → wpAnyF P md ops fl Q (fuel + 1) listed a w := by
  intro fuel
  induction fuel with
  | zero =>
    intro listed a w _ _ hr H
    refine ⟨fun h => (by rw [h] at hr; cases hr), fun j hj => ?_⟩
    by_cases hji : j = i
    · subst hji; exact H
    · obtain ⟨a', w', h'⟩ := stepF_some H
      have := ready_mono hj hji
      rw [h'.1] at this
      cases this
  | succ fuel ih =>
    intro listed a w hcl hfree hr H
    refine ⟨fun h => (by rw [h] at hr; cases hr), fun j hj => ?_⟩
    by_cases hji : j = i
    · subst hji; exact H
    · obtain ⟨hjun, oj, hoj, hall⟩ := mem_ready.1 hj
      have hnot : waits md ops ops.size j i = false := not_waits hcl (mem_ready.1 hr).1 _ j oj hoj hall
      obtain ⟨hap, hsu⟩ := hfree j oj hoj hji hjun hnot
      have H2 : stepF P ops fl i (fun a' w' => stepF P ops fl j (wpAnyF P md ops fl Q fuel ((listed.setIfInBounds i true).setIfInBounds j true)) a' w') a w :=
        stepF_mono (fun a' w' hK => hK.2 j (ready_mono hj hji)) H
      have H3 := stepF_comm hi hoj (fun cs b => hsel i oi cs b hi) (fun cs b => hsel j oj cs b hoj) hap (suits_spec hsu) H2
      have hfree' : ∀ k ok, ops[k]? = some ok → k ≠ i → (listed.setIfInBounds j true).getD k true = false →
          waits md ops ops.size k i = false → oi.apart ops ok = true ∧ suits fl i k = true := fun k ok hk hki hun hno => by
        refine hfree k ok hk hki ?_ hno
        by_cases hjk : j = k
        · subst hjk; exact hjun
        · rw [getD_set_ne true hjk] at hun; exact hun
      refine stepF_mono (fun a' w' h3 => ih (listed.setIfInBounds j true) a' w' (hcl.set hj) hfree' (ready_mono hr (Ne.symm hji)) ?_) H3
      rw [Array.setIfInBounds_comm _ _ hji]
      exact h3

/-- The classes suit in the text's order. -/
def freeF (md : Region.Mode) (ops : Array Oper) (fl : Nat → Nat) (listed : Array Bool) (i : Nat) : Bool :=
  match ops[i]? with
  | none => false
  | some oi => (List.range ops.size).all fun j => j == i || listed.getD j true || match ops[j]? with
      | some oj => waits md ops ops.size j i || (oi.apart ops oj && suits fl i j)
      | none => true

theorem freeF_spec {fl : Nat → Nat} {i : Nat} {oi : Oper} {listed : Array Bool} (hi : ops[i]? = some oi) (h : freeF md ops fl listed i = true) (j : Nat) (oj : Oper)
    (hj : ops[j]? = some oj) (hne : j ≠ i) (hun : listed.getD j true = false) (hno : waits md ops ops.size j i = false) :
    oi.apart ops oj = true ∧ suits fl i j = true := by
  simp only [freeF, hi, List.all_eq_true, List.mem_range] at h
  have h1 := h j (Array.getElem?_eq_some_iff.1 hj).1
  simpa [hj, hne, hun, hno] using h1

def textFrom (md : Region.Mode) (ops : Array Oper) (fl : Nat → Nat) : Nat → Nat → Array Bool → Bool
  | 0, _, listed => (Region.ready md ops listed).isEmpty
  | fuel + 1, k, listed => (Region.ready md ops listed).contains k && freeF md ops fl listed k && textFrom md ops fl fuel (k + 1) (listed.setIfInBounds k true)

def flOf (l : List Nat) (i : Nat) : Nat := l.getD i 2

def noDefer (ops : Array Oper) : Bool := ops.all fun o => match o.op with | .defer .. => false | _ => true

/-- What is asked of a region, once and for all, by reckoning. -/
def textB (md : Region.Mode) (ops : Array Oper) (l : List Nat) : Bool := Region.noSelect ops && noDefer ops && textFrom md ops (flOf l) ops.size 0 (Array.replicate ops.size false)

/-- The operations in the text's order. -/
def wpTxt (P : Program) (ops : Array Oper) (fl : Nat → Nat) (Q : Act → World → Prop) : Nat → List Oper → Act → World → Prop
  | _, [], a, w => Q a w
  | k, _ :: rest, a, w => stepF P ops fl k (wpTxt P ops fl Q (k + 1) rest) a w

theorem wpAnyF_text {fl : Nat → Nat} {Q : Act → World → Prop} (hs : Region.noSelect ops = true) : ∀ (l : List Oper) (k : Nat) (listed : Array Bool) (a : Act) (w : World), Closed md ops listed → (∀ j, l[j]? = ops[k + j]?) →
    textFrom md ops fl l.length k listed = true → wpTxt P ops fl Q k l a w → wpAnyF P md ops fl Q l.length listed a w
  | [], _, _, _, _, _, _, hB, h => ⟨by simpa [textFrom] using hB, h⟩
  | o :: l, k, listed, a, w, hcl, hl, hB, h => by
    have h0 : ops[k]? = some o := by simpa using (hl 0).symm
    simp only [List.length_cons, textFrom, Bool.and_eq_true] at hB
    obtain ⟨⟨hr, hf⟩, hB'⟩ := hB
    refine wpAnyF_first h0 (Region.noSelect_spec hs) l.length listed a w hcl (freeF_spec h0 hf) (by simpa using hr) ?_
    exact stepF_mono (fun a' w' h' => wpAnyF_text hs l (k + 1) _ a' w' (hcl.set (by simpa using hr)) (fun j => by have := hl (j + 1); simpa [Nat.add_assoc, Nat.add_comm 1 j] using this) hB' h') h

theorem wpOp_of_stepF {fl : Nat → Nat} {Q' : Act → World → Prop} {i : Nat} {K K' : Act → World → Prop} {a : Act} {w : World} (hk : ∀ a w, K a w → K' a w) (h : stepF P ops fl i K a w) : wpOp P ops (nq Q') i K' a w := by
  unfold stepF at h
  split at h
  · rename_i ho; unfold wpOp; simp only [ho]; exact hk _ _ h
  · rename_i o ho
    split at h
    · obtain ⟨v, hy, hK⟩ := h
      exact hy.wpOp ho (hk _ _ hK)
    · obtain ⟨v, hy, hK⟩ := h
      exact wpOp_of_stOp (K := fun a' => K' a' w) (fun a' h' => h') (hy.stOp ho (hk _ _ hK))
    · unfold wpOp at h ⊢
      simp only [ho] at h ⊢
      split
      · rename_i hw
        simp only [hw, if_true] at h
        rcases h with h | ⟨_, h⟩
        · refine .inl ?_
          unfold Oper.wp at h ⊢
          generalize (execOp a.eval o).run P w = r at h ⊢
          cases r with
          | ok n w' =>
            cases n <;> simp only [Oper.upon] at h ⊢ <;> first | exact hk _ _ h | skip
            · refine Calls.mono h fun e w'' he => ?_
              cases e with
              | returned u => exact hk _ _ he
              | panicked c => exact he.elim
              | outgrown => exact (nq_lets he).elim
            · exact Rows.mono h fun u w'' he => hk _ _ he
          | halt x w' => cases x <;> simp only [Oper.upon] at h ⊢; exact h.elim
        · exact (nq_lets h).elim
      · rename_i hw; simp only [hw] at h; exact hk _ _ h

theorem wpAny_of_F {fl : Nat → Nat} {Q : Act → World → Prop} : ∀ (fuel : Nat) (listed : Array Bool) (a : Act) (w : World), wpAnyF P md ops fl Q fuel listed a w → wpAny P md ops (nq Q) fuel listed a w
  | 0, _, _, _, h => h
  | fuel + 1, _, _, _, h => ⟨h.1, fun i hi => wpOp_of_stepF (wpAny_of_F fuel _) (h.2 i hi)⟩

theorem getD_replicate_false' (m j : Nat) : (Array.replicate m false).getD j false = false := by
  rcases Nat.lt_or_ge j m with h | h
  · simp [h]
  · simp [h]

theorem wpAny_text {fl : List Nat} {Q : Act → World → Prop} {a : Act} {w : World} (hB : textB md ops fl = true) (h : wpTxt P ops (flOf fl) Q 0 ops.toList a w) :
    wpAny P md ops (nq Q) ops.size (Array.replicate ops.size false) a w := by
  simp only [textB, Bool.and_eq_true] at hB
  have := wpAnyF_text (md := md) hB.1.1 ops.toList 0 (Array.replicate ops.size false) a w (fun m om _ h => by rw [getD_replicate_false'] at h; cases h) (by simp) (by simpa using hB.2) h
  exact wpAny_of_F _ _ _ _ (by simpa using this)

theorem nq_sub {Q : Exit → Act → World → Prop} : ∀ e a w, nq (Q .normal) e a w → Q e a w := fun e a w h => by cases e <;> first | exact h | exact h.elim

/-- A REGION THAT DRAWS, IN THE TEXT's ORDER. -/
theorem wp_region_text {id : Nat} {Q : Exit → Act → World → Prop} {a : Act} {w : World} {l : List Oper} (fl : List Nat) (hm : P.follows .mixedOrders = true) (hB : textB .any l.toArray fl = true)
    (h : wpTxt P l.toArray (flOf fl) (fun a' w' => Q .normal a' w') 0 l a w.drew) : (Code.region id l.toArray true).wp P Q a w :=
  Code.wp_mono nq_sub (wp_region_any hm (wpAny_text hB (by simpa using h)))

theorem wpAnyIn_of {n l : Nat} {Q : Act → World → Prop} (hd : noDefer ops = true) : ∀ (fuel : Nat) (listed : Array Bool) (a : Act) (w : World), wpAny P md ops (nq Q) fuel listed a w → wpAnyIn (Fence.wide.inRound l) n P md ops (nq Q) fuel listed a w
  | 0, _, _, _, h => h
  | fuel + 1, listed, a, w, h => ⟨h.1, fun i hi => by
      have h1 := h.2 i hi
      unfold wpOp at h1
      unfold wpOpIn
      split
      · rename_i ho; simp only [ho] at h1; exact wpAnyIn_of hd fuel _ _ _ h1
      · rename_i o ho
        simp only [ho] at h1
        split
        · rename_i hw
          simp only [hw, if_true] at h1
          rcases h1 with h1 | ⟨_, h1⟩
          · refine ⟨fun _ _ => trivial, ?_⟩
            have hnd : ∀ c, o.op ≠ .defer c := fun c e => by
              have := Array.all_eq_true_iff_forall_mem.1 hd o (Array.mem_of_getElem? ho)
              simp [e] at this
            rw [show (Fence.wide.inRound l).round = some l from rfl, Oper.semAt_some l _ _ hnd]
            unfold Oper.wp at h1
            generalize (execOp a.eval o).run P w = r at h1 ⊢
            cases r with
            | ok x w' =>
              cases x <;> simp only [Oper.upon] at h1 <;> simp only [Oper.uponIn]
              case value v => exact wpAnyIn_of hd fuel _ _ _ h1
              case skip => exact wpAnyIn_of hd fuel _ _ _ h1
              case defer d => exact wpAnyIn_of hd fuel _ _ _ h1
              case enter f args =>
                refine ⟨fun h => absurd h (by simp [Fence.wide]), CallsIn.inRound l (callsIn_wide.2 (Calls.mono h1 fun e w'' he => ?_))⟩
                cases e with
                | returned u => exact wpAnyIn_of hd fuel _ _ _ he
                | panicked c => exact he
                | outgrown => exact (nq_lets he).elim
              case row row args =>
                refine ⟨fun h => absurd h (by simp [Fence.wide]), fun c cs _ => ?_⟩
                obtain ⟨v, w'', hR, hs⟩ := h1 c cs
                exact ⟨v, w'', wpAnyIn_of hd fuel _ _ _ hR, by rw [fenced_inRound]; exact stepsIn_wide.2 hs⟩
            | halt x w' => cases x <;> simp only [Oper.upon] at h1 <;> simp only [Oper.uponIn]; exact h1
          · exact (nq_lets h1).elim
        · rename_i hw; simp only [hw] at h1; exact ⟨fun _ _ => trivial, wpAnyIn_of hd fuel _ _ _ h1⟩⟩

/-- .. in a round of a loop over a function. -/
theorem wpIn_region_text {id n l : Nat} {Q : Exit → Act → World → Prop} {a : Act} {w : World} {os : List Oper} (fl : List Nat) (hm : P.follows .mixedOrders = true) (hB : textB .any os.toArray fl = true)
    (h : wpTxt P os.toArray (flOf fl) (fun a' w' => Q .normal a' w') 0 os a w.drew) : (Code.region id os.toArray true).wpIn (Fence.wide.inRound l) n P Q a w := by
  have hd : noDefer os.toArray = true := by simp only [textB, Bool.and_eq_true] at hB; exact hB.1.2
  exact wpIn_mono (wpIn_region_any hm (wpAnyIn_of hd _ _ _ _ (wpAny_text hB (by simpa using h)))) nq_sub

theorem wpList_of_txt {fl : Nat → Nat} {Q : Exit → Act → World → Prop} : ∀ (l : List Oper) (k : Nat) (a : Act) (w : World), (∀ j, l[j]? = ops[k + j]?) →
    wpTxt P ops fl (fun a' w' => Q .normal a' w') k l a w → wpList P ops (nq (Q .normal)) l a w
  | [], _, _, _, _, h => h
  | o :: rest, k, a, w, hl, h => by
    have h0 : ops[k]? = some o := by simpa using (hl 0).symm
    have h1 := wpOp_of_stepF (Q' := Q .normal) (fun a' w' h' => wpList_of_txt rest (k + 1) a' w' (fun j => by have := hl (j + 1); simpa [Nat.add_assoc, Nat.add_comm 1 j] using this) h') h
    unfold wpOp at h1
    simp only [h0] at h1
    exact h1

/-- A region that does not draw, step by step. -/
theorem wp_region_seq {id : Nat} {Q : Exit → Act → World → Prop} {a : Act} {w : World} {l : List Oper} (fl : List Nat)
    (h : wpTxt P l.toArray (flOf fl) (fun a' w' => Q .normal a' w') 0 l a w) : (Code.region id l.toArray false).wp P Q a w :=
  Code.wp_mono nq_sub (wp_region_list (wpList_of_txt l 0 a w (by simp) h))

/-! ### Steps -/

section steps
variable {fl : Nat → Nat} {Q : Act → World → Prop} {k : Nat} {rest : List Oper} {a a' : Act} {w : World}

theorem txt_nil (h : Q a w) : wpTxt P ops fl Q k [] a w := h

theorem txt_move {d : Option Tmp} {x : Operand} {t : TypeId} {p : String} {af : Array Edge} (hk : ops[k]? = some ⟨d, .move x, t, p, af, none⟩) (hf : fl k = 0) (ha : a.put d (a.eval x) = a')
    (h : wpTxt P ops fl Q (k + 1) rest a' w) : wpTxt P ops fl Q k (⟨d, .move x, t, p, af, none⟩ :: rest) a w := by
  subst ha
  unfold wpTxt stepF
  simp only [hk, hf]
  exact ⟨_, .inl ⟨rfl, fun w => rfl⟩, h⟩

theorem txt_assign {d : Option Tmp} {x : Operand} {t : TypeId} {p : String} {af : Array Edge} (hk : ops[k]? = some ⟨d, .assign x, t, p, af, none⟩) (hf : fl k = 0) (ha : a.put d (a.eval x) = a')
    (h : wpTxt P ops fl Q (k + 1) rest a' w) : wpTxt P ops fl Q k (⟨d, .assign x, t, p, af, none⟩ :: rest) a w := by
  subst ha
  unfold wpTxt stepF
  simp only [hk, hf]
  exact ⟨_, .inl ⟨rfl, fun w => rfl⟩, h⟩

theorem txt_pure {o : Oper} {v : Value} (hk : ops[k]? = some o) (hf : fl k = 0) (hw : Region.wanted o (yielded ops a.tmps) = true) (hr : ∀ w, (execOp a.eval o).run P w = .ok (.value v) w) (ha : a.put o.dst v = a')
    (h : wpTxt P ops fl Q (k + 1) rest a' w) : wpTxt P ops fl Q k (o :: rest) a w := by
  subst ha
  unfold wpTxt stepF
  simp only [hk, hf]
  exact ⟨v, .inl ⟨hw, hr⟩, h⟩

theorem txt_read {o : Oper} {v : Value} (hk : ops[k]? = some o) (hf : fl k = 1) (hw : Region.wanted o (yielded ops a.tmps) = true) (hr : (execOp a.eval o).run P w = .ok (.value v) w) (ha : a.put o.dst v = a')
    (h : wpTxt P ops fl Q (k + 1) rest a' w) : wpTxt P ops fl Q k (o :: rest) a w := by
  subst ha
  unfold wpTxt stepF
  simp only [hk, hf]
  exact ⟨v, .inl ⟨hw, .inl hr⟩, h⟩

theorem txt_quiet {o : Oper} {v : Value} {f : FuncId} {args : Array Value} (hk : ops[k]? = some o) (hf : fl k = 1) (hw : Region.wanted o (yielded ops a.tmps) = true) (hr : (execOp a.eval o).run P w = .ok (.enter f args) w)
    (hc : Calls P f args w fun e w' => e = .returned v ∧ w' = w) (ha : a.put o.dst v = a')
    (h : wpTxt P ops fl Q (k + 1) rest a' w) : wpTxt P ops fl Q k (o :: rest) a w := by
  subst ha
  unfold wpTxt stepF
  simp only [hk, hf]
  exact ⟨v, .inl ⟨hw, .inr (.inr ⟨f, args, hr, hc⟩)⟩, h⟩

theorem txt_skip {o : Oper} (hk : ops[k]? = some o) (hw : Region.wanted o (yielded ops a.tmps) = false) (ha : a.put o.dst undef = a')
    (h : wpTxt P ops fl Q (k + 1) rest a' w) : wpTxt P ops fl Q k (o :: rest) a w := by
  subst ha
  unfold wpTxt stepF
  simp only [hk]
  split
  · exact ⟨undef, .inr ⟨hw, rfl⟩, h⟩
  · exact ⟨undef, .inr ⟨hw, rfl⟩, h⟩
  · unfold wpOp; simp only [hk, hw]; exact h

theorem txt_act {o : Oper} (hk : ops[k]? = some o) (hf : fl k = 2) (hw : Region.wanted o (yielded ops a.tmps) = true)
    (h : ∀ K : Act → World → Prop, (∀ a w, wpTxt P ops fl Q (k + 1) rest a w → K a w) → o.wp P a w K (nq fun _ _ => False)) : wpTxt P ops fl Q k (o :: rest) a w := by
  unfold wpTxt stepF
  simp only [hk, hf]
  unfold wpOp
  simp only [hk, hw, if_true]
  exact .inl (h _ fun _ _ h => h)

theorem txt_value {o : Oper} {v : Value} {w' : World} (hk : ops[k]? = some o) (hf : fl k = 2) (hw : Region.wanted o (yielded ops a.tmps) = true) (hr : (execOp a.eval o).run P w = .ok (.value v) w') (ha : a.put o.dst v = a')
    (h : wpTxt P ops fl Q (k + 1) rest a' w') : wpTxt P ops fl Q k (o :: rest) a w := by
  subst ha
  exact txt_act hk hf hw fun K hK => by unfold Oper.wp; rw [hr]; exact hK _ _ h

theorem txt_do {o : Oper} {w' : World} (hk : ops[k]? = some o) (hf : fl k = 2) (hw : Region.wanted o (yielded ops a.tmps) = true) (hr : (execOp a.eval o).run P w = .ok .skip w') (ha : a.put o.dst undef = a')
    (h : wpTxt P ops fl Q (k + 1) rest a' w') : wpTxt P ops fl Q k (o :: rest) a w := by
  subst ha
  exact txt_act hk hf hw fun K hK => by unfold Oper.wp; rw [hr]; exact hK _ _ h

theorem txt_call {o : Oper} {f : FuncId} {args : Array Value} {w' : World} (hk : ops[k]? = some o) (hf : fl k = 2) (hw : Region.wanted o (yielded ops a.tmps) = true) (hr : (execOp a.eval o).run P w = .ok (.enter f args) w')
    (h : Calls P f args w' fun e w'' => ∃ v, e = .returned v ∧ wpTxt P ops fl Q (k + 1) rest (a.put o.dst v) w'') : wpTxt P ops fl Q k (o :: rest) a w :=
  txt_act hk hf hw fun K hK => by
    unfold Oper.wp
    rw [hr]
    exact h.mono fun e w'' ⟨v, he, hh⟩ => by subst he; exact hK _ _ hh
end steps
end
end Go.Proofs.YtffehdfddkgggaaDoor.Rt

/- A region that draws its order, told in an order of one's own: 0: an operation that looks at no memory; 1: one that leaves memory alone and yields the same in whatever world lies above; 2: one that makes memory and leaves the old as it was; else one that may act. Reads may stand ahead of what makes memory. -/
namespace Go.Proofs.YtffehdfddkgggaaDoor.Rt
open Go Go.RowKit
set_option linter.unusedSectionVars false
set_option linter.unusedVariables false

section
variable {P : Program} {ops : Array Oper} {md : Region.Mode}

/-- It yields v in this world, and in every world above it. -/
def YE (P : Program) (ops : Array Oper) (w : World) (o : Oper) (v : Value) (a : Act) : Prop := ∀ W, Below w.heap.size w W → YieldsAt P ops W o v a
theorem YE.up {w w' : World} {o : Oper} {v : Value} {a : Act} (h : YE P ops w o v a) (hb : Below w.heap.size w w') : YE P ops w' o v a :=
  fun W hW => h W (hb.trans (hW.mono hb.size))
theorem YE.now {w : World} {o : Oper} {v : Value} {a : Act} (h : YE P ops w o v a) : YieldsAt P ops w o v a := h w (Below.refl _ _)

def stepO (P : Program) (ops : Array Oper) (fl : Nat → Nat) (i : Nat) (K : Act → World → Prop) (a : Act) (w : World) : Prop :=
  match ops[i]? with
  | none => K a w
  | some o =>
    match fl i with
    | 0 => ∃ v, Yields P ops o v a ∧ K (a.put o.dst v) w
    | 1 => ∃ v, YE P ops w o v a ∧ K (a.put o.dst v) w
    | 2 => wpOp P ops (nq fun _ _ => False) i (fun a' w' => Below w.heap.size w w' ∧ K a' w') a w
    | _ => wpOp P ops (nq fun _ _ => False) i K a w

theorem stepO_0 {fl : Nat → Nat} {i : Nat} {o : Oper} (hi : ops[i]? = some o) (hf : fl i = 0) (K : Act → World → Prop) (a : Act) (w : World) : stepO P ops fl i K a w = ∃ v, Yields P ops o v a ∧ K (a.put o.dst v) w := by unfold stepO; simp only [hi, hf]
theorem stepO_1 {fl : Nat → Nat} {i : Nat} {o : Oper} (hi : ops[i]? = some o) (hf : fl i = 1) (K : Act → World → Prop) (a : Act) (w : World) : stepO P ops fl i K a w = ∃ v, YE P ops w o v a ∧ K (a.put o.dst v) w := by unfold stepO; simp only [hi, hf]
theorem stepO_2 {fl : Nat → Nat} {i : Nat} {o : Oper} (hi : ops[i]? = some o) (hf : fl i = 2) (K : Act → World → Prop) (a : Act) (w : World) : stepO P ops fl i K a w = wpOp P ops (nq fun _ _ => False) i (fun a' w' => Below w.heap.size w w' ∧ K a' w') a w := by unfold stepO; simp only [hi, hf]
theorem stepO_3 {fl : Nat → Nat} {i : Nat} {o : Oper} (hi : ops[i]? = some o) (h0 : fl i ≠ 0) (h1 : fl i ≠ 1) (h2 : fl i ≠ 2) (K : Act → World → Prop) (a : Act) (w : World) : stepO P ops fl i K a w = wpOp P ops (nq fun _ _ => False) i K a w := by unfold stepO; simp only [hi]
theorem stepO_none {fl : Nat → Nat} {i : Nat} (hi : ops[i]? = none) (K : Act → World → Prop) (a : Act) (w : World) : stepO P ops fl i K a w = K a w := by unfold stepO; simp only [hi]

theorem stepO_some {fl : Nat → Nat} {i : Nat} {K : Act → World → Prop} {a : Act} {w : World} (h : stepO P ops fl i K a w) : ∃ a' w', K a' w' := by
  cases ho : ops[i]? with
  | none => rw [stepO_none ho] at h; exact ⟨_, _, h⟩
  | some o =>
    by_cases h0 : fl i = 0
    · rw [stepO_0 ho h0] at h; obtain ⟨v, _, h⟩ := h; exact ⟨_, _, h⟩
    · by_cases h1 : fl i = 1
      · rw [stepO_1 ho h1] at h; obtain ⟨v, _, h⟩ := h; exact ⟨_, _, h⟩
      · by_cases h2 : fl i = 2
        · rw [stepO_2 ho h2] at h; obtain ⟨v, ds, w', h⟩ := wpOp_some ho h; exact ⟨_, _, h.2⟩
        · rw [stepO_3 ho h0 h1 h2] at h; obtain ⟨v, ds, w', h⟩ := wpOp_some ho h; exact ⟨_, _, h⟩

theorem stepO_mono {fl : Nat → Nat} {i : Nat} {K K' : Act → World → Prop} {a : Act} {w : World} (hk : ∀ a w, K a w → K' a w) (h : stepO P ops fl i K a w) : stepO P ops fl i K' a w := by
  cases ho : ops[i]? with
  | none => rw [stepO_none ho] at h ⊢; exact hk _ _ h
  | some o =>
    by_cases h0 : fl i = 0
    · rw [stepO_0 ho h0] at h ⊢; obtain ⟨v, hy, h⟩ := h; exact ⟨v, hy, hk _ _ h⟩
    · by_cases h1 : fl i = 1
      · rw [stepO_1 ho h1] at h ⊢; obtain ⟨v, hy, h⟩ := h; exact ⟨v, hy, hk _ _ h⟩
      · by_cases h2 : fl i = 2
        · rw [stepO_2 ho h2] at h ⊢; exact wpOp_mono (fun a w h => ⟨h.1, hk _ _ h.2⟩) h
        · rw [stepO_3 ho h0 h1 h2] at h ⊢; exact wpOp_mono hk h

section
variable {oi oj : Oper} (hsi : ∀ cs b, oi.op ≠ .select cs b) (hsj : ∀ cs b, oj.op ≠ .select cs b) (hap : oi.apart ops oj = true)
include hsi hsj hap
theorem ye_put_j {w : World} {u : Value} {a : Act} (v : Value) : YE P ops w oj u (a.put oi.dst v) ↔ YE P ops w oj u a :=
  ⟨fun h W hW => (yieldsAt_put_j hsi hsj hap v).1 (h W hW), fun h W hW => (yieldsAt_put_j hsi hsj hap v).2 (h W hW)⟩
theorem ye_put_i {w : World} {u : Value} {a : Act} (v : Value) : YE P ops w oi u (a.put oj.dst v) ↔ YE P ops w oi u a :=
  ⟨fun h W hW => (yieldsAt_put_i hsi hsj hap v).1 (h W hW), fun h W hW => (yieldsAt_put_i hsi hsj hap v).2 (h W hW)⟩

/-- What acts, behind what looks at no memory: the other way round. -/
theorem act_then_0 {i : Nat} (hi : ops[i]? = some oi) {K : Act → World → Prop} {a : Act} {w : World}
    (h : wpOp P ops (nq fun _ _ => False) i (fun a' w' => ∃ u, Yields P ops oj u a' ∧ K (a'.put oj.dst u) w') a w) :
    ∃ u, Yields P ops oj u a ∧ wpOp P ops (nq fun _ _ => False) i K (a.put oj.dst u) w := by
  obtain ⟨h1, h2, h3⟩ := Oper.apart_spec hap
  obtain ⟨u, hu⟩ : ∃ u, Yields P ops oj u a := by
    obtain ⟨v, ds, w', u, hu, _⟩ := wpOp_some hi h
    exact ⟨u, (yields_put_j (a := { a with defers := ds }) hsi hsj hap v).1 hu⟩
  refine ⟨u, hu, ?_⟩
  have put2 : ∀ (a : Act) v u, (a.put oi.dst v).put oj.dst u = (a.put oj.dst u).put oi.dst v := fun a v u => put_two hsi hsj hap v u
  have key : ∀ (ds : List Deferred) v w', (∃ u', Yields P ops oj u' (({ a with defers := ds } : Act).put oi.dst v) ∧ K ((({ a with defers := ds } : Act).put oi.dst v).put oj.dst u') w') → K ((({ a with defers := ds } : Act).put oj.dst u).put oi.dst v) w' := fun ds v w' ⟨u', hu', hK⟩ => by
    have := (yields_put_j (a := { a with defers := ds }) hsi hsj hap v).1 hu'
    obtain rfl := Yields.unique (P := P) (ops := ops) hu this
    rw [← put2]; exact hK
  unfold wpOp at h ⊢
  simp only [hi] at h ⊢
  rw [wanted_put oi a oj.dst u h3]
  split
  · rename_i hw
    simp only [hw, if_true] at h
    rcases h with h | ⟨_, h⟩
    · refine .inl ?_
      unfold Oper.wp at h ⊢
      rw [execOp_put oi hsi a oj.dst u h3]
      generalize (execOp a.eval oi).run P w = r at h ⊢
      cases r with
      | ok n w' =>
        cases n <;> simp only [Oper.upon] at h ⊢
        case value v => exact key a.defers v w' h
        case skip => exact key a.defers undef w' h
        case defer d =>
          have := key (d :: a.defers) undef w' h
          rw [Act.put_defers]; exact this
        case enter f args =>
          refine Calls.mono h fun e w'' he => ?_
          cases e with
          | returned v => exact key a.defers v w'' he
          | panicked c => exact he
          | outgrown => exact he
        case row row args => exact Rows.mono h fun v w'' he => key a.defers v w'' he
      | halt x w' => cases x <;> simp only [Oper.upon] at h ⊢; exact h
    · exact (nq_lets h).elim
  · rename_i hw
    simp only [hw] at h
    exact key a.defers undef w h

/-- What acts, told behind a value that has been put: what is put may come behind it. -/
theorem wpOp_swap {j : Nat} (hj : ops[j]? = some oj) {K : Act → World → Prop} {a : Act} {w : World} {v : Value}
    (h : wpOp P ops (nq fun _ _ => False) j K (a.put oi.dst v) w) :
    wpOp P ops (nq fun _ _ => False) j (fun a' w' => (∃ ds u, a' = (({ a with defers := ds } : Act).put oj.dst u)) ∧ K (a'.put oi.dst v) w') a w := by
  obtain ⟨h1, h2, h3⟩ := Oper.apart_spec hap
  have put2 : ∀ (a : Act) u, (a.put oi.dst v).put oj.dst u = (a.put oj.dst u).put oi.dst v := fun a u => put_two hsi hsj hap v u
  unfold wpOp at h ⊢
  simp only [hj] at h ⊢
  rw [wanted_put oj a oi.dst v h1] at h
  split
  · rename_i hw
    simp only [hw, if_true] at h
    rcases h with h | ⟨_, h⟩
    · refine .inl ?_
      unfold Oper.wp at h ⊢
      rw [execOp_put oj hsj a oi.dst v h1] at h
      generalize (execOp a.eval oj).run P w = r at h ⊢
      cases r with
      | ok n w' =>
        cases n <;> simp only [Oper.upon] at h ⊢
        case value x => exact ⟨⟨a.defers, x, rfl⟩, by rw [← put2]; exact h⟩
        case skip => exact ⟨⟨a.defers, undef, rfl⟩, by rw [← put2]; exact h⟩
        case defer d =>
          refine ⟨⟨d :: a.defers, undef, rfl⟩, ?_⟩
          have e : ({ a.put oi.dst v with defers := d :: (a.put oi.dst v).defers } : Act) = (({ a with defers := d :: a.defers } : Act).put oi.dst v) := by
            cases hd : oi.dst <;> simp [Act.put]
          rw [e, put2] at h; exact h
        case enter f args =>
          refine Calls.mono h fun e w'' he => ?_
          cases e with
          | returned x => exact ⟨⟨a.defers, x, rfl⟩, by rw [← put2]; exact he⟩
          | panicked c => exact he
          | outgrown => exact he
        case row row args => exact Rows.mono h fun x w'' he => ⟨⟨a.defers, x, rfl⟩, by rw [← put2]; exact he⟩
      | halt x w' => cases x <;> simp only [Oper.upon] at h ⊢; exact h
    · exact (nq_lets h).elim
  · rename_i hw
    simp only [hw] at h
    exact ⟨⟨a.defers, undef, rfl⟩, by rw [← put2]; exact h⟩
end

/-- Two operations that are apart, of classes that suit, may change places: the first one comes behind. -/
theorem stepO_comm {fl : Nat → Nat} {i j : Nat} {oi oj : Oper} (hi : ops[i]? = some oi) (hj : ops[j]? = some oj)
    (hsi : ∀ cs b, oi.op ≠ .select cs b) (hsj : ∀ cs b, oj.op ≠ .select cs b) (hap : oi.apart ops oj = true)
    (hcl : fl i = 0 ∨ fl j = 0 ∨ (fl i = 1 ∧ (fl j = 1 ∨ fl j = 2))) {K : Act → World → Prop} {a : Act} {w : World}
    (h : stepO P ops fl i (fun a' w' => stepO P ops fl j K a' w') a w) : stepO P ops fl j (fun a' w' => stepO P ops fl i K a' w') a w := by
  by_cases hi0 : fl i = 0
  · rw [stepO_0 hi hi0] at h
    obtain ⟨v, hy, h⟩ := h
    have eI : ∀ a' w', Yields P ops oi v a' → K (a'.put oi.dst v) w' → stepO P ops fl i K a' w' := fun a' w' h1 h2 => by rw [stepO_0 hi hi0]; exact ⟨v, h1, h2⟩
    by_cases hj0 : fl j = 0
    · rw [stepO_0 hj hj0] at h ⊢
      obtain ⟨u, hu, hK⟩ := h
      rw [yields_put_j hsi hsj hap] at hu
      exact ⟨u, hu, eI _ _ ((yields_put_i hsi hsj hap _).2 hy) (by rw [← put_two hsi hsj hap]; exact hK)⟩
    · by_cases hj1 : fl j = 1
      · rw [stepO_1 hj hj1] at h ⊢
        obtain ⟨u, hu, hK⟩ := h
        rw [ye_put_j hsi hsj hap] at hu
        exact ⟨u, hu, eI _ _ ((yields_put_i hsi hsj hap _).2 hy) (by rw [← put_two hsi hsj hap]; exact hK)⟩
      · by_cases hj2 : fl j = 2
        · rw [stepO_2 hj hj2] at h ⊢
          have h5 := wpOp_put (Q := nq fun _ _ => False) hj hap hsi hsj (fun c a w hh => hh) hy h
          exact wpOp_mono (fun a' w' hh => ⟨hh.2.1, eI _ _ hh.1 hh.2.2⟩) h5
        · rw [stepO_3 hj hj0 hj1 hj2] at h ⊢
          have h5 := wpOp_put (Q := nq fun _ _ => False) hj hap hsi hsj (fun c a w hh => hh) hy h
          exact wpOp_mono (fun a' w' hh => eI _ _ hh.1 hh.2) h5
  · by_cases hj0 : fl j = 0
    · have eJ : ∀ a' w', stepO P ops fl j K a' w' ↔ ∃ u, Yields P ops oj u a' ∧ K (a'.put oj.dst u) w' := fun a' w' => by rw [stepO_0 hj hj0]
      rw [stepO_0 hj hj0]
      by_cases hi1 : fl i = 1
      · rw [stepO_1 hi hi1] at h
        obtain ⟨v, hy, h⟩ := h
        rw [eJ] at h
        obtain ⟨u, hu, hK⟩ := h
        rw [yields_put_j hsi hsj hap] at hu
        refine ⟨u, hu, ?_⟩
        rw [stepO_1 hi hi1]
        exact ⟨v, (ye_put_i hsi hsj hap _).2 hy, by rw [← put_two hsi hsj hap]; exact hK⟩
      · by_cases hi2 : fl i = 2
        · rw [stepO_2 hi hi2] at h
          obtain ⟨u, hu, hK⟩ := act_then_0 (K := fun a' w' => Below w.heap.size w w' ∧ K a' w') hsi hsj hap hi (wpOp_mono (fun a' w' hh => by
            obtain ⟨u, h1, h2⟩ := (eJ _ _).1 hh.2
            exact ⟨u, h1, hh.1, h2⟩) h)
          exact ⟨u, hu, by rw [stepO_2 hi hi2]; exact hK⟩
        · rw [stepO_3 hi hi0 hi1 hi2] at h
          obtain ⟨u, hu, hK⟩ := act_then_0 (K := K) hsi hsj hap hi (wpOp_mono (fun a' w' hh => (eJ _ _).1 hh) h)
          exact ⟨u, hu, by rw [stepO_3 hi hi0 hi1 hi2]; exact hK⟩
    · obtain ⟨hi1, hj12⟩ := (hcl.resolve_left hi0).resolve_left hj0
      rw [stepO_1 hi hi1] at h
      obtain ⟨v, hy, h⟩ := h
      rcases hj12 with hj1 | hj2
      · rw [stepO_1 hj hj1] at h ⊢
        obtain ⟨u, hu, hK⟩ := h
        rw [ye_put_j hsi hsj hap] at hu
        exact ⟨u, hu, by rw [stepO_1 hi hi1]; exact ⟨v, (ye_put_i hsi hsj hap _).2 hy, by rw [← put_two hsi hsj hap]; exact hK⟩⟩
      · rw [stepO_2 hj hj2] at h ⊢
        refine wpOp_mono (fun a' w' hh => ?_) (wpOp_swap hsi hsj hap hj h)
        obtain ⟨⟨ds, u, rfl⟩, hb, hK⟩ := hh
        refine ⟨hb, ?_⟩
        rw [stepO_1 hi hi1]
        have hy' : YE P ops w oi v ({ a with defers := ds } : Act) := fun W hW => hy W hW
        exact ⟨v, ((ye_put_i hsi hsj hap _).2 hy').up hb, hK⟩

def wpAnyO (P : Program) (md : Region.Mode) (ops : Array Oper) (fl : Nat → Nat) (Q : Act → World → Prop) : Nat → Array Bool → Act → World → Prop
  | 0, listed, a, w => Region.ready md ops listed = [] ∧ Q a w
  | fuel + 1, listed, a, w =>
    (Region.ready md ops listed = [] → Q a w) ∧
    ∀ i ∈ Region.ready md ops listed, stepO P ops fl i (wpAnyO P md ops fl Q fuel (listed.setIfInBounds i true)) a w

/-- May j, which does not wait for i, come up ahead of i, which is told first? -/
def suitsO (fl : Nat → Nat) (i j : Nat) : Bool := fl i == 0 || fl j == 0 || (fl i == 1 && (fl j == 1 || fl j == 2))
theorem suitsO_spec {fl : Nat → Nat} {i j : Nat} (h : suitsO fl i j = true) : fl i = 0 ∨ fl j = 0 ∨ (fl i = 1 ∧ (fl j = 1 ∨ fl j = 2)) := by
  simp [suitsO] at h
  rcases h with (h | h) | h
  · exact .inl h
  · exact .inr (.inl h)
  · exact .inr (.inr h)

theorem wpAnyO_first {fl : Nat → Nat} {Q : Act → World → Prop} {i : Nat} {oi : Oper} (hi : ops[i]? = some oi) (hsel : ∀ (j : Nat) (o : Oper) cs b, ops[j]? = some o → o.op ≠ .select cs b) :
    ∀ (fuel : Nat) (listed : Array Bool) (a : Act) (w : World), Closed md ops listed →
      (∀ j oj, ops[j]? = some oj → j ≠ i → listed.getD j true = false → waits md ops ops.size j i = false → oi.apart ops oj = true ∧ suitsO fl i j = true) →
      i ∈ Region.ready md ops listed →
      stepO P ops fl i (wpAnyO P md ops fl Q fuel (listed.setIfInBounds i true)) a w → wpAnyO P md ops fl Q (fuel + 1) listed a w := by
  intro fuel
  induction fuel with
  | zero =>
    intro listed a w _ _ hr H
    refine ⟨fun h => (by rw [h] at hr; cases hr), fun j hj => ?_⟩
    by_cases hji : j = i
    · subst hji; exact H
    · obtain ⟨a', w', h'⟩ := stepO_some H
      have := ready_mono hj hji
      rw [h'.1] at this
      cases this
  | succ fuel ih =>
    intro listed a w hcl hfree hr H
    refine ⟨fun h => (by rw [h] at hr; cases hr), fun j hj => ?_⟩
    by_cases hji : j = i
    · subst hji; exact H
    · obtain ⟨hjun, oj, hoj, hall⟩ := mem_ready.1 hj
      have hnot : waits md ops ops.size j i = false := not_waits hcl (mem_ready.1 hr).1 _ j oj hoj hall
      obtain ⟨hap, hsu⟩ := hfree j oj hoj hji hjun hnot
      have H2 : stepO P ops fl i (fun a' w' => stepO P ops fl j (wpAnyO P md ops fl Q fuel ((listed.setIfInBounds i true).setIfInBounds j true)) a' w') a w :=
        stepO_mono (fun a' w' hK => hK.2 j (ready_mono hj hji)) H
      have H3 := stepO_comm hi hoj (fun cs b => hsel i oi cs b hi) (fun cs b => hsel j oj cs b hoj) hap (suitsO_spec hsu) H2
      have hfree' : ∀ k ok, ops[k]? = some ok → k ≠ i → (listed.setIfInBounds j true).getD k true = false →
          waits md ops ops.size k i = false → oi.apart ops ok = true ∧ suitsO fl i k = true := fun k ok hk hki hun hno => by
        refine hfree k ok hk hki ?_ hno
        by_cases hjk : j = k
        · subst hjk; exact hjun
        · rw [getD_set_ne true hjk] at hun; exact hun
      refine stepO_mono (fun a' w' h3 => ih (listed.setIfInBounds j true) a' w' (hcl.set hj) hfree' (ready_mono hr (Ne.symm hji)) ?_) H3
      rw [Array.setIfInBounds_comm _ _ hji]
      exact h3

def freeO (md : Region.Mode) (ops : Array Oper) (fl : Nat → Nat) (listed : Array Bool) (i : Nat) : Bool :=
  match ops[i]? with
  | none => false
  | some oi => (List.range ops.size).all fun j => j == i || listed.getD j true || match ops[j]? with
      | some oj => waits md ops ops.size j i || (oi.apart ops oj && suitsO fl i j)
      | none => true
theorem freeO_spec {fl : Nat → Nat} {i : Nat} {oi : Oper} {listed : Array Bool} (hi : ops[i]? = some oi) (h : freeO md ops fl listed i = true) (j : Nat) (oj : Oper)
    (hj : ops[j]? = some oj) (hne : j ≠ i) (hun : listed.getD j true = false) (hno : waits md ops ops.size j i = false) :
    oi.apart ops oj = true ∧ suitsO fl i j = true := by
  simp only [freeO, hi, List.all_eq_true, List.mem_range] at h
  have h1 := h j (Array.getElem?_eq_some_iff.1 hj).1
  simpa [hj, hne, hun, hno] using h1

def ordFrom (md : Region.Mode) (ops : Array Oper) (fl : Nat → Nat) : List Nat → Array Bool → Bool
  | [], listed => (Region.ready md ops listed).isEmpty
  | k :: ks, listed => (Region.ready md ops listed).contains k && freeO md ops fl listed k && ordFrom md ops fl ks (listed.setIfInBounds k true)
/-- What is asked of a region and an order, once and for all, by reckoning. -/
def ordB (md : Region.Mode) (ops : Array Oper) (l ord : List Nat) : Bool := Region.noSelect ops && noDefer ops && ord.length == ops.size && ordFrom md ops (flOf l) ord (Array.replicate ops.size false)
/-- The operations in the order that is told. -/
def wpOrd (P : Program) (ops : Array Oper) (fl : Nat → Nat) (Q : Act → World → Prop) : List Nat → Act → World → Prop
  | [], a, w => Q a w
  | k :: rest, a, w => stepO P ops fl k (wpOrd P ops fl Q rest) a w

theorem wpAnyO_ord {fl : Nat → Nat} {Q : Act → World → Prop} (hs : Region.noSelect ops = true) : ∀ (l : List Nat) (listed : Array Bool) (a : Act) (w : World), Closed md ops listed →
    ordFrom md ops fl l listed = true → wpOrd P ops fl Q l a w → wpAnyO P md ops fl Q l.length listed a w
  | [], _, _, _, _, hB, h => ⟨by simpa [ordFrom] using hB, h⟩
  | k :: l, listed, a, w, hcl, hB, h => by
    simp only [ordFrom, Bool.and_eq_true] at hB
    obtain ⟨⟨hr, hf⟩, hB'⟩ := hB
    have hr' : k ∈ Region.ready md ops listed := by simpa using hr
    obtain ⟨_, o, h0, _⟩ := mem_ready.1 hr'
    refine wpAnyO_first h0 (Region.noSelect_spec hs) l.length listed a w hcl (freeO_spec h0 hf) hr' ?_
    exact stepO_mono (fun a' w' h' => wpAnyO_ord hs l _ a' w' (hcl.set hr') hB' h') h

theorem wpOp_of_stepO {fl : Nat → Nat} {Q' : Act → World → Prop} {i : Nat} {K K' : Act → World → Prop} {a : Act} {w : World} (hk : ∀ a w, K a w → K' a w) (h : stepO P ops fl i K a w) : wpOp P ops (nq Q') i K' a w := by
  -- by the elder steps
  have toF : ∃ fl2 : Nat → Nat, stepF P ops fl2 i K a w := by
    cases ho : ops[i]? with
    | none => exact ⟨fun _ => 0, by unfold stepF; simp only [ho]; rw [stepO_none ho] at h; exact h⟩
    | some o =>
      by_cases h0 : fl i = 0
      · rw [stepO_0 ho h0] at h; exact ⟨fun _ => 0, by unfold stepF; simp only [ho]; exact h⟩
      · by_cases h1 : fl i = 1
        · rw [stepO_1 ho h1] at h; obtain ⟨v, hy, h⟩ := h; exact ⟨fun _ => 1, by unfold stepF; simp only [ho]; exact ⟨v, hy.now, h⟩⟩
        · by_cases h2 : fl i = 2
          · rw [stepO_2 ho h2] at h; exact ⟨fun _ => 2, by unfold stepF; simp only [ho]; exact wpOp_mono (fun a w h => h.2) h⟩
          · rw [stepO_3 ho h0 h1 h2] at h; exact ⟨fun _ => 2, by unfold stepF; simp only [ho]; exact h⟩
  obtain ⟨fl2, h2⟩ := toF
  exact wpOp_of_stepF hk h2

theorem wpAny_of_O {fl : Nat → Nat} {Q : Act → World → Prop} : ∀ (fuel : Nat) (listed : Array Bool) (a : Act) (w : World), wpAnyO P md ops fl Q fuel listed a w → wpAny P md ops (nq Q) fuel listed a w
  | 0, _, _, _, h => h
  | fuel + 1, _, _, _, h => ⟨h.1, fun i hi => wpOp_of_stepO (wpAny_of_O fuel _) (h.2 i hi)⟩

theorem wpAny_ord {fl ord : List Nat} {Q : Act → World → Prop} {a : Act} {w : World} (hB : ordB md ops fl ord = true) (h : wpOrd P ops (flOf fl) Q ord a w) :
    wpAny P md ops (nq Q) ops.size (Array.replicate ops.size false) a w := by
  simp only [ordB, Bool.and_eq_true, beq_iff_eq] at hB
  have := wpAnyO_ord (md := md) hB.1.1.1 ord (Array.replicate ops.size false) a w (fun m om _ h => by rw [getD_replicate_false'] at h; cases h) hB.2 h
  rw [hB.1.2] at this
  exact wpAny_of_O _ _ _ _ this

/-- A REGION THAT DRAWS, IN AN ORDER OF ONE's OWN. -/
theorem wp_region_ord {id : Nat} {Q : Exit → Act → World → Prop} {a : Act} {w : World} {l : List Oper} (fl ord : List Nat) (hm : P.follows .mixedOrders = true) (hB : ordB .any l.toArray fl ord = true)
    (h : wpOrd P l.toArray (flOf fl) (fun a' w' => Q .normal a' w') ord a w.drew) : (Code.region id l.toArray true).wp P Q a w :=
  Code.wp_mono nq_sub (wp_region_any hm (wpAny_ord hB (by simpa using h)))
/-- .. in a round of a loop over a function. -/
theorem wpIn_region_ord {id n l : Nat} {Q : Exit → Act → World → Prop} {a : Act} {w : World} {os : List Oper} (fl ord : List Nat) (hm : P.follows .mixedOrders = true) (hB : ordB .any os.toArray fl ord = true)
    (h : wpOrd P os.toArray (flOf fl) (fun a' w' => Q .normal a' w') ord a w.drew) : (Code.region id os.toArray true).wpIn (Fence.wide.inRound l) n P Q a w := by
  have hd : noDefer os.toArray = true := by simp only [ordB, Bool.and_eq_true] at hB; exact hB.1.1.2
  exact wpIn_mono (wpIn_region_any hm (wpAnyIn_of hd _ _ _ _ (wpAny_ord hB (by simpa using h)))) nq_sub

/-! ### Steps -/
section steps
variable {fl : Nat → Nat} {Q : Act → World → Prop} {k : Nat} {rest : List Nat} {a a' : Act} {w : World}

theorem ord_nil (h : Q a w) : wpOrd P ops fl Q [] a w := h
theorem ord_move {o : Oper} {x : Operand} (hk : ops[k]? = some o) (hf : fl k = 0) (ho : o.op = .move x) (hg : o.guard = none) (ha : a.put o.dst (a.eval x) = a')
    (h : wpOrd P ops fl Q rest a' w) : wpOrd P ops fl Q (k :: rest) a w := by
  subst ha
  unfold wpOrd
  rw [stepO_0 hk hf]
  obtain ⟨d, op, t, p, af, g⟩ := o
  cases ho
  cases hg
  exact ⟨_, .inl ⟨rfl, fun w => rfl⟩, h⟩
theorem ord_assign {o : Oper} {x : Operand} (hk : ops[k]? = some o) (hf : fl k = 0) (ho : o.op = .assign x) (hg : o.guard = none) (ha : a.put o.dst (a.eval x) = a')
    (h : wpOrd P ops fl Q rest a' w) : wpOrd P ops fl Q (k :: rest) a w := by
  subst ha
  unfold wpOrd
  rw [stepO_0 hk hf]
  obtain ⟨d, op, t, p, af, g⟩ := o
  cases ho
  cases hg
  exact ⟨_, .inl ⟨rfl, fun w => rfl⟩, h⟩
theorem ord_pure {o : Oper} {v : Value} (hk : ops[k]? = some o) (hf : fl k = 0) (hw : Region.wanted o (yielded ops a.tmps) = true) (hr : ∀ w, (execOp a.eval o).run P w = .ok (.value v) w) (ha : a.put o.dst v = a')
    (h : wpOrd P ops fl Q rest a' w) : wpOrd P ops fl Q (k :: rest) a w := by
  subst ha
  unfold wpOrd
  rw [stepO_0 hk hf]
  exact ⟨v, .inl ⟨hw, hr⟩, h⟩
theorem ord_skip {o : Oper} (hk : ops[k]? = some o) (hw : Region.wanted o (yielded ops a.tmps) = false) (ha : a.put o.dst undef = a')
    (h : wpOrd P ops fl Q rest a' w) : wpOrd P ops fl Q (k :: rest) a w := by
  subst ha
  unfold wpOrd
  have hwp : ∀ K : Act → World → Prop, K (a.put o.dst undef) w → wpOp P ops (nq fun _ _ => False) k K a w := fun K hK => by unfold wpOp; simp only [hk, hw]; exact hK
  by_cases h0 : fl k = 0
  · rw [stepO_0 hk h0]; exact ⟨undef, .inr ⟨hw, rfl⟩, h⟩
  · by_cases h1 : fl k = 1
    · rw [stepO_1 hk h1]; exact ⟨undef, fun W _ => .inr ⟨hw, rfl⟩, h⟩
    · by_cases h2 : fl k = 2
      · rw [stepO_2 hk h2]; exact hwp _ ⟨Below.refl _ _, h⟩
      · rw [stepO_3 hk h0 h1 h2]; exact hwp _ h
theorem ord_read {o : Oper} {v : Value} (hk : ops[k]? = some o) (hf : fl k = 1) (hw : Region.wanted o (yielded ops a.tmps) = true) (hr : ∀ W, Below w.heap.size w W → (execOp a.eval o).run P W = .ok (.value v) W) (ha : a.put o.dst v = a')
    (h : wpOrd P ops fl Q rest a' w) : wpOrd P ops fl Q (k :: rest) a w := by
  subst ha
  unfold wpOrd
  rw [stepO_1 hk hf]
  exact ⟨v, fun W hW => .inl ⟨hw, .inl (hr W hW)⟩, h⟩
/-- A call that leaves memory alone and tells the same in every world above. -/
theorem ord_quiet {o : Oper} {v : Value} {f : FuncId} {args : Array Value} (hk : ops[k]? = some o) (hf : fl k = 1) (hw : Region.wanted o (yielded ops a.tmps) = true) (hr : ∀ W, Below w.heap.size w W → (execOp a.eval o).run P W = .ok (.enter f args) W)
    (hc : ∀ W, Below w.heap.size w W → Calls P f args W fun e w' => e = .returned v ∧ w' = W) (ha : a.put o.dst v = a')
    (h : wpOrd P ops fl Q rest a' w) : wpOrd P ops fl Q (k :: rest) a w := by
  subst ha
  unfold wpOrd
  rw [stepO_1 hk hf]
  exact ⟨v, fun W hW => .inl ⟨hw, .inr (.inr ⟨f, args, hr W hW, hc W hW⟩)⟩, h⟩
theorem ord_act {o : Oper} (hk : ops[k]? = some o) (hf : fl k = 3) (hw : Region.wanted o (yielded ops a.tmps) = true)
    (h : ∀ K : Act → World → Prop, (∀ a w, wpOrd P ops fl Q rest a w → K a w) → o.wp P a w K (nq fun _ _ => False)) : wpOrd P ops fl Q (k :: rest) a w := by
  unfold wpOrd
  rw [stepO_3 hk (by omega) (by omega) (by omega)]
  unfold wpOp
  simp only [hk, hw, if_true]
  exact .inl (h _ fun _ _ h => h)
theorem ord_make {o : Oper} (hk : ops[k]? = some o) (hf : fl k = 2) (hw : Region.wanted o (yielded ops a.tmps) = true)
    (h : ∀ K : Act → World → Prop, (∀ a w', Below w.heap.size w w' → wpOrd P ops fl Q rest a w' → K a w') → o.wp P a w K (nq fun _ _ => False)) : wpOrd P ops fl Q (k :: rest) a w := by
  unfold wpOrd
  rw [stepO_2 hk hf]
  unfold wpOp
  simp only [hk, hw, if_true]
  exact .inl (h _ fun _ _ hb h => ⟨hb, h⟩)
theorem ord_value {o : Oper} {v : Value} {w' : World} (hk : ops[k]? = some o) (hf : fl k = 3) (hw : Region.wanted o (yielded ops a.tmps) = true) (hr : (execOp a.eval o).run P w = .ok (.value v) w') (ha : a.put o.dst v = a')
    (h : wpOrd P ops fl Q rest a' w') : wpOrd P ops fl Q (k :: rest) a w := by
  subst ha
  exact ord_act hk hf hw fun K hK => by unfold Oper.wp; rw [hr]; exact hK _ _ h
theorem ord_do {o : Oper} {w' : World} (hk : ops[k]? = some o) (hf : fl k = 3) (hw : Region.wanted o (yielded ops a.tmps) = true) (hr : (execOp a.eval o).run P w = .ok .skip w') (ha : a.put o.dst undef = a')
    (h : wpOrd P ops fl Q rest a' w') : wpOrd P ops fl Q (k :: rest) a w := by
  subst ha
  exact ord_act hk hf hw fun K hK => by unfold Oper.wp; rw [hr]; exact hK _ _ h
/-- What makes memory (a new block), by its run. -/
theorem ord_new {o : Oper} {v : Value} {w' : World} (hk : ops[k]? = some o) (hf : fl k = 2) (hw : Region.wanted o (yielded ops a.tmps) = true) (hr : (execOp a.eval o).run P w = .ok (.value v) w') (hb : Below w.heap.size w w') (ha : a.put o.dst v = a')
    (h : wpOrd P ops fl Q rest a' w') : wpOrd P ops fl Q (k :: rest) a w := by
  subst ha
  exact ord_make hk hf hw fun K hK => by unfold Oper.wp; rw [hr]; exact hK _ _ hb h
/-- A call that makes memory. -/
theorem ord_call {o : Oper} {f : FuncId} {args : Array Value} (hk : ops[k]? = some o) (hf : fl k = 2) (hw : Region.wanted o (yielded ops a.tmps) = true) (hr : (execOp a.eval o).run P w = .ok (.enter f args) w)
    (h : Calls P f args w fun e w'' => ∃ v, e = .returned v ∧ Below w.heap.size w w'' ∧ wpOrd P ops fl Q rest (a.put o.dst v) w'') : wpOrd P ops fl Q (k :: rest) a w :=
  ord_make hk hf hw fun K hK => by
    unfold Oper.wp
    rw [hr]
    exact h.mono fun e w'' ⟨v, he, hb, hh⟩ => by subst he; exact hK _ _ hb hh
/-- A call that may change old memory. -/
theorem ord_call_act {o : Oper} {f : FuncId} {args : Array Value} {w' : World} (hk : ops[k]? = some o) (hf : fl k = 3) (hw : Region.wanted o (yielded ops a.tmps) = true) (hr : (execOp a.eval o).run P w = .ok (.enter f args) w')
    (h : Calls P f args w' fun e w'' => ∃ v, e = .returned v ∧ wpOrd P ops fl Q rest (a.put o.dst v) w'') : wpOrd P ops fl Q (k :: rest) a w :=
  ord_act hk hf hw fun K hK => by
    unfold Oper.wp
    rw [hr]
    exact h.mono fun e w'' ⟨v, he, hh⟩ => by subst he; exact hK _ _ hh
end steps

/-- A cell that is there is there above. -/
theorem cell_up {w W : World} {p : Addr} {v : Value} (hW : Below w.heap.size w W) (h : w.cell? p = some v) : W.cell? p = some v :=
  (hW.cell (World.block_lt_of_cell? _ _ h)).trans h
end
end Go.Proofs.YtffehdfddkgggaaDoor.Rt

/- Ro's check of an order, reckoned with a mask of bits, and looking for who waits for whom upwards alone: for regions of 40 operations and more. -/
namespace Go.Proofs.YtffehdfddkgggaaDoor.Rt
open Go Go.RowKit
set_option linter.unusedSectionVars false
set_option linter.unusedVariables false
section
variable {P : Program} {ops : Array Oper} {md : Region.Mode}
def waitsUp (md : Region.Mode) (ops : Array Oper) : Nat → Nat → Nat → Bool
  | 0, _, _ => false
  | f + 1, j, i => match ops[j]? with
    | some oj => oj.after.any fun e => Region.binds md e && (e.on == i || (Nat.blt i e.on && waitsUp md ops f e.on i))
    | none => false
theorem waitsUp_spec : ∀ (f j i : Nat), waitsUp md ops f j i = true → waits md ops f j i = true
  | 0, _, _, h => by cases h
  | f + 1, j, i, h => by
    unfold waitsUp at h
    unfold waits
    cases ho : ops[j]? with
    | none => rw [ho] at h; cases h
    | some o =>
      rw [ho] at h
      simp only [Array.any_eq_true, Bool.and_eq_true, Bool.or_eq_true] at h ⊢
      obtain ⟨q, hq, hb, hh⟩ := h
      exact ⟨q, hq, hb, hh.imp id fun hh => waitsUp_spec f _ _ hh.2⟩
def freeM (md : Region.Mode) (ops : Array Oper) (fl : Nat → Nat) (m k : Nat) (oi : Oper) : List Oper → Nat → Bool
  | [], _ => true
  | oj :: r, j => (j == k || m.testBit j || (suitsO fl k j && oi.apart ops oj) || waitsUp md ops ops.size j k) && freeM md ops fl m k oi r (j + 1)
theorem freeM_spec {fl : Nat → Nat} {m k : Nat} {oi : Oper} : ∀ (l : List Oper) (s : Nat), freeM md ops fl m k oi l s = true → ∀ j oj, l[j]? = some oj → (s + j == k || m.testBit (s + j) || (suitsO fl k (s + j) && oi.apart ops oj) || waitsUp md ops ops.size (s + j) k) = true
  | [], _, _, j, oj, hj => by simp at hj
  | o :: r, s, h, j, oj, hj => by
    simp only [freeM, Bool.and_eq_true] at h
    cases j with
    | zero => simp at hj; subst hj; exact h.1
    | succ j =>
      have := freeM_spec r (s + 1) h.2 j oj (by simpa using hj)
      rw [show s + (j + 1) = s + 1 + j by omega]
      exact this
def chk (md : Region.Mode) (ops : Array Oper) (fl : Nat → Nat) : List Nat → Nat → Bool
  | [], m => (List.range ops.size).all fun j => m.testBit j
  | k :: ks, m => !m.testBit k && (match ops[k]? with
      | none => false
      | some oi => (oi.after.all fun e => !Region.binds md e || m.testBit e.on) && freeM md ops fl m k oi ops.toList 0) && chk md ops fl ks (m ||| 2 ^ k)
theorem chk_spec {fl : Nat → Nat} : ∀ (l : List Nat) (m : Nat) (listed : Array Bool), listed.size = ops.size → (∀ j, m.testBit j = listed.getD j false) → chk md ops fl l m = true → ordFrom md ops fl l listed = true
  | [], m, listed, hs, hm, h => by
    simp only [chk, List.all_eq_true, List.mem_range] at h
    simp only [ordFrom, List.isEmpty_iff, Region.ready, List.filter_eq_nil_iff, List.mem_range]
    intro i hi hh
    have h1 := h i hi
    rw [hm] at h1
    have h2 : i < listed.size := by omega
    simp [Array.getD, h2] at h1 hh
    rw [h1] at hh
    cases hh.1
  | k :: ks, m, listed, hs, hm, h => by
    simp only [chk, Bool.and_eq_true] at h
    obtain ⟨⟨h1, h2⟩, h3⟩ := h
    cases ho : ops[k]? with
    | none => rw [ho] at h2; cases h2
    | some oi =>
      rw [ho] at h2
      simp only [Bool.and_eq_true] at h2
      obtain ⟨h2, h4⟩ := h2
      have hk : k < ops.size := (Array.getElem?_eq_some_iff.1 ho).1
      have hks : k < listed.size := by omega
      have hkf : listed.getD k true = false := by
        have : m.testBit k = false := by simpa using h1
        rw [hm] at this
        simp [Array.getD, hks] at this ⊢
        exact this
      simp only [ordFrom, Bool.and_eq_true, List.contains_iff_mem]
      refine ⟨⟨mem_ready.2 ⟨hkf, oi, ho, fun e he hb => ?_⟩, ?_⟩, chk_spec ks (m ||| 2 ^ k) _ (by simpa using hs) (fun j => ?_) h3⟩
      · rw [Array.all_eq_true] at h2
        obtain ⟨q, hq, rfl⟩ := Array.mem_iff_getElem.1 he
        have := h2 q hq
        rw [hb, hm] at this
        simpa using this
      · simp only [freeO, ho, List.all_eq_true, List.mem_range]
        intro j hj
        have hoj : ops.toList[j]? = some ops[j] := by simp [hj]
        have h5 := freeM_spec ops.toList 0 h4 j ops[j] hoj
        rw [Nat.zero_add] at h5
        have hjl : j < listed.size := by omega
        rw [Array.getElem?_eq_getElem hj]
        simp only [Bool.or_eq_true, Bool.and_eq_true] at h5 ⊢
        rcases h5 with ((h5 | h5) | h5) | h5
        · exact .inl (.inl h5)
        · rw [hm] at h5
          refine .inl (.inr ?_)
          simp [Array.getD, hjl] at h5 ⊢
          exact h5
        · exact .inr (.inr ⟨h5.2, h5.1⟩)
        · exact .inr (.inl (waitsUp_spec _ _ _ h5))
      · rw [Nat.testBit_or, Nat.testBit_two_pow, hm]
        by_cases e : k = j
        · subst e; simp [Array.getD, hks]
        · by_cases hj : j < listed.size
          · simp [Array.getD, hj, e, Array.getElem_setIfInBounds]
          · simp [Array.getD, hj, e]
def ordM (md : Region.Mode) (ops : Array Oper) (l ord : List Nat) : Bool := Region.noSelect ops && noDefer ops && ord.length == ops.size && chk md ops (flOf l) ord 0
theorem ordM_spec {l ord : List Nat} (h : ordM md ops l ord = true) : ordB md ops l ord = true := by
  simp only [ordM, ordB, Bool.and_eq_true] at h ⊢
  refine ⟨h.1, chk_spec ord 0 _ (by simp) (fun j => ?_) h.2⟩
  rw [getD_replicate_false', Nat.zero_testBit]
theorem wp_region_ordM {id : Nat} {Q : Exit → Act → World → Prop} {a : Act} {w : World} {l : List Oper} (fl ord : List Nat) (hm : P.follows .mixedOrders = true) (hB : ordM .any l.toArray fl ord = true)
    (h : wpOrd P l.toArray (flOf fl) (fun a' w' => Q .normal a' w') ord a w.drew) : (Code.region id l.toArray true).wp P Q a w :=
  wp_region_ord fl ord hm (ordM_spec hB) h
end
end Go.Proofs.YtffehdfddkgggaaDoor.Rt

/- A region that draws, told as a tree: one operation ahead of all others where that is as good, else each of those that may come next. -/
namespace Go.Proofs.YtffehdfddkgggaaDoor.Rt
open Go Go.RowKit
set_option linter.unusedSectionVars false
set_option linter.unusedVariables false
inductive OT where
  | fin
  | op (k : Nat) (t : OT)
  | two (k1 : Nat) (t1 : OT) (k2 : Nat) (t2 : OT)
  | three (k1 : Nat) (t1 : OT) (k2 : Nat) (t2 : OT) (k3 : Nat) (t3 : OT)
def OT.len : OT → Nat
  | .fin => 0
  | .op _ t => t.len + 1
  | .two _ t1 _ _ => t1.len + 1
  | .three _ t1 _ _ _ _ => t1.len + 1
section
variable {P : Program} {ops : Array Oper} {md : Region.Mode}
def chkT (md : Region.Mode) (ops : Array Oper) (fl : Nat → Nat) : OT → Array Bool → Bool
  | .fin, listed => (Region.ready md ops listed).isEmpty
  | .op k t, listed => (Region.ready md ops listed).contains k && freeO md ops fl listed k && chkT md ops fl t (listed.setIfInBounds k true)
  | .two k1 t1 k2 t2, listed => (Region.ready md ops listed).contains k1 && (Region.ready md ops listed).all (fun i => i == k1 || i == k2) && t2.len == t1.len && chkT md ops fl t1 (listed.setIfInBounds k1 true) && chkT md ops fl t2 (listed.setIfInBounds k2 true)
  | .three k1 t1 k2 t2 k3 t3, listed => (Region.ready md ops listed).contains k1 && (Region.ready md ops listed).all (fun i => i == k1 || i == k2 || i == k3) && t2.len == t1.len && t3.len == t1.len && chkT md ops fl t1 (listed.setIfInBounds k1 true) && chkT md ops fl t2 (listed.setIfInBounds k2 true) && chkT md ops fl t3 (listed.setIfInBounds k3 true)
def wpT (P : Program) (ops : Array Oper) (fl : Nat → Nat) (Q : Act → World → Prop) : OT → Act → World → Prop
  | .fin, a, w => Q a w
  | .op k t, a, w => wpOrd P ops fl (wpT P ops fl Q t) [k] a w
  | .two k1 t1 k2 t2, a, w => wpOrd P ops fl (wpT P ops fl Q t1) [k1] a w ∧ wpOrd P ops fl (wpT P ops fl Q t2) [k2] a w
  | .three k1 t1 k2 t2 k3 t3, a, w => wpOrd P ops fl (wpT P ops fl Q t1) [k1] a w ∧ wpOrd P ops fl (wpT P ops fl Q t2) [k2] a w ∧ wpOrd P ops fl (wpT P ops fl Q t3) [k3] a w
theorem tree_op {fl : Nat → Nat} {Q : Act → World → Prop} {k : Nat} {t : OT} {a : Act} {w : World} (h : wpOrd P ops fl (wpT P ops fl Q t) [k] a w) : wpT P ops fl Q (.op k t) a w := h
theorem tree_fin {fl : Nat → Nat} {Q : Act → World → Prop} {a : Act} {w : World} (h : Q a w) : wpT P ops fl Q .fin a w := h
theorem tree_two {fl : Nat → Nat} {Q : Act → World → Prop} {k1 k2 : Nat} {t1 t2 : OT} {a : Act} {w : World} (h1 : wpOrd P ops fl (wpT P ops fl Q t1) [k1] a w) (h2 : wpOrd P ops fl (wpT P ops fl Q t2) [k2] a w) : wpT P ops fl Q (.two k1 t1 k2 t2) a w := ⟨h1, h2⟩
theorem tree_three {fl : Nat → Nat} {Q : Act → World → Prop} {k1 k2 k3 : Nat} {t1 t2 t3 : OT} {a : Act} {w : World} (h1 : wpOrd P ops fl (wpT P ops fl Q t1) [k1] a w) (h2 : wpOrd P ops fl (wpT P ops fl Q t2) [k2] a w) (h3 : wpOrd P ops fl (wpT P ops fl Q t3) [k3] a w) : wpT P ops fl Q (.three k1 t1 k2 t2 k3 t3) a w := ⟨h1, h2, h3⟩
theorem wpAnyO_tree {fl : Nat → Nat} {Q : Act → World → Prop} (hs : Region.noSelect ops = true) : ∀ (t : OT) (n : Nat) (listed : Array Bool) (a : Act) (w : World), t.len = n → Closed md ops listed →
    chkT md ops fl t listed = true → wpT P ops fl Q t a w → wpAnyO P md ops fl Q n listed a w
  | .fin, n, listed, a, w, hn, _, hB, h => by
    subst hn
    exact ⟨by simpa [chkT] using hB, h⟩
  | .op k t, n, listed, a, w, hn, hcl, hB, h => by
    subst hn
    simp only [chkT, Bool.and_eq_true] at hB
    obtain ⟨⟨hr, hf⟩, hB'⟩ := hB
    have hr' : k ∈ Region.ready md ops listed := by simpa using hr
    obtain ⟨_, o, h0, _⟩ := mem_ready.1 hr'
    refine wpAnyO_first h0 (Region.noSelect_spec hs) t.len listed a w hcl (freeO_spec h0 hf) hr' ?_
    exact stepO_mono (fun a' w' h' => wpAnyO_tree hs t _ _ a' w' rfl (hcl.set hr') hB' h') h
  | .two k1 t1 k2 t2, n, listed, a, w, hn, hcl, hB, h => by
    subst hn
    simp only [chkT, Bool.and_eq_true, beq_iff_eq] at hB
    obtain ⟨⟨⟨⟨hr, hall⟩, hl2⟩, hB1⟩, hB2⟩ := hB
    obtain ⟨h1, h2⟩ := h
    refine ⟨fun e => by rw [e] at hr; simp at hr, fun i hi => ?_⟩
    have := List.all_eq_true.1 hall i hi
    simp only [Bool.or_eq_true, beq_iff_eq] at this
    rcases this with rfl | rfl
    · exact stepO_mono (fun a' w' h' => wpAnyO_tree hs t1 _ _ a' w' rfl (hcl.set hi) hB1 h') h1
    · exact stepO_mono (fun a' w' h' => wpAnyO_tree hs t2 _ _ a' w' hl2 (hcl.set hi) hB2 h') h2
  | .three k1 t1 k2 t2 k3 t3, n, listed, a, w, hn, hcl, hB, h => by
    subst hn
    simp only [chkT, Bool.and_eq_true, beq_iff_eq] at hB
    obtain ⟨⟨⟨⟨⟨⟨hr, hall⟩, hl2⟩, hl3⟩, hB1⟩, hB2⟩, hB3⟩ := hB
    obtain ⟨h1, h2, h3⟩ := h
    refine ⟨fun e => by rw [e] at hr; simp at hr, fun i hi => ?_⟩
    have := List.all_eq_true.1 hall i hi
    simp only [Bool.or_eq_true, beq_iff_eq] at this
    rcases this with (rfl | rfl) | rfl
    · exact stepO_mono (fun a' w' h' => wpAnyO_tree hs t1 _ _ a' w' rfl (hcl.set hi) hB1 h') h1
    · exact stepO_mono (fun a' w' h' => wpAnyO_tree hs t2 _ _ a' w' hl2 (hcl.set hi) hB2 h') h2
    · exact stepO_mono (fun a' w' h' => wpAnyO_tree hs t3 _ _ a' w' hl3 (hcl.set hi) hB3 h') h3
def treeB (md : Region.Mode) (ops : Array Oper) (l : List Nat) (t : OT) : Bool := Region.noSelect ops && noDefer ops && t.len == ops.size && chkT md ops (flOf l) t (Array.replicate ops.size false)
/-- A REGION THAT DRAWS, TOLD AS A TREE. -/
theorem wp_region_tree {id : Nat} {Q : Exit → Act → World → Prop} {a : Act} {w : World} {l : List Oper} (fl : List Nat) (t : OT) (hm : P.follows .mixedOrders = true) (hB : treeB .any l.toArray fl t = true)
    (h : wpT P l.toArray (flOf fl) (fun a' w' => Q .normal a' w') t a w.drew) : (Code.region id l.toArray true).wp P Q a w := by
  simp only [treeB, Bool.and_eq_true, beq_iff_eq] at hB
  have := wpAnyO_tree (P := P) (md := .any) (Q := fun a' w' => Q .normal a' w') hB.1.1.1 t l.toArray.size (Array.replicate l.toArray.size false) a w.drew hB.1.2 (fun m om _ h => by rw [getD_replicate_false'] at h; cases h) hB.2 h
  exact Code.wp_mono nq_sub (wp_region_any hm (by simpa using wpAny_of_O _ _ _ _ this))
end
end Go.Proofs.YtffehdfddkgggaaDoor.Rt
