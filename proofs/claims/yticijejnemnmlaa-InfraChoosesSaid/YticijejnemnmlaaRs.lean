/- A region that draws, told in two ways: up to where two operations that make memory stand beside each other in one order, from there on with either of them first. -/
import Derived.Test.YticijejnemnmlaaRo
namespace Go.Proofs.Yticijejnemnmlaa.Rt
open Go Go.RowKit
set_option linter.unusedSectionVars false
set_option linter.unusedVariables false
section
variable {P : Program} {ops : Array Oper} {md : Region.Mode}
def altB (md : Region.Mode) (ops : Array Oper) (fl : Nat → Nat) (listed : Array Bool) : List Nat → Bool
  | [] => false
  | k :: ks => (Region.ready md ops listed).contains k && ordFrom md ops fl ks (listed.setIfInBounds k true)
def splitFrom (md : Region.Mode) (ops : Array Oper) (fl : Nat → Nat) (l1 l2 : List Nat) : List Nat → Array Bool → Bool
  | [], listed => (Region.ready md ops listed).all (fun i => l1.head? == some i || l2.head? == some i) && altB md ops fl listed l1 && altB md ops fl listed l2
  | k :: ks, listed => (Region.ready md ops listed).contains k && freeO md ops fl listed k && splitFrom md ops fl l1 l2 ks (listed.setIfInBounds k true)
theorem wpAnyO_alt {fl : Nat → Nat} {Q : Act → World → Prop} (hs : Region.noSelect ops = true) {l : List Nat} {listed : Array Bool} {a : Act} {w : World} (hcl : Closed md ops listed) (hB : altB md ops fl listed l = true) (h : wpOrd P ops fl Q l a w) {i n : Nat} (hi : l.head? = some i) (hn : l.length = n + 1) :
    stepO P ops fl i (wpAnyO P md ops fl Q n (listed.setIfInBounds i true)) a w := by
  cases l with
  | nil => cases hi
  | cons k ks =>
    obtain rfl : k = i := by simpa using hi
    simp only [altB, Bool.and_eq_true] at hB
    have hr : k ∈ Region.ready md ops listed := by simpa using hB.1
    obtain rfl : ks.length = n := by simpa using hn
    exact stepO_mono (fun a' w' h' => wpAnyO_ord hs ks _ a' w' (hcl.set hr) hB.2 h') h
theorem wpAnyO_split {fl : Nat → Nat} {Q : Act → World → Prop} {l1 l2 : List Nat} (hs : Region.noSelect ops = true) {n : Nat} (h1 : l1.length = n + 1) (h2 : l2.length = n + 1) : ∀ (l : List Nat) (listed : Array Bool) (a : Act) (w : World), Closed md ops listed →
    splitFrom md ops fl l1 l2 l listed = true → wpOrd P ops fl (fun a w => wpOrd P ops fl Q l1 a w ∧ wpOrd P ops fl Q l2 a w) l a w → wpAnyO P md ops fl Q (l.length + (n + 1)) listed a w
  | [], listed, a, w, hcl, hB, h => by
    simp only [splitFrom, Bool.and_eq_true] at hB
    obtain ⟨⟨hr, hB1⟩, hB2⟩ := hB
    obtain ⟨hh1, hh2⟩ : wpOrd P ops fl Q l1 a w ∧ wpOrd P ops fl Q l2 a w := h
    rw [List.length_nil, Nat.zero_add]
    refine ⟨fun e => ?_, fun i hi => ?_⟩
    · cases l1 with
      | nil => cases h1
      | cons k ks =>
        simp only [altB, Bool.and_eq_true] at hB1
        rw [e] at hB1
        exact absurd hB1.1 (by simp)
    · have := List.all_eq_true.1 hr i hi
      simp only [Bool.or_eq_true, beq_iff_eq] at this
      rcases this with e | e
      · exact wpAnyO_alt hs hcl hB1 hh1 e h1
      · exact wpAnyO_alt hs hcl hB2 hh2 e h2
  | k :: l, listed, a, w, hcl, hB, h => by
    simp only [splitFrom, Bool.and_eq_true] at hB
    obtain ⟨⟨hr, hf⟩, hB'⟩ := hB
    have hr' : k ∈ Region.ready md ops listed := by simpa using hr
    obtain ⟨_, o, h0, _⟩ := mem_ready.1 hr'
    rw [show (k :: l).length + (n + 1) = (l.length + (n + 1)) + 1 by simp; omega]
    refine wpAnyO_first h0 (Region.noSelect_spec hs) (l.length + (n + 1)) listed a w hcl (freeO_spec h0 hf) hr' ?_
    exact stepO_mono (fun a' w' h' => wpAnyO_split hs h1 h2 l _ a' w' (hcl.set hr') hB' h') h
def splitB (md : Region.Mode) (ops : Array Oper) (l pre l1 l2 : List Nat) : Bool := Region.noSelect ops && noDefer ops && pre.length + l1.length == ops.size && l1.length == l2.length && !l1.isEmpty && splitFrom md ops (flOf l) l1 l2 pre (Array.replicate ops.size false)
/-- A REGION THAT DRAWS, TOLD IN TWO WAYS FROM A PLACE ON. -/
theorem wp_region_split {id : Nat} {Q : Exit → Act → World → Prop} {a : Act} {w : World} {l : List Oper} (fl pre l1 l2 : List Nat) (hm : P.follows .mixedOrders = true) (hB : splitB .any l.toArray fl pre l1 l2 = true)
    (h : wpOrd P l.toArray (flOf fl) (fun a w => wpOrd P l.toArray (flOf fl) (fun a' w' => Q .normal a' w') l1 a w ∧ wpOrd P l.toArray (flOf fl) (fun a' w' => Q .normal a' w') l2 a w) pre a w.drew) : (Code.region id l.toArray true).wp P Q a w := by
  simp only [splitB, Bool.and_eq_true, beq_iff_eq, Bool.not_eq_true', List.isEmpty_eq_false_iff] at hB
  obtain ⟨⟨⟨⟨⟨b1, b2⟩, b3⟩, b4⟩, b5⟩, b6⟩ := hB
  obtain ⟨n, hn⟩ : ∃ n, l1.length = n + 1 := ⟨l1.length - 1, by have := List.length_pos_iff.2 b5; omega⟩
  have := wpAnyO_split (P := P) (md := .any) (Q := fun a' w' => Q .normal a' w') b1 hn (b4 ▸ hn) pre (Array.replicate l.toArray.size false) a w.drew (fun m om _ h => by rw [getD_replicate_false'] at h; cases h) b6 h
  rw [← hn, b3] at this
  exact Code.wp_mono nq_sub (wp_region_any hm (by simpa using wpAny_of_O _ _ _ _ this))
end
end Go.Proofs.Yticijejnemnmlaa.Rt
