/- The table against the list of its keys and values. -/
import Derived.Test.YticijejnemnmlaaInT
namespace Go.Proofs.Yticijejnemnmlaa.If
open Go.RowKit Rt
set_option linter.unusedSimpArgs false
set_option linter.unusedVariables false
abbrev KV := Ad × Sv
def lookV (l : List KV) (k : Ad) : Option Sv := (l.find? (fun p => decide (p.1 = k))).map (·.2)
def delK (l : List KV) (k : Ad) : List KV := l.filter (fun p => decide (p.1 ≠ k))
theorem lookV_no {l : List KV} {k : Ad} (h : ∀ p ∈ l, p.1 ≠ k) : lookV l k = none := by
  unfold lookV
  rw [List.find?_eq_none.2 (fun p hp => by simpa using h p hp)]; rfl
theorem delK_no {l : List KV} {k : Ad} (h : ∀ p ∈ l, p.1 ≠ k) : delK l k = l := List.filter_eq_self.2 fun p hp => by simpa using h p hp
theorem lookV_yes {A B : List KV} {p : KV} (h : ∀ q ∈ A ++ B, q.1 ≠ p.1) : lookV (A ++ p :: B) p.1 = some p.2 := by
  unfold lookV
  rw [List.find?_append, List.find?_eq_none.2 (fun q hq => by simpa using h q (List.mem_append_left _ hq))]
  simp
theorem delK_yes {A B : List KV} {p : KV} (h : ∀ q ∈ A ++ B, q.1 ≠ p.1) : delK (A ++ p :: B) p.1 = A ++ B := by
  have hA : delK A p.1 = A := delK_no fun q hq => h q (List.mem_append_left _ hq)
  have hB : delK B p.1 = B := delK_no fun q hq => h q (List.mem_append_right _ hq)
  unfold delK at *
  rw [List.filter_append, List.filter_cons, hA, hB]
  simp
theorem delK_length_le (l : List KV) (k : Ad) : (delK l k).length ≤ l.length := List.length_filter_le _ _
/-- The table: its keys and values in their order. -/
structure TabS (w : World) (S : Nat → Prop) (tb bm : Nat) (most : Nat) (l : List KV) : Prop where
  ex : ∃ L : List Nd, L.map (·.2) = l ∧ TabL w tb bm (most : Int) L ∧ ∀ x, MineL tb bm L x → S x
  len : l.length ≤ most
  m1 : 1 ≤ most
  m2 : most ≤ 100000
  slt : ∀ x, S x → x < w.heap.size
section
variable {w w' : World} {S : Nat → Prop} {tb bm most : Nat} {l : List KV} {k : Ad}
theorem TabL.cases {most : Int} {L : List Nd} (h : TabL w tb bm most L) (k : Ad) : (∀ p ∈ L, p.2.1 ≠ k) ∨ ∃ A p B, L = A ++ p :: B ∧ p.2.1 = k ∧ ∀ q ∈ A ++ B, q.2.1 ≠ p.2.1 := by
  by_cases hk : ∃ p ∈ L, p.2.1 = k
  · obtain ⟨p, hp, hpk⟩ := hk
    obtain ⟨A, B, rfl⟩ := List.append_of_mem hp
    obtain ⟨f, _, _, _, hno⟩ := h.find
    exact .inr ⟨A, p, B, rfl, hpk, hno⟩
  · exact .inl fun p hp e => hk ⟨p, hp, e⟩
theorem TabS.keep (h : TabS w S tb bm most l) (hb : ∀ x, S x → w'.heap[x]? = w.heap[x]?) (hs : w.heap.size ≤ w'.heap.size) : TabS w' S tb bm most l := by
  obtain ⟨L, h1, h2, h3⟩ := h.ex
  exact ⟨⟨L, h1, h2.keep fun x hx => hb x (h3 x hx), h3⟩, h.len, h.m1, h.m2, fun x hx => Nat.lt_of_lt_of_le (h.slt x hx) hs⟩
theorem TabS.below (h : TabS w S tb bm most l) (hb : Below w.heap.size w w') : TabS w' S tb bm most l := h.keep (fun x hx => hb.block x (h.slt x hx)) hb.size
theorem TabS.kept (h : TabS w S tb bm most l) {R : Nat → Prop} (hb : Kept R w w') (hs : ∀ x, S x → ¬ R x) : TabS w' S tb bm most l := h.keep (fun x hx => hb.block x (h.slt x hx) (hs x hx)) hb.size
theorem TabS.drew (h : TabS w S tb bm most l) : TabS w.drew S tb bm most l := h.keep (fun _ _ => rfl) (Nat.le_refl _)
/-- Its blocks are only its own, old and new ones. -/
def Later (S S' : Nat → Prop) (w w' : World) : Prop := ∀ x, S' x → S x ∨ w.heap.size ≤ x
theorem New_S (w : World) (most : Nat) (h1 : 1 ≤ most) (h2 : most ≤ 100000) : Calls Try.prog 22 #[.int .i64 (most : Int)] w fun e w' =>
    ∃ tb bm S, e = .returned (.tuple #[.pointer (some ⟨tb, 0, none⟩), .int .i64 0]) ∧ TabS w' S tb bm most [] ∧ (∀ x, S x → w.heap.size ≤ x) ∧ Below w.heap.size w w' := by
  refine (New_any w (most : Int) (by omega) (by omega)).mono ?_
  rintro e w' ⟨rfl, hT, hb, hs⟩
  refine ⟨_, _, fun x => x = w.heap.size + 1 ∨ x = w.heap.size, rfl, ⟨⟨[], rfl, hT, ?_⟩, Nat.zero_le _, h1, h2, ?_⟩, ?_, hb⟩
  · intro x hx; unfold MineL at hx; simpa using hx
  · intro x hx; rcases hx with rfl | rfl <;> omega
  · intro x hx; rcases hx with rfl | rfl <;> omega
theorem Len_S (h : TabS w S tb bm most l) : Calls Try.prog 44 #[.pointer (some ⟨tb, 0, none⟩)] w fun e w' => e = .returned (.int .i64 (l.length : Int)) ∧ w' = w := by
  obtain ⟨L, rfl, h2, h3⟩ := h.ex
  rw [List.length_map]
  exact Len_any h2
theorem Look_S (h : TabS w S tb bm most l) (hk : k.ok) :
    Calls Try.prog 38 #[.pointer (some ⟨tb, 0, none⟩), k.val] w fun e w' => e = .returned (.tuple #[((lookV l k).getD zeroS).val, .bool (lookV l k).isSome]) ∧ Below w.heap.size w w' := by
  obtain ⟨L, rfl, h2, h3⟩ := h.ex
  rcases h2.cases k with hno | ⟨A, p, B, rfl, rfl, hno⟩
  · rw [lookV_no (fun q hq => by obtain ⟨p, hp, rfl⟩ := List.mem_map.1 hq; exact hno p hp)]
    exact Look_no h2 hk hno
  · have hno' : ∀ q ∈ A.map (·.2) ++ B.map (·.2), q.1 ≠ p.2.1 := fun q hq => by
      rw [← List.map_append] at hq; obtain ⟨r, hr, rfl⟩ := List.mem_map.1 hq; exact hno r hr
    rw [List.map_append, List.map_cons, lookV_yes hno']
    exact Look_yes h2 (by simp)
theorem TabS.after (h : TabS w S tb bm most l) {L L' : List Nd} (hS : ∀ x, MineL tb bm L x → S x) (hL : TabL w' tb bm (most : Int) L') (hm : ∀ x, x ∈ L'.map (·.1) → x ∈ L.map (·.1) ∨ w.heap.size ≤ x) (hlen : L'.length ≤ most) (hk : Kept (MineL tb bm L) w w') :
    ∃ S', TabS w' S' tb bm most (L'.map (·.2)) ∧ Later S S' w w' ∧ Kept S w w' := by
  refine ⟨fun x => S x ∨ (w.heap.size ≤ x ∧ x < w'.heap.size), ⟨⟨L', rfl, hL, ?_⟩, by rw [List.length_map]; exact hlen, h.m1, h.m2, ?_⟩, fun x hx => hx.imp id (·.1), hk.mono fun x _ hx => hS x hx⟩
  · intro x hx
    rcases hx with e | e | e
    · exact .inl (hS x (.inl e))
    · exact .inl (hS x (.inr (.inl e)))
    · rcases hm x e with e2 | e2
      · exact .inl (hS x (.inr (.inr e2)))
      · exact .inr ⟨e2, hL.lt x (.inr (.inr e))⟩
  · intro x hx
    rcases hx with e | e
    · exact Nat.lt_of_lt_of_le (h.slt x e) hk.size
    · exact e.2
theorem Put_S (h : TabS w S tb bm most l) (hk : k.ok) (v : Sv) (hroom : (lookV l k).isSome = true ∨ l.length < most) :
    Calls Try.prog 45 #[.pointer (some ⟨tb, 0, none⟩), k.val, v.val] w fun e w' => (∃ u, e = .returned u) ∧ ∃ S', TabS w' S' tb bm most ((k, v) :: delK l k) ∧ Later S S' w w' ∧ Kept S w w' := by
  obtain ⟨L, rfl, h2, h3⟩ := h.ex
  have hlen := h.len
  have hm1 := h.m1
  have hm2 := h.m2
  rcases h2.cases k with hno | ⟨A, p, B, rfl, rfl, hno⟩
  · have hno' : ∀ q ∈ L.map (·.2), q.1 ≠ k := fun q hq => by obtain ⟨p, hp, rfl⟩ := List.mem_map.1 hq; exact hno p hp
    rw [lookV_no hno'] at hroom
    rw [delK_no hno']
    rw [List.length_map] at hroom hlen
    have hf : L.length < most := by simpa using hroom
    refine (Put_new h2 (by omega) (by omega) hk hno v).mono fun e w' ⟨he, h4, h5⟩ => ⟨he, ?_⟩
    exact h.after (L := L) h3 h4 (fun x hx => by rcases List.mem_cons.1 hx with e | e; exact .inr (by rw [e]; show w.heap.size ≤ w.heap.size + 3; omega); exact .inl e) (by simp; omega) h5
  · have hno' : ∀ q ∈ A.map (·.2) ++ B.map (·.2), q.1 ≠ p.2.1 := fun q hq => by
      rw [← List.map_append] at hq; obtain ⟨r, hr, rfl⟩ := List.mem_map.1 hq; exact hno r hr
    rw [List.map_append, List.map_cons, delK_yes hno']
    rw [List.length_map] at hlen
    refine (Put_yes h2 (by omega) v).mono fun e w' ⟨he, h4, h5⟩ => ⟨he, ?_⟩
    have := h.after (L := A ++ p :: B) h3 h4 (fun x hx => .inl (by simp only [List.map_append, List.map_cons, List.mem_append, List.mem_cons] at hx ⊢; rcases hx with e | e | e; exact .inr (.inl e); exact .inl e; exact .inr (.inr e))) (by simp at hlen ⊢; omega) h5
    rw [List.map_cons, List.map_append] at this
    exact this
end
end Go.Proofs.Yticijejnemnmlaa.If
