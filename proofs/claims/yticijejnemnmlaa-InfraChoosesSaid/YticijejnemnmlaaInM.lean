/- The table's map, from addresses to nodes. -/
import Derived.Test.YticijejnemnmlaaInA
namespace Go.Proofs.Yticijejnemnmlaa.If
open Go.RowKit Rt
set_option linter.unusedSimpArgs false
set_option linter.unusedVariables false
def readP : Value → Option (DataW Unit × List MemPlace)
  | .pointer none => some (.lit (.int .i64 0), [])
  | .pointer (some ⟨b, 0, none⟩) => some (.lit (.int .i64 ((b : Int) + 1)), [])
  | _ => none
theorem readP_none : readP (.pointer none) = some (.lit (.int .i64 0), []) := rfl
theorem readP_some (b : Nat) : readP (.pointer (some ⟨b, 0, none⟩)) = some (.lit (.int .i64 ((b : Int) + 1)), []) := rfl
theorem readP_inv {v : Value} {x : Int} {ps} (h : readP v = some (.lit (.int .i64 x), ps)) : (x = 0 ∧ v = .pointer none) ∨ ∃ b : Nat, x = (b : Int) + 1 ∧ v = .pointer (some ⟨b, 0, none⟩) := by
  unfold readP at h
  split at h
  · simp at h; exact .inl ⟨h.1.symm, rfl⟩
  · simp at h; exact .inr ⟨_, h.1.symm, rfl⟩
  · cases h
/-- The node's address. -/
def nod (j : Nat) : Value := .pointer (some ⟨j, 0, none⟩)
def nodO : Option Nat → Value
  | none => .pointer none
  | some j => nod j
def updK (f : Ad → Option Nat) (k : Ad) (v : Option Nat) (x : Ad) : Option Nat := if x = k then v else f x
def MapAP (w : World) (b n : Nat) (f : Ad → Option Nat) : Prop :=
  ∃ D : DataW Unit, w.ownsMap Try.prog 31 readP b n D ∧ Maps.size D = n ∧ ∀ k : Ad, k.ok → Maps.has D (kl k) = (f k).isSome ∧ ∀ j, f k = some j → D.atKey (kl k) (.lit (.int .i64 0)) = .lit (.int .i64 ((j : Int) + 1))
section
variable {w w' : World} {b n : Nat} {f : Ad → Option Nat}
theorem MapAP.lt (h : MapAP w b n f) : b < w.heap.size := by obtain ⟨D, h, _⟩ := h; exact h.lt
theorem MapAP.keep (h : MapAP w b n f) (hb : w'.heap[b]? = w.heap[b]?) : MapAP w' b n f := by
  obtain ⟨D, ⟨es, clock, h1, h2⟩, h3⟩ := h
  exact ⟨D, ⟨es, clock, hb.trans h1, h2⟩, h3⟩
theorem MapAP.made (w : World) : MapAP (w.alloc (.map #[] 0)) w.heap.size 0 (fun _ => none) :=
  ⟨.map [], World.ownsMap_made _ _ _ _, rfl, fun k _ => ⟨rfl, fun j h => by cases h⟩⟩
theorem MapAP.notCell (h : MapAP w b n f) (o : Nat) : w.cell? ⟨b, o, none⟩ = none := by
  obtain ⟨D, ⟨es, clock, h1, h2⟩, h3⟩ := h
  simp [World.cell?, h1]
theorem MapAP.len (h : MapAP w b n f) (ty : TypeId) : (Builtin.len_ #[87] ty #[.map (some b)]).run Try.prog w = .ok (.int .i64 (n : Int)) w := by
  obtain ⟨D, h1, hs, h2⟩ := h
  rw [h1.len Try.underlying87 ty, hs]
theorem MapAP.look (h : MapAP w b n f) {k : Ad} (hk : k.ok) : (Instr.lookup 87 (.map (some b)) k.val true).run Try.prog w = .ok (.tuple #[nodO (f k), .bool (f k).isSome]) w := by
  obtain ⟨D, h1, _, h2⟩ := h
  obtain ⟨v, ps, hrun, hv⟩ := h1.look_ok (t := 87) K31 Try.underlying87 (zero88 w) readP_none (key31' hk)
  rw [hrun, (h2 k hk).1]
  cases hf : f k with
  | none =>
    have h3 := (h2 k hk).1
    rw [hf] at h3
    rw [Maps.atKey_of_not_has h3] at hv
    rcases readP_inv hv with ⟨_, rfl⟩ | ⟨b, e, _⟩
    · rfl
    · omega
  | some j =>
    rw [(h2 k hk).2 j hf] at hv
    rcases readP_inv hv with ⟨e, _⟩ | ⟨b, e, rfl⟩
    · omega
    · obtain rfl : b = j := by omega
      rfl
theorem MapAP.put1 (h : MapAP w b n f) {k : Ad} (hk : k.ok) (j : Nat) (hn : n < maxLen) :
    ∃ w2, (Instr.mapUpdate 87 (.map (some b)) k.val (nod j)).run Try.prog w = .ok () w2 ∧
      MapAP w2 b (if (f k).isSome then n else n + 1) (updK f k (some j)) ∧ w.mapTurned w2 b := by
  obtain ⟨D, h1, hs, h2⟩ := h
  obtain ⟨w2, r2, r3, r4⟩ := h1.store (t := 87) K31 Try.underlying87 hn (key31' hk) (readP_some j)
  have hT := h1.tidy K31
  have hsz := Maps.size_put (k := kl k) hT (.lit (.int .i64 ((j : Int) + 1)))
  rw [(h2 k hk).1, hs] at hsz
  refine ⟨w2, r2, ⟨_, hsz ▸ tight r3, hsz, fun x hx => ?_⟩, r4⟩
  unfold updK
  by_cases e : x = k
  · subst e
    rw [if_pos rfl]
    refine ⟨Maps.has_put_same hT.isMap (kl_key hx) _, fun i hi => ?_⟩
    cases hi
    exact Maps.atKey_put_same hT.isMap (kl_key hx) _ _
  · rw [if_neg e]
    have hne : kl x ≠ kl k := fun h => e (kl_inj hx hk h)
    exact ⟨(Maps.has_put_other hne _).trans (h2 x hx).1, fun i hi => (Maps.atKey_put_other hne _ _).trans ((h2 x hx).2 i hi)⟩
theorem MapAP.del (h : MapAP w b n f) {k : Ad} (hk : k.ok) (hf : (f k).isSome = true) (ty : TypeId) :
    ∃ w', (Builtin.delete_ #[87, 31] ty #[.map (some b), k.val]).run Try.prog w = .ok (.tuple #[]) w' ∧ MapAP w' b (n - 1) (updK f k none) ∧ w.mapTurned w' b := by
  obtain ⟨D, h1, hs, h2⟩ := h
  obtain ⟨w', r1, r2, r3⟩ := h1.drop K31 Try.underlying87 (key31' hk) ty
  have hT := h1.tidy K31
  have hsz := Maps.size_del (k := kl k) hT
  rw [(h2 k hk).1, hf, if_pos rfl, hs] at hsz
  have hsz : Maps.size (D.del (kl k)) = n - 1 := by omega
  refine ⟨w', r1, ⟨_, hsz ▸ tight r2, hsz, fun x hx => ?_⟩, r3⟩
  unfold updK
  by_cases e : x = k
  · subst e
    rw [if_pos rfl]
    exact ⟨Maps.has_del_same, fun i hi => by cases hi⟩
  · rw [if_neg e]
    have hne : kl x ≠ kl k := fun h => e (kl_inj hx hk h)
    exact ⟨(Maps.has_del_other hne).trans (h2 x hx).1, fun i hi => (Maps.atKey_del_other hne _).trans ((h2 x hx).2 i hi)⟩
end
end Go.Proofs.Yticijejnemnmlaa.If
