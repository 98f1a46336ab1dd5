/- The table's map, from texts to nodes. -/
import Derived.Test.YtmgapdbfaoflmaaTmA
import Derived.StringKeys
namespace Go.Proofs.Ytmgapdbfaoflmaa.Tb
open Go.RowKit Rt Tm
set_option linter.unusedSimpArgs false
set_option linter.unusedVariables false
theorem K9 : Maps.Keyed Try.prog 9 := Maps.string_keyed Try.underlying9
theorem zero91 (w : World) : (zeroValue 91).run Try.prog w = .ok (.pointer none) w := by kernel_rfl
def kl (k : ByteArray) : Lit := .string k.data.toList
theorem kl_inj {a b : ByteArray} (h : kl a = kl b) : a = b := by
  unfold kl at h
  have h := Lit.string.inj h
  cases a; cases b
  simp at h
  simp [h]
theorem key9 {k : ByteArray} (h : k.size ≤ maxLen) : keyOf Try.prog 9 (.string k) = some (kl k) := WideMaps.keyOf_string_mk Try.underlying9 h
def readP : Value → Option (DataW Unit × List MemPlace)
  | .pointer none => some (.lit (.int .i64 0), [])
  | .pointer (some ⟨b, 0, none⟩) => some (.lit (.int .i64 ((b : Int) + 1)), [])
  | _ => none
theorem readP_none : readP (.pointer none) = some (.lit (.int .i64 0), []) := rfl
theorem readP_some (b : Nat) : readP (.pointer (some ⟨b, 0, none⟩)) = some (.lit (.int .i64 ((b : Int) + 1)), []) := rfl
theorem readP_inv {v : Value} {x : Int} {ps} (h : readP v = some (.lit (.int .i64 x), ps)) : (x = 0 ∧ v = .pointer none) ∨ ∃ b : Nat, x = (b : Int) + 1 ∧ v = .pointer (some ⟨b, 0, none⟩) := by
  unfold readP at h
  split at h
  · simp at h; exact .inl ⟨h.1.symm, rfl⟩
  · simp at h; exact .inr ⟨_, h.1.symm, rfl⟩
  · cases h
/-- The node's address. -/
def nod (j : Nat) : Value := .pointer (some ⟨j, 0, none⟩)
def nodO : Option Nat → Value
  | none => .pointer none
  | some j => nod j
def updK (f : ByteArray → Option Nat) (k : ByteArray) (v : Option Nat) (x : ByteArray) : Option Nat := if x = k then v else f x
def MapSP (w : World) (b n : Nat) (f : ByteArray → Option Nat) : Prop :=
  ∃ D : DataW Unit, w.ownsMap Try.prog 9 readP b n D ∧ Maps.size D = n ∧ ∀ k : ByteArray, k.size ≤ maxLen → Maps.has D (kl k) = (f k).isSome ∧ ∀ j, f k = some j → D.atKey (kl k) (.lit (.int .i64 0)) = .lit (.int .i64 ((j : Int) + 1))
section
variable {w w' : World} {b n : Nat} {f : ByteArray → Option Nat}
theorem MapSP.lt (h : MapSP w b n f) : b < w.heap.size := by obtain ⟨D, h, _⟩ := h; exact h.lt
theorem MapSP.keep (h : MapSP w b n f) (hb : w'.heap[b]? = w.heap[b]?) : MapSP w' b n f := by
  obtain ⟨D, ⟨es, clock, h1, h2⟩, h3⟩ := h
  exact ⟨D, ⟨es, clock, hb.trans h1, h2⟩, h3⟩
theorem MapSP.made (w : World) : MapSP (w.alloc (.map #[] 0)) w.heap.size 0 (fun _ => none) :=
  ⟨.map [], World.ownsMap_made _ _ _ _, rfl, fun k _ => ⟨rfl, fun j h => by cases h⟩⟩
theorem MapSP.notCell (h : MapSP w b n f) (o : Nat) : w.cell? ⟨b, o, none⟩ = none := by
  obtain ⟨D, ⟨es, clock, h1, h2⟩, h3⟩ := h
  simp [World.cell?, h1]
theorem MapSP.len (h : MapSP w b n f) (ty : TypeId) : (Builtin.len_ #[90] ty #[.map (some b)]).run Try.prog w = .ok (.int .i64 (n : Int)) w := by
  obtain ⟨D, h1, hs, h2⟩ := h
  rw [h1.len Try.underlying90 ty, hs]
theorem MapSP.look (h : MapSP w b n f) {k : ByteArray} (hk : k.size ≤ maxLen) : (Instr.lookup 90 (.map (some b)) (.string k) true).run Try.prog w = .ok (.tuple #[nodO (f k), .bool (f k).isSome]) w := by
  obtain ⟨D, h1, _, h2⟩ := h
  obtain ⟨v, ps, hrun, hv⟩ := h1.look_ok (t := 90) K9 Try.underlying90 (zero91 w) readP_none (key9 hk)
  rw [hrun, (h2 k hk).1]
  cases hf : f k with
  | none =>
    have h3 := (h2 k hk).1
    rw [hf] at h3
    rw [Maps.atKey_of_not_has h3] at hv
    rcases readP_inv hv with ⟨_, rfl⟩ | ⟨b, e, _⟩
    · rfl
    · omega
  | some j =>
    rw [(h2 k hk).2 j hf] at hv
    rcases readP_inv hv with ⟨e, _⟩ | ⟨b, e, rfl⟩
    · omega
    · obtain rfl : b = j := by omega
      rfl
theorem MapSP.put1 (h : MapSP w b n f) {k : ByteArray} (hk : k.size ≤ maxLen) (j : Nat) (hn : n < maxLen) :
    ∃ w2, (Instr.mapUpdate 90 (.map (some b)) (.string k) (nod j)).run Try.prog w = .ok () w2 ∧
      MapSP w2 b (if (f k).isSome then n else n + 1) (updK f k (some j)) ∧ w.mapTurned w2 b := by
  obtain ⟨D, h1, hs, h2⟩ := h
  obtain ⟨w2, r2, r3, r4⟩ := h1.store (t := 90) K9 Try.underlying90 hn (key9 hk) (readP_some j)
  have hT := h1.tidy K9
  have hsz := Maps.size_put (k := kl k) hT (.lit (.int .i64 ((j : Int) + 1)))
  rw [(h2 k hk).1, hs] at hsz
  refine ⟨w2, r2, ⟨_, hsz ▸ Tm.tight r3, hsz, fun x hx => ?_⟩, r4⟩
  unfold updK
  by_cases e : x = k
  · subst e
    rw [if_pos rfl]
    refine ⟨Maps.has_put_same hT.isMap (show WideAt.IsKeyLit (kl x) from trivial) _, fun i hi => ?_⟩
    cases hi
    exact Maps.atKey_put_same hT.isMap (show WideAt.IsKeyLit (kl x) from trivial) _ _
  · rw [if_neg e]
    have hne : kl x ≠ kl k := fun h => e (kl_inj h)
    exact ⟨(Maps.has_put_other hne _).trans (h2 x hx).1, fun i hi => (Maps.atKey_put_other hne _ _).trans ((h2 x hx).2 i hi)⟩
theorem MapSP.del (h : MapSP w b n f) {k : ByteArray} (hk : k.size ≤ maxLen) (hf : (f k).isSome = true) (ty : TypeId) :
    ∃ w', (Builtin.delete_ #[90, 9] ty #[.map (some b), .string k]).run Try.prog w = .ok (.tuple #[]) w' ∧ MapSP w' b (n - 1) (updK f k none) ∧ w.mapTurned w' b := by
  obtain ⟨D, h1, hs, h2⟩ := h
  obtain ⟨w', r1, r2, r3⟩ := h1.drop K9 Try.underlying90 (key9 hk) ty
  have hT := h1.tidy K9
  have hsz := Maps.size_del (k := kl k) hT
  rw [(h2 k hk).1, hf, if_pos rfl, hs] at hsz
  have hsz : Maps.size (D.del (kl k)) = n - 1 := by omega
  refine ⟨w', r1, ⟨_, hsz ▸ Tm.tight r2, hsz, fun x hx => ?_⟩, r3⟩
  unfold updK
  by_cases e : x = k
  · subst e
    rw [if_pos rfl]
    exact ⟨Maps.has_del_same, fun i hi => by cases hi⟩
  · rw [if_neg e]
    have hne : kl x ≠ kl k := fun h => e (kl_inj h)
    exact ⟨(Maps.has_del_other hne).trans (h2 x hx).1, fun i hi => (Maps.atKey_del_other hne _).trans ((h2 x hx).2 i hi)⟩
end
end Go.Proofs.Ytmgapdbfaoflmaa.Tb
