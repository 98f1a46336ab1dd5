/- Words for the walks of chapter 12: blocks that are kept, maps of numbers, the timer in memory. -/
import Derived.Test.YtmgapdbfaoflmaaProg
import Derived.Test.YtmgapdbfaoflmaaRt
import Derived.Test.YtmgapdbfaoflmaaRo
import Derived.Test.YtmgapdbfaoflmaaTmS
import Derived.WalkKit
import Derived.OwnWalk
import Derived.Below
import Derived.Lib.Hide
import Derived.Laws.OwnMore
import Derived.Deep.AppendLies
import Derived.Maps.AppendAt
import Derived.Maps.OwnSet
import Derived.WalkSmall
import Derived.ArgAppend
import Derived.WideKeyEntry
namespace Go.Proofs.Ytmgapdbfaoflmaa.Tm
open Go.RowKit Rt
set_option linter.unusedSimpArgs false
set_option linter.unusedVariables false

/-- But for some blocks the world w' is as w was; the streams are as they were; no block has gone. -/
structure Kept (S : Nat → Prop) (w w' : World) : Prop where
  os : w'.os = w.os
  tape : w'.tape = w.tape
  output : w'.output = w.output
  size : w.heap.size ≤ w'.heap.size
  block : ∀ k, k < w.heap.size → ¬ S k → w'.heap[k]? = w.heap[k]?
theorem Kept.refl (S : Nat → Prop) (w : World) : Kept S w w := ⟨rfl, rfl, rfl, Nat.le_refl _, fun _ _ _ => rfl⟩
theorem Kept.trans {S : Nat → Prop} {a b c : World} (h : Kept S a b) (k : Kept S b c) : Kept S a c :=
  ⟨k.os.trans h.os, k.tape.trans h.tape, k.output.trans h.output, Nat.le_trans h.size k.size, fun i hi hs => (k.block i (Nat.lt_of_lt_of_le hi h.size) hs).trans (h.block i hi hs)⟩
theorem Kept.mono {S T : Nat → Prop} {a b : World} (h : Kept S a b) (hs : ∀ k, k < a.heap.size → S k → T k) : Kept T a b :=
  ⟨h.os, h.tape, h.output, h.size, fun i hi ht => h.block i hi (fun e => ht (hs i hi e))⟩
theorem Kept.of_below {S : Nat → Prop} {a b : World} (h : Below a.heap.size a b) : Kept S a b := ⟨h.os, h.tape, h.output, h.size, fun i hi _ => h.block i hi⟩
theorem Kept.below {S : Nat → Prop} {a b : World} {B : Nat} (h : Kept S a b) (hB : B ≤ a.heap.size) (hs : ∀ k, k < B → ¬ S k) : Below B a b := ⟨h.os, h.tape, h.output, h.size, fun i hi => h.block i (by omega) (hs i hi)⟩
theorem Kept.drew {S : Nat → Prop} {a b : World} (h : Kept S a b) : Kept S a b.drew := ⟨h.os, h.tape, h.output, h.size, h.block⟩
theorem Kept.alloc {S : Nat → Prop} {a b : World} (h : Kept S a b) (o : Obj) : Kept S a (b.alloc o) :=
  h.trans ⟨rfl, rfl, rfl, by simp, fun k hk _ => Below.heap_alloc _ _ _ hk⟩
theorem Kept.setCell {S : Nat → Prop} {a b : World} (h : Kept S a b) {p : Addr} (hp : S p.block ∨ a.heap.size ≤ p.block) (u : Value) : Kept S a (b.setCell p u) :=
  ⟨h.os, h.tape, h.output, by simpa [World.setCell] using h.size, fun k hk hs => (Below.heap_setCell _ _ _ _ (by rintro rfl; rcases hp with hp | hp; exact hs hp; omega)).trans (h.block k hk hs)⟩
theorem Kept.turned {S : Nat → Prop} {a b c : World} (h : Kept S a b) {m : Nat} (ht : b.mapTurned c m) (hm : S m ∨ a.heap.size ≤ m) : Kept S a c :=
  have g := ht.grown
  ⟨g.os.trans h.os, g.tape.trans h.tape, g.output.trans h.output, Nat.le_trans h.size g.size, fun k hk hs => (g.block k (Nat.lt_of_lt_of_le hk h.size) (fun e => by cases e; rcases hm with hm | hm; exact hs hm; omega)).trans (h.block k hk hs)⟩
theorem Kept.cell {S : Nat → Prop} {a b : World} (h : Kept S a b) {p : Addr} (hp : p.block < a.heap.size) (hs : ¬ S p.block) : b.cell? p = a.cell? p := World.cell?_of_block (h.block _ hp hs)
theorem Kept.frozen {S : Nat → Prop} {a b : World} (h : Kept S a b) {p : Addr} (hp : p.block < a.heap.size) (hs : ¬ S p.block) : b.frozen? p = a.frozen? p := World.frozen?_of_block (h.block _ hp hs)

/-! ### maps, in two steps -/
section
variable {H : Type} {P : Program} {k t e : TypeId} {R : Value → Option (DataW H × List MemPlace)} {w : World} {b n : Nat} {D : DataW H}
open Go.Maps Go.MapKept Go.ChangeMaps
theorem tight (h : w.ownsMap P k R b n D) : w.ownsMap P k R b (Maps.size D) D := by
  obtain ⟨es, clock, hb, F, hs, rfl⟩ := h
  exact ⟨es, clock, hb, F, by simp [Maps.size, length_sorted], rfl⟩
/-- m[k] = v in the two steps in which a statement with an open order goes: the entry is there or is laid; then it is written. -/
theorem put2 (h : w.ownsMap P k R b n D) (K : Keyed P k) (ht : P.underlying t = some (.map k e)) {z : Value} (hz : ∀ u : World, (zeroValue e).run P u = .ok z u) (hn : n < maxLen) {key val : Value} {kl : Lit} {d : DataW H} {ps : List MemPlace}
    (hkey : keyOf P k key = some kl) (hv : R val = some (d, ps)) :
    ∃ v0 st w1 w2, (Instr.mapEntry t (.map (some b)) key).run P w = .ok (.tuple #[v0, goInt st]) w1 ∧ (Instr.entryStore t (.map (some b)) (goInt st) val).run P w1 = .ok () w2 ∧
      w2.ownsMap P k R b (n + 1) (D.put kl d) ∧ w.mapTurned w2 b ∧ w.mapTurned w1 b := by
  obtain ⟨w', h6, h7, h8⟩ := h.store K ht hn hkey hv
  obtain ⟨es, clock, hb, F, hs, _⟩ := h
  obtain ⟨s1, s2, _⟩ := F.stamped
  rcases K.find w hkey es.toList F.keys with ⟨f1, f2⟩ | ⟨j, e0, f1, f2, f3⟩
  · have hup : (Instr.mapUpdate t (.map (some b)) key val).run P w = .ok () (setBlock w b (.map (es.push ⟨key, val, clock⟩) (clock + 1))) := by
      simp [Instr.mapUpdate, run_underlying ht, MapKept.run_getObj_map hb, K.check w false hkey, f1, MapKept.run_setObj_map _ hb, Result.andThen, setBlock]
    rw [h6] at hup
    have hw : w' = setBlock w b (.map (es.push ⟨key, val, clock⟩) (clock + 1)) := by simpa using hup
    have hb1 : (setBlock w b (.map (es.push ⟨key, z, clock⟩) (clock + 1))).heap[b]? = some (.map (es.push ⟨key, z, clock⟩) (clock + 1)) := heap_setBlock_same hb _
    have hnd : ((es.push ⟨key, z, clock⟩).toList.map (·.born)).Nodup := by
      rw [Array.toList_push, List.map_append, List.nodup_append]
      refine ⟨s2, by simp, fun x hx y hy => ?_⟩
      obtain ⟨q, hq, rfl⟩ := List.mem_map.1 hx
      obtain rfl := List.mem_singleton.1 hy
      exact Nat.ne_of_lt (s1 q hq)
    have hix : (es.push ⟨key, z, clock⟩).findIdx? (fun e => ((e.born : Nat) : Int) == ((clock : Nat) : Int)) = some es.size := by
      rw [Go.WideElems.findIdx_arr]
      exact Go.WideElems.findIdx_born (e0 := ⟨key, z, clock⟩) hnd (by simp)
    have hmd : (es.push ⟨key, z, clock⟩).modify es.size (fun e => { e with val := val }) = es.push ⟨key, val, clock⟩ := by
      apply Array.toList_inj.1
      rw [Array.toList_modify, Array.toList_push, Array.toList_push, ← Array.length_toList, Go.WideElems.modify_last]
    refine ⟨z, clock, setBlock w b (.map (es.push ⟨key, z, clock⟩) (clock + 1)), w', ?_, ?_, h7, h8, es, clock, _, _, hb, rfl⟩
    · simp [Instr.mapEntry, run_underlying ht, MapKept.run_getObj_map hb, K.check w false hkey, f1, hz, MapKept.run_setObj_map _ hb, Result.andThen, setBlock]
    · rw [hw]
      simp [Instr.entryStore, MapKept.run_getObj_map hb1, asInt, asIntOf, goInt, hix, hmd, MapKept.run_setObj_map _ hb1, Result.andThen]
      simp [setBlock]
  · have hj : es[j]? = some e0 := by simpa using f2
    have hup : (Instr.mapUpdate t (.map (some b)) key val).run P w = .ok () (setBlock w b (.map (es.modify j (fun e' => { e' with key := key, val := val })) clock)) := by
      simp [Instr.mapUpdate, run_underlying ht, MapKept.run_getObj_map hb, K.check w false hkey, f1, hj, f3, K.stays w hkey, MapKept.run_setObj_map _ hb, Result.andThen, setBlock]
    rw [h6] at hup
    have hw : w' = setBlock w b (.map (es.modify j (fun e' => { e' with key := key, val := val })) clock) := by simpa using hup
    have hself : es.modify j (fun e => { e with key := key }) = es := by
      apply Array.toList_inj.1
      rw [Array.toList_modify, modify_eq_set _ _ _ _ f2, show ({ e0 with key := key } : MapEntry) = e0 by rw [← f3]]
      exact Go.WideElems.set_self _ _ _ f2
    have hb1 : (setBlock w b (.map es clock)).heap[b]? = some (.map es clock) := heap_setBlock_same hb _
    have hix : es.findIdx? (fun e => ((e.born : Nat) : Int) == ((e0.born : Nat) : Int)) = some j := by
      rw [Go.WideElems.findIdx_arr]
      exact Go.WideElems.findIdx_born s2 f2
    have hmd : es.modify j (fun e => { e with val := val }) = es.modify j (fun e' => { e' with key := key, val := val }) := by
      apply Array.toList_inj.1
      rw [Array.toList_modify, Array.toList_modify, modify_eq_set _ _ _ _ f2, modify_eq_set _ _ _ _ f2, ← f3]
    refine ⟨e0.val, e0.born, setBlock w b (.map es clock), w', ?_, ?_, h7, h8, es, clock, _, _, hb, rfl⟩
    · simp [Instr.mapEntry, run_underlying ht, MapKept.run_getObj_map hb, K.check w false hkey, f1, hj, f3, K.stays w hkey, hself, MapKept.run_setObj_map _ hb, Result.andThen, setBlock]
    · rw [hw]
      simp [Instr.entryStore, MapKept.run_getObj_map hb1, asInt, asIntOf, goInt, hix, hmd, MapKept.run_setObj_map _ hb1, Result.andThen]
      simp [setBlock]
end

/-! ### numbers as keys -/
def wf (x : Int) : Prop := -9223372036854775808 ≤ x ∧ x ≤ 9223372036854775807
theorem lit_wf {x : Int} (h : wf x) : (Lit.int .i64 x).wf = true := WalkArith.wf_i64 (by unfold wf at h; omega)
theorem K3 : Maps.Keyed Try.prog 3 := Maps.int_keyed Try.underlying3
theorem zero3 (w : World) : (zeroValue 3).run Try.prog w = .ok (.int .i64 0) w := by kernel_rfl
theorem key3 {x : Int} (h : wf x) : keyOf Try.prog 3 (.int .i64 x) = some (.int .i64 x) := Maps.keyOf_int_mk Try.underlying3 (lit_wf h)
def MapII (w : World) (b n : Nat) (f : Int → Option Nat) : Prop :=
  ∃ D : DataW Unit, w.ownsMap Try.prog 3 (plainElem Try.prog 3) b n D ∧ Maps.size D = n ∧ ∀ k, wf k → Maps.has D (.int .i64 k) = (f k).isSome ∧ ∀ j, f k = some j → D.atKey (.int .i64 k) (.lit (.int .i64 0)) = .lit (.int .i64 j)
section
variable {w w' : World} {b n : Nat} {f : Int → Option Nat}
theorem MapII.lt (h : MapII w b n f) : b < w.heap.size := by obtain ⟨D, h, _⟩ := h; exact h.lt
theorem MapII.keep (h : MapII w b n f) (hb : w'.heap[b]? = w.heap[b]?) : MapII w' b n f := by
  obtain ⟨D, ⟨es, clock, h1, h2⟩, h3⟩ := h
  exact ⟨D, ⟨es, clock, hb.trans h1, h2⟩, h3⟩
theorem MapII.made (w : World) : MapII (w.alloc (.map #[] 0)) w.heap.size 0 (fun _ => none) :=
  ⟨.map [], World.ownsMap_made _ _ _ _, rfl, fun k _ => ⟨rfl, fun j h => by cases h⟩⟩
theorem MapII.look (h : MapII w b n f) {k : Int} (hk : wf k) : (Instr.lookup 105 (.map (some b)) (.int .i64 k) true).run Try.prog w = .ok (.tuple #[.int .i64 (((f k).getD 0 : Nat) : Int), .bool (f k).isSome]) w := by
  obtain ⟨D, h1, _, h2⟩ := h
  obtain ⟨v, ps, hrun, hv⟩ := h1.look_ok (t := 105) K3 Try.underlying105 (zero3 w) (plainElem_int Try.underlying3 rfl) (key3 hk)
  obtain ⟨c, rfl, hc, _⟩ := plainElem_int_inv Try.underlying3 hv
  rw [hrun, (h2 k hk).1]
  have hc := congrArg Prod.fst hc
  cases hf : f k with
  | none =>
    have h3 := (h2 k hk).1
    rw [hf] at h3
    rw [Maps.atKey_of_not_has h3] at hc
    simp at hc
    simp [hc]
  | some j =>
    rw [(h2 k hk).2 j hf] at hc
    simp at hc
    simp [hc]
theorem MapII.put (h : MapII w b n f) {k : Int} (hk : wf k) {j : Nat} (hj : wf j) (hn : n < maxLen) :
    ∃ (v0 : Value) (st : Int) (w1 w2 : World), (Instr.mapEntry 105 (.map (some b)) (.int .i64 k)).run Try.prog w = .ok (.tuple #[v0, Value.int .i64 st]) w1 ∧ (Instr.entryStore 105 (.map (some b)) (Value.int .i64 st) (.int .i64 j)).run Try.prog w1 = .ok () w2 ∧
      MapII w2 b (if (f k).isSome then n else n + 1) (upd f k (some j)) ∧ w.mapTurned w2 b ∧ w.mapTurned w1 b := by
  obtain ⟨D, h1, hs, h2⟩ := h
  obtain ⟨v0, st, w1, w2, r1, r2, r3, r4, r5⟩ := put2 h1 K3 Try.underlying105 (fun u => zero3 u) hn (key3 hk) (plainElem_int Try.underlying3 (lit_wf hj))
  have hT := h1.tidy K3
  have hsz := Maps.size_put (k := .int .i64 k) hT (.lit (.int .i64 (j : Int)))
  rw [(h2 k hk).1, hs] at hsz
  refine ⟨v0, st, w1, w2, r1, r2, ⟨_, hsz ▸ tight r3, hsz, fun x hx => ?_⟩, r4, r5⟩
  unfold upd
  by_cases e : x = k
  · subst e
    rw [if_pos rfl]
    refine ⟨Maps.has_put_same hT.isMap (show WideAt.IsKeyLit (.int .i64 x) from trivial) _, fun i hi => ?_⟩
    cases hi
    exact Maps.atKey_put_same hT.isMap (show WideAt.IsKeyLit (.int .i64 x) from trivial) _ _
  · rw [if_neg e]
    have hne : (Lit.int .i64 x) ≠ .int .i64 k := fun h => e (by simpa using h)
    exact ⟨(Maps.has_put_other hne _).trans (h2 x hx).1, fun i hi => (Maps.atKey_put_other hne _ _).trans ((h2 x hx).2 i hi)⟩
theorem MapII.put1 (h : MapII w b n f) {k : Int} (hk : wf k) {j : Nat} (hj : wf j) (hn : n < maxLen) :
    ∃ w2, (Instr.mapUpdate 105 (.map (some b)) (.int .i64 k) (.int .i64 j)).run Try.prog w = .ok () w2 ∧
      MapII w2 b (if (f k).isSome then n else n + 1) (upd f k (some j)) ∧ w.mapTurned w2 b := by
  obtain ⟨D, h1, hs, h2⟩ := h
  obtain ⟨w2, r2, r3, r4⟩ := h1.store (t := 105) K3 Try.underlying105 hn (key3 hk) (plainElem_int Try.underlying3 (lit_wf hj))
  have hT := h1.tidy K3
  have hsz := Maps.size_put (k := .int .i64 k) hT (.lit (.int .i64 (j : Int)))
  rw [(h2 k hk).1, hs] at hsz
  refine ⟨w2, r2, ⟨_, hsz ▸ tight r3, hsz, fun x hx => ?_⟩, r4⟩
  unfold upd
  by_cases e : x = k
  · subst e
    rw [if_pos rfl]
    refine ⟨Maps.has_put_same hT.isMap (show WideAt.IsKeyLit (.int .i64 x) from trivial) _, fun i hi => ?_⟩
    cases hi
    exact Maps.atKey_put_same hT.isMap (show WideAt.IsKeyLit (.int .i64 x) from trivial) _ _
  · rw [if_neg e]
    have hne : (Lit.int .i64 x) ≠ .int .i64 k := fun h => e (by simpa using h)
    exact ⟨(Maps.has_put_other hne _).trans (h2 x hx).1, fun i hi => (Maps.atKey_put_other hne _ _).trans ((h2 x hx).2 i hi)⟩
theorem MapII.del (h : MapII w b n f) {k : Int} (hk : wf k) (hf : (f k).isSome = true) (ty : TypeId) :
    ∃ w', (Builtin.delete_ #[105, 3] ty #[.map (some b), .int .i64 k]).run Try.prog w = .ok (.tuple #[]) w' ∧ MapII w' b (n - 1) (upd f k none) ∧ w.mapTurned w' b := by
  obtain ⟨D, h1, hs, h2⟩ := h
  obtain ⟨w', r1, r2, r3⟩ := h1.drop K3 Try.underlying105 (key3 hk) ty
  have hT := h1.tidy K3
  have hsz := Maps.size_del (k := .int .i64 k) hT
  rw [(h2 k hk).1, hf, if_pos rfl, hs] at hsz
  have hsz : Maps.size (D.del (.int .i64 k)) = n - 1 := by omega
  refine ⟨w', r1, ⟨_, hsz ▸ tight r2, hsz, fun x hx => ?_⟩, r3⟩
  unfold upd
  by_cases e : x = k
  · subst e
    rw [if_pos rfl]
    exact ⟨Maps.has_del_same, fun i hi => by cases hi⟩
  · rw [if_neg e]
    have hne : (Lit.int .i64 x) ≠ .int .i64 k := fun h => e (by simpa using h)
    exact ⟨(Maps.has_del_other hne).trans (h2 x hx).1, fun i hi => (Maps.atKey_del_other hne _).trans ((h2 x hx).2 i hi)⟩
end
end Go.Proofs.Ytmgapdbfaoflmaa.Tm
