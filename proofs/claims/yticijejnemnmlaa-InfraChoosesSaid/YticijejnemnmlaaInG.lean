/- A map that counts addresses; rows of addresses. -/
import Derived.Test.YticijejnemnmlaaInF
namespace Go.Proofs.Yticijejnemnmlaa.If
open Go.RowKit Rt
set_option linter.unusedSimpArgs false
set_option linter.unusedVariables false
section
variable {H : Type} {P : Program} {k t e : TypeId} {R : Value → Option (DataW H × List MemPlace)} {w : World} {b n : Nat} {D : DataW H}
open Go.Maps Go.MapKept Go.ChangeMaps
/-- m[k] = v in the two steps in which a statement with an open order goes: the entry is there or is laid; then it is written. -/
theorem put3 (h : w.ownsMap P k R b n D) (K : Keyed P k) (ht : P.underlying t = some (.map k e)) {z : Value} (hz : ∀ u : World, (zeroValue e).run P u = .ok z u) (hn : n < maxLen) {key val : Value} {kl : Lit} {d : DataW H} {ps : List MemPlace}
    (hkey : keyOf P k key = some kl) (hv : R val = some (d, ps)) {zd : DataW H} {zp : List MemPlace} (hzd : R z = some (zd, zp)) (hkl : WideAt.IsKeyLit kl) :
    ∃ v0 st w1 w2, (Instr.mapEntry t (.map (some b)) key).run P w = .ok (.tuple #[v0, goInt st]) w1 ∧ (Instr.entryStore t (.map (some b)) (goInt st) val).run P w1 = .ok () w2 ∧
      w2.ownsMap P k R b (n + 1) (D.put kl d) ∧ w.mapTurned w2 b ∧ w.mapTurned w1 b ∧ ∃ n1 D1, w1.ownsMap P k R b n1 D1 ∧ D1.atKey kl zd = D.atKey kl zd := by
  have hO := h
  obtain ⟨w', h6, h7, h8⟩ := h.store K ht hn hkey hv
  obtain ⟨es, clock, hb, F, hs, hDD⟩ := h
  have keep' : ∀ {w' : World}, w'.heap[b]? = some (.map es clock) → w'.ownsMap P k R b n D := fun hb' => ⟨es, clock, hb', F, hs, hDD⟩
  obtain ⟨s1, s2, _⟩ := F.stamped
  rcases K.find w hkey es.toList F.keys with ⟨f1, f2⟩ | ⟨j, e0, f1, f2, f3⟩
  · have hup : (Instr.mapUpdate t (.map (some b)) key val).run P w = .ok () (setBlock w b (.map (es.push ⟨key, val, clock⟩) (clock + 1))) := by
      simp [Instr.mapUpdate, run_underlying ht, MapKept.run_getObj_map hb, K.check w false hkey, f1, MapKept.run_setObj_map _ hb, Result.andThen, setBlock]
    rw [h6] at hup
    have hw : w' = setBlock w b (.map (es.push ⟨key, val, clock⟩) (clock + 1)) := by simpa using hup
    have hb1 : (setBlock w b (.map (es.push ⟨key, z, clock⟩) (clock + 1))).heap[b]? = some (.map (es.push ⟨key, z, clock⟩) (clock + 1)) := heap_setBlock_same hb _
    have hX : ∃ n1 D1, (setBlock w b (.map (es.push ⟨key, z, clock⟩) (clock + 1))).ownsMap P k R b n1 D1 ∧ D1.atKey kl zd = D.atKey kl zd := by
      obtain ⟨wz, g6, g7, g8⟩ := hO.store K ht hn hkey hzd
      have hupz : (Instr.mapUpdate t (.map (some b)) key z).run P w = .ok () (setBlock w b (.map (es.push ⟨key, z, clock⟩) (clock + 1))) := by
        simp [Instr.mapUpdate, run_underlying ht, MapKept.run_getObj_map hb, K.check w false hkey, f1, MapKept.run_setObj_map _ hb, Result.andThen, setBlock]
      rw [g6] at hupz
      have hwz : wz = setBlock w b (.map (es.push ⟨key, z, clock⟩) (clock + 1)) := by simpa using hupz
      rw [← hwz]
      refine ⟨_, _, g7, ?_⟩
      rw [Maps.atKey_put_same (hO.tidy K).isMap hkl]
      obtain ⟨v, ps', q1, q2⟩ := hO.lookup K ht (hz w) hzd hkey
      have q3 : (Instr.lookup t (.map (some b)) key false).run P w = .ok z w := by
        simp [Instr.lookup, run_underlying ht, MapKept.run_getObj_map hb, K.check w _ hkey, f1, hz, Result.andThen]
      rw [q1] at q3
      have q4 : v = z := by simpa using q3
      rw [q4, hzd] at q2
      have := congrArg (Option.map Prod.fst) q2
      simpa using this
    have hnd : ((es.push ⟨key, z, clock⟩).toList.map (·.born)).Nodup := by
      rw [Array.toList_push, List.map_append, List.nodup_append]
      refine ⟨s2, by simp, fun x hx y hy => ?_⟩
      obtain ⟨q, hq, rfl⟩ := List.mem_map.1 hx
      obtain rfl := List.mem_singleton.1 hy
      exact Nat.ne_of_lt (s1 q hq)
    have hix : (es.push ⟨key, z, clock⟩).findIdx? (fun e => ((e.born : Nat) : Int) == ((clock : Nat) : Int)) = some es.size := by
      rw [Go.WideElems.findIdx_arr]
      exact Go.WideElems.findIdx_born (e0 := ⟨key, z, clock⟩) hnd (by simp)
    have hmd : (es.push ⟨key, z, clock⟩).modify es.size (fun e => { e with val := val }) = es.push ⟨key, val, clock⟩ := by
      apply Array.toList_inj.1
      rw [Array.toList_modify, Array.toList_push, Array.toList_push, ← Array.length_toList, Go.WideElems.modify_last]
    refine ⟨z, clock, setBlock w b (.map (es.push ⟨key, z, clock⟩) (clock + 1)), w', ?_, ?_, h7, h8, ⟨es, clock, _, _, hb, rfl⟩, hX⟩
    · simp [Instr.mapEntry, run_underlying ht, MapKept.run_getObj_map hb, K.check w false hkey, f1, hz, MapKept.run_setObj_map _ hb, Result.andThen, setBlock]
    · rw [hw]
      simp [Instr.entryStore, MapKept.run_getObj_map hb1, asInt, asIntOf, goInt, hix, hmd, MapKept.run_setObj_map _ hb1, Result.andThen]
      simp [setBlock]
  · have hj : es[j]? = some e0 := by simpa using f2
    have hup : (Instr.mapUpdate t (.map (some b)) key val).run P w = .ok () (setBlock w b (.map (es.modify j (fun e' => { e' with key := key, val := val })) clock)) := by
      simp [Instr.mapUpdate, run_underlying ht, MapKept.run_getObj_map hb, K.check w false hkey, f1, hj, f3, K.stays w hkey, MapKept.run_setObj_map _ hb, Result.andThen, setBlock]
    rw [h6] at hup
    have hw : w' = setBlock w b (.map (es.modify j (fun e' => { e' with key := key, val := val })) clock) := by simpa using hup
    have hself : es.modify j (fun e => { e with key := key }) = es := by
      apply Array.toList_inj.1
      rw [Array.toList_modify, modify_eq_set _ _ _ _ f2, show ({ e0 with key := key } : MapEntry) = e0 by rw [← f3]]
      exact Go.WideElems.set_self _ _ _ f2
    have hb1 : (setBlock w b (.map es clock)).heap[b]? = some (.map es clock) := heap_setBlock_same hb _
    have hix : es.findIdx? (fun e => ((e.born : Nat) : Int) == ((e0.born : Nat) : Int)) = some j := by
      rw [Go.WideElems.findIdx_arr]
      exact Go.WideElems.findIdx_born s2 f2
    have hmd : es.modify j (fun e => { e with val := val }) = es.modify j (fun e' => { e' with key := key, val := val }) := by
      apply Array.toList_inj.1
      rw [Array.toList_modify, Array.toList_modify, modify_eq_set _ _ _ _ f2, modify_eq_set _ _ _ _ f2, ← f3]
    refine ⟨e0.val, e0.born, setBlock w b (.map es clock), w', ?_, ?_, h7, h8, ⟨es, clock, _, _, hb, rfl⟩, ⟨_, _, keep' hb1, rfl⟩⟩
    · simp [Instr.mapEntry, run_underlying ht, MapKept.run_getObj_map hb, K.check w false hkey, f1, hj, f3, K.stays w hkey, hself, MapKept.run_setObj_map _ hb, Result.andThen, setBlock]
    · rw [hw]
      simp [Instr.entryStore, MapKept.run_getObj_map hb1, asInt, asIntOf, goInt, hix, hmd, MapKept.run_setObj_map _ hb1, Result.andThen]
      simp [setBlock]
end
theorem zero3 (w : World) : (zeroValue 3).run Try.prog w = .ok (.int .i64 0) w := by kernel_rfl
/-- How often each address was seen. -/
def MapAI (w : World) (b n : Nat) (f : Ad → Nat) : Prop :=
  ∃ D : DataW Unit, w.ownsMap Try.prog 31 (plainElem Try.prog 3) b n D ∧ ∀ k : Ad, k.ok → D.atKey (kl k) (.lit (.int .i64 0)) = .lit (.int .i64 (f k : Int))
def bump (f : Ad → Nat) (k : Ad) (x : Ad) : Nat := if x = k then f x + 1 else f x
section
variable {w w' : World} {b n : Nat} {f : Ad → Nat}
theorem MapAI.lt (h : MapAI w b n f) : b < w.heap.size := by obtain ⟨D, h, _⟩ := h; exact h.lt
theorem MapAI.keep (h : MapAI w b n f) (hb : w'.heap[b]? = w.heap[b]?) : MapAI w' b n f := by
  obtain ⟨D, ⟨es, clock, h1, h2⟩, h3⟩ := h
  exact ⟨D, ⟨es, clock, hb.trans h1, h2⟩, h3⟩
theorem MapAI.made (w : World) : MapAI (w.alloc (.map #[] 0)) w.heap.size 0 (fun _ => 0) :=
  ⟨.map [], World.ownsMap_made _ _ _ _, fun k _ => rfl⟩
theorem MapAI.look (h : MapAI w b n f) {k : Ad} (hk : k.ok) : (Instr.lookup 76 (.map (some b)) k.val false).run Try.prog w = .ok (.int .i64 (f k : Int)) w := by
  obtain ⟨D, h1, h2⟩ := h
  obtain ⟨c, hrun, hat, _⟩ := h1.lookup_int (t := 76) K31 Try.underlying76 Try.underlying3 (zero3 w) (key31' hk)
  rw [h2 k hk] at hat
  rw [hrun]
  simp at hat
  rw [hat]
theorem MapAI.put (h : MapAI w b n f) {k : Ad} (hk : k.ok) (hn : n < maxLen) (hf : wf ((f k : Int) + 1)) :
    ∃ (v0 : Value) (st : Int) (w1 w2 : World), (Instr.mapEntry 76 (.map (some b)) k.val).run Try.prog w = .ok (.tuple #[v0, Value.int .i64 st]) w1 ∧ (Instr.entryStore 76 (.map (some b)) (Value.int .i64 st) (.int .i64 ((f k : Int) + 1))).run Try.prog w1 = .ok () w2 ∧
      (Instr.lookup 76 (.map (some b)) k.val false).run Try.prog w1 = .ok (.int .i64 (f k : Int)) w1 ∧ MapAI w2 b (n + 1) (bump f k) ∧ w.mapTurned w2 b ∧ w.mapTurned w1 b := by
  obtain ⟨D, h1, h2⟩ := h
  obtain ⟨v0, st, w1, w2, r1, r2, r3, r4, r5, n1, D1, r6, r7⟩ := put3 h1 K31 Try.underlying76 (fun u => zero3 u) hn (key31' hk) (plainElem_int Try.underlying3 (lit_wf hf)) (plainElem_int (a := 0) Try.underlying3 (by decide)) (kl_key hk)
  have hT := h1.tidy K31
  refine ⟨v0, st, w1, w2, r1, r2, ?_, ⟨_, r3, fun x hx => ?_⟩, r4, r5⟩
  · obtain ⟨c, hrun, hat, _⟩ := r6.lookup_int (t := 76) K31 Try.underlying76 Try.underlying3 (zero3 w1) (key31' hk)
    rw [r7, h2 k hk] at hat
    rw [hrun]
    simp at hat
    rw [hat]
  · unfold bump
    by_cases e : x = k
    · subst e
      rw [if_pos rfl]
      exact Maps.atKey_put_same hT.isMap (kl_key hx) _ _
    · rw [if_neg e]
      have hne : kl x ≠ kl k := fun h => e (kl_inj hx hk h)
      exact (Maps.atKey_put_other hne _ _).trans (h2 x hx)
end
end Go.Proofs.Yticijejnemnmlaa.If
