/- Words for the walks of chapter 18: blocks that are kept, maps of numbers, the timer in memory. -/
import Derived.Test.YticijejnemnmlaaProg
import Derived.Test.YticijejnemnmlaaRt
import Derived.Test.YticijejnemnmlaaRo
import Derived.WalkKit
import Derived.OwnWalk
import Derived.Below
import Derived.Lib.Hide
import Derived.Laws.OwnMore
import Derived.Deep.AppendLies
import Derived.Maps.AppendAt
import Derived.Maps.OwnSet
import Derived.WalkSmall
import Derived.ArgAppend
import Derived.WideKeyEntry
import Derived.DeepKeys4
namespace Go.Proofs.Yticijejnemnmlaa.If
open Go.RowKit Rt
set_option linter.unusedSimpArgs false
set_option linter.unusedVariables false

/-- But for some blocks the world w' is as w was; the streams are as they were; no block has gone. -/
structure Kept (S : Nat → Prop) (w w' : World) : Prop where
  os : w'.os = w.os
  tape : w'.tape = w.tape
  output : w'.output = w.output
  size : w.heap.size ≤ w'.heap.size
  block : ∀ k, k < w.heap.size → ¬ S k → w'.heap[k]? = w.heap[k]?
theorem Kept.refl (S : Nat → Prop) (w : World) : Kept S w w := ⟨rfl, rfl, rfl, Nat.le_refl _, fun _ _ _ => rfl⟩
theorem Kept.trans {S : Nat → Prop} {a b c : World} (h : Kept S a b) (k : Kept S b c) : Kept S a c :=
  ⟨k.os.trans h.os, k.tape.trans h.tape, k.output.trans h.output, Nat.le_trans h.size k.size, fun i hi hs => (k.block i (Nat.lt_of_lt_of_le hi h.size) hs).trans (h.block i hi hs)⟩
theorem Kept.mono {S T : Nat → Prop} {a b : World} (h : Kept S a b) (hs : ∀ k, k < a.heap.size → S k → T k) : Kept T a b :=
  ⟨h.os, h.tape, h.output, h.size, fun i hi ht => h.block i hi (fun e => ht (hs i hi e))⟩
theorem Kept.of_below {S : Nat → Prop} {a b : World} (h : Below a.heap.size a b) : Kept S a b := ⟨h.os, h.tape, h.output, h.size, fun i hi _ => h.block i hi⟩
theorem Kept.below {S : Nat → Prop} {a b : World} {B : Nat} (h : Kept S a b) (hB : B ≤ a.heap.size) (hs : ∀ k, k < B → ¬ S k) : Below B a b := ⟨h.os, h.tape, h.output, h.size, fun i hi => h.block i (by omega) (hs i hi)⟩
theorem Kept.drew {S : Nat → Prop} {a b : World} (h : Kept S a b) : Kept S a b.drew := ⟨h.os, h.tape, h.output, h.size, h.block⟩
theorem Kept.alloc {S : Nat → Prop} {a b : World} (h : Kept S a b) (o : Obj) : Kept S a (b.alloc o) :=
  h.trans ⟨rfl, rfl, rfl, by simp, fun k hk _ => Below.heap_alloc _ _ _ hk⟩
theorem Kept.setCell {S : Nat → Prop} {a b : World} (h : Kept S a b) {p : Addr} (hp : S p.block ∨ a.heap.size ≤ p.block) (u : Value) : Kept S a (b.setCell p u) :=
  ⟨h.os, h.tape, h.output, by simpa [World.setCell] using h.size, fun k hk hs => (Below.heap_setCell _ _ _ _ (by rintro rfl; rcases hp with hp | hp; exact hs hp; omega)).trans (h.block k hk hs)⟩
theorem Kept.turned {S : Nat → Prop} {a b c : World} (h : Kept S a b) {m : Nat} (ht : b.mapTurned c m) (hm : S m ∨ a.heap.size ≤ m) : Kept S a c :=
  have g := ht.grown
  ⟨g.os.trans h.os, g.tape.trans h.tape, g.output.trans h.output, Nat.le_trans h.size g.size, fun k hk hs => (g.block k (Nat.lt_of_lt_of_le hk h.size) (fun e => by cases e; rcases hm with hm | hm; exact hs hm; omega)).trans (h.block k hk hs)⟩
theorem Kept.cell {S : Nat → Prop} {a b : World} (h : Kept S a b) {p : Addr} (hp : p.block < a.heap.size) (hs : ¬ S p.block) : b.cell? p = a.cell? p := World.cell?_of_block (h.block _ hp hs)
theorem Kept.frozen {S : Nat → Prop} {a b : World} (h : Kept S a b) {p : Addr} (hp : p.block < a.heap.size) (hs : ¬ S p.block) : b.frozen? p = a.frozen? p := World.frozen?_of_block (h.block _ hp hs)

/-! ### maps, in two steps -/
section
variable {H : Type} {P : Program} {k t e : TypeId} {R : Value → Option (DataW H × List MemPlace)} {w : World} {b n : Nat} {D : DataW H}
open Go.Maps Go.MapKept Go.ChangeMaps
theorem tight (h : w.ownsMap P k R b n D) : w.ownsMap P k R b (Maps.size D) D := by
  obtain ⟨es, clock, hb, F, hs, rfl⟩ := h
  exact ⟨es, clock, hb, F, by simp [Maps.size, length_sorted], rfl⟩
/-- m[k] = v in the two steps in which a statement with an open order goes: the entry is there or is laid; then it is written. -/
theorem put2 (h : w.ownsMap P k R b n D) (K : Keyed P k) (ht : P.underlying t = some (.map k e)) {z : Value} (hz : ∀ u : World, (zeroValue e).run P u = .ok z u) (hn : n < maxLen) {key val : Value} {kl : Lit} {d : DataW H} {ps : List MemPlace}
    (hkey : keyOf P k key = some kl) (hv : R val = some (d, ps)) :
    ∃ v0 st w1 w2, (Instr.mapEntry t (.map (some b)) key).run P w = .ok (.tuple #[v0, goInt st]) w1 ∧ (Instr.entryStore t (.map (some b)) (goInt st) val).run P w1 = .ok () w2 ∧
      w2.ownsMap P k R b (n + 1) (D.put kl d) ∧ w.mapTurned w2 b ∧ w.mapTurned w1 b := by
  obtain ⟨w', h6, h7, h8⟩ := h.store K ht hn hkey hv
  obtain ⟨es, clock, hb, F, hs, _⟩ := h
  obtain ⟨s1, s2, _⟩ := F.stamped
  rcases K.find w hkey es.toList F.keys with ⟨f1, f2⟩ | ⟨j, e0, f1, f2, f3⟩
  · have hup : (Instr.mapUpdate t (.map (some b)) key val).run P w = .ok () (setBlock w b (.map (es.push ⟨key, val, clock⟩) (clock + 1))) := by
      simp [Instr.mapUpdate, run_underlying ht, MapKept.run_getObj_map hb, K.check w false hkey, f1, MapKept.run_setObj_map _ hb, Result.andThen, setBlock]
    rw [h6] at hup
    have hw : w' = setBlock w b (.map (es.push ⟨key, val, clock⟩) (clock + 1)) := by simpa using hup
    have hb1 : (setBlock w b (.map (es.push ⟨key, z, clock⟩) (clock + 1))).heap[b]? = some (.map (es.push ⟨key, z, clock⟩) (clock + 1)) := heap_setBlock_same hb _
    have hnd : ((es.push ⟨key, z, clock⟩).toList.map (·.born)).Nodup := by
      rw [Array.toList_push, List.map_append, List.nodup_append]
      refine ⟨s2, by simp, fun x hx y hy => ?_⟩
      obtain ⟨q, hq, rfl⟩ := List.mem_map.1 hx
      obtain rfl := List.mem_singleton.1 hy
      exact Nat.ne_of_lt (s1 q hq)
    have hix : (es.push ⟨key, z, clock⟩).findIdx? (fun e => ((e.born : Nat) : Int) == ((clock : Nat) : Int)) = some es.size := by
      rw [Go.WideElems.findIdx_arr]
      exact Go.WideElems.findIdx_born (e0 := ⟨key, z, clock⟩) hnd (by simp)
    have hmd : (es.push ⟨key, z, clock⟩).modify es.size (fun e => { e with val := val }) = es.push ⟨key, val, clock⟩ := by
      apply Array.toList_inj.1
      rw [Array.toList_modify, Array.toList_push, Array.toList_push, ← Array.length_toList, Go.WideElems.modify_last]
    refine ⟨z, clock, setBlock w b (.map (es.push ⟨key, z, clock⟩) (clock + 1)), w', ?_, ?_, h7, h8, es, clock, _, _, hb, rfl⟩
    · simp [Instr.mapEntry, run_underlying ht, MapKept.run_getObj_map hb, K.check w false hkey, f1, hz, MapKept.run_setObj_map _ hb, Result.andThen, setBlock]
    · rw [hw]
      simp [Instr.entryStore, MapKept.run_getObj_map hb1, asInt, asIntOf, goInt, hix, hmd, MapKept.run_setObj_map _ hb1, Result.andThen]
      simp [setBlock]
  · have hj : es[j]? = some e0 := by simpa using f2
    have hup : (Instr.mapUpdate t (.map (some b)) key val).run P w = .ok () (setBlock w b (.map (es.modify j (fun e' => { e' with key := key, val := val })) clock)) := by
      simp [Instr.mapUpdate, run_underlying ht, MapKept.run_getObj_map hb, K.check w false hkey, f1, hj, f3, K.stays w hkey, MapKept.run_setObj_map _ hb, Result.andThen, setBlock]
    rw [h6] at hup
    have hw : w' = setBlock w b (.map (es.modify j (fun e' => { e' with key := key, val := val })) clock) := by simpa using hup
    have hself : es.modify j (fun e => { e with key := key }) = es := by
      apply Array.toList_inj.1
      rw [Array.toList_modify, modify_eq_set _ _ _ _ f2, show ({ e0 with key := key } : MapEntry) = e0 by rw [← f3]]
      exact Go.WideElems.set_self _ _ _ f2
    have hb1 : (setBlock w b (.map es clock)).heap[b]? = some (.map es clock) := heap_setBlock_same hb _
    have hix : es.findIdx? (fun e => ((e.born : Nat) : Int) == ((e0.born : Nat) : Int)) = some j := by
      rw [Go.WideElems.findIdx_arr]
      exact Go.WideElems.findIdx_born s2 f2
    have hmd : es.modify j (fun e => { e with val := val }) = es.modify j (fun e' => { e' with key := key, val := val }) := by
      apply Array.toList_inj.1
      rw [Array.toList_modify, Array.toList_modify, modify_eq_set _ _ _ _ f2, modify_eq_set _ _ _ _ f2, ← f3]
    refine ⟨e0.val, e0.born, setBlock w b (.map es clock), w', ?_, ?_, h7, h8, es, clock, _, _, hb, rfl⟩
    · simp [Instr.mapEntry, run_underlying ht, MapKept.run_getObj_map hb, K.check w false hkey, f1, hj, f3, K.stays w hkey, hself, MapKept.run_setObj_map _ hb, Result.andThen, setBlock]
    · rw [hw]
      simp [Instr.entryStore, MapKept.run_getObj_map hb1, asInt, asIntOf, goInt, hix, hmd, MapKept.run_setObj_map _ hb1, Result.andThen]
      simp [setBlock]
end

def wf (x : Int) : Prop := -9223372036854775808 ≤ x ∧ x ≤ 9223372036854775807
def wu (x : Int) : Prop := 0 ≤ x ∧ x ≤ 18446744073709551615
theorem wr {x : Int} (h1 : -9223372036854775808 ≤ x) (h2 : x ≤ 9223372036854775807) : IntKind.i64.wrap x = x := by simp [IntKind.wrap, IntKind.bits, IntKind.signed]; omega
theorem lit_wf {x : Int} (h : wf x) : (Lit.int .i64 x).wf = true := WalkArith.wf_i64 (by unfold wf at h; omega)
theorem lit_wu {x : Int} (h : wu x) : (Lit.int .u64 x).wf = true := by
  obtain ⟨h1, h2⟩ := h
  simp [Lit.wf, IntKind.min, IntKind.max, IntKind.bits, IntKind.signed]; exact ⟨h1, h2⟩
/-- An address. -/
structure Ad where
  v6 : Bool
  hi : Int
  lo : Int
deriving DecidableEq
def Ad.cs (a : Ad) : List Value := [.bool a.v6, .int .u64 a.hi, .int .u64 a.lo]
def Ad.val (a : Ad) : Value := .agg #[.bool a.v6, .int .u64 a.hi, .int .u64 a.lo]
def Ad.ok (a : Ad) : Prop := wu a.hi ∧ wu a.lo
theorem laid31 : laidOutB Try.prog = true := by kernel_rfl
theorem row31 : (31 : TypeId) < Try.prog.types.size := of_decide_eq_true (by kernel_rfl)
theorem wide31 : (match Try.prog.underlying 31 with | some (.array _ _) | some (.struct _) => true | _ => false) = true := by rw [Try.underlying31]
theorem law31 : WideMaps.KeyLaw Try.prog 31 := deep_law_laid laid31 (m := 2) (by omega) row31 (by kernel_rfl) wide31
theorem K31 : Maps.Keyed Try.prog 31 := Maps.Keyed.of_law law31
theorem key31 {a : Ad} (h : a.ok) : ∃ l, keyOf Try.prog 31 a.val = some l := by
  have hk : Try.prog.keyType 31 = true := by kernel_rfl
  have c31 : Try.prog.cellsOf 31 = 3 := by kernel_rfl
  have c4 : Try.prog.cellsOf 4 = 1 := by kernel_rfl
  have c29 : Try.prog.cellsOf 29 = 1 := by kernel_rfl
  obtain ⟨m, hm⟩ : ∃ m, Try.prog.types.size = m + 1 := ⟨Try.prog.types.size - 1, (Nat.succ_pred_eq_of_pos (Nat.lt_of_le_of_lt (Nat.zero_le _) (show (31 : Nat) < _ from row31))).symm⟩
  have hf : a.val.formed Try.prog 31 = true := by
    unfold Ad.val
    simp [Value.formed, Try.underlying31, c31]
  obtain ⟨h1, h2⟩ := h
  have w1 := lit_wu h1
  have w2 := lit_wu h2
  refine ⟨.string (keyBytes [.bool a.v6, .int .u64 a.hi, .int .u64 a.lo]), ?_⟩
  unfold keyOf
  simp only [Try.underlying31]
  rw [if_pos (by rw [hk, hf]; rfl), hm]
  unfold Program.keyLits
  simp only [Try.underlying31]
  unfold Ad.val
  simp [Value.cells, c31, Program.keyLits, Try.underlying4, Try.underlying29, c4, c29, w1, w2]
theorem Ad.val_inj {a b : Ad} (h : a.val = b.val) : a = b := by
  unfold Ad.val at h
  simp at h
  cases a; cases b
  simp at h
  simp [h]
/-- A key as a datum has it. -/
noncomputable def kl (a : Ad) : Lit := (keyOf Try.prog 31 a.val).getD (.bool false)
theorem key31' {a : Ad} (h : a.ok) : keyOf Try.prog 31 a.val = some (kl a) := by
  obtain ⟨l, hl⟩ := key31 h
  unfold kl; rw [hl]; rfl
theorem kl_inj {a b : Ad} (ha : a.ok) (hb : b.ok) (h : kl a = kl b) : a = b := by
  have h1 := key31' ha
  have h2 := key31' hb
  rw [h] at h1
  exact Ad.val_inj (law31.inj h1 h2)
theorem kl_key {a : Ad} (ha : a.ok) : WideAt.IsKeyLit (kl a) := by
  obtain ⟨s, hs⟩ := law31.str (key31' ha)
  rw [hs]; trivial
theorem zero88 (w : World) : (zeroValue 88).run Try.prog w = .ok (.pointer none) w := by kernel_rfl
end Go.Proofs.Yticijejnemnmlaa.If
