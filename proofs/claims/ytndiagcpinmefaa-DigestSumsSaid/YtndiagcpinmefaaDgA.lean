/- Words for the walks of chapter 4: rows of bytes. -/
import Derived.Test.YtndiagcpinmefaaShelf
import Derived.Test.YtndiagcpinmefaaRt
import Derived.Test.YtndiagcpinmefaaWWords
import Derived.WalkKit
import Derived.OwnWalk
import Derived.Below
import Derived.Lib.Hide
import Derived.Lib.ConvBytes
import Derived.Laws.BytesArg
import Derived.Laws.OwnMore
import Derived.Deep.AppendLies
import Derived.Maps.AppendAt
namespace Go.Proofs.Ytndiagcpinmefaa.Dg
open Go.RowKit Rt Go.Proofs.YtndiagcpinmefaaW.PrintWords
set_option linter.unusedSimpArgs false
set_option linter.unusedVariables false

def mk (L : List UInt8) : ByteArray := ⟨L.toArray⟩
theorem mk_toList (s : ByteArray) : mk s.data.toList = s := by cases s; rfl
theorem mk_data (L : List UInt8) : (mk L).data.toList = L := rfl
theorem mk_size (L : List UInt8) : (mk L).size = L.length := rfl
theorem mk_extract (L : List UInt8) (a b : Nat) : (mk L).extract a b = mk ((L.drop a).take (b - a)) := by
  rw [← mk_toList ((mk L).extract a b), ByteArray.data_extract, Array.toList_extract, List.extract_eq_take_drop]; rfl

/-- Bytes as the cells of a row. -/
def cells (L : List UInt8) : List Value := L.map fun c => Value.int .u8 (c.toNat : Int)
theorem cells_append (a b : List UInt8) : cells (a ++ b) = cells a ++ cells b := by simp [cells]
theorem cells_length (a : List UInt8) : (cells a).length = a.length := by simp [cells]

theorem bytesWorld_below (w : World) (e : TypeId) (s : ByteArray) : Below w.heap.size w (Lib.bytesWorld w e s) :=
  ⟨by simp [Lib.bytesWorld, World.freeze, World.alloc, World.drew, -World.alloc_eq, -World.drew_eq], by simp [Lib.bytesWorld, World.freeze, World.alloc, World.drew, -World.alloc_eq, -World.drew_eq], by simp [Lib.bytesWorld, World.freeze, World.alloc, World.drew, -World.alloc_eq, -World.drew_eq], by rw [Lib.bytesWorld_size]; omega, fun k hk => Lib.bytesWorld_at_old w e s k hk⟩

/-- A marked row that holds the bytes L, and spare cells behind. -/
def Bytes9 (W : World) (g : Nat) (L : List UInt8) (sp : List Value) : Prop :=
  W.heap[g]? = some (Obj.cells ((L.map fun c => Value.int .u8 (c.toNat : Int)) ++ sp).toArray 5 (L.length + sp.length, L.length + sp.length + 1))
theorem Bytes9.lt {W : World} {g : Nat} {L : List UInt8} {sp : List Value} (h : Bytes9 W g L sp) : g < W.heap.size := (Array.getElem?_eq_some_iff.1 h).1
theorem Bytes9.cell {W : World} {g : Nat} {L : List UInt8} {sp : List Value} (h : Bytes9 W g L sp) (j : Nat) (hj : j < L.length) : W.cell? ⟨g, j, none⟩ = some (.int .u8 ((L.getD j 0).toNat : Int)) := by
  simp [World.cell?, show W.heap[g]? = _ from h, List.getElem?_append, hj, List.getD]
theorem Bytes9.frozen {W : World} {g : Nat} {L : List UInt8} {sp : List Value} (h : Bytes9 W g L sp) (j : Nat) (hj : j < L.length) : W.frozen? ⟨g, j, none⟩ = false := by
  simp [World.frozen?, show W.heap[g]? = _ from h]; omega
theorem Bytes9.set {W : World} {g : Nat} {L : List UInt8} {sp : List Value} (h : Bytes9 W g L sp) (j : Nat) (hj : j < L.length) (c : UInt8) : Bytes9 (W.setCell ⟨g, j, none⟩ (.int .u8 (c.toNat : Int))) g (L.set j c) sp := by
  obtain ⟨hlt, hk⟩ := Array.getElem?_eq_some_iff.1 h
  show (W.heap.modify g _)[g]? = _
  rw [Array.getElem?_eq_getElem (by rw [Array.size_modify]; exact hlt), Array.getElem_modify_self, hk]
  simp [List.map_set, List.set_append, hj]
theorem Bytes9.keep {A B : World} {g : Nat} {L : List UInt8} {sp : List Value} (h : Bytes9 A g L sp) (hb : B.heap[g]? = A.heap[g]?) : Bytes9 B g L sp := hb.trans h
theorem Bytes9.kept {A B : World} {row : Option Nat} {g : Nat} {L : List UInt8} {sp : List Value} (h : Bytes9 A g L sp) (hg : A.grownBy B row) (hr : ∀ r, row = some r → ∃ o : Obj, A.heap[r]? = some o ∧ o.isCells = false) : Bytes9 B g L sp :=
  (hg.block g h.lt (fun e => by obtain ⟨o, ho, hc⟩ := hr _ e.symm; rw [show A.heap[g]? = _ from h] at ho; cases ho; cases hc)).trans h
theorem bytes9_new (w : World) (s : ByteArray) : ∃ sp, Bytes9 (Lib.bytesWorld w 5 s) w.heap.size s.data.toList sp := by
  refine ⟨List.replicate (grownCap w s.size 0 5 - s.size) (.int .u8 0), ?_⟩
  have h := Lib.bytesWorld_at_new w 5 s
  have hr : ((s.data.toList.map fun c => Value.int .u8 (c.toNat : Int)) ++ List.replicate (grownCap w s.size 0 5 - s.size) (Value.int .u8 0)).toArray = Lib.bytesCells w 5 s := by
    apply Array.toList_inj.1
    simp [Lib.bytesCells]
  unfold Bytes9
  rw [h, hr]
  have hs : (Lib.bytesCells w 5 s).size = s.data.toList.length + (List.replicate (grownCap w s.size 0 5 - s.size) (Value.int .u8 0)).length := by rw [← hr]; simp
  rw [hs]


theorem info5 : (Try.prog.info? 5).map (fun i => (i.zero, i.size, i.bytes)) = some (some (.int .u8 0), 1, 1) := by kernel_rfl
theorem own_below {w w' : World} {base : Nat} {e : TypeId} {size n : Nat} {v : Value} {xs : List Value} (h : w.ownsRow base e size v n xs) (hb : Below w.heap.size w w') : w'.ownsRow base e size v n xs := by
  obtain ⟨h1, h2⟩ := h
  refine ⟨h1, ?_⟩
  rcases h2 with h2 | ⟨g, cap, cur, hv, hg, hh, r⟩
  · exact .inl h2
  · exact .inr ⟨g, cap, cur, hv, hg, (hb.block g (Array.getElem?_eq_some_iff.1 hh).1).trans hh, r⟩
/-- string(b) of a row of one's own. -/
theorem conv_own {P : Program} {w : World} {B : Nat} {v : Value} {L : List UInt8} (h : w.ownsRow B 5 1 v L.length (cells L)) (t31 : P.underlying 31 = some (.slice 5)) (t5 : P.underlying 5 = some (.int .u8)) (t9 : P.underlying 9 = some .string) :
    (convert 31 9 v).run P w = .ok (.string (mk L)) w := by
  rcases h.2 with ⟨rfl, h0⟩ | ⟨g, cap, cur, rfl, hg, hh, hle, _, hsz, htk⟩
  · have := List.length_eq_zero_iff.1 h0
    subst this
    exact run_convert_bytes_nil (P := P) (w := w) 31 5 t31 t5 0 0 9 t9
  · have h1 := run_convert_bytes_arg (P := P) w 31 5 t31 t5 g 0 L.length cap (L.map fun c => (c.toNat : Int)) (by simp)
      (fun i hi => by
        have hc := h.cellAt i (by omega)
        rw [Nat.zero_add, hc]
        simp [cells, List.getD_eq_getElem?_getD, hi]) 9 t9
    rw [h1]
    congr 3
    simp [strOfNums, Function.comp_def]
    rfl

/-- What lies in a block just laid. -/
theorem heap_new (w : World) (o : Obj) : (w.alloc o).heap[w.heap.size]? = some o := by
  show (w.heap.push o)[w.heap.size]? = some o
  simp
section
variable {ops : Array Oper} {fl : Nat → Nat} {Q : Act → World → Prop} {k : Nat} {rest : List Oper} {a : Act} {w : World}
/-- append of some bytes to a row of one's own, in a region that is told in the text's order. -/
theorem txt_append {o : Oper} (hk : ops[k]? = some o) (hf : fl k = 2) (hw : Region.wanted o (yielded ops a.tmps) = true) (s x : Operand)
    (ho : o.op = .call { callee := .builtin .append, args := #[s, x], argTypes := #[31, 31] })
    (B : Nat) (v : Value) (L : List UInt8) (hs : a.eval s = v) (hown : w.ownsRow B 5 1 v L.length (cells L)) (g m c : Nat) (M : List UInt8) (hx : a.eval x = .slice (some ⟨g, 0, none⟩) m c) (hm : m = M.length)
    (cs : Array Value) (fr : Nat × Nat) (hg : w.heap[g]? = some (.cells cs 5 fr)) (hcs : cs.toList = cells M) (hlen : L.length + M.length ≤ 140737488355328) (hB : B ≤ w.heap.size)
    (h : ∀ v' w', w'.ownsRow B 5 1 v' (L ++ M).length (cells (L ++ M)) → w.grownBy w' v.ownBlock → wpTxt Try.prog ops fl Q (k + 1) rest (a.put o.dst v') w') : wpTxt Try.prog ops fl Q k (o :: rest) a w := by
  obtain ⟨i0, hi, hz0, hz1, hz2⟩ := info_parts info5
  subst hm
  refine txt_act hk hf hw fun K hK => wp_append_own w s x 31 ho B 5 i0 (.int .u8 0) 1 1 Try.underlying31 hi hz0 hz1 hz2 rfl (by decide) v L.length (cells L) hs hown ⟨g, 0, none⟩ M.length c (cells M) hx (by rw [cells_length, Nat.mul_one])
    (fun j u hj => World.news_of_block hg j u (by rw [hcs]; exact hj)) (fun u hu => by obtain ⟨q, _, rfl⟩ := List.mem_map.1 hu; rfl) (by unfold maxLen; omega) (by omega) hB (fun v' w' h2 h3 _ => hK _ _ (h v' w' ?_ h3))
  rw [List.length_append, cells_append]; exact h2
end
end Go.Proofs.Ytndiagcpinmefaa.Dg
