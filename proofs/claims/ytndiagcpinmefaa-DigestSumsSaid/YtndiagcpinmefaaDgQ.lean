/- Rows of bytes of one's own, made by a conversion of a string and appended to. -/
import Derived.Test.YtndiagcpinmefaaDgA
import Derived.ArgAppend
namespace Go.Proofs.Ytndiagcpinmefaa.Dg
open Go.RowKit Rt Go.Proofs.YtndiagcpinmefaaW.PrintWords
set_option linter.unusedSimpArgs false
set_option linter.unusedVariables false

theorem heap_setCells_other (b : Nat) : ∀ (vs : List Value) (o : Nat) (w : World) (k : Nat), k ≠ b → (w.setCells b o vs).heap[k]? = w.heap[k]?
  | [], _, _, _, _ => rfl
  | v :: r, o, w, k, h => by
    rw [World.setCells, heap_setCells_other b r _ _ k h]
    exact Below.heap_setCell _ _ _ _ h
theorem setCells_size (b : Nat) : ∀ (vs : List Value) (o : Nat) (w : World), (w.setCells b o vs).heap.size = w.heap.size
  | [], _, _ => rfl
  | v :: r, o, w => by rw [World.setCells, setCells_size b r]; simp [World.setCell]
theorem setCells_rest (b : Nat) : ∀ (vs : List Value) (o : Nat) (w : World), (w.setCells b o vs).os = w.os ∧ (w.setCells b o vs).tape = w.tape ∧ (w.setCells b o vs).output = w.output
  | [], _, _ => ⟨rfl, rfl, rfl⟩
  | v :: r, o, w => by rw [World.setCells]; exact setCells_rest b r _ _
theorem below_setCells {B b : Nat} {w0 w : World} (h : Below B w0 w) (hb : B ≤ b) (vs : List Value) (o : Nat) : Below B w0 (w.setCells b o vs) :=
  h.trans ⟨(setCells_rest b vs o w).1, (setCells_rest b vs o w).2.1, (setCells_rest b vs o w).2.2, by rw [setCells_size]; exact Nat.le_refl _, fun k hk => heap_setCells_other b vs o w k (by omega)⟩

/-- The value v is a row of the bytes L, in a block from base on that may be written. -/
def BRow (w : World) (base : Nat) (v : Value) (L : List UInt8) : Prop :=
  ∃ g cap, v = .slice (some ⟨g, 0, none⟩) L.length cap ∧ base ≤ g ∧ g < w.heap.size ∧ L.length ≤ cap ∧ cap ≤ maxLen ∧
    (∀ j, j < L.length → w.cell? ⟨g, j, none⟩ = some (.int .u8 ((L.getD j 0).toNat : Int))) ∧ (∀ j, j < cap → (w.cell? ⟨g, j, none⟩).isSome = true ∧ w.frozen? ⟨g, j, none⟩ = false)
theorem BRow.below {w w' : World} {base : Nat} {v : Value} {L : List UInt8} (h : BRow w base v L) (hb : Below w.heap.size w w') : BRow w' base v L := by
  obtain ⟨g, cap, hv, hg, hlt, h1, h2, h3, h4⟩ := h
  refine ⟨g, cap, hv, hg, Nat.lt_of_lt_of_le hlt hb.size, h1, h2, fun j hj => ?_, fun j hj => ?_⟩
  · rw [hb.cell (p := ⟨g, j, none⟩) hlt]; exact h3 j hj
  · rw [hb.cell (p := ⟨g, j, none⟩) hlt, hb.frozen (p := ⟨g, j, none⟩) hlt]; exact h4 j hj
theorem BRow.alloc {w : World} {base : Nat} {v : Value} {L : List UInt8} (h : BRow w base v L) (o : Obj) : BRow (w.alloc o) base v L := h.below ((Below.refl _ _).alloc (Nat.le_refl _) o)
theorem BRow.drew {w : World} {base : Nat} {v : Value} {L : List UInt8} (h : BRow w base v L) : BRow w.drew base v L := h.below ((Below.refl _ _).drew)
theorem BRow.of_own {w : World} {base : Nat} {v : Value} {L : List UInt8} (h : w.ownsRow base 5 1 v L.length (cells L)) (hn : v ≠ .slice none 0 0) : BRow w base v L := by
  have h0 := h
  rcases h.2 with ⟨h2, _⟩ | ⟨g, cap, cur, hv, hg, hh, hle, hcm, hsz, htk⟩
  · exact (hn h2).elim
  · subst hv
    refine ⟨g, cap, rfl, hg, (Array.getElem?_eq_some_iff.1 hh).1, hle, hcm, fun j hj => ?_, fun j hj => ⟨?_, ?_⟩⟩
    · have := h0.cellAt j (by simpa using hj)
      rw [this]; simp [cells, List.getD_eq_getElem?_getD, hj]
    · simp [World.cell?, hh]; omega
    · simp [World.frozen?, hh]
theorem bytes_row (w : World) (s : ByteArray) (hm : s.size ≤ maxLen) : BRow (Lib.bytesWorld w 5 s) w.heap.size (.slice (some ⟨w.heap.size, 0, none⟩) s.size (grownCap w s.size 0 5)) s.data.toList := by
  obtain ⟨sp, hsp⟩ := bytes9_new w s
  have hge := grownCap_ge w s.size 0 5
  have hcm : grownCap w s.size 0 5 ≤ maxLen := grownCap_le_maxLen w s.size 0 5 hm
  have hsz : s.data.toList.length + sp.length = grownCap w s.size 0 5 := by
    have h1 := Lib.bytesWorld_at_new w 5 s
    rw [show (Lib.bytesWorld w 5 s).heap[w.heap.size]? = _ from hsp] at h1
    have h2 := congrArg (fun o => match o with | some (Obj.cells _ _ fr) => fr.1 | _ => 0) h1
    simp [Lib.bytesCells] at h2
    have : s.data.size = s.size := rfl
    simp; omega
  have hsl : s.data.toList.length = s.size := by rw [Array.length_toList]; rfl
  refine ⟨w.heap.size, _, rfl, Nat.le_refl _, hsp.lt, hge, hcm, fun j hj => hsp.cell j hj, fun j hj => ?_⟩
  simp only [World.cell?, World.frozen?, show (Lib.bytesWorld w 5 s).heap[w.heap.size]? = _ from hsp]
  simp
  rw [Array.length_toList] at hsl hsz
  omega
theorem BRow.conv {P : Program} {w : World} {base : Nat} {v : Value} {L : List UInt8} (h : BRow w base v L) (t31 : P.underlying 31 = some (.slice 5)) (t5 : P.underlying 5 = some (.int .u8)) (t9 : P.underlying 9 = some .string) :
    (convert 31 9 v).run P w = .ok (.string (mk L)) w := by
  obtain ⟨g, cap, rfl, hg, hlt, h1, h2, h3, h4⟩ := h
  have h5 := run_convert_bytes_arg (P := P) w 31 5 t31 t5 g 0 L.length cap (L.map fun c => (c.toNat : Int)) (by simp)
      (fun i hi => by rw [Nat.zero_add, h3 i hi]; simp [List.getD_eq_getElem?_getD, hi]) 9 t9
  rw [h5]
  congr 3
  simp [strOfNums, Function.comp_def]
  rfl

theorem append_brow {w : World} {base : Nat} {v : Value} {L : List UInt8} (h : BRow w base v L) (hbase : base ≤ w.heap.size) (ty : TypeId) (g2 m c : Nat) (M : List UInt8) (hm : m = M.length)
    (cs : Array Value) (fr : Nat × Nat) (hg2 : w.heap[g2]? = some (.cells cs 5 fr)) (hcs : cs.toList = cells M) (hlen : L.length + M.length ≤ 140737488355328) :
    ∃ v' w', (Builtin.append_ #[31, 31] ty #[v, .slice (some ⟨g2, 0, none⟩) m c]).run Try.prog w = .ok v' w' ∧ BRow w' base v' (L ++ M) ∧ Below base w w' := by
  obtain ⟨i0, hi, hz0, hz1, hz2⟩ := info_parts info5
  subst hm
  obtain ⟨g, cap, rfl, hg, hlt, h1, h2, h3, h4⟩ := h
  have hnews : ∀ j u, (cells M)[j]? = some u → w.cell? ((⟨g2, 0, none⟩ : Addr).add j) = some u := fun j u hj => World.news_of_block hg2 j u (by rw [hcs]; exact hj)
  have h1c : ∀ u ∈ cells M, u.oneCell' = true := fun u hu => by obtain ⟨q, _, rfl⟩ := List.mem_map.1 hu; rfl
  by_cases hr : L.length + M.length ≤ cap
  · have hrun := run_append_room_cells (P := Try.prog) w 31 ty 5 i0 Try.underlying31 hi g 0 L.length cap ⟨g2, 0, none⟩ M.length c (cells M) (by rw [cells_length, hz1, Nat.mul_one]) hnews h1c hr
      (fun j hj => (h4 _ (by rw [cells_length] at hj; rw [hz1]; omega)).1) (fun j hj => (h4 _ (by rw [cells_length] at hj; rw [hz1]; omega)).2)
    rw [hz1, Nat.mul_one, Nat.zero_add] at hrun
    refine ⟨_, _, hrun, ⟨g, cap, by rw [List.length_append], hg, by rw [setCells_size]; exact hlt, by rw [List.length_append]; exact hr, h2, fun j hj => ?_, fun j hj => ⟨?_, ?_⟩⟩, below_setCells (Below.refl _ _) hg _ _⟩
    · by_cases hj2 : j < L.length
      · rw [World.cell?_setCells_out g (cells M) L.length w ⟨g, j, none⟩ (fun _ _ => .inl hj2), h3 j hj2]
        simp [List.getD_eq_getElem?_getD, List.getElem?_append, hj2]
      · obtain ⟨q, rfl⟩ : ∃ q, j = L.length + q := ⟨j - L.length, by omega⟩
        rw [List.length_append] at hj
        have hq : q < (cells M).length := by rw [cells_length]; omega
        rw [World.cell?_setCells_in g (cells M) L.length w (fun i hi' => (h4 _ (by rw [cells_length] at hi'; omega)).1) q hq]
        have hqM : q < M.length := by omega
        simp [cells, List.getD_eq_getElem?_getD, List.getElem?_append, hqM]
    · by_cases hin : L.length ≤ j ∧ j < L.length + M.length
      · obtain ⟨q, rfl⟩ : ∃ q, j = L.length + q := ⟨j - L.length, by omega⟩
        rw [World.cell?_setCells_in g (cells M) L.length w (fun i hi' => (h4 _ (by rw [cells_length] at hi'; omega)).1) q (by rw [cells_length]; omega)]; rfl
      · rw [World.cell?_setCells_out g (cells M) L.length w ⟨g, j, none⟩ (fun _ _ => by rw [cells_length]; show j < _ ∨ _ ≤ j; omega)]
        exact (h4 j hj).1
    · rw [World.frozen?_setCells]; exact (h4 j hj).2
  · obtain ⟨v', w', hrun, r1, r2⟩ := run_append_arg_grows (P := Try.prog) w 31 ty 5 i0 (.int .u8 0) 1 1 Try.underlying31 hi hz0 hz1 hz2 rfl (by decide) ⟨g, 0, none⟩ L.length cap (cells L) (by rw [cells_length, Nat.mul_one])
      (fun j u hj => by
        have hjl : j < L.length := by have := (List.getElem?_eq_some_iff.1 hj).1; rwa [cells_length] at this
        rw [Addr.add_lit, Nat.zero_add, h3 j hjl]
        simp [cells, hjl] at hj
        rw [← hj, List.getD_eq_getElem?_getD, List.getElem?_eq_getElem hjl]; rfl)
      ⟨g2, 0, none⟩ M.length c (cells M) (by rw [cells_length, Nat.mul_one]) hnews (by omega) (by unfold maxLen; omega) (by omega)
    refine ⟨v', w', hrun, ?_, (Below.refl _ _).grown r2 hbase (fun _ hk => by cases hk)⟩
    rw [← cells_append, ← List.length_append] at r1
    have hr1 : w'.ownsRow base 5 1 v' (L ++ M).length (cells (L ++ M)) := by
      refine ⟨r1.1, ?_⟩
      rcases r1.2 with r | ⟨g, cap, cur, a, b, r⟩
      · exact .inl r
      · exact .inr ⟨g, cap, cur, a, Nat.le_trans hbase b, r⟩
    refine BRow.of_own hr1 (fun e => ?_)
    rcases r1.2 with ⟨_, r⟩ | ⟨g, cap, cur, a, b, r⟩
    · rw [List.length_append] at r; omega
    · rw [a] at e; cases e

section
variable {ops : Array Oper} {fl : Nat → Nat} {Q : Act → World → Prop} {k : Nat} {rest : List Oper} {a : Act} {w : World}
theorem txt_append_brow {o : Oper} (hk : ops[k]? = some o) (hf : fl k = 2) (hw : Region.wanted o (yielded ops a.tmps) = true) (s x : Operand)
    (ho : o.op = .call { callee := .builtin .append, args := #[s, x], argTypes := #[31, 31] })
    (base : Nat) (v : Value) (L : List UInt8) (hs : a.eval s = v) (hown : BRow w base v L) (hbase : base ≤ w.heap.size) (g m c : Nat) (M : List UInt8) (hx : a.eval x = .slice (some ⟨g, 0, none⟩) m c) (hm : m = M.length)
    (cs : Array Value) (fr : Nat × Nat) (hg : w.heap[g]? = some (.cells cs 5 fr)) (hcs : cs.toList = cells M) (hlen : L.length + M.length ≤ 140737488355328)
    (h : ∀ v' w', BRow w' base v' (L ++ M) → Below base w w' → wpTxt Try.prog ops fl Q (k + 1) rest (a.put o.dst v') w') : wpTxt Try.prog ops fl Q k (o :: rest) a w := by
  obtain ⟨v', w', hrun, h1, h2⟩ := append_brow hown hbase o.type g m c M hm cs fr hg hcs hlen
  refine txt_act hk hf hw fun K hK => ?_
  unfold Oper.wp
  simp [execOp, ho, resolve, invoke, builtin, hs, hx, hrun, Result.andThen]
  exact hK _ _ (h v' w' h1 h2)
end
end Go.Proofs.Ytndiagcpinmefaa.Dg
