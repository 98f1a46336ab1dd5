/- name.Lower. -/
import Derived.Test.YticijejnemnmlaaNmR
import Derived.Maps.AppendAt
import Derived.Laws.MakeOwn
import Derived.Laws.IdiomCopy
import Derived.Laws.BytesArg
import Derived.Lib.AppendStr
import Derived.Stop.RegionWithIn
import Derived.IntWalk
import Derived.Test.YticijejnemnmlaaRt
namespace Go.Proofs.Yticijejnemnmlaa.Nm
open Go.RowKit Go.Shelf Rt
set_option linter.unusedSimpArgs false
attribute [local go_sem] Oper.semAt_some

theorem setCells_far {g : Nat} (vs : List Value) : ∀ (o : Nat) {w : World} (k : Nat), k ≠ g → (w.setCells g o vs).heap[k]? = w.heap[k]? := by
  induction vs with
  | nil => intro o w k _; rfl
  | cons v r ih => intro o w k hk; rw [World.setCells, ih _ _ hk]; exact Below.heap_setCell w ⟨g, o, none⟩ v k hk
theorem setCells_same (g : Nat) (vs : List Value) : ∀ (o : Nat) (w : World), (w.setCells g o vs).os = w.os ∧ (w.setCells g o vs).tape = w.tape ∧ (w.setCells g o vs).output = w.output ∧ (w.setCells g o vs).heap.size = w.heap.size := by
  induction vs with
  | nil => intro o w; exact ⟨rfl, rfl, rfl, rfl⟩
  | cons v r ih => intro o w; rw [World.setCells]; obtain ⟨h1, h2, h3, h4⟩ := ih (o + 1) (w.setCell ⟨g, o, none⟩ v); exact ⟨h1, h2, h3, by rw [h4]; simp [World.setCell]⟩
theorem blk_put {W : World} {g : Nat} {e : TypeId} {A : Array Value} (h : W.heap[g]? = some (.cells A e (0, 0))) (i : Nat) (v : Value) : (W.setCell ⟨g, i, none⟩ v).heap[g]? = some (.cells (A.setIfInBounds i v) e (0, 0)) := by
  obtain ⟨hl, hk⟩ := Array.getElem?_eq_some_iff.1 h
  show (W.heap.modify g _)[g]? = _
  rw [Array.getElem?_eq_getElem (by rw [Array.size_modify]; exact hl), Array.getElem_modify_self, hk]
  rfl
theorem setCells_row {g : Nat} {e : TypeId} (vs : List Value) : ∀ (o : Nat) (w : World) (cur : Array Value), w.heap[g]? = some (.cells cur e (0, 0)) → o + vs.length ≤ cur.size →
    ∃ cur', (w.setCells g o vs).heap[g]? = some (.cells cur' e (0, 0)) ∧ cur'.size = cur.size ∧ cur'.toList = cur.toList.take o ++ vs ++ cur.toList.drop (o + vs.length) := by
  induction vs with
  | nil => intro o w cur h _; exact ⟨cur, h, rfl, by simp⟩
  | cons v r ih =>
    intro o w cur h hl
    simp only [List.length_cons] at hl
    obtain ⟨c, h3, h4, h5⟩ := ih (o + 1) (w.setCell ⟨g, o, none⟩ v) _ (blk_put h o v) (by simp; omega)
    refine ⟨c, h3, by rw [h4]; simp, ?_⟩
    rw [h5]
    apply List.ext_getElem?
    intro j
    simp only [Array.toList_setIfInBounds, List.getElem?_append, List.length_append, List.length_take, List.length_set, List.getElem?_take, List.getElem?_drop, List.getElem?_set, List.length_cons, Array.length_toList]
    by_cases h1 : j < o
    · have e1 : ¬ o = j := by omega
      rw [if_pos (by omega), if_pos (by omega), if_pos (by omega), if_neg e1, if_pos (by omega), if_pos (by omega), if_pos h1]
    · by_cases h2 : j = o
      · subst h2
        have e1 : min j cur.size = j := by omega
        rw [if_pos (by omega), if_pos (by omega), if_pos (by omega), if_pos rfl, if_pos (by omega), if_pos (by omega), if_neg (by omega), e1, Nat.sub_self]
        rfl
      · by_cases h3 : j < o + 1 + r.length
        · rw [if_pos (by omega), if_neg (by omega), if_pos (by omega), if_neg (by omega), Nat.min_eq_left (by omega), Nat.min_eq_left (by omega), show j - o = (j - (o + 1)) + 1 by omega, List.getElem?_cons_succ]
        · rw [if_neg (by omega), if_neg (by omega), Nat.min_eq_left (by omega), Nat.min_eq_left (by omega), if_neg (by omega)]
          congr 1; omega

def lowU (c : UInt8) : UInt8 := if 65 ≤ c ∧ c ≤ 90 then c ||| 32 else c

theorem bits_or32_fin : ∀ k : Fin 256, bits BinOp.or IntKind.u8 (k.val : Int) 32 = ((UInt8.ofNat k.val ||| 32).toNat : Int) := by decide +kernel
theorem bits_or32 (c : UInt8) : bits BinOp.or IntKind.u8 (c.toNat : Int) 32 = ((c ||| 32).toNat : Int) := by
  have := bits_or32_fin ⟨c.toNat, UInt8.toNat_lt c⟩
  simpa using this

theorem wpList_run_value {P : Program} {ops : Array Oper} {rest : List Oper} {o : Oper} {a : Act} {Q : Exit → Act → World → Prop} {w w' : World} {v : Value}
    (hg : o.guard = none) (hr : (execOp a.eval o).run P w = .ok (.value v) w') (h : wpList P ops Q rest (a.put o.dst v) w') : wpList P ops Q (o :: rest) a w :=
  wpList_plain hg fun K hK => by unfold Oper.wp; rw [hr]; exact hK _ _ h

set_option maxHeartbeats 1000000 in
theorem small_in (F : Fence) (n : Nat) (h48 : F.fn 48) (hro : F.round = none) (c : UInt8) (w : World) :
    CallsIn F n Try.prog 48 #[.int .u8 (c.toNat : Int)] w fun e w' => e = .returned (.int .u8 ((lowU c).toNat : Int)) ∧ w' = w := by
  have hc : (c.toNat : Int) ≤ 255 := by have := UInt8.toNat_lt c; omega
  by_cases h1 : (65 : Int) ≤ c.toNat
  · by_cases h2 : (c.toNat : Int) ≤ 90
    · refine callsIn_of_wp Try.func48 rfl h48 ?_ hro
      simp only [Try.ntmps48, List.size_toArray, List.length_cons, List.length_nil, Nat.reduceAdd, Nat.reduceSub, Array.replicate_succ, Array.replicate_zero, List.push_toArray, List.append_toArray, List.nil_append, List.cons_append]
      gi_wp2
      refine bodyPost_ret (v := .int .u8 (bits BinOp.or IntKind.u8 (c.toNat : Int) 32)) (results_tmp (t := 2) rfl _ _ _) rfl ⟨?_, rfl⟩
      have hq : (lowU c) = c ||| 32 := by unfold lowU; rw [if_pos]; exact ⟨by rw [UInt8.le_iff_toNat_le]; show 65 ≤ _; omega, by rw [UInt8.le_iff_toNat_le]; show _ ≤ 90; omega⟩
      rw [hq, bits_or32]
    · have hq : (lowU c) = c := by unfold lowU; rw [if_neg]; rintro ⟨_, h⟩; rw [UInt8.le_iff_toNat_le] at h; replace h : _ ≤ 90 := h; omega
      rw [hq]
      clear hq
      refine callsIn_of_wp Try.func48 rfl h48 ?_ hro
      simp only [Try.ntmps48, List.size_toArray, List.length_cons, List.length_nil, Nat.reduceAdd, Nat.reduceSub, Array.replicate_succ, Array.replicate_zero, List.push_toArray, List.append_toArray, List.nil_append, List.cons_append]
      gi_wp2
      refine bodyPost_ret (results_tmp rfl _ _ _) rfl ⟨rfl, rfl⟩
  · have hq : (lowU c) = c := by unfold lowU; rw [if_neg]; rintro ⟨h, _⟩; rw [UInt8.le_iff_toNat_le] at h; replace h : 65 ≤ _ := h; omega
    rw [hq]
    clear hq
    refine callsIn_of_wp Try.func48 rfl h48 ?_ hro
    simp only [Try.ntmps48, List.size_toArray, List.length_cons, List.length_nil, Nat.reduceAdd, Nat.reduceSub, Array.replicate_succ, Array.replicate_zero, List.push_toArray, List.append_toArray, List.nil_append, List.cons_append]
    gi_wp2
    refine bodyPost_ret (results_tmp rfl _ _ _) rfl ⟨rfl, rfl⟩
theorem Right_any (s : ByteArray) (hs : s.size ≤ 140737488351232) (w : World) : Calls Try.prog 28 #[.string s] w fun e W' => e = .returned (.bool (rightB s)) ∧ Below w.heap.size w W' :=
  (callsIn_wide (n := 100)).1 (Right_in Fence.wide 100 trivial trivial trivial rfl (by omega) s hs w)
theorem labels_any (s : ByteArray) (w : World) : Calls Try.prog 43 #[.string s] w fun e w' => e = .returned (.func (.func 51) #[] #[.pointer (some ⟨w.heap.size, 0, none⟩)]) ∧ w' = w.alloc (.cells #[.string s] 9) :=
  (callsIn_wide (n := 100)).1 (labels_in Fence.wide 100 trivial rfl s w)
theorem small_any (c : UInt8) (w : World) : Calls Try.prog 48 #[.int .u8 (c.toNat : Int)] w fun e w' => e = .returned (.int .u8 ((lowU c).toNat : Int)) ∧ w' = w :=
  (callsIn_wide (n := 100)).1 (small_in Fence.wide 100 trivial rfl c w)

/-- Bytes as cells. -/
def enc8 (L : List UInt8) : Array Value := (L.map fun c => Value.int .u8 (c.toNat : Int)).toArray
theorem enc8_size (L : List UInt8) : (enc8 L).size = L.length := by simp [enc8]

/-- Block g holds the bytes L. -/
def Bytes8 (W : World) (g : Nat) (L : List UInt8) : Prop := W.heap[g]? = some (.cells (enc8 L) 5 (0, 0))
theorem Bytes8.lt {W : World} {g : Nat} {L : List UInt8} (h : Bytes8 W g L) : g < W.heap.size := (Array.getElem?_eq_some_iff.1 h).1
theorem Bytes8.cell {W : World} {g : Nat} {L : List UInt8} (h : Bytes8 W g L) (j : Nat) (hj : j < L.length) : W.cell? ⟨g, j, none⟩ = some (.int .u8 (L[j].toNat : Int)) := by
  simp [World.cell?, show W.heap[g]? = _ from h, enc8, hj]
theorem Bytes8.frozen {W : World} {g : Nat} {L : List UInt8} (h : Bytes8 W g L) (j : Nat) : W.frozen? ⟨g, j, none⟩ = false := by
  simp [World.frozen?, show W.heap[g]? = _ from h]
theorem Bytes8.set {W : World} {g : Nat} {L : List UInt8} (h : Bytes8 W g L) (j : Nat) (c : UInt8) : Bytes8 (W.setCell ⟨g, j, none⟩ (.int .u8 (c.toNat : Int))) g (L.set j c) := by
  obtain ⟨hlt, hk⟩ := Array.getElem?_eq_some_iff.1 h
  show (W.heap.modify g _)[g]? = _
  rw [Array.getElem?_eq_getElem (by rw [Array.size_modify]; exact hlt), Array.getElem_modify_self, hk]
  simp [enc8, List.map_set]
theorem Bytes8.below {W W' : World} {g n : Nat} {L : List UInt8} (h : Bytes8 W g L) (hb : Below n W W') (hg : g < n) : Bytes8 W' g L := (hb.block g hg).trans h
theorem Bytes8.other {W : World} {g : Nat} {L : List UInt8} (h : Bytes8 W g L) (a : Addr) (v : Value) (hne : g ≠ a.block) : Bytes8 (W.setCell a v) g L := (Below.heap_setCell W a v g hne).trans h
theorem grownBy_drew {A B : World} {row : Option Nat} (h : A.grownBy B row) : A.grownBy B.drew row := ⟨h.os, h.tape, h.output, h.size, h.block⟩
theorem World.grownBy_setCell_at (W : World) (a : Addr) (v : Value) : W.grownBy (W.setCell a v) (some a.block) :=
  ⟨rfl, rfl, rfl, (KeepsWalks.setCell W _ v).size, fun k _ hk => Below.heap_setCell _ _ _ k (fun e => hk (by rw [e]))⟩
theorem KeepsCell.drew {B : Nat} {W W' : World} (h : KeepsCell B W W') : KeepsCell B W W'.drew := h
theorem Bytes8.kept {A B : World} {row : Option Nat} {g : Nat} {L : List UInt8} (h : Bytes8 A g L) (hg : A.grownBy B row) (hr : ∀ r, row = some r → ∃ o : Obj, A.heap[r]? = some o ∧ o.isCells = false) : Bytes8 B g L :=
  (hg.block g h.lt (fun e => by obtain ⟨o, ho, hc⟩ := hr _ e.symm; rw [show A.heap[g]? = _ from h] at ho; cases ho; cases hc)).trans h
theorem Bytes8.alloc {W : World} {g : Nat} {L : List UInt8} (h : Bytes8 W g L) (o : Obj) : Bytes8 (W.alloc o) g L := (Below.heap_alloc W o g h.lt).trans h

/-- What 'make' and 'copy' leave. -/
theorem setCells_all {W : World} {g : Nat} {Z : Array Value} (hz : W.heap[g]? = some (.cells Z 5 (0, 0))) (L : List UInt8) (hl : Z.size = L.length) : Bytes8 (W.setCells g 0 (enc8 L).toList) g L ∧ ∀ n, n ≤ g → Below n W (W.setCells g 0 (enc8 L).toList) := by
  obtain ⟨cur', h1, h2, h3⟩ := setCells_row (enc8 L).toList 0 W Z hz (by simp [enc8, hl])
  obtain ⟨s1, s2, s3, s4⟩ := setCells_same g (enc8 L).toList 0 W
  refine ⟨?_, fun n hn => ⟨s1, s2, s3, Nat.le_of_eq s4.symm, fun k hk => setCells_far _ _ k (by omega)⟩⟩
  have : cur' = enc8 L := by
    apply Array.toList_inj.1
    rw [h3]
    have hlen : Z.toList.length = L.length := by simpa using hl
    rw [List.take_zero, List.nil_append, List.drop_eq_nil_of_le (by simp [enc8, hl]), List.append_nil]
  rw [this] at h1
  exact h1

theorem info5 : (Try.prog.info? 5).map (fun i => (i.zero, i.size, i.bytes)) = some (some (.int .u8 0), 1, 1) := by kernel_rfl

/-- copy(b, s) into a row as long as s. -/
theorem run_copy_str {W : World} {g : Nat} {Z : Array Value} (s : ByteArray) (hz : W.heap[g]? = some (.cells Z 5 (0, 0))) (hl : Z.size = s.size) (cap : Nat) :
    ∃ W', (Builtin.copy_ #[82, 9] 3 #[.slice (some ⟨g, 0, none⟩) s.size cap, .string s]).run Try.prog W = .ok (.int .i64 (s.size : Int)) W' ∧ Bytes8 W' g s.data.toList ∧ (∀ n, n ≤ g → Below n W W') ∧ (∀ k, k ≠ g → W'.heap[k]? = W.heap[k]?) ∧ W'.heap.size = W.heap.size := by
  have hsz : (enc8 s.data.toList).toList.length = s.size := by simp [enc8]
  have hb := setCells_all hz s.data.toList (by rw [hl]; simp)
  obtain ⟨_, _, _, s4⟩ := setCells_same g (enc8 s.data.toList).toList 0 W
  refine ⟨W.setCells g 0 (enc8 s.data.toList).toList, ?_, hb.1, hb.2, fun k hk => setCells_far _ _ k hk, s4⟩
  have hf := Lib.run_firstCells_string (P := Try.prog) W 1 s
  have hst := run_storeCells_cells (P := Try.prog) g 0 (enc8 s.data.toList).toList 0 W
    (fun j hj => by rw [hsz] at hj; simp [World.cell?, hz, hl, hj]) (fun j hj => by simp [World.frozen?, hz]) (fun v hv => by simp [enc8] at hv; obtain ⟨c, _, rfl⟩ := hv; rfl)
  obtain ⟨i5, hi, hz0, hz1, hz2⟩ := info_parts info5
  have he : (Lib.strCells s) = (enc8 s.data.toList).toList := by simp [Lib.strCells, enc8]
  rw [he] at hf
  simp [Builtin.copy_, run_underlying Try.underlying82, Builtin.lenOf, sizeOf, typeInfo, hi, hz1, hf, hst, goInt]

theorem at_oper (o : Oper) {P : Program} {ops : Array Oper} {Q : Exit → Act → World → Prop} {rest : List Oper} {a : Act} {w : World} (h : wpList P ops Q (o :: rest) a w) : wpList P ops Q (o :: rest) a w := h

theorem wpList_copy_str {ops : Array Oper} {Q : Exit → Act → World → Prop} {rest : List Oper} {o : Oper} {a : Act} {w : World} (x y : Operand) (hg : o.guard = none) (hop : o.op = .call { callee := .builtin .copy, args := #[x, y], argTypes := #[82, 9] }) (ht : o.type = 3)
    {g cap : Nat} {s : ByteArray} {Z : Array Value} (hx : a.eval x = .slice (some ⟨g, 0, none⟩) s.size cap) (hy : a.eval y = .string s) (hz : w.heap[g]? = some (.cells Z 5 (0, 0))) (hl : Z.size = s.size)
    (h : ∀ W', Bytes8 W' g s.data.toList → (∀ n, n ≤ g → Below n w W') → (∀ k, k ≠ g → W'.heap[k]? = w.heap[k]?) → W'.heap.size = w.heap.size → wpList Try.prog ops Q rest (a.put o.dst (.int .i64 s.size)) W') : wpList Try.prog ops Q (o :: rest) a w := by
  obtain ⟨W', h1, h2, h3, h4, h5⟩ := run_copy_str s hz hl cap
  refine wpList_run_value hg ?_ (h W' h2 h3 h4 h5)
  generalize a.eval = ρ at hx hy ⊢
  simp [execOp, hop, ht, resolve, hx, hy, go_sem, builtin, h1]

/-- The bytes from a on, m of them, as small letters. -/
def loRange (L : List UInt8) (a m : Nat) : List UInt8 := L.mapIdx fun j c => if a ≤ j ∧ j < a + m then lowU c else c
theorem loRange_length (L : List UInt8) (a m : Nat) : (loRange L a m).length = L.length := by simp [loRange]
theorem loRange_zero (L : List UInt8) (a : Nat) : loRange L a 0 = L := by
  apply List.ext_getElem
  · simp [loRange]
  · intro i h1 h2; simp [loRange]; intro h3 h4; omega
theorem loRange_get (L : List UInt8) (a m : Nat) (h : a + m < L.length) : (loRange L a m)[a + m]'(by rw [loRange_length]; exact h) = L[a + m] := by
  simp [loRange]
theorem loRange_succ (L : List UInt8) (a m : Nat) (h : a + m < L.length) : (loRange L a m).set (a + m) (lowU L[a + m]) = loRange L a (m + 1) := by
  apply List.ext_getElem
  · simp [loRange]
  · intro i h1 h2
    simp only [List.getElem_set, loRange, List.getElem_mapIdx]
    by_cases hi : a + m = i
    · subst hi; simp
    · rw [if_neg hi]
      by_cases hr : a ≤ i ∧ i < a + m
      · rw [if_pos hr, if_pos (by omega)]
      · rw [if_neg hr, if_neg (by omega)]

def loAll (L : List UInt8) (pre : List (Nat × ByteArray)) : List UInt8 := pre.foldl (fun L x => loRange L (x.1 + 1) x.2.size) L
theorem loAll_length (pre : List (Nat × ByteArray)) : ∀ L : List UInt8, (loAll L pre).length = L.length := by
  induction pre with
  | nil => intro L; rfl
  | cons x pre ih => intro L; rw [loAll, List.foldl_cons]; rw [← loAll, ih, loRange_length]
theorem loAll_snoc (L : List UInt8) (pre : List (Nat × ByteArray)) (x : Nat × ByteArray) : loAll L (pre ++ [x]) = loRange (loAll L pre) (x.1 + 1) x.2.size := by simp [loAll]

/-- A name with small letters, as the walk tells it. -/
def lowerW (s : ByteArray) : ByteArray := if rightB s then ⟨(loAll s.data.toList (labs s 0)).toArray⟩ else s

set_option maxRecDepth 100000 in
set_option maxHeartbeats 2000000 in
theorem Lower_any (s : ByteArray) (hs : s.size ≤ 140737488351232) (w : World) :
    Calls Try.prog 30 #[.string s] w fun e W' => e = .returned (.string (lowerW s)) ∧ Below w.heap.size w W' := by
  by_cases hR : rightB s = true
  · have hsz : s.size ≤ 255 := by unfold rightB at hR; simp at hR; omega
    have hL : lowerW s = ⟨(loAll s.data.toList (labs s 0)).toArray⟩ := by unfold lowerW; rw [if_pos hR]
    rw [hL]
    clear hL
    obtain ⟨i5, hi, hz0, hz1, hz2⟩ := info_parts info5
    obtain ⟨Z, hZ, hmk⟩ : ∃ Z : Array Value, Z.size = s.size ∧ ∀ W : World, (Instr.makeSlice 82 (.int .i64 (s.size : Int)) (.int .i64 (s.size : Int))).run Try.prog W = .ok (.slice (some ⟨W.heap.size, 0, none⟩) s.size s.size) (W.alloc (.cells Z 5)) := by
      refine ⟨madeCells (Value.int .u8 0).cells (s.size * 1), by rw [size_madeCells]; omega, fun W => ?_⟩
      have := run_make (P := Try.prog) W 82 5 i5 (.int .u8 0) Try.underlying82 hi hz0 .i64 .i64 s.size s.size (by omega) (by omega) (by rw [hz2]; omega) (by omega)
      rw [hz1, Int.toNat_natCast] at this
      exact this
    refine (callsIn_wide (n := 100)).1 (callsIn_of_wp_marks Try.func30 rfl trivial (wpIn_wide.2 ?_) rfl)
    simp only [Try.ntmps30, List.size_toArray, List.length_cons, List.length_nil, Nat.reduceAdd, Nat.reduceSub, Array.replicate_succ, Array.replicate_zero, List.push_toArray, List.append_toArray, List.nil_append, List.cons_append]
    go_wp2_with (first | (go_at_call 28; refine (Right_any s hs _).mono ?_; rintro e w0 ⟨rfl, hb0⟩; rw [hR]) | (with_reducible refine at_oper ⟨some 16, _, _, _, _, _⟩ ?_; go_must (refine wpList_copy_str _ _ rfl rfl rfl rfl rfl (Z := Z) (by have h1 := World.alloc_heap_new w0 (.cells Z 5); exact (Below.heap_alloc _ _ _ (by simp)).trans h1) hZ ?_; intro Wc hby hbel hoth hszc; have hbx : Boxed Wc (w0.heap.size + 1) 82 (.slice (some ⟨w0.heap.size, 0, none⟩) s.size s.size) := by { have h1 := World.alloc_heap_new (w0.alloc (.cells Z 5)) (.cells #[.slice (some ⟨w0.heap.size, 0, none⟩) s.size s.size] 82); rw [World.size_alloc] at h1; unfold Boxed; rw [hoth (w0.heap.size + 1) (by omega)]; exact h1 }; have hbc : Below w0.heap.size w0 Wc := (((Below.refl _ w0).alloc (Nat.le_refl _) _).alloc (by simp) _).trans (hbel _ (Nat.le_refl _)); simp only [World.size_alloc] at hszc; clear hoth hbel)) | (go_at_call 43; refine (labels_any s _).mono ?_; rintro e w' ⟨rfl, rfl⟩))
    have bN := Boxed.new Wc 9 (.string s)
    have hB0 : Below w0.heap.size w0 (Wc.alloc (.cells #[.string s] 9)) := hbc.alloc (by omega) _
    have hby0 := hby.alloc (.cells #[.string s] 9)
    have hbx0 := hbx.alloc (.cells #[.string s] 9)
    rw [hszc] at bN
    refine wpIn_wide.1 (wpIn_rangeFunc_ownG (F := Fence.wide) (n := 100) rfl (by omega) (gf := 51) (lb := #[.pointer (some ⟨w0.heap.size + 1 + 1, 0, none⟩)]) rfl trivial (enters_of Try.func51 (by kernel_rfl) rfl)
      (labels_stops Fence.wide 99 trivial rfl (by omega) (w0.heap.size + 1 + 1) s hs _ (by simp [hszc]) bN.cell) KeepsCell.trans KeepsCell.putObj (Below.refl _ _) (fun _ => rfl)
      (fun pre W => (Bytes8 W w0.heap.size (loAll s.data.toList (pre.map (·.1))) ∧ Boxed W (w0.heap.size + 1) 82 (.slice (some ⟨w0.heap.size, 0, none⟩) s.size s.size)) ∧ Below w0.heap.size w0 W)
      (fun _ _ _ => False)
      (OwnFrom.and (Own.from (fun pre A B row hs hg hr => ⟨Bytes8.kept hs.1 hg hr, hs.2.kept hg (fun e => by obtain ⟨o, ho, hc⟩ := hr _ e.symm; rw [show A.heap[_]? = _ from hs.2] at ho; cases ho; cases hc)⟩) _) (ownFrom_below (Nat.le_refl _) (by simp; omega)))
      (fun _ _ _ _ _ hs _ _ => hs)
      ⟨⟨hby0, hbx0⟩, hB0⟩
      (fun x => { tmps := #[.string s, undef, .string { data := #[] }, .pointer (some ⟨w0.heap.size + 1, 0, none⟩), .int .i64 (x.1.1 : Int), .string x.1.2, undef, .string s, .bool true, .bool false, undef, .string s, .int .i64 s.size, .slice (some ⟨w0.heap.size, 0, none⟩) s.size s.size, .slice (some ⟨w0.heap.size, 0, none⟩) s.size s.size, .string s, .int .i64 s.size, .string s, .func (.func 51) #[] #[.pointer (some ⟨w0.heap.size + 1 + 1, 0, none⟩)], .int .i64 (x.1.1 : Int), .string x.1.2, undef, undef, undef, undef, undef, undef, undef, undef, undef, undef, undef, undef, undef, undef, undef, undef, undef, undef, undef, undef, undef, undef], defers := [] }) ?assign ?body ?done ?stop)
    case assign =>
      intro l x W K hK
      gi_wp2
      exact hK
    case body =>
      rintro l pre x W ⟨⟨hby1, hbx1⟩, hB⟩ hlt
      obtain ⟨hx1, hx2, hx3, hxa, hxb⟩ := x.spec
      clear hxa hxb
      clear hszc hby hbx hby0 hbx0 hbc hB0 bN
      have hLl : (loAll s.data.toList (pre.map (·.1))).length = s.size := by rw [loAll_length]; simp
      obtain ⟨L, hL⟩ : ∃ L, loAll s.data.toList (pre.map (·.1)) = L := ⟨_, rfl⟩
      rw [hL] at hby1 hLl
      obtain ⟨at0, hat⟩ : ∃ q, x.1.1 = q := ⟨_, rfl⟩
      obtain ⟨lb, hlb⟩ : ∃ q, x.1.2 = q := ⟨_, rfl⟩
      rw [hat, hlb] at hx1
      rw [hlb] at hx2 hx3
      have hF : Hid (loAll s.data.toList ((pre ++ [x]).map (·.1)) = loRange L (at0 + 1) lb.size) := Lib.hid (by rw [List.map_append, List.map_singleton, loAll_snoc, hL, hat, hlb])
      rw [hat, hlb]
      clear hL hat hlb
      gi_wp2
      gi_loopw [23] (fun v wr => ∃ k : Nat, k ≤ lb.size ∧ v = .int .i64 k ∧ Bytes8 wr w0.heap.size (loRange L (at0 + 1) k) ∧ Boxed wr (w0.heap.size + 1) 82 (.slice (some ⟨w0.heap.size, 0, none⟩) s.size s.size) ∧ KeepsOthers W wr ∧ KeepsCell (w0.heap.size + 1 + 1) W wr ∧ Below w0.heap.size w0 wr)
        (fun v _ => lb.size - (intOf v).toNat)
      case atStart => exact ⟨0, Nat.zero_le _, rfl, by rw [loRange_zero]; exact hby1, hbx1, KeepsOthers.refl _, KeepsCell.refl _ _, hB⟩
      case round =>
        obtain ⟨k, hk, rfl, hb2, hbx2, hko, hkc, hB2⟩ := hrel
        by_cases hlt2 : k < lb.size
        · have hj : at0 + 1 + k < (loRange L (at0 + 1) k).length := by rw [loRange_length]; omega
          have hc1 := hb2.cell (at0 + 1 + k) hj
          have hf1 := hb2.frozen (at0 + 1 + k)
          have hset := hb2.set (at0 + 1 + k) (lowU (L[at0 + 1 + k]'(by omega)))
          rw [loRange_get L _ _ (by omega)] at hc1
          rw [loRange_succ L _ _ (by omega)] at hset
          have hS := Lib.hid hset
          have hbc2 := hbx2.cell
          have hi1 : (at0 : Int) + 1 + k < s.size := by omega
          obtain ⟨c, hc⟩ : ∃ c, L[at0 + 1 + k]'(by omega) = c := ⟨_, rfl⟩
          rw [hc] at hc1 hS
          clear hset hc hb2 hF hj hLl
          gi_wp2
          have w3 : 0 ≤ (at0 : Int) + 1 + k := by omega
          have w4 : ((at0 : Int) + 1 + k).toNat = at0 + 1 + k := by omega
          refine Rt.wpIn_region_text [1, 0, 0, 0, 0, 1, 0, 0, 0, 0, 0, 1, 1, 0, 2] (by kernel_rfl) (by kernel_rfl) ?_
          repeat (first | (apply txt_move rfl rfl; (· (simp only [Act.put, Act.eval, List.setIfInBounds_toArray, List.set_cons_zero, List.set_cons_succ, Array.getD_eq_getD_getElem?, List.getElem?_toArray, List.getElem?_cons_zero, List.getElem?_cons_succ, Option.getD_some]; with_reducible rfl))) | (apply txt_assign rfl rfl; (· (simp only [Act.put, Act.eval, List.setIfInBounds_toArray, List.set_cons_zero, List.set_cons_succ, Array.getD_eq_getD_getElem?, List.getElem?_toArray, List.getElem?_cons_zero, List.getElem?_cons_succ, Option.getD_some]; with_reducible rfl))) | (apply txt_skip rfl rfl; (· (simp only [Act.put, Act.eval, List.setIfInBounds_toArray, List.set_cons_zero, List.set_cons_succ, Array.getD_eq_getD_getElem?, List.getElem?_toArray, List.getElem?_cons_zero, List.getElem?_cons_succ, Option.getD_some]; with_reducible rfl))) | (apply txt_pure rfl rfl rfl; (· (intro w; go_simp; (try go_bits); with_reducible rfl)); (· (simp only [Act.put, Act.eval, List.setIfInBounds_toArray, List.set_cons_zero, List.set_cons_succ, Array.getD_eq_getD_getElem?, List.getElem?_toArray, List.getElem?_cons_zero, List.getElem?_cons_succ, Option.getD_some]; with_reducible rfl))) | (apply txt_read rfl rfl rfl; (· (go_simp; with_reducible rfl)); (· (simp only [Act.put, Act.eval, List.setIfInBounds_toArray, List.set_cons_zero, List.set_cons_succ, Array.getD_eq_getD_getElem?, List.getElem?_toArray, List.getElem?_cons_zero, List.getElem?_cons_succ, Option.getD_some]; with_reducible rfl))) | (apply txt_quiet rfl rfl rfl; (· (go_simp; exact ⟨rfl, rfl⟩)); (· (exact small_any c _)); (· (simp only [Act.put, Act.eval, List.setIfInBounds_toArray, List.set_cons_zero, List.set_cons_succ, Array.getD_eq_getD_getElem?, List.getElem?_toArray, List.getElem?_cons_zero, List.getElem?_cons_succ, Option.getD_some]; with_reducible rfl))) | (apply txt_do rfl rfl rfl; (· (go_simp; with_reducible rfl)); (· (simp only [Act.put, Act.eval, List.setIfInBounds_toArray, List.set_cons_zero, List.set_cons_succ, Array.getD_eq_getD_getElem?, List.getElem?_toArray, List.getElem?_cons_zero, List.getElem?_cons_succ, Option.getD_some]; with_reducible rfl))) | (apply txt_value rfl rfl rfl; (· (go_simp; exact ⟨rfl, rfl⟩)); (· (simp only [Act.put, Act.eval, List.setIfInBounds_toArray, List.set_cons_zero, List.set_cons_succ, Array.getD_eq_getD_getElem?, List.getElem?_toArray, List.getElem?_cons_zero, List.getElem?_cons_succ, Option.getD_some]; with_reducible rfl))))
          with_reducible refine txt_nil ?_
          gi_wp2
          go_roundw
          case rel => exact ⟨k + 1, by omega, by go_num, hS.out, hbx2.kept (row := some w0.heap.size) (grownBy_drew (World.grownBy_setCell_at wr ⟨w0.heap.size, at0 + 1 + k, none⟩ _)) (by simp), hko.trans ((KeepsOthers.setCell _ _ _).trans (KeepsOthers.drew _)), hkc.trans (KeepsCell.drew (KeepsCell.setCell _ _ _ (by simp; omega))), (hB2.setCell (p := ⟨w0.heap.size, at0 + 1 + k, none⟩) (Nat.le_refl _) _).drew⟩
          case measure => simp [intOf]; omega
        · obtain rfl : k = lb.size := by omega
          have hS := Lib.hid hb2
          clear hb2
          gi_wp2
          exact ⟨hko.from _, hkc, ⟨by rw [hF.out]; exact hS.out, hbx2⟩, hB2⟩
    case done =>
      rintro D ys W hD hys ⟨⟨hby1, hbx1⟩, hB⟩ hK
      have hfin : Below w.heap.size w (W.putObj D (.deferred none)) := hb0.trans ((hB.mono hb0.size).trans (belowK_b (w := w0) (hb0.size) W D _ _ (by simp at hD; omega) hK rfl rfl))
      rw [hys] at hby1
      have hbc1 := hbx1.cell
      have hlen : (loAll s.data.toList (labs s 0)).length = s.size := by rw [loAll_length]; simp
      have hcv : (convert 82 9 (.slice (some ⟨w0.heap.size, 0, none⟩) s.size s.size)).run Try.prog W = .ok (.string ⟨(loAll s.data.toList (labs s 0)).toArray⟩) W := by
        have h1 := run_convert_bytes_arg (P := Try.prog) W 82 5 Try.underlying82 Try.underlying5 w0.heap.size 0 s.size s.size ((loAll s.data.toList (labs s 0)).map fun c => (c.toNat : Int)) (by simpa using hlen)
          (fun i hi => by
            have := hby1.cell i (by omega)
            rw [Nat.zero_add, this]
            simp [List.getD_eq_getElem?_getD, hlen, hi]) 9 Try.underlying9
        rw [h1]
        congr 3
        simp [strOfNums, Function.comp_def]
      clear hby1 hbx1 hys hlen hD hB hbx0 hby0 hbx hby hszc hbc hB0 bN
      go_wp2
      refine ⟨by simp, .inl ⟨_, _, rfl, run_takeDeferred hK, ?_⟩⟩
      exact ⟨_, results_tmp rfl _ _ _, rfl, hfin⟩
    case stop =>
      rintro D c pre W _ _ h _
      exact h.elim
  · have hRf : rightB s = false := by simpa using hR
    have hL : lowerW s = s := by unfold lowerW; rw [if_neg hR]
    rw [hL]
    clear hL hR
    refine (callsIn_wide (n := 100)).1 (callsIn_of_wp_marks Try.func30 rfl trivial (wpIn_wide.2 ?_) rfl)
    simp only [Try.ntmps30, List.size_toArray, List.length_cons, List.length_nil, Nat.reduceAdd, Nat.reduceSub, Array.replicate_succ, Array.replicate_zero, List.push_toArray, List.append_toArray, List.nil_append, List.cons_append]
    go_wp2_with (first | (go_at_call 28; refine (Right_any s hs _).mono ?_; rintro e w0 ⟨rfl, hb0⟩; rw [hRf]) | fail)
    exact ⟨_, results_tmp rfl _ _ _, rfl, hb0⟩

theorem right_size {s : ByteArray} (h : rightB s = true) : 0 < s.size ∧ s.size ≤ 255 := by unfold rightB at h; simp at h; omega
theorem lowerW_size (s : ByteArray) : (lowerW s).size = s.size := by
  unfold lowerW
  split
  · show (loAll s.data.toList (labs s 0)).toArray.size = _
    simp [loAll_length]
  · rfl

theorem boxed_kept {A B : World} {row : Option Nat} {g : Nat} {t : TypeId} {v : Value} (h : Boxed A g t v) (hg : A.grownBy B row) (hr : ∀ r, row = some r → ∃ o : Obj, A.heap[r]? = some o ∧ o.isCells = false) : Boxed B g t v :=
  h.kept hg (fun e => by obtain ⟨o, ho, hc⟩ := hr _ e.symm; rw [show A.heap[g]? = _ from h] at ho; cases ho; cases hc)
theorem boxed_below {W W' : World} {B n : Nat} {t : TypeId} {v : Value} (h : Boxed W B t v) (hb : Below n W W') (hn : B < n) : Boxed W' B t v := (hb.block B hn).trans h

end Go.Proofs.Yticijejnemnmlaa.Nm
