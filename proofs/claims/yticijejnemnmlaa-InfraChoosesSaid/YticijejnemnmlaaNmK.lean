/- name.Cased. -/
import Derived.Test.YticijejnemnmlaaNmLo
import Derived.Lib.ConvBytes
import Derived.Lib.Hide
import Derived.OwnWalk
namespace Go.Proofs.Yticijejnemnmlaa.Nm
open Go.RowKit Go.Shelf Rt
set_option linter.unusedSimpArgs false
attribute [local go_sem] Oper.semAt_some

theorem bytesWorld_below (w : World) (e : TypeId) (s : ByteArray) : Below w.heap.size w (Lib.bytesWorld w e s) :=
  ⟨by simp [Lib.bytesWorld, World.freeze, World.alloc, World.drew, -World.alloc_eq, -World.drew_eq], by simp [Lib.bytesWorld, World.freeze, World.alloc, World.drew, -World.alloc_eq, -World.drew_eq], by simp [Lib.bytesWorld, World.freeze, World.alloc, World.drew, -World.alloc_eq, -World.drew_eq], by rw [Lib.bytesWorld_size]; omega, fun k hk => Lib.bytesWorld_at_old w e s k hk⟩

theorem bits_and63 (k : Nat) (h : k < 2 ^ 63) : Go.bits BinOp.and IntKind.i64 (k : Int) 63 = ((k % 64 : Nat) : Int) := by
  unfold Go.bits
  have h1 : (BitVec.ofInt IntKind.i64.bits (k : Int) &&& BitVec.ofInt IntKind.i64.bits 63).toNat = k % 64 := by
    rw [BitVec.toNat_and, BitVec.ofInt_natCast, BitVec.toNat_ofNat]
    show (k % 2 ^ 64) &&& 63 = k % 64
    rw [Nat.mod_eq_of_lt (by omega)]
    exact Nat.and_two_pow_sub_one_eq_mod k 6
  simp only [h1]
  simp [IntKind.wrap, IntKind.bits, IntKind.signed]; omega
theorem bits_and1 (k : Nat) (h : k < 2 ^ 64) : Go.bits BinOp.and IntKind.u64 (k : Int) 1 = ((k % 2 : Nat) : Int) := by
  unfold Go.bits
  have h1 : (BitVec.ofInt IntKind.u64.bits (k : Int) &&& BitVec.ofInt IntKind.u64.bits 1).toNat = k % 2 := by
    rw [BitVec.toNat_and, BitVec.ofInt_natCast, BitVec.toNat_ofNat]
    show (k % 2 ^ 64) &&& 1 = k % 2
    rw [Nat.mod_eq_of_lt (by omega)]
    exact Nat.and_two_pow_sub_one_eq_mod k 1
  simp only [h1]
  simp [IntKind.wrap, IntKind.bits, IntKind.signed]; omega
theorem bits_andNot_fin : ∀ (c : Fin 256) (b : Fin 2), 97 ≤ c.val → c.val ≤ 122 → Go.bits BinOp.andNot IntKind.u8 (c.val : Int) ((b.val : Int) * 32) = ((UInt8.ofNat (c.val - 32 * b.val)).toNat : Int) := by decide +kernel

/-- A small letter c as bit k of bits says. -/
def caseB (bits k : Nat) (c : UInt8) : UInt8 := UInt8.ofNat (c.toNat - 32 * ((bits >>> (k % 64)) % 2))
def isLow (c : UInt8) : Bool := decide (97 ≤ c.toNat) && decide (c.toNat ≤ 122)
def caseStep (bits : Nat) (p : List UInt8 × Nat) (j : Nat) : List UInt8 × Nat :=
  if isLow (p.1.getD j 0) then (p.1.set j (caseB bits p.2 (p.1.getD j 0)), p.2 + 1) else p
def caseRange (bits : Nat) (p : List UInt8 × Nat) (a : Nat) : Nat → List UInt8 × Nat
  | 0 => p
  | m + 1 => caseStep bits (caseRange bits p a m) (a + m)
def caseAll (bits : Nat) (p : List UInt8 × Nat) (ls : List (Nat × ByteArray)) : List UInt8 × Nat :=
  ls.foldl (fun p x => caseRange bits p (x.1 + 1) x.2.size) p
/-- What Cased hands back. -/
def casedW (s : ByteArray) (bits : Nat) : ByteArray × Int :=
  if rightB s then (⟨(caseAll bits ((lowerW s).data.toList, 0) (labs s 0)).1.toArray⟩, 0) else (⟨#[]⟩, 2)

theorem caseStep_length (bits : Nat) (p : List UInt8 × Nat) (j : Nat) : (caseStep bits p j).1.length = p.1.length := by unfold caseStep; split <;> simp
theorem caseStep_le (bits : Nat) (p : List UInt8 × Nat) (j : Nat) : (caseStep bits p j).2 ≤ p.2 + 1 := by unfold caseStep; split <;> simp
theorem caseRange_length (bits : Nat) (p : List UInt8 × Nat) (a m : Nat) : (caseRange bits p a m).1.length = p.1.length := by
  induction m with
  | zero => rfl
  | succ m ih => rw [caseRange, caseStep_length, ih]
theorem caseRange_le (bits : Nat) (p : List UInt8 × Nat) (a m : Nat) : (caseRange bits p a m).2 ≤ p.2 + m := by
  induction m with
  | zero => exact Nat.le_refl _
  | succ m ih => rw [caseRange]; have := caseStep_le bits (caseRange bits p a m) (a + m); omega
theorem caseAll_length (bits : Nat) (ls : List (Nat × ByteArray)) : ∀ p, (caseAll bits p ls).1.length = p.1.length := by
  induction ls with
  | nil => intro p; rfl
  | cons x ls ih => intro p; simp only [caseAll, List.foldl_cons] at *; rw [ih, caseRange_length]
theorem caseAll_snoc (bits : Nat) (p : List UInt8 × Nat) (ls : List (Nat × ByteArray)) (x : Nat × ByteArray) : caseAll bits p (ls ++ [x]) = caseRange bits (caseAll bits p ls) (x.1 + 1) x.2.size := by simp [caseAll]

/-- A marked row that holds the bytes L, and spare cells behind. -/
def Bytes9 (W : World) (g : Nat) (L : List UInt8) (sp : List Value) : Prop :=
  W.heap[g]? = some (Obj.cells ((L.map fun c => Value.int .u8 (c.toNat : Int)) ++ sp).toArray 5 (L.length + sp.length, L.length + sp.length + 1))
theorem Bytes9.lt {W : World} {g : Nat} {L : List UInt8} {sp : List Value} (h : Bytes9 W g L sp) : g < W.heap.size := (Array.getElem?_eq_some_iff.1 h).1
theorem Bytes9.cell {W : World} {g : Nat} {L : List UInt8} {sp : List Value} (h : Bytes9 W g L sp) (j : Nat) (hj : j < L.length) : W.cell? ⟨g, j, none⟩ = some (.int .u8 ((L.getD j 0).toNat : Int)) := by
  simp [World.cell?, show W.heap[g]? = _ from h, List.getElem?_append, hj, List.getD]
theorem Bytes9.frozen {W : World} {g : Nat} {L : List UInt8} {sp : List Value} (h : Bytes9 W g L sp) (j : Nat) (hj : j < L.length) : W.frozen? ⟨g, j, none⟩ = false := by
  simp [World.frozen?, show W.heap[g]? = _ from h]; omega
theorem Bytes9.set {W : World} {g : Nat} {L : List UInt8} {sp : List Value} (h : Bytes9 W g L sp) (j : Nat) (hj : j < L.length) (c : UInt8) : Bytes9 (W.setCell ⟨g, j, none⟩ (.int .u8 (c.toNat : Int))) g (L.set j c) sp := by
  obtain ⟨hlt, hk⟩ := Array.getElem?_eq_some_iff.1 h
  show (W.heap.modify g _)[g]? = _
  rw [Array.getElem?_eq_getElem (by rw [Array.size_modify]; exact hlt), Array.getElem_modify_self, hk]
  simp [List.map_set, List.set_append, hj]
theorem Bytes9.keep {A B : World} {g : Nat} {L : List UInt8} {sp : List Value} (h : Bytes9 A g L sp) (hb : B.heap[g]? = A.heap[g]?) : Bytes9 B g L sp := hb.trans h
theorem Bytes9.kept {A B : World} {row : Option Nat} {g : Nat} {L : List UInt8} {sp : List Value} (h : Bytes9 A g L sp) (hg : A.grownBy B row) (hr : ∀ r, row = some r → ∃ o : Obj, A.heap[r]? = some o ∧ o.isCells = false) : Bytes9 B g L sp :=
  (hg.block g h.lt (fun e => by obtain ⟨o, ho, hc⟩ := hr _ e.symm; rw [show A.heap[g]? = _ from h] at ho; cases ho; cases hc)).trans h
theorem bytes9_new (w : World) (s : ByteArray) : ∃ sp, Bytes9 (Lib.bytesWorld w 5 s) w.heap.size s.data.toList sp := by
  refine ⟨List.replicate (grownCap w s.size 0 5 - s.size) (.int .u8 0), ?_⟩
  have h := Lib.bytesWorld_at_new w 5 s
  have hr : ((s.data.toList.map fun c => Value.int .u8 (c.toNat : Int)) ++ List.replicate (grownCap w s.size 0 5 - s.size) (Value.int .u8 0)).toArray = Lib.bytesCells w 5 s := by
    apply Array.toList_inj.1
    simp [Lib.bytesCells]
  unfold Bytes9
  rw [h, hr]
  have hs : (Lib.bytesCells w 5 s).size = s.data.toList.length + (List.replicate (grownCap w s.size 0 5 - s.size) (Value.int .u8 0)).length := by rw [← hr]; simp
  rw [hs]

/-- How the world stands in a round of Cased. -/
structure CS (w : World) (s : ByteArray) (bits : Int) (q : Nat) (sp : List Value) (cp : Nat) (p : List UInt8 × Nat) (W wr : World) : Prop where
  row : Bytes9 wr q p.1 sp
  bt : Boxed wr w.heap.size 29 (.int .u64 bits)
  sl : Boxed wr (q + 1) 82 (.slice (some ⟨q, 0, none⟩) s.size cp)
  kb : Boxed wr (q + 1 + 1) 3 (.int .i64 (p.2 : Int))
  it : Boxed wr (q + 1 + 1 + 1) 9 (.string s)
  oth : KeepsOthers W wr
  bel : Below w.heap.size w wr
  hq : w.heap.size < q

theorem CS.set {w : World} {s : ByteArray} {bits : Int} {q : Nat} {sp : List Value} {cp : Nat} {L : List UInt8} {k : Nat} {W wr : World} (h : CS w s bits q sp cp (L, k) W wr) (j : Nat) (hj : j < L.length) (c : UInt8) : CS w s bits q sp cp (L.set j c, k) W (wr.setCell ⟨q, j, none⟩ (.int .u8 (c.toNat : Int))) where
  row := h.row.set j hj c
  bt := (Below.heap_setCell wr _ _ _ (by have := h.hq; simp; omega)).trans h.bt
  sl := (Below.heap_setCell wr _ _ _ (by simp)).trans h.sl
  kb := (Below.heap_setCell wr _ _ _ (by simp; omega)).trans h.kb
  it := (Below.heap_setCell wr _ _ _ (by simp; omega)).trans h.it
  oth := h.oth.trans (KeepsOthers.setCell _ _ _)
  bel := h.bel.setCell (p := ⟨q, j, none⟩) (Nat.le_of_lt h.hq) _
  hq := h.hq
theorem CS.tick {w : World} {s : ByteArray} {bits : Int} {q : Nat} {sp : List Value} {cp : Nat} {L : List UInt8} {k : Nat} {W wr : World} (h : CS w s bits q sp cp (L, k) W wr) (k' : Nat) : CS w s bits q sp cp (L, k') W (wr.setCell ⟨q + 1 + 1, 0, none⟩ (.int .i64 (k' : Int))) where
  row := (Below.heap_setCell wr _ _ _ (by simp; omega)).trans h.row
  bt := (Below.heap_setCell wr _ _ _ (by have := h.hq; simp; omega)).trans h.bt
  sl := (Below.heap_setCell wr _ _ _ (by simp)).trans h.sl
  kb := h.kb.set _
  it := (Below.heap_setCell wr _ _ _ (by simp)).trans h.it
  oth := h.oth.trans (KeepsOthers.setCell _ _ _)
  bel := h.bel.setCell (p := ⟨q + 1 + 1, 0, none⟩) (by have := h.hq; simp; omega) _
  hq := h.hq
theorem CS.drew {w : World} {s : ByteArray} {bits : Int} {q : Nat} {sp : List Value} {cp : Nat} {p : List UInt8 × Nat} {W wr : World} (h : CS w s bits q sp cp p W wr) : CS w s bits q sp cp p W wr.drew := ⟨h.row, h.bt, h.sl, h.kb, h.it, h.oth.trans (KeepsOthers.drew _), h.bel.drew, h.hq⟩

set_option maxRecDepth 100000 in
set_option maxHeartbeats 4000000 in
theorem Cased_loop (s : ByteArray) (bits : Nat) (hb64 : bits < 2 ^ 64) (hs : s.size ≤ 140737488351232) (w : World) (hR : rightB s = true) :
    Calls Try.prog 19 #[.string s, .int .u64 (bits : Int)] w fun e W' => e = .returned (.tuple #[.string ⟨(caseAll bits ((lowerW s).data.toList, 0) (labs s 0)).1.toArray⟩, .int .i64 0]) ∧ Below w.heap.size w W' := by
  have hsz : s.size ≤ 255 := by unfold rightB at hR; simp at hR; omega
  have hls := lowerW_size s
  refine (callsIn_wide (n := 100)).1 (callsIn_of_wp_marks Try.func19 rfl trivial (wpIn_wide.2 ?_) rfl)
  simp only [Try.ntmps19, List.size_toArray, List.length_cons, List.length_nil, Nat.reduceAdd, Nat.reduceSub, Array.replicate_succ, Array.replicate_zero, List.push_toArray, List.append_toArray, List.nil_append, List.cons_append]
  have x0 := Boxed.new w 29 (.int .u64 bits)
  go_wp2_with (first | (go_at_call 28; refine (Right_any s hs _).mono ?_; rintro e w0 ⟨rfl, hb0⟩; rw [hR]) | (go_at_call 30; refine (Lower_any s hs _).mono ?_; rintro e w1 ⟨rfl, hb1⟩))
  rw [Lib.run_convert_string_bytes _ 9 82 5 _ Try.underlying9 Try.underlying82 Try.underlying5]
  simp only [Result.andThen]
  rw [Oper.upon_value]
  rw [hls]
  obtain ⟨cp, hcp⟩ : ∃ cp, grownCap w1 s.size 0 5 = cp := ⟨_, rfl⟩
  rw [hcp]
  obtain ⟨sp, hsp⟩ := bytes9_new w1 (lowerW s)
  have hwsz := Lib.bytesWorld_size w1 5 (lowerW s)
  have hbw := bytesWorld_below w1 5 (lowerW s)
  obtain ⟨Wb, hWb⟩ : ∃ Wb, Lib.bytesWorld w1 5 (lowerW s) = Wb := ⟨_, rfl⟩
  rw [hWb] at hsp hwsz hbw ⊢
  clear hWb hcp
  go_wp2_with (first | (go_at_call 43; refine (labels_any s _).mono ?_; rintro e w' ⟨rfl, rfl⟩))
  have hq : w.heap.size < w1.heap.size := by have h1 := hb0.size; have h2 := hb1.size; simp only [World.size_alloc] at h1; omega
  have hbA : Below w.heap.size w w1 := ((Below.refl _ w).alloc (Nat.le_refl _) _).trans ((hb0.mono (by simp)).trans (hb1.mono (by have h1 := hb0.size; simp only [World.size_alloc] at h1; omega)))
  have x1 : Boxed Wb w.heap.size 29 (.int .u64 bits) := boxed_below (boxed_below (boxed_below x0 hb0 (by simp)) hb1 (by have h1 := hb0.size; simp only [World.size_alloc] at h1; omega)) hbw hq
  obtain ⟨W0, hW0⟩ : ∃ W0, (((Wb.alloc (.cells #[.slice (some ⟨w1.heap.size, 0, none⟩) s.size cp] 82)).alloc (.cells #[.int .i64 0] 3)).alloc (.cells #[.string s] 9)) = W0 := ⟨_, rfl⟩
  have hsz0 : W0.heap.size = w1.heap.size + 1 + 1 + 1 + 1 := by rw [← hW0]; simp [hwsz]
  have hCS : CS w s bits w1.heap.size sp cp ((lowerW s).data.toList, 0) W0 W0 := by
    have b1 := ((Boxed.new Wb 82 (.slice (some ⟨w1.heap.size, 0, none⟩) s.size cp)).alloc (.cells #[.int .i64 0] 3)).alloc (.cells #[.string s] 9)
    have b2 := (Boxed.new (Wb.alloc (.cells #[.slice (some ⟨w1.heap.size, 0, none⟩) s.size cp] 82)) 3 (.int .i64 0)).alloc (.cells #[.string s] 9)
    have b3 := Boxed.new ((Wb.alloc (.cells #[.slice (some ⟨w1.heap.size, 0, none⟩) s.size cp] 82)).alloc (.cells #[.int .i64 0] 3)) 9 (.string s)
    simp only [World.size_alloc, hwsz] at b1 b2 b3
    rw [← hW0]
    exact { row := (Below.heap_alloc _ _ _ (by simp; omega)).trans ((Below.heap_alloc _ _ _ (by simp; omega)).trans ((Below.heap_alloc _ _ _ hsp.lt).trans hsp)), bt := ((x1.alloc _).alloc _).alloc _, sl := b1, kb := b2, it := b3, oth := KeepsOthers.refl _, bel := (((hbA.trans (hbw.mono (by omega))).alloc (by omega) _).alloc (by simp; omega) _).alloc (by simp; omega) _, hq := hq }
  rw [hW0]
  clear x0 x1 hsp hbw hwsz hW0
  refine wpIn_wide.1 (wpIn_rangeFunc_ownG (F := Fence.wide) (n := 100) rfl (by omega) (gf := 51) (lb := #[.pointer (some ⟨w1.heap.size + 1 + 1 + 1, 0, none⟩)]) rfl trivial (enters_of Try.func51 (by kernel_rfl) rfl)
    (labels_stops Fence.wide 99 trivial rfl (by omega) (w1.heap.size + 1 + 1 + 1) s hs _ (by omega) hCS.it.cell) KeepsCell.trans KeepsCell.putObj (Below.refl _ _) (fun _ => rfl)
    (fun pre W => (((caseAll bits ((lowerW s).data.toList, 0) (pre.map (·.1))).2 ≤ 1000 * pre.length ∧ Bytes9 W w1.heap.size (caseAll bits ((lowerW s).data.toList, 0) (pre.map (·.1))).1 sp ∧ Boxed W w.heap.size 29 (.int .u64 bits) ∧ Boxed W (w1.heap.size + 1) 82 (.slice (some ⟨w1.heap.size, 0, none⟩) s.size cp))
      ∧ Boxed W (w1.heap.size + 1 + 1) 3 (.int .i64 ((caseAll bits ((lowerW s).data.toList, 0) (pre.map (·.1))).2 : Int)) ∧ Boxed W (w1.heap.size + 1 + 1 + 1) 9 (.string s)) ∧ Below w.heap.size w W)
    (fun _ _ _ => False)
    (OwnFrom.and (Own.from (fun pre A B row hs hg hr => ⟨⟨hs.1.1, hs.1.2.1.kept hg hr, boxed_kept hs.1.2.2.1 hg hr, boxed_kept hs.1.2.2.2 hg hr⟩, boxed_kept hs.2.1 hg hr, boxed_kept hs.2.2 hg hr⟩) _) (ownFrom_below (Nat.le_refl _) (by omega)))
    (fun _ _ _ _ _ hs _ _ => hs)
    ⟨⟨⟨by simp [caseAll], hCS.row, hCS.bt, hCS.sl⟩, hCS.kb, hCS.it⟩, hCS.bel⟩
    (fun x => { tmps := #[.string s, .int .u64 bits, undef, .pointer (some ⟨w.heap.size, 0, none⟩), .string { data := #[] }, .int .i64 0, .pointer (some ⟨w1.heap.size + 1, 0, none⟩), .pointer (some ⟨w1.heap.size + 1 + 1, 0, none⟩), .int .i64 (x.1.1 : Int), .string x.1.2, undef, undef, .string s, .bool true, .bool false, .string s, .string (lowerW s), .slice (some ⟨w1.heap.size, 0, none⟩) s.size cp, .string s, .func (.func 51) #[] #[.pointer (some ⟨w1.heap.size + 1 + 1 + 1, 0, none⟩)], .int .i64 (x.1.1 : Int), .string x.1.2, undef, undef, undef, undef, undef, undef, undef, undef, undef, undef, undef, undef, undef, undef, undef, undef, undef, undef, undef, undef, undef, undef, undef, undef, undef, undef, undef, undef, undef, undef, undef, undef, undef, undef, undef, undef, undef, undef], defers := [] }) ?assign ?body ?done ?stop)
  case assign =>
    intro l x W K hK
    gi_wp2
    exact hK
  case body =>
    rintro l pre x W ⟨⟨⟨hle, hrw, hbt, hsl⟩, hkb, hit⟩, hB⟩ hlt
    obtain ⟨hx1, hx2, hx3, hxa, hxb⟩ := x.spec
    clear hxa hxb
    obtain ⟨at0, hat⟩ : ∃ q, x.1.1 = q := ⟨_, rfl⟩
    obtain ⟨lb, hlb⟩ : ∃ q, x.1.2 = q := ⟨_, rfl⟩
    obtain ⟨p, hp⟩ : ∃ p, caseAll bits ((lowerW s).data.toList, 0) (pre.map (·.1)) = p := ⟨_, rfl⟩
    have hpl : p.1.length = s.size := by rw [← hp, caseAll_length]; exact hls
    rw [hat, hlb] at hx1
    rw [hlb] at hx2 hx3
    rw [hp] at hrw hkb hle
    have hF : Hid (caseAll bits ((lowerW s).data.toList, 0) ((pre ++ [x]).map (·.1)) = caseRange bits p (at0 + 1) lb.size) := Lib.hid (by rw [List.map_append, List.map_singleton, caseAll_snoc, hp, hat, hlb])
    have hC0 : Hid (CS w s bits w1.heap.size sp cp p W W) := Lib.hid ⟨hrw, hbt, hsl, hkb, hit, KeepsOthers.refl _, hB, hq⟩
    have hleH := Lib.hid hle
    have hp2 : p.2 ≤ 255000 := by omega
    have hitH := Lib.hid hit
    rw [hat, hlb]
    clear hat hlb hp hrw hbt hsl hkb hit hB hle hCS hbA
    gi_wp2
    gi_loopw [24] (fun v wr => ∃ k : Nat, k ≤ lb.size ∧ v = .int .i64 k ∧ Hid (CS w s bits w1.heap.size sp cp (caseRange bits p (at0 + 1) k) W wr))
      (fun v _ => lb.size - (intOf v).toNat)
    case atStart => exact ⟨0, Nat.zero_le _, rfl, hC0⟩
    case round =>
      obtain ⟨k, hk, rfl, hS⟩ := hrel
      by_cases hlt2 : k < lb.size
      · have hS1 : Hid (caseRange bits p (at0 + 1) (k + 1) = caseStep bits (caseRange bits p (at0 + 1) k) (at0 + 1 + k)) := Lib.hid rfl
        have hl1 : (caseRange bits p (at0 + 1) k).1.length = s.size := by rw [caseRange_length, hpl]
        have hk1 : (caseRange bits p (at0 + 1) k).2 ≤ 300000 := by have := caseRange_le bits p (at0 + 1) k; omega
        obtain ⟨⟨L, kk⟩, hLk⟩ : ∃ r, caseRange bits p (at0 + 1) k = r := ⟨_, rfl⟩
        rw [hLk] at hS hS1 hl1 hk1
        have hc1 := hS.out.row.cell (at0 + 1 + k) (by rw [hl1]; omega)
        have hf1 := hS.out.row.frozen (at0 + 1 + k) (by rw [hl1]; omega)
        have hbc := hS.out.sl.cell
        have hbb := hS.out.bt.cell
        have hkc := hS.out.kb.cell
        have hkf := hS.out.kb.frozen
        have hset : Hid (∀ c, CS w s bits w1.heap.size sp cp (L.set (at0 + 1 + k) c, kk) W (wr.setCell ⟨w1.heap.size, at0 + 1 + k, none⟩ (.int .u8 (c.toNat : Int)))) := Lib.hid (fun c => hS.out.set (at0 + 1 + k) (by show _ < L.length; rw [show L.length = s.size from hl1]; omega) c)
        obtain ⟨c, hc⟩ : ∃ c, L.getD (at0 + 1 + k) 0 = c := ⟨_, rfl⟩
        have hcs : Hid (caseStep bits (L, kk) (at0 + 1 + k) = if isLow c then (L.set (at0 + 1 + k) (caseB bits kk c), kk + 1) else (L, kk)) := Lib.hid (by unfold caseStep; rw [hc])
        simp only [hc] at hc1
        have hi1 : (at0 : Int) + 1 + k < s.size := by omega
        have w3 : 0 ≤ (at0 : Int) + 1 + k := by omega
        have w4 : ((at0 : Int) + 1 + k).toNat = at0 + 1 + k := by omega
        have hcl := UInt8.toNat_lt c
        have hkk : kk ≤ 300000 := hk1
        clear hLk hc hl1 hk1
        by_cases hlo : 97 ≤ c.toNat ∧ c.toNat ≤ 122
        · have hC : isLow c = true := by simp [isLow]; omega
          have hT : Hid (caseRange bits p (at0 + 1) (k + 1) = (L.set (at0 + 1 + k) (caseB bits kk c), kk + 1)) := Lib.hid (by rw [hS1.out, hcs.out, hC]; rfl)
          have e1 : 97 ≤ (c.toNat : Int) := by omega
          have e2 : (c.toNat : Int) ≤ 122 := by omega
          clear hC hlo hS1 hcs hS
          obtain ⟨m, hm⟩ : ∃ m, kk % 64 = m := ⟨_, rfl⟩
          obtain ⟨z, hz⟩ : ∃ z, bits >>> m = z := ⟨_, rfl⟩
          obtain ⟨b, hb⟩ : ∃ b, z % 2 = b := ⟨_, rfl⟩
          have hm0 : (m : Int) ≤ 64 := by omega
          have hb1 : (b : Int) ≤ 1 := by omega
          have hcB : caseB bits kk c = UInt8.ofNat (c.toNat - 32 * b) := by unfold caseB; rw [hm, hz, hb]
          have h48 : Go.bits .and .i64 (kk : Int) 63 = (m : Int) := by rw [bits_and63 kk (by omega), hm]
          have h49 : (bits : Int) / 2 ^ m = (z : Int) := by rw [← hz, Nat.shiftRight_eq_div_pow]; simp
          have hzl : z < 2 ^ 64 := by rw [← hz, Nat.shiftRight_eq_div_pow]; exact Nat.lt_of_le_of_lt (Nat.div_le_self _ _) hb64
          have h50 : Go.bits .and .u64 (z : Int) 1 = (b : Int) := by rw [bits_and1 z hzl, hb]
          have h53 : Go.bits .andNot .u8 (c.toNat : Int) ((b : Int) * 32) = ((caseB bits kk c).toNat : Int) := by
            rw [hcB]
            exact bits_andNot_fin ⟨c.toNat, hcl⟩ ⟨b, by omega⟩ (by show 97 ≤ c.toNat; omega) (by show c.toNat ≤ 122; omega)
          have hTT := hset.out (caseB bits kk c)
          obtain ⟨d, hd⟩ : ∃ d, caseB bits kk c = d := ⟨_, rfl⟩
          rw [hd] at h53 hTT hT
          have hTH := Lib.hid hTT
          have hkc2 := hTT.kb.cell
          have hkf2 := hTT.kb.frozen
          clear hm hz hb hcB hd hzl hTT
          gi_wp2
          refine Rt.wpIn_region_text [0, 0, 1, 1, 1, 0, 0, 0, 0, 0, 0, 0, 2] (by kernel_rfl) (by kernel_rfl) ?_
          repeat (first | (apply txt_move rfl rfl; (· (simp only [Act.put, Act.eval, List.setIfInBounds_toArray, List.set_cons_zero, List.set_cons_succ, Array.getD_eq_getD_getElem?, List.getElem?_toArray, List.getElem?_cons_zero, List.getElem?_cons_succ, Option.getD_some]; with_reducible rfl))) | (apply txt_assign rfl rfl; (· (simp only [Act.put, Act.eval, List.setIfInBounds_toArray, List.set_cons_zero, List.set_cons_succ, Array.getD_eq_getD_getElem?, List.getElem?_toArray, List.getElem?_cons_zero, List.getElem?_cons_succ, Option.getD_some]; with_reducible rfl))) | (apply txt_skip rfl rfl; (· (simp only [Act.put, Act.eval, List.setIfInBounds_toArray, List.set_cons_zero, List.set_cons_succ, Array.getD_eq_getD_getElem?, List.getElem?_toArray, List.getElem?_cons_zero, List.getElem?_cons_succ, Option.getD_some]; with_reducible rfl))) | (apply txt_pure rfl rfl rfl; (· (intro w; go_simp; (try go_bits); with_reducible rfl)); (· (simp only [Act.put, Act.eval, List.setIfInBounds_toArray, List.set_cons_zero, List.set_cons_succ, Array.getD_eq_getD_getElem?, List.getElem?_toArray, List.getElem?_cons_zero, List.getElem?_cons_succ, Option.getD_some]; with_reducible rfl))) | (apply txt_read rfl rfl rfl; (· (go_simp; with_reducible rfl)); (· (simp only [Act.put, Act.eval, List.setIfInBounds_toArray, List.set_cons_zero, List.set_cons_succ, Array.getD_eq_getD_getElem?, List.getElem?_toArray, List.getElem?_cons_zero, List.getElem?_cons_succ, Option.getD_some]; with_reducible rfl))) | (apply txt_do rfl rfl rfl; (· (go_simp; with_reducible rfl)); (· (simp only [Act.put, Act.eval, List.setIfInBounds_toArray, List.set_cons_zero, List.set_cons_succ, Array.getD_eq_getD_getElem?, List.getElem?_toArray, List.getElem?_cons_zero, List.getElem?_cons_succ, Option.getD_some]; with_reducible rfl))) | (apply txt_value rfl rfl rfl; (· (go_simp; exact ⟨rfl, rfl⟩)); (· (simp only [Act.put, Act.eval, List.setIfInBounds_toArray, List.set_cons_zero, List.set_cons_succ, Array.getD_eq_getD_getElem?, List.getElem?_toArray, List.getElem?_cons_zero, List.getElem?_cons_succ, Option.getD_some]; with_reducible rfl))))
          with_reducible refine txt_nil ?_
          have hD := hTH.out.drew
          obtain ⟨W2, hW2⟩ : ∃ W2, (wr.setCell ⟨w1.heap.size, at0 + 1 + k, none⟩ (.int .u8 (d.toNat : Int))).drew = W2 := ⟨_, rfl⟩
          rw [hW2] at hD ⊢
          have gk := hD.kb.cell
          have gf := hD.kb.frozen
          have hDH := Lib.hid hD
          clear hW2 hD hTH hkc2 hkf2 hc1 hf1 hbc hbb hkc hkf h48 h49 h50 h53
          gi_wp2
          exact ⟨⟨k + 1, by omega, by go_num, Lib.hid (by rw [hT.out]; have := hDH.out.tick (kk + 1); simpa using this)⟩, by simp [intOf]; omega⟩
        · have hC : isLow c = false := by simp [isLow]; omega
          have hT : Hid (caseRange bits p (at0 + 1) (k + 1) = (L, kk)) := Lib.hid (by rw [hS1.out, hcs.out, hC]; rfl)
          have hlo2 : (c.toNat : Int) < 97 ∨ 122 < (c.toNat : Int) := by omega
          clear hC hlo hS1 hcs
          rcases hlo2 with hlo2 | hlo2
          · gi_wp2
            exact ⟨⟨k + 1, by omega, by go_num, Lib.hid (by rw [hT.out]; exact hS.out)⟩, by simp [intOf]; omega⟩
          · have hlo3 : 97 ≤ (c.toNat : Int) := by omega
            gi_wp2
            exact ⟨⟨k + 1, by omega, by go_num, Lib.hid (by rw [hT.out]; exact hS.out)⟩, by simp [intOf]; omega⟩
      · obtain rfl : k = lb.size := by omega
        gi_wp2
        exact ⟨hS.out.oth.from _, fun v hv => by { have h1 := hitH.out.cell; rw [h1] at hv; cases hv; exact hS.out.it.cell }, ⟨⟨by { rw [hF.out]; have h1 := caseRange_le bits p (at0 + 1) lb.size; have h2 := hleH.out; simp only [List.length_append, List.length_cons, List.length_nil]; omega }, by { rw [hF.out]; exact hS.out.row }, hS.out.bt, hS.out.sl⟩, by { rw [hF.out]; exact hS.out.kb }, hS.out.it⟩, hS.out.bel⟩
  case done =>
    rintro D ys W hD hys ⟨⟨⟨hle, hrw, hbt, hsl⟩, hkb, hit⟩, hB⟩ hK
    have hfin : Below w.heap.size w (W.putObj D (.deferred none)) := hB.trans (belowK_b (w := w) (Nat.le_refl _) W D _ _ (by omega) hK rfl rfl)
    rw [hys] at hrw
    have hbc1 := hsl.cell
    have hlen : (caseAll bits ((lowerW s).data.toList, 0) (labs s 0)).1.length = s.size := by rw [caseAll_length]; exact hls
    have hcv : (convert 82 9 (.slice (some ⟨w1.heap.size, 0, none⟩) s.size cp)).run Try.prog W = .ok (.string ⟨(caseAll bits ((lowerW s).data.toList, 0) (labs s 0)).1.toArray⟩) W := by
      have h1 := run_convert_bytes_arg (P := Try.prog) W 82 5 Try.underlying82 Try.underlying5 w1.heap.size 0 s.size cp ((caseAll bits ((lowerW s).data.toList, 0) (labs s 0)).1.map fun c => (c.toNat : Int)) (by simpa using hlen)
        (fun i hi => by
          have := hrw.cell i (by omega)
          rw [Nat.zero_add, this]
          simp [List.getD_eq_getElem?_getD, hlen, hi]) 9 Try.underlying9
      rw [h1]
      congr 3
      simp [strOfNums, Function.comp_def]
    clear hrw hbt hsl hkb hit hys hlen hD hB hle hCS hbA
    go_wp2
    refine ⟨by simp, .inl ⟨_, _, rfl, run_takeDeferred hK, ?_⟩⟩
    exact ⟨_, results_tmp2 rfl _ _ _, rfl, hfin⟩
  case stop =>
    rintro D c pre W _ _ h _
    exact h.elim

set_option maxRecDepth 100000 in
set_option maxHeartbeats 2000000 in
theorem Cased_any (s : ByteArray) (bits : Nat) (hb64 : bits < 2 ^ 64) (hs : s.size ≤ 140737488351232) (w : World) :
    Calls Try.prog 19 #[.string s, .int .u64 (bits : Int)] w fun e W' => e = .returned (.tuple #[.string (casedW s bits).1, .int .i64 (casedW s bits).2]) ∧ Below w.heap.size w W' := by
  by_cases hR : rightB s = true
  · have hL : casedW s bits = (⟨(caseAll bits ((lowerW s).data.toList, 0) (labs s 0)).1.toArray⟩, 0) := by unfold casedW; rw [if_pos hR]
    rw [hL]
    exact Cased_loop s bits hb64 hs w hR
  · have hRf : rightB s = false := by simpa using hR
    have hL : casedW s bits = (⟨#[]⟩, 2) := by unfold casedW; rw [if_neg hR]
    rw [hL]
    clear hL hR
    refine (callsIn_wide (n := 100)).1 (callsIn_of_wp_marks Try.func19 rfl trivial (wpIn_wide.2 ?_) rfl)
    simp only [Try.ntmps19, List.size_toArray, List.length_cons, List.length_nil, Nat.reduceAdd, Nat.reduceSub, Array.replicate_succ, Array.replicate_zero, List.push_toArray, List.append_toArray, List.nil_append, List.cons_append]
    go_wp2_with (first | (go_at_call 28; refine (Right_any s hs _).mono ?_; rintro e w0 ⟨rfl, hb0⟩; rw [hRf]) | fail)
    exact ⟨_, results_tmp2 rfl _ _ _, rfl, ((Below.refl _ w).alloc (Nat.le_refl _) _).trans (hb0.mono (by simp))⟩
end Go.Proofs.Yticijejnemnmlaa.Nm
