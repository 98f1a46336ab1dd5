/- Words of 32 bits in blocks of cells; the round of SHA-1 and SHA-256. -/
import Derived.Test.YtndiagcpinmefaaDgA
import Derived.Laws.CopyOwn
import Derived.Deep.Cut
namespace Go.Proofs.Ytndiagcpinmefaa.Dg
open Go.RowKit Rt Go.Proofs.YtndiagcpinmefaaW.PrintWords
set_option linter.unusedSimpArgs false
set_option linter.unusedVariables false

/-- But for some blocks the world w' is as w was; the streams are as they were; no block has gone. -/
structure Kept (S : Nat → Prop) (w w' : World) : Prop where
  os : w'.os = w.os
  tape : w'.tape = w.tape
  output : w'.output = w.output
  size : w.heap.size ≤ w'.heap.size
  block : ∀ k, k < w.heap.size → ¬ S k → w'.heap[k]? = w.heap[k]?
theorem Kept.refl (S : Nat → Prop) (w : World) : Kept S w w := ⟨rfl, rfl, rfl, Nat.le_refl _, fun _ _ _ => rfl⟩
theorem Kept.trans {S : Nat → Prop} {a b c : World} (h : Kept S a b) (k : Kept S b c) : Kept S a c :=
  ⟨k.os.trans h.os, k.tape.trans h.tape, k.output.trans h.output, Nat.le_trans h.size k.size, fun i hi hs => (k.block i (Nat.lt_of_lt_of_le hi h.size) hs).trans (h.block i hi hs)⟩
theorem Kept.mono {S T : Nat → Prop} {a b : World} (h : Kept S a b) (hs : ∀ k, k < a.heap.size → S k → T k) : Kept T a b :=
  ⟨h.os, h.tape, h.output, h.size, fun i hi ht => h.block i hi (fun e => ht (hs i hi e))⟩
theorem Kept.of_below {S : Nat → Prop} {a b : World} (h : Below a.heap.size a b) : Kept S a b := ⟨h.os, h.tape, h.output, h.size, fun i hi _ => h.block i hi⟩
theorem Kept.below {S : Nat → Prop} {a b : World} {B : Nat} (h : Kept S a b) (hB : B ≤ a.heap.size) (hs : ∀ k, k < B → ¬ S k) : Below B a b := ⟨h.os, h.tape, h.output, h.size, fun i hi => h.block i (by omega) (hs i hi)⟩
theorem Kept.drew {S : Nat → Prop} {a b : World} (h : Kept S a b) : Kept S a b.drew := ⟨h.os, h.tape, h.output, h.size, h.block⟩
theorem Kept.alloc {S : Nat → Prop} {a b : World} (h : Kept S a b) (o : Obj) : Kept S a (b.alloc o) :=
  h.trans ⟨rfl, rfl, rfl, by simp, fun k hk _ => Below.heap_alloc _ _ _ hk⟩
theorem Kept.setCell {S : Nat → Prop} {a b : World} (h : Kept S a b) {p : Addr} (hp : S p.block ∨ a.heap.size ≤ p.block) (u : Value) : Kept S a (b.setCell p u) :=
  ⟨h.os, h.tape, h.output, by simpa [World.setCell] using h.size, fun k hk hs => (Below.heap_setCell _ _ _ _ (by rintro rfl; rcases hp with hp | hp; exact hs hp; omega)).trans (h.block k hk hs)⟩

/-- A word as a number. -/
def u (x : UInt32) : Int := (x.toNat : Int)
def W32 (x : UInt32) : Value := .int .u32 (u x)
/-- A block of words. -/
def C32 (W : World) (g : Nat) (T : TypeId) (L : List UInt32) : Prop := W.heap[g]? = some (Obj.cells (L.map W32).toArray T (0, 0))
theorem C32.lt {W : World} {g : Nat} {T : TypeId} {L : List UInt32} (h : C32 W g T L) : g < W.heap.size := (Array.getElem?_eq_some_iff.1 h).1
theorem C32.cell {W : World} {g : Nat} {T : TypeId} {L : List UInt32} (h : C32 W g T L) (j : Nat) (hj : j < L.length) : W.cell? ⟨g, j, none⟩ = some (.int .u32 (u (L.getD j 0))) := by
  simp [World.cell?, show W.heap[g]? = _ from h, hj, List.getD, W32]
theorem C32.frozen {W : World} {g : Nat} {T : TypeId} {L : List UInt32} (h : C32 W g T L) (j : Nat) : W.frozen? ⟨g, j, none⟩ = false := by
  simp [World.frozen?, show W.heap[g]? = _ from h]
theorem C32.set {W : World} {g : Nat} {T : TypeId} {L : List UInt32} (h : C32 W g T L) (j : Nat) (hj : j < L.length) (c : UInt32) : C32 (W.setCell ⟨g, j, none⟩ (.int .u32 (u c))) g T (L.set j c) := by
  obtain ⟨hlt, hk⟩ := Array.getElem?_eq_some_iff.1 h
  show (W.heap.modify g _)[g]? = _
  rw [Array.getElem?_eq_getElem (by rw [Array.size_modify]; exact hlt), Array.getElem_modify_self, hk]
  simp [List.map_set, W32]
theorem C32.keep {A B : World} {g : Nat} {T : TypeId} {L : List UInt32} (h : C32 A g T L) (hb : B.heap[g]? = A.heap[g]?) : C32 B g T L := hb.trans h
theorem C32.alloc {A : World} {g : Nat} {T : TypeId} {L : List UInt32} (h : C32 A g T L) (o : Obj) : C32 (A.alloc o) g T L := h.keep (Below.heap_alloc _ _ _ h.lt)
theorem C32.drew {A : World} {g : Nat} {T : TypeId} {L : List UInt32} (h : C32 A g T L) : C32 A.drew g T L := h
theorem C32.other {A : World} {g : Nat} {T : TypeId} {L : List UInt32} (h : C32 A g T L) {p : Addr} (hp : g ≠ p.block) (u : Value) : C32 (A.setCell p u) g T L := h.keep (Below.heap_setCell _ _ _ _ hp)
theorem C32.kept {S : Nat → Prop} {A B : World} {g : Nat} {T : TypeId} {L : List UInt32} (h : C32 A g T L) (hk : Kept S A B) (hs : ¬ S g) : C32 B g T L := h.keep (hk.block g h.lt hs)

theorem u32_add (a b : UInt32) : IntKind.u32.wrap (u a + u b) = u (a + b) := by
  simp [IntKind.wrap, IntKind.bits, IntKind.signed, u]
theorem u32_add2 (a b : UInt32) : (u a + u b) % 4294967296 = u (a + b) := by simp [u]
theorem u32_xor (a b : UInt32) : Go.bits .xor .u32 (u a) (u b) = u (a ^^^ b) := by
  have h1 := a.toNat_lt; have h2 := b.toNat_lt
  unfold u
  rw [u32_xor_nat _ _ (by simpa using h1) (by simpa using h2)]; simp
theorem u32_and (a b : UInt32) : Go.bits .and .u32 (u a) (u b) = u (a &&& b) := by
  have h1 := a.toNat_lt; have h2 := b.toNat_lt
  unfold u
  rw [u32_and_nat _ _ (by simpa using h1) (by simpa using h2)]; simp
theorem u32_or (a b : UInt32) : Go.bits .or .u32 (u a) (u b) = u (a ||| b) := by
  have h1 := a.toNat_lt; have h2 := b.toNat_lt
  unfold u
  rw [u32_or_nat _ _ (by simpa using h1) (by simpa using h2)]; simp
theorem u32_w1 (a : UInt32) : IntKind.u32.wrap (u a + 1518500249) = u (a + 1518500249) := by simp [IntKind.wrap, IntKind.bits, IntKind.signed, u]
theorem u32_k1 (a : UInt32) : (u a + 1518500249) % 4294967296 = u (a + 1518500249) := by simp [u]
theorem u32_w2 (a : UInt32) : IntKind.u32.wrap (u a + 1859775393) = u (a + 1859775393) := by simp [IntKind.wrap, IntKind.bits, IntKind.signed, u]
theorem u32_k2 (a : UInt32) : (u a + 1859775393) % 4294967296 = u (a + 1859775393) := by simp [u]
theorem u32_w3 (a : UInt32) : IntKind.u32.wrap (u a + 2400959708) = u (a + 2400959708) := by simp [IntKind.wrap, IntKind.bits, IntKind.signed, u]
theorem u32_k3 (a : UInt32) : (u a + 2400959708) % 4294967296 = u (a + 2400959708) := by simp [u]
theorem u32_w4 (a : UInt32) : IntKind.u32.wrap (u a + 3395469782) = u (a + 3395469782) := by simp [IntKind.wrap, IntKind.bits, IntKind.signed, u]
theorem u32_k4 (a : UInt32) : (u a + 3395469782) % 4294967296 = u (a + 3395469782) := by simp [u]

def rotl (x : UInt32) (s : Nat) : UInt32 := (x <<< UInt32.ofNat s) ||| (x >>> UInt32.ofNat (32 - s))
structure S5 where
  a : UInt32
  b : UInt32
  c : UInt32
  d : UInt32
  e : UInt32
def S5.l (v : S5) : List UInt32 := [v.a, v.b, v.c, v.d, v.e]
def S5.add (v u : S5) : S5 := ⟨v.a + u.a, v.b + u.b, v.c + u.c, v.d + u.d, v.e + u.e⟩
def fn1 (i : Nat) (b c d : UInt32) : UInt32 :=
  if i < 20 then (d ^^^ (b &&& (c ^^^ d))) + 1518500249
  else if i < 40 then (b ^^^ c ^^^ d) + 1859775393
  else if i < 60 then ((b &&& c) ||| (d &&& (b ||| c))) + 2400959708
  else (b ^^^ c ^^^ d) + 3395469782
def rd1 (v : S5) (w : UInt32) (i : Nat) : S5 := ⟨rotl v.a 5 + fn1 i v.b v.c v.d + v.e + w, v.a, rotl v.b 30, v.c, v.d⟩
def new1 (B : List UInt32) (i : Nat) : UInt32 := rotl (B.getD ((i + 13) % 16) 0 ^^^ B.getD ((i + 8) % 16) 0 ^^^ B.getD ((i + 2) % 16) 0 ^^^ B.getD (i % 16) 0) 1
def buf1 (ws : List UInt32) : Nat → List UInt32
  | 0 => ws
  | i + 1 => if i < 16 then buf1 ws i else (buf1 ws i).set (i % 16) (new1 (buf1 ws i) i)
theorem buf1_length (ws : List UInt32) (i : Nat) : (buf1 ws i).length = ws.length := by
  induction i with
  | zero => rfl
  | succ i ih => unfold buf1; split <;> simp [ih]
def st1 (h : S5) (ws : List UInt32) : Nat → S5
  | 0 => h
  | i + 1 => rd1 (st1 h ws i) ((buf1 ws (i + 1)).getD (i % 16) 0) i
/-- What a block makes of five words. -/
def comp1 (h : S5) (ws : List UInt32) : S5 := h.add (st1 h ws 80)
theorem and15_i64 (k : Nat) (h : k < 2 ^ 63) : Go.bits BinOp.and IntKind.i64 (k : Int) 15 = ((k % 16 : Nat) : Int) := by
  unfold Go.bits
  have h1 : (BitVec.ofInt IntKind.i64.bits (k : Int) &&& BitVec.ofInt IntKind.i64.bits 15).toNat = k % 16 := by
    rw [BitVec.toNat_and, BitVec.ofInt_natCast, BitVec.toNat_ofNat]
    show (k % 2 ^ 64) &&& 15 = k % 16
    rw [Nat.mod_eq_of_lt (by omega)]
    exact Nat.and_two_pow_sub_one_eq_mod k 4
  simp only [h1]
  simp [IntKind.wrap, IntKind.bits, IntKind.signed]; omega
theorem and15_sub (k d : Nat) (hd : d ≤ k) (hd2 : d < 16) (h : k < 2 ^ 63) : Go.bits BinOp.and IntKind.i64 ((k : Int) - (d : Int)) 15 = (((k + (16 - d)) % 16 : Nat) : Int) := by
  rw [show ((k : Int) - (d : Int)) = ((k - d : Nat) : Int) by omega, and15_i64 _ (by omega)]
  congr 1; omega
theorem add_step (h v : S5) (k : Nat) (hk : k < 5) : (List.take k (h.add v).l ++ List.drop k h.l).set k ((List.take k (h.add v).l ++ List.drop k h.l).getD k 0 + v.l.getD k 0) = List.take (k + 1) (h.add v).l ++ List.drop (k + 1) h.l := by
  match k, hk with
  | 0, _ => rfl
  | 1, _ => rfl
  | 2, _ => rfl
  | 3, _ => rfl
  | 4, _ => rfl
structure S8 where
  a : UInt32
  b : UInt32
  c : UInt32
  d : UInt32
  e : UInt32
  f : UInt32
  g : UInt32
  h : UInt32
def S8.l (v : S8) : List UInt32 := [v.a, v.b, v.c, v.d, v.e, v.f, v.g, v.h]
def S8.add (v u : S8) : S8 := ⟨v.a + u.a, v.b + u.b, v.c + u.c, v.d + u.d, v.e + u.e, v.f + u.f, v.g + u.g, v.h + u.h⟩
def mix3 (x : UInt32) (p q r : Nat) : UInt32 := rotl x (32 - p) ^^^ rotl x (32 - q) ^^^ rotl x (32 - r)
def new2 (x y z t : UInt32) : UInt32 := t + ((rotl x 25 ^^^ rotl x 14 ^^^ x >>> 3) + z + (rotl y 15 ^^^ rotl y 13 ^^^ y >>> 10))
def buf2 (ws : List UInt32) : Nat → List UInt32
  | 0 => ws
  | i + 1 => if i < 16 then buf2 ws i else (buf2 ws i).set (i % 16) (new2 ((buf2 ws i).getD ((i + 1) % 16) 0) ((buf2 ws i).getD ((i + 14) % 16) 0) ((buf2 ws i).getD ((i + 9) % 16) 0) ((buf2 ws i).getD (i % 16) 0))
theorem buf2_length (ws : List UInt32) (i : Nat) : (buf2 ws i).length = ws.length := by
  induction i with
  | zero => rfl
  | succ i ih => unfold buf2; split <;> simp [ih]
def tt2 (v : S8) (k w : UInt32) : UInt32 := v.h + mix3 v.e 6 11 25 + (v.g ^^^ (v.e &&& (v.f ^^^ v.g))) + k + w
def uu2 (v : S8) : UInt32 := mix3 v.a 2 13 22 + ((v.a &&& v.b) ||| (v.c &&& (v.a ||| v.b)))
def rd2 (v : S8) (k w : UInt32) : S8 := ⟨tt2 v k w + uu2 v, v.a, v.b, v.c, v.d + tt2 v k w, v.e, v.f, v.g⟩
def st2 (ks : List UInt32) (h : S8) (ws : List UInt32) : Nat → S8
  | 0 => h
  | i + 1 => rd2 (st2 ks h ws i) (ks.getD i 0) ((buf2 ws (i + 1)).getD (i % 16) 0)
def comp2 (ks : List UInt32) (h : S8) (ws : List UInt32) : S8 := h.add (st2 ks h ws 64)
theorem add_step8 (h v : S8) (k : Nat) (hk : k < 8) : (List.take k (h.add v).l ++ List.drop k h.l).set k ((List.take k (h.add v).l ++ List.drop k h.l).getD k 0 + v.l.getD k 0) = List.take (k + 1) (h.add v).l ++ List.drop (k + 1) h.l := by
  match k, hk with
  | 0, _ => rfl
  | 1, _ => rfl
  | 2, _ => rfl
  | 3, _ => rfl
  | 4, _ => rfl
  | 5, _ => rfl
  | 6, _ => rfl
  | 7, _ => rfl
theorem u32_shr3 (x : UInt32) : u x / (8 : Int) = u (x >>> 3) := by
  unfold u; rw [UInt32.toNat_shiftRight]; simp [Nat.shiftRight_eq_div_pow]
theorem u32_shr10 (x : UInt32) : u x / (1024 : Int) = u (x >>> 10) := by
  unfold u; rw [UInt32.toNat_shiftRight]; simp [Nat.shiftRight_eq_div_pow]
theorem oneCell_words (L : List UInt32) : ((L.map W32).toArray).all (·.oneCell') = true := by
  rw [Array.all_eq_true_iff_forall_mem]; intro x hx; simp [W32] at hx; obtain ⟨y, _, rfl⟩ := hx; rfl
/-- A whole block of words written. -/
def row32 (w : World) (g : Nat) (L : List UInt32) : World := w.setRow g (L.map W32).toArray
theorem row32_own {w : World} {g : Nat} {T : TypeId} {L0 : List UInt32} (h : C32 w g T L0) (L : List UInt32) : C32 (row32 w g L) g T L := setRow_heap w g _ _ T _ h
theorem row32_other {w : World} {g k : Nat} {T : TypeId} {L0 : List UInt32} (h : C32 w k T L0) (hk : k ≠ g) (L : List UInt32) : C32 (row32 w g L) k T L0 := h.keep (setRow_other w g k _ hk)
theorem row32_below {w0 w : World} {g B : Nat} (h : Below B w0 w) (hB : B ≤ g) (L : List UInt32) : Below B w0 (row32 w g L) := below_setRow h hB _
section
variable {ops : Array Oper} {fl : Nat → Nat} {Q : Act → World → Prop} {k : Nat} {rest : List Oper} {a : Act} {w : World}
theorem txt_row32 {o : Oper} (hk : ops[k]? = some o) (hf : fl k = 2) (hw : Region.wanted o (yielded ops a.tmps) = true) (ty : TypeId) (x y : Operand) (ho : o.op = .store ty x y)
    (g : Nat) (T : TypeId) (L0 L : List UInt32) (hx : a.eval x = .pointer (some ⟨g, 0, none⟩)) (hy : a.eval y = .agg (L.map W32).toArray) (hg : C32 w g T L0) (hi : (Try.prog.info? ty).map (·.size) = some L.length) (hl : L0.length = L.length)
    (h : wpTxt Try.prog ops fl Q (k + 1) rest (a.put o.dst undef) (row32 w g L)) : wpTxt Try.prog ops fl Q k (o :: rest) a w :=
  txt_act hk hf hw fun K hK => wp_store_row ty x y ho g _ hx hy T _ hg (by simpa using hi) (by simpa using hl) (oneCell_words L) (hK _ _ h)
end
end Go.Proofs.Ytndiagcpinmefaa.Dg
