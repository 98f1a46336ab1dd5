/- Rows of digits in memory. -/
import Derived.Test.YtffehdfddkgggaaDoorProg
import Derived.Test.YtffehdfddkgggaaDoorMRC
import Derived.Test.YtffehdfddkgggaaDoorMAC
import Derived.WalkKit
import Derived.OwnWalk
import Derived.Below
import Derived.Lib.Hide
import Derived.Laws.OwnMore
import Derived.Laws.MakeOwn
import Derived.Deep.AppendLies
import Derived.Maps.AppendAt
import Derived.WalkSmall
import Derived.ArgAppend
import Derived.Deep.CutRange
import Derived.BigQuiet
import Derived.RangeFuncBox
import Derived.Test.YtffehdfddkgggaaDoorShelfC
namespace Go.Proofs.YtffehdfddkgggaaDoor.Nu
open Go.RowKit Rt
set_option linter.unusedSimpArgs false
set_option linter.unusedVariables false
/-- But for some blocks the world w' is as w was; the streams are as they were; no block has gone. -/
structure Kept (S : Nat → Prop) (w w' : World) : Prop where
  os : w'.os = w.os
  tape : w'.tape = w.tape
  output : w'.output = w.output
  size : w.heap.size ≤ w'.heap.size
  block : ∀ k, k < w.heap.size → ¬ S k → w'.heap[k]? = w.heap[k]?
theorem Kept.refl (S : Nat → Prop) (w : World) : Kept S w w := ⟨rfl, rfl, rfl, Nat.le_refl _, fun _ _ _ => rfl⟩
theorem Kept.trans {S : Nat → Prop} {a b c : World} (h : Kept S a b) (k : Kept S b c) : Kept S a c :=
  ⟨k.os.trans h.os, k.tape.trans h.tape, k.output.trans h.output, Nat.le_trans h.size k.size, fun i hi hs => (k.block i (Nat.lt_of_lt_of_le hi h.size) hs).trans (h.block i hi hs)⟩
theorem Kept.mono {S T : Nat → Prop} {a b : World} (h : Kept S a b) (hs : ∀ k, k < a.heap.size → S k → T k) : Kept T a b :=
  ⟨h.os, h.tape, h.output, h.size, fun i hi ht => h.block i hi (fun e => ht (hs i hi e))⟩
theorem Kept.of_below {S : Nat → Prop} {a b : World} (h : Below a.heap.size a b) : Kept S a b := ⟨h.os, h.tape, h.output, h.size, fun i hi _ => h.block i hi⟩
theorem Kept.below {S : Nat → Prop} {a b : World} {B : Nat} (h : Kept S a b) (hB : B ≤ a.heap.size) (hs : ∀ k, k < B → ¬ S k) : Below B a b := ⟨h.os, h.tape, h.output, h.size, fun i hi => h.block i (by omega) (hs i hi)⟩
theorem Kept.drew {S : Nat → Prop} {a b : World} (h : Kept S a b) : Kept S a b.drew := ⟨h.os, h.tape, h.output, h.size, h.block⟩
theorem Kept.alloc {S : Nat → Prop} {a b : World} (h : Kept S a b) (o : Obj) : Kept S a (b.alloc o) :=
  h.trans ⟨rfl, rfl, rfl, by simp, fun k hk _ => Below.heap_alloc _ _ _ hk⟩
theorem Kept.setCell {S : Nat → Prop} {a b : World} (h : Kept S a b) {p : Addr} (hp : S p.block ∨ a.heap.size ≤ p.block) (u : Value) : Kept S a (b.setCell p u) :=
  ⟨h.os, h.tape, h.output, by simpa [World.setCell] using h.size, fun k hk hs => (Below.heap_setCell _ _ _ _ (by rintro rfl; rcases hp with hp | hp; exact hs hp; omega)).trans (h.block k hk hs)⟩
theorem Kept.turned {S : Nat → Prop} {a b c : World} (h : Kept S a b) {m : Nat} (ht : b.mapTurned c m) (hm : S m ∨ a.heap.size ≤ m) : Kept S a c :=
  have g := ht.grown
  ⟨g.os.trans h.os, g.tape.trans h.tape, g.output.trans h.output, Nat.le_trans h.size g.size, fun k hk hs => (g.block k (Nat.lt_of_lt_of_le hk h.size) (fun e => by cases e; rcases hm with hm | hm; exact hs hm; omega)).trans (h.block k hk hs)⟩
theorem Kept.cell {S : Nat → Prop} {a b : World} (h : Kept S a b) {p : Addr} (hp : p.block < a.heap.size) (hs : ¬ S p.block) : b.cell? p = a.cell? p := World.cell?_of_block (h.block _ hp hs)
theorem Kept.frozen {S : Nat → Prop} {a b : World} (h : Kept S a b) {p : Addr} (hp : p.block < a.heap.size) (hs : ¬ S p.block) : b.frozen? p = a.frozen? p := World.frozen?_of_block (h.block _ hp hs)

def wf (x : Int) : Prop := -9223372036854775808 ≤ x ∧ x ≤ 9223372036854775807
def wu (x : Int) : Prop := 0 ≤ x ∧ x ≤ 18446744073709551615
theorem wr {x : Int} (h1 : -9223372036854775808 ≤ x) (h2 : x ≤ 9223372036854775807) : IntKind.i64.wrap x = x := by simp [IntKind.wrap, IntKind.bits, IntKind.signed]; omega
theorem wr64 {x : Int} (h1 : 0 ≤ x) (h2 : x < 18446744073709551616) : IntKind.u64.wrap x = x := by simp [IntKind.wrap, IntKind.bits, IntKind.signed]; omega
theorem wr32 {x : Int} (h1 : 0 ≤ x) (h2 : x < 4294967296) : IntKind.u32.wrap x = x := by simp [IntKind.wrap, IntKind.bits, IntKind.signed]; omega
/-! ### a row of digits -/
def dv (d : Nat) : Value := .int .u32 (d : Int)
def encD (L : List Nat) : Array Value := (L.map dv).toArray
theorem encD_size (L : List Nat) : (encD L).size = L.length := by simp [encD]
/-- Block g holds the digits L. -/
def RowM (W : World) (g : Nat) (L : List Nat) : Prop := W.heap[g]? = some (.cells (encD L) 60 (0, 0))
section
variable {W W' : World} {g : Nat} {L : List Nat}
theorem RowM.lt (h : RowM W g L) : g < W.heap.size := (Array.getElem?_eq_some_iff.1 h).1
theorem RowM.cell (h : RowM W g L) (j : Nat) (hj : j < L.length) : W.cell? ⟨g, j, none⟩ = some (.int .u32 (gd L j : Int)) := by
  rw [gd_get hj]
  simp [World.cell?, show W.heap[g]? = _ from h, encD, hj, dv]
theorem RowM.frozen (h : RowM W g L) (j : Nat) : W.frozen? ⟨g, j, none⟩ = false := by
  simp [World.frozen?, show W.heap[g]? = _ from h]
theorem RowM.set (h : RowM W g L) (j : Nat) (d : Nat) : RowM (W.setCell ⟨g, j, none⟩ (.int .u32 (d : Int))) g (L.set j d) := by
  obtain ⟨hlt, hk⟩ := Array.getElem?_eq_some_iff.1 h
  show (W.heap.modify g _)[g]? = _
  rw [Array.getElem?_eq_getElem (by rw [Array.size_modify]; exact hlt), Array.getElem_modify_self, hk]
  simp [encD, List.map_set, dv]
theorem RowM.keep (h : RowM W g L) (hb : W'.heap[g]? = W.heap[g]?) : RowM W' g L := hb.trans h
theorem RowM.below (h : RowM W g L) (hb : Below W.heap.size W W') : RowM W' g L := (hb.block g h.lt).trans h
theorem RowM.other (h : RowM W g L) (a : Addr) (v : Value) (hne : g ≠ a.block) : RowM (W.setCell a v) g L := (Below.heap_setCell W a v g hne).trans h
theorem RowM.alloc (h : RowM W g L) (o : Obj) : RowM (W.alloc o) g L := (Below.heap_alloc W o g h.lt).trans h
theorem RowM.drew (h : RowM W g L) : RowM W.drew g L := h
end
theorem info60 : (Tryd.prog.info? 60).map (fun i => (i.zero, i.size, i.bytes)) = some (some (.int .u32 0), 1, 4) := by kernel_rfl
theorem info60' : ∃ i, Tryd.prog.info? 60 = some i ∧ i.zero = some (.int .u32 0) ∧ i.size = 1 ∧ i.bytes = 4 := by
  have h := info60
  cases hi : Tryd.prog.info? 60 with
  | none => rw [hi] at h; simp at h
  | some i => rw [hi] at h; simp at h; exact ⟨i, rfl, h.1, h.2.1, h.2.2⟩
theorem made_zeros (n : Nat) : madeCells (Value.int IntKind.u32 0).cells n = encD (List.replicate n 0) := by
  apply Array.ext
  · simp [madeCells, encD]
  · intro i h1 h2
    simp [madeCells, encD, Value.cells, dv, Nat.mod_one]
/-- make([]uint32, n, c). -/
theorem run_mk (w : World) (n c : Nat) (hn : n ≤ c) (hc : c ≤ 70368744177664) : (Instr.makeSlice 24 (.int .i64 (n : Int)) (.int .i64 (c : Int))).run Tryd.prog w = .ok (.slice (some ⟨w.heap.size, 0, none⟩) n c) (w.alloc (.cells (encD (List.replicate c 0)) 60)) := by
  obtain ⟨i, hi, h0, h1, h2⟩ := info60'
  have h := run_make (P := Tryd.prog) w 24 60 i (.int .u32 0) Tryd.underlying24 hi h0 .i64 .i64 n c (by omega) (by omega) (by rw [h2]; omega) (by omega)
  rw [Int.toNat_natCast, Int.toNat_natCast, h1, Nat.mul_one, made_zeros] at h
  exact h
theorem RowM.made (w : World) (c : Nat) : RowM (w.alloc (.cells (encD (List.replicate c 0)) 60)) w.heap.size (List.replicate c 0) := World.alloc_heap_new _ _
/-! ### a number in memory -/
/-- Where a slice lies: nowhere, or at a plain place. -/
def Shp (a : Option Addr) (c : Nat) : Prop := (a = none ∧ c = 0) ∨ ∃ b off, a = some ⟨b, off, none⟩
/-- A slice that holds the digits L. -/
def SlD (w : World) (v : Value) (L : List Nat) : Prop := ∃ a c, v = .slice a L.length c ∧ (L.length ≤ c ∧ Shp a c) ∧ (0 < L.length → ∃ b off, a = some ⟨b, off, none⟩ ∧ b < w.heap.size ∧ ∀ j, j < L.length → w.cell? ⟨b, off + j, none⟩ = some (.int .u32 (gd L j : Int)))
theorem SlD.below {w w' : World} {v : Value} {L : List Nat} (h : SlD w v L) (hb : Below w.heap.size w w') : SlD w' v L := by
  obtain ⟨a, c, rfl, hc, h2⟩ := h
  refine ⟨a, c, rfl, hc, fun h0 => ?_⟩
  obtain ⟨b, off, rfl, hb1, hcell⟩ := h2 h0
  exact ⟨b, off, rfl, Nat.lt_of_lt_of_le hb1 hb.size, fun j hj => (hb.cell (p := ⟨b, off + j, none⟩) hb1).trans (hcell j hj)⟩
theorem RowM.sl {w : World} {g k c : Nat} {L : List Nat} (h : RowM w g L) (hk : k ≤ L.length) (hc : k ≤ c) : SlD w (.slice (some ⟨g, 0, none⟩) k c) (L.take k) := by
  have hl : (L.take k).length = k := by rw [List.length_take]; omega
  refine ⟨_, c, by rw [hl], ⟨by omega, .inr ⟨g, 0, rfl⟩⟩, fun h0 => ⟨g, 0, rfl, h.lt, fun j hj => ?_⟩⟩
  rw [hl] at hj
  rw [Nat.zero_add, gd_take hj]
  exact h.cell j (by omega)
theorem SlD.nil (w : World) : SlD w (.slice none 0 0) [] := ⟨none, 0, rfl, ⟨Nat.le_refl _, .inl ⟨rfl, rfl⟩⟩, fun h => absurd h (Nat.lt_irrefl _)⟩
/-- A number in memory, its digits without noughts behind. -/
def NumAt (w : World) (v : Value) (n : Nat) : Prop := ∃ L, Norm L ∧ val L = n ∧ SlD w v L
theorem NumAt.below {w w' : World} {v : Value} {n : Nat} (h : NumAt w v n) (hb : Below w.heap.size w w') : NumAt w' v n := by
  obtain ⟨L, h1, h2, h3⟩ := h; exact ⟨L, h1, h2, h3.below hb⟩
theorem NumAt.zero (w : World) : NumAt w (.slice none 0 0) 0 := ⟨[], norm_nil, rfl, SlD.nil w⟩
end Go.Proofs.YtffehdfddkgggaaDoor.Nu

/- trim, twice; Bits. -/
namespace Go.Proofs.YtffehdfddkgggaaDoor.Nu
open Go.RowKit Rt
set_option linter.unusedSimpArgs false
set_option linter.unusedVariables false
def lenOf : Value → Nat
  | .slice _ n _ => n
  | _ => 0
theorem u32_zero (d : Nat) : ((d : Int) == 0) = decide (d = 0) := by rw [Bool.eq_iff_iff]; simp
set_option maxHeartbeats 1000000 in
set_option maxRecDepth 100000 in
/-- The reference's trim. -/
theorem RTrim_any {w : World} {a : Option Addr} {c : Nat} {L : List Nat} (h : SlD w (.slice a L.length c) L) (hl : L.length ≤ 70368744177664) (hc : L.length ≤ c) (hc2 : c ≤ maxLen) :
    Calls Tryd.prog 40 #[.slice a L.length c] w fun e w' => e = .returned (.slice a (trimL L L.length) c) ∧ w' = w := by
  obtain ⟨a', c', hv, hcc, hcell⟩ := h
  cases hv
  obtain ⟨n, hn⟩ : ∃ n, L.length = n := ⟨_, rfl⟩
  have hcm : (c : Int) ≤ 9223372036854775807 := by unfold maxLen at hc2; omega
  rw [hn] at hl hc hcell ⊢
  have hcellH := Lib.hid hcell
  have hcH := Lib.hid hc
  clear hcell hn hcc hc2 hc
  go_enter Tryd.func40, Tryd.ntmps40
  go_wp2_with fail
  go_loopw [3] (fun vk wr => ∃ k : Nat, vk = .int .i64 k ∧ k ≤ n ∧ Hid (trimL L n = trimL L k) ∧ wr = w) (fun vk _ => (intOf vk).toNat)
  case atStart => exact ⟨n, rfl, Nat.le_refl _, Lib.hid rfl, rfl⟩
  case round =>
    obtain ⟨k, rfl, hk, hT, rfl⟩ := hrel
    by_cases h0 : k = 0
    · subst h0
      have e0 : trimL L n = 0 := hT.out
      go_wp2_with fail
      go_ret
      exact ⟨by rw [e0]; rfl, rfl⟩
    · have hk0 : (0 : Int) < k := by omega
      obtain ⟨b, off, rfl, hbl, hcl⟩ := hcellH.out (by omega)
      obtain ⟨j, rfl⟩ : ∃ j, k = j + 1 := ⟨k - 1, by omega⟩
      have c0 := hcl j (by omega)
      have hj0 : ((j + 1 : Nat) : Int) - 1 = j := by omega
      have hjn : j < n := by omega
      have hjni : (j : Int) < n := by omega
      have hT1 : Hid (trimL L (j + 1) = if gd L j = 0 then trimL L j else j + 1) := Lib.hid rfl
      obtain ⟨d, hd⟩ : ∃ d, gd L j = d := ⟨_, rfl⟩
      rw [hd] at c0 hT1
      clear hd hcl
      by_cases hd0 : d = 0
      · subst hd0
        have hT2 : trimL L n = trimL L j := by rw [hT.out, hT1.out, if_pos rfl]
        have hT2H := Lib.hid hT2
        clear hT2
        go_wp2_with fail
        go_roundw
        case rel => exact ⟨j, by first | rfl | go_num, by omega, hT2H, by first | rfl | trivial⟩
        case measure => first | (simp [intOf]; done) | (simp [intOf]; omega)
      · have hT2 : trimL L n = j + 1 := by rw [hT.out, hT1.out, if_neg hd0]
        have hT2H := Lib.hid hT2
        have hdb : ((d : Int) == 0) = false := by rw [u32_zero]; exact decide_eq_false hd0
        have hcn := hcH.out
        clear hT2
        go_wp2_with fail
        go_ret
        exact ⟨by rw [hT2H.out]; rfl, rfl⟩
set_option maxHeartbeats 1000000 in
set_option maxRecDepth 100000 in
/-- The number of some digits. -/
theorem Trim_any {w : World} {a : Option Addr} {c : Nat} {L : List Nat} (h : SlD w (.slice a L.length c) L) (hl : L.length ≤ 70368744177664) (hc : L.length ≤ c) (hc2 : c ≤ maxLen) :
    Calls Tryd.prog 39 #[.slice a L.length c] w fun e w' => e = .returned (.agg #[.slice a (trimL L L.length) c]) ∧ Below w.heap.size w w' := by
  obtain ⟨a', c', hv, hcc, hcell⟩ := h
  cases hv
  obtain ⟨n, hn⟩ : ∃ n, L.length = n := ⟨_, rfl⟩
  have hcm : (c : Int) ≤ 9223372036854775807 := by unfold maxLen at hc2; omega
  rw [hn] at hl hc hcell ⊢
  have hB : Below w.heap.size w (w.alloc (.cells #[.slice none 0 0] 26)) := (Below.refl _ w).alloc (Nat.le_refl _) _
  have hX := Boxed.new w 26 (.slice none 0 0)
  obtain ⟨wa, hwa⟩ : ∃ x, w.alloc (.cells #[.slice none 0 0] 26) = x := ⟨_, rfl⟩
  have hcell2 : 0 < n → ∃ b off, a = some ⟨b, off, none⟩ ∧ ∀ j, j < n → wa.cell? ⟨b, off + j, none⟩ = some (.int .u32 (gd L j : Int)) := fun h0 => by
    obtain ⟨b, off, e, hb, hcl⟩ := hcell h0
    rw [hwa] at hB
    exact ⟨b, off, e, fun j hj => (hB.cell (p := ⟨b, off + j, none⟩) hb).trans (hcl j hj)⟩
  rw [hwa] at hB hX
  have hcellH := Lib.hid hcell2
  have hcH := Lib.hid hc
  have hwaH := Lib.hid hwa
  have hBH := Lib.hid hB
  have hfr := hX.frozen
  have hx0 := hX.cell
  have hXH := Lib.hid hX
  clear hcell hcell2 hn hcc hc2 hc hwa hB hX
  go_enter Tryd.func39, Tryd.ntmps39
  go_wp2_with fail
  rw [hwaH.out]
  go_loopw [0] (fun v wr => ∃ k : Nat, v = .slice a k c ∧ k ≤ n ∧ Hid (trimL L n = trimL L k) ∧ wr = wa) (fun v _ => lenOf v)
  case atStart => exact ⟨n, rfl, Nat.le_refl _, Lib.hid rfl, rfl⟩
  case round =>
    obtain ⟨k, rfl, hk, hT, hwr⟩ := hrel
    subst hwr
    by_cases h0 : k = 0
    · subst h0
      have e0 : trimL L n = 0 := hT.out
      go_wp2_with fail
      have r0 := (hXH.out.set (.slice a 0 c)).cell
      have hE := hBH.out.setCell (p := ⟨w.heap.size, 0, none⟩) (Nat.le_refl _) (.slice a 0 c)
      obtain ⟨W3, hW3⟩ : ∃ W, wr.setCell ⟨w.heap.size, 0, none⟩ (.slice a 0 c) = W := ⟨_, rfl⟩
      rw [hW3] at r0 hE ⊢
      refine bodyPost_ret (v := .agg #[.slice a 0 c]) (by simp [results, Tryd.results39, go_sem, r0]) rfl ⟨by rw [e0], hE⟩
    · have hk0 : (0 : Int) < k := by omega
      obtain ⟨b, off, rfl, hcl⟩ := hcellH.out (by omega)
      obtain ⟨j, rfl⟩ : ∃ j, k = j + 1 := ⟨k - 1, by omega⟩
      have c0 := hcl j (by omega)
      have hj0 : ((j + 1 : Nat) : Int) - 1 = j := by omega
      have hjn : j < n := by omega
      have hjni : (j : Int) < n := by omega
      have hT1 : Hid (trimL L (j + 1) = if gd L j = 0 then trimL L j else j + 1) := Lib.hid rfl
      obtain ⟨d, hd⟩ : ∃ d, gd L j = d := ⟨_, rfl⟩
      rw [hd] at c0 hT1
      have hcn := hcH.out
      have hjc : (j : Int) ≤ c := by omega
      clear hd hcl
      by_cases hd0 : d = 0
      · subst hd0
        have hT2 : trimL L n = trimL L j := by rw [hT.out, hT1.out, if_pos rfl]
        have hT2H := Lib.hid hT2
        clear hT2
        go_wp2_with fail
        go_roundw
        case rel => exact ⟨j, by first | rfl | go_num, by omega, hT2H, by first | rfl | trivial⟩
        case measure => first | (simp [lenOf]; done) | (simp [lenOf]; omega)
      · have hT2 : trimL L n = j + 1 := by rw [hT.out, hT1.out, if_neg hd0]
        have hT2H := Lib.hid hT2
        have hdb : ((d : Int) == 0) = false := by rw [u32_zero]; exact decide_eq_false hd0
        clear hT2
        go_wp2_with fail
        have r0 := (hXH.out.set (.slice (some ⟨b, off, none⟩) (j + 1) c)).cell
        have hE := hBH.out.setCell (p := ⟨w.heap.size, 0, none⟩) (Nat.le_refl _) (.slice (some ⟨b, off, none⟩) (j + 1) c)
        obtain ⟨W3, hW3⟩ : ∃ W, wr.setCell ⟨w.heap.size, 0, none⟩ (.slice (some ⟨b, off, none⟩) (j + 1) c) = W := ⟨_, rfl⟩
        rw [hW3] at r0 hE ⊢
        refine bodyPost_ret (v := .agg #[.slice (some ⟨b, off, none⟩) (j + 1) c]) (by simp [results, Tryd.results39, go_sem, r0]) rfl ⟨by rw [hT2H.out], hE⟩
end Go.Proofs.YtffehdfddkgggaaDoor.Nu

/- Bits, twice; at. -/
namespace Go.Proofs.YtffehdfddkgggaaDoor.Nu
open Go.RowKit Rt
set_option linter.unusedSimpArgs false
set_option linter.unusedVariables false
theorem blen_half {x : Nat} (h : x ≠ 0) : blen x = 1 + blen (x / 2) := by
  have h1 := blen_lt (x / 2)
  rcases Nat.eq_zero_or_pos (x / 2) with h0 | h0
  · have : x = 1 := by omega
    subst this; rfl
  · have h2 := blen_ge (n := x / 2) (by omega)
    obtain ⟨t, ht⟩ : ∃ t, blen (x / 2) = t + 1 := ⟨blen (x / 2) - 1, by have : blen (x / 2) ≠ 0 := fun e => (by rw [blen_eq_zero] at e; omega); omega⟩
    rw [ht] at h1 h2 ⊢
    rw [Nat.add_sub_cancel] at h2
    rw [Nat.pow_succ] at h1
    have := blen_of (n := x) (k := t + 1) (by rw [Nat.pow_succ]; omega) (by rw [Nat.pow_succ, Nat.pow_succ]; omega)
    omega
theorem bitLen_eq : ∀ (f x : Nat), x < 2 ^ f → Lib.bitLenAux f x = blen x
  | 0, x, h => by have : x = 0 := by { rw [Nat.pow_zero] at h; omega }
                  subst this; rfl
  | f + 1, x, h => by
    unfold Lib.bitLenAux
    split
    · rename_i h0; subst h0; rfl
    · rename_i h0
      rw [bitLen_eq f (x / 2) (by rw [Nat.pow_succ] at h; omega), blen_half h0]
theorem blen_le32 {d : Nat} (h : d < Bs) : blen d ≤ 32 := blen_le.2 h
theorem LZ_any (d : Nat) (h : d < Bs) (w : World) : Calls Tryd.prog 42 #[.int .u32 (d : Int)] w fun e w' => e = .returned (.int .i64 (32 - (blen d : Int))) ∧ w' = w := by
  have h0 := Tryd.bits_LeadingZeros32 (d : Int) w (by omega) (by simp only [Bs] at h; omega)
  have e : Lib.bitLen (d : Int).toNat = blen d := by rw [Int.toNat_natCast]; exact bitLen_eq 64 d (by simp only [Bs] at h; omega)
  rw [e] at h0
  exact h0
/-! ### at -/
set_option maxHeartbeats 1000000 in
set_option maxRecDepth 100000 in
theorem At_any {w : World} {a : Option Addr} {c : Nat} {L : List Nat} (h : SlD w (.slice a L.length c) L) (hl : L.length ≤ 70368744177664) (i : Nat) (hi : i ≤ 70368744177664) (hd : Dig L) :
    Calls Tryd.prog 48 #[.agg #[.slice a L.length c], .int .i64 (i : Int)] w fun e w' => e = .returned (.int .u64 (gd L i : Int)) ∧ Below w.heap.size w w' := by
  obtain ⟨a', c', hv, hcc, hcell⟩ := h
  cases hv
  have hdi := hd i
  obtain ⟨n, hn⟩ : ∃ n, L.length = n := ⟨_, rfl⟩
  have hB : Below w.heap.size w (w.alloc (.cells #[.slice a L.length c] 26)) := (Below.refl _ w).alloc (Nat.le_refl _) _
  have hX := Boxed.new w 26 (.slice a L.length c)
  have x0 := hX.cell
  have hBH := Lib.hid hB
  have hout : n ≤ i → gd L i = 0 := fun h => gd_out (by omega)
  have houtH := Lib.hid hout
  rw [hn] at hl hcell hB x0 hBH ⊢
  obtain ⟨d, hdd⟩ : ∃ d, gd L i = d := ⟨_, rfl⟩
  by_cases hin : (i : Int) < n
  · obtain ⟨b, off, rfl, hbl, hcl⟩ := hcell (by omega)
    have c0 := (hB.cell (p := ⟨b, off + i, none⟩) hbl).trans (hcl i (by omega))
    rw [hdd] at hdi c0 ⊢
    have hw := wr64 (x := (d : Int)) (by omega) (by simp only [Bs] at hdi; omega)
    clear hcell hcl hn hB hX hout hdd hbl
    go_enter Tryd.func48, Tryd.ntmps48
    go_wp2
    go_ret
    exact ⟨rfl, hBH.out⟩
  · have h0 : d = 0 := by rw [← hdd]; exact hout (by omega)
    subst h0
    rw [hdd]
    clear hcell hn hB hX hout hdd
    go_enter Tryd.func48, Tryd.ntmps48
    go_wp2
    go_ret
    exact ⟨rfl, hBH.out⟩
/-! ### Bits -/
theorem norm_bits {L : List Nat} {j : Nat} (h : Norm L) (hj : L.length = j + 1) : blen (val L) = 32 * j + blen (gd L j) := by
  have := blen_val h (by omega)
  rw [hj, Nat.add_sub_cancel] at this
  exact this
set_option maxHeartbeats 2000000 in
set_option maxRecDepth 100000 in
theorem Bits_any {w : World} {a : Option Addr} {c : Nat} {L : List Nat} (h : SlD w (.slice a L.length c) L) (hl : L.length ≤ 70368744177664) (hN : Norm L) :
    Calls Tryd.prog 20 #[.agg #[.slice a L.length c]] w fun e w' => e = .returned (.int .i64 (blen (val L) : Int)) ∧ Below w.heap.size w w' := by
  obtain ⟨a', c', hv, hcc, hcell⟩ := h
  cases hv
  have hB : Below w.heap.size w (w.alloc (.cells #[.slice a L.length c] 26)) := (Below.refl _ w).alloc (Nat.le_refl _) _
  have hX := Boxed.new w 26 (.slice a L.length c)
  have x0 := hX.cell
  have hBH := Lib.hid hB
  rcases Nat.eq_zero_or_pos L.length with h0 | h0
  · have e : blen (val L) = 0 := by rw [List.length_eq_zero_iff.1 h0]; rfl
    rw [e]
    rw [h0] at x0 hBH ⊢
    clear hcell hB hX
    go_enter Tryd.func20, Tryd.ntmps20
    go_wp2
    go_ret
    exact ⟨rfl, hBH.out⟩
  · obtain ⟨j, hj⟩ : ∃ j, L.length = j + 1 := ⟨L.length - 1, by omega⟩
    have e := norm_bits hN hj
    have hdi := hN.dig j
    obtain ⟨b, off, rfl, hbl, hcl⟩ := hcell h0
    have c0 := (hB.cell (p := ⟨b, off + j, none⟩) hbl).trans (hcl j (by omega))
    have hLZ := Lib.hid (fun W => LZ_any (gd L j) hdi W)
    have hle := blen_le32 hdi
    obtain ⟨d, hd⟩ : ∃ d, gd L j = d := ⟨_, rfl⟩
    rw [hd] at c0 hLZ hle e
    obtain ⟨t, ht⟩ : ∃ t, blen d = t := ⟨_, rfl⟩
    rw [ht] at hLZ hle e
    rw [e]
    rw [hj] at hl x0 c0 hBH ⊢
    have hj0 : ((j + 1 : Nat) : Int) - 1 = j := by omega
    have hjn : ((j : Int)) < ((j + 1 : Nat) : Int) := by omega
    have hnz : ¬ ((j + 1 : Nat) : Int) = 0 := by omega
    have hwj := wr (x := (j : Int)) (by omega) (by omega)
    have hjl : (j : Int) < (j : Int) + 1 := by omega
    have hj1 : (0 : Int) ≤ (j : Int) := by omega
    have hnb : ((j : Int) + 1 == 0) = false := by simp; omega
    have hw1 := wr (x := 32 * ((j : Int) + 1)) (by omega) (by omega)
    have hw2 := wr (x := 32 * ((j : Int) + 1) - (32 - (t : Int))) (by omega) (by omega)
    have hres : 32 * ((j : Int) + 1) - (32 - (t : Int)) = ((32 * j + t : Nat) : Int) := by omega
    have hresH := Lib.hid hres
    clear hcell hcl hB hX hbl hj h0 hdi hN hcc hd ht hres e
    go_enter Tryd.func20, Tryd.ntmps20
    go_upto_region 3 with (fail)
    obtain ⟨wa, hwa⟩ : ∃ x, w.alloc (.cells #[.slice (some ⟨b, off, none⟩) (j + 1) c] 26) = x := ⟨_, rfl⟩
    rw [hwa] at x0 c0 hBH ⊢
    clear hwa
    obtain ⟨wd, hwd⟩ : ∃ d, wa.drew = d := ⟨_, rfl⟩
    have hbd : Below wa.heap.size wa wd := by rw [← hwd]; exact (Below.refl _ _).drew
    replace x0 := (hbd.cell (World.block_lt_of_cell? _ _ x0)).trans x0
    replace c0 := (hbd.cell (World.block_lt_of_cell? _ _ c0)).trans c0
    have hBd := Lib.hid (hBH.out.trans (hbd.mono hBH.out.size))
    clear hbd hBH
    refine Rt.wp_region_ordM [0, 1, 0, 0, 0, 1, 0, 1, 0, 0, 0, 1, 1, 0, 0] [0, 1, 2, 3, 4, 5, 6, 7, 8, 9, 10, 11, 12, 13, 14] (by kernel_rfl) (by kernel_rfl) ?_
    rw [hwd]
    clear hwd
    apply ord_pure rfl rfl rfl; (· (intro w; go_simp; with_reducible rfl)); (· (simp only [Act.put, Act.eval, List.setIfInBounds_toArray, List.set_cons_zero, List.set_cons_succ, Array.getD_eq_getD_getElem?, List.getElem?_toArray, List.getElem?_cons_zero, List.getElem?_cons_succ, Option.getD_some, List.getElem_toArray, List.getElem_cons_succ, List.getElem_cons_zero]; with_reducible rfl))
    apply ord_read rfl rfl rfl; (· (intro W hW; have g0 := cell_up hW x0; have g1 := cell_up hW c0; go_simp; with_reducible rfl)); (· (simp only [Act.put, Act.eval, List.setIfInBounds_toArray, List.set_cons_zero, List.set_cons_succ, Array.getD_eq_getD_getElem?, List.getElem?_toArray, List.getElem?_cons_zero, List.getElem?_cons_succ, Option.getD_some, List.getElem_toArray, List.getElem_cons_succ, List.getElem_cons_zero]; with_reducible rfl))
    apply ord_pure rfl rfl rfl; (· (intro w; go_simp; with_reducible rfl)); (· (simp only [Act.put, Act.eval, List.setIfInBounds_toArray, List.set_cons_zero, List.set_cons_succ, Array.getD_eq_getD_getElem?, List.getElem?_toArray, List.getElem?_cons_zero, List.getElem?_cons_succ, Option.getD_some, List.getElem_toArray, List.getElem_cons_succ, List.getElem_cons_zero]; with_reducible rfl))
    apply ord_pure rfl rfl rfl; (· (intro w; go_simp; with_reducible rfl)); (· (simp only [Act.put, Act.eval, List.setIfInBounds_toArray, List.set_cons_zero, List.set_cons_succ, Array.getD_eq_getD_getElem?, List.getElem?_toArray, List.getElem?_cons_zero, List.getElem?_cons_succ, Option.getD_some, List.getElem_toArray, List.getElem_cons_succ, List.getElem_cons_zero]; with_reducible rfl))
    apply ord_pure rfl rfl rfl; (· (intro w; go_simp; with_reducible rfl)); (· (simp only [Act.put, Act.eval, List.setIfInBounds_toArray, List.set_cons_zero, List.set_cons_succ, Array.getD_eq_getD_getElem?, List.getElem?_toArray, List.getElem?_cons_zero, List.getElem?_cons_succ, Option.getD_some, List.getElem_toArray, List.getElem_cons_succ, List.getElem_cons_zero]; with_reducible rfl))
    apply ord_read rfl rfl rfl; (· (intro W hW; have g0 := cell_up hW x0; have g1 := cell_up hW c0; go_simp; with_reducible rfl)); (· (simp only [Act.put, Act.eval, List.setIfInBounds_toArray, List.set_cons_zero, List.set_cons_succ, Array.getD_eq_getD_getElem?, List.getElem?_toArray, List.getElem?_cons_zero, List.getElem?_cons_succ, Option.getD_some, List.getElem_toArray, List.getElem_cons_succ, List.getElem_cons_zero]; with_reducible rfl))
    apply ord_pure rfl rfl rfl; (· (intro w; go_simp; with_reducible rfl)); (· (simp only [Act.put, Act.eval, List.setIfInBounds_toArray, List.set_cons_zero, List.set_cons_succ, Array.getD_eq_getD_getElem?, List.getElem?_toArray, List.getElem?_cons_zero, List.getElem?_cons_succ, Option.getD_some, List.getElem_toArray, List.getElem_cons_succ, List.getElem_cons_zero]; with_reducible rfl))
    apply ord_read rfl rfl rfl; (· (intro W hW; have g0 := cell_up hW x0; have g1 := cell_up hW c0; go_simp; with_reducible rfl)); (· (simp only [Act.put, Act.eval, List.setIfInBounds_toArray, List.set_cons_zero, List.set_cons_succ, Array.getD_eq_getD_getElem?, List.getElem?_toArray, List.getElem?_cons_zero, List.getElem?_cons_succ, Option.getD_some, List.getElem_toArray, List.getElem_cons_succ, List.getElem_cons_zero]; with_reducible rfl))
    apply ord_pure rfl rfl rfl; (· (intro w; go_simp; with_reducible rfl)); (· (simp only [Act.put, Act.eval, List.setIfInBounds_toArray, List.set_cons_zero, List.set_cons_succ, Array.getD_eq_getD_getElem?, List.getElem?_toArray, List.getElem?_cons_zero, List.getElem?_cons_succ, Option.getD_some, List.getElem_toArray, List.getElem_cons_succ, List.getElem_cons_zero]; with_reducible rfl))
    apply ord_pure rfl rfl rfl; (· (intro w; go_simp; with_reducible rfl)); (· (simp only [Act.put, Act.eval, List.setIfInBounds_toArray, List.set_cons_zero, List.set_cons_succ, Array.getD_eq_getD_getElem?, List.getElem?_toArray, List.getElem?_cons_zero, List.getElem?_cons_succ, Option.getD_some, List.getElem_toArray, List.getElem_cons_succ, List.getElem_cons_zero]; with_reducible rfl))
    apply ord_pure rfl rfl rfl; (· (intro w; go_simp; with_reducible rfl)); (· (simp only [Act.put, Act.eval, List.setIfInBounds_toArray, List.set_cons_zero, List.set_cons_succ, Array.getD_eq_getD_getElem?, List.getElem?_toArray, List.getElem?_cons_zero, List.getElem?_cons_succ, Option.getD_some, List.getElem_toArray, List.getElem_cons_succ, List.getElem_cons_zero]; with_reducible rfl))
    apply ord_read rfl rfl rfl; (· (intro W hW; have g0 := cell_up hW x0; have g1 := cell_up hW c0; go_simp; with_reducible rfl)); (· (simp only [Act.put, Act.eval, List.setIfInBounds_toArray, List.set_cons_zero, List.set_cons_succ, Array.getD_eq_getD_getElem?, List.getElem?_toArray, List.getElem?_cons_zero, List.getElem?_cons_succ, Option.getD_some, List.getElem_toArray, List.getElem_cons_succ, List.getElem_cons_zero]; with_reducible rfl))
    apply ord_quiet rfl rfl rfl; (· (intro W hW; go_simp; exact ⟨rfl, rfl⟩)); (· (intro W hW; exact hLZ.out W)); (· (simp only [Act.put, Act.eval, List.setIfInBounds_toArray, List.set_cons_zero, List.set_cons_succ, Array.getD_eq_getD_getElem?, List.getElem?_toArray, List.getElem?_cons_zero, List.getElem?_cons_succ, Option.getD_some, List.getElem_toArray, List.getElem_cons_succ, List.getElem_cons_zero]; with_reducible rfl))
    apply ord_pure rfl rfl rfl; (· (intro w; go_simp; with_reducible rfl)); (· (simp only [Act.put, Act.eval, List.setIfInBounds_toArray, List.set_cons_zero, List.set_cons_succ, Array.getD_eq_getD_getElem?, List.getElem?_toArray, List.getElem?_cons_zero, List.getElem?_cons_succ, Option.getD_some, List.getElem_toArray, List.getElem_cons_succ, List.getElem_cons_zero]; with_reducible rfl))
    apply ord_pure rfl rfl rfl; (· (intro w; go_simp; with_reducible rfl)); (· (simp only [Act.put, Act.eval, List.setIfInBounds_toArray, List.set_cons_zero, List.set_cons_succ, Array.getD_eq_getD_getElem?, List.getElem?_toArray, List.getElem?_cons_zero, List.getElem?_cons_succ, Option.getD_some, List.getElem_toArray, List.getElem_cons_succ, List.getElem_cons_zero]; with_reducible rfl))
    with_reducible refine ord_nil ?_
    go_wp2
    go_ret
    exact ⟨by rw [← hresH.out]; rfl, hBd.out⟩
end Go.Proofs.YtffehdfddkgggaaDoor.Nu

/- The reference's Bits; short, Small. -/
namespace Go.Proofs.YtffehdfddkgggaaDoor.Nu
open Go.RowKit Rt
set_option linter.unusedSimpArgs false
set_option linter.unusedVariables false
theorem norm_len {L : List Nat} {k : Nat} (h : Norm L) (hb : blen (val L) ≤ k) : L.length ≤ k + 1 := by
  rcases Nat.eq_zero_or_pos L.length with h0 | h0
  · omega
  · have := blen_val h h0; omega
set_option maxHeartbeats 1000000 in
set_option maxRecDepth 100000 in
theorem RBits_any {w : World} {a : Option Addr} {c : Nat} {L : List Nat} (h : SlD w (.slice a L.length c) L) (hl : L.length ≤ 70368744177664) (hN : Norm L) :
    Calls Tryd.prog 18 #[.slice a L.length c] w fun e w' => e = .returned (.int .i64 (blen (val L) : Int)) ∧ w' = w := by
  obtain ⟨a', c', hv, hcc, hcell⟩ := h
  cases hv
  rcases Nat.eq_zero_or_pos L.length with h0 | h0
  · have e : blen (val L) = 0 := by rw [List.length_eq_zero_iff.1 h0]; rfl
    rw [e, h0]
    clear hcell
    go_enter Tryd.func18, Tryd.ntmps18
    go_wp2
    go_ret
    exact ⟨rfl, rfl⟩
  · obtain ⟨j, hj⟩ : ∃ j, L.length = j + 1 := ⟨L.length - 1, by omega⟩
    have e := norm_bits hN hj
    have hdi := hN.dig j
    obtain ⟨b, off, rfl, hbl, hcl⟩ := hcell h0
    have c0 := hcl j (by omega)
    have hle := blen_le32 hdi
    obtain ⟨d, hd⟩ : ∃ d, gd L j = d := ⟨_, rfl⟩
    rw [hd] at c0 hle e hdi
    obtain ⟨t, ht⟩ : ∃ t, blen d = t := ⟨_, rfl⟩
    rw [ht] at hle e
    rw [e]
    rw [hj] at hl ⊢
    have htH := Lib.hid ht
    have hwj := wr (x := (j : Int)) (by omega) (by omega)
    have hjl : (j : Int) < (j : Int) + 1 := by omega
    have hj1 : (0 : Int) ≤ (j : Int) := by omega
    have hnb : ((j : Int) + 1 == 0) = false := by simp; omega
    have hw1 := wr (x := 32 * (j : Int)) (by omega) (by omega)
    have hdB : Hid (d < Bs) := Lib.hid hdi
    clear hcell hcl hbl hj h0 hN hcc hd ht e hdi
    go_enter Tryd.func18, Tryd.ntmps18
    go_wp2_with fail
    go_loopw [3, 4] (fun vn vd wr => ∃ s x : Nat, vn = .int .i64 ((32 * j + s : Nat) : Int) ∧ vd = .int .u32 (x : Int) ∧ Hid (s + blen x = t) ∧ Hid (x < Bs) ∧ wr = w) (fun _ vd _ => (intOf vd).toNat)
    case atStart => exact ⟨0, d, by simp, rfl, Lib.hid (by rw [htH.out]; omega), hdB, rfl⟩
    case round =>
      obtain ⟨s, x, rfl, rfl, hs, hx, hwr⟩ := hrel
      subst hwr
      have hsl : s ≤ 32 := by have := hs.out; omega
      by_cases hx0 : x = 0
      · subst hx0
        have hst : s = t := by have := hs.out; rw [blen_zero] at this; omega
        subst hst
        go_wp2_with fail
        go_ret
        exact ⟨rfl, rfl⟩
      · have hxp : (0 : Int) < x := by omega
        have hs2 : Hid ((s + 1) + blen (x / 2) = t) := Lib.hid (by have := hs.out; rw [blen_half hx0] at this; omega)
        have hx2 : Hid (x / 2 < Bs) := Lib.hid (by have := hx.out; omega)
        have hxB := hx.out
        have hq : Int.tdiv (x : Int) 2 = ((x / 2 : Nat) : Int) := (Int.ofNat_tdiv x 2).symm
        have hw2 := Nu.wr32 (x := ((x / 2 : Nat) : Int)) (by omega) (by simp only [Bs] at hxB; omega)
        have hw3 := Nu.wr (x := ((32 * j + s : Nat) : Int) + 1) (by omega) (by omega)
        have hmeas : x / 2 < x := by omega
        obtain ⟨y, hy⟩ : ∃ y, x / 2 = y := ⟨_, rfl⟩
        rw [hy] at hs2 hx2 hq hw2 hmeas
        clear hxB hy hs hx
        go_wp2_with fail
        go_roundw
        case rel => exact ⟨s + 1, y, by first | rfl | go_num | (congr 1; omega), rfl, hs2, hx2, by first | rfl | trivial⟩
        case measure => first | (simp [intOf]; done) | (simp [intOf]; omega)
/-! ### over numbers -/
theorem NumAt.bits {w : World} {v : Value} {n : Nat} (h : NumAt w v n) (hb : blen n ≤ 1000000) : Calls Tryd.prog 20 #[.agg #[v]] w fun e w' => e = .returned (.int .i64 (blen n : Int)) ∧ Below w.heap.size w w' := by
  obtain ⟨L, h1, rfl, h3⟩ := h
  have hl := norm_len h1 hb
  obtain ⟨a, c, rfl, hc, h4⟩ := id h3
  exact Bits_any h3 (by omega) h1
theorem NumAt.rbits {w : World} {v : Value} {n : Nat} (h : NumAt w v n) (hb : blen n ≤ 1000000) : Calls Tryd.prog 18 #[v] w fun e w' => e = .returned (.int .i64 (blen n : Int)) ∧ w' = w := by
  obtain ⟨L, h1, rfl, h3⟩ := h
  have hl := norm_len h1 hb
  obtain ⟨a, c, rfl, hc, h4⟩ := id h3
  exact RBits_any h3 (by omega) h1
end Go.Proofs.YtffehdfddkgggaaDoor.Nu

/- short, Small. -/
namespace Go.Proofs.YtffehdfddkgggaaDoor.Nu
open Go.RowKit Rt
set_option linter.unusedSimpArgs false
set_option linter.unusedVariables false
theorem NumAt.shape {w : World} {v : Value} {n : Nat} (h : NumAt w v n) : ∃ a m c, v = .slice a m c := by
  obtain ⟨L, _, _, a, c, rfl, _⟩ := h
  exact ⟨_, _, _, rfl⟩
def errN (n : Nat) : Int := if 4096 < blen n then 3 else 0
def capN (n : Nat) : Nat := if 4096 < blen n then 0 else n
theorem Nm_below {W W' : World} {g t : Nat} {v : Value} (h : Boxed W g t v) (hb : Below W.heap.size W W') (hs : g + 1 ≤ W.heap.size) : Boxed W' g t v := (hb.block g (by omega)).trans h
set_option maxHeartbeats 1000000 in
set_option maxRecDepth 100000 in
theorem Short_N {w : World} {v : Value} {n : Nat} (h : NumAt w v n) (hb : blen n ≤ 1000000) :
    Calls Tryd.prog 49 #[.agg #[v]] w fun e w' => ∃ v', e = .returned (.tuple #[.agg #[v'], .int .i64 (errN n)]) ∧ NumAt w' v' (capN n) ∧ Below w.heap.size w w' := by
  obtain ⟨a, m, c, rfl⟩ := h.shape
  have hB1 : Below w.heap.size w (w.alloc (.cells #[.slice a m c] 26)) := (Below.refl _ w).alloc (Nat.le_refl _) _
  have hB2 : Below w.heap.size w ((w.alloc (.cells #[.slice a m c] 26)).alloc (.cells #[.slice none 0 0] 26)) := hB1.alloc (by simp) _
  have hX1 := Boxed.new w 26 (.slice a m c)
  have hX2 := Boxed.new (w.alloc (.cells #[.slice a m c] 26)) 26 (.slice none 0 0)
  rw [World.size_alloc] at hX2
  have hX1' := (((Below.refl (w.heap.size + 1) (w.alloc (.cells #[.slice a m c] 26))).alloc (by simp) (.cells #[.slice none 0 0] 26)).cell (p := ⟨w.heap.size, 0, none⟩) (Nat.lt_succ_self _)).trans hX1.cell
  obtain ⟨wa, hwa⟩ : ∃ x, (w.alloc (.cells #[.slice a m c] 26)).alloc (.cells #[.slice none 0 0] 26) = x := ⟨_, rfl⟩
  rw [hwa] at hB2 hX2 hX1'
  have hBits := Lib.hid ((h.below hB2).bits hb)
  have hN := Lib.hid h
  have hBH := Lib.hid hB2
  have hXH := Lib.hid hX2
  have hwaH := Lib.hid hwa
  have hsz : w.heap.size + 2 ≤ wa.heap.size := by rw [← hwa]; simp
  have hszH := Lib.hid hsz
  unfold errN capN
  have hbH := Lib.hid hb
  obtain ⟨k, hk⟩ : ∃ k, blen n = k := ⟨_, rfl⟩
  rw [hk] at hBits hb ⊢
  clear h hB1 hB2 hX1 hX2 hwa hsz
  by_cases hgt : 4096 < k
  · have hgi : (4096 : Int) < k := by omega
    rw [if_pos hgt, if_pos hgt]
    clear hk
    go_enter Tryd.func49, Tryd.ntmps49
    go_upto_region 1 with (fail)
    rw [hwaH.out]
    go_wp2_with (go_at_call 20; refine hBits.out.mono ?_; rintro e w2 ⟨rfl, hb2⟩; have x2 := Nm_below hXH.out hb2 hszH.out; have x2c := x2.cell; have x2f := x2.frozen)
    have r0 := (x2.set (.slice none 0 0)).cell
    have hE := (hBH.out.trans (hb2.mono hBH.out.size)).setCell (p := ⟨w.heap.size + 1, 0, none⟩) (Nat.le_succ _) (.slice none 0 0)
    obtain ⟨W3, hW3⟩ : ∃ W, w2.setCell ⟨w.heap.size + 1, 0, none⟩ (.slice none 0 0) = W := ⟨_, rfl⟩
    rw [hW3] at r0 hE ⊢
    refine bodyPost_ret (v := .tuple #[.agg #[.slice none 0 0], .int .i64 3]) (by simp [results, Tryd.results49, go_sem, r0]) rfl ⟨_, rfl, NumAt.zero _, hE⟩
  · have hgi : ¬ (4096 : Int) < k := by omega
    rw [if_neg hgt, if_neg hgt]
    clear hk
    go_enter Tryd.func49, Tryd.ntmps49
    go_upto_region 1 with (fail)
    rw [hwaH.out]
    go_wp2_with (go_at_call 20; refine hBits.out.mono ?_; rintro e w2 ⟨rfl, hb2⟩; have x2 := Nm_below hXH.out hb2 hszH.out; have x2c := x2.cell; have x2f := x2.frozen; have x1 := (hb2.cell (World.block_lt_of_cell? _ _ hX1')).trans hX1')
    have r0 := (x2.set (.slice a m c)).cell
    have hE := (hBH.out.trans (hb2.mono hBH.out.size)).setCell (p := ⟨w.heap.size + 1, 0, none⟩) (Nat.le_succ _) (.slice a m c)
    obtain ⟨W3, hW3⟩ : ∃ W, w2.setCell ⟨w.heap.size + 1, 0, none⟩ (.slice a m c) = W := ⟨_, rfl⟩
    rw [hW3] at r0 hE ⊢
    refine bodyPost_ret (v := .tuple #[.agg #[.slice a m c], .int .i64 0]) (by simp [results, Tryd.results49, go_sem, r0]) rfl ⟨_, rfl, hN.out.below hE, hE⟩
end Go.Proofs.YtffehdfddkgggaaDoor.Nu

/- Small; what ends with trim. -/
namespace Go.Proofs.YtffehdfddkgggaaDoor.Nu
open Go.RowKit Rt
set_option linter.unusedSimpArgs false
set_option linter.unusedVariables false
theorem Trim_row {w : World} {g c : Nat} {L : List Nat} (h : RowM w g L) (hd : Dig L) (hl : L.length ≤ 70368744177664) (hc : L.length ≤ c) (hc2 : c ≤ maxLen) :
    Calls Tryd.prog 39 #[.slice (some ⟨g, 0, none⟩) L.length c] w fun e w' => ∃ k, e = .returned (.agg #[.slice (some ⟨g, 0, none⟩) k c]) ∧ NumAt w' (.slice (some ⟨g, 0, none⟩) k c) (val L) ∧ Below w.heap.size w w' := by
  have hs := h.sl (k := L.length) (Nat.le_refl _) hc
  rw [List.take_length] at hs
  have ht := trimL_le L L.length
  obtain ⟨h1, h2⟩ := trim_norm hd
  refine (Trim_any hs hl hc hc2).mono ?_
  rintro e w' ⟨rfl, hb⟩
  exact ⟨_, rfl, ⟨_, h1, h2, (h.sl ht (by omega)).below hb⟩, hb⟩
/-- A store into another block leaves a number alone. -/
theorem SlD.other {w : World} {v : Value} {L : List Nat} (h : SlD w v L) {p : Addr} (u : Value) (hp : ∀ a m c, v = .slice (some a) m c → a.block ≠ p.block) : SlD (w.setCell p u) v L := by
  obtain ⟨a, c, rfl, hc, h2⟩ := h
  refine ⟨a, c, rfl, hc, fun h0 => ?_⟩
  obtain ⟨b, off, rfl, hb1, hcell⟩ := h2 h0
  exact ⟨b, off, rfl, by rw [World.size_setCell]; exact hb1, fun j hj => (World.cell?_of_block (a := ⟨b, off + j, none⟩) (Below.heap_setCell w p u b (hp _ _ _ rfl))).trans (hcell j hj)⟩
theorem NumAt.other {w : World} {v : Value} {n : Nat} (h : NumAt w v n) {p : Addr} (u : Value) (hp : ∀ a m c, v = .slice (some a) m c → a.block ≠ p.block) : NumAt (w.setCell p u) v n := by
  obtain ⟨L, h1, h2, h3⟩ := h
  exact ⟨L, h1, h2, h3.other u hp⟩
theorem conv32 (x : Nat) : IntKind.u32.wrap (x : Int) = ((x % Bs : Nat) : Int) := by
  simp [IntKind.wrap, IntKind.bits, IntKind.signed, Bs]
set_option maxHeartbeats 1000000 in
set_option maxRecDepth 100000 in
theorem Small_N (w : World) (x : Nat) (hx : x < 18446744073709551616) :
    Calls Tryd.prog 14 #[.int .u64 (x : Int)] w fun e w' => ∃ v', e = .returned (.agg #[v']) ∧ NumAt w' v' x ∧ Below w.heap.size w w' := by
  have hB1 : Below w.heap.size w (w.alloc (.cells #[.slice none 0 0] 26)) := (Below.refl _ w).alloc (Nat.le_refl _) _
  have hX := Boxed.new w 26 (.slice none 0 0)
  have hobj : (#[.int .u32 ((x : Int) % 4294967296), .int .u32 ((x : Int) / 4294967296)] : Array Value) = encD [x % Bs, x / Bs] := by simp [encD, dv]
  have hM : RowM ((w.alloc (.cells #[.slice none 0 0] 26)).alloc (.cells (encD [x % Bs, x / Bs]) 60)) (w.heap.size + 1) [x % Bs, x / Bs] := by
    have := World.alloc_heap_new (w.alloc (.cells #[.slice none 0 0] 26)) (.cells (encD [x % Bs, x / Bs]) 60)
    rw [World.size_alloc] at this
    exact this
  have hB2 : Below w.heap.size w ((w.alloc (.cells #[.slice none 0 0] 26)).alloc (.cells (encD [x % Bs, x / Bs]) 60)) := hB1.alloc (by simp) _
  have hX2 : Boxed ((w.alloc (.cells #[.slice none 0 0] 26)).alloc (.cells (encD [x % Bs, x / Bs]) 60)) w.heap.size 26 (.slice none 0 0) := (Below.heap_alloc _ _ _ (by simp)).trans hX
  have hsz : w.heap.size + 1 ≤ ((w.alloc (.cells #[.slice none 0 0] 26)).alloc (.cells (encD [x % Bs, x / Bs]) 60)).heap.size := by simp
  obtain ⟨w2, hw2⟩ : ∃ W, (w.alloc (.cells #[.slice none 0 0] 26)).alloc (.cells (encD [x % Bs, x / Bs]) 60) = W := ⟨_, rfl⟩
  rw [hw2] at hM hB2 hX2 hsz
  have hd : Dig [x % Bs, x / Bs] := by
    intro j
    match j with
    | 0 => exact Nat.mod_lt _ (by decide)
    | 1 => exact (Nat.div_lt_iff_lt_mul (by decide)).2 hx
    | j + 2 => exact (by decide : 0 < Bs)
  have hval : val [x % Bs, x / Bs] = x := by
    show dsum (gd [x % Bs, x / Bs]) 2 = x
    simp only [dsum, gd, List.getD_cons_zero, List.getD_cons_succ, Nat.pow_zero, Nat.pow_one, Nat.mul_one, Nat.zero_add]
    rw [Nat.mul_comm]
    exact Nat.mod_add_div _ _
  have hT := Lib.hid (Trim_row hM hd (show (2 : Nat) ≤ _ by decide) (Nat.le_refl 2) (by decide))
  rw [hval] at hT
  have hTH := Lib.hid hT
  have hobjH := Lib.hid hobj
  have hw2H := Lib.hid hw2
  have hBH := Lib.hid hB2
  have hXH := Lib.hid hX2
  have hszH := Lib.hid hsz
  clear hobj hM hB1 hB2 hX hX2 hw2 hsz hd hval hT
  go_enter Tryd.func14, Tryd.ntmps14
  go_wp2_with fail
  rw [hobjH.out, hw2H.out]
  refine hTH.out.out.mono ?_
  rintro e w3 ⟨k, rfl, hn, hb3⟩
  have x2 := Nm_below hXH.out hb3 hszH.out
  have x2c := x2.cell
  have x2f := x2.frozen
  have hnH := Lib.hid hn
  go_wp2_with fail
  have r0 := (x2.set (.slice (some ⟨w.heap.size + 1, 0, none⟩) k 2)).cell
  have hE := (hBH.out.trans (hb3.mono hBH.out.size)).setCell (p := ⟨w.heap.size, 0, none⟩) (Nat.le_refl _) (.slice (some ⟨w.heap.size + 1, 0, none⟩) k 2)
  have hN3 := hnH.out.other (p := ⟨w.heap.size, 0, none⟩) (.slice (some ⟨w.heap.size + 1, 0, none⟩) k 2) (by intro b off q e; cases e; show w.heap.size + 1 ≠ w.heap.size; omega)
  obtain ⟨W3, hW3⟩ : ∃ W, w3.setCell ⟨w.heap.size, 0, none⟩ (.slice (some ⟨w.heap.size + 1, 0, none⟩) k 2) = W := ⟨_, rfl⟩
  rw [hW3] at r0 hE hN3 ⊢
  refine bodyPost_ret (v := .agg #[.slice (some ⟨w.heap.size + 1, 0, none⟩) k 2]) (by simp [results, Tryd.results14, go_sem, r0]) rfl ⟨_, rfl, hN3, hE⟩
end Go.Proofs.YtffehdfddkgggaaDoor.Nu

/- Two numbers in boxes; mul. -/
namespace Go.Proofs.YtffehdfddkgggaaDoor.Nu
open Go.RowKit Rt
set_option linter.unusedSimpArgs false
set_option linter.unusedVariables false
/-- Two numbers in boxes, and a cell for the result. -/
structure Set3 (w W : World) (u v : Value) : Prop where
  bu : Boxed W w.heap.size 26 u
  bv : Boxed W (w.heap.size + 1) 26 v
  br : Boxed W (w.heap.size + 2) 26 (.slice none 0 0)
  bel : Below w.heap.size w W
  size : w.heap.size + 3 ≤ W.heap.size
theorem Set3.made (w : World) (u v : Value) : Set3 w (((w.alloc (.cells #[u] 26)).alloc (.cells #[v] 26)).alloc (.cells #[.slice none 0 0] 26)) u v := by
  have h1 := Boxed.new w 26 u
  have h2 := Boxed.new (w.alloc (.cells #[u] 26)) 26 v
  have h3 := Boxed.new ((w.alloc (.cells #[u] 26)).alloc (.cells #[v] 26)) 26 (.slice none 0 0)
  rw [World.size_alloc] at h2
  rw [World.size_alloc, World.size_alloc] at h3
  refine ⟨?_, ?_, h3, (((Below.refl _ w).alloc (Nat.le_refl _) _).alloc (by simp) _).alloc (by simp; omega) _, by simp⟩
  · exact (Below.heap_alloc _ _ _ (by simp; omega)).trans ((Below.heap_alloc _ _ _ (by simp)).trans h1)
  · exact (Below.heap_alloc _ _ _ (by simp)).trans h2
theorem Set3.kept {w W W' : World} {u v : Value} {S : Nat → Prop} (h : Set3 w W u v) (hk : Kept S W W') (hS : ∀ x, S x → w.heap.size + 3 ≤ x) : Set3 w W' u v := by
  have hs := h.size
  refine ⟨(hk.block _ (by omega) (fun e => by have := hS _ e; omega)).trans h.bu, (hk.block _ (by omega) (fun e => by have := hS _ e; omega)).trans h.bv, (hk.block _ (by omega) (fun e => by have := hS _ e; omega)).trans h.br, h.bel.trans (hk.below h.bel.size fun k hk' e => by have := hS _ e; omega), Nat.le_trans hs hk.size⟩
theorem Set3.below {w W W' : World} {u v : Value} (h : Set3 w W u v) (hb : Below W.heap.size W W') : Set3 w W' u v := h.kept (S := fun _ => False) (Kept.of_below hb) (fun _ h => h.elim)
theorem Set3.put {w W : World} {u v : Value} (h : Set3 w W u v) {g j : Nat} (hg : w.heap.size + 3 ≤ g) (x : Value) : Set3 w (W.setCell ⟨g, j, none⟩ x) u v :=
  h.kept (S := fun x => x = g) (Kept.setCell (S := fun x => x = g) (p := ⟨g, j, none⟩) (Kept.refl _ W) (.inl rfl) x) (fun y e => by subst e; exact hg)
/-- A number that came in, at a place, later. -/
theorem SlD.at {w W : World} {a : Option Addr} {n c : Nat} {L : List Nat} (h : SlD w (.slice a n c) L) (hb : Below w.heap.size w W) {j : Nat} (hj : j < L.length) : ∃ b off, a = some ⟨b, off, none⟩ ∧ W.cell? ⟨b, off + j, none⟩ = some (.int .u32 (gd L j : Int)) := by
  obtain ⟨a', c', hv, _, h2⟩ := h
  cases hv
  obtain ⟨b, off, rfl, hb1, hc⟩ := h2 (by omega)
  exact ⟨b, off, rfl, (hb.cell (p := ⟨b, off + j, none⟩) hb1).trans (hc j hj)⟩
theorem SlD.len {w : World} {a : Option Addr} {n c : Nat} {L : List Nat} (h : SlD w (.slice a n c) L) : n = L.length := by
  obtain ⟨a', c', hv, _⟩ := h
  cases hv; rfl
/-- The rows of a product under way. -/
structure MulI (w W : World) (u v : Value) (g la lb : Nat) (A C : List Nat) (k : Nat) (O : List Nat) : Prop where
  set : Set3 w W u v
  row : RowM W g O
  len : O.length = la + lb
  dig : Dig O
  far : ∀ j, k + lb ≤ j → gd O j = 0
  sum : dsum (gd O) (la + lb) = dsum (gd A) k * val C
/-- .. within a row. -/
structure MulJ (w W : World) (u v : Value) (g la lb : Nat) (x k : Nat) (C O : List Nat) (m : Nat) (O' : List Nat) : Prop where
  set : Set3 w W u v
  row : RowM W g O'
  len : O'.length = la + lb
  dig : Dig O'
  is : ∀ j, gd O' j = if k ≤ j ∧ j < k + m then ot (mt x (gd C) fun q => gd O (k + q)) (j - k) else gd O j
theorem MulJ.step {w W : World} {u v : Value} {g la lb x k m : Nat} {C O O' : List Nat} (h : MulJ w W u v g la lb x k C O m O') (hg : w.heap.size + 3 ≤ g) (hm : k + m < la + lb) {y : Int} (hy : y = ((ot (mt x (gd C) fun q => gd O (k + q)) m : Nat) : Int)) :
    MulJ w (W.setCell ⟨g, k + m, none⟩ (.int .u32 y)) u v g la lb x k C O (m + 1) (O'.set (k + m) (ot (mt x (gd C) fun q => gd O (k + q)) m)) := by
  subst hy
  refine ⟨h.set.put hg _, h.row.set _ _, by rw [List.length_set]; exact h.len, dig_set h.dig (ot_lt _ _), fun j => ?_⟩
  rw [gd_set (by rw [h.len]; exact hm)]
  by_cases h1 : j = k + m
  · subst h1
    rw [if_pos rfl, if_pos ⟨by omega, by omega⟩, show k + m - k = m by omega]
  · rw [if_neg h1, h.is j]
    by_cases h2 : k ≤ j ∧ j < k + m
    · rw [if_pos h2, if_pos ⟨h2.1, by omega⟩]
    · rw [if_neg h2, if_neg (by omega)]
theorem MulI.next {w W : World} {u v : Value} {g la lb k : Nat} {A C O O' : List Nat} (h : MulI w W u v g la lb A C k O) {W' : World} (hlb : C.length = lb) (hC : Dig C) (hx : gd A k < Bs) (hk : k < la) (j : MulJ w W' u v g la lb (gd A k) k C O lb O') (hg : w.heap.size + 3 ≤ g) {y : Int} (hy : y = ((cr (mt (gd A k) (gd C) fun q => gd O (k + q)) lb : Nat) : Int)) :
    MulI w (W'.setCell ⟨g, k + lb, none⟩ (.int .u32 y)) u v g la lb A C (k + 1) (O'.set (k + lb) (cr (mt (gd A k) (gd C) fun q => gd O (k + q)) lb)) := by
  subst hy
  have hcr := cr_lt (t := mt (gd A k) (gd C) fun q => gd O (k + q)) (mt_le hx hC fun q => h.dig _) lb
  have hl : k + lb < O'.length := by rw [j.len]; omega
  refine ⟨j.set.put hg _, j.row.set _ _, by rw [List.length_set]; exact j.len, dig_set j.dig hcr, fun i hi => ?_, ?_⟩
  · rw [gd_set hl, if_neg (by omega), j.is i, if_neg (by omega)]
    exact h.far i (by omega)
  · have hv : dsum (gd C) lb = val C := by unfold val; rw [hlb]
    have hr := mul_row (o := gd O) (o' := gd (O'.set (k + lb) (cr (mt (gd A k) (gd C) fun q => gd O (k + q)) lb))) (b := gd C) (x := gd A k) (i := k) (lb := lb) (N := la + lb) (by omega) (fun i hi => h.far i hi)
      (fun i hi => by rw [gd_set hl, if_neg (by omega), j.is i, if_neg (by omega)])
      (fun q hq => by rw [gd_set hl, if_neg (by omega), j.is (k + q), if_pos ⟨by omega, by omega⟩, show k + q - k = q by omega])
      (by rw [gd_set hl, if_pos rfl])
      (fun i hi => by rw [gd_set hl, if_neg (by omega), j.is i, if_neg (by omega)]; exact h.far i (by omega))
    rw [hr, h.sum, hv, dsum_succ, Nat.add_mul]
end Go.Proofs.YtffehdfddkgggaaDoor.Nu

/- mul: the walk. -/
namespace Go.Proofs.YtffehdfddkgggaaDoor.Nu
open Go.RowKit Rt
set_option linter.unusedSimpArgs false
set_option linter.unusedVariables false
theorem emod_cast (n : Nat) : (n : Int) % 4294967296 = ((n % Bs : Nat) : Int) := by simp [Bs]
theorem ediv_cast (n : Nat) : (n : Int) / 4294967296 = ((n / Bs : Nat) : Int) := by simp [Bs]
set_option maxHeartbeats 4000000 in
set_option maxRecDepth 100000 in
theorem Mul_any {w : World} {u v : Value} {A C : List Nat} (hu : SlD w u A) (hv : SlD w v C) (hA : Dig A) (hC : Dig C) (hlA : A.length ≤ 1000000) (hlC : C.length ≤ 1000000) :
    Calls Tryd.prog 46 #[.agg #[u], .agg #[v]] w fun e w' => ∃ r, e = .returned (.agg #[r]) ∧ NumAt w' r (val A * val C) ∧ Below w.heap.size w w' := by
  obtain ⟨a, ca, rfl, _, _⟩ := id hu
  obtain ⟨b, cb, rfl, _, _⟩ := id hv
  obtain ⟨la, hla⟩ : ∃ n, A.length = n := ⟨_, rfl⟩
  obtain ⟨lb, hlb⟩ : ∃ n, C.length = n := ⟨_, rfl⟩
  rw [hla] at hlA hu ⊢
  rw [hlb] at hlC hv ⊢
  have huH := Lib.hid hu
  have hvH := Lib.hid hv
  have hAH := Lib.hid hA
  have hCH := Lib.hid hC
  have hlaH := Lib.hid hla
  have hlbH := Lib.hid hlb
  have hS0 := Lib.hid (Set3.made w (.slice a la ca) (.slice b lb cb))
  obtain ⟨W0, hW0⟩ : ∃ W, ((w.alloc (.cells #[.slice a la ca] 26)).alloc (.cells #[.slice b lb cb] 26)).alloc (.cells #[.slice none 0 0] 26) = W := ⟨_, rfl⟩
  rw [hW0] at hS0
  have hW0s : W0.heap.size = w.heap.size + 3 := by rw [← hW0]; simp
  have hW0H := Lib.hid hW0
  have hW0sH := Lib.hid hW0s
  have hmk := run_mk W0 (la + lb) (la + lb) (Nat.le_refl _) (by omega)
  rw [hW0s] at hmk
  rw [show (((la + lb : Nat)) : Int) = (la : Int) + (lb : Int) from Int.natCast_add la lb] at hmk
  have y0 := hS0.out.bu.cell
  have y1 := hS0.out.bv.cell
  have hwl := wr (x := (la : Int) + (lb : Int)) (by omega) (by omega)
  clear hW0 hu hv hA hC hla hlb hW0s
  go_enter Tryd.func46, Tryd.ntmps46
  go_upto_region 1 with (fail)
  rw [hW0H.out]
  go_upto_region 2 with (fail)
  have hM1 := RowM.made W0 (la + lb)
  rw [hW0sH.out] at hM1
  have hS1 := hS0.out.below ((Below.refl _ W0).alloc (Nat.le_refl _) (.cells (encD (List.replicate (la + lb) 0)) 60))
  obtain ⟨W1, hW1⟩ : ∃ W, W0.alloc (.cells (encD (List.replicate (la + lb) 0)) 60) = W := ⟨_, rfl⟩
  rw [hW1] at hM1 hS1 ⊢
  obtain ⟨g, hg⟩ : ∃ g, w.heap.size + 3 = g := ⟨_, rfl⟩
  rw [hg] at hM1 ⊢
  have hI1 : Hid (MulI w W1 (.slice a la ca) (.slice b lb cb) g la lb A C 0 (List.replicate (la + lb) 0)) := Lib.hid ⟨hS1, hM1, List.length_replicate, dig_zeros _, fun j _ => gd_zeros _ _, by
    rw [dsum_congr (g := fun _ => 0) (fun j _ => gd_zeros _ _), dsum_zero (i := 0) (Nat.zero_le _) (fun _ _ => rfl)]; simp [dsum]⟩
  have hgH := Lib.hid hg
  have z0 := hS1.bu.cell
  clear hW1 hM1 hS1 hg hmk y0 y1 hS0 hW0sH hW0H
  go_wp2_with fail
  clear z0
  go_loopw [23] (fun vk wr => ∃ (k : Nat) (O : List Nat), vk = .int .i64 k ∧ k ≤ la ∧ Hid (MulI w wr (.slice a la ca) (.slice b lb cb) g la lb A C k O)) (fun vk _ => la - (intOf vk).toNat)
  case atStart => exact ⟨0, _, rfl, Nat.zero_le _, hI1⟩
  case round =>
    obtain ⟨k, O, rfl, hk, hI⟩ := hrel
    clear hI1
    by_cases hlt : (k : Int) < la
    · have hkl : k < la := by omega
      obtain ⟨ba, oa, rfl, cA⟩ := huH.out.at hI.out.set.bel (j := k) (by rw [hlaH.out]; exact hkl)
      have z1 := hI.out.set.bv.cell
      have hxB := hAH.out k
      obtain ⟨x, hx⟩ : ∃ x, gd A k = x := ⟨_, rfl⟩
      rw [hx] at cA hxB
      have hxH := Lib.hid hx
      have hxBH := Lib.hid hxB
      have hxi := wr64 (x := (x : Int)) (by omega) (by simp only [Bs] at hxB; omega)
      clear hx hxB
      go_wp2_with fail
      go_loopw [8, 31] (fun vc vm w5 => ∃ (m : Nat) (O' : List Nat), vm = .int .i64 m ∧ vc = .int .u64 ((cr (mt x (gd C) fun q => gd O (k + q)) m : Nat) : Int) ∧ m ≤ lb ∧ Hid (MulJ w w5 (.slice (some ⟨ba, oa, none⟩) la ca) (.slice b lb cb) g la lb x k C O m O')) (fun _ vm _ => lb - (intOf vm).toNat)
      case atStart => exact ⟨0, O, rfl, rfl, Nat.zero_le _, Lib.hid ⟨hI.out.set, hI.out.row, hI.out.len, hI.out.dig, fun j => by rw [if_neg (by omega)]⟩⟩
      case round =>
        obtain ⟨m, O', rfl, rfl, hm, hJ⟩ := hrel
        clear cA z1
        have hcr : cr (mt x (gd C) fun q => gd O (k + q)) m < Bs := cr_lt (mt_le hxBH.out hCH.out fun q => hI.out.dig _) m
        have hot : cr (mt x (gd C) fun q => gd O (k + q)) (m + 1) = (x * gd C m + gd O (k + m) + cr (mt x (gd C) fun q => gd O (k + q)) m) / Bs := rfl
        have hoo : ot (mt x (gd C) fun q => gd O (k + q)) m = (x * gd C m + gd O (k + m) + cr (mt x (gd C) fun q => gd O (k + q)) m) % Bs := rfl
        obtain ⟨cc, hcc⟩ : ∃ z, cr (mt x (gd C) fun q => gd O (k + q)) m = z := ⟨_, rfl⟩
        rw [hcc] at hcr hot hoo ⊢
        by_cases hlm : (m : Int) < lb
        · have hml : m < lb := by omega
          obtain ⟨bb, ob, rfl, cB⟩ := hvH.out.at hJ.out.set.bel (j := m) (by rw [hlbH.out]; exact hml)
          have cO := hJ.out.row.cell (k + m) (by rw [hJ.out.len]; omega)
          have fO := hJ.out.row.frozen (k + m)
          rw [hJ.out.is (k + m), if_neg (by omega)] at cO
          have hyB := hCH.out m
          have hoB := hI.out.dig (k + m)
          obtain ⟨y, hy⟩ : ∃ y, gd C m = y := ⟨_, rfl⟩
          obtain ⟨o, ho⟩ : ∃ o, gd O (k + m) = o := ⟨_, rfl⟩
          rw [hy] at cB hyB hot hoo
          rw [ho] at cO hoB hot hoo
          have hxB := hxBH.out
          have hpB : x * y ≤ 4294967295 * 4294967295 := Nat.mul_le_mul (by simp only [Bs] at hxB; omega) (by simp only [Bs] at hyB; omega)
          have hmul : (x : Int) * (y : Int) = ((x * y : Nat) : Int) := (Int.natCast_mul x y).symm
          obtain ⟨p, hp⟩ : ∃ p, x * y = p := ⟨_, rfl⟩
          rw [hp] at hpB hmul hot hoo
          have hyi := Nu.wr64 (x := (y : Int)) (by omega) (by simp only [Bs] at hyB; omega)
          have hoi := Nu.wr64 (x := (o : Int)) (by omega) (by simp only [Bs] at hoB; omega)
          have hpi := Nu.wr64 (x := (p : Int)) (by omega) (by omega)
          have hpo := Nu.wr64 (x := (p : Int) + (o : Int)) (by omega) (by simp only [Bs] at hoB; omega)
          have hpc := Nu.wr64 (x := (p : Int) + (o : Int) + (cc : Int)) (by omega) (by simp only [Bs] at hoB hcr; omega)
          have hkm := Nu.wr (x := (k : Int) + (m : Int)) (by omega) (by omega)
          have hkn : ((k : Int) + (m : Int)).toNat = k + m := by omega
          have hk0 : (0 : Int) ≤ (k : Int) + (m : Int) := by omega
          have hkl2 : (k : Int) + (m : Int) < (la : Int) + (lb : Int) := by omega
          have hotH := Lib.hid hot
          have hooH := Lib.hid hoo
          clear hot hoo hy ho hp hcc hxB hyB hoB hpB hcr
          go_wp2_with fail
          go_roundw
          case rel => exact ⟨m + 1, _, by first | rfl | go_num, by rw [hotH.out]; simp [Bs], by omega, Lib.hid (hJ.out.step (by rw [← hgH.out]; exact Nat.le_refl _) (by omega) (by rw [hooH.out]; simp [Bs]))⟩
          case measure => first | (simp [intOf]; done) | (simp [intOf]; omega)
        · have hmb : m = lb := by omega
          subst hmb
          have z1 := hJ.out.set.bv.cell
          have cO := hJ.out.row.cell (k + m) (by rw [hJ.out.len]; omega)
          have fO := hJ.out.row.frozen (k + m)
          have hkm := Nu.wr (x := (k : Int) + (m : Int)) (by omega) (by omega)
          have hkn : ((k : Int) + (m : Int)).toNat = k + m := by omega
          have hk0 : (0 : Int) ≤ (k : Int) + (m : Int) := by omega
          have hkl2 : (k : Int) + (m : Int) < (la : Int) + (m : Int) := by omega
          have hcm : (cc : Int) % 4294967296 = (cc : Int) := by simp only [Bs] at hcr; omega
          have hccH := Lib.hid hcc
          clear hot hoo hcc hcr
          go_wp2_with fail
          go_roundw
          case rel => exact ⟨k + 1, _, by first | rfl | go_num, by omega, Lib.hid (hI.out.next hlbH.out hCH.out (by rw [hxH.out]; exact hxBH.out) hkl (by rw [hxH.out]; exact hJ.out) (by rw [← hgH.out]; exact Nat.le_refl _) (by rw [hxH.out, hccH.out]))⟩
          case measure => first | (simp [intOf]; done) | (simp [intOf]; omega)
    · have hkl : k = la := by omega
      subst hkl
      have hval : val O = val A * val C := by
        have := hI.out.sum
        have e1 : dsum (gd A) k = val A := by unfold val; rw [hlaH.out]
        have e2 : dsum (gd O) (k + lb) = val O := by unfold val; rw [hI.out.len]
        rw [e1, e2] at this; exact this
      have hT := Trim_row hI.out.row hI.out.dig (by rw [hI.out.len]; omega) (Nat.le_of_eq hI.out.len) (by unfold maxLen; omega)
      rw [hI.out.len, hval] at hT
      have hTH := Lib.hid hT
      clear hT hval
      go_wp2_with fail
      refine hTH.out.mono ?_
      rintro e w3 ⟨q, rfl, hn, hb3⟩
      have hS3 := hI.out.set.below hb3
      have x2c := hS3.br.cell
      have x2f := hS3.br.frozen
      have hnH := Lib.hid hn
      have hSH := Lib.hid hS3
      clear hn hS3
      go_wp2_with fail
      have r0 := (hSH.out.br.set (.slice (some ⟨g, 0, none⟩) q (k + lb))).cell
      have hE := hSH.out.bel.setCell (p := ⟨w.heap.size + 2, 0, none⟩) (Nat.le_add_right _ _) (.slice (some ⟨g, 0, none⟩) q (k + lb))
      have hN3 := hnH.out.other (p := ⟨w.heap.size + 2, 0, none⟩) (.slice (some ⟨g, 0, none⟩) q (k + lb)) (by intro b off q e; cases e; show g ≠ w.heap.size + 2; have := hgH.out; omega)
      obtain ⟨W3, hW3⟩ : ∃ W, w3.setCell ⟨w.heap.size + 2, 0, none⟩ (.slice (some ⟨g, 0, none⟩) q (k + lb)) = W := ⟨_, rfl⟩
      rw [hW3] at r0 hE hN3 ⊢
      refine bodyPost_ret (v := .agg #[.slice (some ⟨g, 0, none⟩) q (k + lb)]) (by simp [results, Tryd.results46, go_sem, r0]) rfl ⟨_, rfl, hN3, hE⟩
end Go.Proofs.YtffehdfddkgggaaDoor.Nu

/- add: the walk. -/
namespace Go.Proofs.YtffehdfddkgggaaDoor.Nu
open Go.RowKit Rt
set_option linter.unusedSimpArgs false
set_option linter.unusedVariables false
theorem wpList_app_u32 {w : World} {ops : Array Oper} {rest : List Oper} {o : Oper} {a : Act} {Q : Exit → Act → World → Prop} (hgd : o.guard = none) (s x : Operand)
    (ho : o.op = .call { callee := .builtin .append, args := #[s, x], argTypes := #[24, 24] }) {g k c b : Nat} {d : Int} {L : List Nat} (hs : a.eval s = .slice (some ⟨g, 0, none⟩) k c) (hM : RowM w g L) (hL : L.length = c) (hk : k < c)
    (hx : a.eval x = .slice (some ⟨b, 0, none⟩) 1 1) (hd : w.cell? ⟨b, 0, none⟩ = some (.int .u32 d))
    (h : wpList Tryd.prog ops Q rest (a.put o.dst (.slice (some ⟨g, 0, none⟩) (k + 1) c)) (w.setCell ⟨g, k, none⟩ (.int .u32 d))) : wpList Tryd.prog ops Q (o :: rest) a w := by
  obtain ⟨i, hi, h0, h1, h2⟩ := info60'
  refine wpList_plain hgd fun K hK => ?_
  have hr := run_append_room_cells (P := Tryd.prog) (w := w) 24 o.type 60 i Tryd.underlying24 hi g 0 k c ⟨b, 0, none⟩ 1 1 [.int .u32 d] (by rw [h1]; rfl)
    (fun j u hj => by
      match j, hj with
      | 0, hj => cases hj; rw [Addr.add_lit]; exact hd)
    (fun u hu => by rw [List.mem_singleton.1 hu]; rfl) (by omega)
    (fun j hj => by
      have hj0 : j = 0 := by simp at hj; omega
      subst hj0
      rw [h1, Nat.mul_one, Nat.zero_add, Nat.add_zero, hM.cell k (by omega)]; rfl)
    (fun j hj => by
      have hj0 : j = 0 := by simp at hj; omega
      subst hj0
      rw [h1, Nat.mul_one, Nat.zero_add, Nat.add_zero]; exact hM.frozen k)
  rw [h1, Nat.mul_one, Nat.zero_add] at hr
  unfold Oper.wp execOp
  simp only [ho, resolve, invoke, builtin, Sem.run_bind, Sem.run_pure, Result.andThen_ok, List.map_toArray, List.map_cons, List.map_nil, hs, hx, hr]
  exact hK _ _ h
theorem at2 {w : World} {a : Option Addr} {n c : Nat} {L : List Nat} (h : SlD w (.slice a n c) L) (hl : L.length ≤ 70368744177664) (i : Nat) (hi : i ≤ 70368744177664) (hd : Dig L) :
    Calls Tryd.prog 48 #[.agg #[.slice a n c], .int .i64 (i : Int)] w fun e w' => e = .returned (.int .u64 (gd L i : Int)) ∧ Below w.heap.size w w' := by
  have := h.len
  subst this
  exact At_any h hl i hi hd
theorem World.cell?_alloc_one (w : World) (x : Value) (t : TypeId) : (w.alloc (.cells #[x] t)).cell? ⟨w.heap.size, 0, none⟩ = some x := (Boxed.new w t x).cell
/-- A sum under way. -/
structure AddI (w W : World) (u v : Value) (g c : Nat) (t : Nat → Nat) (k : Nat) (O : List Nat) : Prop where
  set : Set3 w W u v
  row : RowM W g O
  len : O.length = c
  dig : Dig O
  is : ∀ j, j < k → gd O j = ot t j
set_option maxHeartbeats 4000000 in
set_option maxRecDepth 100000 in
theorem add_any {w : World} {u v : Value} {A C : List Nat} (hu : SlD w u A) (hv : SlD w v C) (hA : Dig A) (hC : Dig C) (hlA : A.length ≤ 1000000) (hlC : C.length ≤ 1000000) :
    Calls Tryd.prog 47 #[.agg #[u], .agg #[v]] w fun e w' => ∃ r, e = .returned (.agg #[r]) ∧ NumAt w' r (val A + val C) ∧ Below w.heap.size w w' := by
  obtain ⟨a, ca, rfl, _, _⟩ := id hu
  obtain ⟨b, cb, rfl, _, _⟩ := id hv
  obtain ⟨la, hla⟩ : ∃ n, A.length = n := ⟨_, rfl⟩
  obtain ⟨lb, hlb⟩ : ∃ n, C.length = n := ⟨_, rfl⟩
  rw [hla] at hlA hu ⊢
  rw [hlb] at hlC hv ⊢
  have huH := Lib.hid hu
  have hvH := Lib.hid hv
  have hAH := Lib.hid hA
  have hCH := Lib.hid hC
  have hlaH := Lib.hid hla
  have hlbH := Lib.hid hlb
  have hS0 := Lib.hid (Set3.made w (.slice a la ca) (.slice b lb cb))
  obtain ⟨W0, hW0⟩ : ∃ W, ((w.alloc (.cells #[.slice a la ca] 26)).alloc (.cells #[.slice b lb cb] 26)).alloc (.cells #[.slice none 0 0] 26) = W := ⟨_, rfl⟩
  rw [hW0] at hS0
  have hW0s : W0.heap.size = w.heap.size + 3 := by rw [← hW0]; simp
  have hW0H := Lib.hid hW0
  have hW0sH := Lib.hid hW0s
  obtain ⟨mx, hmx⟩ : ∃ m, max la lb = m := ⟨_, rfl⟩
  have hmk := run_mk W0 0 (mx + 1) (Nat.zero_le _) (by omega)
  rw [hW0s] at hmk
  rw [show ((mx + 1 : Nat) : Int) = (mx : Int) + 1 from rfl, show ((0 : Nat) : Int) = 0 from rfl] at hmk
  have y0 := hS0.out.bu.cell
  have y1 := hS0.out.bv.cell
  have hmxH := Lib.hid hmx
  have hmxi : max (la : Int) (lb : Int) = (mx : Int) := by omega
  have hwl := wr (x := (mx : Int) + 1) (by omega) (by omega)
  clear hW0 hu hv hA hC hla hlb hW0s hmx
  go_enter Tryd.func47, Tryd.ntmps47
  go_upto_region 1 with (fail)
  rw [hW0H.out]
  go_upto_region 2 with (fail)
  have hM1 := RowM.made W0 (mx + 1)
  rw [hW0sH.out] at hM1
  have hS1 := hS0.out.below ((Below.refl _ W0).alloc (Nat.le_refl _) (.cells (encD (List.replicate (mx + 1) 0)) 60))
  obtain ⟨W1, hW1⟩ : ∃ W, W0.alloc (.cells (encD (List.replicate (mx + 1) 0)) 60) = W := ⟨_, rfl⟩
  rw [hW1] at hM1 hS1 ⊢
  obtain ⟨g, hg⟩ : ∃ g, w.heap.size + 3 = g := ⟨_, rfl⟩
  rw [hg] at hM1 ⊢
  have hI1 : Hid (AddI w W1 (.slice a la ca) (.slice b lb cb) g (mx + 1) (fun i => gd A i + gd C i) 0 (List.replicate (mx + 1) 0)) := Lib.hid ⟨hS1, hM1, List.length_replicate, dig_zeros _, fun j hj => absurd hj (Nat.not_lt_zero _)⟩
  have hgH := Lib.hid hg
  have hlb2 : mx ≤ 1000000 := by have := hmxH.out; omega
  clear hW1 hM1 hS1 hg hmk y0 y1 hS0 hW0sH hW0H
  go_wp2_with fail
  go_loopw [5, 6, 20] (fun vo vc vk wr => ∃ (k : Nat) (O : List Nat), vo = .slice (some ⟨g, 0, none⟩) k (mx + 1) ∧ vc = .int .u64 ((cr (fun i => gd A i + gd C i) k : Nat) : Int) ∧ vk = .int .i64 k ∧ k ≤ mx + 1 ∧ Hid (AddI w wr (.slice a la ca) (.slice b lb cb) g (mx + 1) (fun i => gd A i + gd C i) k O)) (fun _ _ vk _ => mx + 1 - (intOf vk).toNat)
  case atStart => exact ⟨0, _, rfl, rfl, rfl, Nat.zero_le _, hI1⟩
  case round =>
    obtain ⟨k, O, rfl, rfl, rfl, hk, hI⟩ := hrel
    clear hI1
    have hcr : cr (fun i => gd A i + gd C i) k ≤ 1 := cr_one (fun i => by have := hAH.out i; have := hCH.out i; simp only [Bs] at *; omega) k
    have hot : cr (fun i => gd A i + gd C i) (k + 1) = (gd A k + gd C k + cr (fun i => gd A i + gd C i) k) / Bs := rfl
    have hoo : ot (fun i => gd A i + gd C i) k = (gd A k + gd C k + cr (fun i => gd A i + gd C i) k) % Bs := rfl
    obtain ⟨cc, hcc⟩ : ∃ z, cr (fun i => gd A i + gd C i) k = z := ⟨_, rfl⟩
    rw [hcc] at hcr hot hoo ⊢
    by_cases hlt : (k : Int) < (mx : Int) + 1
    · have z0 := hI.out.set.bu.cell
      have z1 := hI.out.set.bv.cell
      have hxB := hAH.out k
      have hyB := hCH.out k
      go_upto_region 6 with (fail)
      obtain ⟨wd, hwd⟩ : ∃ d, wr.drew = d := ⟨_, rfl⟩
      have hbd : Below wr.heap.size wr wd := by rw [← hwd]; exact (Below.refl _ _).drew
      have hS20 := Lib.hid (hI.out.set.below hbd)
      have hM20 := Lib.hid (hI.out.row.below hbd)
      replace z0 := (hbd.cell (World.block_lt_of_cell? _ _ z0)).trans z0
      replace z1 := (hbd.cell (World.block_lt_of_cell? _ _ z1)).trans z1
      clear hbd
      refine Rt.wp_region_ordM [1, 0, 2, 1, 0, 2, 0, 0, 0, 0] [0, 1, 3, 4, 7, 2, 5, 6, 8, 9] (by kernel_rfl) (by kernel_rfl) ?_
      rw [hwd]
      clear hwd
      apply ord_read rfl rfl rfl; (· (intro W hW; have g0 := cell_up hW z0; have g1 := cell_up hW z1; go_simp; with_reducible rfl)); (· (simp only [Act.put, Act.eval, List.setIfInBounds_toArray, List.set_cons_zero, List.set_cons_succ, Array.getD_eq_getD_getElem?, List.getElem?_toArray, List.getElem?_cons_zero, List.getElem?_cons_succ, Option.getD_some, List.getElem_toArray, List.getElem_cons_succ, List.getElem_cons_zero]; with_reducible rfl))
      apply ord_move rfl rfl rfl rfl; (· (simp only [Act.put, Act.eval, List.setIfInBounds_toArray, List.set_cons_zero, List.set_cons_succ, Array.getD_eq_getD_getElem?, List.getElem?_toArray, List.getElem?_cons_zero, List.getElem?_cons_succ, Option.getD_some, List.getElem_toArray, List.getElem_cons_succ, List.getElem_cons_zero]; with_reducible rfl))
      apply ord_read rfl rfl rfl; (· (intro W hW; have g0 := cell_up hW z0; have g1 := cell_up hW z1; go_simp; with_reducible rfl)); (· (simp only [Act.put, Act.eval, List.setIfInBounds_toArray, List.set_cons_zero, List.set_cons_succ, Array.getD_eq_getD_getElem?, List.getElem?_toArray, List.getElem?_cons_zero, List.getElem?_cons_succ, Option.getD_some, List.getElem_toArray, List.getElem_cons_succ, List.getElem_cons_zero]; with_reducible rfl))
      apply ord_move rfl rfl rfl rfl; (· (simp only [Act.put, Act.eval, List.setIfInBounds_toArray, List.set_cons_zero, List.set_cons_succ, Array.getD_eq_getD_getElem?, List.getElem?_toArray, List.getElem?_cons_zero, List.getElem?_cons_succ, Option.getD_some, List.getElem_toArray, List.getElem_cons_succ, List.getElem_cons_zero]; with_reducible rfl))
      apply ord_move rfl rfl rfl rfl; (· (simp only [Act.put, Act.eval, List.setIfInBounds_toArray, List.set_cons_zero, List.set_cons_succ, Array.getD_eq_getD_getElem?, List.getElem?_toArray, List.getElem?_cons_zero, List.getElem?_cons_succ, Option.getD_some, List.getElem_toArray, List.getElem_cons_succ, List.getElem_cons_zero]; with_reducible rfl))
      refine ord_call rfl rfl rfl (by go_simp; exact ⟨rfl, rfl⟩) ?_
      refine (at2 (huH.out.below hS20.out.bel) (by rw [hlaH.out]; omega) k (by omega) hAH.out).mono ?_
      rintro e w21 ⟨rfl, hb21⟩
      refine ⟨_, rfl, hb21, ?_⟩
      have hS21 := Lib.hid (hS20.out.below hb21)
      have hM21 := Lib.hid (hM20.out.below hb21)
      replace z0 := (hb21.cell (World.block_lt_of_cell? _ _ z0)).trans z0
      replace z1 := (hb21.cell (World.block_lt_of_cell? _ _ z1)).trans z1
      simp only [Act.put, Act.eval, List.setIfInBounds_toArray, List.set_cons_zero, List.set_cons_succ, Array.getD_eq_getD_getElem?, List.getElem?_toArray, List.getElem?_cons_zero, List.getElem?_cons_succ, Option.getD_some, List.getElem_toArray, List.getElem_cons_succ, List.getElem_cons_zero]
      refine ord_call rfl rfl rfl (by go_simp; exact ⟨rfl, rfl⟩) ?_
      refine (at2 (hvH.out.below hS21.out.bel) (by rw [hlbH.out]; omega) k (by omega) hCH.out).mono ?_
      rintro e w22 ⟨rfl, hb22⟩
      refine ⟨_, rfl, hb22, ?_⟩
      have hS22 := Lib.hid (hS21.out.below hb22)
      have hM22 := Lib.hid (hM21.out.below hb22)
      replace z0 := (hb22.cell (World.block_lt_of_cell? _ _ z0)).trans z0
      replace z1 := (hb22.cell (World.block_lt_of_cell? _ _ z1)).trans z1
      simp only [Act.put, Act.eval, List.setIfInBounds_toArray, List.set_cons_zero, List.set_cons_succ, Array.getD_eq_getD_getElem?, List.getElem?_toArray, List.getElem?_cons_zero, List.getElem?_cons_succ, Option.getD_some, List.getElem_toArray, List.getElem_cons_succ, List.getElem_cons_zero]
      apply ord_pure rfl rfl rfl; (· (intro w; go_simp; with_reducible rfl)); (· (simp only [Act.put, Act.eval, List.setIfInBounds_toArray, List.set_cons_zero, List.set_cons_succ, Array.getD_eq_getD_getElem?, List.getElem?_toArray, List.getElem?_cons_zero, List.getElem?_cons_succ, Option.getD_some, List.getElem_toArray, List.getElem_cons_succ, List.getElem_cons_zero]; with_reducible rfl))
      apply ord_pure rfl rfl rfl; (· (intro w; go_simp; with_reducible rfl)); (· (simp only [Act.put, Act.eval, List.setIfInBounds_toArray, List.set_cons_zero, List.set_cons_succ, Array.getD_eq_getD_getElem?, List.getElem?_toArray, List.getElem?_cons_zero, List.getElem?_cons_succ, Option.getD_some, List.getElem_toArray, List.getElem_cons_succ, List.getElem_cons_zero]; with_reducible rfl))
      apply ord_pure rfl rfl rfl; (· (intro w; go_simp; with_reducible rfl)); (· (simp only [Act.put, Act.eval, List.setIfInBounds_toArray, List.set_cons_zero, List.set_cons_succ, Array.getD_eq_getD_getElem?, List.getElem?_toArray, List.getElem?_cons_zero, List.getElem?_cons_succ, Option.getD_some, List.getElem_toArray, List.getElem_cons_succ, List.getElem_cons_zero]; with_reducible rfl))
      with_reducible refine ord_nil ?_
      obtain ⟨x, hx⟩ : ∃ x, gd A k = x := ⟨_, rfl⟩
      obtain ⟨y, hy⟩ : ∃ y, gd C k = y := ⟨_, rfl⟩
      rw [hx] at hxB hot hoo ⊢
      rw [hy] at hyB hot hoo ⊢
      have hw1 := Nu.wr64 (x := (x : Int) + (y : Int)) (by omega) (by simp only [Bs] at hxB hyB; omega)
      have hw2 := Nu.wr64 (x := (x : Int) + (y : Int) + (cc : Int)) (by omega) (by simp only [Bs] at hxB hyB; omega)
      rw [hw1, hw2]
      have hkn : k < mx + 1 := by omega
      have hkw := Nu.wr (x := (k : Int) + 1) (by omega) (by omega)
      have hlen := Lib.hid hI.out.len
      have hotH := Lib.hid hot
      have hooH := Lib.hid (show ((x : Int) + (y : Int) + (cc : Int)) % 4294967296 = ((ot (fun i => gd A i + gd C i) k : Nat) : Int) by rw [hoo]; simp [Bs])
      have hdigH := Lib.hid hI.out.dig
      have hisH := Lib.hid hI.out.is
      clear hx hy hxB hyB hot hoo hcc hcr hI hS20 hS21 hM20 hM21 z0 z1 hb21 hb22
      go_wp2_with (at_builtin; refine wpList_app_u32 rfl (.tmp 32) (.tmp 35) rfl rfl (hM22.out.alloc _) hlen.out hkn rfl (World.cell?_alloc_one _ _ _) ?_)
      have hS23 := hS22.out.below ((Below.refl _ w22).alloc (Nat.le_refl _) (.cells #[.int .u32 (((x : Int) + (y : Int) + (cc : Int)) % 4294967296)] 60))
      have hM23 := hM22.out.alloc (.cells #[.int .u32 (((x : Int) + (y : Int) + (cc : Int)) % 4294967296)] 60)
      have hA : Hid (AddI w ((w22.alloc (.cells #[.int .u32 (((x : Int) + (y : Int) + (cc : Int)) % 4294967296)] 60)).setCell ⟨g, k, none⟩ (.int .u32 (((x : Int) + (y : Int) + (cc : Int)) % 4294967296))) (.slice a la ca) (.slice b lb cb) g (mx + 1) (fun i => gd A i + gd C i) (k + 1) (O.set k (ot (fun i => gd A i + gd C i) k))) := Lib.hid (by
        refine ⟨hS23.put (by rw [← hgH.out]; exact Nat.le_refl _) _, ?_, by rw [List.length_set]; exact hlen.out, dig_set hdigH.out (ot_lt _ _), fun j hj => ?_⟩
        · rw [hooH.out] at hM23 ⊢; exact hM23.set k _
        · rw [gd_set (by rw [hlen.out]; exact hkn)]
          by_cases h1 : j = k
          · subst h1; rw [if_pos rfl]
          · rw [if_neg h1]; exact hisH.out j (by omega))
      clear hS23 hM23 hS22 hM22
      go_wp2_with fail
      go_roundw
      case rel => exact ⟨k + 1, _, rfl, by rw [hotH.out]; simp [Bs], by first | rfl | go_num, by omega, hA⟩
      case measure => first | (simp [intOf]; done) | (simp [intOf]; omega)
    · have hkn : k = mx + 1 := by omega
      subst hkn
      have hval : val O = val A + val C := by
        have e1 : val O = dsum (ot fun i => gd A i + gd C i) (mx + 1) := by unfold val; rw [hI.out.len]; exact dsum_congr hI.out.is
        have e2 := cr_sum (fun i => gd A i + gd C i) (mx + 1)
        have e3 : dsum (fun i => gd A i + gd C i) (mx + 1) = val A + val C := by
          rw [dsum_add, val_ext (by rw [hlaH.out]; have := hmxH.out; omega), val_ext (by rw [hlbH.out]; have := hmxH.out; omega)]
        have e4 : cr (fun i => gd A i + gd C i) (mx + 1) = 0 := by
          apply cr_none
          rw [e3]
          have a1 : val A < Bs ^ mx := by rw [← val_ext (k := mx) (by rw [hlaH.out]; have := hmxH.out; omega)]; exact dsum_lt fun j _ => hAH.out j
          have a2 : val C < Bs ^ mx := by rw [← val_ext (k := mx) (by rw [hlbH.out]; have := hmxH.out; omega)]; exact dsum_lt fun j _ => hCH.out j
          rw [pw]
          have := pw_pos mx
          have : 2 * Bs ^ mx ≤ Bs * Bs ^ mx := Nat.mul_le_mul_right _ (by decide)
          omega
        rw [e4, Nat.zero_mul, Nat.add_zero, e3] at e2
        rw [e1, e2]
      have hT := Trim_row hI.out.row hI.out.dig (by rw [hI.out.len]; omega) (Nat.le_of_eq hI.out.len) (by unfold maxLen; omega)
      rw [hI.out.len, hval] at hT
      have hTH := Lib.hid hT
      clear hT hval hot hoo hcr hcc
      go_wp2_with fail
      refine hTH.out.mono ?_
      rintro e w3 ⟨q, rfl, hn, hb3⟩
      have hS3 := hI.out.set.below hb3
      have x2c := hS3.br.cell
      have x2f := hS3.br.frozen
      have hnH := Lib.hid hn
      have hSH := Lib.hid hS3
      clear hn hS3
      go_wp2_with fail
      have r0 := (hSH.out.br.set (.slice (some ⟨g, 0, none⟩) q (mx + 1))).cell
      have hE := hSH.out.bel.setCell (p := ⟨w.heap.size + 2, 0, none⟩) (Nat.le_add_right _ _) (.slice (some ⟨g, 0, none⟩) q (mx + 1))
      have hN3 := hnH.out.other (p := ⟨w.heap.size + 2, 0, none⟩) (.slice (some ⟨g, 0, none⟩) q (mx + 1)) (by intro b off q e; cases e; show g ≠ w.heap.size + 2; have := hgH.out; omega)
      obtain ⟨W3, hW3⟩ : ∃ W, w3.setCell ⟨w.heap.size + 2, 0, none⟩ (.slice (some ⟨g, 0, none⟩) q (mx + 1)) = W := ⟨_, rfl⟩
      rw [hW3] at r0 hE hN3 ⊢
      refine bodyPost_ret (v := .agg #[.slice (some ⟨g, 0, none⟩) q (mx + 1)]) (by simp [results, Tryd.results47, go_sem, r0]) rfl ⟨_, rfl, hN3, hE⟩
end Go.Proofs.YtffehdfddkgggaaDoor.Nu

/- Mul, Add. -/
namespace Go.Proofs.YtffehdfddkgggaaDoor.Nu
open Go.RowKit Rt
set_option linter.unusedSimpArgs false
set_option linter.unusedVariables false
theorem blen_mul (p q : Nat) : blen (p * q) ≤ blen p + blen q + 1 := by
  apply Nat.le_succ_of_le
  rw [blen_le, Nat.pow_add]
  have h1 := blen_lt p
  have h2 := blen_lt q
  rcases Nat.eq_zero_or_pos q with h0 | h0
  · subst h0; rw [Nat.mul_zero]; exact Nat.mul_pos (Nat.pow_pos (by decide)) (Nat.pow_pos (by decide))
  · exact Nat.lt_of_lt_of_le (Nat.mul_lt_mul_of_pos_right h1 h0) (Nat.mul_le_mul_left _ (Nat.le_of_lt h2))
theorem blen_add (p q : Nat) : blen (p + q) ≤ blen p + blen q + 1 := by
  rw [blen_le]
  have h1 := blen_lt p
  have h2 := blen_lt q
  have h3 := Nat.pow_le_pow_right (n := 2) (by decide) (show blen p ≤ blen p + blen q by omega)
  have h4 := Nat.pow_le_pow_right (n := 2) (by decide) (show blen q ≤ blen p + blen q by omega)
  rw [Nat.pow_succ]
  omega
/-- A number's cells are digits: a store into a box of a number leaves it alone. -/
theorem NumAt.fresh {w : World} {v : Value} {n g : Nat} (h : NumAt w v n) {z : Value} (hb : Boxed w g 26 z) (hz : ∀ d, z ≠ .int .u32 d) (x : Value) : NumAt (w.setCell ⟨g, 0, none⟩ x) v n := by
  obtain ⟨L, h1, h2, a, c, rfl, hc, h4⟩ := h
  refine ⟨L, h1, h2, a, c, rfl, hc, fun h0 => ?_⟩
  obtain ⟨b, off, rfl, hb1, hcell⟩ := h4 h0
  refine ⟨b, off, rfl, by rw [World.size_setCell]; exact hb1, fun j hj => ?_⟩
  have hne : b ≠ g := by
    rintro rfl
    have h5 := hcell j hj
    unfold World.cell? at h5
    have h6 : w.heap[b]? = some (.cells #[z] 26 (0, 0)) := hb
    simp only [h6] at h5
    have h7 : (#[z] : Array Value)[off + j]? = some (.int .u32 (gd L j : Int)) := h5
    rcases Nat.eq_zero_or_pos (off + j) with h8 | h8
    · rw [h8] at h7; simp at h7; exact hz _ h7
    · rw [Array.getElem?_eq_none (show (#[z] : Array Value).size ≤ off + j by simp; omega)] at h7; cases h7
  exact (World.cell?_of_block (a := ⟨b, off + j, none⟩) (Below.heap_setCell w ⟨g, 0, none⟩ x b hne)).trans (hcell j hj)
theorem mul_N {w : World} {u v : Value} {p q : Nat} (hu : NumAt w u p) (hv : NumAt w v q) (hp : blen p ≤ 400000) (hq : blen q ≤ 400000) :
    Calls Tryd.prog 46 #[.agg #[u], .agg #[v]] w fun e w' => ∃ r, e = .returned (.agg #[r]) ∧ NumAt w' r (p * q) ∧ Below w.heap.size w w' := by
  obtain ⟨A, h1, rfl, h3⟩ := hu
  obtain ⟨C, k1, rfl, k3⟩ := hv
  exact Mul_any h3 k3 h1.dig k1.dig (by have := norm_len h1 hp; omega) (by have := norm_len k1 hq; omega)
theorem add_N {w : World} {u v : Value} {p q : Nat} (hu : NumAt w u p) (hv : NumAt w v q) (hp : blen p ≤ 400000) (hq : blen q ≤ 400000) :
    Calls Tryd.prog 47 #[.agg #[u], .agg #[v]] w fun e w' => ∃ r, e = .returned (.agg #[r]) ∧ NumAt w' r (p + q) ∧ Below w.heap.size w w' := by
  obtain ⟨A, h1, rfl, h3⟩ := hu
  obtain ⟨C, k1, rfl, k3⟩ := hv
  exact add_any h3 k3 h1.dig k1.dig (by have := norm_len h1 hp; omega) (by have := norm_len k1 hq; omega)
set_option maxHeartbeats 2000000 in
set_option maxRecDepth 100000 in
theorem Mul_N {w : World} {u v : Value} {p q : Nat} (hu : NumAt w u p) (hv : NumAt w v q) (hp : blen p ≤ 400000) (hq : blen q ≤ 400000) :
    Calls Tryd.prog 30 #[.agg #[u], .agg #[v]] w fun e w' => ∃ r, e = .returned (.tuple #[.agg #[r], .int .i64 (errN (p * q))]) ∧ NumAt w' r (capN (p * q)) ∧ Below w.heap.size w w' := by
  obtain ⟨a, la, ca, rfl⟩ := hu.shape
  obtain ⟨b, lb, cb, rfl⟩ := hv.shape
  have hbr : blen (p * q) ≤ 1000000 := Nat.le_trans (blen_mul p q) (by omega)
  have hS0 := Lib.hid (Set3.made w (.slice a la ca) (.slice b lb cb))
  obtain ⟨W0, hW0⟩ : ∃ W, ((w.alloc (.cells #[.slice a la ca] 26)).alloc (.cells #[.slice b lb cb] 26)).alloc (.cells #[.slice none 0 0] 26) = W := ⟨_, rfl⟩
  rw [hW0] at hS0
  have hW0H := Lib.hid hW0
  have hC := Lib.hid (mul_N (hu.below hS0.out.bel) (hv.below hS0.out.bel) hp hq)
  have y0 := hS0.out.bu.cell
  have y1 := hS0.out.bv.cell
  clear hW0 hu hv hp hq
  go_enter Tryd.func30, Tryd.ntmps30
  go_upto_region 1 with (fail)
  rw [hW0H.out]
  go_wp2_with fail
  refine hC.out.mono ?_
  rintro e w2 ⟨r, rfl, hn, hb2⟩
  have hSh := Lib.hid (Short_N hn hbr)
  have hS2 := Lib.hid (hS0.out.below hb2)
  clear hn hb2 hS0 hC y0 y1
  go_wp2_with fail
  refine hSh.out.mono ?_
  rintro e w3 ⟨r2, rfl, hn3, hb3⟩
  have hS3 := hS2.out.below hb3
  obtain ⟨a2, m2, c2, rfl⟩ := hn3.shape
  have x2c := hS3.br.cell
  have x2f := hS3.br.frozen
  have hnH := Lib.hid hn3
  have hSH := Lib.hid hS3
  obtain ⟨ev, hev⟩ : ∃ z, errN (p * q) = z := ⟨_, rfl⟩
  rw [hev]
  clear hn3 hS3 hb3 hSh hS2
  go_wp2_with fail
  have r0 := (hSH.out.br.set (.slice a2 m2 c2)).cell
  have hE := hSH.out.bel.setCell (p := ⟨w.heap.size + 2, 0, none⟩) (Nat.le_add_right _ _) (.slice a2 m2 c2)
  have hN3 := hnH.out.fresh hSH.out.br (fun d h => by cases h) (.slice a2 m2 c2)
  obtain ⟨W3, hW3⟩ : ∃ W, w3.setCell ⟨w.heap.size + 2, 0, none⟩ (.slice a2 m2 c2) = W := ⟨_, rfl⟩
  rw [hW3] at r0 hE hN3 ⊢
  refine bodyPost_ret (v := .tuple #[.agg #[.slice a2 m2 c2], .int .i64 ev]) (by simp [results, Tryd.results30, go_sem, r0]) rfl ⟨_, by rw [hev], hN3, hE⟩
set_option maxHeartbeats 2000000 in
set_option maxRecDepth 100000 in
theorem Add_N {w : World} {u v : Value} {p q : Nat} (hu : NumAt w u p) (hv : NumAt w v q) (hp : blen p ≤ 400000) (hq : blen q ≤ 400000) :
    Calls Tryd.prog 32 #[.agg #[u], .agg #[v]] w fun e w' => ∃ r, e = .returned (.tuple #[.agg #[r], .int .i64 (errN (p + q))]) ∧ NumAt w' r (capN (p + q)) ∧ Below w.heap.size w w' := by
  obtain ⟨a, la, ca, rfl⟩ := hu.shape
  obtain ⟨b, lb, cb, rfl⟩ := hv.shape
  have hbr : blen (p + q) ≤ 1000000 := Nat.le_trans (blen_add p q) (by omega)
  have hS0 := Lib.hid (Set3.made w (.slice a la ca) (.slice b lb cb))
  obtain ⟨W0, hW0⟩ : ∃ W, ((w.alloc (.cells #[.slice a la ca] 26)).alloc (.cells #[.slice b lb cb] 26)).alloc (.cells #[.slice none 0 0] 26) = W := ⟨_, rfl⟩
  rw [hW0] at hS0
  have hW0H := Lib.hid hW0
  have hC := Lib.hid (add_N (hu.below hS0.out.bel) (hv.below hS0.out.bel) hp hq)
  have y0 := hS0.out.bu.cell
  have y1 := hS0.out.bv.cell
  clear hW0 hu hv hp hq
  go_enter Tryd.func32, Tryd.ntmps32
  go_upto_region 1 with (fail)
  rw [hW0H.out]
  go_wp2_with fail
  refine hC.out.mono ?_
  rintro e w2 ⟨r, rfl, hn, hb2⟩
  have hSh := Lib.hid (Short_N hn hbr)
  have hS2 := Lib.hid (hS0.out.below hb2)
  clear hn hb2 hS0 hC y0 y1
  go_wp2_with fail
  refine hSh.out.mono ?_
  rintro e w3 ⟨r2, rfl, hn3, hb3⟩
  have hS3 := hS2.out.below hb3
  obtain ⟨a2, m2, c2, rfl⟩ := hn3.shape
  have x2c := hS3.br.cell
  have x2f := hS3.br.frozen
  have hnH := Lib.hid hn3
  have hSH := Lib.hid hS3
  obtain ⟨ev, hev⟩ : ∃ z, errN (p + q) = z := ⟨_, rfl⟩
  rw [hev]
  clear hn3 hS3 hb3 hSh hS2
  go_wp2_with fail
  have r0 := (hSH.out.br.set (.slice a2 m2 c2)).cell
  have hE := hSH.out.bel.setCell (p := ⟨w.heap.size + 2, 0, none⟩) (Nat.le_add_right _ _) (.slice a2 m2 c2)
  have hN3 := hnH.out.fresh hSH.out.br (fun d h => by cases h) (.slice a2 m2 c2)
  obtain ⟨W3, hW3⟩ : ∃ W, w3.setCell ⟨w.heap.size + 2, 0, none⟩ (.slice a2 m2 c2) = W := ⟨_, rfl⟩
  rw [hW3] at r0 hE hN3 ⊢
  refine bodyPost_ret (v := .tuple #[.agg #[.slice a2 m2 c2], .int .i64 ev]) (by simp [results, Tryd.results32, go_sem, r0]) rfl ⟨_, by rw [hev], hN3, hE⟩
end Go.Proofs.YtffehdfddkgggaaDoor.Nu

/- The reference's Cmp. -/
namespace Go.Proofs.YtffehdfddkgggaaDoor.Nu
open Go.RowKit Rt
set_option linter.unusedSimpArgs false
set_option linter.unusedVariables false
set_option maxHeartbeats 4000000 in
set_option maxRecDepth 100000 in
theorem RCmp_any {w : World} {u v : Value} {A C : List Nat} (hu : SlD w u A) (hv : SlD w v C) (hA : Norm A) (hC : Norm C) (hlA : A.length ≤ 70368744177664) (hlC : C.length ≤ 70368744177664) :
    Calls Tryd.prog 22 #[u, v] w fun e w' => e = .returned (.int .i64 (cmpN (val A) (val C))) ∧ Below w.heap.size w w' := by
  obtain ⟨a, ca, rfl, _, _⟩ := id hu
  obtain ⟨b, cb, rfl, _, _⟩ := id hv
  have hB0 : Hid (Below w.heap.size w w) := Lib.hid (Below.refl _ _)
  by_cases hlen : A.length = C.length
  · have hcmp := cmp_same hA hC hlen
    rw [hcmp]
    obtain ⟨n, hn⟩ : ∃ n, A.length = n := ⟨_, rfl⟩
    have hn2 : C.length = n := by rw [← hlen]; exact hn
    rw [hn] at hlA hu ⊢
    rw [hn2] at hlC hv ⊢
    have huH := Lib.hid hu
    have hvH := Lib.hid hv
    have hnH := Lib.hid hn
    have hn2H := Lib.hid hn2
    have hAd := Lib.hid hA.dig
    have hCd := Lib.hid hC.dig
    clear hu hv hA hC hcmp hlen hn hn2
    have hneq : ((n : Int) != (n : Int)) = false := by simp
    go_enter Tryd.func22, Tryd.ntmps22
    go_wp2_with fail
    go_loopw [5] (fun vk wr => ∃ k : Nat, vk = .int .i64 ((k : Int) - 1) ∧ k ≤ n ∧ Hid (cmpTo A C n = cmpTo A C k) ∧ Hid (Below w.heap.size w wr)) (fun vk _ => (intOf vk + 1).toNat)
    case atStart => exact ⟨n, rfl, Nat.le_refl _, Lib.hid rfl, hB0⟩
    case round =>
      obtain ⟨k, rfl, hk, hT, hb1⟩ := hrel
      clear hB0
      by_cases h0 : k = 0
      · subst h0
        have e0 : cmpTo A C n = 0 := hT.out
        go_wp2_with fail
        go_ret
        exact ⟨by rw [e0]; rfl, hb1.out⟩
      · obtain ⟨j, rfl⟩ : ∃ j, k = j + 1 := ⟨k - 1, by omega⟩
        have hj0 : ((j + 1 : Nat) : Int) - 1 = j := by omega
        rw [hj0]
        obtain ⟨b1, o1, rfl, cA⟩ := huH.out.at hb1.out (j := j) (by rw [hnH.out]; omega)
        obtain ⟨b2, o2, rfl, cC⟩ := hvH.out.at hb1.out (j := j) (by rw [hn2H.out]; omega)
        have hT1 : Hid (cmpTo A C (j + 1) = if gd A j < gd C j then -1 else if gd C j < gd A j then 1 else cmpTo A C j) := Lib.hid rfl
        obtain ⟨x, hx⟩ : ∃ x, gd A j = x := ⟨_, rfl⟩
        obtain ⟨y, hy⟩ : ∃ y, gd C j = y := ⟨_, rfl⟩
        rw [hx] at cA hT1
        rw [hy] at cC hT1
        have hjp : (0 : Int) ≤ j := by omega
        have hjn : (j : Int) < n := by omega
        clear hx hy
        by_cases hxy : x = y
        · subst hxy
          have hT2 : Hid (cmpTo A C n = cmpTo A C j) := Lib.hid (by rw [hT.out, hT1.out, if_neg (Nat.lt_irrefl _), if_neg (Nat.lt_irrefl _)])
          have hb2 := Lib.hid hb1.out.drew
          go_upto_region 8 with (fail)
          have cA' : wr.drew.cell? ⟨b1, o1 + j, none⟩ = _ := cA
          have cC' : wr.drew.cell? ⟨b2, o2 + j, none⟩ = _ := cC
          obtain ⟨wd8, hwd⟩ : ∃ d, wr.drew = d := ⟨_, rfl⟩
          rw [hwd] at cA' cC'
          refine Rt.wp_region_text [0, 0, 0, 1, 0, 0, 0, 1, 0] (by kernel_rfl) (by kernel_rfl) ?_
          rw [hwd]
          apply txt_move rfl rfl; (· (simp only [Act.put, Act.eval, List.setIfInBounds_toArray, List.set_cons_zero, List.set_cons_succ, Array.getD_eq_getD_getElem?, List.getElem?_toArray, List.getElem?_cons_zero, List.getElem?_cons_succ, Option.getD_some, List.getElem_toArray, List.getElem_cons_succ, List.getElem_cons_zero]; with_reducible rfl))
          apply txt_move rfl rfl; (· (simp only [Act.put, Act.eval, List.setIfInBounds_toArray, List.set_cons_zero, List.set_cons_succ, Array.getD_eq_getD_getElem?, List.getElem?_toArray, List.getElem?_cons_zero, List.getElem?_cons_succ, Option.getD_some, List.getElem_toArray, List.getElem_cons_succ, List.getElem_cons_zero]; with_reducible rfl))
          apply txt_pure rfl rfl rfl; (· (intro w; go_simp; with_reducible rfl)); (· (simp only [Act.put, Act.eval, List.setIfInBounds_toArray, List.set_cons_zero, List.set_cons_succ, Array.getD_eq_getD_getElem?, List.getElem?_toArray, List.getElem?_cons_zero, List.getElem?_cons_succ, Option.getD_some, List.getElem_toArray, List.getElem_cons_succ, List.getElem_cons_zero]; with_reducible rfl))
          apply txt_read rfl rfl rfl; (· (go_simp; with_reducible rfl)); (· (simp only [Act.put, Act.eval, List.setIfInBounds_toArray, List.set_cons_zero, List.set_cons_succ, Array.getD_eq_getD_getElem?, List.getElem?_toArray, List.getElem?_cons_zero, List.getElem?_cons_succ, Option.getD_some, List.getElem_toArray, List.getElem_cons_succ, List.getElem_cons_zero]; with_reducible rfl))
          apply txt_move rfl rfl; (· (simp only [Act.put, Act.eval, List.setIfInBounds_toArray, List.set_cons_zero, List.set_cons_succ, Array.getD_eq_getD_getElem?, List.getElem?_toArray, List.getElem?_cons_zero, List.getElem?_cons_succ, Option.getD_some, List.getElem_toArray, List.getElem_cons_succ, List.getElem_cons_zero]; with_reducible rfl))
          apply txt_move rfl rfl; (· (simp only [Act.put, Act.eval, List.setIfInBounds_toArray, List.set_cons_zero, List.set_cons_succ, Array.getD_eq_getD_getElem?, List.getElem?_toArray, List.getElem?_cons_zero, List.getElem?_cons_succ, Option.getD_some, List.getElem_toArray, List.getElem_cons_succ, List.getElem_cons_zero]; with_reducible rfl))
          apply txt_pure rfl rfl rfl; (· (intro w; go_simp; with_reducible rfl)); (· (simp only [Act.put, Act.eval, List.setIfInBounds_toArray, List.set_cons_zero, List.set_cons_succ, Array.getD_eq_getD_getElem?, List.getElem?_toArray, List.getElem?_cons_zero, List.getElem?_cons_succ, Option.getD_some, List.getElem_toArray, List.getElem_cons_succ, List.getElem_cons_zero]; with_reducible rfl))
          apply txt_read rfl rfl rfl; (· (go_simp; with_reducible rfl)); (· (simp only [Act.put, Act.eval, List.setIfInBounds_toArray, List.set_cons_zero, List.set_cons_succ, Array.getD_eq_getD_getElem?, List.getElem?_toArray, List.getElem?_cons_zero, List.getElem?_cons_succ, Option.getD_some, List.getElem_toArray, List.getElem_cons_succ, List.getElem_cons_zero]; with_reducible rfl))
          apply txt_pure rfl rfl rfl; (· (intro w; go_simp; with_reducible rfl)); (· (simp only [Act.put, Act.eval, List.setIfInBounds_toArray, List.set_cons_zero, List.set_cons_succ, Array.getD_eq_getD_getElem?, List.getElem?_toArray, List.getElem?_cons_zero, List.getElem?_cons_succ, Option.getD_some, List.getElem_toArray, List.getElem_cons_succ, List.getElem_cons_zero]; with_reducible rfl))
          with_reducible refine txt_nil ?_
          rw [← hwd]
          go_wp2_with fail
          go_roundw
          case rel => exact ⟨j, by first | rfl | go_num, by omega, hT2, by rw [← hwd]; exact hb2⟩
          case measure => first | (simp [intOf]; done) | (simp [intOf]; omega)
        · have hne : ((x : Int) == (y : Int)) = false := beq_eq_false_iff_ne.2 (by omega)
          have hne2 : ((x : Int) != (y : Int)) = true := by simp; omega
          by_cases hlt : x < y
          · have hT2 : Hid (cmpTo A C n = -1) := Lib.hid (by rw [hT.out, hT1.out, if_pos hlt])
            have hlti : (x : Int) < y := by omega
            go_upto_region 8 with (fail)
            have cA8 : wr.drew.cell? ⟨b1, o1 + j, none⟩ = _ := cA
            have cC8 : wr.drew.cell? ⟨b2, o2 + j, none⟩ = _ := cC
            obtain ⟨wd8, hwd8⟩ : ∃ d, wr.drew = d := ⟨_, rfl⟩
            rw [hwd8] at cA8 cC8
            refine Rt.wp_region_text [0, 0, 0, 1, 0, 0, 0, 1, 0] (by kernel_rfl) (by kernel_rfl) ?_
            rw [hwd8]
            apply txt_move rfl rfl; (· (simp only [Act.put, Act.eval, List.setIfInBounds_toArray, List.set_cons_zero, List.set_cons_succ, Array.getD_eq_getD_getElem?, List.getElem?_toArray, List.getElem?_cons_zero, List.getElem?_cons_succ, Option.getD_some, List.getElem_toArray, List.getElem_cons_succ, List.getElem_cons_zero]; with_reducible rfl))
            apply txt_move rfl rfl; (· (simp only [Act.put, Act.eval, List.setIfInBounds_toArray, List.set_cons_zero, List.set_cons_succ, Array.getD_eq_getD_getElem?, List.getElem?_toArray, List.getElem?_cons_zero, List.getElem?_cons_succ, Option.getD_some, List.getElem_toArray, List.getElem_cons_succ, List.getElem_cons_zero]; with_reducible rfl))
            apply txt_pure rfl rfl rfl; (· (intro w; go_simp; with_reducible rfl)); (· (simp only [Act.put, Act.eval, List.setIfInBounds_toArray, List.set_cons_zero, List.set_cons_succ, Array.getD_eq_getD_getElem?, List.getElem?_toArray, List.getElem?_cons_zero, List.getElem?_cons_succ, Option.getD_some, List.getElem_toArray, List.getElem_cons_succ, List.getElem_cons_zero]; with_reducible rfl))
            apply txt_read rfl rfl rfl; (· (go_simp; with_reducible rfl)); (· (simp only [Act.put, Act.eval, List.setIfInBounds_toArray, List.set_cons_zero, List.set_cons_succ, Array.getD_eq_getD_getElem?, List.getElem?_toArray, List.getElem?_cons_zero, List.getElem?_cons_succ, Option.getD_some, List.getElem_toArray, List.getElem_cons_succ, List.getElem_cons_zero]; with_reducible rfl))
            apply txt_move rfl rfl; (· (simp only [Act.put, Act.eval, List.setIfInBounds_toArray, List.set_cons_zero, List.set_cons_succ, Array.getD_eq_getD_getElem?, List.getElem?_toArray, List.getElem?_cons_zero, List.getElem?_cons_succ, Option.getD_some, List.getElem_toArray, List.getElem_cons_succ, List.getElem_cons_zero]; with_reducible rfl))
            apply txt_move rfl rfl; (· (simp only [Act.put, Act.eval, List.setIfInBounds_toArray, List.set_cons_zero, List.set_cons_succ, Array.getD_eq_getD_getElem?, List.getElem?_toArray, List.getElem?_cons_zero, List.getElem?_cons_succ, Option.getD_some, List.getElem_toArray, List.getElem_cons_succ, List.getElem_cons_zero]; with_reducible rfl))
            apply txt_pure rfl rfl rfl; (· (intro w; go_simp; with_reducible rfl)); (· (simp only [Act.put, Act.eval, List.setIfInBounds_toArray, List.set_cons_zero, List.set_cons_succ, Array.getD_eq_getD_getElem?, List.getElem?_toArray, List.getElem?_cons_zero, List.getElem?_cons_succ, Option.getD_some, List.getElem_toArray, List.getElem_cons_succ, List.getElem_cons_zero]; with_reducible rfl))
            apply txt_read rfl rfl rfl; (· (go_simp; with_reducible rfl)); (· (simp only [Act.put, Act.eval, List.setIfInBounds_toArray, List.set_cons_zero, List.set_cons_succ, Array.getD_eq_getD_getElem?, List.getElem?_toArray, List.getElem?_cons_zero, List.getElem?_cons_succ, Option.getD_some, List.getElem_toArray, List.getElem_cons_succ, List.getElem_cons_zero]; with_reducible rfl))
            apply txt_pure rfl rfl rfl; (· (intro w; go_simp; with_reducible rfl)); (· (simp only [Act.put, Act.eval, List.setIfInBounds_toArray, List.set_cons_zero, List.set_cons_succ, Array.getD_eq_getD_getElem?, List.getElem?_toArray, List.getElem?_cons_zero, List.getElem?_cons_succ, Option.getD_some, List.getElem_toArray, List.getElem_cons_succ, List.getElem_cons_zero]; with_reducible rfl))
            with_reducible refine txt_nil ?_
            go_upto_region 9 with (fail)
            have cA' : wd8.drew.cell? ⟨b1, o1 + j, none⟩ = _ := cA8
            have cC' : wd8.drew.cell? ⟨b2, o2 + j, none⟩ = _ := cC8
            obtain ⟨wd9, hwd⟩ : ∃ d, wd8.drew = d := ⟨_, rfl⟩
            rw [hwd] at cA' cC'
            refine Rt.wp_region_text [0, 0, 0, 1, 0, 0, 0, 1, 0] (by kernel_rfl) (by kernel_rfl) ?_
            rw [hwd]
            apply txt_move rfl rfl; (· (simp only [Act.put, Act.eval, List.setIfInBounds_toArray, List.set_cons_zero, List.set_cons_succ, Array.getD_eq_getD_getElem?, List.getElem?_toArray, List.getElem?_cons_zero, List.getElem?_cons_succ, Option.getD_some, List.getElem_toArray, List.getElem_cons_succ, List.getElem_cons_zero]; with_reducible rfl))
            apply txt_move rfl rfl; (· (simp only [Act.put, Act.eval, List.setIfInBounds_toArray, List.set_cons_zero, List.set_cons_succ, Array.getD_eq_getD_getElem?, List.getElem?_toArray, List.getElem?_cons_zero, List.getElem?_cons_succ, Option.getD_some, List.getElem_toArray, List.getElem_cons_succ, List.getElem_cons_zero]; with_reducible rfl))
            apply txt_pure rfl rfl rfl; (· (intro w; go_simp; with_reducible rfl)); (· (simp only [Act.put, Act.eval, List.setIfInBounds_toArray, List.set_cons_zero, List.set_cons_succ, Array.getD_eq_getD_getElem?, List.getElem?_toArray, List.getElem?_cons_zero, List.getElem?_cons_succ, Option.getD_some, List.getElem_toArray, List.getElem_cons_succ, List.getElem_cons_zero]; with_reducible rfl))
            apply txt_read rfl rfl rfl; (· (go_simp; with_reducible rfl)); (· (simp only [Act.put, Act.eval, List.setIfInBounds_toArray, List.set_cons_zero, List.set_cons_succ, Array.getD_eq_getD_getElem?, List.getElem?_toArray, List.getElem?_cons_zero, List.getElem?_cons_succ, Option.getD_some, List.getElem_toArray, List.getElem_cons_succ, List.getElem_cons_zero]; with_reducible rfl))
            apply txt_move rfl rfl; (· (simp only [Act.put, Act.eval, List.setIfInBounds_toArray, List.set_cons_zero, List.set_cons_succ, Array.getD_eq_getD_getElem?, List.getElem?_toArray, List.getElem?_cons_zero, List.getElem?_cons_succ, Option.getD_some, List.getElem_toArray, List.getElem_cons_succ, List.getElem_cons_zero]; with_reducible rfl))
            apply txt_move rfl rfl; (· (simp only [Act.put, Act.eval, List.setIfInBounds_toArray, List.set_cons_zero, List.set_cons_succ, Array.getD_eq_getD_getElem?, List.getElem?_toArray, List.getElem?_cons_zero, List.getElem?_cons_succ, Option.getD_some, List.getElem_toArray, List.getElem_cons_succ, List.getElem_cons_zero]; with_reducible rfl))
            apply txt_pure rfl rfl rfl; (· (intro w; go_simp; with_reducible rfl)); (· (simp only [Act.put, Act.eval, List.setIfInBounds_toArray, List.set_cons_zero, List.set_cons_succ, Array.getD_eq_getD_getElem?, List.getElem?_toArray, List.getElem?_cons_zero, List.getElem?_cons_succ, Option.getD_some, List.getElem_toArray, List.getElem_cons_succ, List.getElem_cons_zero]; with_reducible rfl))
            apply txt_read rfl rfl rfl; (· (go_simp; with_reducible rfl)); (· (simp only [Act.put, Act.eval, List.setIfInBounds_toArray, List.set_cons_zero, List.set_cons_succ, Array.getD_eq_getD_getElem?, List.getElem?_toArray, List.getElem?_cons_zero, List.getElem?_cons_succ, Option.getD_some, List.getElem_toArray, List.getElem_cons_succ, List.getElem_cons_zero]; with_reducible rfl))
            apply txt_pure rfl rfl rfl; (· (intro w; go_simp; with_reducible rfl)); (· (simp only [Act.put, Act.eval, List.setIfInBounds_toArray, List.set_cons_zero, List.set_cons_succ, Array.getD_eq_getD_getElem?, List.getElem?_toArray, List.getElem?_cons_zero, List.getElem?_cons_succ, Option.getD_some, List.getElem_toArray, List.getElem_cons_succ, List.getElem_cons_zero]; with_reducible rfl))
            with_reducible refine txt_nil ?_
            rw [← hwd, ← hwd8]
            go_wp2_with fail
            go_ret
            exact ⟨by rw [hT2.out]; rfl, by first | exact hb1.out.drew.drew | (rw [← hwd, ← hwd8]; exact hb1.out.drew.drew)⟩
          · have hT2 : Hid (cmpTo A C n = 1) := Lib.hid (by rw [hT.out, hT1.out, if_neg hlt, if_pos (by omega)])
            have hlti : ¬ (x : Int) < y := by omega
            go_upto_region 8 with (fail)
            have cA8 : wr.drew.cell? ⟨b1, o1 + j, none⟩ = _ := cA
            have cC8 : wr.drew.cell? ⟨b2, o2 + j, none⟩ = _ := cC
            obtain ⟨wd8, hwd8⟩ : ∃ d, wr.drew = d := ⟨_, rfl⟩
            rw [hwd8] at cA8 cC8
            refine Rt.wp_region_text [0, 0, 0, 1, 0, 0, 0, 1, 0] (by kernel_rfl) (by kernel_rfl) ?_
            rw [hwd8]
            apply txt_move rfl rfl; (· (simp only [Act.put, Act.eval, List.setIfInBounds_toArray, List.set_cons_zero, List.set_cons_succ, Array.getD_eq_getD_getElem?, List.getElem?_toArray, List.getElem?_cons_zero, List.getElem?_cons_succ, Option.getD_some, List.getElem_toArray, List.getElem_cons_succ, List.getElem_cons_zero]; with_reducible rfl))
            apply txt_move rfl rfl; (· (simp only [Act.put, Act.eval, List.setIfInBounds_toArray, List.set_cons_zero, List.set_cons_succ, Array.getD_eq_getD_getElem?, List.getElem?_toArray, List.getElem?_cons_zero, List.getElem?_cons_succ, Option.getD_some, List.getElem_toArray, List.getElem_cons_succ, List.getElem_cons_zero]; with_reducible rfl))
            apply txt_pure rfl rfl rfl; (· (intro w; go_simp; with_reducible rfl)); (· (simp only [Act.put, Act.eval, List.setIfInBounds_toArray, List.set_cons_zero, List.set_cons_succ, Array.getD_eq_getD_getElem?, List.getElem?_toArray, List.getElem?_cons_zero, List.getElem?_cons_succ, Option.getD_some, List.getElem_toArray, List.getElem_cons_succ, List.getElem_cons_zero]; with_reducible rfl))
            apply txt_read rfl rfl rfl; (· (go_simp; with_reducible rfl)); (· (simp only [Act.put, Act.eval, List.setIfInBounds_toArray, List.set_cons_zero, List.set_cons_succ, Array.getD_eq_getD_getElem?, List.getElem?_toArray, List.getElem?_cons_zero, List.getElem?_cons_succ, Option.getD_some, List.getElem_toArray, List.getElem_cons_succ, List.getElem_cons_zero]; with_reducible rfl))
            apply txt_move rfl rfl; (· (simp only [Act.put, Act.eval, List.setIfInBounds_toArray, List.set_cons_zero, List.set_cons_succ, Array.getD_eq_getD_getElem?, List.getElem?_toArray, List.getElem?_cons_zero, List.getElem?_cons_succ, Option.getD_some, List.getElem_toArray, List.getElem_cons_succ, List.getElem_cons_zero]; with_reducible rfl))
            apply txt_move rfl rfl; (· (simp only [Act.put, Act.eval, List.setIfInBounds_toArray, List.set_cons_zero, List.set_cons_succ, Array.getD_eq_getD_getElem?, List.getElem?_toArray, List.getElem?_cons_zero, List.getElem?_cons_succ, Option.getD_some, List.getElem_toArray, List.getElem_cons_succ, List.getElem_cons_zero]; with_reducible rfl))
            apply txt_pure rfl rfl rfl; (· (intro w; go_simp; with_reducible rfl)); (· (simp only [Act.put, Act.eval, List.setIfInBounds_toArray, List.set_cons_zero, List.set_cons_succ, Array.getD_eq_getD_getElem?, List.getElem?_toArray, List.getElem?_cons_zero, List.getElem?_cons_succ, Option.getD_some, List.getElem_toArray, List.getElem_cons_succ, List.getElem_cons_zero]; with_reducible rfl))
            apply txt_read rfl rfl rfl; (· (go_simp; with_reducible rfl)); (· (simp only [Act.put, Act.eval, List.setIfInBounds_toArray, List.set_cons_zero, List.set_cons_succ, Array.getD_eq_getD_getElem?, List.getElem?_toArray, List.getElem?_cons_zero, List.getElem?_cons_succ, Option.getD_some, List.getElem_toArray, List.getElem_cons_succ, List.getElem_cons_zero]; with_reducible rfl))
            apply txt_pure rfl rfl rfl; (· (intro w; go_simp; with_reducible rfl)); (· (simp only [Act.put, Act.eval, List.setIfInBounds_toArray, List.set_cons_zero, List.set_cons_succ, Array.getD_eq_getD_getElem?, List.getElem?_toArray, List.getElem?_cons_zero, List.getElem?_cons_succ, Option.getD_some, List.getElem_toArray, List.getElem_cons_succ, List.getElem_cons_zero]; with_reducible rfl))
            with_reducible refine txt_nil ?_
            go_upto_region 9 with (fail)
            have cA' : wd8.drew.cell? ⟨b1, o1 + j, none⟩ = _ := cA8
            have cC' : wd8.drew.cell? ⟨b2, o2 + j, none⟩ = _ := cC8
            obtain ⟨wd9, hwd⟩ : ∃ d, wd8.drew = d := ⟨_, rfl⟩
            rw [hwd] at cA' cC'
            refine Rt.wp_region_text [0, 0, 0, 1, 0, 0, 0, 1, 0] (by kernel_rfl) (by kernel_rfl) ?_
            rw [hwd]
            apply txt_move rfl rfl; (· (simp only [Act.put, Act.eval, List.setIfInBounds_toArray, List.set_cons_zero, List.set_cons_succ, Array.getD_eq_getD_getElem?, List.getElem?_toArray, List.getElem?_cons_zero, List.getElem?_cons_succ, Option.getD_some, List.getElem_toArray, List.getElem_cons_succ, List.getElem_cons_zero]; with_reducible rfl))
            apply txt_move rfl rfl; (· (simp only [Act.put, Act.eval, List.setIfInBounds_toArray, List.set_cons_zero, List.set_cons_succ, Array.getD_eq_getD_getElem?, List.getElem?_toArray, List.getElem?_cons_zero, List.getElem?_cons_succ, Option.getD_some, List.getElem_toArray, List.getElem_cons_succ, List.getElem_cons_zero]; with_reducible rfl))
            apply txt_pure rfl rfl rfl; (· (intro w; go_simp; with_reducible rfl)); (· (simp only [Act.put, Act.eval, List.setIfInBounds_toArray, List.set_cons_zero, List.set_cons_succ, Array.getD_eq_getD_getElem?, List.getElem?_toArray, List.getElem?_cons_zero, List.getElem?_cons_succ, Option.getD_some, List.getElem_toArray, List.getElem_cons_succ, List.getElem_cons_zero]; with_reducible rfl))
            apply txt_read rfl rfl rfl; (· (go_simp; with_reducible rfl)); (· (simp only [Act.put, Act.eval, List.setIfInBounds_toArray, List.set_cons_zero, List.set_cons_succ, Array.getD_eq_getD_getElem?, List.getElem?_toArray, List.getElem?_cons_zero, List.getElem?_cons_succ, Option.getD_some, List.getElem_toArray, List.getElem_cons_succ, List.getElem_cons_zero]; with_reducible rfl))
            apply txt_move rfl rfl; (· (simp only [Act.put, Act.eval, List.setIfInBounds_toArray, List.set_cons_zero, List.set_cons_succ, Array.getD_eq_getD_getElem?, List.getElem?_toArray, List.getElem?_cons_zero, List.getElem?_cons_succ, Option.getD_some, List.getElem_toArray, List.getElem_cons_succ, List.getElem_cons_zero]; with_reducible rfl))
            apply txt_move rfl rfl; (· (simp only [Act.put, Act.eval, List.setIfInBounds_toArray, List.set_cons_zero, List.set_cons_succ, Array.getD_eq_getD_getElem?, List.getElem?_toArray, List.getElem?_cons_zero, List.getElem?_cons_succ, Option.getD_some, List.getElem_toArray, List.getElem_cons_succ, List.getElem_cons_zero]; with_reducible rfl))
            apply txt_pure rfl rfl rfl; (· (intro w; go_simp; with_reducible rfl)); (· (simp only [Act.put, Act.eval, List.setIfInBounds_toArray, List.set_cons_zero, List.set_cons_succ, Array.getD_eq_getD_getElem?, List.getElem?_toArray, List.getElem?_cons_zero, List.getElem?_cons_succ, Option.getD_some, List.getElem_toArray, List.getElem_cons_succ, List.getElem_cons_zero]; with_reducible rfl))
            apply txt_read rfl rfl rfl; (· (go_simp; with_reducible rfl)); (· (simp only [Act.put, Act.eval, List.setIfInBounds_toArray, List.set_cons_zero, List.set_cons_succ, Array.getD_eq_getD_getElem?, List.getElem?_toArray, List.getElem?_cons_zero, List.getElem?_cons_succ, Option.getD_some, List.getElem_toArray, List.getElem_cons_succ, List.getElem_cons_zero]; with_reducible rfl))
            apply txt_pure rfl rfl rfl; (· (intro w; go_simp; with_reducible rfl)); (· (simp only [Act.put, Act.eval, List.setIfInBounds_toArray, List.set_cons_zero, List.set_cons_succ, Array.getD_eq_getD_getElem?, List.getElem?_toArray, List.getElem?_cons_zero, List.getElem?_cons_succ, Option.getD_some, List.getElem_toArray, List.getElem_cons_succ, List.getElem_cons_zero]; with_reducible rfl))
            with_reducible refine txt_nil ?_
            rw [← hwd, ← hwd8]
            go_wp2_with fail
            go_ret
            exact ⟨by rw [hT2.out]; rfl, by first | exact hb1.out.drew.drew | (rw [← hwd, ← hwd8]; exact hb1.out.drew.drew)⟩
  · have hcmp := cmp_len hA hC hlen
    rw [hcmp]
    obtain ⟨n, hn⟩ : ∃ n, A.length = n := ⟨_, rfl⟩
    obtain ⟨m, hm⟩ : ∃ m, C.length = m := ⟨_, rfl⟩
    rw [hn] at hlA hlen ⊢
    rw [hm] at hlC hlen ⊢
    have hneq : ((n : Int) != (m : Int)) = true := by simp; omega
    clear hu hv hA hC hcmp hn hm
    by_cases hlt : n < m
    · have hlti : (n : Int) < m := by omega
      rw [if_pos hlt]
      go_enter Tryd.func22, Tryd.ntmps22
      go_wp2_with fail
      go_ret
      exact ⟨rfl, hB0.out⟩
    · have hlti : ¬ (n : Int) < m := by omega
      rw [if_neg hlt]
      go_enter Tryd.func22, Tryd.ntmps22
      go_wp2_with fail
      go_ret
      exact ⟨rfl, hB0.out⟩
end Go.Proofs.YtffehdfddkgggaaDoor.Nu

/- The reference's Mul. -/
namespace Go.Proofs.YtffehdfddkgggaaDoor.Nu
open Go.RowKit Rt
set_option linter.unusedSimpArgs false
set_option linter.unusedVariables false
/-- The rows of a product under way. -/
structure RMulI (w W : World) (g la lb : Nat) (A C : List Nat) (k : Nat) (O : List Nat) : Prop where
  set : Below w.heap.size w W
  row : RowM W g O
  len : O.length = la + lb
  dig : Dig O
  far : ∀ j, k + lb ≤ j → gd O j = 0
  sum : dsum (gd O) (la + lb) = dsum (gd A) k * val C
/-- .. within a row. -/
structure RMulJ (w W : World) (g la lb : Nat) (x k : Nat) (C O : List Nat) (m : Nat) (O' : List Nat) : Prop where
  set : Below w.heap.size w W
  row : RowM W g O'
  len : O'.length = la + lb
  dig : Dig O'
  is : ∀ j, gd O' j = if k ≤ j ∧ j < k + m then ot (mt x (gd C) fun q => gd O (k + q)) (j - k) else gd O j
theorem RMulJ.step {w W : World} {g la lb x k m : Nat} {C O O' : List Nat} (h : RMulJ w W g la lb x k C O m O') (hg : w.heap.size ≤ g) (hm : k + m < la + lb) {y : Int} (hy : y = ((ot (mt x (gd C) fun q => gd O (k + q)) m : Nat) : Int)) :
    RMulJ w (W.setCell ⟨g, k + m, none⟩ (.int .u32 y)) g la lb x k C O (m + 1) (O'.set (k + m) (ot (mt x (gd C) fun q => gd O (k + q)) m)) := by
  subst hy
  refine ⟨h.set.setCell (p := ⟨g, k + m, none⟩) hg _, h.row.set _ _, by rw [List.length_set]; exact h.len, dig_set h.dig (ot_lt _ _), fun j => ?_⟩
  rw [gd_set (by rw [h.len]; exact hm)]
  by_cases h1 : j = k + m
  · subst h1
    rw [if_pos rfl, if_pos ⟨by omega, by omega⟩, show k + m - k = m by omega]
  · rw [if_neg h1, h.is j]
    by_cases h2 : k ≤ j ∧ j < k + m
    · rw [if_pos h2, if_pos ⟨h2.1, by omega⟩]
    · rw [if_neg h2, if_neg (by omega)]
theorem RMulI.next {w W : World} {g la lb k : Nat} {A C O O' : List Nat} (h : RMulI w W g la lb A C k O) {W' : World} (hlb : C.length = lb) (hC : Dig C) (hx : gd A k < Bs) (hk : k < la) (j : RMulJ w W' g la lb (gd A k) k C O lb O') (hg : w.heap.size ≤ g) {y : Int} (hy : y = ((cr (mt (gd A k) (gd C) fun q => gd O (k + q)) lb : Nat) : Int)) :
    RMulI w (W'.setCell ⟨g, k + lb, none⟩ (.int .u32 y)) g la lb A C (k + 1) (O'.set (k + lb) (cr (mt (gd A k) (gd C) fun q => gd O (k + q)) lb)) := by
  subst hy
  have hcr := cr_lt (t := mt (gd A k) (gd C) fun q => gd O (k + q)) (mt_le hx hC fun q => h.dig _) lb
  have hl : k + lb < O'.length := by rw [j.len]; omega
  refine ⟨j.set.setCell (p := ⟨g, k + lb, none⟩) hg _, j.row.set _ _, by rw [List.length_set]; exact j.len, dig_set j.dig hcr, fun i hi => ?_, ?_⟩
  · rw [gd_set hl, if_neg (by omega), j.is i, if_neg (by omega)]
    exact h.far i (by omega)
  · have hv : dsum (gd C) lb = val C := by unfold val; rw [hlb]
    have hr := mul_row (o := gd O) (o' := gd (O'.set (k + lb) (cr (mt (gd A k) (gd C) fun q => gd O (k + q)) lb))) (b := gd C) (x := gd A k) (i := k) (lb := lb) (N := la + lb) (by omega) (fun i hi => h.far i hi)
      (fun i hi => by rw [gd_set hl, if_neg (by omega), j.is i, if_neg (by omega)])
      (fun q hq => by rw [gd_set hl, if_neg (by omega), j.is (k + q), if_pos ⟨by omega, by omega⟩, show k + q - k = q by omega])
      (by rw [gd_set hl, if_pos rfl])
      (fun i hi => by rw [gd_set hl, if_neg (by omega), j.is i, if_neg (by omega)]; exact h.far i (by omega))
    rw [hr, h.sum, hv, dsum_succ, Nat.add_mul]
theorem RTrim_row {w : World} {g c : Nat} {L : List Nat} (h : RowM w g L) (hd : Dig L) (hl : L.length ≤ 70368744177664) (hc : L.length ≤ c) (hc2 : c ≤ maxLen) :
    Calls Tryd.prog 40 #[.slice (some ⟨g, 0, none⟩) L.length c] w fun e w' => ∃ r, e = .returned r ∧ NumAt w' r (val L) ∧ w' = w := by
  have hs := h.sl (k := L.length) (Nat.le_refl _) hc
  rw [List.take_length] at hs
  have ht := trimL_le L L.length
  obtain ⟨h1, h2⟩ := trim_norm hd
  refine (RTrim_any hs hl hc hc2).mono ?_
  rintro e w' ⟨rfl, rfl⟩
  exact ⟨_, rfl, ⟨_, h1, h2, h.sl ht (by omega)⟩, rfl⟩
set_option maxHeartbeats 4000000 in
set_option maxRecDepth 100000 in
theorem RMul_any {w : World} {u v : Value} {A C : List Nat} (hu : SlD w u A) (hv : SlD w v C) (hA : Dig A) (hC : Dig C) (hlA : A.length ≤ 1000000) (hlC : C.length ≤ 1000000) :
    Calls Tryd.prog 35 #[u, v] w fun e w' => ∃ r, e = .returned r ∧ NumAt w' r (val A * val C) ∧ Below w.heap.size w w' := by
  obtain ⟨a, ca, rfl, _, _⟩ := id hu
  obtain ⟨b, cb, rfl, _, _⟩ := id hv
  obtain ⟨la, hla⟩ : ∃ n, A.length = n := ⟨_, rfl⟩
  obtain ⟨lb, hlb⟩ : ∃ n, C.length = n := ⟨_, rfl⟩
  rw [hla] at hlA hu ⊢
  rw [hlb] at hlC hv ⊢
  have huH := Lib.hid hu
  have hvH := Lib.hid hv
  have hAH := Lib.hid hA
  have hCH := Lib.hid hC
  have hlaH := Lib.hid hla
  have hlbH := Lib.hid hlb
  have hmk := run_mk w (la + lb) (la + lb) (Nat.le_refl _) (by omega)
  rw [show (((la + lb : Nat)) : Int) = (la : Int) + (lb : Int) from Int.natCast_add la lb] at hmk
  have hwl := wr (x := (la : Int) + (lb : Int)) (by omega) (by omega)
  clear hu hv hA hC hla hlb
  go_enter Tryd.func35, Tryd.ntmps35
  go_upto_region 2 with (fail)
  have hM1 := RowM.made w (la + lb)
  have hS1 : Below w.heap.size w (w.alloc (.cells (encD (List.replicate (la + lb) 0)) 60)) := (Below.refl _ w).alloc (Nat.le_refl _) _
  obtain ⟨W1, hW1⟩ : ∃ W, w.alloc (.cells (encD (List.replicate (la + lb) 0)) 60) = W := ⟨_, rfl⟩
  rw [hW1] at hM1 hS1 ⊢
  obtain ⟨g, hg⟩ : ∃ g, w.heap.size = g := ⟨_, rfl⟩
  rw [hg] at hM1 ⊢
  have hI1 : Hid (RMulI w W1 g la lb A C 0 (List.replicate (la + lb) 0)) := Lib.hid ⟨hS1, hM1, List.length_replicate, dig_zeros _, fun j _ => gd_zeros _ _, by
    rw [dsum_congr (g := fun _ => 0) (fun j _ => gd_zeros _ _), dsum_zero (i := 0) (Nat.zero_le _) (fun _ _ => rfl)]; simp [dsum]⟩
  have hgH := Lib.hid hg
  clear hW1 hM1 hS1 hg hmk
  go_wp2_with fail
  go_loopw [6] (fun vk wr => ∃ (k : Nat) (O : List Nat), vk = .int .i64 k ∧ k ≤ la ∧ Hid (RMulI w wr g la lb A C k O)) (fun vk _ => la - (intOf vk).toNat)
  case atStart => exact ⟨0, _, rfl, Nat.zero_le _, hI1⟩
  case round =>
    obtain ⟨k, O, rfl, hk, hI⟩ := hrel
    clear hI1
    by_cases hlt : (k : Int) < la
    · have hkl : k < la := by omega
      have hxB := hAH.out k
      obtain ⟨x, hx⟩ : ∃ x, gd A k = x := ⟨_, rfl⟩
      have hxc : x < Bs := by rw [← hx]; exact hxB
      have hxH := Lib.hid hx
      have hxBH := Lib.hid hxc
      have hxi := wr64 (x := (x : Int)) (by omega) (by simp only [Bs] at hxc; omega)
      clear hx hxB hxc
      go_wp2_with fail
      go_loopw [7, 8] (fun vc vm w5 => ∃ (m : Nat) (O' : List Nat), vm = .int .i64 m ∧ vc = .int .u64 ((cr (mt x (gd C) fun q => gd O (k + q)) m : Nat) : Int) ∧ m ≤ lb ∧ Hid (RMulJ w w5 g la lb x k C O m O')) (fun _ vm _ => lb - (intOf vm).toNat)
      case atStart => exact ⟨0, O, rfl, rfl, Nat.zero_le _, Lib.hid ⟨hI.out.set, hI.out.row, hI.out.len, hI.out.dig, fun j => by rw [if_neg (by omega)]⟩⟩
      case round =>
        obtain ⟨m, O', rfl, rfl, hm, hJ⟩ := hrel
        have hcr : cr (mt x (gd C) fun q => gd O (k + q)) m < Bs := cr_lt (mt_le hxBH.out hCH.out fun q => hI.out.dig _) m
        have hot : cr (mt x (gd C) fun q => gd O (k + q)) (m + 1) = (x * gd C m + gd O (k + m) + cr (mt x (gd C) fun q => gd O (k + q)) m) / Bs := rfl
        have hoo : ot (mt x (gd C) fun q => gd O (k + q)) m = (x * gd C m + gd O (k + m) + cr (mt x (gd C) fun q => gd O (k + q)) m) % Bs := rfl
        obtain ⟨cc, hcc⟩ : ∃ z, cr (mt x (gd C) fun q => gd O (k + q)) m = z := ⟨_, rfl⟩
        rw [hcc] at hcr hot hoo ⊢
        by_cases hlm : (m : Int) < lb
        · have hml : m < lb := by omega
          obtain ⟨ba, oa, rfl, cA⟩ := huH.out.at hJ.out.set (j := k) (by rw [hlaH.out]; exact hkl)
          obtain ⟨bb, ob, rfl, cB⟩ := hvH.out.at hJ.out.set (j := m) (by rw [hlbH.out]; exact hml)
          have cO := hJ.out.row.cell (k + m) (by rw [hJ.out.len]; omega)
          rw [hJ.out.is (k + m), if_neg (by omega)] at cO
          have hyB := hCH.out m
          have hoB := hI.out.dig (k + m)
          obtain ⟨y, hy⟩ : ∃ y, gd C m = y := ⟨_, rfl⟩
          obtain ⟨o, ho⟩ : ∃ o, gd O (k + m) = o := ⟨_, rfl⟩
          rw [hxH.out] at cA
          rw [hy] at cB hyB hot hoo
          rw [ho] at cO hoB hot hoo
          have hxB := hxBH.out
          have hpB : x * y ≤ 4294967295 * 4294967295 := Nat.mul_le_mul (by simp only [Bs] at hxB; omega) (by simp only [Bs] at hyB; omega)
          have hmul : (x : Int) * (y : Int) = ((x * y : Nat) : Int) := (Int.natCast_mul x y).symm
          obtain ⟨p, hp⟩ : ∃ p, x * y = p := ⟨_, rfl⟩
          rw [hp] at hpB hmul hot hoo
          have hyi := Nu.wr64 (x := (y : Int)) (by omega) (by simp only [Bs] at hyB; omega)
          have hoi := Nu.wr64 (x := (o : Int)) (by omega) (by simp only [Bs] at hoB; omega)
          have hpi := Nu.wr64 (x := (p : Int)) (by omega) (by omega)
          have hpo := Nu.wr64 (x := (p : Int) + (o : Int)) (by omega) (by simp only [Bs] at hoB; omega)
          have hpc := Nu.wr64 (x := (p : Int) + (o : Int) + (cc : Int)) (by omega) (by simp only [Bs] at hoB hcr; omega)
          obtain ⟨sm, hsm⟩ : ∃ z, p + o + cc = z := ⟨_, rfl⟩
          have hsmi : (p : Int) + (o : Int) + (cc : Int) = (sm : Int) := by omega
          rw [hsm] at hot hoo
          have hsb : sm < 18446744073709551616 := by simp only [Bs] at hoB hcr; omega
          have hsw := Nu.wr64 (x := (sm : Int)) (by omega) (by omega)
          have htm : Int.tmod (sm : Int) 4294967296 = ((sm % Bs : Nat) : Int) := (Int.ofNat_tmod sm Bs).symm
          have htd : Int.tdiv (sm : Int) 4294967296 = ((sm / Bs : Nat) : Int) := (Int.ofNat_tdiv sm Bs).symm
          have heB : sm % Bs < Bs := Nat.mod_lt _ (by decide)
          have hqB : sm / Bs ≤ sm := Nat.div_le_self _ _
          obtain ⟨e, he⟩ : ∃ z, sm % Bs = z := ⟨_, rfl⟩
          obtain ⟨q2, hq2⟩ : ∃ z, sm / Bs = z := ⟨_, rfl⟩
          rw [he] at htm heB
          rw [hq2] at htd hqB
          have hee := Lib.hid he
          have hqe := Lib.hid hq2
          have hew := Nu.wr64 (x := (e : Int)) (by omega) (by simp only [Bs] at heB; omega)
          have hqw := Nu.wr64 (x := (q2 : Int)) (by omega) (by omega)
          have hem : (e : Int) % 4294967296 = (e : Int) := by simp only [Bs] at heB; omega
          clear he hq2 heB hqB
          have hkm := Nu.wr (x := (k : Int) + (m : Int)) (by omega) (by omega)
          have hkn : ((k : Int) + (m : Int)).toNat = k + m := by omega
          have hk0 : (0 : Int) ≤ (k : Int) + (m : Int) := by omega
          have hkl2 : (k : Int) + (m : Int) < (la : Int) + (lb : Int) := by omega
          have hotH := Lib.hid hot
          have hooH := Lib.hid hoo
          clear hot hoo hy ho hp hcc hxB hyB hoB hpB hcr hsm
          go_upto_region 9 with (fail)
          obtain ⟨wd, hwd⟩ : ∃ d, wr.drew = d := ⟨_, rfl⟩
          have cA' : wr.drew.cell? ⟨ba, oa + k, none⟩ = _ := cA
          rw [hwd] at cA'
          have cB' : wr.drew.cell? ⟨bb, ob + m, none⟩ = _ := cB
          rw [hwd] at cB'
          have cO' : wr.drew.cell? ⟨g, k + m, none⟩ = _ := cO
          rw [hwd] at cO'
          have hJ2 : Hid (RMulJ w wd g la lb x k C O m O') := Lib.hid (by rw [← hwd]; exact ⟨hJ.out.set.drew, hJ.out.row.drew, hJ.out.len, hJ.out.dig, hJ.out.is⟩)
          have fO := hJ2.out.row.frozen (k + m)
          clear cA cB cO hJ
          refine Rt.wp_region_text [0, 0, 0, 1, 0, 0, 0, 0, 1, 0, 0, 0, 0, 0, 0, 0, 1, 0, 0, 0, 0, 0] (by kernel_rfl) (by kernel_rfl) ?_
          rw [hwd]
          clear hwd
          apply txt_move rfl rfl; (· (simp only [Act.put, Act.eval, List.setIfInBounds_toArray, List.set_cons_zero, List.set_cons_succ, Array.getD_eq_getD_getElem?, List.getElem?_toArray, List.getElem?_cons_zero, List.getElem?_cons_succ, Option.getD_some, List.getElem_toArray, List.getElem_cons_succ, List.getElem_cons_zero]; with_reducible rfl))
          apply txt_move rfl rfl; (· (simp only [Act.put, Act.eval, List.setIfInBounds_toArray, List.set_cons_zero, List.set_cons_succ, Array.getD_eq_getD_getElem?, List.getElem?_toArray, List.getElem?_cons_zero, List.getElem?_cons_succ, Option.getD_some, List.getElem_toArray, List.getElem_cons_succ, List.getElem_cons_zero]; with_reducible rfl))
          apply txt_pure rfl rfl rfl; (· (intro w; go_simp; with_reducible rfl)); (· (simp only [Act.put, Act.eval, List.setIfInBounds_toArray, List.set_cons_zero, List.set_cons_succ, Array.getD_eq_getD_getElem?, List.getElem?_toArray, List.getElem?_cons_zero, List.getElem?_cons_succ, Option.getD_some, List.getElem_toArray, List.getElem_cons_succ, List.getElem_cons_zero]; with_reducible rfl))
          apply txt_read rfl rfl rfl; (· (go_simp; with_reducible rfl)); (· (simp only [Act.put, Act.eval, List.setIfInBounds_toArray, List.set_cons_zero, List.set_cons_succ, Array.getD_eq_getD_getElem?, List.getElem?_toArray, List.getElem?_cons_zero, List.getElem?_cons_succ, Option.getD_some, List.getElem_toArray, List.getElem_cons_succ, List.getElem_cons_zero]; with_reducible rfl))
          apply txt_pure rfl rfl rfl; (· (intro w; go_simp; with_reducible rfl)); (· (simp only [Act.put, Act.eval, List.setIfInBounds_toArray, List.set_cons_zero, List.set_cons_succ, Array.getD_eq_getD_getElem?, List.getElem?_toArray, List.getElem?_cons_zero, List.getElem?_cons_succ, Option.getD_some, List.getElem_toArray, List.getElem_cons_succ, List.getElem_cons_zero]; with_reducible rfl))
          apply txt_move rfl rfl; (· (simp only [Act.put, Act.eval, List.setIfInBounds_toArray, List.set_cons_zero, List.set_cons_succ, Array.getD_eq_getD_getElem?, List.getElem?_toArray, List.getElem?_cons_zero, List.getElem?_cons_succ, Option.getD_some, List.getElem_toArray, List.getElem_cons_succ, List.getElem_cons_zero]; with_reducible rfl))
          apply txt_move rfl rfl; (· (simp only [Act.put, Act.eval, List.setIfInBounds_toArray, List.set_cons_zero, List.set_cons_succ, Array.getD_eq_getD_getElem?, List.getElem?_toArray, List.getElem?_cons_zero, List.getElem?_cons_succ, Option.getD_some, List.getElem_toArray, List.getElem_cons_succ, List.getElem_cons_zero]; with_reducible rfl))
          apply txt_pure rfl rfl rfl; (· (intro w; go_simp; with_reducible rfl)); (· (simp only [Act.put, Act.eval, List.setIfInBounds_toArray, List.set_cons_zero, List.set_cons_succ, Array.getD_eq_getD_getElem?, List.getElem?_toArray, List.getElem?_cons_zero, List.getElem?_cons_succ, Option.getD_some, List.getElem_toArray, List.getElem_cons_succ, List.getElem_cons_zero]; with_reducible rfl))
          apply txt_read rfl rfl rfl; (· (go_simp; with_reducible rfl)); (· (simp only [Act.put, Act.eval, List.setIfInBounds_toArray, List.set_cons_zero, List.set_cons_succ, Array.getD_eq_getD_getElem?, List.getElem?_toArray, List.getElem?_cons_zero, List.getElem?_cons_succ, Option.getD_some, List.getElem_toArray, List.getElem_cons_succ, List.getElem_cons_zero]; with_reducible rfl))
          apply txt_pure rfl rfl rfl; (· (intro w; go_simp; with_reducible rfl)); (· (simp only [Act.put, Act.eval, List.setIfInBounds_toArray, List.set_cons_zero, List.set_cons_succ, Array.getD_eq_getD_getElem?, List.getElem?_toArray, List.getElem?_cons_zero, List.getElem?_cons_succ, Option.getD_some, List.getElem_toArray, List.getElem_cons_succ, List.getElem_cons_zero]; with_reducible rfl))
          apply txt_pure rfl rfl rfl; (· (intro w; go_simp; with_reducible rfl)); (· (simp only [Act.put, Act.eval, List.setIfInBounds_toArray, List.set_cons_zero, List.set_cons_succ, Array.getD_eq_getD_getElem?, List.getElem?_toArray, List.getElem?_cons_zero, List.getElem?_cons_succ, Option.getD_some, List.getElem_toArray, List.getElem_cons_succ, List.getElem_cons_zero]; with_reducible rfl))
          apply txt_move rfl rfl; (· (simp only [Act.put, Act.eval, List.setIfInBounds_toArray, List.set_cons_zero, List.set_cons_succ, Array.getD_eq_getD_getElem?, List.getElem?_toArray, List.getElem?_cons_zero, List.getElem?_cons_succ, Option.getD_some, List.getElem_toArray, List.getElem_cons_succ, List.getElem_cons_zero]; with_reducible rfl))
          apply txt_move rfl rfl; (· (simp only [Act.put, Act.eval, List.setIfInBounds_toArray, List.set_cons_zero, List.set_cons_succ, Array.getD_eq_getD_getElem?, List.getElem?_toArray, List.getElem?_cons_zero, List.getElem?_cons_succ, Option.getD_some, List.getElem_toArray, List.getElem_cons_succ, List.getElem_cons_zero]; with_reducible rfl))
          apply txt_move rfl rfl; (· (simp only [Act.put, Act.eval, List.setIfInBounds_toArray, List.set_cons_zero, List.set_cons_succ, Array.getD_eq_getD_getElem?, List.getElem?_toArray, List.getElem?_cons_zero, List.getElem?_cons_succ, Option.getD_some, List.getElem_toArray, List.getElem_cons_succ, List.getElem_cons_zero]; with_reducible rfl))
          apply txt_pure rfl rfl rfl; (· (intro w; go_simp; with_reducible rfl)); (· (simp only [Act.put, Act.eval, List.setIfInBounds_toArray, List.set_cons_zero, List.set_cons_succ, Array.getD_eq_getD_getElem?, List.getElem?_toArray, List.getElem?_cons_zero, List.getElem?_cons_succ, Option.getD_some, List.getElem_toArray, List.getElem_cons_succ, List.getElem_cons_zero]; with_reducible rfl))
          apply txt_pure rfl rfl rfl; (· (intro w; go_simp; with_reducible rfl)); (· (simp only [Act.put, Act.eval, List.setIfInBounds_toArray, List.set_cons_zero, List.set_cons_succ, Array.getD_eq_getD_getElem?, List.getElem?_toArray, List.getElem?_cons_zero, List.getElem?_cons_succ, Option.getD_some, List.getElem_toArray, List.getElem_cons_succ, List.getElem_cons_zero]; with_reducible rfl))
          apply txt_read rfl rfl rfl; (· (go_simp; with_reducible rfl)); (· (simp only [Act.put, Act.eval, List.setIfInBounds_toArray, List.set_cons_zero, List.set_cons_succ, Array.getD_eq_getD_getElem?, List.getElem?_toArray, List.getElem?_cons_zero, List.getElem?_cons_succ, Option.getD_some, List.getElem_toArray, List.getElem_cons_succ, List.getElem_cons_zero]; with_reducible rfl))
          apply txt_pure rfl rfl rfl; (· (intro w; go_simp; with_reducible rfl)); (· (simp only [Act.put, Act.eval, List.setIfInBounds_toArray, List.set_cons_zero, List.set_cons_succ, Array.getD_eq_getD_getElem?, List.getElem?_toArray, List.getElem?_cons_zero, List.getElem?_cons_succ, Option.getD_some, List.getElem_toArray, List.getElem_cons_succ, List.getElem_cons_zero]; with_reducible rfl))
          apply txt_pure rfl rfl rfl; (· (intro w; go_simp; with_reducible rfl)); (· (simp only [Act.put, Act.eval, List.setIfInBounds_toArray, List.set_cons_zero, List.set_cons_succ, Array.getD_eq_getD_getElem?, List.getElem?_toArray, List.getElem?_cons_zero, List.getElem?_cons_succ, Option.getD_some, List.getElem_toArray, List.getElem_cons_succ, List.getElem_cons_zero]; with_reducible rfl))
          apply txt_move rfl rfl; (· (simp only [Act.put, Act.eval, List.setIfInBounds_toArray, List.set_cons_zero, List.set_cons_succ, Array.getD_eq_getD_getElem?, List.getElem?_toArray, List.getElem?_cons_zero, List.getElem?_cons_succ, Option.getD_some, List.getElem_toArray, List.getElem_cons_succ, List.getElem_cons_zero]; with_reducible rfl))
          apply txt_pure rfl rfl rfl; (· (intro w; go_simp; with_reducible rfl)); (· (simp only [Act.put, Act.eval, List.setIfInBounds_toArray, List.set_cons_zero, List.set_cons_succ, Array.getD_eq_getD_getElem?, List.getElem?_toArray, List.getElem?_cons_zero, List.getElem?_cons_succ, Option.getD_some, List.getElem_toArray, List.getElem_cons_succ, List.getElem_cons_zero]; with_reducible rfl))
          apply txt_assign rfl rfl; (· (simp only [Act.put, Act.eval, List.setIfInBounds_toArray, List.set_cons_zero, List.set_cons_succ, Array.getD_eq_getD_getElem?, List.getElem?_toArray, List.getElem?_cons_zero, List.getElem?_cons_succ, Option.getD_some, List.getElem_toArray, List.getElem_cons_succ, List.getElem_cons_zero]; with_reducible rfl))
          with_reducible refine txt_nil ?_

          clear cA' cB'
          go_wp2_with fail
          go_roundw
          case rel => exact ⟨m + 1, _, by first | rfl | go_num, by rw [hotH.out, hqe.out], by omega, Lib.hid (hJ2.out.step (Nat.le_of_eq hgH.out) (by omega) (by rw [hooH.out, hee.out]))⟩
          case measure => first | (simp [intOf]; done) | (simp [intOf]; omega)
        · have hmb : m = lb := by omega
          subst hmb
          have cO := hJ.out.row.cell (k + m) (by rw [hJ.out.len]; omega)
          have fO := hJ.out.row.frozen (k + m)
          have hkm := Nu.wr (x := (k : Int) + (m : Int)) (by omega) (by omega)
          have hkn : ((k : Int) + (m : Int)).toNat = k + m := by omega
          have hk0 : (0 : Int) ≤ (k : Int) + (m : Int) := by omega
          have hkl2 : (k : Int) + (m : Int) < (la : Int) + (m : Int) := by omega
          have hcm : (cc : Int) % 4294967296 = (cc : Int) := by simp only [Bs] at hcr; omega
          have hccH := Lib.hid hcc
          clear hot hoo hcc hcr
          go_wp2_with fail
          go_roundw
          case rel => exact ⟨k + 1, _, by first | rfl | go_num, by omega, Lib.hid (hI.out.next hlbH.out hCH.out (by rw [hxH.out]; exact hxBH.out) hkl (by rw [hxH.out]; exact hJ.out) (Nat.le_of_eq hgH.out) (by rw [hxH.out, hccH.out]))⟩
          case measure => first | (simp [intOf]; done) | (simp [intOf]; omega)
    · have hkl : k = la := by omega
      subst hkl
      have hval : val O = val A * val C := by
        have := hI.out.sum
        have e1 : dsum (gd A) k = val A := by unfold val; rw [hlaH.out]
        have e2 : dsum (gd O) (k + lb) = val O := by unfold val; rw [hI.out.len]
        rw [e1, e2] at this; exact this
      have hT := RTrim_row hI.out.row hI.out.dig (by rw [hI.out.len]; omega) (Nat.le_of_eq hI.out.len) (by unfold maxLen; omega)
      rw [hI.out.len, hval] at hT
      have hTH := Lib.hid hT
      clear hT hval
      go_wp2_with fail
      refine hTH.out.mono ?_
      rintro e w3 ⟨r, rfl, hn, rfl⟩
      go_wp2_with fail
      go_ret
      exact ⟨_, rfl, hn, hI.out.set⟩
end Go.Proofs.YtffehdfddkgggaaDoor.Nu

/- left. -/
namespace Go.Proofs.YtffehdfddkgggaaDoor.Nu
open Go.RowKit Rt
set_option linter.unusedSimpArgs false
set_option linter.unusedVariables false
theorem bits_or32 {a b : Nat} (ha : a < Bs) (hb : b < Bs) : Go.bits BinOp.or IntKind.u32 (a : Int) (b : Int) = ((a ||| b : Nat) : Int) := by
  unfold Go.bits
  have hor : a ||| b < 2 ^ 32 := Nat.or_lt_two_pow ha hb
  have h1 : (BitVec.ofInt IntKind.u32.bits (a : Int) ||| BitVec.ofInt IntKind.u32.bits (b : Int)).toNat = a ||| b := by
    rw [BitVec.toNat_or, BitVec.ofInt_natCast, BitVec.ofInt_natCast, BitVec.toNat_ofNat, BitVec.toNat_ofNat]
    show (a % 2 ^ 32) ||| (b % 2 ^ 32) = a ||| b
    rw [Nat.mod_eq_of_lt ha, Nat.mod_eq_of_lt hb]
  simp only [h1]
  simp [IntKind.wrap, IntKind.bits, IntKind.signed]; omega
/-- A move under way. -/
structure LeI (w W : World) (u : Value) (g la : Nat) (t : Nat → Nat) (k : Nat) (O : List Nat) : Prop where
  bx : Boxed W w.heap.size 26 u
  bel : Below w.heap.size w W
  row : RowM W g O
  len : O.length = la + 1
  dig : Dig O
  lo : ∀ j, j < k → gd O j = ot t j
  at_ : gd O k = cr t k
  hi : ∀ j, k < j → gd O j = 0
set_option maxHeartbeats 4000000 in
set_option maxRecDepth 100000 in
theorem Left_any {w : World} {u : Value} {A : List Nat} (hu : SlD w u A) (hA : Dig A) (hlA : A.length ≤ 1000000) (s : Nat) (hs : s < 32) :
    Calls Tryd.prog 50 #[.agg #[u], .int .i64 (s : Int)] w fun e w' => ∃ g O, e = .returned (.slice (some ⟨g, 0, none⟩) (A.length + 1) (A.length + 1)) ∧ RowM w' g O ∧ O.length = A.length + 1 ∧ Dig O ∧ val O = val A * 2 ^ s ∧ w.heap.size ≤ g ∧ Below w.heap.size w w' := by
  obtain ⟨a, ca, rfl, _, _⟩ := id hu
  obtain ⟨la, hla⟩ : ∃ n, A.length = n := ⟨_, rfl⟩
  rw [hla] at hlA hu ⊢
  have huH := Lib.hid hu
  have hAH := Lib.hid hA
  have hlaH := Lib.hid hla
  have hX := Boxed.new w 26 (.slice a la ca)
  have hB0 : Below w.heap.size w (w.alloc (.cells #[.slice a la ca] 26)) := (Below.refl _ w).alloc (Nat.le_refl _) _
  obtain ⟨W0, hW0⟩ : ∃ W, w.alloc (.cells #[.slice a la ca] 26) = W := ⟨_, rfl⟩
  rw [hW0] at hX hB0
  have hW0s : W0.heap.size = w.heap.size + 1 := by rw [← hW0]; simp
  have hmk := run_mk W0 (la + 1) (la + 1) (Nat.le_refl _) (by omega)
  rw [hW0s] at hmk
  rw [show (((la + 1 : Nat)) : Int) = (la : Int) + 1 from rfl] at hmk
  have y0 := hX.cell
  have hwl := wr (x := (la : Int) + 1) (by omega) (by omega)
  have hW0H := Lib.hid hW0
  have hW0sH := Lib.hid hW0s
  have hXH := Lib.hid hX
  have hB0H := Lib.hid hB0
  clear hW0 hu hA hla hW0s hX hB0
  go_enter Tryd.func50, Tryd.ntmps50
  go_upto_region 1 with (fail)
  rw [hW0H.out]
  go_upto_region 2 with (fail)
  have hM1 := RowM.made W0 (la + 1)
  rw [hW0sH.out] at hM1
  have hB1 : Below w.heap.size w (W0.alloc (.cells (encD (List.replicate (la + 1) 0)) 60)) := hB0H.out.alloc hB0H.out.size _
  have hX1 : Boxed (W0.alloc (.cells (encD (List.replicate (la + 1) 0)) 60)) w.heap.size 26 (.slice a la ca) := (Below.heap_alloc _ _ _ (by rw [hW0sH.out]; omega)).trans hXH.out
  obtain ⟨W1, hW1⟩ : ∃ W, W0.alloc (.cells (encD (List.replicate (la + 1) 0)) 60) = W := ⟨_, rfl⟩
  rw [hW1] at hM1 hB1 hX1 ⊢
  obtain ⟨g, hg⟩ : ∃ g, w.heap.size + 1 = g := ⟨_, rfl⟩
  rw [hg] at hM1 ⊢
  have hI1 : Hid (LeI w W1 (.slice a la ca) g la (fun j => gd A j * 2 ^ s) 0 (List.replicate (la + 1) 0)) := Lib.hid ⟨hX1, hB1, hM1, List.length_replicate, dig_zeros _, fun j hj => absurd hj (Nat.not_lt_zero _), gd_zeros _ _, fun j _ => gd_zeros _ _⟩
  have hgH := Lib.hid hg
  have z0 := hX1.cell
  clear hW1 hM1 hB1 hX1 hg hmk y0 hW0sH hW0H hXH hB0H
  go_wp2_with fail
  clear z0
  go_loopw [16] (fun vk wr => ∃ (k : Nat) (O : List Nat), vk = .int .i64 k ∧ k ≤ la ∧ Hid (LeI w wr (.slice a la ca) g la (fun j => gd A j * 2 ^ s) k O)) (fun vk _ => la - (intOf vk).toNat)
  case atStart => exact ⟨0, _, rfl, Nat.zero_le _, hI1⟩
  case round =>
    obtain ⟨k, O, rfl, hk, hI⟩ := hrel
    clear hI1
    by_cases hlt : (k : Int) < la
    · have hkl : k < la := by omega
      obtain ⟨ba, oa, rfl, cA⟩ := huH.out.at hI.out.bel (j := k) (by rw [hlaH.out]; exact hkl)
      have cO := hI.out.row.cell k (by rw [hI.out.len]; omega)
      rw [hI.out.at_] at cO
      have hk1 : (k : Int) < (la : Int) + 1 := by omega
      have hk2 : (k : Int) + 1 < (la : Int) + 1 := by omega
      have hkw := Nu.wr (x := (k : Int) + 1) (by omega) (by omega)
      have hk0 : (0 : Int) ≤ (k : Int) + 1 := by omega
      have hkn : ((k : Int) + 1).toNat = k + 1 := by omega
      obtain ⟨q1, q2, q3⟩ := shl_cr (f := gd A) hAH.out (s := s) (by omega) k
      have hdB := hAH.out k
      obtain ⟨d, hd⟩ : ∃ z, gd A k = z := ⟨_, rfl⟩
      rw [hd] at cA q2 q3 hdB
      obtain ⟨cc, hcc⟩ : ∃ z, cr (fun j => gd A j * 2 ^ s) k = z := ⟨_, rfl⟩
      rw [hcc] at cO q1 q3
      have hs2 : (2 : Nat) ^ s ≤ 2 ^ 31 := Nat.pow_le_pow_right (by decide) (by omega)
      have hpB : d * 2 ^ s ≤ 4294967295 * 2 ^ 31 := Nat.mul_le_mul (by simp only [Bs] at hdB; omega) hs2
      have hccB : cc < Bs := by simp only [Bs]; omega
      obtain ⟨p, hp⟩ : ∃ z, d * 2 ^ s = z := ⟨_, rfl⟩
      have hpi : (d : Int) * 2 ^ s = (p : Int) := by rw [← hp, Int.natCast_mul, Int.natCast_pow]; rfl
      rw [hp] at hpB q2 q3
      have hp32 := conv32 p
      have hyB : p % Bs < Bs := Nat.mod_lt _ (by decide)
      have hor := bits_or32 hccB hyB
      rw [Nat.or_comm, ← q3] at hor
      have hp64 := Nu.wr64 (x := (p : Int)) (by omega) (by omega)
      have hhB : p / Bs < Bs := by
        apply (Nat.div_lt_iff_lt_mul (by decide)).2
        simp only [Bs]; omega
      have hhi : (p : Int) / 4294967296 % 4294967296 = ((p / Bs : Nat) : Int) := by simp only [Bs] at hhB ⊢; omega
      rw [← q2] at hhi hhB
      obtain ⟨y, hy⟩ : ∃ z, p % Bs = z := ⟨_, rfl⟩
      rw [hy] at hp32 hor
      obtain ⟨o, ho⟩ : ∃ z, ot (fun j => gd A j * 2 ^ s) k = z := ⟨_, rfl⟩
      rw [ho] at hor
      obtain ⟨h2, hh2⟩ : ∃ z, cr (fun j => gd A j * 2 ^ s) (k + 1) = z := ⟨_, rfl⟩
      rw [hh2] at hhi hhB
      have hoH := Lib.hid ho
      have hhH := Lib.hid hh2
      have hhBH := Lib.hid hhB
      have hdw := Nu.wr64 (x := (d : Int)) (by omega) (by simp only [Bs] at hdB; omega)
      clear q1 q2 q3 hd hcc hp hy ho hh2 hs2 hpB hccB hyB hdB hhB
      go_upto_region 5 with (fail)
      obtain ⟨wd, hwd⟩ : ∃ d, wr.drew = d := ⟨_, rfl⟩
      have cO' : wr.drew.cell? ⟨g, k, none⟩ = _ := cO
      have hI2 : Hid (LeI w wd (.slice (some ⟨ba, oa, none⟩) la ca) g la (fun j => gd A j * 2 ^ s) k O) := Lib.hid (by rw [← hwd]; exact ⟨hI.out.bx, hI.out.bel.drew, hI.out.row.drew, hI.out.len, hI.out.dig, hI.out.lo, hI.out.at_, hI.out.hi⟩)
      rw [hwd] at cO'
      have fO := hI2.out.row.frozen k
      have fO2 := hI2.out.row.frozen (k + 1)
      have cO2 := hI2.out.row.cell (k + 1) (by rw [hI2.out.len]; omega)
      clear cO hI cA
      refine Rt.wp_region_text [0, 0, 0, 1, 0, 0, 0, 0, 0, 2] (by kernel_rfl) (by kernel_rfl) ?_
      rw [hwd]
      clear hwd
      apply txt_move rfl rfl; (· (simp only [Act.put, Act.eval, List.setIfInBounds_toArray, List.set_cons_zero, List.set_cons_succ, Array.getD_eq_getD_getElem?, List.getElem?_toArray, List.getElem?_cons_zero, List.getElem?_cons_succ, Option.getD_some, List.getElem_toArray, List.getElem_cons_succ, List.getElem_cons_zero]; with_reducible rfl))
      apply txt_move rfl rfl; (· (simp only [Act.put, Act.eval, List.setIfInBounds_toArray, List.set_cons_zero, List.set_cons_succ, Array.getD_eq_getD_getElem?, List.getElem?_toArray, List.getElem?_cons_zero, List.getElem?_cons_succ, Option.getD_some, List.getElem_toArray, List.getElem_cons_succ, List.getElem_cons_zero]; with_reducible rfl))
      apply txt_pure rfl rfl rfl; (· (intro w; go_simp; with_reducible rfl)); (· (simp only [Act.put, Act.eval, List.setIfInBounds_toArray, List.set_cons_zero, List.set_cons_succ, Array.getD_eq_getD_getElem?, List.getElem?_toArray, List.getElem?_cons_zero, List.getElem?_cons_succ, Option.getD_some, List.getElem_toArray, List.getElem_cons_succ, List.getElem_cons_zero]; with_reducible rfl))
      apply txt_read rfl rfl rfl; (· (go_simp; with_reducible rfl)); (· (simp only [Act.put, Act.eval, List.setIfInBounds_toArray, List.set_cons_zero, List.set_cons_succ, Array.getD_eq_getD_getElem?, List.getElem?_toArray, List.getElem?_cons_zero, List.getElem?_cons_succ, Option.getD_some, List.getElem_toArray, List.getElem_cons_succ, List.getElem_cons_zero]; with_reducible rfl))
      apply txt_move rfl rfl; (· (simp only [Act.put, Act.eval, List.setIfInBounds_toArray, List.set_cons_zero, List.set_cons_succ, Array.getD_eq_getD_getElem?, List.getElem?_toArray, List.getElem?_cons_zero, List.getElem?_cons_succ, Option.getD_some, List.getElem_toArray, List.getElem_cons_succ, List.getElem_cons_zero]; with_reducible rfl))
      apply txt_move rfl rfl; (· (simp only [Act.put, Act.eval, List.setIfInBounds_toArray, List.set_cons_zero, List.set_cons_succ, Array.getD_eq_getD_getElem?, List.getElem?_toArray, List.getElem?_cons_zero, List.getElem?_cons_succ, Option.getD_some, List.getElem_toArray, List.getElem_cons_succ, List.getElem_cons_zero]; with_reducible rfl))
      apply txt_pure rfl rfl rfl; (· (intro w; go_simp; with_reducible rfl)); (· (simp only [Act.put, Act.eval, List.setIfInBounds_toArray, List.set_cons_zero, List.set_cons_succ, Array.getD_eq_getD_getElem?, List.getElem?_toArray, List.getElem?_cons_zero, List.getElem?_cons_succ, Option.getD_some, List.getElem_toArray, List.getElem_cons_succ, List.getElem_cons_zero]; with_reducible rfl))
      apply txt_pure rfl rfl rfl; (· (intro w; go_simp; with_reducible rfl)); (· (simp only [Act.put, Act.eval, List.setIfInBounds_toArray, List.set_cons_zero, List.set_cons_succ, Array.getD_eq_getD_getElem?, List.getElem?_toArray, List.getElem?_cons_zero, List.getElem?_cons_succ, Option.getD_some, List.getElem_toArray, List.getElem_cons_succ, List.getElem_cons_zero]; with_reducible rfl))
      apply txt_pure rfl rfl rfl; (· (intro w; go_simp; with_reducible rfl)); (· (simp only [Act.put, Act.eval, List.setIfInBounds_toArray, List.set_cons_zero, List.set_cons_succ, Array.getD_eq_getD_getElem?, List.getElem?_toArray, List.getElem?_cons_zero, List.getElem?_cons_succ, Option.getD_some, List.getElem_toArray, List.getElem_cons_succ, List.getElem_cons_zero]; with_reducible rfl))
      apply txt_do rfl rfl rfl; (· (go_simp; with_reducible rfl)); (· (simp only [Act.put, Act.eval, List.setIfInBounds_toArray, List.set_cons_zero, List.set_cons_succ, Array.getD_eq_getD_getElem?, List.getElem?_toArray, List.getElem?_cons_zero, List.getElem?_cons_succ, Option.getD_some, List.getElem_toArray, List.getElem_cons_succ, List.getElem_cons_zero]; with_reducible rfl))
      with_reducible refine txt_nil ?_
      have hI3 : Hid (LeI w ((wd.setCell ⟨g, k, none⟩ (.int .u32 (o : Int))).setCell ⟨g, k + 1, none⟩ (.int .u32 (h2 : Int))) (.slice (some ⟨ba, oa, none⟩) la ca) g la (fun j => gd A j * 2 ^ s) (k + 1) ((O.set k o).set (k + 1) h2)) := Lib.hid (by
        have hgw : w.heap.size < g := by have := hgH.out; omega
        have hl1 : k < O.length := by rw [hI2.out.len]; omega
        have hl2 : k + 1 < (O.set k o).length := by rw [List.length_set, hI2.out.len]; omega
        refine ⟨(Below.heap_setCell _ _ _ _ (Nat.ne_of_lt hgw)).trans ((Below.heap_setCell _ _ _ _ (Nat.ne_of_lt hgw)).trans hI2.out.bx), (hI2.out.bel.setCell (p := ⟨g, k, none⟩) (Nat.le_of_lt hgw) _).setCell (p := ⟨g, k + 1, none⟩) (Nat.le_of_lt hgw) _, (hI2.out.row.set k o).set (k + 1) h2, by rw [List.length_set, List.length_set]; exact hI2.out.len, dig_set (dig_set hI2.out.dig (by rw [← hoH.out]; exact ot_lt _ _)) hhBH.out, fun j hj => ?_, ?_, fun j hj => ?_⟩
        · rw [gd_set hl2, if_neg (by omega), gd_set hl1]
          by_cases h1 : j = k
          · rw [if_pos h1, ← hoH.out, h1]
          · rw [if_neg h1]; exact hI2.out.lo j (by omega)
        · rw [gd_set hl2, if_pos rfl]; exact hhH.out.symm
        · rw [gd_set hl2, if_neg (by omega), gd_set hl1, if_neg (by omega)]; exact hI2.out.hi j (by omega))
      go_wp2_with fail
      go_roundw
      case rel => exact ⟨k + 1, _, by first | rfl | go_num, by omega, hI3⟩
      case measure => first | (simp [intOf]; done) | (simp [intOf]; omega)
    · have hkl : k = la := by omega
      subst hkl
      have hval : val O = val A * 2 ^ s := by
        unfold val
        rw [hI.out.len, hlaH.out, dsum_succ, hI.out.at_, dsum_congr hI.out.lo, cr_sum, Nat.mul_comm, ← dsum_mul]
        exact dsum_congr fun j _ => Nat.mul_comm _ _
      have hvH := Lib.hid hval
      clear hval
      go_wp2_with fail
      go_ret
      exact ⟨g, rfl, O, hI.out.row, hI.out.len, hI.out.dig, hvH.out, by have := hgH.out; omega, hI.out.bel⟩
end Go.Proofs.YtffehdfddkgggaaDoor.Nu

/- modulus. -/
namespace Go.Proofs.YtffehdfddkgggaaDoor.Nu
open Go.RowKit Rt
set_option linter.unusedSimpArgs false
set_option linter.unusedVariables false
def modE (n : Nat) : Int := if n = 0 then 1 else if 2048 < blen n then 3 else 0
set_option maxHeartbeats 1000000 in
set_option maxRecDepth 100000 in
theorem Modulus_N {w : World} {v : Value} {n : Nat} (h : NumAt w v n) (hb : blen n ≤ 1000000) : Calls Tryd.prog 44 #[.agg #[v]] w fun e w' => e = .returned (.int .i64 (modE n)) ∧ Below w.heap.size w w' := by
  obtain ⟨L, hN, hL, hS⟩ := id h
  obtain ⟨a, c, rfl, hc, _⟩ := id hS
  obtain ⟨m, hm⟩ : ∃ m, L.length = m := ⟨_, rfl⟩
  have hz : m = 0 ↔ n = 0 := by
    rw [← hL, norm_zero hN, ← hm]; exact List.length_eq_zero_iff
  rw [hm] at h ⊢
  have hB0 : Below w.heap.size w (w.alloc (.cells #[.slice a m c] 26)) := (Below.refl _ w).alloc (Nat.le_refl _) _
  have hX := Boxed.new w 26 (.slice a m c)
  have y0 := hX.cell
  have hBits := Lib.hid ((h.below hB0).bits hb)
  have hBH := Lib.hid hB0
  unfold modE
  clear hN hL hS hc hm hX hB0 h
  by_cases h0 : n = 0
  · rw [if_pos h0]
    have hm0 : m = 0 := hz.2 h0
    subst hm0
    clear hz h0 hBits hb
    go_enter Tryd.func44, Tryd.ntmps44
    go_wp2
    go_ret
    exact ⟨rfl, hBH.out⟩
  · rw [if_neg h0]
    have hm0 : ¬ (m : Int) = 0 := by intro e; exact h0 (hz.1 (by omega))
    have hmb : ((m : Int) == 0) = false := beq_eq_false_iff_ne.2 hm0
    obtain ⟨k, hk⟩ : ∃ k, blen n = k := ⟨_, rfl⟩
    rw [hk] at hBits hb ⊢
    clear hz h0 hk
    by_cases hgt : 2048 < k
    · have hgi : (2048 : Int) < k := by omega
      rw [if_pos hgt]
      go_enter Tryd.func44, Tryd.ntmps44
      go_wp2_with (go_at_call 20; refine hBits.out.mono ?_; rintro e w2 ⟨rfl, hb2⟩)
      go_ret
      exact ⟨rfl, hBH.out.trans (hb2.mono hBH.out.size)⟩
    · have hgi : ¬ (2048 : Int) < k := by omega
      rw [if_neg hgt]
      go_enter Tryd.func44, Tryd.ntmps44
      go_wp2_with (go_at_call 20; refine hBits.out.mono ?_; rintro e w2 ⟨rfl, hb2⟩)
      go_ret
      exact ⟨rfl, hBH.out.trans (hb2.mono hBH.out.size)⟩
end Go.Proofs.YtffehdfddkgggaaDoor.Nu
