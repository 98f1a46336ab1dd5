/- Choose. -/
import Derived.Test.YticijejnemnmlaaInK
namespace Go.Proofs.Yticijejnemnmlaa.If
open Go.RowKit Rt
set_option linter.unusedSimpArgs false
set_option linter.unusedVariables false
/-- A block of three cells. -/
def Box3 (w : World) (b : Nat) (x y z : Value) : Prop := w.heap[b]? = some (.cells #[x, y, z] 31 (0, 0))
theorem Box3.new (w : World) (x y z : Value) : Box3 (w.alloc (.cells #[x, y, z] 31)) w.heap.size x y z := World.alloc_heap_new w _
theorem Box3.lt {w : World} {b : Nat} {x y z : Value} (h : Box3 w b x y z) : b < w.heap.size := (Array.getElem?_eq_some_iff.1 h).1
theorem Box3.below {w w' : World} {b : Nat} {x y z : Value} (h : Box3 w b x y z) (hb : Below w.heap.size w w') : Box3 w' b x y z := (hb.block b h.lt).trans h
theorem Box3.cells {w : World} {b : Nat} {x y z : Value} (h : Box3 w b x y z) : w.cell? ⟨b, 0, none⟩ = some x ∧ w.cell? ⟨b, 1, none⟩ = some y ∧ w.cell? ⟨b, 2, none⟩ = some z := by
  unfold Box3 at h
  refine ⟨?_, ?_, ?_⟩ <;> (unfold World.cell?; simp only [h]; rfl)
theorem Box3.fr {w : World} {b : Nat} {x y z : Value} (h : Box3 w b x y z) (j : Nat) : w.frozen? ⟨b, j, none⟩ = false := by
  unfold Box3 at h; unfold World.frozen?; simp only [h]; rfl
theorem Box3.put {w : World} {b : Nat} {x y z : Value} (h : Box3 w b x y z) (x' y' z' : Value) : Box3 (((w.setCell ⟨b, 0, none⟩ x').setCell ⟨b, 1, none⟩ y').setCell ⟨b, 2, none⟩ z') b x' y' z' :=
  Nm.blk_put (Nm.blk_put (Nm.blk_put h 0 x') 1 y') 2 z'
theorem below_put3 {w w1 : World} {b B : Nat} (x y z : Value) (h : Below B w1 w) (hb : B ≤ b) : Below B w1 (((w.setCell ⟨b, 0, none⟩ x).setCell ⟨b, 1, none⟩ y).setCell ⟨b, 2, none⟩ z) :=
  ((h.setCell (p := ⟨b, 0, none⟩) hb _).setCell (p := ⟨b, 1, none⟩) hb _).setCell (p := ⟨b, 2, none⟩) hb _
def chooseA (st : Ad → Option Sp) (z : ByteArray) (now : Int) (l : List Ad) (draw : Int) : Ad × Bool :=
  if (bandL st z now l).length = 0 ∨ draw < 0 then (⟨false, 0, 0⟩, false) else (ga (bandL st z now l) (draw.toNat % (bandL st z now l).length), true)
set_option maxHeartbeats 4000000 in
set_option maxRecDepth 100000 in
theorem Choose_any {w : World} {U : Nat → Prop} {xb most n0 : Nat} {st : Ad → Option Sp} (h : InfS w U xb most st n0) {v : Value} {l : List Ad} (hv : ArgA w v l) (hok : ∀ a ∈ l, a.ok) (hl : l.length < 5864062014720) (z : ByteArray) (hs : z.size ≤ 140737488351232) (draw now : Int) (hdr : wf draw) :
    Calls Try.prog 12 #[.pointer (some ⟨xb, 0, none⟩), v, .string z, .int .i64 draw, .int .i64 now] w fun e w' => e = .returned (.tuple #[(chooseA st z now l draw).1.val, .bool (chooseA st z now l draw).2]) ∧ Below w.heap.size w w' := by
  have hB0 : Below w.heap.size w (w.alloc (.cells #[.bool false, .int .u64 0, .int .u64 0] 31)) := (Below.refl _ w).alloc (Nat.le_refl _) _
  have hB := Lib.hid (Band_any (h.below hB0) (hv.below hB0) hok hl z hs now)
  obtain ⟨a0, c0, rfl, hv2⟩ := hv
  have hle := Nat.lt_of_le_of_lt (bandL_len st z now l) hl
  unfold chooseA
  obtain ⟨L, hL⟩ : ∃ L, bandL st z now l = L := ⟨_, rfl⟩
  rw [hL] at hB hle ⊢
  obtain ⟨n, hn⟩ : ∃ n, L.length = n := ⟨_, rfl⟩
  rw [hn] at hB hle ⊢
  have hnH := Lib.hid hn
  have hB0H := Lib.hid hB0
  have hz := Lib.hid (Box3.new w (.bool false) (.int .u64 0) (.int .u64 0))
  have hsz : (w.alloc (.cells #[.bool false, .int .u64 0, .int .u64 0] 31)).heap.size = w.heap.size + 1 := by simp
  clear h hok hl hs hL hn hB0 hv2
  by_cases h0 : n = 0 ∨ draw < 0
  · rw [if_pos h0]
    simp only [Ad.val]
    obtain ⟨hp, hpe⟩ : ∃ b : Bool, decide ((n : Int) = 0) = b := ⟨_, rfl⟩
    have hd : (n : Int) = 0 ∨ (¬ (n : Int) = 0 ∧ draw < 0) := by omega
    clear hpe
    rcases hd with hd | ⟨hd, hd2⟩
    · go_enter Try.func12, Try.ntmps12
      go_wp2_with (go_at_call 13; refine hB.out.mono ?_; rintro e w1 ⟨v1, rfl, hrow, hb1⟩; obtain ⟨a1, c1, rfl, hcell⟩ := ArgA.of_row hrow hnH.out.symm; rw [hnH.out] at hcell ⊢; have hz1 := hz.out.below hb1; obtain ⟨q0, q1, q2⟩ := hz1.cells; have f0 := hz1.fr 0; have f1 := hz1.fr 1; have f2 := hz1.fr 2; have hz1H := Lib.hid hz1; have hb1H := Lib.hid hb1; clear hz1 hrow hb1; clear hcell)
      obtain ⟨r0, r1, r2⟩ := (hz1H.out.put (.bool false) (.int .u64 0) (.int .u64 0)).cells
      have hE := below_put3 (.bool false) (.int .u64 0) (.int .u64 0) (hB0H.out.trans (hb1H.out.mono hB0H.out.size)) (Nat.le_refl _)
      obtain ⟨W3, hW3⟩ : ∃ W, (((w1.setCell ⟨w.heap.size, 0, none⟩ (.bool false)).setCell ⟨w.heap.size, 1, none⟩ (.int .u64 0)).setCell ⟨w.heap.size, 2, none⟩ (.int .u64 0)) = W := ⟨_, rfl⟩
      rw [hW3] at hE r0 r1 r2 ⊢
      refine bodyPost_ret (v := .tuple #[.agg #[.bool false , .int .u64 0 , .int .u64 0], .bool false]) (by simp [results, Try.results12, go_sem, r0, r1, r2]) rfl ⟨rfl, hE⟩
    · go_enter Try.func12, Try.ntmps12
      go_wp2_with (go_at_call 13; refine hB.out.mono ?_; rintro e w1 ⟨v1, rfl, hrow, hb1⟩; obtain ⟨a1, c1, rfl, hcell⟩ := ArgA.of_row hrow hnH.out.symm; rw [hnH.out] at hcell ⊢; have hz1 := hz.out.below hb1; obtain ⟨q0, q1, q2⟩ := hz1.cells; have f0 := hz1.fr 0; have f1 := hz1.fr 1; have f2 := hz1.fr 2; have hz1H := Lib.hid hz1; have hb1H := Lib.hid hb1; clear hz1 hrow hb1; clear hcell)
      obtain ⟨r0, r1, r2⟩ := (hz1H.out.put (.bool false) (.int .u64 0) (.int .u64 0)).cells
      have hE := below_put3 (.bool false) (.int .u64 0) (.int .u64 0) (hB0H.out.trans (hb1H.out.mono hB0H.out.size)) (Nat.le_refl _)
      obtain ⟨W3, hW3⟩ : ∃ W, (((w1.setCell ⟨w.heap.size, 0, none⟩ (.bool false)).setCell ⟨w.heap.size, 1, none⟩ (.int .u64 0)).setCell ⟨w.heap.size, 2, none⟩ (.int .u64 0)) = W := ⟨_, rfl⟩
      rw [hW3] at hE r0 r1 r2 ⊢
      refine bodyPost_ret (v := .tuple #[.agg #[.bool false , .int .u64 0 , .int .u64 0], .bool false]) (by simp [results, Try.results12, go_sem, r0, r1, r2]) rfl ⟨rfl, hE⟩
  · rw [if_neg h0]
    simp only [Ad.val]
    obtain ⟨d, rfl⟩ := Int.eq_ofNat_of_zero_le (show 0 ≤ draw by omega)
    have hd : ¬ (n : Int) = 0 := by omega
    have hd2 : ¬ (d : Int) < 0 := by omega
    obtain ⟨q, hq⟩ : ∃ q, d % n = q := ⟨_, rfl⟩
    have hqn : q < n := by rw [← hq]; exact Nat.mod_lt _ (by omega)
    have hrem : Int.tmod (d : Int) (n : Int) = (q : Int) := by rw [← hq]; exact (Int.ofNat_tmod d n).symm
    have hdn : ((d : Int).toNat % n) = q := by rw [Int.toNat_natCast]; exact hq
    rw [hdn]
    have hq0 : ¬ (q : Int) < 0 := by omega
    have hqn2 : (q : Int) < (n : Int) := by omega
    have hn0 : ((n : Int) == 0) = false := beq_eq_false_iff_ne.2 (by omega)
    obtain ⟨x, hx⟩ : ∃ x, ga L q = x := ⟨_, rfl⟩
    rw [hx]
    have hg3 := adC_get L q (by rw [hnH.out]; exact hqn)
    rw [Nat.mul_comm 3 q, hx] at hg3
    have hg3H := Lib.hid hg3
    clear hg3 hq hx
    · go_enter Try.func12, Try.ntmps12
      go_wp2_with (go_at_call 13; refine hB.out.mono ?_; rintro e w1 ⟨v1, rfl, hrow, hb1⟩; obtain ⟨a1, c1, rfl, hcell⟩ := ArgA.of_row hrow hnH.out.symm; rw [hnH.out] at hcell ⊢; have hz1 := hz.out.below hb1; obtain ⟨q0, q1, q2⟩ := hz1.cells; have f0 := hz1.fr 0; have f1 := hz1.fr 1; have f2 := hz1.fr 2; have hz1H := Lib.hid hz1; have hb1H := Lib.hid hb1; clear hz1 hrow hb1; obtain ⟨b, off, rfl, hbl, hcl⟩ := hcell (by omega); have c0 := hcl _ _ hg3H.out.1; have c1 := hcl _ _ hg3H.out.2.1; have c2 := hcl _ _ hg3H.out.2.2; rw [← Nat.add_assoc] at c1 c2; clear hcl hcell)
      obtain ⟨r0, r1, r2⟩ := (hz1H.out.put (.bool x.v6) (.int .u64 x.hi) (.int .u64 x.lo)).cells
      have hE := below_put3 (.bool x.v6) (.int .u64 x.hi) (.int .u64 x.lo) (hB0H.out.trans (hb1H.out.mono hB0H.out.size)) (Nat.le_refl _)
      obtain ⟨W3, hW3⟩ : ∃ W, (((w1.setCell ⟨w.heap.size, 0, none⟩ (.bool x.v6)).setCell ⟨w.heap.size, 1, none⟩ (.int .u64 x.hi)).setCell ⟨w.heap.size, 2, none⟩ (.int .u64 x.lo)) = W := ⟨_, rfl⟩
      rw [hW3] at hE r0 r1 r2 ⊢
      refine bodyPost_ret (v := .tuple #[.agg #[.bool x.v6 , .int .u64 x.hi , .int .u64 x.lo], .bool true]) (by simp [results, Try.results12, go_sem, r0, r1, r2]) rfl ⟨rfl, hE⟩
end Go.Proofs.Yticijejnemnmlaa.If
