/- What is known of a server's time: within, counted, Sample, Miss, Timeout. -/
import Derived.Test.YticijejnemnmlaaInU
import Derived.Laws.Bits64b
namespace Go.Proofs.Yticijejnemnmlaa.If
open Go.RowKit Rt
set_option linter.unusedSimpArgs false
set_option linter.unusedVariables false

def wi (n m : Int) : Int := if n < 0 then 0 else if m < n then m else n
theorem wi_bd (n m : Int) (hm : 0 ≤ m) : 0 ≤ wi n m ∧ wi n m ≤ m := by unfold wi; split; omega; split <;> omega
theorem within_any (n m : Int) (w : World) (hm : 0 ≤ m) : Calls Try.prog 47 #[.int .i64 n, .int .i64 m] w fun e w' => e = .returned (.int .i64 (wi n m)) ∧ w' = w := by
  by_cases h1 : n < 0
  · have e1 : Hid (wi n m = 0) := Lib.hid (by unfold wi; rw [if_pos h1])
    have h2 : ¬ m < 0 := by omega
    go_enter Try.func47, Try.ntmps47
    go_wp2
    go_ret
    exact ⟨by rw [e1.out]; first | rfl | simp [h1, h2], rfl⟩
  · by_cases h2 : m < n
    · have e1 : Hid (wi n m = m) := Lib.hid (by unfold wi; rw [if_neg h1, if_pos h2])
      go_enter Try.func47, Try.ntmps47
      go_wp2
      go_ret
      exact ⟨by rw [e1.out]; first | rfl | simp [h1, h2], rfl⟩
    · have e1 : Hid (wi n m = n) := Lib.hid (by unfold wi; rw [if_neg h1, if_neg h2])
      go_enter Try.func47, Try.ntmps47
      go_wp2
      go_ret
      exact ⟨by rw [e1.out]; first | rfl | simp [h1, h2], rfl⟩
def agg3 (a b c : Int) : Value := .agg #[.int .i64 a, .int .i64 b, .int .i64 c]
set_option maxHeartbeats 1000000 in
theorem counted_any (a b c : Int) (w : World) : Calls Try.prog 46 #[agg3 a b c] w fun e w' => e = .returned (agg3 (wi a 1000000) (wi b 1000000) (wi c 10)) ∧ Below w.heap.size w w' := by
  unfold agg3
  go_enter Try.func46, Try.ntmps46
  go_upto_region 1 with (fail)
  refine Rt.wp_region_text [0, 1, 1, 0, 1, 1, 0, 1, 1, 0, 2] (by kernel_rfl) (by kernel_rfl) ?_
  apply txt_pure rfl rfl rfl; (· (intro w; go_simp; with_reducible rfl)); (· (simp only [Act.put, Act.eval, List.setIfInBounds_toArray, List.set_cons_zero, List.set_cons_succ, Array.getD_eq_getD_getElem?, List.getElem?_toArray, List.getElem?_cons_zero, List.getElem?_cons_succ, Option.getD_some]; with_reducible rfl))
  apply txt_read rfl rfl rfl; (· (go_simp; with_reducible rfl)); (· (simp only [Act.put, Act.eval, List.setIfInBounds_toArray, List.set_cons_zero, List.set_cons_succ, Array.getD_eq_getD_getElem?, List.getElem?_toArray, List.getElem?_cons_zero, List.getElem?_cons_succ, Option.getD_some]; with_reducible rfl))
  (apply txt_quiet rfl rfl rfl; (· (go_simp; exact ⟨rfl, rfl⟩)); (· (exact within_any a 1000000 _ (by decide))); (· (simp only [Act.put, Act.eval, List.setIfInBounds_toArray, List.set_cons_zero, List.set_cons_succ, Array.getD_eq_getD_getElem?, List.getElem?_toArray, List.getElem?_cons_zero, List.getElem?_cons_succ, Option.getD_some]; with_reducible rfl)))
  apply txt_pure rfl rfl rfl; (· (intro w; go_simp; with_reducible rfl)); (· (simp only [Act.put, Act.eval, List.setIfInBounds_toArray, List.set_cons_zero, List.set_cons_succ, Array.getD_eq_getD_getElem?, List.getElem?_toArray, List.getElem?_cons_zero, List.getElem?_cons_succ, Option.getD_some]; with_reducible rfl))
  apply txt_read rfl rfl rfl; (· (go_simp; with_reducible rfl)); (· (simp only [Act.put, Act.eval, List.setIfInBounds_toArray, List.set_cons_zero, List.set_cons_succ, Array.getD_eq_getD_getElem?, List.getElem?_toArray, List.getElem?_cons_zero, List.getElem?_cons_succ, Option.getD_some]; with_reducible rfl))
  (apply txt_quiet rfl rfl rfl; (· (go_simp; exact ⟨rfl, rfl⟩)); (· (exact within_any b 1000000 _ (by decide))); (· (simp only [Act.put, Act.eval, List.setIfInBounds_toArray, List.set_cons_zero, List.set_cons_succ, Array.getD_eq_getD_getElem?, List.getElem?_toArray, List.getElem?_cons_zero, List.getElem?_cons_succ, Option.getD_some]; with_reducible rfl)))
  apply txt_pure rfl rfl rfl; (· (intro w; go_simp; with_reducible rfl)); (· (simp only [Act.put, Act.eval, List.setIfInBounds_toArray, List.set_cons_zero, List.set_cons_succ, Array.getD_eq_getD_getElem?, List.getElem?_toArray, List.getElem?_cons_zero, List.getElem?_cons_succ, Option.getD_some]; with_reducible rfl))
  apply txt_read rfl rfl rfl; (· (go_simp; with_reducible rfl)); (· (simp only [Act.put, Act.eval, List.setIfInBounds_toArray, List.set_cons_zero, List.set_cons_succ, Array.getD_eq_getD_getElem?, List.getElem?_toArray, List.getElem?_cons_zero, List.getElem?_cons_succ, Option.getD_some]; with_reducible rfl))
  (apply txt_quiet rfl rfl rfl; (· (go_simp; exact ⟨rfl, rfl⟩)); (· (exact within_any c 10 _ (by decide))); (· (simp only [Act.put, Act.eval, List.setIfInBounds_toArray, List.set_cons_zero, List.set_cons_succ, Array.getD_eq_getD_getElem?, List.getElem?_toArray, List.getElem?_cons_zero, List.getElem?_cons_succ, Option.getD_some]; with_reducible rfl)))
  apply txt_pure rfl rfl rfl; (· (intro w; go_simp; with_reducible rfl)); (· (simp only [Act.put, Act.eval, List.setIfInBounds_toArray, List.set_cons_zero, List.set_cons_succ, Array.getD_eq_getD_getElem?, List.getElem?_toArray, List.getElem?_cons_zero, List.getElem?_cons_succ, Option.getD_some]; with_reducible rfl))
  apply txt_do rfl rfl rfl; (· (go_simp; with_reducible rfl)); (· (simp only [Act.put, Act.eval, List.setIfInBounds_toArray, List.set_cons_zero, List.set_cons_succ, Array.getD_eq_getD_getElem?, List.getElem?_toArray, List.getElem?_cons_zero, List.getElem?_cons_succ, Option.getD_some]; with_reducible rfl))
  with_reducible refine txt_nil ?_
  go_wp2
  refine bodyPost_ret (v := .agg #[.int .i64 (wi a 1000000), .int .i64 (wi b 1000000), .int .i64 (wi c 10)]) (by simp [results, Try.results46, go_sem]) rfl ⟨rfl, ?_⟩
  exact (((Below.refl _ _).alloc (Nat.le_refl _) _).alloc (by simp) _).drew
theorem two_blocks {w w3 : World} {A B : Array Value} (hb : Below ((w.alloc (.cells A 56)).alloc (.cells B 56)).heap.size ((w.alloc (.cells A 56)).alloc (.cells B 56)) w3) :
    w3.heap[w.heap.size]? = some (.cells A 56 (0, 0)) ∧ w3.heap[w.heap.size + 1]? = some (.cells B 56 (0, 0)) ∧ Below w.heap.size w w3 := by
  refine ⟨?_, ?_, (((Below.refl _ _).alloc (Nat.le_refl _) _).alloc (by simp) _).trans (hb.mono (by simp; omega))⟩
  · rw [hb.block _ (by simp; omega)]
    show ((w.heap.push _).push _)[w.heap.size]? = _
    rw [Array.getElem?_push_lt (by simp)]
    simp
  · rw [hb.block _ (by simp)]
    show ((w.heap.push _).push _)[w.heap.size + 1]? = _
    rw [show w.heap.size + 1 = (w.heap.push (Obj.cells A 56)).size by simp]
    exact Array.getElem?_push_size
theorem cells3 {W : World} {g : Nat} {x y z : Value} (h : W.heap[g]? = some (.cells #[x, y, z] 56 (0, 0))) : W.cell? ⟨g, 0, none⟩ = some x ∧ W.cell? ⟨g, 1, none⟩ = some y ∧ W.cell? ⟨g, 2, none⟩ = some z ∧ W.frozen? ⟨g, 0, none⟩ = false ∧ W.frozen? ⟨g, 1, none⟩ = false ∧ W.frozen? ⟨g, 2, none⟩ = false := by
  simp [World.cell?, World.frozen?, h]
/-- Two blocks of the call's own. -/
structure Two (w W : World) (g0 g1 : Nat) (A B : Array Value) : Prop where
  b0 : W.heap[g0]? = some (.cells A 56 (0, 0))
  b1 : W.heap[g1]? = some (.cells B 56 (0, 0))
  ne : g0 ≠ g1
  ge : w.heap.size ≤ g0 ∧ w.heap.size ≤ g1
  below : Below w.heap.size w W
theorem Two.start {w w3 : World} {A B : Array Value} (hb : Below ((w.alloc (.cells A 56)).alloc (.cells B 56)).heap.size ((w.alloc (.cells A 56)).alloc (.cells B 56)) w3) : Two w w3 w.heap.size (w.heap.size + 1) A B :=
  ⟨(two_blocks hb).1, (two_blocks hb).2.1, by omega, by omega, (two_blocks hb).2.2⟩
theorem Two.later {w W W' : World} {g0 g1 : Nat} {A B : Array Value} (h : Two w W g0 g1 A B) (hb : Below W.heap.size W W') : Two w W' g0 g1 A B :=
  ⟨(hb.block _ (Array.getElem?_eq_some_iff.1 h.b0).1).trans h.b0, (hb.block _ (Array.getElem?_eq_some_iff.1 h.b1).1).trans h.b1, h.ne, h.ge, h.below.trans (hb.mono h.below.size)⟩
theorem blk_set {W : World} {g : Nat} {A : Array Value} (h : W.heap[g]? = some (.cells A 56 (0, 0))) (i : Nat) (v : Value) : (W.setCell ⟨g, i, none⟩ v).heap[g]? = some (.cells (A.setIfInBounds i v) 56 (0, 0)) := by
  obtain ⟨hl, hk⟩ := Array.getElem?_eq_some_iff.1 h
  show (W.heap.modify g _)[g]? = _
  rw [Array.getElem?_eq_getElem (by rw [Array.size_modify]; exact hl), Array.getElem_modify_self, hk]
  rfl
theorem Two.set0 {w W : World} {g0 g1 : Nat} {A B : Array Value} (h : Two w W g0 g1 A B) (i : Nat) (v : Value) : Two w (W.setCell ⟨g0, i, none⟩ v) g0 g1 (A.setIfInBounds i v) B :=
  ⟨blk_set h.b0 i v, (Below.heap_setCell _ _ _ _ (Ne.symm h.ne)).trans h.b1, h.ne, h.ge, h.below.setCell h.ge.1 _⟩
theorem Two.set1 {w W : World} {g0 g1 : Nat} {A B : Array Value} (h : Two w W g0 g1 A B) (i : Nat) (v : Value) : Two w (W.setCell ⟨g1, i, none⟩ v) g0 g1 A (B.setIfInBounds i v) :=
  ⟨(Below.heap_setCell _ _ _ _ h.ne).trans h.b0, blk_set h.b1 i v, h.ne, h.ge, h.below.setCell h.ge.2 _⟩
theorem or_zero : bits BinOp.or IntKind.i64 0 0 = 0 := by decide +kernel
theorem or_ne {a b : Int} (ha : 0 ≤ a) (ha2 : a ≤ 1000000) (hb : 0 ≤ b) (hb2 : b ≤ 1000000) (h : ¬ (a = 0 ∧ b = 0)) : bits BinOp.or IntKind.i64 a b ≠ 0 := by
  obtain ⟨a, rfl⟩ : ∃ n : Nat, a = n := ⟨a.toNat, by omega⟩
  obtain ⟨b, rfl⟩ : ∃ n : Nat, b = n := ⟨b.toNat, by omega⟩
  have hx : a ||| b < 2 ^ 20 := Nat.or_lt_two_pow (by omega) (by omega)
  have h1 : (BitVec.ofInt 64 (a : Int)).toNat = a := by
    rw [BitVec.ofInt_natCast, BitVec.toNat_ofNat]; exact Nat.mod_eq_of_lt (by omega)
  have h2 : (BitVec.ofInt 64 (b : Int)).toNat = b := by
    rw [BitVec.ofInt_natCast, BitVec.toNat_ofNat]; exact Nat.mod_eq_of_lt (by omega)
  show IntKind.i64.wrap ((BitVec.ofInt 64 (a : Int) ||| BitVec.ofInt 64 (b : Int)).toNat : Int) ≠ 0
  rw [BitVec.toNat_or, h1, h2, wr (by omega) (by omega)]
  have h3 : a ≤ a ||| b := Nat.left_le_or
  have h4 : b ≤ a ||| b := Nat.right_le_or
  omega
section
variable {P : Program} {ops : Array Oper} {fl : Nat → Nat} {Q : Act → World → Prop} {k : Nat} {rest : List Oper} {a a' : Act} {w : World}
theorem txt_doF {o : Oper} {w' : World} (F : World → Prop) (hk : ops[k]? = some o) (hf : fl k = 2) (hw : Region.wanted o (yielded ops a.tmps) = true) (hr : (execOp a.eval o).run P w = .ok .skip w') (hF : F w') (ha : a.put o.dst undef = a')
    (h : ∀ W, F W → wpTxt P ops fl Q (k + 1) rest a' W) : wpTxt P ops fl Q k (o :: rest) a w := txt_do hk hf hw hr ha (h w' hF)
theorem txt_callF {o : Oper} {f : FuncId} {args : Array Value} {w' : World} (hk : ops[k]? = some o) (hf : fl k = 2) (hw : Region.wanted o (yielded ops a.tmps) = true) (hr : (execOp a.eval o).run P w = .ok (.enter f args) w')
    (h : Calls P f args w' fun e w'' => ∃ v, e = .returned v ∧ wpTxt P ops fl Q (k + 1) rest (a.put o.dst v) w'') : wpTxt P ops fl Q k (o :: rest) a w := txt_call hk hf hw hr h
end
set_option maxHeartbeats 2000000 in
theorem Miss_any (a b c : Int) (w : World) : Calls Try.prog 27 #[agg3 a b c] w fun e w' => e = .returned (agg3 (wi a 1000000) (wi b 1000000) (if wi c 10 < 10 then wi c 10 + 1 else 10)) ∧ Below w.heap.size w w' := by
  have hA := wi_bd a 1000000 (by decide)
  have hB := wi_bd b 1000000 (by decide)
  have hC := wi_bd c 10 (by decide)
  obtain ⟨a', ha'⟩ : ∃ x, wi a 1000000 = x := ⟨_, rfl⟩
  obtain ⟨b', hb'⟩ : ∃ x, wi b 1000000 = x := ⟨_, rfl⟩
  obtain ⟨c', hc'⟩ : ∃ x, wi c 10 = x := ⟨_, rfl⟩
  have h := fun w => counted_any a b c w
  rw [ha', hb', hc'] at h ⊢
  rw [ha'] at hA
  rw [hb'] at hB
  rw [hc'] at hC
  unfold agg3 at h ⊢
  obtain ⟨hA1, hA2⟩ := hA
  obtain ⟨hB1, hB2⟩ := hB
  obtain ⟨hC1, hC2⟩ := hC
  have hH := Lib.hid h
  clear h ha' hb' hc'
  by_cases h10 : c' < 10
  · rw [if_pos h10]
    have hw1 := wr (show -9223372036854775808 ≤ c' + 1 by omega) (by omega)
    have h10' : ¬ 10 < c' + 1 := by omega
    go_enter Try.func27, Try.ntmps27
    go_upto_region 1 with (fail)
    refine Rt.wp_region_seq [1, 2, 2] ?_
    apply txt_read rfl rfl rfl; (· (go_simp; with_reducible rfl)); (· (simp only [Act.put, Act.eval, List.setIfInBounds_toArray, List.set_cons_zero, List.set_cons_succ, Array.getD_eq_getD_getElem?, List.getElem?_toArray, List.getElem?_cons_zero, List.getElem?_cons_succ, Option.getD_some]; with_reducible rfl))
    refine txt_call rfl rfl rfl (by go_simp; exact ⟨⟨rfl, rfl⟩, rfl⟩) ?_
    refine (hH.out _).mono ?_
    rintro e w3 ⟨rfl, hb3⟩
    refine ⟨_, rfl, ?_⟩
    simp only [Act.put, Act.eval, List.setIfInBounds_toArray, List.set_cons_zero, List.set_cons_succ, Array.getD_eq_getD_getElem?, List.getElem?_toArray, List.getElem?_cons_zero, List.getElem?_cons_succ, Option.getD_some]
    have hT := Two.start hb3
    have hg0 : Hid (w.heap.size = w.heap.size) := Lib.hid rfl
    obtain ⟨g0, hg0⟩ : ∃ g, w.heap.size = g := ⟨_, rfl⟩
    obtain ⟨g1, hg1⟩ : ∃ g, w.heap.size + 1 = g := ⟨_, rfl⟩
    rw [hg1, hg0] at hT
    rw [hg1, hg0]
    have hg0H := Lib.hid hg0
    clear hg0 hg1 hb3
    obtain ⟨x0, x1, x2, x3, x4, x5⟩ := cells3 hT.b0
    obtain ⟨y0, y1, y2, y3, y4, y5⟩ := cells3 hT.b1
    apply txt_doF (fun W => Two w W g0 g1 #[.int .i64 a', .int .i64 b', .int .i64 c'] #[.int .i64 0, .int .i64 0, .int .i64 0]) rfl rfl rfl
    · (go_simp; with_reducible rfl)
    · exact ((hT.set0 0 _).set0 1 _).set0 2 _
    · (simp only [Act.put, Act.eval, List.setIfInBounds_toArray, List.set_cons_zero, List.set_cons_succ, Array.getD_eq_getD_getElem?, List.getElem?_toArray, List.getElem?_cons_zero, List.getElem?_cons_succ, Option.getD_some]; with_reducible rfl)
    clear x0 x1 x2 x3 x4 x5 y0 y1 y2 y3 y4 y5 hT
    intro W4 hT
    obtain ⟨x0, x1, x2, x3, x4, x5⟩ := cells3 hT.b0
    obtain ⟨y0, y1, y2, y3, y4, y5⟩ := cells3 hT.b1
    with_reducible refine txt_nil ?_
    go_upto_region 2 with (fail)
    refine Rt.wp_region_seq [0, 1, 0, 1, 0, 2] ?_
    apply txt_pure rfl rfl rfl; (· (intro w; go_simp; with_reducible rfl)); (· (simp only [Act.put, Act.eval, List.setIfInBounds_toArray, List.set_cons_zero, List.set_cons_succ, Array.getD_eq_getD_getElem?, List.getElem?_toArray, List.getElem?_cons_zero, List.getElem?_cons_succ, Option.getD_some]; with_reducible rfl))
    apply txt_read rfl rfl rfl; (· (go_simp; with_reducible rfl)); (· (simp only [Act.put, Act.eval, List.setIfInBounds_toArray, List.set_cons_zero, List.set_cons_succ, Array.getD_eq_getD_getElem?, List.getElem?_toArray, List.getElem?_cons_zero, List.getElem?_cons_succ, Option.getD_some]; with_reducible rfl))
    apply txt_pure rfl rfl rfl; (· (intro w; go_simp; with_reducible rfl)); (· (simp only [Act.put, Act.eval, List.setIfInBounds_toArray, List.set_cons_zero, List.set_cons_succ, Array.getD_eq_getD_getElem?, List.getElem?_toArray, List.getElem?_cons_zero, List.getElem?_cons_succ, Option.getD_some]; with_reducible rfl))
    apply txt_read rfl rfl rfl; (· (go_simp; with_reducible rfl)); (· (simp only [Act.put, Act.eval, List.setIfInBounds_toArray, List.set_cons_zero, List.set_cons_succ, Array.getD_eq_getD_getElem?, List.getElem?_toArray, List.getElem?_cons_zero, List.getElem?_cons_succ, Option.getD_some]; with_reducible rfl))
    apply txt_pure rfl rfl rfl; (· (intro w; go_simp; with_reducible rfl)); (· (simp only [Act.put, Act.eval, List.setIfInBounds_toArray, List.set_cons_zero, List.set_cons_succ, Array.getD_eq_getD_getElem?, List.getElem?_toArray, List.getElem?_cons_zero, List.getElem?_cons_succ, Option.getD_some]; with_reducible rfl))
    apply txt_doF (fun W => Two w W g0 g1 #[.int .i64 a', .int .i64 b', .int .i64 (c' + 1)] #[.int .i64 0, .int .i64 0, .int .i64 0]) rfl rfl rfl
    · (go_simp; with_reducible rfl)
    · exact hT.set0 2 _
    · (simp only [Act.put, Act.eval, List.setIfInBounds_toArray, List.set_cons_zero, List.set_cons_succ, Array.getD_eq_getD_getElem?, List.getElem?_toArray, List.getElem?_cons_zero, List.getElem?_cons_succ, Option.getD_some]; with_reducible rfl)
    clear x0 x1 x2 x3 x4 x5 y0 y1 y2 y3 y4 y5 hT
    intro W4 hT
    obtain ⟨x0, x1, x2, x3, x4, x5⟩ := cells3 hT.b0
    obtain ⟨y0, y1, y2, y3, y4, y5⟩ := cells3 hT.b1
    with_reducible refine txt_nil ?_
    go_upto_region 3 with (fail)
    refine Rt.wp_region_seq [1, 2] ?_
    apply txt_read rfl rfl rfl; (· (go_simp; with_reducible rfl)); (· (simp only [Act.put, Act.eval, List.setIfInBounds_toArray, List.set_cons_zero, List.set_cons_succ, Array.getD_eq_getD_getElem?, List.getElem?_toArray, List.getElem?_cons_zero, List.getElem?_cons_succ, Option.getD_some]; with_reducible rfl))
    apply txt_doF (fun W => Two w W g0 g1 #[.int .i64 a', .int .i64 b', .int .i64 (c' + 1)] #[.int .i64 a', .int .i64 b', .int .i64 (c' + 1)]) rfl rfl rfl
    · (go_simp; with_reducible rfl)
    · exact ((hT.set1 0 _).set1 1 _).set1 2 _
    · (simp only [Act.put, Act.eval, List.setIfInBounds_toArray, List.set_cons_zero, List.set_cons_succ, Array.getD_eq_getD_getElem?, List.getElem?_toArray, List.getElem?_cons_zero, List.getElem?_cons_succ, Option.getD_some]; with_reducible rfl)
    clear x0 x1 x2 x3 x4 x5 y0 y1 y2 y3 y4 y5 hT
    intro W4 hT
    obtain ⟨x0, x1, x2, x3, x4, x5⟩ := cells3 hT.b0
    obtain ⟨y0, y1, y2, y3, y4, y5⟩ := cells3 hT.b1
    with_reducible refine txt_nil ?_
    go_wp2
    refine bodyPost_ret (v := .agg #[.int .i64 a', .int .i64 b', .int .i64 (c' + 1)]) (by simp [results, Try.results27, go_sem, y0, y1, y2]) rfl ⟨rfl, hT.below⟩
  · rw [if_neg h10]
    have hw1 := wr (show -9223372036854775808 ≤ c' + 1 by omega) (by omega)
    have h10' : 10 < c' + 1 := by omega
    go_enter Try.func27, Try.ntmps27
    go_upto_region 1 with (fail)
    refine Rt.wp_region_seq [1, 2, 2] ?_
    apply txt_read rfl rfl rfl; (· (go_simp; with_reducible rfl)); (· (simp only [Act.put, Act.eval, List.setIfInBounds_toArray, List.set_cons_zero, List.set_cons_succ, Array.getD_eq_getD_getElem?, List.getElem?_toArray, List.getElem?_cons_zero, List.getElem?_cons_succ, Option.getD_some]; with_reducible rfl))
    refine txt_call rfl rfl rfl (by go_simp; exact ⟨⟨rfl, rfl⟩, rfl⟩) ?_
    refine (hH.out _).mono ?_
    rintro e w3 ⟨rfl, hb3⟩
    refine ⟨_, rfl, ?_⟩
    simp only [Act.put, Act.eval, List.setIfInBounds_toArray, List.set_cons_zero, List.set_cons_succ, Array.getD_eq_getD_getElem?, List.getElem?_toArray, List.getElem?_cons_zero, List.getElem?_cons_succ, Option.getD_some]
    have hT := Two.start hb3
    have hg0 : Hid (w.heap.size = w.heap.size) := Lib.hid rfl
    obtain ⟨g0, hg0⟩ : ∃ g, w.heap.size = g := ⟨_, rfl⟩
    obtain ⟨g1, hg1⟩ : ∃ g, w.heap.size + 1 = g := ⟨_, rfl⟩
    rw [hg1, hg0] at hT
    rw [hg1, hg0]
    have hg0H := Lib.hid hg0
    clear hg0 hg1 hb3
    obtain ⟨x0, x1, x2, x3, x4, x5⟩ := cells3 hT.b0
    obtain ⟨y0, y1, y2, y3, y4, y5⟩ := cells3 hT.b1
    apply txt_doF (fun W => Two w W g0 g1 #[.int .i64 a', .int .i64 b', .int .i64 c'] #[.int .i64 0, .int .i64 0, .int .i64 0]) rfl rfl rfl
    · (go_simp; with_reducible rfl)
    · exact ((hT.set0 0 _).set0 1 _).set0 2 _
    · (simp only [Act.put, Act.eval, List.setIfInBounds_toArray, List.set_cons_zero, List.set_cons_succ, Array.getD_eq_getD_getElem?, List.getElem?_toArray, List.getElem?_cons_zero, List.getElem?_cons_succ, Option.getD_some]; with_reducible rfl)
    clear x0 x1 x2 x3 x4 x5 y0 y1 y2 y3 y4 y5 hT
    intro W4 hT
    obtain ⟨x0, x1, x2, x3, x4, x5⟩ := cells3 hT.b0
    obtain ⟨y0, y1, y2, y3, y4, y5⟩ := cells3 hT.b1
    with_reducible refine txt_nil ?_
    go_upto_region 2 with (fail)
    refine Rt.wp_region_seq [0, 1, 0, 1, 0, 2] ?_
    apply txt_pure rfl rfl rfl; (· (intro w; go_simp; with_reducible rfl)); (· (simp only [Act.put, Act.eval, List.setIfInBounds_toArray, List.set_cons_zero, List.set_cons_succ, Array.getD_eq_getD_getElem?, List.getElem?_toArray, List.getElem?_cons_zero, List.getElem?_cons_succ, Option.getD_some]; with_reducible rfl))
    apply txt_read rfl rfl rfl; (· (go_simp; with_reducible rfl)); (· (simp only [Act.put, Act.eval, List.setIfInBounds_toArray, List.set_cons_zero, List.set_cons_succ, Array.getD_eq_getD_getElem?, List.getElem?_toArray, List.getElem?_cons_zero, List.getElem?_cons_succ, Option.getD_some]; with_reducible rfl))
    apply txt_pure rfl rfl rfl; (· (intro w; go_simp; with_reducible rfl)); (· (simp only [Act.put, Act.eval, List.setIfInBounds_toArray, List.set_cons_zero, List.set_cons_succ, Array.getD_eq_getD_getElem?, List.getElem?_toArray, List.getElem?_cons_zero, List.getElem?_cons_succ, Option.getD_some]; with_reducible rfl))
    apply txt_read rfl rfl rfl; (· (go_simp; with_reducible rfl)); (· (simp only [Act.put, Act.eval, List.setIfInBounds_toArray, List.set_cons_zero, List.set_cons_succ, Array.getD_eq_getD_getElem?, List.getElem?_toArray, List.getElem?_cons_zero, List.getElem?_cons_succ, Option.getD_some]; with_reducible rfl))
    apply txt_pure rfl rfl rfl; (· (intro w; go_simp; with_reducible rfl)); (· (simp only [Act.put, Act.eval, List.setIfInBounds_toArray, List.set_cons_zero, List.set_cons_succ, Array.getD_eq_getD_getElem?, List.getElem?_toArray, List.getElem?_cons_zero, List.getElem?_cons_succ, Option.getD_some]; with_reducible rfl))
    apply txt_doF (fun W => Two w W g0 g1 #[.int .i64 a', .int .i64 b', .int .i64 10] #[.int .i64 0, .int .i64 0, .int .i64 0]) rfl rfl rfl
    · (go_simp; with_reducible rfl)
    · exact hT.set0 2 _
    · (simp only [Act.put, Act.eval, List.setIfInBounds_toArray, List.set_cons_zero, List.set_cons_succ, Array.getD_eq_getD_getElem?, List.getElem?_toArray, List.getElem?_cons_zero, List.getElem?_cons_succ, Option.getD_some]; with_reducible rfl)
    clear x0 x1 x2 x3 x4 x5 y0 y1 y2 y3 y4 y5 hT
    intro W4 hT
    obtain ⟨x0, x1, x2, x3, x4, x5⟩ := cells3 hT.b0
    obtain ⟨y0, y1, y2, y3, y4, y5⟩ := cells3 hT.b1
    with_reducible refine txt_nil ?_
    go_upto_region 3 with (fail)
    refine Rt.wp_region_seq [1, 2] ?_
    apply txt_read rfl rfl rfl; (· (go_simp; with_reducible rfl)); (· (simp only [Act.put, Act.eval, List.setIfInBounds_toArray, List.set_cons_zero, List.set_cons_succ, Array.getD_eq_getD_getElem?, List.getElem?_toArray, List.getElem?_cons_zero, List.getElem?_cons_succ, Option.getD_some]; with_reducible rfl))
    apply txt_doF (fun W => Two w W g0 g1 #[.int .i64 a', .int .i64 b', .int .i64 10] #[.int .i64 a', .int .i64 b', .int .i64 10]) rfl rfl rfl
    · (go_simp; with_reducible rfl)
    · exact ((hT.set1 0 _).set1 1 _).set1 2 _
    · (simp only [Act.put, Act.eval, List.setIfInBounds_toArray, List.set_cons_zero, List.set_cons_succ, Array.getD_eq_getD_getElem?, List.getElem?_toArray, List.getElem?_cons_zero, List.getElem?_cons_succ, Option.getD_some]; with_reducible rfl)
    clear x0 x1 x2 x3 x4 x5 y0 y1 y2 y3 y4 y5 hT
    intro W4 hT
    obtain ⟨x0, x1, x2, x3, x4, x5⟩ := cells3 hT.b0
    obtain ⟨y0, y1, y2, y3, y4, y5⟩ := cells3 hT.b1
    with_reducible refine txt_nil ?_
    go_wp2
    refine bodyPost_ret (v := .agg #[.int .i64 a', .int .i64 b', .int .i64 10]) (by simp [results, Try.results27, go_sem, y0, y1, y2]) rfl ⟨rfl, hT.below⟩
theorem tdiv_bd (d k : Int) (hk : 1 ≤ k) : (0 ≤ d → 0 ≤ d.tdiv k ∧ d.tdiv k ≤ d) ∧ (d < 0 → d ≤ d.tdiv k ∧ d.tdiv k ≤ 0) := by
  constructor
  · intro h
    rw [Int.tdiv_eq_ediv_of_nonneg h]
    exact ⟨Int.ediv_nonneg h (by omega), Int.ediv_le_self _ h⟩
  · intro h
    have e : d.tdiv k = -((-d).tdiv k) := by rw [Int.neg_tdiv, Int.neg_neg]
    rw [e, Int.tdiv_eq_ediv_of_nonneg (by omega)]
    have h1 := Int.ediv_nonneg (a := -d) (b := k) (by omega) (by omega)
    have h2 := Int.ediv_le_self (a := -d) k (by omega)
    omega
def smpR (a b m : Int) : Int × Int := if a = 0 ∧ b = 0 then (m, m / 2) else (a + (m - a).tdiv 8, b + ((if 0 ≤ m - a then m - a else -(m - a)) - b).tdiv 4)
set_option maxHeartbeats 4000000 in
theorem Sample_any (a b c ms : Int) (w : World) : Calls Try.prog 25 #[agg3 a b c, .int .i64 ms] w fun e w' => e = .returned (agg3 (smpR (wi a 1000000) (wi b 1000000) (wi ms 1000000)).1 (smpR (wi a 1000000) (wi b 1000000) (wi ms 1000000)).2 0) ∧ Below w.heap.size w w' := by
  have hA := wi_bd a 1000000 (by decide)
  have hB := wi_bd b 1000000 (by decide)
  have hC := wi_bd c 10 (by decide)
  have hM := wi_bd ms 1000000 (by decide)
  obtain ⟨M, hM'⟩ : ∃ x, wi ms 1000000 = x := ⟨_, rfl⟩
  have hw := fun w => within_any ms 1000000 w (by decide)
  rw [hM'] at hM hw ⊢
  obtain ⟨hM1, hM2⟩ := hM
  have hwH := Lib.hid hw
  clear hM' hw
  obtain ⟨a', ha'⟩ : ∃ x, wi a 1000000 = x := ⟨_, rfl⟩
  obtain ⟨b', hb'⟩ : ∃ x, wi b 1000000 = x := ⟨_, rfl⟩
  obtain ⟨c', hc'⟩ : ∃ x, wi c 10 = x := ⟨_, rfl⟩
  have h := fun w => counted_any a b c w
  rw [ha', hb', hc'] at h
  rw [ha', hb']
  rw [ha'] at hA
  rw [hb'] at hB
  rw [hc'] at hC
  unfold agg3 at h ⊢
  obtain ⟨hA1, hA2⟩ := hA
  obtain ⟨hB1, hB2⟩ := hB
  obtain ⟨hC1, hC2⟩ := hC
  have hH := Lib.hid h
  clear h ha' hb' hc'
  by_cases hz : a' = 0 ∧ b' = 0
  · obtain ⟨rfl, rfl⟩ := hz
    have hr : smpR 0 0 M = (M, M / 2) := by unfold smpR; rw [if_pos ⟨rfl, rfl⟩]
    rw [hr]
    have hor := or_zero
    have ht2 : M.tdiv 2 = M / 2 := Int.tdiv_eq_ediv_of_nonneg hM1
    have hw1 := wr (show -9223372036854775808 ≤ M / 2 by omega) (by omega)
    clear hr
    go_enter Try.func25, Try.ntmps25
    go_upto_region 1 with (fail)
    refine Rt.wp_region_seq [1, 2, 0, 1, 2, 0] ?_
    apply txt_read rfl rfl rfl; (· (go_simp; with_reducible rfl)); (· (simp only [Act.put, Act.eval, List.setIfInBounds_toArray, List.set_cons_zero, List.set_cons_succ, Array.getD_eq_getD_getElem?, List.getElem?_toArray, List.getElem?_cons_zero, List.getElem?_cons_succ, Option.getD_some]; with_reducible rfl))
    refine txt_call rfl rfl rfl (by go_simp; exact ⟨⟨rfl, rfl⟩, rfl⟩) ?_
    refine (hH.out _).mono ?_
    rintro e w3 ⟨rfl, hb3⟩
    refine ⟨_, rfl, ?_⟩
    simp only [Act.put, Act.eval, List.setIfInBounds_toArray, List.set_cons_zero, List.set_cons_succ, Array.getD_eq_getD_getElem?, List.getElem?_toArray, List.getElem?_cons_zero, List.getElem?_cons_succ, Option.getD_some]
    apply txt_move rfl rfl; (· (simp only [Act.put, Act.eval, List.setIfInBounds_toArray, List.set_cons_zero, List.set_cons_succ, Array.getD_eq_getD_getElem?, List.getElem?_toArray, List.getElem?_cons_zero, List.getElem?_cons_succ, Option.getD_some]; with_reducible rfl))
    have hT := Two.start hb3
    have hg0 : Hid (w.heap.size = w.heap.size) := Lib.hid rfl
    obtain ⟨g0, hg0⟩ : ∃ g, w.heap.size = g := ⟨_, rfl⟩
    obtain ⟨g1, hg1⟩ : ∃ g, w.heap.size + 1 = g := ⟨_, rfl⟩
    rw [hg1, hg0] at hT
    rw [hg1, hg0]
    have hg0H := Lib.hid hg0
    clear hg0 hg1 hb3
    obtain ⟨x0, x1, x2, x3, x4, x5⟩ := cells3 hT.b0
    obtain ⟨y0, y1, y2, y3, y4, y5⟩ := cells3 hT.b1
    (apply txt_quiet rfl rfl rfl; (· (go_simp; exact ⟨rfl, rfl⟩)); (· (exact hwH.out _)); (· (simp only [Act.put, Act.eval, List.setIfInBounds_toArray, List.set_cons_zero, List.set_cons_succ, Array.getD_eq_getD_getElem?, List.getElem?_toArray, List.getElem?_cons_zero, List.getElem?_cons_succ, Option.getD_some]; with_reducible rfl)))
    apply txt_doF (fun W => Two w W g0 g1 #[.int .i64 0, .int .i64 0, .int .i64 c'] #[.int .i64 0, .int .i64 0, .int .i64 0]) rfl rfl rfl
    · (go_simp; with_reducible rfl)
    · exact ((hT.set0 0 _).set0 1 _).set0 2 _
    · (simp only [Act.put, Act.eval, List.setIfInBounds_toArray, List.set_cons_zero, List.set_cons_succ, Array.getD_eq_getD_getElem?, List.getElem?_toArray, List.getElem?_cons_zero, List.getElem?_cons_succ, Option.getD_some]; with_reducible rfl)
    clear x0 x1 x2 x3 x4 x5 y0 y1 y2 y3 y4 y5 hT
    intro W4 hT
    obtain ⟨x0, x1, x2, x3, x4, x5⟩ := cells3 hT.b0
    obtain ⟨y0, y1, y2, y3, y4, y5⟩ := cells3 hT.b1
    apply txt_assign rfl rfl; (· (simp only [Act.put, Act.eval, List.setIfInBounds_toArray, List.set_cons_zero, List.set_cons_succ, Array.getD_eq_getD_getElem?, List.getElem?_toArray, List.getElem?_cons_zero, List.getElem?_cons_succ, Option.getD_some]; with_reducible rfl))
    with_reducible refine txt_nil ?_
    go_upto_region 3 with (fail)
    refine Rt.wp_region_seq [0, 0, 0, 0, 2] ?_
    apply txt_move rfl rfl; (· (simp only [Act.put, Act.eval, List.setIfInBounds_toArray, List.set_cons_zero, List.set_cons_succ, Array.getD_eq_getD_getElem?, List.getElem?_toArray, List.getElem?_cons_zero, List.getElem?_cons_succ, Option.getD_some]; with_reducible rfl))
    apply txt_move rfl rfl; (· (simp only [Act.put, Act.eval, List.setIfInBounds_toArray, List.set_cons_zero, List.set_cons_succ, Array.getD_eq_getD_getElem?, List.getElem?_toArray, List.getElem?_cons_zero, List.getElem?_cons_succ, Option.getD_some]; with_reducible rfl))
    apply txt_pure rfl rfl rfl; (· (intro w; go_simp; with_reducible rfl)); (· (simp only [Act.put, Act.eval, List.setIfInBounds_toArray, List.set_cons_zero, List.set_cons_succ, Array.getD_eq_getD_getElem?, List.getElem?_toArray, List.getElem?_cons_zero, List.getElem?_cons_succ, Option.getD_some]; with_reducible rfl))
    apply txt_pure rfl rfl rfl; (· (intro w; go_simp; with_reducible rfl)); (· (simp only [Act.put, Act.eval, List.setIfInBounds_toArray, List.set_cons_zero, List.set_cons_succ, Array.getD_eq_getD_getElem?, List.getElem?_toArray, List.getElem?_cons_zero, List.getElem?_cons_succ, Option.getD_some]; with_reducible rfl))
    apply txt_doF (fun W => Two w W g0 g1 #[.int .i64 0, .int .i64 0, .int .i64 c'] #[.int .i64 M, .int .i64 (M / 2), .int .i64 0]) rfl rfl rfl
    · (go_simp; with_reducible rfl)
    · exact ((hT.set1 0 _).set1 1 _).set1 2 _
    · (simp only [Act.put, Act.eval, List.setIfInBounds_toArray, List.set_cons_zero, List.set_cons_succ, Array.getD_eq_getD_getElem?, List.getElem?_toArray, List.getElem?_cons_zero, List.getElem?_cons_succ, Option.getD_some]; with_reducible rfl)
    clear x0 x1 x2 x3 x4 x5 y0 y1 y2 y3 y4 y5 hT
    intro W4 hT
    obtain ⟨x0, x1, x2, x3, x4, x5⟩ := cells3 hT.b0
    obtain ⟨y0, y1, y2, y3, y4, y5⟩ := cells3 hT.b1
    with_reducible refine txt_nil ?_
    go_wp2
    refine bodyPost_ret (v := .agg #[.int .i64 M, .int .i64 (M / 2), .int .i64 0]) (by simp [results, Try.results25, go_sem, y0, y1, y2]) rfl ⟨rfl, hT.below⟩
  · by_cases hpos : 0 ≤ M - a'
    · skip
      obtain ⟨d, hd⟩ : ∃ d, M - a' = d := ⟨_, rfl⟩
      have hpos' : 0 ≤ d := by omega
      obtain ⟨q8, hq8⟩ : ∃ q, d.tdiv 8 = q := ⟨_, rfl⟩
      have hq8b : -1000000 ≤ q8 ∧ q8 ≤ 1000000 := by have := tdiv_bd d 8 (by omega); omega
      obtain ⟨e, he⟩ : ∃ e, -d = e := ⟨_, rfl⟩
      obtain ⟨x, hx⟩ : ∃ x, d - b' = x := ⟨_, rfl⟩
      obtain ⟨q4, hq4⟩ : ∃ q, x.tdiv 4 = q := ⟨_, rfl⟩
      have hq4b : -1000000 ≤ q4 ∧ q4 ≤ 1000000 := by have := tdiv_bd x 4 (by omega) ; omega
      have hr : smpR a' b' M = (a' + q8, b' + q4) := by unfold smpR; rw [if_neg hz, hd, hq8, if_pos hpos', hx, hq4]
      rw [hr]
      have hw1 := wr (show -9223372036854775808 ≤ d by omega) (by omega)
      have hw2 := wr (show -9223372036854775808 ≤ a' + q8 by omega) (by omega)
      have hw3 := wr (show -9223372036854775808 ≤ e by omega) (by omega)
      have hw4 := wr (show -9223372036854775808 ≤ x by omega) (by omega)
      have hw5 := wr (show -9223372036854775808 ≤ b' + q4 by omega) (by omega)
      have hw6 := wr (show -9223372036854775808 ≤ q8 by omega) (by omega)
      have hw7 := wr (show -9223372036854775808 ≤ q4 by omega) (by omega)
      have hne := or_ne hA1 hA2 hB1 hB2 hz
      have hneb : (bits BinOp.or IntKind.i64 a' b' == 0) = false := beq_eq_false_iff_ne.2 hne
      have hcmp : ¬ d < e := by omega
      clear hr hz hM1 hM2 hq8b hq4b hA1 hA2 hB1 hB2 hC1 hC2
      go_enter Try.func25, Try.ntmps25
      go_upto_region 1 with (fail)
      refine Rt.wp_region_seq [1, 2, 0, 1, 2, 0] ?_
      apply txt_read rfl rfl rfl; (· (go_simp; with_reducible rfl)); (· (simp only [Act.put, Act.eval, List.setIfInBounds_toArray, List.set_cons_zero, List.set_cons_succ, Array.getD_eq_getD_getElem?, List.getElem?_toArray, List.getElem?_cons_zero, List.getElem?_cons_succ, Option.getD_some]; with_reducible rfl))
      refine txt_call rfl rfl rfl (by go_simp; exact ⟨⟨rfl, rfl⟩, rfl⟩) ?_
      refine (hH.out _).mono ?_
      rintro e w3 ⟨rfl, hb3⟩
      refine ⟨_, rfl, ?_⟩
      simp only [Act.put, Act.eval, List.setIfInBounds_toArray, List.set_cons_zero, List.set_cons_succ, Array.getD_eq_getD_getElem?, List.getElem?_toArray, List.getElem?_cons_zero, List.getElem?_cons_succ, Option.getD_some]
      apply txt_move rfl rfl; (· (simp only [Act.put, Act.eval, List.setIfInBounds_toArray, List.set_cons_zero, List.set_cons_succ, Array.getD_eq_getD_getElem?, List.getElem?_toArray, List.getElem?_cons_zero, List.getElem?_cons_succ, Option.getD_some]; with_reducible rfl))
      have hT := Two.start hb3
      have hg0 : Hid (w.heap.size = w.heap.size) := Lib.hid rfl
      obtain ⟨g0, hg0⟩ : ∃ g, w.heap.size = g := ⟨_, rfl⟩
      obtain ⟨g1, hg1⟩ : ∃ g, w.heap.size + 1 = g := ⟨_, rfl⟩
      rw [hg1, hg0] at hT
      rw [hg1, hg0]
      have hg0H := Lib.hid hg0
      clear hg0 hg1 hb3
      obtain ⟨x0, x1, x2, x3, x4, x5⟩ := cells3 hT.b0
      obtain ⟨y0, y1, y2, y3, y4, y5⟩ := cells3 hT.b1
      (apply txt_quiet rfl rfl rfl; (· (go_simp; exact ⟨rfl, rfl⟩)); (· (exact hwH.out _)); (· (simp only [Act.put, Act.eval, List.setIfInBounds_toArray, List.set_cons_zero, List.set_cons_succ, Array.getD_eq_getD_getElem?, List.getElem?_toArray, List.getElem?_cons_zero, List.getElem?_cons_succ, Option.getD_some]; with_reducible rfl)))
      apply txt_doF (fun W => Two w W g0 g1 #[.int .i64 a', .int .i64 b', .int .i64 c'] #[.int .i64 0, .int .i64 0, .int .i64 0]) rfl rfl rfl
      · (go_simp; with_reducible rfl)
      · exact ((hT.set0 0 _).set0 1 _).set0 2 _
      · (simp only [Act.put, Act.eval, List.setIfInBounds_toArray, List.set_cons_zero, List.set_cons_succ, Array.getD_eq_getD_getElem?, List.getElem?_toArray, List.getElem?_cons_zero, List.getElem?_cons_succ, Option.getD_some]; with_reducible rfl)
      clear x0 x1 x2 x3 x4 x5 y0 y1 y2 y3 y4 y5 hT
      intro W4 hT
      obtain ⟨x0, x1, x2, x3, x4, x5⟩ := cells3 hT.b0
      obtain ⟨y0, y1, y2, y3, y4, y5⟩ := cells3 hT.b1
      apply txt_assign rfl rfl; (· (simp only [Act.put, Act.eval, List.setIfInBounds_toArray, List.set_cons_zero, List.set_cons_succ, Array.getD_eq_getD_getElem?, List.getElem?_toArray, List.getElem?_cons_zero, List.getElem?_cons_succ, Option.getD_some]; with_reducible rfl))
      with_reducible refine txt_nil ?_
      go_upto_region 5 with (fail)
      refine Rt.wp_region_seq [0, 1, 0, 0, 0, 0, 1, 0, 0, 0, 1, 0, 1, 0, 0, 0, 0, 2] ?_
      apply txt_pure rfl rfl rfl; (· (intro w; go_simp; with_reducible rfl)); (· (simp only [Act.put, Act.eval, List.setIfInBounds_toArray, List.set_cons_zero, List.set_cons_succ, Array.getD_eq_getD_getElem?, List.getElem?_toArray, List.getElem?_cons_zero, List.getElem?_cons_succ, Option.getD_some]; with_reducible rfl))
      apply txt_read rfl rfl rfl; (· (go_simp; with_reducible rfl)); (· (simp only [Act.put, Act.eval, List.setIfInBounds_toArray, List.set_cons_zero, List.set_cons_succ, Array.getD_eq_getD_getElem?, List.getElem?_toArray, List.getElem?_cons_zero, List.getElem?_cons_succ, Option.getD_some]; with_reducible rfl))
      apply txt_move rfl rfl; (· (simp only [Act.put, Act.eval, List.setIfInBounds_toArray, List.set_cons_zero, List.set_cons_succ, Array.getD_eq_getD_getElem?, List.getElem?_toArray, List.getElem?_cons_zero, List.getElem?_cons_succ, Option.getD_some]; with_reducible rfl))
      apply txt_pure rfl rfl rfl; (· (intro w; go_simp; with_reducible rfl)); (· (simp only [Act.put, Act.eval, List.setIfInBounds_toArray, List.set_cons_zero, List.set_cons_succ, Array.getD_eq_getD_getElem?, List.getElem?_toArray, List.getElem?_cons_zero, List.getElem?_cons_succ, Option.getD_some]; with_reducible rfl))
      apply txt_pure rfl rfl rfl; (· (intro w; go_simp; with_reducible rfl)); (· (simp only [Act.put, Act.eval, List.setIfInBounds_toArray, List.set_cons_zero, List.set_cons_succ, Array.getD_eq_getD_getElem?, List.getElem?_toArray, List.getElem?_cons_zero, List.getElem?_cons_succ, Option.getD_some]; with_reducible rfl))
      apply txt_pure rfl rfl rfl; (· (intro w; go_simp; with_reducible rfl)); (· (simp only [Act.put, Act.eval, List.setIfInBounds_toArray, List.set_cons_zero, List.set_cons_succ, Array.getD_eq_getD_getElem?, List.getElem?_toArray, List.getElem?_cons_zero, List.getElem?_cons_succ, Option.getD_some]; with_reducible rfl))
      apply txt_read rfl rfl rfl; (· (go_simp; with_reducible rfl)); (· (simp only [Act.put, Act.eval, List.setIfInBounds_toArray, List.set_cons_zero, List.set_cons_succ, Array.getD_eq_getD_getElem?, List.getElem?_toArray, List.getElem?_cons_zero, List.getElem?_cons_succ, Option.getD_some]; with_reducible rfl))
      apply txt_move rfl rfl; (· (simp only [Act.put, Act.eval, List.setIfInBounds_toArray, List.set_cons_zero, List.set_cons_succ, Array.getD_eq_getD_getElem?, List.getElem?_toArray, List.getElem?_cons_zero, List.getElem?_cons_succ, Option.getD_some]; with_reducible rfl))
      apply txt_move rfl rfl; (· (simp only [Act.put, Act.eval, List.setIfInBounds_toArray, List.set_cons_zero, List.set_cons_succ, Array.getD_eq_getD_getElem?, List.getElem?_toArray, List.getElem?_cons_zero, List.getElem?_cons_succ, Option.getD_some]; with_reducible rfl))
      apply txt_pure rfl rfl rfl; (· (intro w; go_simp; with_reducible rfl)); (· (simp only [Act.put, Act.eval, List.setIfInBounds_toArray, List.set_cons_zero, List.set_cons_succ, Array.getD_eq_getD_getElem?, List.getElem?_toArray, List.getElem?_cons_zero, List.getElem?_cons_succ, Option.getD_some]; with_reducible rfl))
      apply txt_read rfl rfl rfl; (· (go_simp; with_reducible rfl)); (· (simp only [Act.put, Act.eval, List.setIfInBounds_toArray, List.set_cons_zero, List.set_cons_succ, Array.getD_eq_getD_getElem?, List.getElem?_toArray, List.getElem?_cons_zero, List.getElem?_cons_succ, Option.getD_some]; with_reducible rfl))
      apply txt_pure rfl rfl rfl; (· (intro w; go_simp; with_reducible rfl)); (· (simp only [Act.put, Act.eval, List.setIfInBounds_toArray, List.set_cons_zero, List.set_cons_succ, Array.getD_eq_getD_getElem?, List.getElem?_toArray, List.getElem?_cons_zero, List.getElem?_cons_succ, Option.getD_some]; with_reducible rfl))
      apply txt_read rfl rfl rfl; (· (go_simp; with_reducible rfl)); (· (simp only [Act.put, Act.eval, List.setIfInBounds_toArray, List.set_cons_zero, List.set_cons_succ, Array.getD_eq_getD_getElem?, List.getElem?_toArray, List.getElem?_cons_zero, List.getElem?_cons_succ, Option.getD_some]; with_reducible rfl))
      apply txt_pure rfl rfl rfl; (· (intro w; go_simp; with_reducible rfl)); (· (simp only [Act.put, Act.eval, List.setIfInBounds_toArray, List.set_cons_zero, List.set_cons_succ, Array.getD_eq_getD_getElem?, List.getElem?_toArray, List.getElem?_cons_zero, List.getElem?_cons_succ, Option.getD_some]; with_reducible rfl))
      apply txt_pure rfl rfl rfl; (· (intro w; go_simp; with_reducible rfl)); (· (simp only [Act.put, Act.eval, List.setIfInBounds_toArray, List.set_cons_zero, List.set_cons_succ, Array.getD_eq_getD_getElem?, List.getElem?_toArray, List.getElem?_cons_zero, List.getElem?_cons_succ, Option.getD_some]; with_reducible rfl))
      apply txt_pure rfl rfl rfl; (· (intro w; go_simp; with_reducible rfl)); (· (simp only [Act.put, Act.eval, List.setIfInBounds_toArray, List.set_cons_zero, List.set_cons_succ, Array.getD_eq_getD_getElem?, List.getElem?_toArray, List.getElem?_cons_zero, List.getElem?_cons_succ, Option.getD_some]; with_reducible rfl))
      apply txt_pure rfl rfl rfl; (· (intro w; go_simp; with_reducible rfl)); (· (simp only [Act.put, Act.eval, List.setIfInBounds_toArray, List.set_cons_zero, List.set_cons_succ, Array.getD_eq_getD_getElem?, List.getElem?_toArray, List.getElem?_cons_zero, List.getElem?_cons_succ, Option.getD_some]; with_reducible rfl))
      apply txt_doF (fun W => Two w W g0 g1 #[.int .i64 a', .int .i64 b', .int .i64 c'] #[.int .i64 (a' + q8), .int .i64 (b' + q4), .int .i64 0]) rfl rfl rfl
      · (go_simp; with_reducible rfl)
      · exact ((hT.set1 0 _).set1 1 _).set1 2 _
      · (simp only [Act.put, Act.eval, List.setIfInBounds_toArray, List.set_cons_zero, List.set_cons_succ, Array.getD_eq_getD_getElem?, List.getElem?_toArray, List.getElem?_cons_zero, List.getElem?_cons_succ, Option.getD_some]; with_reducible rfl)
      clear x0 x1 x2 x3 x4 x5 y0 y1 y2 y3 y4 y5 hT
      intro W4 hT
      obtain ⟨x0, x1, x2, x3, x4, x5⟩ := cells3 hT.b0
      obtain ⟨y0, y1, y2, y3, y4, y5⟩ := cells3 hT.b1
      with_reducible refine txt_nil ?_
      go_wp2
      refine bodyPost_ret (v := .agg #[.int .i64 (a' + q8), .int .i64 (b' + q4), .int .i64 0]) (by simp [results, Try.results25, go_sem, y0, y1, y2]) rfl ⟨rfl, hT.below⟩
    · skip
      obtain ⟨d, hd⟩ : ∃ d, M - a' = d := ⟨_, rfl⟩
      have hpos' : ¬ 0 ≤ d := by omega
      obtain ⟨q8, hq8⟩ : ∃ q, d.tdiv 8 = q := ⟨_, rfl⟩
      have hq8b : -1000000 ≤ q8 ∧ q8 ≤ 1000000 := by have := tdiv_bd d 8 (by omega); omega
      obtain ⟨e, he⟩ : ∃ e, -d = e := ⟨_, rfl⟩
      obtain ⟨x, hx⟩ : ∃ x, e - b' = x := ⟨_, rfl⟩
      obtain ⟨q4, hq4⟩ : ∃ q, x.tdiv 4 = q := ⟨_, rfl⟩
      have hq4b : -1000000 ≤ q4 ∧ q4 ≤ 1000000 := by have := tdiv_bd x 4 (by omega) ; omega
      have hr : smpR a' b' M = (a' + q8, b' + q4) := by unfold smpR; rw [if_neg hz, hd, hq8, if_neg hpos', he, hx, hq4]
      rw [hr]
      have hw1 := wr (show -9223372036854775808 ≤ d by omega) (by omega)
      have hw2 := wr (show -9223372036854775808 ≤ a' + q8 by omega) (by omega)
      have hw3 := wr (show -9223372036854775808 ≤ e by omega) (by omega)
      have hw4 := wr (show -9223372036854775808 ≤ x by omega) (by omega)
      have hw5 := wr (show -9223372036854775808 ≤ b' + q4 by omega) (by omega)
      have hw6 := wr (show -9223372036854775808 ≤ q8 by omega) (by omega)
      have hw7 := wr (show -9223372036854775808 ≤ q4 by omega) (by omega)
      have hne := or_ne hA1 hA2 hB1 hB2 hz
      have hneb : (bits BinOp.or IntKind.i64 a' b' == 0) = false := beq_eq_false_iff_ne.2 hne
      have hcmp : d < e := by omega
      clear hr hz hM1 hM2 hq8b hq4b hA1 hA2 hB1 hB2 hC1 hC2
      go_enter Try.func25, Try.ntmps25
      go_upto_region 1 with (fail)
      refine Rt.wp_region_seq [1, 2, 0, 1, 2, 0] ?_
      apply txt_read rfl rfl rfl; (· (go_simp; with_reducible rfl)); (· (simp only [Act.put, Act.eval, List.setIfInBounds_toArray, List.set_cons_zero, List.set_cons_succ, Array.getD_eq_getD_getElem?, List.getElem?_toArray, List.getElem?_cons_zero, List.getElem?_cons_succ, Option.getD_some]; with_reducible rfl))
      refine txt_call rfl rfl rfl (by go_simp; exact ⟨⟨rfl, rfl⟩, rfl⟩) ?_
      refine (hH.out _).mono ?_
      rintro e w3 ⟨rfl, hb3⟩
      refine ⟨_, rfl, ?_⟩
      simp only [Act.put, Act.eval, List.setIfInBounds_toArray, List.set_cons_zero, List.set_cons_succ, Array.getD_eq_getD_getElem?, List.getElem?_toArray, List.getElem?_cons_zero, List.getElem?_cons_succ, Option.getD_some]
      apply txt_move rfl rfl; (· (simp only [Act.put, Act.eval, List.setIfInBounds_toArray, List.set_cons_zero, List.set_cons_succ, Array.getD_eq_getD_getElem?, List.getElem?_toArray, List.getElem?_cons_zero, List.getElem?_cons_succ, Option.getD_some]; with_reducible rfl))
      have hT := Two.start hb3
      have hg0 : Hid (w.heap.size = w.heap.size) := Lib.hid rfl
      obtain ⟨g0, hg0⟩ : ∃ g, w.heap.size = g := ⟨_, rfl⟩
      obtain ⟨g1, hg1⟩ : ∃ g, w.heap.size + 1 = g := ⟨_, rfl⟩
      rw [hg1, hg0] at hT
      rw [hg1, hg0]
      have hg0H := Lib.hid hg0
      clear hg0 hg1 hb3
      obtain ⟨x0, x1, x2, x3, x4, x5⟩ := cells3 hT.b0
      obtain ⟨y0, y1, y2, y3, y4, y5⟩ := cells3 hT.b1
      (apply txt_quiet rfl rfl rfl; (· (go_simp; exact ⟨rfl, rfl⟩)); (· (exact hwH.out _)); (· (simp only [Act.put, Act.eval, List.setIfInBounds_toArray, List.set_cons_zero, List.set_cons_succ, Array.getD_eq_getD_getElem?, List.getElem?_toArray, List.getElem?_cons_zero, List.getElem?_cons_succ, Option.getD_some]; with_reducible rfl)))
      apply txt_doF (fun W => Two w W g0 g1 #[.int .i64 a', .int .i64 b', .int .i64 c'] #[.int .i64 0, .int .i64 0, .int .i64 0]) rfl rfl rfl
      · (go_simp; with_reducible rfl)
      · exact ((hT.set0 0 _).set0 1 _).set0 2 _
      · (simp only [Act.put, Act.eval, List.setIfInBounds_toArray, List.set_cons_zero, List.set_cons_succ, Array.getD_eq_getD_getElem?, List.getElem?_toArray, List.getElem?_cons_zero, List.getElem?_cons_succ, Option.getD_some]; with_reducible rfl)
      clear x0 x1 x2 x3 x4 x5 y0 y1 y2 y3 y4 y5 hT
      intro W4 hT
      obtain ⟨x0, x1, x2, x3, x4, x5⟩ := cells3 hT.b0
      obtain ⟨y0, y1, y2, y3, y4, y5⟩ := cells3 hT.b1
      apply txt_assign rfl rfl; (· (simp only [Act.put, Act.eval, List.setIfInBounds_toArray, List.set_cons_zero, List.set_cons_succ, Array.getD_eq_getD_getElem?, List.getElem?_toArray, List.getElem?_cons_zero, List.getElem?_cons_succ, Option.getD_some]; with_reducible rfl))
      with_reducible refine txt_nil ?_
      go_upto_region 5 with (fail)
      refine Rt.wp_region_seq [0, 1, 0, 0, 0, 0, 1, 0, 0, 0, 1, 0, 1, 0, 0, 0, 0, 2] ?_
      apply txt_pure rfl rfl rfl; (· (intro w; go_simp; with_reducible rfl)); (· (simp only [Act.put, Act.eval, List.setIfInBounds_toArray, List.set_cons_zero, List.set_cons_succ, Array.getD_eq_getD_getElem?, List.getElem?_toArray, List.getElem?_cons_zero, List.getElem?_cons_succ, Option.getD_some]; with_reducible rfl))
      apply txt_read rfl rfl rfl; (· (go_simp; with_reducible rfl)); (· (simp only [Act.put, Act.eval, List.setIfInBounds_toArray, List.set_cons_zero, List.set_cons_succ, Array.getD_eq_getD_getElem?, List.getElem?_toArray, List.getElem?_cons_zero, List.getElem?_cons_succ, Option.getD_some]; with_reducible rfl))
      apply txt_move rfl rfl; (· (simp only [Act.put, Act.eval, List.setIfInBounds_toArray, List.set_cons_zero, List.set_cons_succ, Array.getD_eq_getD_getElem?, List.getElem?_toArray, List.getElem?_cons_zero, List.getElem?_cons_succ, Option.getD_some]; with_reducible rfl))
      apply txt_pure rfl rfl rfl; (· (intro w; go_simp; with_reducible rfl)); (· (simp only [Act.put, Act.eval, List.setIfInBounds_toArray, List.set_cons_zero, List.set_cons_succ, Array.getD_eq_getD_getElem?, List.getElem?_toArray, List.getElem?_cons_zero, List.getElem?_cons_succ, Option.getD_some]; with_reducible rfl))
      apply txt_pure rfl rfl rfl; (· (intro w; go_simp; with_reducible rfl)); (· (simp only [Act.put, Act.eval, List.setIfInBounds_toArray, List.set_cons_zero, List.set_cons_succ, Array.getD_eq_getD_getElem?, List.getElem?_toArray, List.getElem?_cons_zero, List.getElem?_cons_succ, Option.getD_some]; with_reducible rfl))
      apply txt_pure rfl rfl rfl; (· (intro w; go_simp; with_reducible rfl)); (· (simp only [Act.put, Act.eval, List.setIfInBounds_toArray, List.set_cons_zero, List.set_cons_succ, Array.getD_eq_getD_getElem?, List.getElem?_toArray, List.getElem?_cons_zero, List.getElem?_cons_succ, Option.getD_some]; with_reducible rfl))
      apply txt_read rfl rfl rfl; (· (go_simp; with_reducible rfl)); (· (simp only [Act.put, Act.eval, List.setIfInBounds_toArray, List.set_cons_zero, List.set_cons_succ, Array.getD_eq_getD_getElem?, List.getElem?_toArray, List.getElem?_cons_zero, List.getElem?_cons_succ, Option.getD_some]; with_reducible rfl))
      apply txt_move rfl rfl; (· (simp only [Act.put, Act.eval, List.setIfInBounds_toArray, List.set_cons_zero, List.set_cons_succ, Array.getD_eq_getD_getElem?, List.getElem?_toArray, List.getElem?_cons_zero, List.getElem?_cons_succ, Option.getD_some]; with_reducible rfl))
      apply txt_move rfl rfl; (· (simp only [Act.put, Act.eval, List.setIfInBounds_toArray, List.set_cons_zero, List.set_cons_succ, Array.getD_eq_getD_getElem?, List.getElem?_toArray, List.getElem?_cons_zero, List.getElem?_cons_succ, Option.getD_some]; with_reducible rfl))
      apply txt_pure rfl rfl rfl; (· (intro w; go_simp; with_reducible rfl)); (· (simp only [Act.put, Act.eval, List.setIfInBounds_toArray, List.set_cons_zero, List.set_cons_succ, Array.getD_eq_getD_getElem?, List.getElem?_toArray, List.getElem?_cons_zero, List.getElem?_cons_succ, Option.getD_some]; with_reducible rfl))
      apply txt_read rfl rfl rfl; (· (go_simp; with_reducible rfl)); (· (simp only [Act.put, Act.eval, List.setIfInBounds_toArray, List.set_cons_zero, List.set_cons_succ, Array.getD_eq_getD_getElem?, List.getElem?_toArray, List.getElem?_cons_zero, List.getElem?_cons_succ, Option.getD_some]; with_reducible rfl))
      apply txt_pure rfl rfl rfl; (· (intro w; go_simp; with_reducible rfl)); (· (simp only [Act.put, Act.eval, List.setIfInBounds_toArray, List.set_cons_zero, List.set_cons_succ, Array.getD_eq_getD_getElem?, List.getElem?_toArray, List.getElem?_cons_zero, List.getElem?_cons_succ, Option.getD_some]; with_reducible rfl))
      apply txt_read rfl rfl rfl; (· (go_simp; with_reducible rfl)); (· (simp only [Act.put, Act.eval, List.setIfInBounds_toArray, List.set_cons_zero, List.set_cons_succ, Array.getD_eq_getD_getElem?, List.getElem?_toArray, List.getElem?_cons_zero, List.getElem?_cons_succ, Option.getD_some]; with_reducible rfl))
      apply txt_pure rfl rfl rfl; (· (intro w; go_simp; with_reducible rfl)); (· (simp only [Act.put, Act.eval, List.setIfInBounds_toArray, List.set_cons_zero, List.set_cons_succ, Array.getD_eq_getD_getElem?, List.getElem?_toArray, List.getElem?_cons_zero, List.getElem?_cons_succ, Option.getD_some]; with_reducible rfl))
      apply txt_pure rfl rfl rfl; (· (intro w; go_simp; with_reducible rfl)); (· (simp only [Act.put, Act.eval, List.setIfInBounds_toArray, List.set_cons_zero, List.set_cons_succ, Array.getD_eq_getD_getElem?, List.getElem?_toArray, List.getElem?_cons_zero, List.getElem?_cons_succ, Option.getD_some]; with_reducible rfl))
      apply txt_pure rfl rfl rfl; (· (intro w; go_simp; with_reducible rfl)); (· (simp only [Act.put, Act.eval, List.setIfInBounds_toArray, List.set_cons_zero, List.set_cons_succ, Array.getD_eq_getD_getElem?, List.getElem?_toArray, List.getElem?_cons_zero, List.getElem?_cons_succ, Option.getD_some]; with_reducible rfl))
      apply txt_pure rfl rfl rfl; (· (intro w; go_simp; with_reducible rfl)); (· (simp only [Act.put, Act.eval, List.setIfInBounds_toArray, List.set_cons_zero, List.set_cons_succ, Array.getD_eq_getD_getElem?, List.getElem?_toArray, List.getElem?_cons_zero, List.getElem?_cons_succ, Option.getD_some]; with_reducible rfl))
      apply txt_doF (fun W => Two w W g0 g1 #[.int .i64 a', .int .i64 b', .int .i64 c'] #[.int .i64 (a' + q8), .int .i64 (b' + q4), .int .i64 0]) rfl rfl rfl
      · (go_simp; with_reducible rfl)
      · exact ((hT.set1 0 _).set1 1 _).set1 2 _
      · (simp only [Act.put, Act.eval, List.setIfInBounds_toArray, List.set_cons_zero, List.set_cons_succ, Array.getD_eq_getD_getElem?, List.getElem?_toArray, List.getElem?_cons_zero, List.getElem?_cons_succ, Option.getD_some]; with_reducible rfl)
      clear x0 x1 x2 x3 x4 x5 y0 y1 y2 y3 y4 y5 hT
      intro W4 hT
      obtain ⟨x0, x1, x2, x3, x4, x5⟩ := cells3 hT.b0
      obtain ⟨y0, y1, y2, y3, y4, y5⟩ := cells3 hT.b1
      with_reducible refine txt_nil ?_
      go_wp2
      refine bodyPost_ret (v := .agg #[.int .i64 (a' + q8), .int .i64 (b' + q4), .int .i64 0]) (by simp [results, Try.results25, go_sem, y0, y1, y2]) rfl ⟨rfl, hT.below⟩
/-- One block of the call's own. -/
structure One (w W : World) (g0 : Nat) (A : Array Value) : Prop where
  b0 : W.heap[g0]? = some (.cells A 56 (0, 0))
  ge : w.heap.size ≤ g0
  below : Below w.heap.size w W
theorem One.start {w w3 : World} {A : Array Value} (hb : Below (w.alloc (.cells A 56)).heap.size (w.alloc (.cells A 56)) w3) : One w w3 w.heap.size A := by
  refine ⟨?_, Nat.le_refl _, ((Below.refl _ _).alloc (Nat.le_refl _) _).trans (hb.mono (by simp))⟩
  rw [hb.block _ (by simp)]
  show (w.heap.push _)[w.heap.size]? = _
  exact Array.getElem?_push_size
theorem One.set0 {w W : World} {g0 : Nat} {A : Array Value} (h : One w W g0 A) (i : Nat) (v : Value) : One w (W.setCell ⟨g0, i, none⟩ v) g0 (A.setIfInBounds i v) :=
  ⟨blk_set h.b0 i v, h.ge, h.below.setCell h.ge _⟩
def tmR (a b c : Int) : Int := if 12000 < (if (if a = 0 ∧ b = 0 then 376 else a + 4 * b) < 50 then 50 else if a = 0 ∧ b = 0 then 376 else a + 4 * b) * 2 ^ c.toNat then 12000 else (if (if a = 0 ∧ b = 0 then 376 else a + 4 * b) < 50 then 50 else if a = 0 ∧ b = 0 then 376 else a + 4 * b) * 2 ^ c.toNat
theorem pow_bd (c : Int) (h : c ≤ 10) : 1 ≤ (2 : Int) ^ c.toNat ∧ (2 : Int) ^ c.toNat ≤ 1024 := by
  have h1 : (2 : Nat) ^ c.toNat ≤ 2 ^ 10 := Nat.pow_le_pow_right (by decide) (by omega)
  have h2 : 1 ≤ (2 : Nat) ^ c.toNat := Nat.one_le_two_pow
  have e : ((2 : Nat) ^ c.toNat : Nat) = (2 : Int) ^ c.toNat := by simp
  rw [← e]
  have e3 : (2 : Nat) ^ 10 = 1024 := by decide
  omega
set_option maxHeartbeats 4000000 in
theorem Timeout_any (a b c : Int) (w : World) : Calls Try.prog 41 #[agg3 a b c] w fun e w' => e = .returned (.int .i64 (tmR (wi a 1000000) (wi b 1000000) (wi c 10))) ∧ Below w.heap.size w w' := by
  have hA := wi_bd a 1000000 (by decide)
  have hB := wi_bd b 1000000 (by decide)
  have hC := wi_bd c 10 (by decide)
  obtain ⟨a', ha'⟩ : ∃ x, wi a 1000000 = x := ⟨_, rfl⟩
  obtain ⟨b', hb'⟩ : ∃ x, wi b 1000000 = x := ⟨_, rfl⟩
  obtain ⟨c', hc'⟩ : ∃ x, wi c 10 = x := ⟨_, rfl⟩
  have h := fun w => counted_any a b c w
  rw [ha', hb', hc'] at h ⊢
  rw [ha'] at hA
  rw [hb'] at hB
  rw [hc'] at hC
  unfold agg3 at h ⊢
  obtain ⟨hA1, hA2⟩ := hA
  obtain ⟨hB1, hB2⟩ := hB
  obtain ⟨hC1, hC2⟩ := hC
  have hH := Lib.hid h
  clear h ha' hb' hc'
  have hp := pow_bd c' hC2
  obtain ⟨P2, hP⟩ : ∃ p, (2 : Int) ^ c'.toNat = p := ⟨_, rfl⟩
  rw [hP] at hp
  obtain ⟨hp1, hp2⟩ := hp
  have hc64 : c' ≤ 64 := by omega
  have hcn : 0 ≤ c' := hC1
  by_cases hz : a' = 0 ∧ b' = 0
  · obtain ⟨rfl, rfl⟩ := hz
    have hor := or_zero
    have hmx : ¬ 376 < 50 := by omega
    obtain ⟨Y, hY⟩ : ∃ Y, 376 * P2 = Y := ⟨_, rfl⟩
    have hYb : 0 ≤ Y ∧ Y ≤ 5120000000 := by
      rw [← hY]
      exact ⟨Int.mul_nonneg (by omega) (by omega), Int.le_trans (Int.mul_le_mul (show 376 ≤ 5000000 by omega) hp2 (by omega) (by omega)) (by omega)⟩
    have hwY := wr (show -9223372036854775808 ≤ Y by omega) (by omega)
    have hr : tmR 0 0 c' = if 12000 < Y then 12000 else Y := by unfold tmR; rw [hP]; rw [if_pos (⟨rfl, rfl⟩ : (0:Int) = 0 ∧ (0:Int) = 0), if_neg (show ¬ (376:Int) < 50 by omega), hY]
    rw [hr]
    clear hr
    by_cases hbig : 12000 < Y
    · rw [if_pos hbig]
      skip
      go_enter Try.func41, Try.ntmps41
      go_upto_region 1 with (fail)
      refine Rt.wp_region_seq [1, 2, 2] ?_
      apply txt_read rfl rfl rfl; (· (go_simp; with_reducible rfl)); (· (simp only [Act.put, Act.eval, List.setIfInBounds_toArray, List.set_cons_zero, List.set_cons_succ, Array.getD_eq_getD_getElem?, List.getElem?_toArray, List.getElem?_cons_zero, List.getElem?_cons_succ, Option.getD_some]; with_reducible rfl))
      refine txt_call rfl rfl rfl (by go_simp; exact ⟨⟨rfl, rfl⟩, rfl⟩) ?_
      refine (hH.out _).mono ?_
      rintro e w3 ⟨rfl, hb3⟩
      refine ⟨_, rfl, ?_⟩
      simp only [Act.put, Act.eval, List.setIfInBounds_toArray, List.set_cons_zero, List.set_cons_succ, Array.getD_eq_getD_getElem?, List.getElem?_toArray, List.getElem?_cons_zero, List.getElem?_cons_succ, Option.getD_some]
      have hT := One.start hb3
      obtain ⟨g0, hg0⟩ : ∃ g, w.heap.size = g := ⟨_, rfl⟩
      rw [hg0] at hT
      rw [hg0]
      clear hg0 hb3
      obtain ⟨x0, x1, x2, x3, x4, x5⟩ := cells3 hT.b0
      apply txt_doF (fun W => One w W g0 #[.int .i64 0, .int .i64 0, .int .i64 c']) rfl rfl rfl
      · (go_simp; with_reducible rfl)
      · exact ((hT.set0 0 _).set0 1 _).set0 2 _
      · (simp only [Act.put, Act.eval, List.setIfInBounds_toArray, List.set_cons_zero, List.set_cons_succ, Array.getD_eq_getD_getElem?, List.getElem?_toArray, List.getElem?_cons_zero, List.getElem?_cons_succ, Option.getD_some]; with_reducible rfl)
      clear x0 x1 x2 x3 x4 x5 hT
      intro W4 hT
      obtain ⟨x0, x1, x2, x3, x4, x5⟩ := cells3 hT.b0
      with_reducible refine txt_nil ?_
      have hbw := hT.below
      clear hT
      go_wp2
      go_ret
      exact ⟨rfl, hbw⟩
    · rw [if_neg hbig]
      skip
      go_enter Try.func41, Try.ntmps41
      go_upto_region 1 with (fail)
      refine Rt.wp_region_seq [1, 2, 2] ?_
      apply txt_read rfl rfl rfl; (· (go_simp; with_reducible rfl)); (· (simp only [Act.put, Act.eval, List.setIfInBounds_toArray, List.set_cons_zero, List.set_cons_succ, Array.getD_eq_getD_getElem?, List.getElem?_toArray, List.getElem?_cons_zero, List.getElem?_cons_succ, Option.getD_some]; with_reducible rfl))
      refine txt_call rfl rfl rfl (by go_simp; exact ⟨⟨rfl, rfl⟩, rfl⟩) ?_
      refine (hH.out _).mono ?_
      rintro e w3 ⟨rfl, hb3⟩
      refine ⟨_, rfl, ?_⟩
      simp only [Act.put, Act.eval, List.setIfInBounds_toArray, List.set_cons_zero, List.set_cons_succ, Array.getD_eq_getD_getElem?, List.getElem?_toArray, List.getElem?_cons_zero, List.getElem?_cons_succ, Option.getD_some]
      have hT := One.start hb3
      obtain ⟨g0, hg0⟩ : ∃ g, w.heap.size = g := ⟨_, rfl⟩
      rw [hg0] at hT
      rw [hg0]
      clear hg0 hb3
      obtain ⟨x0, x1, x2, x3, x4, x5⟩ := cells3 hT.b0
      apply txt_doF (fun W => One w W g0 #[.int .i64 0, .int .i64 0, .int .i64 c']) rfl rfl rfl
      · (go_simp; with_reducible rfl)
      · exact ((hT.set0 0 _).set0 1 _).set0 2 _
      · (simp only [Act.put, Act.eval, List.setIfInBounds_toArray, List.set_cons_zero, List.set_cons_succ, Array.getD_eq_getD_getElem?, List.getElem?_toArray, List.getElem?_cons_zero, List.getElem?_cons_succ, Option.getD_some]; with_reducible rfl)
      clear x0 x1 x2 x3 x4 x5 hT
      intro W4 hT
      obtain ⟨x0, x1, x2, x3, x4, x5⟩ := cells3 hT.b0
      with_reducible refine txt_nil ?_
      have hbw := hT.below
      clear hT
      go_wp2
      go_ret
      exact ⟨rfl, hbw⟩
  · have hne := or_ne hA1 hA2 hB1 hB2 hz
    have hneb : (bits BinOp.or IntKind.i64 a' b' == 0) = false := beq_eq_false_iff_ne.2 hne
    obtain ⟨n, hn⟩ : ∃ n, a' + 4 * b' = n := ⟨_, rfl⟩
    have hw1 := wr (show -9223372036854775808 ≤ 4 * b' by omega) (by omega)
    have hw2 := wr (show -9223372036854775808 ≤ n by omega) (by omega)
    have hn1 : 0 ≤ n ∧ n ≤ 5000000 := by omega
    by_cases h50 : n < 50
    · skip
      have hmx : n < 50 := h50
      obtain ⟨Y, hY⟩ : ∃ Y, 50 * P2 = Y := ⟨_, rfl⟩
      have hYb : 0 ≤ Y ∧ Y ≤ 5120000000 := by
        rw [← hY]
        exact ⟨Int.mul_nonneg (by omega) (by omega), Int.le_trans (Int.mul_le_mul (show 50 ≤ 5000000 by omega) hp2 (by omega) (by omega)) (by omega)⟩
      have hwY := wr (show -9223372036854775808 ≤ Y by omega) (by omega)
      have hr : tmR a' b' c' = if 12000 < Y then 12000 else Y := by unfold tmR; rw [hP]; rw [if_neg hz, hn, if_pos h50, hY]
      rw [hr]
      clear hr
      by_cases hbig : 12000 < Y
      · rw [if_pos hbig]
        skip
        go_enter Try.func41, Try.ntmps41
        go_upto_region 1 with (fail)
        refine Rt.wp_region_seq [1, 2, 2] ?_
        apply txt_read rfl rfl rfl; (· (go_simp; with_reducible rfl)); (· (simp only [Act.put, Act.eval, List.setIfInBounds_toArray, List.set_cons_zero, List.set_cons_succ, Array.getD_eq_getD_getElem?, List.getElem?_toArray, List.getElem?_cons_zero, List.getElem?_cons_succ, Option.getD_some]; with_reducible rfl))
        refine txt_call rfl rfl rfl (by go_simp; exact ⟨⟨rfl, rfl⟩, rfl⟩) ?_
        refine (hH.out _).mono ?_
        rintro e w3 ⟨rfl, hb3⟩
        refine ⟨_, rfl, ?_⟩
        simp only [Act.put, Act.eval, List.setIfInBounds_toArray, List.set_cons_zero, List.set_cons_succ, Array.getD_eq_getD_getElem?, List.getElem?_toArray, List.getElem?_cons_zero, List.getElem?_cons_succ, Option.getD_some]
        have hT := One.start hb3
        obtain ⟨g0, hg0⟩ : ∃ g, w.heap.size = g := ⟨_, rfl⟩
        rw [hg0] at hT
        rw [hg0]
        clear hg0 hb3
        obtain ⟨x0, x1, x2, x3, x4, x5⟩ := cells3 hT.b0
        apply txt_doF (fun W => One w W g0 #[.int .i64 a', .int .i64 b', .int .i64 c']) rfl rfl rfl
        · (go_simp; with_reducible rfl)
        · exact ((hT.set0 0 _).set0 1 _).set0 2 _
        · (simp only [Act.put, Act.eval, List.setIfInBounds_toArray, List.set_cons_zero, List.set_cons_succ, Array.getD_eq_getD_getElem?, List.getElem?_toArray, List.getElem?_cons_zero, List.getElem?_cons_succ, Option.getD_some]; with_reducible rfl)
        clear x0 x1 x2 x3 x4 x5 hT
        intro W4 hT
        obtain ⟨x0, x1, x2, x3, x4, x5⟩ := cells3 hT.b0
        with_reducible refine txt_nil ?_
        have hbw := hT.below
        clear hT
        go_wp2
        go_ret
        exact ⟨rfl, hbw⟩
      · rw [if_neg hbig]
        skip
        go_enter Try.func41, Try.ntmps41
        go_upto_region 1 with (fail)
        refine Rt.wp_region_seq [1, 2, 2] ?_
        apply txt_read rfl rfl rfl; (· (go_simp; with_reducible rfl)); (· (simp only [Act.put, Act.eval, List.setIfInBounds_toArray, List.set_cons_zero, List.set_cons_succ, Array.getD_eq_getD_getElem?, List.getElem?_toArray, List.getElem?_cons_zero, List.getElem?_cons_succ, Option.getD_some]; with_reducible rfl))
        refine txt_call rfl rfl rfl (by go_simp; exact ⟨⟨rfl, rfl⟩, rfl⟩) ?_
        refine (hH.out _).mono ?_
        rintro e w3 ⟨rfl, hb3⟩
        refine ⟨_, rfl, ?_⟩
        simp only [Act.put, Act.eval, List.setIfInBounds_toArray, List.set_cons_zero, List.set_cons_succ, Array.getD_eq_getD_getElem?, List.getElem?_toArray, List.getElem?_cons_zero, List.getElem?_cons_succ, Option.getD_some]
        have hT := One.start hb3
        obtain ⟨g0, hg0⟩ : ∃ g, w.heap.size = g := ⟨_, rfl⟩
        rw [hg0] at hT
        rw [hg0]
        clear hg0 hb3
        obtain ⟨x0, x1, x2, x3, x4, x5⟩ := cells3 hT.b0
        apply txt_doF (fun W => One w W g0 #[.int .i64 a', .int .i64 b', .int .i64 c']) rfl rfl rfl
        · (go_simp; with_reducible rfl)
        · exact ((hT.set0 0 _).set0 1 _).set0 2 _
        · (simp only [Act.put, Act.eval, List.setIfInBounds_toArray, List.set_cons_zero, List.set_cons_succ, Array.getD_eq_getD_getElem?, List.getElem?_toArray, List.getElem?_cons_zero, List.getElem?_cons_succ, Option.getD_some]; with_reducible rfl)
        clear x0 x1 x2 x3 x4 x5 hT
        intro W4 hT
        obtain ⟨x0, x1, x2, x3, x4, x5⟩ := cells3 hT.b0
        with_reducible refine txt_nil ?_
        have hbw := hT.below
        clear hT
        go_wp2
        go_ret
        exact ⟨rfl, hbw⟩
    · skip
      have hmx : ¬ n < 50 := by omega
      obtain ⟨Y, hY⟩ : ∃ Y, n * P2 = Y := ⟨_, rfl⟩
      have hYb : 0 ≤ Y ∧ Y ≤ 5120000000 := by
        rw [← hY]
        exact ⟨Int.mul_nonneg (by omega) (by omega), Int.le_trans (Int.mul_le_mul (show n ≤ 5000000 by omega) hp2 (by omega) (by omega)) (by omega)⟩
      have hwY := wr (show -9223372036854775808 ≤ Y by omega) (by omega)
      have hr : tmR a' b' c' = if 12000 < Y then 12000 else Y := by unfold tmR; rw [hP]; rw [if_neg hz, hn, if_neg h50, hY]
      rw [hr]
      clear hr
      by_cases hbig : 12000 < Y
      · rw [if_pos hbig]
        skip
        go_enter Try.func41, Try.ntmps41
        go_upto_region 1 with (fail)
        refine Rt.wp_region_seq [1, 2, 2] ?_
        apply txt_read rfl rfl rfl; (· (go_simp; with_reducible rfl)); (· (simp only [Act.put, Act.eval, List.setIfInBounds_toArray, List.set_cons_zero, List.set_cons_succ, Array.getD_eq_getD_getElem?, List.getElem?_toArray, List.getElem?_cons_zero, List.getElem?_cons_succ, Option.getD_some]; with_reducible rfl))
        refine txt_call rfl rfl rfl (by go_simp; exact ⟨⟨rfl, rfl⟩, rfl⟩) ?_
        refine (hH.out _).mono ?_
        rintro e w3 ⟨rfl, hb3⟩
        refine ⟨_, rfl, ?_⟩
        simp only [Act.put, Act.eval, List.setIfInBounds_toArray, List.set_cons_zero, List.set_cons_succ, Array.getD_eq_getD_getElem?, List.getElem?_toArray, List.getElem?_cons_zero, List.getElem?_cons_succ, Option.getD_some]
        have hT := One.start hb3
        obtain ⟨g0, hg0⟩ : ∃ g, w.heap.size = g := ⟨_, rfl⟩
        rw [hg0] at hT
        rw [hg0]
        clear hg0 hb3
        obtain ⟨x0, x1, x2, x3, x4, x5⟩ := cells3 hT.b0
        apply txt_doF (fun W => One w W g0 #[.int .i64 a', .int .i64 b', .int .i64 c']) rfl rfl rfl
        · (go_simp; with_reducible rfl)
        · exact ((hT.set0 0 _).set0 1 _).set0 2 _
        · (simp only [Act.put, Act.eval, List.setIfInBounds_toArray, List.set_cons_zero, List.set_cons_succ, Array.getD_eq_getD_getElem?, List.getElem?_toArray, List.getElem?_cons_zero, List.getElem?_cons_succ, Option.getD_some]; with_reducible rfl)
        clear x0 x1 x2 x3 x4 x5 hT
        intro W4 hT
        obtain ⟨x0, x1, x2, x3, x4, x5⟩ := cells3 hT.b0
        with_reducible refine txt_nil ?_
        have hbw := hT.below
        clear hT
        go_wp2
        go_ret
        exact ⟨rfl, hbw⟩
      · rw [if_neg hbig]
        skip
        go_enter Try.func41, Try.ntmps41
        go_upto_region 1 with (fail)
        refine Rt.wp_region_seq [1, 2, 2] ?_
        apply txt_read rfl rfl rfl; (· (go_simp; with_reducible rfl)); (· (simp only [Act.put, Act.eval, List.setIfInBounds_toArray, List.set_cons_zero, List.set_cons_succ, Array.getD_eq_getD_getElem?, List.getElem?_toArray, List.getElem?_cons_zero, List.getElem?_cons_succ, Option.getD_some]; with_reducible rfl))
        refine txt_call rfl rfl rfl (by go_simp; exact ⟨⟨rfl, rfl⟩, rfl⟩) ?_
        refine (hH.out _).mono ?_
        rintro e w3 ⟨rfl, hb3⟩
        refine ⟨_, rfl, ?_⟩
        simp only [Act.put, Act.eval, List.setIfInBounds_toArray, List.set_cons_zero, List.set_cons_succ, Array.getD_eq_getD_getElem?, List.getElem?_toArray, List.getElem?_cons_zero, List.getElem?_cons_succ, Option.getD_some]
        have hT := One.start hb3
        obtain ⟨g0, hg0⟩ : ∃ g, w.heap.size = g := ⟨_, rfl⟩
        rw [hg0] at hT
        rw [hg0]
        clear hg0 hb3
        obtain ⟨x0, x1, x2, x3, x4, x5⟩ := cells3 hT.b0
        apply txt_doF (fun W => One w W g0 #[.int .i64 a', .int .i64 b', .int .i64 c']) rfl rfl rfl
        · (go_simp; with_reducible rfl)
        · exact ((hT.set0 0 _).set0 1 _).set0 2 _
        · (simp only [Act.put, Act.eval, List.setIfInBounds_toArray, List.set_cons_zero, List.set_cons_succ, Array.getD_eq_getD_getElem?, List.getElem?_toArray, List.getElem?_cons_zero, List.getElem?_cons_succ, Option.getD_some]; with_reducible rfl)
        clear x0 x1 x2 x3 x4 x5 hT
        intro W4 hT
        obtain ⟨x0, x1, x2, x3, x4, x5⟩ := cells3 hT.b0
        with_reducible refine txt_nil ?_
        have hbw := hT.below
        clear hT
        go_wp2
        go_ret
        exact ⟨rfl, hbw⟩
end Go.Proofs.Yticijejnemnmlaa.If
