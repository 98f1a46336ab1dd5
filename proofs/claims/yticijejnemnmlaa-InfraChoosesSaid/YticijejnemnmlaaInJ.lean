/- Band. -/
import Derived.Test.YticijejnemnmlaaInI
namespace Go.Proofs.Yticijejnemnmlaa.If
open Go.RowKit Rt
set_option linter.unusedSimpArgs false
set_option linter.unusedVariables false
/-- A slice of addresses that came in. -/
def ArgA (w : World) (v : Value) (l : List Ad) : Prop :=
  ∃ a c, v = .slice a l.length c ∧ (0 < l.length → ∃ b off, a = some ⟨b, off, none⟩ ∧ b < w.heap.size ∧ ∀ j u, (adC l)[j]? = some u → w.cell? ⟨b, off + j, none⟩ = some u)
theorem ArgA.below {w w' : World} {v : Value} {l : List Ad} (h : ArgA w v l) (hb : Below w.heap.size w w') : ArgA w' v l := by
  obtain ⟨a, c, rfl, h2⟩ := h
  refine ⟨a, c, rfl, fun h0 => ?_⟩
  obtain ⟨b, off, rfl, hb1, hc⟩ := h2 h0
  exact ⟨b, off, rfl, Nat.lt_of_lt_of_le hb1 hb.size, fun j u hj => (hb.cell (p := ⟨b, off + j, none⟩) hb1).trans (hc j u hj)⟩
theorem ArgA.of_row {w : World} {base n : Nat} {v : Value} {l : List Ad} (h : w.ownsRow base 31 3 v n (adC l)) (hn : n = l.length) : ArgA w v l := by
  subst hn
  have hc := h
  rcases h.2 with ⟨rfl, e⟩ | ⟨g, cap, cur, rfl, hbg, hh, hle, hcm, hsz, htk⟩
  · exact ⟨none, 0, by rw [e], fun h0 => by omega⟩
  · refine ⟨_, cap, rfl, fun h0 => ⟨g, 0, rfl, (Array.getElem?_eq_some_iff.1 hh).1, fun j u hj => ?_⟩⟩
    have hjl : j < (adC l).length := (List.getElem?_eq_some_iff.1 hj).1
    have := hc.cellAt j (by rw [adC_length] at hjl; exact hjl)
    rw [Nat.zero_add, this]
    exact hj
theorem wpList_app_ad {w : World} {ops : Array Oper} {rest : List Oper} {o : Oper} {a : Act} {Q : Exit → Act → World → Prop} (hgd : o.guard = none) (s x : Operand)
    (ho : o.op = .call { callee := .builtin .append, args := #[s, x], argTypes := #[23, 23] }) {base n : Nat} {v : Value} {xs : List Value} (hs : a.eval s = v) (hown : w.ownsRow base 31 3 v n xs) (hbase : base ≤ w.heap.size)
    {b off c m : Nat} {T : List Ad} (hx : a.eval x = .slice (some ⟨b, off, none⟩) m c) (hm : m = T.length) (hT : ∀ j u, (adC T)[j]? = some u → w.cell? ⟨b, off + j, none⟩ = some u)
    (hl : n + T.length ≤ 5864062014720)
    (h : ∀ v' w', w'.ownsRow base 31 3 v' (n + T.length) (xs ++ adC T) → w.grownBy w' v.ownBlock → (v'.ownBlock = v.ownBlock ∨ v'.ownBlock = some w.heap.size) → wpList Try.prog ops Q rest (a.put o.dst v') w') : wpList Try.prog ops Q (o :: rest) a w := by
  obtain ⟨i0, hi, hz0, hz1, hz2⟩ := info_parts info31
  subst hm
  have hnews : ∀ j u, (adC T)[j]? = some u → w.cell? ((⟨b, off, none⟩ : Addr).add j) = some u := by
    intro j u hj
    rw [Addr.add_lit]
    exact hT j u hj
  exact wpList_append_own_at _ hgd s x 23 ho base 31 i0 (.agg #[.bool false, .int .u64 0, .int .u64 0]) 3 24 Try.underlying23 hi hz0 hz1 hz2 rfl (by decide) v n xs hs hown ⟨b, off, none⟩ T.length c (adC T) hx (adC_length T) hnews (adC_one T) (by unfold maxLen; omega) (by omega) hbase (fun v1 w1 q1 q2 _ q4 => h v1 w1 q1 q2 q4)
theorem three_new (w : World) (x y z : Value) : (w.alloc (.cells #[x, y, z] 31)).cell? ⟨w.heap.size, 0, none⟩ = some x ∧ (w.alloc (.cells #[x, y, z] 31)).cell? ⟨w.heap.size, 1, none⟩ = some y ∧ (w.alloc (.cells #[x, y, z] 31)).cell? ⟨w.heap.size, 2, none⟩ = some z := by
  have h := World.alloc_heap_new w (.cells #[x, y, z] 31)
  refine ⟨?_, ?_, ?_⟩
  · unfold World.cell?; simp only [h]; rfl
  · unfold World.cell?; simp only [h]; rfl
  · unfold World.cell?; simp only [h]; rfl
theorem oneA_new (w : World) (p : Ad) : ∀ j u, (adC [p])[j]? = some u → (w.alloc (.cells #[.bool p.v6, .int .u64 p.hi, .int .u64 p.lo] 31)).cell? ⟨w.heap.size, j, none⟩ = some u
  | 0, u, h => by cases h; exact (three_new _ _ _ _).1
  | 1, u, h => by cases h; exact (three_new _ _ _ _).2.1
  | 2, u, h => by cases h; exact (three_new _ _ _ _).2.2
  | j + 3, u, h => by simp [adC, Ad.cs] at h
theorem oneA_new2 (w : World) (p : Ad) {b : Nat} (hb : w.heap.size = b) : ∀ j u, (adC [p])[j]? = some u → (w.alloc (.cells #[.bool p.v6, .int .u64 p.hi, .int .u64 p.lo] 31)).cell? ⟨b, j, none⟩ = some u := by
  subst hb; exact oneA_new w p
theorem row_low {w : World} {base base' n e size : Nat} {v : Value} {xs : List Value} (h : w.ownsRow base e size v n xs) (hb : base' ≤ base) : w.ownsRow base' e size v n xs := by
  obtain ⟨h1, h2 | ⟨g, cap, cur, hv, hg, r⟩⟩ := h
  · exact ⟨h1, .inl h2⟩
  · exact ⟨h1, .inr ⟨g, cap, cur, hv, Nat.le_trans hb hg, r⟩⟩
/-! ### what Band reckons -/
def okA (st : Ad → Option Sp) (z : ByteArray) (now : Int) (a : Ad) : Bool := rightA a && !lameB z now ((st a).getD zeroP)
def bandTo (st : Ad → Option Sp) (z : ByteArray) (now : Int) (l : List Ad) : Nat → List Ad × Int
  | 0 => ([], 0)
  | j + 1 =>
    if ga l j ∈ l.take j ∨ okA st z now (ga l j) = false then bandTo st z now l j
    else ((bandTo st z now l j).1 ++ [ga l j], if (bandTo st z now l j).1.length = 0 ∨ toP ((st (ga l j)).getD zeroP) < (bandTo st z now l j).2 then toP ((st (ga l j)).getD zeroP) else (bandTo st z now l j).2)
def bandL (st : Ad → Option Sp) (z : ByteArray) (now : Int) (l : List Ad) : List Ad :=
  if isT now && Nm.rightB z then keepA (slow st (bandTo st z now l l.length).2) (bandTo st z now l l.length).1 else []
theorem bandTo_best (st : Ad → Option Sp) (z : ByteArray) (now : Int) (l : List Ad) (j : Nat) : 0 ≤ (bandTo st z now l j).2 ∧ (bandTo st z now l j).2 ≤ 12000 := by
  induction j with
  | zero => exact ⟨Int.le_refl _, show (0 : Int) ≤ 12000 by decide⟩
  | succ j ih =>
    unfold bandTo
    split
    · exact ih
    · have := toP_bd ((st (ga l j)).getD zeroP)
      simp only
      split <;> omega
theorem bandTo_len (st : Ad → Option Sp) (z : ByteArray) (now : Int) (l : List Ad) (j : Nat) : (bandTo st z now l j).1.length ≤ j := by
  induction j with
  | zero => exact Nat.le_refl _
  | succ j ih =>
    unfold bandTo
    split
    · omega
    · simp; omega
theorem bandTo_mem (st : Ad → Option Sp) (z : ByteArray) (now : Int) (l : List Ad) (j : Nat) (hj : j ≤ l.length) : ∀ a ∈ (bandTo st z now l j).1, a ∈ l := by
  induction j with
  | zero => intro a ha; cases ha
  | succ j ih =>
    intro a ha
    unfold bandTo at ha
    split at ha
    · exact ih (by omega) a ha
    · rcases List.mem_append.1 ha with h | h
      · exact ih (by omega) a h
      · rw [List.mem_singleton.1 h]; exact ga_mem (by omega)
/-- How the world stands in a round. -/
structure BI (w : World) (xb nx bm bb base : Nat) (l : List Ad) (m : List Ad) (best : Int) (j : Nat) (v : Value) (wr : World) : Prop where
  bel : Below w.heap.size w wr
  xbox : wr.cell? ⟨nx, 0, none⟩ = some (.pointer (some ⟨xb, 0, none⟩))
  map : MapAI wr bm j (fun x => (l.take j).count x)
  bst : Boxed wr bb 3 (.int .i64 best)
  row : wr.ownsRow base 31 3 v m.length (adC m)
  size : base ≤ wr.heap.size
  lt : nx < base ∧ bm < base ∧ bb < base ∧ w.heap.size ≤ base ∧ nx ≠ bb ∧ bm ≠ bb ∧ w.heap.size ≤ bb
theorem BI.below {w : World} {xb nx bm bb base : Nat} {l m : List Ad} {best : Int} {j : Nat} {v : Value} {wr w' : World} (h : BI w xb nx bm bb base l m best j v wr) (hb : Below wr.heap.size wr w') : BI w xb nx bm bb base l m best j v w' := by
  have hs := h.size
  obtain ⟨l1, l2, l3, l4, l5, l6, l7⟩ := h.lt
  exact ⟨h.bel.trans (hb.mono h.bel.size), (hb.cell (p := ⟨nx, 0, none⟩) (show nx < _ by omega)).trans h.xbox, h.map.keep (hb.block bm (by omega)), (hb.block bb (by omega)).trans h.bst, row_below h.row hb, Nat.le_trans hs hb.size, h.lt⟩
theorem BI.best {w : World} {xb nx bm bb base : Nat} {l m : List Ad} {best : Int} {j : Nat} {v : Value} {wr : World} (h : BI w xb nx bm bb base l m best j v wr) (best' : Int) : BI w xb nx bm bb base l m best' j v (wr.setCell ⟨bb, 0, none⟩ (.int .i64 best')) := by
  obtain ⟨l1, l2, l3, l4, l5, l6, l7⟩ := h.lt
  refine ⟨h.bel.setCell (p := ⟨bb, 0, none⟩) l7 _, (World.cell?_of_block (Below.heap_setCell _ _ _ _ l5)).trans h.xbox, h.map.keep (Below.heap_setCell _ _ _ _ l6), h.bst.set _, ?_, by rw [World.size_setCell]; exact h.size, h.lt⟩
  obtain ⟨h1, h2 | ⟨g, cap, cur, hv, hg, hh, r⟩⟩ := h.row
  · exact ⟨h1, .inl h2⟩
  · exact ⟨h1, .inr ⟨g, cap, cur, hv, hg, (Below.heap_setCell _ _ _ _ (by show g ≠ bb; omega)).trans hh, r⟩⟩
theorem BI.app {w : World} {xb nx bm bb base : Nat} {l m m' : List Ad} {best : Int} {j : Nat} {v v' : Value} {wr w' : World} (h : BI w xb nx bm bb base l m best j v wr) (hb : Below base wr w') (hr : w'.ownsRow base 31 3 v' m'.length (adC m')) : BI w xb nx bm bb base l m' best j v' w' := by
  obtain ⟨l1, l2, l3, l4, l5, l6, l7⟩ := h.lt
  exact ⟨h.bel.trans (hb.mono l4), (hb.cell (p := ⟨nx, 0, none⟩) l1).trans h.xbox, h.map.keep (hb.block bm l2), (hb.block bb l3).trans h.bst, hr, Nat.le_trans h.size hb.size, h.lt⟩
theorem BI.turn {w : World} {xb nx bm bb base : Nat} {l m : List Ad} {best : Int} {j j' : Nat} {v : Value} {wr w' : World} (h : BI w xb nx bm bb base l m best j v wr) (hb : Kept (fun k => k = bm) wr w') (hw : w.heap.size ≤ bm) (hn : nx ≠ bm) (hm : MapAI w' bm j' (fun x => (l.take j').count x)) : BI w xb nx bm bb base l m best j' v w' := by
  have hs := h.size
  obtain ⟨l1, l2, l3, l4, l5, l6, l7⟩ := h.lt
  refine ⟨h.bel.trans (hb.below h.bel.size (fun k hk e => by omega)), (hb.cell (p := ⟨nx, 0, none⟩) (show nx < _ by omega) hn).trans h.xbox, hm, (hb.block bb (by omega) (fun e => l6 e.symm)).trans h.bst, ?_, Nat.le_trans hs hb.size, h.lt⟩
  obtain ⟨h1, h2 | ⟨g, cap, cur, hv, hg, hh, r⟩⟩ := h.row
  · exact ⟨h1, .inl h2⟩
  · exact ⟨h1, .inr ⟨g, cap, cur, hv, hg, (hb.block g (Array.getElem?_eq_some_iff.1 hh).1 (show ¬ g = bm by omega)).trans hh, r⟩⟩
theorem count_succ (l : List Ad) (j : Nat) (hj : j < l.length) (x : Ad) (hx : ga l j = x) : bump (fun y => (l.take j).count y) x = fun y => (l.take (j + 1)).count y := by
  funext y
  rw [List.take_succ_eq_append_getElem hj, List.count_append]
  rw [ga_eq hj] at hx
  rw [hx]
  unfold bump
  by_cases e : y = x
  · subst e; rw [if_pos rfl]; simp
  · rw [if_neg e]
    have : ¬ x = y := fun h => e h.symm
    simp [List.count_cons, this]
set_option maxHeartbeats 8000000 in
set_option maxRecDepth 100000 in
theorem Band_any {w : World} {U : Nat → Prop} {xb most n0 : Nat} {st : Ad → Option Sp} (h : InfS w U xb most st n0) {v : Value} {l : List Ad} (hv : ArgA w v l) (hok : ∀ a ∈ l, a.ok) (hl : l.length < 5864062014720) (z : ByteArray) (hs : z.size ≤ 140737488351232) (now : Int) :
    Calls Try.prog 13 #[.pointer (some ⟨xb, 0, none⟩), v, .string z, .int .i64 now] w fun e w' => ∃ v', e = .returned v' ∧ w'.ownsRow w.heap.size 31 3 v' (bandL st z now l).length (adC (bandL st z now l)) ∧ Below w.heap.size w w' := by
  obtain ⟨a, c, rfl, hcell⟩ := hv
  have hB0 : Below w.heap.size w (w.alloc (.cells #[.pointer (some ⟨xb, 0, none⟩)] 25)) := (Below.refl _ w).alloc (Nat.le_refl _) _
  have hT := Lib.hid (fun w => isTime_any w now)
  have hR := Lib.hid (fun w => Nm.Right_any z hs w)
  have hx0 := (Boxed.new w 25 (.pointer (some ⟨xb, 0, none⟩))).cell
  have hx0 := Lib.hid hx0
  obtain ⟨n, hn⟩ : ∃ n, l.length = n := ⟨_, rfl⟩
  have hnH := Lib.hid hn
  have hhH := Lib.hid h
  have hcellH := Lib.hid hcell
  have hokH := Lib.hid hok
  rw [hn] at hl ⊢
  cases ht : isT now with
  | false =>
    have hL : bandL st z now l = [] := by unfold bandL; rw [ht]; rfl
    rw [hL]
    rw [ht] at hT
    clear h hcell hn hok hL
    go_enter Try.func13, Try.ntmps13
    go_wp2_with (first | (go_at_call 28; refine (hR.out _).mono ?_; rintro e w1 ⟨rfl, hb1⟩) | (go_at_call 29; refine (hT.out _).mono ?_; rintro e w' ⟨rfl, rfl⟩))
    go_ret
    exact ⟨_, rfl, World.ownsRow_nil _ _ _ _, hB0⟩
  | true =>
    rw [ht] at hT
    cases hr : Nm.rightB z with
    | false =>
      have hL : bandL st z now l = [] := by unfold bandL; rw [ht, hr]; rfl
      rw [hL]
      rw [hr] at hR
      clear h hcell hn hok hL
      go_enter Try.func13, Try.ntmps13
      go_wp2_with (first | (go_at_call 28; refine (hR.out _).mono ?_; rintro e w1 ⟨rfl, hb1⟩) | (go_at_call 29; refine (hT.out _).mono ?_; rintro e w' ⟨rfl, rfl⟩))
      go_ret
      exact ⟨_, rfl, World.ownsRow_nil _ _ _ _, hB0.trans (hb1.mono hB0.size)⟩
    | true =>
      rw [hr] at hR
      have hL : bandL st z now l = keepA (slow st (bandTo st z now l l.length).2) (bandTo st z now l l.length).1 := by unfold bandL; rw [ht, hr]; rfl
      rw [hn] at hL
      rw [hL]
      have hmm := @run_makeMap Try.prog
      clear h hcell hn hok hL
      go_enter Try.func13, Try.ntmps13
      go_wp2_with (first | (go_at_call 28; refine (hR.out _).mono ?_; rintro e w1 ⟨rfl, hb1⟩) | (go_at_call 29; refine (hT.out _).mono ?_; rintro e w' ⟨rfl, rfl⟩))
      clear hmm
      have hB1 := hB0.trans (hb1.mono hB0.size)
      have hs1 := hb1.size
      rw [World.size_alloc] at hs1
      have hx1 := (hb1.cell (p := ⟨w.heap.size, 0, none⟩) (by simp)).trans hx0.out
      have hBI : BI w xb w.heap.size w1.heap.size (w1.heap.size + 1) (w1.heap.size + 2) l [] 0 0 (.slice none 0 0) ((w1.alloc (.map #[] 0)).alloc (.cells #[.int .i64 0] 3)) := by
        refine ⟨(hB1.alloc hB1.size _).alloc (by rw [World.size_alloc]; have := hB1.size; omega) _, ?_, ?_, ?_, World.ownsRow_nil _ _ _ _, by simp, by have := hB1.size; omega⟩
        · exact ((((Below.refl w1.heap.size w1).alloc (Nat.le_refl _) _).alloc (by simp) _).cell (p := ⟨w.heap.size, 0, none⟩) (by show w.heap.size < _; omega)).trans hx1
        · exact (MapAI.made w1).keep (Below.heap_alloc _ _ _ (by simp))
        · have := Boxed.new (w1.alloc (.map #[] 0)) 3 (.int .i64 0)
          rw [World.size_alloc] at this
          exact this
      have hBIH := Lib.hid hBI
      clear hBI hB1 hx1 hb1
      go_loopw [26, 10] (fun vi vm wr => ∃ j : Nat, j ≤ n ∧ vi = .int .i64 j ∧ (∃ am cm, vm = .slice am (bandTo st z now l j).1.length cm) ∧ Hid (BI w xb w.heap.size w1.heap.size (w1.heap.size + 1) (w1.heap.size + 2) l (bandTo st z now l j).1 (bandTo st z now l j).2 j vm wr))
        (fun vi _ _ => n - (intOf vi).toNat)
      case atStart => exact ⟨0, Nat.zero_le _, rfl, ⟨none, 0, rfl⟩, hBIH⟩
      case round =>
        obtain ⟨j, hj, rfl, ⟨am, cm, rfl⟩, hI⟩ := hrel
        obtain ⟨nx, hnx⟩ : ∃ x, w.heap.size = x := ⟨_, rfl⟩
        obtain ⟨bm, hbm⟩ : ∃ x, w1.heap.size = x := ⟨_, rfl⟩
        have hnb : nx < bm := by rw [← hnx, ← hbm]; omega
        have hnxH := Lib.hid hnx
        have hbmH := Lib.hid hbm
        rw [hnx, hbm] at hI ⊢
        have hblen := bandTo_len st z now l j
        have hbbst := bandTo_best st z now l j
        have hbmem := Lib.hid (bandTo_mem st z now l j (by have := hnH.out; omega))
        have hstep : Hid (bandTo st z now l (j + 1) = if ga l j ∈ l.take j ∨ okA st z now (ga l j) = false then bandTo st z now l j else ((bandTo st z now l j).1 ++ [ga l j], if (bandTo st z now l j).1.length = 0 ∨ toP ((st (ga l j)).getD zeroP) < (bandTo st z now l j).2 then toP ((st (ga l j)).getD zeroP) else (bandTo st z now l j).2)) := Lib.hid rfl
        obtain ⟨⟨m, best⟩, hmb⟩ : ∃ p, bandTo st z now l j = p := ⟨_, rfl⟩
        rw [hmb] at hI hblen hbbst hbmem hstep
        have hmbH := Lib.hid hmb
        simp only at hI hblen hbbst hbmem hstep
        obtain ⟨ml, hml⟩ : ∃ q, m.length = q := ⟨_, rfl⟩
        rw [hml] at hblen hstep hI
        simp only [hmb, hml]
        have hmlH := Lib.hid hml
        clear hnx hbm hmb hml hBIH
        by_cases hlt : j < n
        · have hjl : j < l.length := by have := hnH.out; omega
          obtain ⟨b, off, rfl, hbl, hcl⟩ := hcellH.out (by omega)
          obtain ⟨x, hx⟩ : ∃ x, ga l j = x := ⟨_, rfl⟩
          have hxok : x.ok := by rw [← hx]; exact hokH.out _ (ga_mem hjl)
          have hg3 := adC_get l j hjl
          rw [Nat.mul_comm 3 j, hx] at hg3
          have hrd : ∀ i u, (adC l)[i]? = some u → wr.cell? ⟨b, off + i, none⟩ = some u := fun i u hi => (hI.out.bel.cell (p := ⟨b, off + i, none⟩) hbl).trans (hcl i u hi)
          have c0 := hrd _ _ hg3.1
          have c1 := hrd _ _ hg3.2.1
          have c2 := hrd _ _ hg3.2.2
          rw [← Nat.add_assoc] at c1 c2
          have hcount := Lib.hid (count_succ l j hjl x hx)
          have hq0 : ((l.take j).count x = 0) ↔ ¬ x ∈ l.take j := List.count_eq_zero
          obtain ⟨q, hq⟩ : ∃ q, (l.take j).count x = q := ⟨_, rfl⟩
          have hqj : q ≤ j := by rw [← hq]; exact Nat.le_trans List.count_le_length (by rw [List.length_take]; omega)
          rw [hq] at hq0
          have hqH := Lib.hid hq
          have hji : (j : Int) < n := by omega
          rw [hx] at hstep
          have hxH := Lib.hid hx
          have hq0H := Lib.hid hq0
          have hqw := If.wr (show -9223372036854775808 ≤ (q : Int) + 1 by omega) (by omega)
          have hws := hI.out.size
          have hwbm := hI.out.map.lt
          have hbls := hI.out.bel.size
          rw [hnxH.out] at hbls
          clear hrd hg3 hcl hx hq hq0
          go_upto_region 9 with (fail)
          obtain ⟨wa, hwa⟩ : ∃ wa, wr.alloc (.cells #[.bool x.v6, .int .u64 x.hi, .int .u64 x.lo] 31) = wa := ⟨_, rfl⟩
          obtain ⟨eb, heb⟩ : ∃ e, wr.heap.size = e := ⟨_, rfl⟩
          rw [hwa, heb]
          have hwab : Below eb wr wa := by rw [← hwa, ← heb]; exact (Below.refl _ wr).alloc (Nat.le_refl _) _
          have hwas : wa.heap.size = eb + 1 := by rw [← hwa, ← heb]; simp
          have hKa := hwab
          obtain ⟨y0, y1, y2⟩ := three_new wr (.bool x.v6) (.int .u64 x.hi) (.int .u64 x.lo)
          rw [hwa, heb] at y0 y1 y2
          obtain ⟨wd, hwd⟩ : ∃ d, wa.drew = d := ⟨_, rfl⟩
          have hmapd : MapAI wd bm j (fun y => (l.take j).count y) := by rw [← hwd]; exact (hI.out.map.keep (w' := wa) (hwab.block bm (by rw [← heb]; exact hwbm))).keep rfl
          have z0 : wd.cell? ⟨eb, 0, none⟩ = some (.bool x.v6) := by rw [← hwd]; exact y0
          have z1 : wd.cell? ⟨eb, 1, none⟩ = some (.int .u64 x.hi) := by rw [← hwd]; exact y1
          have z2 : wd.cell? ⟨eb, 2, none⟩ = some (.int .u64 x.lo) := by rw [← hwd]; exact y2
          have hlk := hmapd.look hxok
          obtain ⟨v0, stt, wm1, wm2, r1, r2, r3, hmap2, t2, t1⟩ := hmapd.put hxok (by unfold maxLen; omega) (by rw [hqH.out]; unfold wf; omega)
          rw [hqH.out] at hlk r2 r3
          rw [hcount.out] at hmap2
          unfold Ad.val at hlk r1 r3
          have hKm : Kept (fun k => k = bm) wa wm2 := (by rw [← hwd] at t2; exact Kept.turned ((Kept.refl _ wa).drew) t2 (.inl rfl))
          have hcells1 : ∀ k, wm1.cell? ⟨eb, k, none⟩ = wd.cell? ⟨eb, k, none⟩ := fun k => (Kept.turned (Kept.refl (fun k => k = bm) wd) t1 (.inl rfl)).cell (p := ⟨eb, k, none⟩) (show eb < wd.heap.size by rw [← hwd]; show eb < wa.heap.size; omega) (show ¬ eb = bm by omega)
          have hbme : bm < eb := by rw [← heb]; exact hwbm
          have hwdH := Lib.hid hwd
          have hwaH := Lib.hid hwab
          have hebH := Lib.hid heb
          have hKmH := Lib.hid hKm
          have hmap2H := Lib.hid hmap2
          have y0H := Lib.hid y0
          have y1H := Lib.hid y1
          have y2H := Lib.hid y2
          have hxokH := Lib.hid hxok
          clear hwd hwab hKa hmapd t1 t2 hKm hmap2 y0 y1 y2 hwa heb hcells1 hxok
          go_cut [9] from 30 to 35 (fun v wx => v = .map (some bm) ∧ Kept (fun k => k = bm) wa wx ∧ MapAI wx bm (j + 1) (fun y => (l.take (j + 1)).count y))
          case first =>
            refine Rt.wp_region_split [0, 1, 3, 0, 3, 0, 3] [0, 1] [2, 3, 4, 5, 6] [4, 2, 3, 5, 6] (by kernel_rfl) (by kernel_rfl) ?_
            rw [hwdH.out]
            apply ord_move rfl rfl rfl rfl; (· (simp only [Act.put, Act.eval, List.setIfInBounds_toArray, List.set_cons_zero, List.set_cons_succ, Array.getD_eq_getD_getElem?, List.getElem?_toArray, List.getElem?_cons_zero, List.getElem?_cons_succ, Option.getD_some, List.getElem_toArray, List.getElem_cons_succ, List.getElem_cons_zero]; with_reducible rfl))
            apply ord_read rfl rfl rfl; (· (intro W hW; have g1 := cell_up hW z0; have g2 := cell_up hW z1; have g3 := cell_up hW z2; go_simp; with_reducible rfl)); (· (simp only [Act.put, Act.eval, List.setIfInBounds_toArray, List.set_cons_zero, List.set_cons_succ, Array.getD_eq_getD_getElem?, List.getElem?_toArray, List.getElem?_cons_zero, List.getElem?_cons_succ, Option.getD_some, List.getElem_toArray, List.getElem_cons_succ, List.getElem_cons_zero]; with_reducible rfl))
            with_reducible refine ord_nil ?_
            refine ⟨?_, ?_⟩
            · skip
              apply ord_value rfl rfl rfl; (· (go_simp; exact ⟨rfl, rfl⟩)); (· (simp only [Act.put, Act.eval, List.setIfInBounds_toArray, List.set_cons_zero, List.set_cons_succ, Array.getD_eq_getD_getElem?, List.getElem?_toArray, List.getElem?_cons_zero, List.getElem?_cons_succ, Option.getD_some, List.getElem_toArray, List.getElem_cons_succ, List.getElem_cons_zero]; with_reducible rfl))
              apply ord_pure rfl rfl rfl; (· (intro w; go_simp; with_reducible rfl)); (· (simp only [Act.put, Act.eval, List.setIfInBounds_toArray, List.set_cons_zero, List.set_cons_succ, Array.getD_eq_getD_getElem?, List.getElem?_toArray, List.getElem?_cons_zero, List.getElem?_cons_succ, Option.getD_some, List.getElem_toArray, List.getElem_cons_succ, List.getElem_cons_zero]; with_reducible rfl))
              apply ord_value rfl rfl rfl; (· (go_simp; exact ⟨rfl, rfl⟩)); (· (simp only [Act.put, Act.eval, List.setIfInBounds_toArray, List.set_cons_zero, List.set_cons_succ, Array.getD_eq_getD_getElem?, List.getElem?_toArray, List.getElem?_cons_zero, List.getElem?_cons_succ, Option.getD_some, List.getElem_toArray, List.getElem_cons_succ, List.getElem_cons_zero]; with_reducible rfl))
              apply ord_pure rfl rfl rfl; (· (intro w; go_simp; with_reducible rfl)); (· (simp only [Act.put, Act.eval, List.setIfInBounds_toArray, List.set_cons_zero, List.set_cons_succ, Array.getD_eq_getD_getElem?, List.getElem?_toArray, List.getElem?_cons_zero, List.getElem?_cons_succ, Option.getD_some, List.getElem_toArray, List.getElem_cons_succ, List.getElem_cons_zero]; with_reducible rfl))
              apply ord_do rfl rfl rfl; (· (go_simp; with_reducible rfl)); (· (simp only [Act.put, Act.eval, List.setIfInBounds_toArray, List.set_cons_zero, List.set_cons_succ, Array.getD_eq_getD_getElem?, List.getElem?_toArray, List.getElem?_cons_zero, List.getElem?_cons_succ, Option.getD_some, List.getElem_toArray, List.getElem_cons_succ, List.getElem_cons_zero]; with_reducible rfl))
              with_reducible refine ord_nil ?_
              go_wp2_with fail
              go_meet
              case rel => exact ⟨rfl, hKmH.out, hmap2H.out⟩
            · skip
              apply ord_value rfl rfl rfl; (· (go_simp; exact ⟨rfl, rfl⟩)); (· (simp only [Act.put, Act.eval, List.setIfInBounds_toArray, List.set_cons_zero, List.set_cons_succ, Array.getD_eq_getD_getElem?, List.getElem?_toArray, List.getElem?_cons_zero, List.getElem?_cons_succ, Option.getD_some, List.getElem_toArray, List.getElem_cons_succ, List.getElem_cons_zero]; with_reducible rfl))
              apply ord_value rfl rfl rfl; (· (go_simp; exact ⟨rfl, rfl⟩)); (· (simp only [Act.put, Act.eval, List.setIfInBounds_toArray, List.set_cons_zero, List.set_cons_succ, Array.getD_eq_getD_getElem?, List.getElem?_toArray, List.getElem?_cons_zero, List.getElem?_cons_succ, Option.getD_some, List.getElem_toArray, List.getElem_cons_succ, List.getElem_cons_zero]; with_reducible rfl))
              apply ord_pure rfl rfl rfl; (· (intro w; go_simp; with_reducible rfl)); (· (simp only [Act.put, Act.eval, List.setIfInBounds_toArray, List.set_cons_zero, List.set_cons_succ, Array.getD_eq_getD_getElem?, List.getElem?_toArray, List.getElem?_cons_zero, List.getElem?_cons_succ, Option.getD_some, List.getElem_toArray, List.getElem_cons_succ, List.getElem_cons_zero]; with_reducible rfl))
              apply ord_pure rfl rfl rfl; (· (intro w; go_simp; with_reducible rfl)); (· (simp only [Act.put, Act.eval, List.setIfInBounds_toArray, List.set_cons_zero, List.set_cons_succ, Array.getD_eq_getD_getElem?, List.getElem?_toArray, List.getElem?_cons_zero, List.getElem?_cons_succ, Option.getD_some, List.getElem_toArray, List.getElem_cons_succ, List.getElem_cons_zero]; with_reducible rfl))
              apply ord_do rfl rfl rfl; (· (go_simp; with_reducible rfl)); (· (simp only [Act.put, Act.eval, List.setIfInBounds_toArray, List.set_cons_zero, List.set_cons_succ, Array.getD_eq_getD_getElem?, List.getElem?_toArray, List.getElem?_cons_zero, List.getElem?_cons_succ, Option.getD_some, List.getElem_toArray, List.getElem_cons_succ, List.getElem_cons_zero]; with_reducible rfl))
              with_reducible refine ord_nil ?_
              go_wp2_with fail
              go_meet
              case rel => exact ⟨rfl, hKmH.out, hmap2H.out⟩
          case rest =>
            obtain ⟨rfl, hKc, hMc⟩ := hcut
            have hebwr : Below wr.heap.size wr wa := by rw [hebH.out]; exact hwaH.out
            have hBc := (hI.out.below hebwr).turn hKc (by rw [hnxH.out]; omega) (by omega) hMc
            have hF : Hid (∀ W, Below wc.heap.size wc W → (W.cell? ⟨eb, 0, none⟩ = some (.bool x.v6) ∧ W.cell? ⟨eb, 1, none⟩ = some (.int .u64 x.hi) ∧ W.cell? ⟨eb, 2, none⟩ = some (.int .u64 x.lo)) ∧ W.cell? ⟨nx, 0, none⟩ = some (.pointer (some ⟨xb, 0, none⟩)) ∧ InfS W U xb most st n0 ∧ BI w xb nx bm (bm + 1) (bm + 2) l m best (j + 1) (.slice am ml cm) W) := Lib.hid (fun W hW => by
              have hB := hBc.below hW
              have hcl : ∀ k, W.cell? ⟨eb, k, none⟩ = wa.cell? ⟨eb, k, none⟩ := fun k => (hW.cell (p := ⟨eb, k, none⟩) (show eb < _ by have := hKc.size; omega)).trans (hKc.cell (p := ⟨eb, k, none⟩) (show eb < _ by omega) (show ¬ eb = bm by omega))
              exact ⟨⟨(hcl 0).trans y0H.out, (hcl 1).trans y1H.out, (hcl 2).trans y2H.out⟩, hB.xbox, hhH.out.below hB.bel, hB⟩)
            obtain ⟨⟨e0, e1, e2⟩, ex, _, _⟩ := hF.out wc (Below.refl _ _)
            have hlk2 := hMc.look hxokH.out
            have hcx : (l.take (j + 1)).count x = q + 1 := by
              have := congrFun hcount.out x
              simp only [bump, ↓reduceIte] at this
              rw [hqH.out] at this
              exact this.symm
            simp only [hcx] at hlk2
            unfold Ad.val at hlk2
            rw [Int.natCast_succ] at hlk2
            have hBcH := Lib.hid hBc
            clear hBc hKc hMc hcx r1 r2 r3 hlk c0 c1 c2 z0 z1 z2 hebwr
            by_cases hqz : q = 0
            · subst hqz
              have hnin : ¬ x ∈ l.take j := hq0H.out.1 rfl
              cases hrx : rightA x with
              | false =>
                have res : Hid (bandTo st z now l (j + 1) = (m, best)) := Lib.hid (by rw [hstep.out, if_pos (.inr (by unfold okA; rw [hrx]; rfl))])
                clear hstep
                go_wp2_with (first
                  | (go_at_call 14; refine (RightA_any _ x hxokH.out).mono ?_; rintro e w3 ⟨rfl, hb3⟩; rw [hrx]; obtain ⟨⟨e30, e31, e32⟩, ex3, hInf3, hB3⟩ := hF.out w3 hb3; have hB3H := Lib.hid hB3; clear hB3 hInf3)
                  | (go_at_call 15; refine (Lame_I hInf3 hxokH.out z hs now).mono ?_; rintro e w4 ⟨rfl, hb4⟩))
                go_roundw
                case rel => exact ⟨j + 1, by omega, by go_num, ⟨am, cm, by rw [res.out, hmlH.out]⟩, Lib.hid (by rw [res.out]; exact hB3H.out)⟩
                case measure => first | (simp [intOf]; done) | (simp [intOf]; omega)
              | true =>
                cases hlx : lameB z now ((st x).getD zeroP) with
                | true =>
                  have res : Hid (bandTo st z now l (j + 1) = (m, best)) := Lib.hid (by rw [hstep.out, if_pos (.inr (by unfold okA; rw [hrx, hlx]; rfl))])
                  clear hstep
                  go_wp2_with (first
                    | (go_at_call 14; refine (RightA_any _ x hxokH.out).mono ?_; rintro e w3 ⟨rfl, hb3⟩; rw [hrx]; obtain ⟨⟨e30, e31, e32⟩, ex3, hInf3, hB3⟩ := hF.out w3 hb3; clear hB3)
                    | (go_at_call 15; refine (Lame_I hInf3 hxokH.out z hs now).mono ?_; rintro e w4 ⟨rfl, hb4⟩; rw [hlx]; obtain ⟨⟨e40, e41, e42⟩, ex4, hInf4, hB4⟩ := hF.out w4 (hb3.trans (hb4.mono hb3.size)); have hB4H := Lib.hid hB4; clear hB4 hInf4))
                  go_roundw
                  case rel => exact ⟨j + 1, by omega, by go_num, ⟨am, cm, by rw [res.out, hmlH.out]⟩, Lib.hid (by rw [res.out]; exact hB4H.out)⟩
                  case measure => first | (simp [intOf]; done) | (simp [intOf]; omega)
                | false =>
                  have res0 : Hid (bandTo st z now l (j + 1) = (m ++ [x], if ml = 0 ∨ toP ((st x).getD zeroP) < best then toP ((st x).getD zeroP) else best)) := Lib.hid (by rw [hstep.out, if_neg]; rintro (h | h); exact hnin h; (unfold okA at h; rw [hrx, hlx] at h; cases h))
                  clear hstep
                  obtain ⟨t, htt⟩ : ∃ t, toP ((st x).getD zeroP) = t := ⟨_, rfl⟩
                  rw [htt] at res0
                  have htH := Lib.hid htt
                  clear htt
                  by_cases hml0 : ml = 0
                  · subst hml0
                    have res : Hid (bandTo st z now l (j + 1) = (m ++ [x], t)) := Lib.hid (by rw [res0.out, if_pos (.inl rfl)])
                    clear res0
                    go_wp2_with (first
                      | (go_at_call 14; refine (RightA_any _ x hxokH.out).mono ?_; rintro e w3 ⟨rfl, hb3⟩; rw [hrx]; obtain ⟨⟨e30, e31, e32⟩, ex3, hInf3, hB3⟩ := hF.out w3 hb3; clear hB3)
                      | (go_at_call 15; refine (Lame_I hInf3 hxokH.out z hs now).mono ?_; rintro e w4 ⟨rfl, hb4⟩; rw [hlx]; obtain ⟨⟨e40, e41, e42⟩, ex4, hInf4, hB4⟩ := hF.out w4 (hb3.trans (hb4.mono hb3.size)); clear hB4 hInf3)
                      | (go_at_call 16; refine (Timeout_I hInf4 hxokH.out).mono ?_; rintro e w5 ⟨rfl, hb5⟩; rw [htH.out]; obtain ⟨⟨e50, e51, e52⟩, ex5, hInf5, hB5⟩ := hF.out w5 ((hb3.trans (hb4.mono hb3.size)).trans (hb5.mono (Nat.le_trans hb3.size hb4.size))); have q5 := hB5.bst.cell; have q5f := hB5.bst.frozen; have hB5H := Lib.hid hB5; have hne5 : ¬ eb = bm + 1 := by { have := hebH.out; omega }; clear hB5 hInf4 hInf5)
                      | (at_builtin; refine wpList_app_ad rfl (.tmp 64) (.tmp 66) rfl rfl (row_below (hB5H.out.best t).row ((Below.refl _ _).alloc (Nat.le_refl _) (.cells #[.bool x.v6, .int .u64 x.hi, .int .u64 x.lo] 31))) (by rw [World.size_alloc]; exact Nat.le_succ_of_le (hB5H.out.best t).size) (b := w5.heap.size) (off := 0) (m := 1) (T := [x]) rfl rfl (fun k r hk => by { rw [Nat.zero_add]; exact oneA_new2 (w5.setCell ⟨bm + 1, 0, none⟩ (.int .i64 t)) x (World.size_setCell _ _ _) k r hk }) (by have := hmlH.out; simp; omega) ?_
                         intro v6 w6 hown6 hgrow6 hat6
                         rw [← adC_append] at hown6
                         have hB6 := (hB5H.out.best t).app (m' := m ++ [x]) (((Below.refl _ _).alloc (hB5H.out.best t).size _).grown hgrow6 (by rw [World.size_alloc]; exact Nat.le_succ_of_le (hB5H.out.best t).size) (fun k hk => ((hB5H.out.best t).row.lt k hk).1)) (by rw [List.length_append]; exact hown6)
                         have hv6 : ∃ a6 c6, v6 = .slice a6 (m ++ [x]).length c6 := by { rw [List.length_append]; exact own_slice hown6 }
                         clear hown6 hgrow6 hat6))
                    go_roundw
                    case rel => exact ⟨j + 1, by omega, by go_num, by rw [res.out]; exact hv6, Lib.hid (by rw [res.out]; exact hB6)⟩
                    case measure => first | (simp [intOf]; done) | (simp [intOf]; omega)
                  · have hml1 : ((ml : Int) == 0) = false := by simpa using hml0
                    by_cases htb : t < best
                    · have res : Hid (bandTo st z now l (j + 1) = (m ++ [x], t)) := Lib.hid (by rw [res0.out, if_pos (.inr htb)])
                      clear res0
                      go_wp2_with (first
                        | (go_at_call 14; refine (RightA_any _ x hxokH.out).mono ?_; rintro e w3 ⟨rfl, hb3⟩; rw [hrx]; obtain ⟨⟨e30, e31, e32⟩, ex3, hInf3, hB3⟩ := hF.out w3 hb3; clear hB3)
                        | (go_at_call 15; refine (Lame_I hInf3 hxokH.out z hs now).mono ?_; rintro e w4 ⟨rfl, hb4⟩; rw [hlx]; obtain ⟨⟨e40, e41, e42⟩, ex4, hInf4, hB4⟩ := hF.out w4 (hb3.trans (hb4.mono hb3.size)); clear hB4 hInf3)
                        | (go_at_call 16; refine (Timeout_I hInf4 hxokH.out).mono ?_; rintro e w5 ⟨rfl, hb5⟩; rw [htH.out]; obtain ⟨⟨e50, e51, e52⟩, ex5, hInf5, hB5⟩ := hF.out w5 ((hb3.trans (hb4.mono hb3.size)).trans (hb5.mono (Nat.le_trans hb3.size hb4.size))); have q5 := hB5.bst.cell; have q5f := hB5.bst.frozen; have hB5H := Lib.hid hB5; have hne5 : ¬ eb = bm + 1 := by { have := hebH.out; omega }; clear hB5 hInf4 hInf5)
                        | (at_builtin; refine wpList_app_ad rfl (.tmp 64) (.tmp 66) rfl rfl (row_below (hB5H.out.best t).row ((Below.refl _ _).alloc (Nat.le_refl _) (.cells #[.bool x.v6, .int .u64 x.hi, .int .u64 x.lo] 31))) (by rw [World.size_alloc]; exact Nat.le_succ_of_le (hB5H.out.best t).size) (b := w5.heap.size) (off := 0) (m := 1) (T := [x]) rfl rfl (fun k r hk => by { rw [Nat.zero_add]; exact oneA_new2 (w5.setCell ⟨bm + 1, 0, none⟩ (.int .i64 t)) x (World.size_setCell _ _ _) k r hk }) (by have := hmlH.out; simp; omega) ?_
                           intro v6 w6 hown6 hgrow6 hat6
                           rw [← adC_append] at hown6
                           have hB6 := (hB5H.out.best t).app (m' := m ++ [x]) (((Below.refl _ _).alloc (hB5H.out.best t).size _).grown hgrow6 (by rw [World.size_alloc]; exact Nat.le_succ_of_le (hB5H.out.best t).size) (fun k hk => ((hB5H.out.best t).row.lt k hk).1)) (by rw [List.length_append]; exact hown6)
                           have hv6 : ∃ a6 c6, v6 = .slice a6 (m ++ [x]).length c6 := by { rw [List.length_append]; exact own_slice hown6 }
                           clear hown6 hgrow6 hat6))
                      go_roundw
                      case rel => exact ⟨j + 1, by omega, by go_num, by rw [res.out]; exact hv6, Lib.hid (by rw [res.out]; exact hB6)⟩
                      case measure => first | (simp [intOf]; done) | (simp [intOf]; omega)
                    · have res : Hid (bandTo st z now l (j + 1) = (m ++ [x], best)) := Lib.hid (by rw [res0.out, if_neg (by rintro (h | h); exact hml0 h; exact htb h)])
                      clear res0
                      go_wp2_with (first
                        | (go_at_call 14; refine (RightA_any _ x hxokH.out).mono ?_; rintro e w3 ⟨rfl, hb3⟩; rw [hrx]; obtain ⟨⟨e30, e31, e32⟩, ex3, hInf3, hB3⟩ := hF.out w3 hb3; clear hB3)
                        | (go_at_call 15; refine (Lame_I hInf3 hxokH.out z hs now).mono ?_; rintro e w4 ⟨rfl, hb4⟩; rw [hlx]; obtain ⟨⟨e40, e41, e42⟩, ex4, hInf4, hB4⟩ := hF.out w4 (hb3.trans (hb4.mono hb3.size)); clear hB4 hInf3)
                        | (go_at_call 16; refine (Timeout_I hInf4 hxokH.out).mono ?_; rintro e w5 ⟨rfl, hb5⟩; rw [htH.out]; obtain ⟨⟨e50, e51, e52⟩, ex5, hInf5, hB5⟩ := hF.out w5 ((hb3.trans (hb4.mono hb3.size)).trans (hb5.mono (Nat.le_trans hb3.size hb4.size))); have q5 := hB5.bst.cell; have q5f := hB5.bst.frozen; have hB5H := Lib.hid hB5; have hne5 : ¬ eb = bm + 1 := by { have := hebH.out; omega }; clear hB5 hInf4 hInf5)
                        | (at_builtin; refine wpList_app_ad rfl (.tmp 64) (.tmp 66) rfl rfl (row_below (hB5H.out).row ((Below.refl _ _).alloc (Nat.le_refl _) (.cells #[.bool x.v6, .int .u64 x.hi, .int .u64 x.lo] 31))) (by rw [World.size_alloc]; exact Nat.le_succ_of_le (hB5H.out).size) (b := w5.heap.size) (off := 0) (m := 1) (T := [x]) rfl rfl (fun k r hk => by { rw [Nat.zero_add]; exact oneA_new2 w5 x rfl k r hk }) (by have := hmlH.out; simp; omega) ?_
                           intro v6 w6 hown6 hgrow6 hat6
                           rw [← adC_append] at hown6
                           have hB6 := (hB5H.out).app (m' := m ++ [x]) (((Below.refl _ _).alloc (hB5H.out).size _).grown hgrow6 (by rw [World.size_alloc]; exact Nat.le_succ_of_le (hB5H.out).size) (fun k hk => ((hB5H.out).row.lt k hk).1)) (by rw [List.length_append]; exact hown6)
                           have hv6 : ∃ a6 c6, v6 = .slice a6 (m ++ [x]).length c6 := by { rw [List.length_append]; exact own_slice hown6 }
                           clear hown6 hgrow6 hat6))
                      go_roundw
                      case rel => exact ⟨j + 1, by omega, by go_num, by rw [res.out]; exact hv6, Lib.hid (by rw [res.out]; exact hB6)⟩
                      case measure => first | (simp [intOf]; done) | (simp [intOf]; omega)
            · have hin : x ∈ l.take j := Classical.byContradiction fun h => hqz (hq0H.out.2 h)
              have res : Hid (bandTo st z now l (j + 1) = (m, best)) := Lib.hid (by rw [hstep.out, if_pos (.inl hin)])
              have hq1 : (1 : Int) < (q : Int) + 1 := by omega
              clear hstep hF hqz
              go_wp2
              go_roundw
              case rel => exact ⟨j + 1, by omega, by go_num, ⟨am, cm, by rw [res.out, hmlH.out]⟩, Lib.hid (by rw [res.out]; exact hBcH.out)⟩
              case measure => first | (simp [intOf]; done) | (simp [intOf]; omega)
        · obtain rfl : j = n := by omega
          have hmm2 : ∀ y ∈ m, y.ok := fun y hy => hokH.out y (hbmem.out y hy)
          obtain ⟨l1, l2, l3, l4, l5, l6, l7⟩ := hI.out.lt
          have hD := Lib.hid (DelA_any (w := wr) (p1 := nx) (p2 := bm + 1) (base := bm + 2) (f := slow st best) (L := m) (fun W hW y hy => by
            have hbW : Below (bm + 2) wr W := hW.below hI.out.size (fun k hk e => by have e2 : bm + 2 ≤ k := e; omega)
            exact Band1_any (hhH.out.below (hI.out.bel.trans (hbW.mono l4))) (hmm2 y hy) ((hbW.cell (p := ⟨nx, 0, none⟩) l1).trans hI.out.xbox) ((hbW.cell (p := ⟨bm + 1, 0, none⟩) l3).trans hI.out.bst.cell) hbbst.1 (by omega)) hI.out.row hI.out.size (by rw [hmlH.out]; omega))
          have hbelH := Lib.hid hI.out.bel
          have hmbr : Hid (bandTo st z now l j = (m, best)) := hmbH
          clear hstep hbmem hmm2 hI
          go_wp2_with (go_at_call 36; refine hD.out.mono ?_; rintro e w7 ⟨v7, rfl, hown7, hb7⟩)
          go_ret
          refine ⟨_, rfl, ?_, hbelH.out.trans (hb7.mono l4)⟩
          rw [hmbr.out]
          exact row_low hown7 l4
end Go.Proofs.Yticijejnemnmlaa.If
