/- The reference's timer: before, its rows, Cancel. -/
import Derived.Test.YtmgapdbfaoflmaaTmO
import Derived.Test.YtmgapdbfaoflmaaRf
import Derived.Laws.AppendOwnNone
namespace Go.Proofs.Ytmgapdbfaoflmaa.Tm
open Go.RowKit Rt
set_option linter.unusedSimpArgs false
set_option linter.unusedVariables false
theorem before_ref (a b : It) (w : World) : Calls Try.prog 58 #[agg a, agg b] w fun e w' => e = .returned (.bool (decide (lt a b))) ∧ Below w.heap.size w w' := by
  obtain ⟨a1, a2⟩ := a
  obtain ⟨b1, b2⟩ := b
  unfold agg
  by_cases h1 : a2 < b2
  · have hr : Hid (decide (lt (a1, a2) (b1, b2)) = true) := Lib.hid (decide_eq_true (Or.inl h1))
    go_enter Try.func58, Try.ntmps58
    go_wp2
    go_ret
    exact ⟨by rw [hr.out]; rfl, ((Below.refl _ _).alloc (Nat.le_refl _) _).alloc (by simp) _⟩
  · by_cases h2 : a2 = b2
    · subst h2
      by_cases h3 : a1 < b1
      · have hr : Hid (decide (lt (a1, a2) (b1, a2)) = true) := Lib.hid (decide_eq_true (Or.inr ⟨rfl, h3⟩))
        go_enter Try.func58, Try.ntmps58
        go_wp2
        go_ret
        exact ⟨by rw [hr.out]; rfl, ((Below.refl _ _).alloc (Nat.le_refl _) _).alloc (by simp) _⟩
      · have hr : Hid (decide (lt (a1, a2) (b1, a2)) = false) := Lib.hid (decide_eq_false fun h => by have h : a2 < a2 ∨ (a2 = a2 ∧ a1 < b1) := h; omega)
        go_enter Try.func58, Try.ntmps58
        go_wp2
        go_ret
        exact ⟨by rw [hr.out]; rfl, ((Below.refl _ _).alloc (Nat.le_refl _) _).alloc (by simp) _⟩
    · have hr : Hid (decide (lt (a1, a2) (b1, b2)) = false) := Lib.hid (decide_eq_false fun h => by have h : a2 < b2 ∨ (a2 = b2 ∧ a1 < b1) := h; omega)
      have h2' : (a2 == b2) = false := by simpa using h2
      go_enter Try.func58, Try.ntmps58
      go_wp2
      go_ret
      exact ⟨by rw [hr.out]; rfl, ((Below.refl _ _).alloc (Nat.le_refl _) _).alloc (by simp) _⟩


theorem info67 : (Try.prog.info? 67).map (fun i => (i.zero, i.size, i.bytes)) = some (some (.agg #[.int .i64 0, .int .i64 0]), 2, 16) := by kernel_rfl
/-- A slice of items, wherever it lies. -/
def RowT (w : World) (v : Value) (S : List It) : Prop :=
  ∃ a c, v = .slice a S.length c ∧ S.length ≤ c ∧ c ≤ maxLen ∧ (a = none → c = 0) ∧ (0 < S.length → ∃ b off, a = some ⟨b, off, none⟩ ∧ b < w.heap.size ∧ ∀ j u, (itCells S)[j]? = some u → w.cell? ⟨b, off + j, none⟩ = some u)
theorem RowT.keep {w w' : World} {v : Value} {S : List It} (h : RowT w v S) (hk : ∀ k, k < w.heap.size → v.ownBlock = some k → w'.heap[k]? = w.heap[k]?) (hs : w.heap.size ≤ w'.heap.size) : RowT w' v S := by
  obtain ⟨a, c, rfl, h2, hc, hnn, h3⟩ := h
  refine ⟨a, c, rfl, h2, hc, hnn, fun h0 => ?_⟩
  obtain ⟨b, off, rfl, hb, hcell⟩ := h3 h0
  exact ⟨b, off, rfl, by omega, fun j u hj => (World.cell?_of_block (hk b hb rfl)).trans (hcell j u hj)⟩
theorem RowT.below {w w' : World} {v : Value} {S : List It} (h : RowT w v S) (hb : Below w.heap.size w w') : RowT w' v S := h.keep (fun k hk _ => hb.block k hk) hb.size
theorem RowT.at {w : World} {a : Option Addr} {n c : Nat} {S : List It} (h : RowT w (.slice a n c) S) (i : Nat) (hi : i < S.length) :
    ∃ b off, a = some ⟨b, off, none⟩ ∧ w.cell? ⟨b, off + i * 2, none⟩ = some (.int .i64 (g S i).1) ∧ w.cell? ⟨b, off + i * 2 + 1, none⟩ = some (.int .i64 (g S i).2) := by
  obtain ⟨a', c', h1, h2, hc, hnn, h3⟩ := h
  cases h1
  obtain ⟨b, off, e, hb, hcell⟩ := h3 (by omega)
  have h3 := itCells_get S i hi
  rw [Nat.mul_comm 2 i] at h3
  exact ⟨b, off, e, hcell _ _ h3.1, by rw [Nat.add_assoc]; exact hcell _ _ h3.2⟩
theorem RowT.cells {w : World} {b off n c : Nat} {S : List It} (h : RowT w (.slice (some ⟨b, off, none⟩) n c) S) (h0 : 0 < S.length) : b < w.heap.size ∧ ∀ j u, (itCells S)[j]? = some u → w.cell? ⟨b, off + j, none⟩ = some u := by
  obtain ⟨a', c', h1, h2, hc, hnn, h3⟩ := h
  cases h1
  obtain ⟨b', off', e, hb, hcell⟩ := h3 h0
  cases e
  exact ⟨hb, hcell⟩
theorem RowT.of_row {w : World} {base n : Nat} {v : Value} {S : List It} {xs : List Value} (h : w.ownsRow base 67 2 v n xs) (hn : n = S.length) (hx : xs = itCells S) : RowT w v S := by
  subst hn hx
  have hc := h
  rcases h.2 with ⟨rfl, e⟩ | ⟨g, cap, cur, rfl, hbg, hh, hle, hcm, hsz, htk⟩
  · exact ⟨none, 0, by rw [e], by omega, by simp, fun _ => rfl, fun h0 => by omega⟩
  · refine ⟨_, cap, rfl, hle, hcm, by simp, fun h0 => ⟨g, 0, rfl, (Array.getElem?_eq_some_iff.1 hh).1, fun j u hj => ?_⟩⟩
    have hjl : j < (itCells S).length := (List.getElem?_eq_some_iff.1 hj).1
    have := hc.cellAt j (by rw [itCells_length] at hjl; exact hjl)
    rw [Nat.zero_add, this]
    exact hj
theorem own_slice {w : World} {base e size n : Nat} {v : Value} {xs : List Value} (h : w.ownsRow base e size v n xs) : ∃ a c, v = .slice a n c := by
  rcases h.2 with ⟨rfl, rfl⟩ | ⟨g, cap, cur, rfl, _⟩
  · exact ⟨_, _, rfl⟩
  · exact ⟨_, _, rfl⟩
theorem grown_refl (w : World) (r : Option Nat) : w.grownBy w r := ⟨rfl, rfl, rfl, Nat.le_refl _, fun _ _ _ => rfl⟩
/-- append of a slice of items, nil or not, to a row of one's own. -/
theorem wpList_app_it {w : World} {ops : Array Oper} {rest : List Oper} {o : Oper} {a : Act} {Q : Exit → Act → World → Prop} (hgd : o.guard = none) (s x : Operand)
    (ho : o.op = .call { callee := .builtin .append, args := #[s, x], argTypes := #[56, 56] }) {base n : Nat} {v : Value} {xs : List Value} (hs : a.eval s = v) (hown : w.ownsRow base 67 2 v n xs) (hbase : base ≤ w.heap.size)
    {A : Option Addr} {c m : Nat} {T : List It} (hx : a.eval x = .slice A m c) (hm : m = T.length) (hnn : A = none → c = 0 ∧ m = 0) (hT : 0 < T.length → ∃ b off, A = some ⟨b, off, none⟩ ∧ ∀ j u, (itCells T)[j]? = some u → w.cell? ⟨b, off + j, none⟩ = some u)
    (hl : n + T.length ≤ 1099511627776)
    (h : ∀ v' w', w'.ownsRow base 67 2 v' (n + T.length) (xs ++ itCells T) → w.grownBy w' v.ownBlock → (v'.ownBlock = v.ownBlock ∨ v'.ownBlock = some w.heap.size) → wpList Try.prog ops Q rest (a.put o.dst v') w') : wpList Try.prog ops Q (o :: rest) a w := by
  obtain ⟨i0, hi, hz0, hz1, hz2⟩ := info_parts info67
  subst hm
  cases A with
  | none =>
    obtain ⟨rfl, e⟩ := hnn rfl
    obtain rfl := List.length_eq_zero_iff.1 e
    exact wpList_append_own_none hgd s x 56 ho base 67 i0 2 Try.underlying56 hi v n xs hs hown hx (h _ _ (by simpa [itCells] using hown) (grown_refl _ _) (.inl rfl))
  | some A =>
    have hone : ∀ u ∈ itCells T, u.oneCell' = true := fun u hu => by obtain ⟨q, _, hq⟩ := List.mem_flatMap.1 hu; simp at hq; rcases hq with rfl | rfl <;> rfl
    have hnews : ∀ j u, (itCells T)[j]? = some u → w.cell? (A.add j) = some u := by
      intro j u hj
      have hjl : j < (itCells T).length := (List.getElem?_eq_some_iff.1 hj).1
      rw [itCells_length] at hjl
      obtain ⟨b, off, e, hcell⟩ := hT (by omega)
      have e := Option.some.inj e
      subst e
      rw [Addr.add_lit]
      exact hcell j u hj
    exact wpList_append_own_at _ hgd s x 56 ho base 67 i0 (.agg #[.int .i64 0, .int .i64 0]) 2 16 Try.underlying56 hi hz0 hz1 hz2 rfl (by decide) v n xs hs hown A T.length c (itCells T) hx (itCells_length T) hnews hone (by unfold maxLen; omega) (by omega) hbase (fun v1 w1 q1 q2 _ q4 => h v1 w1 q1 q2 q4)
/-- The reference's timer at p. -/
structure RefT (w : World) (p : Nat) (v : Value) (S : List It) : Prop where
  top : w.heap[p]? = some (.cells #[v] 58 (0, 0))
  row : RowT w v S
  sep : v.ownBlock ≠ some p
section
variable {w w' : World} {p : Nat} {v : Value} {S : List It}
theorem RefT.lt (h : RefT w p v S) : p < w.heap.size := (Array.getElem?_eq_some_iff.1 h.top).1
theorem RefT.c0 (h : RefT w p v S) : w.cell? ⟨p, 0, none⟩ = some v := by simp [World.cell?, h.top]
theorem RefT.fr (h : RefT w p v S) : w.frozen? ⟨p, 0, none⟩ = false := by simp [World.frozen?, h.top]
theorem RefT.keep (h : RefT w p v S) (hk : ∀ k, k < w.heap.size → (k = p ∨ v.ownBlock = some k) → w'.heap[k]? = w.heap[k]?) (hs : w.heap.size ≤ w'.heap.size) : RefT w' p v S :=
  ⟨(hk p h.lt (.inl rfl)).trans h.top, h.row.keep (fun k h1 h2 => hk k h1 (.inr h2)) hs, h.sep⟩
theorem RefT.below (h : RefT w p v S) (hb : Below w.heap.size w w') : RefT w' p v S := h.keep (fun k hk _ => hb.block k hk) hb.size
theorem RefT.drew (h : RefT w p v S) : RefT w.drew p v S := h.keep (fun _ _ _ => rfl) (Nat.le_refl _)
/-- The slice is set. -/
theorem RefT.put (h : RefT w p v S) {w1 : World} (hb : Below w.heap.size w w1) {v' : Value} {S' : List It} (hr : RowT w1 v' S') (hs : v'.ownBlock ≠ some p) : RefT (w1.setCell ⟨p, 0, none⟩ v') p v' S' ∧ Kept (fun k => k = p) w (w1.setCell ⟨p, 0, none⟩ v') := by
  have htop : w1.heap[p]? = some (.cells #[v] 58 (0, 0)) := (hb.block p h.lt).trans h.top
  refine ⟨⟨?_, hr.keep (fun k hk e => Below.heap_setCell _ _ _ _ (by rintro rfl; exact hs e)) (by simp [World.setCell]), hs⟩, Kept.setCell (S := fun k => k = p) (p := ⟨p, 0, none⟩) (Kept.of_below hb) (.inl rfl) _⟩
  obtain ⟨hl, hk⟩ := Array.getElem?_eq_some_iff.1 htop
  show (w1.heap.modify p _)[p]? = _
  rw [Array.getElem?_eq_getElem (by rw [Array.size_modify]; exact hl), Array.getElem_modify_self, hk]
  rfl
theorem eraseS_at {S : List It} {id : Int} {k : Nat} (hk : k < S.length) (h1 : ∀ j, j < k → (g S j).1 ≠ id) (h2 : (g S k).1 = id) : eraseS S id = S.take k ++ S.drop (k + 1) ∧ hasS S id = true := by
  induction S generalizing k with
  | nil => simp at hk
  | cons a S ih =>
    cases k with
    | zero =>
      have e : (a.1 == id) = true := by simpa [g] using h2
      refine ⟨?_, ?_⟩
      · unfold eraseS; rw [List.eraseP_cons_of_pos (p := fun p : It => p.1 == id) e]; simp
      · unfold hasS; rw [List.any_cons, e]; rfl
    | succ k =>
      have e0 : a.1 ≠ id := by have := h1 0 (by omega); simpa [g] using this
      have e : ¬ (a.1 == id) = true := by simpa using e0
      obtain ⟨i1, i2⟩ := ih (k := k) (by simpa using hk) (fun j hj => by have := h1 (j + 1) (by omega); simpa [g] using this) (by simpa [g] using h2)
      unfold eraseS hasS at *
      rw [List.eraseP_cons_of_neg (p := fun p : It => p.1 == id) e, i1, List.any_cons, i2]
      simp
theorem eraseS_not {S : List It} {id : Int} (h1 : ∀ j, j < S.length → (g S j).1 ≠ id) : eraseS S id = S ∧ hasS S id = false := by
  have h : ∀ p ∈ S, p.1 ≠ id := fun p hp => by
    obtain ⟨j, hj, rfl⟩ := List.mem_iff_getElem.1 hp
    have := h1 j hj
    rwa [g_eq hj] at this
  refine ⟨eraseS_none h, ?_⟩
  unfold hasS
  rw [List.any_eq_false]
  intro p hp
  simpa using h p hp

theorem cut_cells {S : List It} {k : Nat} (hk : k < S.length) : (S.take k).length = k ∧ (S.drop (k + 1)).length + (k + 1) = S.length ∧ (∀ (j : Nat) (u : Value), (itCells (S.take k))[j]? = some u → (itCells S)[j]? = some u) ∧ (∀ (j : Nat) (u : Value), (itCells (S.drop (k + 1)))[j]? = some u → (itCells S)[(k + 1) * 2 + j]? = some u) := by
  refine ⟨by simp; omega, by simp; omega, fun j u hj => ?_, fun j u hj => ?_⟩
  · have e : S = S.take k ++ S.drop k := (List.take_append_drop k S).symm
    rw [e, itCells_append, List.getElem?_append_left (List.getElem?_eq_some_iff.1 hj).1]
    exact hj
  · have e : S = S.take (k + 1) ++ S.drop (k + 1) := (List.take_append_drop (k + 1) S).symm
    have hl : (itCells (S.take (k + 1))).length = (k + 1) * 2 := by rw [itCells_length, List.length_take]; omega
    rw [e, itCells_append, List.getElem?_append_right (by omega), hl, show (k + 1) * 2 + j - (k + 1) * 2 = j by omega]
    exact hj
set_option maxRecDepth 100000 in
set_option maxHeartbeats 2000000 in
theorem RCancel_any (h : RefT w p v S) (id : Int) (hid : wf id) (hn : S.length < 1099511627776) :
    Calls Try.prog 35 #[.pointer (some ⟨p, 0, none⟩), .int .i64 id] w fun e w' => e = .returned (.bool (hasS S id)) ∧ ∃ v', RefT w' p v' (eraseS S id) ∧ (v'.ownBlock = v.ownBlock ∨ v'.ownBlock = none ∨ ∃ g, v'.ownBlock = some g ∧ w.heap.size ≤ g) ∧ Kept (fun k => k = p) w w' := by
  have h0 := h
  obtain ⟨a, c, rfl, hlc, hcm, hnn, _⟩ := h.row
  have c0 := h.c0
  have f0 := h.fr
  have hcm' : (c : Int) ≤ 9223372036854775807 := by unfold maxLen at hcm; omega
  obtain ⟨n, hnS⟩ : ∃ n, S.length = n := ⟨_, rfl⟩
  rw [hnS] at c0 hlc
  have hnH := Lib.hid hnS
  have hnb : n < 1099511627776 := by omega
  have hlt := h.lt
  clear hn hnS
  go_enter Try.func35, Try.ntmps35
  go_wp2
  go_loop [5] (fun i => ∃ k : Nat, i = .int .i64 k ∧ k ≤ n ∧ ∀ j, j < k → (g S j).1 ≠ id) (fun i => n - (intOf i).toNat)
  case atStart => exact ⟨0, rfl, Nat.zero_le _, fun j hj => by omega⟩
  case round =>
    obtain ⟨k, rfl, hk, hno⟩ := hrel
    by_cases hkn : k < n
    · have hkn' : (k : Int) < n := by omega
      obtain ⟨b, off, hba, q1, q2⟩ := (by have := h0.row; rw [hnH.out] at this; exact this : RowT w (.slice a n c) S).at k (by rw [hnH.out]; exact hkn)
      subst hba
      obtain ⟨x, hx⟩ : ∃ x, (g S k).1 = x := ⟨_, rfl⟩
      rw [hx] at q1
      clear q2
      by_cases hxi : x = id
      · subst hxi
        have hxx : (x == x) = true := by simp
        obtain ⟨e1, e2⟩ := eraseS_at (S := S) (id := x) (by rw [hnH.out]; exact hkn) hno hx
        have hR := h0.row
        rw [hnH.out] at hR
        obtain ⟨T1, hT1⟩ : ∃ T, S.take k = T := ⟨_, rfl⟩
        obtain ⟨T2, hT2⟩ : ∃ T, S.drop (k + 1) = T := ⟨_, rfl⟩
        have hS := cut_cells (S := S) (k := k) (by rw [hnH.out]; exact hkn)
        rw [hT1, hT2] at hS e1
        obtain ⟨hl1, hl2, hs1, hs2⟩ := hS
        rw [hnH.out] at hl2
        obtain ⟨hbl, hcell⟩ := hR.cells (by rw [hnH.out]; omega)
        have hcH := Lib.hid hcell
        have hs1H := Lib.hid hs1
        have hs2H := Lib.hid hs2
        have e1H := Lib.hid e1
        have e2H := Lib.hid e2
        have hkc : (k : Int) ≤ c := by omega
        have hkw : (k : Int) + 1 ≤ c := by omega
        have hkw2 : (k : Int) + 1 ≤ n := by omega
        have hw1 := Tm.wr (show -9223372036854775808 ≤ (k : Int) + 1 by omega) (by omega)
        have hl1H := Lib.hid hl1
        have hl2H := Lib.hid hl2
        clear hcell hs1 hs2 e1 e2 hno hT1 hT2 hx hl1 hl2
        have c0H := Lib.hid c0
        have f0H := Lib.hid f0
        have hbH := Lib.hid hbl
        by_cases hck : c = k + 1
        · have hck2 : c - (k + 1) = 0 := by omega
          have hck3 : (c : Int) ≤ k + 1 := by omega
          have hckH := Lib.hid hck
          clear hck
          go_wp2_with (at_builtin; first
            | (refine wpList_app_it rfl (.tmp 26) (.tmp 32) rfl rfl (World.ownsRow_nil w w.heap.size 67 2) (Nat.le_refl _) (T := T1) rfl hl1H.out.symm (fun e => by cases e) (fun _ => ⟨b, off, rfl, fun j u hj => hcH.out j u (hs1H.out j u hj)⟩) (by rw [hl1H.out]; omega) ?_
               intro v2 w2 hown2 hgrow2 hat2
               rw [Nat.zero_add, List.nil_append] at hown2
               have hb2 : Below w.heap.size w w2 := (Below.refl _ _).grown hgrow2 (by simp) (fun k hk => by cases hk)
               have c2 := (hb2.cell (p := ⟨p, 0, none⟩) hlt).trans c0H.out)
            | (refine wpList_app_it rfl (.tmp 35) (.tmp 42) rfl rfl hown2 hb2.size (T := T2) rfl (by have := hl2H.out; omega) (fun e => by cases e) (fun hpos => ⟨b, _, rfl, fun j u hj => by first | (rw [Nat.add_assoc]; exact (hb2.cell (p := ⟨b, off + ((k + 1) * 2 + j), none⟩) hbH.out).trans (hcH.out _ _ (hs2H.out j u hj))) | (exfalso; have := hl2H.out; omega)⟩) (by have := hl2H.out; have := hl1H.out; omega) ?_
               intro v3 w3 hown3 hgrow3 hat3
               have hb3 : Below w.heap.size w w3 := hb2.grown hgrow3 hb2.size (fun k hk => (hown2.lt k hk).1)
               have c3 := (hb3.cell (p := ⟨p, 0, none⟩) hlt).trans c0H.out
               have f3 := (hb3.frozen (p := ⟨p, 0, none⟩) hlt).trans f0H.out
               obtain ⟨a3, cc3, rfl⟩ := own_slice hown3
               clear hgrow2 hat2 hgrow3 hat3))
          have hsep : (Value.slice a3 (T1.length + T2.length) cc3).ownBlock ≠ some p := fun e => by have := (hown3.lt p e).1; omega
          obtain ⟨r1, r2⟩ := h0.put hb3 (RowT.of_row (S := T1 ++ T2) hown3 (by rw [List.length_append]) (by rw [itCells_append])) hsep
          go_ret
          refine ⟨by rw [e2H.out]; rfl, _, by rw [e1H.out]; exact r1, .inr ?_, r2⟩
          rcases hq : (Value.slice a3 (T1.length + T2.length) cc3).ownBlock with _ | q
          · exact .inl rfl
          · exact .inr ⟨q, rfl, (hown3.lt q hq).1⟩
        · have hck' : ¬ (c : Int) - (k + 1) = 0 := by omega
          have hck2 : ¬ c - (k + 1) = 0 := by omega
          have hck3 : ¬ c ≤ k + 1 := by omega
          go_wp2_with (at_builtin; first
            | (refine wpList_app_it rfl (.tmp 26) (.tmp 32) rfl rfl (World.ownsRow_nil w w.heap.size 67 2) (Nat.le_refl _) (T := T1) rfl hl1H.out.symm (fun e => by cases e) (fun _ => ⟨b, off, rfl, fun j u hj => hcH.out j u (hs1H.out j u hj)⟩) (by rw [hl1H.out]; omega) ?_
               intro v2 w2 hown2 hgrow2 hat2
               rw [Nat.zero_add, List.nil_append] at hown2
               have hb2 : Below w.heap.size w w2 := (Below.refl _ _).grown hgrow2 (by simp) (fun k hk => by cases hk)
               have c2 := (hb2.cell (p := ⟨p, 0, none⟩) hlt).trans c0H.out)
            | (refine wpList_app_it rfl (.tmp 35) (.tmp 42) rfl rfl hown2 hb2.size (T := T2) rfl (by have := hl2H.out; omega) (fun e => by cases e) (fun hpos => ⟨b, _, rfl, fun j u hj => by first | (rw [Nat.add_assoc]; exact (hb2.cell (p := ⟨b, off + ((k + 1) * 2 + j), none⟩) hbH.out).trans (hcH.out _ _ (hs2H.out j u hj))) | (exfalso; have := hl2H.out; omega)⟩) (by have := hl2H.out; have := hl1H.out; omega) ?_
               intro v3 w3 hown3 hgrow3 hat3
               have hb3 : Below w.heap.size w w3 := hb2.grown hgrow3 hb2.size (fun k hk => (hown2.lt k hk).1)
               have c3 := (hb3.cell (p := ⟨p, 0, none⟩) hlt).trans c0H.out
               have f3 := (hb3.frozen (p := ⟨p, 0, none⟩) hlt).trans f0H.out
               obtain ⟨a3, cc3, rfl⟩ := own_slice hown3
               clear hgrow2 hat2 hgrow3 hat3))
          have hsep : (Value.slice a3 (T1.length + T2.length) cc3).ownBlock ≠ some p := fun e => by have := (hown3.lt p e).1; omega
          obtain ⟨r1, r2⟩ := h0.put hb3 (RowT.of_row (S := T1 ++ T2) hown3 (by rw [List.length_append]) (by rw [itCells_append])) hsep
          go_ret
          refine ⟨by rw [e2H.out]; rfl, _, by rw [e1H.out]; exact r1, .inr ?_, r2⟩
          rcases hq : (Value.slice a3 (T1.length + T2.length) cc3).ownBlock with _ | q
          · exact .inl rfl
          · exact .inr ⟨q, rfl, (hown3.lt q hq).1⟩
      · have hxx : (x == id) = false := by simpa using hxi
        have hnoH := Lib.hid (show ∀ j, j < k + 1 → (g S j).1 ≠ id from fun j hj => by
          by_cases e : j < k
          · exact hno j e
          · rw [show j = k by omega, hx]; exact hxi)
        clear hx hno hxi
        go_wp2
        go_round
        case rel => exact ⟨k + 1, by go_num, by omega, hnoH.out⟩
        case measure => simp [intOf]; omega
    · obtain rfl : k = n := by omega
      have hlt' : ¬ (k : Int) < k := by omega
      obtain ⟨e1, e2⟩ := eraseS_not (S := S) (id := id) (fun j hj => hno j (by rw [← hnH.out]; exact hj))
      have e2H := Lib.hid e2
      clear e2 hno
      go_wp2
      go_ret
      exact ⟨by rw [e2H.out]; rfl, _, by first | exact h0 | (rw [e1]; exact h0), .inl rfl, Kept.refl _ _⟩
end
end Go.Proofs.Ytmgapdbfaoflmaa.Tm
