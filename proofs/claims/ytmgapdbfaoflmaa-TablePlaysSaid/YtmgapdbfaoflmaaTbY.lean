/- The reference's table: rows of pairs, find, without. -/
import Derived.Test.YtmgapdbfaoflmaaTbT
import Derived.Test.YtmgapdbfaoflmaaRf
import Derived.Laws.AppendOwnNone
namespace Go.Proofs.Ytmgapdbfaoflmaa.Tb
open Go.RowKit Go.Shelf Rt Tm
set_option linter.unusedSimpArgs false
set_option linter.unusedVariables false
def gk (l : List KV) (i : Nat) : KV := l.getD i (⟨#[]⟩, 0)
theorem gk_eq {l : List KV} {i : Nat} (h : i < l.length) : gk l i = l[i] := by unfold gk; rw [List.getD_eq_getElem?_getD, List.getElem?_eq_getElem h]; rfl
/-- The cells of a row of pairs. -/
def kvCells (l : List KV) : List Value := l.flatMap fun p => [.string p.1, .int .i64 p.2]
theorem kvCells_length (l : List KV) : (kvCells l).length = l.length * 2 := by
  induction l with
  | nil => rfl
  | cons a l ih => simp [kvCells] at ih ⊢; omega
theorem kvCells_append (a b : List KV) : kvCells (a ++ b) = kvCells a ++ kvCells b := by simp [kvCells]
theorem kvCells_get : ∀ (l : List KV) (i : Nat), i < l.length → (kvCells l)[2 * i]? = some (.string (gk l i).1) ∧ (kvCells l)[2 * i + 1]? = some (.int .i64 (gk l i).2)
  | [], i, h => by simp at h
  | a :: l, 0, _ => ⟨rfl, rfl⟩
  | a :: l, i + 1, h => by
    have := kvCells_get l i (by simpa using h)
    exact this
theorem info101 : (Try.prog.info? 101).map (fun i => (i.zero, i.size, i.bytes)) = some (some (.agg #[.string ⟨#[]⟩, .int .i64 0]), 2, 24) := by kernel_rfl
/-- A slice of pairs, wherever it lies. -/
def RowK (w : World) (v : Value) (S : List KV) : Prop :=
  ∃ a c, v = .slice a S.length c ∧ S.length ≤ c ∧ c ≤ maxLen ∧ (a = none → c = 0) ∧ (0 < S.length → ∃ b off, a = some ⟨b, off, none⟩ ∧ b < w.heap.size ∧ ∀ j u, (kvCells S)[j]? = some u → w.cell? ⟨b, off + j, none⟩ = some u)
theorem RowK.keep {w w' : World} {v : Value} {S : List KV} (h : RowK w v S) (hk : ∀ k, k < w.heap.size → v.ownBlock = some k → w'.heap[k]? = w.heap[k]?) (hs : w.heap.size ≤ w'.heap.size) : RowK w' v S := by
  obtain ⟨a, c, rfl, h2, hc, hnn, h3⟩ := h
  refine ⟨a, c, rfl, h2, hc, hnn, fun h0 => ?_⟩
  obtain ⟨b, off, rfl, hb, hcell⟩ := h3 h0
  exact ⟨b, off, rfl, by omega, fun j u hj => (World.cell?_of_block (hk b hb rfl)).trans (hcell j u hj)⟩
theorem RowK.below {w w' : World} {v : Value} {S : List KV} (h : RowK w v S) (hb : Below w.heap.size w w') : RowK w' v S := h.keep (fun k hk _ => hb.block k hk) hb.size
theorem RowK.at {w : World} {a : Option Addr} {n c : Nat} {S : List KV} (h : RowK w (.slice a n c) S) (i : Nat) (hi : i < S.length) :
    ∃ b off, a = some ⟨b, off, none⟩ ∧ w.cell? ⟨b, off + i * 2, none⟩ = some (.string (gk S i).1) ∧ w.cell? ⟨b, off + i * 2 + 1, none⟩ = some (.int .i64 (gk S i).2) := by
  obtain ⟨a', c', h1, h2, hc, hnn, h3⟩ := h
  cases h1
  obtain ⟨b, off, e, hb, hcell⟩ := h3 (by omega)
  have h3 := kvCells_get S i hi
  rw [Nat.mul_comm 2 i] at h3
  exact ⟨b, off, e, hcell _ _ h3.1, by rw [Nat.add_assoc]; exact hcell _ _ h3.2⟩
theorem RowK.cells {w : World} {b off n c : Nat} {S : List KV} (h : RowK w (.slice (some ⟨b, off, none⟩) n c) S) (h0 : 0 < S.length) : b < w.heap.size ∧ ∀ j u, (kvCells S)[j]? = some u → w.cell? ⟨b, off + j, none⟩ = some u := by
  obtain ⟨a', c', h1, h2, hc, hnn, h3⟩ := h
  cases h1
  obtain ⟨b', off', e, hb, hcell⟩ := h3 h0
  cases e
  exact ⟨hb, hcell⟩
theorem RowK.of_row {w : World} {base n : Nat} {v : Value} {S : List KV} {xs : List Value} (h : w.ownsRow base 101 2 v n xs) (hn : n = S.length) (hx : xs = kvCells S) : RowK w v S := by
  subst hn hx
  have hc := h
  rcases h.2 with ⟨rfl, e⟩ | ⟨g, cap, cur, rfl, hbg, hh, hle, hcm, hsz, htk⟩
  · exact ⟨none, 0, by rw [e], by omega, by simp, fun _ => rfl, fun h0 => by omega⟩
  · refine ⟨_, cap, rfl, hle, hcm, by simp, fun h0 => ⟨g, 0, rfl, (Array.getElem?_eq_some_iff.1 hh).1, fun j u hj => ?_⟩⟩
    have hjl : j < (kvCells S).length := (List.getElem?_eq_some_iff.1 hj).1
    have := hc.cellAt j (by rw [kvCells_length] at hjl; exact hjl)
    rw [Nat.zero_add, this]
    exact hj
theorem own_slice {w : World} {base e size n : Nat} {v : Value} {xs : List Value} (h : w.ownsRow base e size v n xs) : ∃ a c, v = .slice a n c := by
  rcases h.2 with ⟨rfl, rfl⟩ | ⟨g, cap, cur, rfl, _⟩
  · exact ⟨_, _, rfl⟩
  · exact ⟨_, _, rfl⟩
theorem grown_refl (w : World) (r : Option Nat) : w.grownBy w r := ⟨rfl, rfl, rfl, Nat.le_refl _, fun _ _ _ => rfl⟩
/-- append of a slice of items, nil or not, to a row of one's own. -/
theorem wpList_app_kv {w : World} {ops : Array Oper} {rest : List Oper} {o : Oper} {a : Act} {Q : Exit → Act → World → Prop} (hgd : o.guard = none) (s x : Operand)
    (ho : o.op = .call { callee := .builtin .append, args := #[s, x], argTypes := #[37, 37] }) {base n : Nat} {v : Value} {xs : List Value} (hs : a.eval s = v) (hown : w.ownsRow base 101 2 v n xs) (hbase : base ≤ w.heap.size)
    {A : Option Addr} {c m : Nat} {T : List KV} (hx : a.eval x = .slice A m c) (hm : m = T.length) (hnn : A = none → c = 0 ∧ m = 0) (hT : 0 < T.length → ∃ b off, A = some ⟨b, off, none⟩ ∧ ∀ j u, (kvCells T)[j]? = some u → w.cell? ⟨b, off + j, none⟩ = some u)
    (hl : n + T.length ≤ 1099511627776)
    (h : ∀ v' w', w'.ownsRow base 101 2 v' (n + T.length) (xs ++ kvCells T) → w.grownBy w' v.ownBlock → (v'.ownBlock = v.ownBlock ∨ v'.ownBlock = some w.heap.size) → wpList Try.prog ops Q rest (a.put o.dst v') w') : wpList Try.prog ops Q (o :: rest) a w := by
  obtain ⟨i0, hi, hz0, hz1, hz2⟩ := info_parts info101
  subst hm
  cases A with
  | none =>
    obtain ⟨rfl, e⟩ := hnn rfl
    obtain rfl := List.length_eq_zero_iff.1 e
    exact wpList_append_own_none hgd s x 37 ho base 101 i0 2 Try.underlying37 hi v n xs hs hown hx (h _ _ (by simpa [kvCells] using hown) (grown_refl _ _) (.inl rfl))
  | some A =>
    have hone : ∀ u ∈ kvCells T, u.oneCell' = true := fun u hu => by obtain ⟨q, _, hq⟩ := List.mem_flatMap.1 hu; simp at hq; rcases hq with rfl | rfl <;> rfl
    have hnews : ∀ j u, (kvCells T)[j]? = some u → w.cell? (A.add j) = some u := by
      intro j u hj
      have hjl : j < (kvCells T).length := (List.getElem?_eq_some_iff.1 hj).1
      rw [kvCells_length] at hjl
      obtain ⟨b, off, e, hcell⟩ := hT (by omega)
      have e := Option.some.inj e
      subst e
      rw [Addr.add_lit]
      exact hcell j u hj
    exact wpList_append_own_at _ hgd s x 37 ho base 101 i0 (.agg #[.string ⟨#[]⟩, .int .i64 0]) 2 24 Try.underlying37 hi hz0 hz1 hz2 rfl (by decide) v n xs hs hown A T.length c (kvCells T) hx (kvCells_length T) hnews hone (by unfold maxLen; omega) (by omega) hbase (fun v1 w1 q1 q2 _ q4 => h v1 w1 q1 q2 q4)
theorem cut_cells {S : List KV} {k : Nat} (hk : k < S.length) : (S.take k).length = k ∧ (S.drop (k + 1)).length + (k + 1) = S.length ∧ (∀ (j : Nat) (u : Value), (kvCells (S.take k))[j]? = some u → (kvCells S)[j]? = some u) ∧ (∀ (j : Nat) (u : Value), (kvCells (S.drop (k + 1)))[j]? = some u → (kvCells S)[(k + 1) * 2 + j]? = some u) := by
  refine ⟨by simp; omega, by simp; omega, fun j u hj => ?_, fun j u hj => ?_⟩
  · have e : S = S.take k ++ S.drop k := (List.take_append_drop k S).symm
    rw [e, kvCells_append, List.getElem?_append_left (List.getElem?_eq_some_iff.1 hj).1]
    exact hj
  · have e : S = S.take (k + 1) ++ S.drop (k + 1) := (List.take_append_drop (k + 1) S).symm
    have hl : (kvCells (S.take (k + 1))).length = (k + 1) * 2 := by rw [kvCells_length, List.length_take]; omega
    rw [e, kvCells_append, List.getElem?_append_right (by omega), hl, show (k + 1) * 2 + j - (k + 1) * 2 = j by omega]
    exact hj

theorem cut_rows {S : List KV} {k : Nat} (hk : k ≤ S.length) : (S.take k).length = k ∧ (∀ (j : Nat) (u : Value), (kvCells (S.take k))[j]? = some u → (kvCells S)[j]? = some u) := by
  refine ⟨by simp; omega, fun j u hj => ?_⟩
  have e : S = S.take k ++ S.drop k := (List.take_append_drop k S).symm
  rw [e, kvCells_append, List.getElem?_append_left (List.getElem?_eq_some_iff.1 hj).1]
  exact hj
/-- The reference's table at p. -/
structure RefK (w : World) (p : Nat) (most : Int) (v : Value) (S : List KV) : Prop where
  top : w.heap[p]? = some (.cells #[.int .i64 most, v] 39 (0, 0))
  row : RowK w v S
  sep : v.ownBlock ≠ some p
section
variable {w w' : World} {p : Nat} {most : Int} {v : Value} {S : List KV} {k : ByteArray}
theorem RefK.lt (h : RefK w p most v S) : p < w.heap.size := (Array.getElem?_eq_some_iff.1 h.top).1
theorem RefK.c0 (h : RefK w p most v S) : w.cell? ⟨p, 0, none⟩ = some (.int .i64 most) := by simp [World.cell?, h.top]
theorem RefK.c1 (h : RefK w p most v S) : w.cell? ⟨p, 1, none⟩ = some v := by simp [World.cell?, h.top]
theorem RefK.fr (h : RefK w p most v S) (j : Nat) : w.frozen? ⟨p, j, none⟩ = false := by simp [World.frozen?, h.top]
theorem RefK.keep2 (h : RefK w p most v S) (hp : w'.heap[p]? = w.heap[p]?) (hk : 0 < S.length → ∀ k, v.ownBlock = some k → w'.heap[k]? = w.heap[k]?) (hs : w.heap.size ≤ w'.heap.size) : RefK w' p most v S := by
  refine ⟨hp.trans h.top, ?_, h.sep⟩
  obtain ⟨a, c, rfl, h2, hc, hnn, h3⟩ := h.row
  refine ⟨a, c, rfl, h2, hc, hnn, fun h0 => ?_⟩
  obtain ⟨b, off, rfl, hb, hcell⟩ := h3 h0
  exact ⟨b, off, rfl, by omega, fun j u hj => (World.cell?_of_block (hk h0 b rfl)).trans (hcell j u hj)⟩
theorem RefK.own_lt (h : RefK w p most v S) (h0 : 0 < S.length) {k : Nat} (hk : v.ownBlock = some k) : k < w.heap.size := by
  obtain ⟨a, c, rfl, _, _, _, h3⟩ := h.row
  obtain ⟨b, off, rfl, hb, _⟩ := h3 h0
  have : b = k := Option.some.inj hk
  omega
theorem RefK.below (h : RefK w p most v S) (hb : Below w.heap.size w w') : RefK w' p most v S := h.keep2 (hb.block p h.lt) (fun h0 k hk => hb.block k (h.own_lt h0 hk)) hb.size
theorem RefK.drew (h : RefK w p most v S) : RefK w.drew p most v S := h.below (Below.refl _ _).drew
/-- The slice is set. -/
theorem RefK.put (h : RefK w p most v S) {w1 : World} (hb : Below w.heap.size w w1) {v' : Value} {S' : List KV} (hr : RowK w1 v' S') (hs : v'.ownBlock ≠ some p) : RefK (w1.setCell ⟨p, 1, none⟩ v') p most v' S' ∧ Kept (fun k => k = p) w (w1.setCell ⟨p, 1, none⟩ v') := by
  have htop : w1.heap[p]? = some (.cells #[.int .i64 most, v] 39 (0, 0)) := (hb.block p h.lt).trans h.top
  refine ⟨⟨?_, hr.keep (fun k hk e => Below.heap_setCell _ _ _ _ (by rintro rfl; exact hs e)) (by simp [World.setCell]), hs⟩, Kept.setCell (S := fun k => k = p) (p := ⟨p, 1, none⟩) (Kept.of_below hb) (.inl rfl) _⟩
  obtain ⟨hl, hk⟩ := Array.getElem?_eq_some_iff.1 htop
  show (w1.heap.modify p _)[p]? = _
  rw [Array.getElem?_eq_getElem (by rw [Array.size_modify]; exact hl), Array.getElem_modify_self, hk]
  rfl
set_option maxRecDepth 100000 in
set_option maxHeartbeats 2000000 in
theorem find_any (h : RefK w p most v S) (hn : S.length < 1099511627776) (k : ByteArray) :
    Calls Try.prog 52 #[.pointer (some ⟨p, 0, none⟩), .string k] w fun e w' => w' = w ∧ ((e = .returned (.int .i64 (-1)) ∧ ∀ j, j < S.length → (gk S j).1 ≠ k) ∨ ∃ i : Nat, e = .returned (.int .i64 i) ∧ i < S.length ∧ (gk S i).1 = k ∧ ∀ j, j < i → (gk S j).1 ≠ k) := by
  have h0 := h
  obtain ⟨a, c, rfl, hlc, hcm, hnn, _⟩ := h.row
  have c1 := h.c1
  have hcm' : (c : Int) ≤ 9223372036854775807 := by unfold maxLen at hcm; omega
  obtain ⟨n, hnS⟩ : ∃ n, S.length = n := ⟨_, rfl⟩
  rw [hnS] at c1 hlc hn ⊢
  have hnH := Lib.hid hnS
  have h0H := Lib.hid h0
  clear hnS h h0
  go_enter Try.func52, Try.ntmps52
  go_wp2
  go_loop [5] (fun i => ∃ x : Nat, i = .int .i64 x ∧ x ≤ n ∧ Hid (∀ j, j < x → (gk S j).1 ≠ k)) (fun i => n - (intOf i).toNat)
  case atStart => exact ⟨0, rfl, Nat.zero_le _, Lib.hid (fun j hj => by omega)⟩
  case round =>
    obtain ⟨x, rfl, hx, hno⟩ := hrel
    by_cases hxn : x < n
    · have hxn' : (x : Int) < n := by omega
      obtain ⟨b, off, hba, q1, q2⟩ := (by have := h0H.out.row; rw [hnH.out] at this; exact this : RowK w (.slice a n c) S).at x (by rw [hnH.out]; exact hxn)
      subst hba
      obtain ⟨y, hy⟩ : ∃ y, (gk S x).1 = y := ⟨_, rfl⟩
      rw [hy] at q1
      have hyH := Lib.hid hy
      clear q2 hy
      by_cases hyk : y = k
      · have hyy : (y.toList == k.toList) = true := by rw [hyk]; simp
        have hykH := Lib.hid hyk
        clear hyk
        go_wp2
        go_ret
        exact ⟨rfl, .inr ⟨x, rfl, hxn, hyH.out.trans hykH.out, hno.out⟩⟩
      · have hyy : (y.toList == k.toList) = false := by
          cases hq : (y.toList == k.toList) with
          | false => rfl
          | true => exact absurd ((tl_beq y k).1 hq) hyk
        have hno2 := Lib.hid (show ∀ j, j < x + 1 → (gk S j).1 ≠ k from fun j hj => by
          by_cases e : j < x
          · exact hno.out j e
          · rw [show j = x by omega, hyH.out]; exact hyk)
        clear hyk
        go_wp2
        go_round
        case rel => exact ⟨x + 1, by go_num, by omega, hno2⟩
        case measure => first | (simp [intOf]; done) | (simp [intOf]; omega)
    · obtain rfl : x = n := by omega
      have hxn' : ¬ (x : Int) < x := by omega
      go_wp2
      go_ret
      exact ⟨rfl, .inl ⟨rfl, hno.out⟩⟩
set_option maxRecDepth 100000 in
set_option maxHeartbeats 2000000 in
theorem without_any (h : RefK w p most v S) (hn : S.length < 1099511627776) {k : Nat} (hk : k < S.length) :
    Calls Try.prog 53 #[.pointer (some ⟨p, 0, none⟩), .int .i64 k] w fun e w' => ∃ v', e = .returned v' ∧ RowK w' v' (S.take k ++ S.drop (k + 1)) ∧ Below w.heap.size w w' ∧ (∀ g, v'.ownBlock = some g → w.heap.size ≤ g) := by
  obtain ⟨a, c, rfl, hlc, hcm, hnn, _⟩ := h.row
  have c1 := h.c1
  have hcm' : (c : Int) ≤ 9223372036854775807 := by unfold maxLen at hcm; omega
  obtain ⟨n, hnS⟩ : ∃ n, S.length = n := ⟨_, rfl⟩
  rw [hnS] at c1 hlc hn hk
  have hnH := Lib.hid hnS
  have hlt := h.lt
  have hR := h.row
  rw [hnS] at hR
  obtain ⟨T1, hT1⟩ : ∃ T, S.take k = T := ⟨_, rfl⟩
  obtain ⟨T2, hT2⟩ : ∃ T, S.drop (k + 1) = T := ⟨_, rfl⟩
  have hS := cut_cells (S := S) (k := k) (by rw [hnS]; exact hk)
  rw [hT1, hT2] at hS ⊢
  obtain ⟨hl1, hl2, hs1, hs2⟩ := hS
  rw [hnS] at hl2
  obtain ⟨b, off, hab⟩ : ∃ b off, a = some ⟨b, off, none⟩ := by
    obtain ⟨b, off, e, _⟩ := hR.at 0 (by rw [hnS]; omega)
    exact ⟨b, off, e⟩
  subst hab
  obtain ⟨hbl, hcell⟩ := hR.cells (by rw [hnS]; omega)
  have hcH := Lib.hid hcell
  have hs1H := Lib.hid hs1
  have hs2H := Lib.hid hs2
  have hkc : (k : Int) ≤ c := by omega
  have hkw : (k : Int) + 1 ≤ c := by omega
  have hkw2 : (k : Int) + 1 ≤ n := by omega
  have hw1 := Tb.wr (show -9223372036854775808 ≤ (k : Int) + 1 by omega) (by omega)
  have hl1H := Lib.hid hl1
  have hl2H := Lib.hid hl2
  have c1H := Lib.hid c1
  have hbH := Lib.hid hbl
  clear hcell hs1 hs2 hT1 hT2 hl1 hl2 hR hnS hnn
  by_cases hck : c = k + 1
  · have hck2 : c - (k + 1) = 0 := by omega
    have hck3 : (c : Int) ≤ k + 1 := by omega
    have hckH := Lib.hid hck
    clear hck
    go_enter Try.func53, Try.ntmps53
    go_wp2_with (at_builtin; first
      | (refine wpList_app_kv rfl (.tmp 6) (.tmp 12) rfl rfl (World.ownsRow_nil w w.heap.size 101 2) (Nat.le_refl _) (T := T1) rfl hl1H.out.symm (fun e => by cases e) (fun _ => ⟨b, off, rfl, fun j u hj => hcH.out j u (hs1H.out j u hj)⟩) (by rw [hl1H.out]; omega) ?_
         intro v2 w2 hown2 hgrow2 hat2
         rw [Nat.zero_add, List.nil_append] at hown2
         have hb2 : Below w.heap.size w w2 := (Below.refl _ _).grown hgrow2 (by simp) (fun k hk => by cases hk)
         have c2 := (hb2.cell (p := ⟨p, 1, none⟩) hlt).trans c1H.out)
      | (refine wpList_app_kv rfl (.tmp 14) (.tmp 21) rfl rfl hown2 hb2.size (T := T2) rfl (by have := hl2H.out; omega) (fun e => by cases e) (fun hpos => ⟨b, _, rfl, fun j u hj => by first | (rw [Nat.add_assoc]; exact (hb2.cell (p := ⟨b, off + ((k + 1) * 2 + j), none⟩) hbH.out).trans (hcH.out _ _ (hs2H.out j u hj))) | (exfalso; have := hl2H.out; omega)⟩) (by have := hl2H.out; have := hl1H.out; omega) ?_
         intro v3 w3 hown3 hgrow3 hat3
         have hb3 : Below w.heap.size w w3 := hb2.grown hgrow3 hb2.size (fun k hk => (hown2.lt k hk).1)
         clear hgrow2 hat2 hgrow3 hat3))
    go_ret
    exact ⟨_, rfl, RowK.of_row (S := T1 ++ T2) hown3 (by rw [List.length_append]) (by rw [kvCells_append]), hb3, fun g hg => (hown3.lt g hg).1⟩
  · have hck' : ¬ (c : Int) - (k + 1) = 0 := by omega
    have hck2 : ¬ c - (k + 1) = 0 := by omega
    have hck3 : ¬ c ≤ k + 1 := by omega
    go_enter Try.func53, Try.ntmps53
    go_wp2_with (at_builtin; first
      | (refine wpList_app_kv rfl (.tmp 6) (.tmp 12) rfl rfl (World.ownsRow_nil w w.heap.size 101 2) (Nat.le_refl _) (T := T1) rfl hl1H.out.symm (fun e => by cases e) (fun _ => ⟨b, off, rfl, fun j u hj => hcH.out j u (hs1H.out j u hj)⟩) (by rw [hl1H.out]; omega) ?_
         intro v2 w2 hown2 hgrow2 hat2
         rw [Nat.zero_add, List.nil_append] at hown2
         have hb2 : Below w.heap.size w w2 := (Below.refl _ _).grown hgrow2 (by simp) (fun k hk => by cases hk)
         have c2 := (hb2.cell (p := ⟨p, 1, none⟩) hlt).trans c1H.out)
      | (refine wpList_app_kv rfl (.tmp 14) (.tmp 21) rfl rfl hown2 hb2.size (T := T2) rfl (by have := hl2H.out; omega) (fun e => by cases e) (fun hpos => ⟨b, _, rfl, fun j u hj => by first | (rw [Nat.add_assoc]; exact (hb2.cell (p := ⟨b, off + ((k + 1) * 2 + j), none⟩) hbH.out).trans (hcH.out _ _ (hs2H.out j u hj))) | (exfalso; have := hl2H.out; omega)⟩) (by have := hl2H.out; have := hl1H.out; omega) ?_
         intro v3 w3 hown3 hgrow3 hat3
         have hb3 : Below w.heap.size w w3 := hb2.grown hgrow3 hb2.size (fun k hk => (hown2.lt k hk).1)
         clear hgrow2 hat2 hgrow3 hat3))
    go_ret
    exact ⟨_, rfl, RowK.of_row (S := T1 ++ T2) hown3 (by rw [List.length_append]) (by rw [kvCells_append]), hb3, fun g hg => (hown3.lt g hg).1⟩
end
end Go.Proofs.Ytmgapdbfaoflmaa.Tb
