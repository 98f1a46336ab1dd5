/- Rows of lames: what lies in a server's slice; the predicate, IndexFunc, Clone. -/
import Derived.Test.YticijejnemnmlaaInV
import Derived.Laws.AppendOwnNone
import Derived.Lib.SliceRun
namespace Go.Proofs.Yticijejnemnmlaa.If
open Go.RowKit Rt
set_option linter.unusedSimpArgs false
set_option linter.unusedVariables false
abbrev Lm := ByteArray × Int
def gk (l : List Lm) (i : Nat) : Lm := l.getD i (⟨#[]⟩, 0)
theorem gk_eq {l : List Lm} {i : Nat} (h : i < l.length) : gk l i = l[i] := by unfold gk; rw [List.getD_eq_getElem?_getD, List.getElem?_eq_getElem h]; rfl
/-- The cells of a row of lames. -/
def lmC (l : List Lm) : List Value := l.flatMap fun p => [.string p.1, .int .i64 p.2]
theorem lmC_length (l : List Lm) : (lmC l).length = l.length * 2 := by
  induction l with
  | nil => rfl
  | cons a l ih => simp [lmC] at ih ⊢; omega
theorem lmC_append (a b : List Lm) : lmC (a ++ b) = lmC a ++ lmC b := by simp [lmC]
theorem lmC_get : ∀ (l : List Lm) (i : Nat), i < l.length → (lmC l)[2 * i]? = some (.string (gk l i).1) ∧ (lmC l)[2 * i + 1]? = some (.int .i64 (gk l i).2)
  | [], i, h => by simp at h
  | a :: l, 0, _ => ⟨rfl, rfl⟩
  | a :: l, i + 1, h => by
    have := lmC_get l i (by simpa using h)
    exact this
theorem lmC_set : ∀ (l : List Lm) (i : Nat) (p : Lm), i < l.length → lmC (l.set i p) = ((lmC l).set (2 * i) (.string p.1)).set (2 * i + 1) (.int .i64 p.2)
  | [], i, p, h => by simp at h
  | a :: l, 0, p, _ => rfl
  | a :: l, i + 1, p, h => by
    have := lmC_set l i p (by simpa using h)
    show _ :: _ :: lmC (l.set i p) = _
    rw [this]; rfl
theorem lmC_take (l : List Lm) (k : Nat) : (lmC l).take (k * 2) = lmC (l.take k) := by
  by_cases hk : k ≤ l.length
  · have e : lmC l = lmC (l.take k) ++ lmC (l.drop k) := by rw [← lmC_append, List.take_append_drop]
    rw [e]
    exact List.take_left' (by rw [lmC_length, List.length_take, Nat.min_eq_left hk])
  · rw [List.take_of_length_le (by rw [lmC_length]; omega), List.take_of_length_le (by omega)]
theorem lmC_one (l : List Lm) : ∀ u ∈ lmC l, u.oneCell' = true := fun u hu => by obtain ⟨q, _, hq⟩ := List.mem_flatMap.1 hu; simp at hq; rcases hq with rfl | rfl <;> rfl
theorem info72 : (Try.prog.info? 72).map (fun i => (i.zero, i.size, i.bytes)) = some (some (.agg #[.string ⟨#[]⟩, .int .i64 0]), 2, 24) := by kernel_rfl
/-- A server's slice of lames. -/
def RowL (w : World) (v : Value) (S : List Lm) : Prop :=
  (v = .slice none 0 0 ∧ S = []) ∨ ∃ b c, v = .slice (some ⟨b, 0, none⟩) S.length c ∧ S.length ≤ c ∧ c ≤ maxLen ∧ 0 < S.length ∧ b < w.heap.size ∧ ∀ j u, (lmC S)[j]? = some u → w.cell? ⟨b, j, none⟩ = some u
section
variable {w w' : World} {v : Value} {S : List Lm} {base n b c : Nat}
theorem RowL.keep (h : RowL w v S) (hk : ∀ k, k < w.heap.size → v.ownBlock = some k → w'.heap[k]? = w.heap[k]?) (hs : w.heap.size ≤ w'.heap.size) : RowL w' v S := by
  rcases h with h | ⟨b, c, rfl, h2, hc, h0, hb, hcell⟩
  · exact .inl h
  · exact .inr ⟨b, c, rfl, h2, hc, h0, by omega, fun j u hj => (World.cell?_of_block (hk b hb rfl)).trans (hcell j u hj)⟩
theorem RowL.below (h : RowL w v S) (hb : Below w.heap.size w w') : RowL w' v S := h.keep (fun k hk _ => hb.block k hk) hb.size
theorem RowL.at (h : RowL w (.slice (some ⟨b, 0, none⟩) n c) S) (i : Nat) (hi : i < S.length) :
    w.cell? ⟨b, i * 2, none⟩ = some (.string (gk S i).1) ∧ w.cell? ⟨b, i * 2 + 1, none⟩ = some (.int .i64 (gk S i).2) := by
  rcases h with ⟨h, _⟩ | ⟨b', c', h1, h2, hc, h0, hb, hcell⟩
  · cases h
  · cases h1
    have h3 := lmC_get S i hi
    rw [Nat.mul_comm 2 i] at h3
    exact ⟨hcell _ _ h3.1, hcell _ _ h3.2⟩
theorem RowL.lt (h : RowL w v S) {k : Nat} (hk : v.ownBlock = some k) : k < w.heap.size := by
  rcases h with ⟨rfl, _⟩ | ⟨b', c', rfl, h2, hc, h0, hb, hcell⟩
  · cases hk
  · cases hk; exact hb
theorem RowL.of_row {xs : List Value} (h : w.ownsRow base 72 2 v n xs) (hn : n = S.length) (hx : xs = lmC S) (h0 : 0 < S.length) : RowL w v S := by
  subst hn hx
  have hc := h
  rcases h.2 with ⟨rfl, e⟩ | ⟨g, cap, cur, rfl, hbg, hh, hle, hcm, hsz, htk⟩
  · omega
  · refine .inr ⟨g, cap, rfl, hle, hcm, h0, (Array.getElem?_eq_some_iff.1 hh).1, fun j u hj => ?_⟩
    have hjl : j < (lmC S).length := (List.getElem?_eq_some_iff.1 hj).1
    have := hc.cellAt j (by rw [lmC_length] at hjl; exact hjl)
    rw [this]
    exact hj
theorem own_slice {e size : Nat} {xs : List Value} (h : w.ownsRow base e size v n xs) : ∃ a c, v = .slice a n c := by
  rcases h.2 with ⟨rfl, rfl⟩ | ⟨g, cap, cur, rfl, _⟩
  · exact ⟨_, _, rfl⟩
  · exact ⟨_, _, rfl⟩
end
theorem grown_refl (w : World) (r : Option Nat) : w.grownBy w r := ⟨rfl, rfl, rfl, Nat.le_refl _, fun _ _ _ => rfl⟩
/-- append of a slice of lames to a row of one's own. -/
theorem wpList_app_lm {w : World} {ops : Array Oper} {rest : List Oper} {o : Oper} {a : Act} {Q : Exit → Act → World → Prop} (hgd : o.guard = none) (s x : Operand)
    (ho : o.op = .call { callee := .builtin .append, args := #[s, x], argTypes := #[57, 57] }) {base n : Nat} {v : Value} {xs : List Value} (hs : a.eval s = v) (hown : w.ownsRow base 72 2 v n xs) (hbase : base ≤ w.heap.size)
    {b off c m : Nat} {T : List Lm} (hx : a.eval x = .slice (some ⟨b, off, none⟩) m c) (hm : m = T.length) (hT : ∀ j u, (lmC T)[j]? = some u → w.cell? ⟨b, off + j, none⟩ = some u)
    (hl : n + T.length ≤ 1099511627776)
    (h : ∀ v' w', w'.ownsRow base 72 2 v' (n + T.length) (xs ++ lmC T) → w.grownBy w' v.ownBlock → (v'.ownBlock = v.ownBlock ∨ v'.ownBlock = some w.heap.size) → wpList Try.prog ops Q rest (a.put o.dst v') w') : wpList Try.prog ops Q (o :: rest) a w := by
  obtain ⟨i0, hi, hz0, hz1, hz2⟩ := info_parts info72
  subst hm
  have hnews : ∀ j u, (lmC T)[j]? = some u → w.cell? ((⟨b, off, none⟩ : Addr).add j) = some u := by
    intro j u hj
    rw [Addr.add_lit]
    exact hT j u hj
  exact wpList_append_own_at _ hgd s x 57 ho base 72 i0 (.agg #[.string ⟨#[]⟩, .int .i64 0]) 2 24 Try.underlying57 hi hz0 hz1 hz2 rfl (by decide) v n xs hs hown ⟨b, off, none⟩ T.length c (lmC T) hx (lmC_length T) hnews (lmC_one T) (by unfold maxLen; omega) (by omega) hbase (fun v1 w1 q1 q2 _ q4 => h v1 w1 q1 q2 q4)
/-! ### the predicate -/
def eqz (z : ByteArray) (p : Lm) : Bool := decide (p.1.toList = z.toList)
theorem pred_any {w : World} {zb : Nat} {z : ByteArray} (hz : w.cell? ⟨zb, 0, none⟩ = some (.string z)) (p : Lm) :
    Calls Try.prog 34 #[.agg #[.string p.1, .int .i64 p.2], .pointer (some ⟨zb, 0, none⟩)] w fun e w' => e = .returned (.bool (eqz z p)) ∧ Below w.heap.size w w' := by
  obtain ⟨y, t⟩ := p
  have hz' := (Below.cell (Below.alloc (Below.refl w.heap.size w) (Nat.le_refl _) (.cells #[.string y, .int .i64 t] 72)) (p := ⟨zb, 0, none⟩) (World.block_lt_of_cell? w _ hz)).trans hz
  by_cases h : y.toList = z.toList
  · have hE : eqz z (y, t) = true := by simp [eqz, h]
    rw [hE]
    clear hE
    go_enter Try.func34, Try.ntmps34
    go_wp2
    go_ret
    exact ⟨by first | rfl | simp [h], (Below.refl _ _).alloc (Nat.le_refl _) _⟩
  · have hE : eqz z (y, t) = false := by simp [eqz, h]
    rw [hE]
    clear hE
    go_enter Try.func34, Try.ntmps34
    go_wp2
    go_ret
    exact ⟨by first | rfl | simp [h], (Below.refl _ _).alloc (Nat.le_refl _) _⟩
/-! ### IndexFunc -/
def idxZ (z : ByteArray) (L : List Lm) : Int := match L.findIdx? (eqz z) with | some i => (i : Int) | none => -1
theorem idxZ_none {z : ByteArray} {L : List Lm} (h : ∀ i, i < L.length → eqz z (gk L i) = false) : idxZ z L = -1 := by
  unfold idxZ
  rw [List.findIdx?_eq_none_iff.2 fun p hp => by obtain ⟨i, hi, rfl⟩ := List.getElem_of_mem hp; rw [← gk_eq hi]; exact h i hi]
theorem idxZ_some {z : ByteArray} {L : List Lm} {k : Nat} (hk : k < L.length) (h : ∀ i, i < k → eqz z (gk L i) = false) (hy : eqz z (gk L k) = true) : idxZ z L = k := by
  unfold idxZ
  have : L.findIdx? (eqz z) = some k := by
    rw [List.findIdx?_eq_some_iff_getElem]
    exact ⟨hk, by rw [← gk_eq hk]; exact hy, fun j hj => by rw [← gk_eq (by omega)]; simp [h j hj]⟩
  rw [this]
set_option maxHeartbeats 1000000 in
theorem Index_any {w : World} {zb : Nat} {z : ByteArray} {a : Option Addr} {n c : Nat} {L : List Lm} (hz : w.cell? ⟨zb, 0, none⟩ = some (.string z)) (h : 0 < L.length → RowL w (.slice a n c) L) (hn : n = L.length) (hl : L.length < 1099511627776) :
    Calls Try.prog 49 #[.slice a n c, .func (.func 34) #[] #[.pointer (some ⟨zb, 0, none⟩)]] w fun e w' => e = .returned (.int .i64 (idxZ z L)) ∧ Below w.heap.size w w' := by
  have hR := Lib.hid h
  have hzH := Lib.hid hz
  have hnH := Lib.hid hn
  rw [← hn] at hl
  clear h hz hn
  go_enter Try.func49, Try.ntmps49
  go_wp2
  go_loopw [8] (fun v wr => ∃ j : Nat, j ≤ n ∧ v = .int .i64 j ∧ (∀ i, i < j → eqz z (gk L i) = false) ∧ Below w.heap.size w wr)
    (fun v _ => n - (intOf v).toNat)
  case atStart => exact ⟨0, Nat.zero_le _, rfl, by simp, Below.refl _ _⟩
  case round =>
    obtain ⟨j, hj, rfl, hno, hb⟩ := hrel
    by_cases hlt : j < n
    · obtain ⟨b, rfl⟩ : ∃ b, a = some ⟨b, 0, none⟩ := by
        rcases hR.out (by have := hnH.out; omega) with ⟨h1, h2⟩ | ⟨b, c', h1, _⟩
        · have := hnH.out; rw [h2] at this; simp at this; omega
        · cases h1; exact ⟨b, rfl⟩
      obtain ⟨c0, c1⟩ := ((hR.out (by have := hnH.out; omega)).below hb).at j (by have := hnH.out; omega)
      have hzr := (hb.cell (p := ⟨zb, 0, none⟩) (World.block_lt_of_cell? w _ hzH.out)).trans hzH.out
      obtain ⟨p, hp⟩ : ∃ p, gk L j = p := ⟨_, rfl⟩
      rw [hp] at c0 c1
      have hpH := Lib.hid hp
      have hnoH := Lib.hid hno
      have hji : (j : Int) < n := by omega
      clear hp hno
      cases hE : eqz z p with
      | true =>
        go_wp2_with (go_at_call 34; refine (pred_any (w := wr) hzr p).mono ?_; rintro e w1 ⟨rfl, hb1⟩; rw [hE])
        go_ret
        exact ⟨by rw [idxZ_some (k := j) (by have := hnH.out; omega) hnoH.out (by rw [hpH.out]; exact hE)]; rfl, hb.trans (hb1.mono hb.size)⟩
      | false =>
        go_wp2_with (go_at_call 34; refine (pred_any (w := wr) hzr p).mono ?_; rintro e w1 ⟨rfl, hb1⟩; rw [hE])
        go_roundw
        case rel => exact ⟨j + 1, by omega, by go_num, fun i hi => by
                      by_cases e : i = j
                      · subst e; rw [hpH.out]; exact hE
                      · exact hnoH.out i (by omega), hb.trans (hb1.mono hb.size)⟩
        case measure => first | (simp [intOf]; done) | (simp [intOf]; omega)
    · obtain rfl : j = n := by omega
      have hI : Hid (idxZ z L = -1) := Lib.hid (idxZ_none (by rw [← hnH.out]; exact hno))
      clear hno
      go_wp2
      go_ret
      exact ⟨by rw [hI.out]; rfl, hb⟩
/-! ### Clone -/
set_option maxHeartbeats 1000000 in
theorem Clone_any {w : World} {v : Value} {L : List Lm} (h : RowL w v L) (hl : L.length < 1099511627776) :
    Calls Try.prog 33 #[v] w fun e w' => ∃ v', e = .returned v' ∧ w'.ownsRow w.heap.size 72 2 v' L.length (lmC L) ∧ Below w.heap.size w w' := by
  have q57 : ∀ (w : World) (a : Option Addr) (n c n' c' : Nat), (binOp .eql 57 (.slice a n c) (.slice none n' c')).run Try.prog w = .ok (.bool a.isNone) w := fun w a n c n' c' => Lib.run_eql_slice_nil w _ _ a n c n' c' Try.underlying57
  rcases h with ⟨rfl, rfl⟩ | ⟨b, c, rfl, h2, hc, h0, hb, hcell⟩
  · go_enter Try.func33, Try.ntmps33
    go_wp2
    go_ret
    exact ⟨_, rfl, World.ownsRow_nil _ _ _ _, Below.refl _ _⟩
  · have hcH := Lib.hid hcell
    have h2H := Lib.hid h2
    have hcmH := Lib.hid hc
    obtain ⟨n, hn⟩ : ∃ n, L.length = n := ⟨_, rfl⟩
    rw [hn] at hl ⊢
    have hnH := Lib.hid hn
    clear hcell h2 hc h0 hn
    go_enter Try.func33, Try.ntmps33
    go_wp2_with (at_builtin; refine wpList_app_lm rfl (.tmp 5) (.tmp 6) rfl rfl (base := w.heap.size) (n := 0) (xs := []) (v := .slice (some ⟨w.heap.size, 0, none⟩) 0 0) ⟨rfl, .inr ⟨_, 0, _, rfl, Nat.le_refl _, World.alloc_heap_new _ _, Nat.le_refl _, by simp, rfl, rfl⟩⟩ (by simp) (b := b) (off := 0) (T := L) rfl hnH.out.symm (fun j u hj => by rw [Nat.zero_add]; exact (Below.cell (Below.alloc (Below.refl w.heap.size w) (Nat.le_refl _) _) (p := ⟨b, j, none⟩) hb).trans (hcH.out j u hj)) (by rw [hnH.out]; omega) ?_; intro v2 w2 hown2 hgrow2 hat2; rw [Nat.zero_add, List.nil_append, hnH.out] at hown2; have hb2 : Below w.heap.size w w2 := ((Below.refl w.heap.size w).alloc (Nat.le_refl _) _).grown hgrow2 (by simp) (fun k hk => by simp [Value.ownBlock] at hk; omega))
    go_ret
    exact ⟨_, rfl, hown2, hb2⟩
end Go.Proofs.Yticijejnemnmlaa.If
