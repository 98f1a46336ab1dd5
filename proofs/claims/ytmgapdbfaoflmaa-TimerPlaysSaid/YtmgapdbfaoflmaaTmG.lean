/- Draws: NewDraws, Left, Next. -/
import Derived.Test.YtmgapdbfaoflmaaTmF
import Derived.WalkSpells
namespace Go.Proofs.Ytmgapdbfaoflmaa.Tm
open Go.RowKit Rt
set_option linter.unusedSimpArgs false
set_option linter.unusedVariables false

def wu (x : Int) : Prop := 0 ≤ x ∧ x ≤ 18446744073709551615
/-- A slice of numbers of 64 bits, without sign, wherever it lies. -/
structure SliceU (w : World) (v : Value) (L : List Int) (S : Nat → Prop) : Prop where
  val : ∃ a c, v = .slice a L.length c ∧ L.length ≤ c ∧ c ≤ maxLen ∧ (a = none → c = 0) ∧ (0 < L.length → ∃ b off, a = some ⟨b, off, none⟩ ∧ b < w.heap.size ∧ S b ∧ ∀ j, j < L.length → w.cell? ⟨b, off + j, none⟩ = some (.int .u64 (L.getD j 0)))
  wfs : ∀ x ∈ L, wu x
theorem SliceU.keep {w w' : World} {v : Value} {L : List Int} {S : Nat → Prop} (h : SliceU w v L S) (hk : ∀ k, k < w.heap.size → S k → w'.heap[k]? = w.heap[k]?) (hs : w.heap.size ≤ w'.heap.size) : SliceU w' v L S := by
  obtain ⟨⟨a, c, h1, h2, hc, hnn, h3⟩, h4⟩ := h
  refine ⟨⟨a, c, h1, h2, hc, hnn, fun h0 => ?_⟩, h4⟩
  obtain ⟨b, off, e, hb, hS, hc⟩ := h3 h0
  exact ⟨b, off, e, by omega, hS, fun j hj => (World.cell?_of_block (hk b hb hS)).trans (hc j hj)⟩
/-- The draws at p. -/
structure DrawsAt (w : World) (p : Nat) (L : List Int) (S : Nat → Prop) : Prop where
  top : ∃ v, w.heap[p]? = some (.cells #[v] 116 (0, 0)) ∧ SliceU w v L S
  sp : ¬ S p
section
variable {w w' : World} {p : Nat} {L : List Int} {S : Nat → Prop}
theorem DrawsAt.lt (h : DrawsAt w p L S) : p < w.heap.size := by obtain ⟨⟨v, h, _⟩, _⟩ := h; exact (Array.getElem?_eq_some_iff.1 h).1
theorem DrawsAt.keep (h : DrawsAt w p L S) (hk : ∀ k, k < w.heap.size → (k = p ∨ S k) → w'.heap[k]? = w.heap[k]?) (hs : w.heap.size ≤ w'.heap.size) : DrawsAt w' p L S := by
  have hl := h.lt
  obtain ⟨⟨v, h1, h2⟩, h3⟩ := h
  exact ⟨⟨v, (hk p hl (.inl rfl)).trans h1, h2.keep (fun k hk' hS => hk k hk' (.inr hS)) hs⟩, h3⟩
theorem DrawsAt.below (h : DrawsAt w p L S) (hb : Below w.heap.size w w') : DrawsAt w' p L S := h.keep (fun k hk _ => hb.block k hk) hb.size
theorem Left_any (h : DrawsAt w p L S) : Calls Try.prog 47 #[.pointer (some ⟨p, 0, none⟩)] w fun e w' => e = .returned (.int .i64 (L.length : Int)) ∧ w' = w := by
  obtain ⟨⟨v, h1, ⟨a, c, rfl, h2, hc, hnn, h3⟩, h4⟩, h5⟩ := h
  have c0 : w.cell? ⟨p, 0, none⟩ = some (.slice a L.length c) := by simp [World.cell?, h1]
  clear h1 h3 h4
  go_enter Try.func47, Try.ntmps47
  go_wp2
  go_ret
  exact ⟨rfl, rfl⟩
def nextD (L : List Int) (n : Int) : Int := if n < 1 then 0 else L.headD 0 % n
def restD (L : List Int) (n : Int) : List Int := if n < 1 then L else L.tail
theorem DNext_any (h : DrawsAt w p L S) (n : Int) (hn : wf n) : Calls Try.prog 48 #[.pointer (some ⟨p, 0, none⟩), .int .i64 n] w fun e w' => e = .returned (.int .i64 (nextD L n)) ∧ DrawsAt w' p (restD L n) S ∧ Kept (fun k => k = p) w w' := by
  have hD := h
  have hlt := h.lt
  obtain ⟨⟨v, h1, ⟨a, c, rfl, h2, hc, hnn, h3⟩, h4⟩, h5⟩ := h
  have c0 : w.cell? ⟨p, 0, none⟩ = some (.slice a L.length c) := by simp [World.cell?, h1]
  have f0 : w.frozen? ⟨p, 0, none⟩ = false := by simp [World.frozen?, h1]
  by_cases hn1 : n < 1
  · have e1 : Hid (nextD L n = 0) := Lib.hid (by unfold nextD; rw [if_pos hn1])
    have e2 : restD L n = L := by unfold restD; rw [if_pos hn1]
    rw [e2]
    clear e2 h1 h3 h4
    go_enter Try.func48, Try.ntmps48
    go_wp2
    go_ret
    exact ⟨by rw [e1.out]; rfl, hD, Kept.refl _ _⟩
  · cases L with
    | nil =>
      have e1 : Hid (nextD [] n = 0) := Lib.hid (by unfold nextD; rw [if_neg hn1]; simp)
      have e2 : restD [] n = [] := by unfold restD; rw [if_neg hn1]; rfl
      rw [e2]
      have c0 : w.cell? ⟨p, 0, none⟩ = some (.slice a 0 c) := c0
      clear e2 h1 h3 h4
      go_enter Try.func48, Try.ntmps48
      go_wp2
      go_ret
      exact ⟨by rw [e1.out]; rfl, hD, Kept.refl _ _⟩
    | cons x L =>
      obtain ⟨b, off, rfl, hbl, hSb, hcell⟩ := h3 (by simp)
      have hx := h4 x (by simp)
      have hx0 : w.cell? ⟨b, off, none⟩ = some (.int .u64 x) := by have := hcell 0 (by simp); simpa using this
      have hx1 := hx.1
      have hx2 := hx.2
      have hn2 := hn.1
      have hn3 := hn.2
      have hm0 : 0 ≤ x % n := Int.emod_nonneg _ (by omega)
      have hm1 : x % n < n := Int.emod_lt_of_pos _ (by omega)
      have hlen : (x :: L).length = L.length + 1 := rfl
      obtain ⟨m, hm⟩ : ∃ m, L.length + 1 = m := ⟨_, rfl⟩
      rw [hlen, hm] at c0 h2
      have hmH := Lib.hid hm
      have hm1' : 0 < m := by omega
      have hmne : ((m : Int) == 0) = false := beq_eq_false_iff_ne.2 (by omega)
      have hc2 : (m : Int) ≤ c := by omega
      have hc63 : (c : Int) ≤ 9223372036854775807 := by unfold maxLen at hc; omega
      have hdl : m - 1 = L.length := by omega
      have hmi : (0 : Int) < m := by omega
      have hmi1 : (1 : Int) ≤ m := by omega
      have e1 : Hid (nextD (x :: L) n = x % n) := Lib.hid (by unfold nextD; rw [if_neg hn1]; rfl)
      have e2 : restD (x :: L) n = L := by unfold restD; rw [if_neg hn1]; rfl
      rw [e2]
      have hn1' : 1 ≤ n := by omega
      have hcellH := Lib.hid hcell
      have h1H := Lib.hid h1
      have hpb : b ≠ p := fun e => h5 (e ▸ hSb)
      have htm : x.tmod n = x % n := Int.tmod_eq_emod_of_nonneg hx1
      clear e2 h1 h3 hlen hm hcell hx
      have hend : ∀ A, A ≠ none → (0 < L.length → A = some ⟨b, off + 1, none⟩) → DrawsAt (w.setCell ⟨p, 0, none⟩ (.slice A L.length (c - 1))) p L S ∧ Kept (fun k => k = p) w (w.setCell ⟨p, 0, none⟩ (.slice A L.length (c - 1))) := by
        intro A hne hA
        refine ⟨⟨⟨.slice A L.length (c - 1), ?_, ⟨A, c - 1, rfl, by have := hmH.out; omega, by omega, fun e => (hne e).elim, fun h0 => ⟨b, off + 1, hA h0, by simpa [World.setCell] using hbl, hSb, fun j hj => ?_⟩⟩, fun y hy => h4 y (by simp [hy])⟩, h5⟩, Kept.setCell (S := fun k => k = p) (p := ⟨p, 0, none⟩) (Kept.refl _ w) (.inl rfl) _⟩
        · obtain ⟨hl, hk⟩ := Array.getElem?_eq_some_iff.1 h1H.out
          show (w.heap.modify p _)[p]? = _
          rw [Array.getElem?_eq_getElem (by rw [Array.size_modify]; exact hl), Array.getElem_modify_self, hk]
          rfl
        · have h7 := hcellH.out (j + 1) (by simp; omega)
          rw [show off + 1 + j = off + (j + 1) by omega]
          rw [World.cell?_of_block (w := w) (Below.heap_setCell _ _ _ _ (by exact hpb)), h7]
          simp
      have hendH := Lib.hid hend
      clear hend
      by_cases hcap : c = 1
      · have hm1e : m = 1 := by omega
        have hL0 : L = [] := List.length_eq_zero_iff.1 (by omega)
        subst hcap hm1e hL0
        go_enter Try.func48, Try.ntmps48
        go_wp2
        go_ret
        have := hendH.out (some ⟨b, off, none⟩) (by simp) (by simp)
        exact ⟨by rw [e1.out]; rfl, this⟩
      · go_enter Try.func48, Try.ntmps48
        go_wp2
        go_ret
        exact ⟨by rw [e1.out]; rfl, hendH.out _ (by simp) (fun _ => rfl)⟩
end
theorem info87 : (Try.prog.info? 87).map (fun i => (i.zero, i.size, i.bytes)) = some (some (.int .u64 0), 1, 8) := by kernel_rfl
def uC (L : List Int) : List Value := L.map fun x => .int .u64 x
theorem Clone_any {w : World} {v : Value} {L : List Int} {S : Nat → Prop} (h : SliceU w v L S) (hr : L.length * 8 ≤ 140737488351232) :
    Calls Try.prog 65 #[v] w fun e w' => ∃ v', e = .returned v' ∧ SliceU w' v' L (fun k => w.heap.size ≤ k) ∧ Below w.heap.size w w' := by
  obtain ⟨i0, hi, hz0, hz1, hz2⟩ := info_parts info87
  obtain ⟨⟨a, c, rfl, h2, hc, hnn, h3⟩, h4⟩ := h
  cases a with
  | none =>
    obtain rfl := hnn rfl
    obtain rfl := List.length_eq_zero_iff.1 (Nat.le_zero.1 h2)
    have heq := fun w => Lib.run_eql_slice_nil (P := Try.prog) w 81 87 none 0 0 0 0 Try.underlying81
    clear h3 h4
    go_enter Try.func65, Try.ntmps65
    go_wp2
    go_ret
    exact ⟨_, rfl, ⟨⟨none, 0, rfl, by simp, by simp, by simp, by simp⟩, by simp⟩, Below.refl _ _⟩
  | some A =>
    have heq := fun w => Lib.run_eql_slice_nil (P := Try.prog) w 81 87 (some A) L.length c 0 0 Try.underlying81
    have hnews : ∀ W : World, Below w.heap.size w W → ∀ j u, (uC L)[j]? = some u → W.cell? (A.add j) = some u := by
      intro W hW j u hj
      have hjl : j < L.length := by have := (List.getElem?_eq_some_iff.1 hj).1; simpa [uC] using this
      obtain ⟨b, off, e, hb, _, hcell⟩ := h3 (by omega)
      have e := Option.some.inj e
      subst e
      rw [Addr.add_lit, hW.cell (p := ⟨b, off + j, none⟩) hb, hcell j hjl]
      simp [uC, hjl] at hj
      rw [← hj, List.getD_eq_getElem?_getD, List.getElem?_eq_getElem hjl]; rfl
    have hone : ∀ u ∈ uC L, u.oneCell' = true := fun u hu => by obtain ⟨q, _, rfl⟩ := List.mem_map.1 hu; rfl
    have hul : (uC L).length = L.length * 1 := by simp [uC]
    have hnH := Lib.hid hnews
    have hwfH := Lib.hid h4
    clear h3 h4 hnews hnn
    go_enter Try.func65, Try.ntmps65
    go_wp2_with (at_builtin; refine wpList_append_own_at _ rfl (.tmp 5) (.tmp 6) 81 rfl w.heap.size 87 i0 (.int .u64 0) 1 8 Try.underlying81 hi hz0 hz1 hz2 rfl (by decide) (.slice (some ⟨w.heap.size, 0, none⟩) 0 0) 0 [] rfl (World.ownsRow_made w #[] 0 (Nat.le_refl _) (by simp) rfl) A L.length c (uC L) rfl hul (hnH.out _ ((Below.refl _ _).alloc (Nat.le_refl _) _)) hone (by unfold maxLen; omega) (by omega) (by simp) ?_; intro v1 w1 hown1 hgrow1 hnil1 hat1; clear hat1)
    go_ret
    have hb : Below w.heap.size w w1 := ((Below.refl _ _).alloc (Nat.le_refl _) _).grown hgrow1 (by simp) (fun k hk => by simp [Value.ownBlock] at hk; omega)
    refine ⟨v1, rfl, ⟨?_, hwfH.out⟩, hb⟩
    rw [Nat.zero_add, List.nil_append] at hown1
    have hcells := hown1
    rcases hown1.2 with ⟨rfl, e⟩ | ⟨g, cap, cur, rfl, hbg, hh, hle, hcm, hsz, htk⟩
    · simp at hnil1
    · refine ⟨_, cap, rfl, hle, hcm, by simp, fun h0 => ⟨g, 0, rfl, (Array.getElem?_eq_some_iff.1 hh).1, hbg, fun j hj => ?_⟩⟩
      have := hcells.cellAt j (by omega)
      rw [Nat.zero_add, this]
      simp [uC, hj]
theorem NewDraws_any {w : World} {v : Value} {L : List Int} {S : Nat → Prop} (h : SliceU w v L S) (hr : L.length * 8 ≤ 140737488351232) :
    Calls Try.prog 46 #[v] w fun e w' => ∃ p, e = .returned (.pointer (some ⟨p, 0, none⟩)) ∧ w.heap.size ≤ p ∧ p < w'.heap.size ∧ DrawsAt w' p L (fun k => w.heap.size ≤ k ∧ k < w'.heap.size ∧ k ≠ p) ∧ Below w.heap.size w w' := by
  go_enter Try.func46, Try.ntmps46
  go_wp2_with fail
  refine (Clone_any h hr).mono ?_
  rintro e w1 ⟨v1, rfl, h1, hb⟩
  obtain ⟨a1, c1, rfl, _⟩ := h1.val
  go_wp2
  go_ret
  refine ⟨w1.heap.size, rfl, hb.size, by simp, ⟨⟨.slice a1 L.length c1, ?_, ?_⟩, fun e => e.2.2 rfl⟩, hb.trans ((Below.refl _ _).alloc hb.size _)⟩
  · show (w1.heap.push _)[w1.heap.size]? = _
    exact Array.getElem?_push_size
  · obtain ⟨⟨a, c, e, r1, r2, r3, r4⟩, r5⟩ := h1
    refine ⟨⟨a, c, e, r1, r2, r3, fun h0 => ?_⟩, r5⟩
    obtain ⟨b, off, e1, hb1, hb2, hb3⟩ := r4 h0
    exact ⟨b, off, e1, by simp; omega, ⟨hb2, by simp; omega, by omega⟩, fun j hj => (World.cell?_of_block (w := w1) (Below.heap_alloc _ _ _ hb1)).trans (hb3 j hj)⟩
end Go.Proofs.Ytmgapdbfaoflmaa.Tm
