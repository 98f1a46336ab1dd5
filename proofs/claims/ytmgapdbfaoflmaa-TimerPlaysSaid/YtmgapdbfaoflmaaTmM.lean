/- The reference's timer: Due. -/
import Derived.Test.YtmgapdbfaoflmaaTmJ
namespace Go.Proofs.Ytmgapdbfaoflmaa.Tm
open Go.RowKit Rt
set_option linter.unusedSimpArgs false
set_option linter.unusedVariables false
theorem RowT.tail {w : World} {b off n c : Nat} {q : It} {T : List It} (h : RowT w (.slice (some ⟨b, off, none⟩) n c) (q :: T)) {A : Option Addr} (hne : A ≠ none) (hA : 0 < T.length → A = some ⟨b, off + 2, none⟩) : RowT w (.slice A T.length (c - 1)) T := by
  obtain ⟨a', c', h1, h2, hc, hnn, h3⟩ := h
  cases h1
  obtain ⟨b', off', e, hb, hcell⟩ := h3 (by simp)
  cases e
  simp only [List.length_cons] at h2
  refine ⟨A, c - 1, rfl, by omega, by omega, fun e => (hne e).elim, fun h0 => ⟨b, off + 2, hA h0, hb, fun j u hj => ?_⟩⟩
  have := hcell (j + 2) u (by simpa [itCells] using hj)
  rw [show off + 2 + j = off + (j + 2) by omega]
  exact this
/-- The state of the reference's Due. -/
structure RI (w : World) (p : Nat) (v : Value) (S : List It) (now : Int) (n : Nat) (out : Value) (wr : World) (A T : List It) (v' : Value) : Prop where
  split : S = A ++ T
  due : ∀ p ∈ A, p.2 ≤ now
  len : T.length = n
  ref : RefT wr p v' T
  own : v'.ownBlock = v.ownBlock
  row : wr.ownsRow w.heap.size 3 1 out A.length (idsC A)
  kept : Kept (fun k => k = p) w wr
section
variable {w : World} {p : Nat} {v : Value} {S : List It} {now : Int} {n : Nat} {out : Value} {wr : World} {A T : List It} {v' : Value} {q : It}
theorem RI.done (h : RI w p v S now n out wr A T v') (hT : ∀ p T', T = p :: T' → now < p.2) :
    wr.ownsRow w.heap.size 3 1 out (dueS S now).length (idsC (dueS S now)) ∧ RefT wr p v' (restS S now) ∧ v'.ownBlock = v.ownBlock ∧ Kept (fun k => k = p) w wr := by
  obtain ⟨d1, d2⟩ := due_split h.due hT
  rw [h.split, d1, d2]
  exact ⟨h.row, h.ref, h.own, h.kept⟩
theorem RI.push (h : RI w p v S now n out wr A (q :: T) v') (hp : p < w.heap.size) (hv : ∀ k, v.ownBlock = some k → 0 < S.length → k < w.heap.size) {v4 : Value} {w4 : World} {c : Value} {t : TypeId}
    (hown : w4.ownsRow w.heap.size 3 1 v4 (A.length + 1) (idsC A ++ [.int .i64 q.1])) (hg : (wr.alloc (.cells #[c] t)).grownBy w4 out.ownBlock) (hq : q.2 ≤ now) :
    RefT w4 p v' (q :: T) ∧ ∀ A', A' ≠ none → (∀ b off n c, v' = .slice (some ⟨b, off, none⟩) n c → (0 < T.length → A' = some ⟨b, off + 2, none⟩) → A'.map (·.block) = some b → RI w p v S now T.length v4 (w4.setCell ⟨p, 0, none⟩ (.slice A' T.length (c - 1))) (A ++ [q]) T (.slice A' T.length (c - 1))) := by
  have hS0 : 0 < S.length := by rw [h.split]; simp; omega
  have hk : ∀ k, k < w.heap.size → w4.heap[k]? = wr.heap[k]? := fun k hk' => (hg.block k (by have := h.kept.size; simp; omega) (fun e => by have := (h.row.lt k e.symm).1; omega)).trans (Below.heap_alloc _ _ _ (Nat.lt_of_lt_of_le hk' h.kept.size))
  have hs : wr.heap.size ≤ w4.heap.size := Nat.le_trans (by simp) hg.size
  have hr : RefT w4 p v' (q :: T) := h.ref.keep (fun k _ e => hk k (by rcases e with rfl | e; exact hp; exact hv k (by rw [← h.own]; exact e) hS0)) hs
  have hkw : Kept (fun k => k = p) w w4 := ⟨hg.os.trans h.kept.os, hg.tape.trans h.kept.tape, hg.output.trans h.kept.output, Nat.le_trans h.kept.size hs, fun k hk' hne => (hk k hk').trans (h.kept.block k hk' hne)⟩
  refine ⟨hr, fun A' hne b off n c e hA hb => ?_⟩
  subst e
  have hob : (Value.slice A' T.length (c - 1)).ownBlock = v.ownBlock := by
    rw [← h.own]
    cases A' with
    | none => exact (hne rfl).elim
    | some a => exact hb
  have hsep : (Value.slice A' T.length (c - 1)).ownBlock ≠ some p := by rw [hob, ← h.own]; exact h.ref.sep
  obtain ⟨r1, r2⟩ := hr.put (Below.refl _ _) (hr.row.tail hne hA) hsep
  refine ⟨by rw [h.split]; simp, fun x hx => ?_, rfl, r1, hob, ?_, hkw.trans r2⟩
  · rcases List.mem_append.1 hx with hx | hx
    · exact h.due x hx
    · obtain rfl := List.mem_singleton.1 hx; exact hq
  · have : (w4.setCell ⟨p, 0, none⟩ (.slice A' T.length (c - 1))).ownsRow w.heap.size 3 1 v4 (A.length + 1) (idsC A ++ [.int .i64 q.1]) := ownsRow_setCell_below hown (by exact hp) _
    rw [List.length_append, idsC, List.map_append]; exact this
end
set_option maxRecDepth 100000 in
set_option maxHeartbeats 2000000 in
theorem RDue_any {w : World} {p : Nat} {v : Value} {S : List It} (h : RefT w p v S) (now : Int) (hnow : wf now) (hn : S.length < 1099511627775) :
    Calls Try.prog 38 #[.pointer (some ⟨p, 0, none⟩), .int .i64 now] w fun e w' => ∃ out v', e = .returned out ∧ w'.ownsRow w.heap.size 3 1 out (dueS S now).length (idsC (dueS S now)) ∧ RefT w' p v' (restS S now) ∧ v'.ownBlock = v.ownBlock ∧ Kept (fun k => k = p) w w' := by
  obtain ⟨i0, hi, hz0, hz1, hz2⟩ := info_parts info3
  have hpl := h.lt
  have hvb : Hid (∀ k, v.ownBlock = some k → 0 < S.length → k < w.heap.size) := Lib.hid fun k hk h0 => by
    obtain ⟨a, c, rfl, _, _, _, h3⟩ := h.row
    obtain ⟨b, off, rfl, hb, _⟩ := h3 h0
    have := Option.some.inj hk
    have : b = k := this
    omega
  go_enter Try.func38, Try.ntmps38
  go_wp2
  go_loopg [5] S.length (fun n out wr => ∃ A T v', RI w p v S now n out wr A T v')
  case atStart => exact ⟨[], S, v, rfl, by simp, rfl, h, rfl, World.ownsRow_nil _ _ _ _, Kept.refl _ _⟩
  case round =>
    clear h
    obtain ⟨A, T, v', hI⟩ := hrel
    have hR := hI.ref
    obtain ⟨a, c, rfl, hlc, hcm, hnn, _⟩ := hR.row
    have c0 := hR.c0
    have f0 := hR.fr
    have hcm' : (c : Int) ≤ 9223372036854775807 := by unfold maxLen at hcm; omega
    cases T with
    | nil =>
      have hend := hI.done (fun p T' e => by cases e)
      have c0 : wr.cell? ⟨p, 0, none⟩ = some (.slice a 0 c) := c0
      clear hI hR
      go_wp2
      go_ret
      exact ⟨_, _, rfl, hend⟩
    | cons q T =>
      obtain ⟨b, off, hba, q0, q1⟩ := hR.row.at 0 (by simp)
      subst hba
      have hlen : S.length = A.length + (T.length + 1) := by rw [hI.split]; simp
      have q0 : wr.cell? ⟨b, off, none⟩ = some (.int .i64 q.1) := by simpa [g] using q0
      have q1 : wr.cell? ⟨b, off + 1, none⟩ = some (.int .i64 q.2) := by simpa [g] using q1
      have hIH := Lib.hid hI
      obtain ⟨m, hm⟩ : ∃ m, (q :: T).length = m := ⟨_, rfl⟩
      rw [hm] at c0 hlc
      have hm2 : m = T.length + 1 := by rw [← hm]; rfl
      have hmi : (0 : Int) < m := by omega
      have hmi1 : (1 : Int) ≤ m := by omega
      have hc2 : (m : Int) ≤ c := by omega
      have hdl : m - 1 = T.length := by omega
      have hAn : A.length < 1099511627775 := by omega
      have hw3 := hI.kept.size
      have hrow := hI.row
      have hmH := Lib.hid hm
      clear hm hI hR hlen
      by_cases hdue : now < q.2
      · have hdue' : ¬ q.2 ≤ now := by omega
        have hend := hIH.out.done (fun q' T' e => by cases e; exact hdue)
        go_wp2
        go_ret
        rw [hmH.out] at hend
        first
          | exact ⟨_, _, rfl, hend⟩
          | exact ⟨_, rfl, hend.1, _, hend.2⟩
      · have hdue' : q.2 ≤ now := by omega
        by_cases hck : c = 1
        · have hm1 : m = 1 := by omega
          have hT0 : T.length = 0 := by omega
          have he : (Value.slice (some ⟨b, off, none⟩) T.length (c - 1)) = .slice (some ⟨b, off, none⟩) 0 0 := by rw [hT0, show c - 1 = 0 by omega]
          have heH := Lib.hid he
          clear he
          go_wp2_with (at_builtin; refine wpList_append_own_at _ rfl (.tmp 23) (.tmp 31) 68 rfl w.heap.size 3 i0 (.int .i64 0) 1 8 Try.underlying68 hi hz0 hz1 hz2 rfl (by decide) u5 A.length (idsC A) rfl (hrow.alloc _) ⟨wr.heap.size, 0, none⟩ 1 1 [.int .i64 q.1] rfl rfl (cell_one_new _ _ _) (by intro u hu; simp at hu; rw [hu]; rfl) (by unfold maxLen; omega) (by omega) (by simp; omega) ?_; intro v4 w4 hown4 hgrow4 hnil4 hat4; obtain ⟨hR4, hP4⟩ := hIH.out.push hpl hvb.out hown4 hgrow4 hdue'; have hP5 := hP4 (some ⟨b, off, none⟩) (by simp) b off (q :: T).length c rfl (by intro h0; first | rfl | omega) rfl; rw [heH.out] at hP5; have c4 := hR4.c0; have f4 := hR4.fr; rw [hmH.out] at c4; clear hnil4 hat4 hgrow4 hP4 hR4 hown4 c0 f0)
          go_roundg T.length
          case rel => exact ⟨A ++ [q], _, _, hP5⟩
          case measure => have := hIH.out.len; simp at this; omega
        · have hck' : ¬ c - 1 = 0 := by omega
          go_wp2_with (at_builtin; refine wpList_append_own_at _ rfl (.tmp 23) (.tmp 31) 68 rfl w.heap.size 3 i0 (.int .i64 0) 1 8 Try.underlying68 hi hz0 hz1 hz2 rfl (by decide) u5 A.length (idsC A) rfl (hrow.alloc _) ⟨wr.heap.size, 0, none⟩ 1 1 [.int .i64 q.1] rfl rfl (cell_one_new _ _ _) (by intro u hu; simp at hu; rw [hu]; rfl) (by unfold maxLen; omega) (by omega) (by simp; omega) ?_; intro v4 w4 hown4 hgrow4 hnil4 hat4; obtain ⟨hR4, hP4⟩ := hIH.out.push hpl hvb.out hown4 hgrow4 hdue'; have hP5 := hP4 (some ⟨b, off + 2, none⟩) (by simp) b off (q :: T).length c rfl (by intro h0; first | rfl | omega) rfl; have c4 := hR4.c0; have f4 := hR4.fr; rw [hmH.out] at c4; clear hnil4 hat4 hgrow4 hP4 hR4 hown4 c0 f0)
          go_roundg T.length
          case rel => exact ⟨A ++ [q], _, _, hP5⟩
          case measure => have := hIH.out.len; simp at this; omega
end Go.Proofs.Ytmgapdbfaoflmaa.Tm
