/- pick; timers of one's own: words for the statements on timers. -/
import Derived.Test.YtmgapdbfaoflmaaTmW
namespace Go.Proofs.Ytmgapdbfaoflmaa.Tm
open Go.RowKit Rt
set_option linter.unusedSimpArgs false
set_option linter.unusedVariables false
def pk (x n : Int) : Int := if x < 0 then (-(x + 1)) % n else x % n
theorem pk_bd (x n : Int) (hn : 0 < n) : 0 ≤ pk x n ∧ pk x n < n := by
  unfold pk; split <;> exact ⟨Int.emod_nonneg _ (by omega), Int.emod_lt_of_pos _ hn⟩
theorem pick_any (x n : Int) (w : World) (hx : wf x) (hn : 0 < n) (hn2 : n ≤ 1000001) : Calls Try.prog 31 #[.int .i64 x, .int .i64 n] w fun e w' => e = .returned (.int .i64 (pk x n)) ∧ w' = w := by
  obtain ⟨hx1, hx2⟩ := hx
  by_cases h : x < 0
  · have e1 : Hid (pk x n = (-(x + 1)) % n) := Lib.hid (by unfold pk; rw [if_pos h])
    obtain ⟨y, hy⟩ : ∃ y, x + 1 = y := ⟨_, rfl⟩
    obtain ⟨z, hz⟩ : ∃ z, -y = z := ⟨_, rfl⟩
    have hw1 := wr (show -9223372036854775808 ≤ y by omega) (by omega)
    have hw2 := wr (show -9223372036854775808 ≤ z by omega) (by omega)
    have hw3 : wrap64 y = y := by unfold wrap64; omega
    have hw4 : wrap64 z = z := by unfold wrap64; omega
    have hz0 : 0 ≤ z := by omega
    have htm : z.tmod n = z % n := Int.tmod_eq_emod_of_nonneg hz0
    have hn0 : (n == 0) = false := beq_eq_false_iff_ne.2 (by omega)
    have hn1 : n ≠ 0 := by omega
    rw [hy, hz] at e1
    go_enter Try.func31, Try.ntmps31
    go_wp2
    go_ret
    exact ⟨by rw [e1.out]; rfl, rfl⟩
  · have e1 : Hid (pk x n = x % n) := Lib.hid (by unfold pk; rw [if_neg h])
    have hx0 : 0 ≤ x := by omega
    have htm : x.tmod n = x % n := Int.tmod_eq_emod_of_nonneg hx0
    have hn0 : (n == 0) = false := beq_eq_false_iff_ne.2 (by omega)
    have hn1 : n ≠ 0 := by omega
    go_enter Try.func31, Try.ntmps31
    go_wp2
    go_ret
    exact ⟨by rw [e1.out]; rfl, rfl⟩
/-- All that a timer may write lies from B on. -/
def OwnFrom (B tb bm : Nat) (v : Value) : Prop := ∀ k, Mine tb bm v k → B ≤ k
theorem OwnFrom.step {B tb bm : Nat} {v v' : Value} (h : OwnFrom B tb bm v) {n : Nat} (hn : B ≤ n) (hv : v'.ownBlock = v.ownBlock ∨ ∃ g, v'.ownBlock = some g ∧ n ≤ g) : OwnFrom B tb bm v' := by
  intro k hk
  rcases hk with e | e | e
  · exact h k (.inl e)
  · exact h k (.inr (.inl e))
  · rcases hv with e2 | ⟨g, e2, hg⟩
    · exact h k (.inr (.inr (e2 ▸ e)))
    · rw [e2] at e; have := Option.some.inj e; omega
theorem OwnFrom.same {B tb bm : Nat} {v v' : Value} (h : OwnFrom B tb bm v) (hv : v'.ownBlock = v.ownBlock) : OwnFrom B tb bm v' := by
  intro k hk
  rw [mine_eq hv] at hk
  exact h k hk
theorem OwnFrom.below {B tb bm : Nat} {v : Value} {w0 w w' : World} (h : OwnFrom B tb bm v) (hb : Below B w0 w) (hk : Kept (Mine tb bm v) w w') (hB : B ≤ w.heap.size) : Below B w0 w' :=
  hb.trans (hk.below hB fun k hk' hm => by have := h k hm; omega)
/-- A timer, of one's own since the world w. -/
structure TO (w wr : World) (tb bm : Nat) (v : Value) (S : List It) : Prop where
  t : TimerS wr tb bm v S
  own : OwnFrom w.heap.size tb bm v
  below : Below w.heap.size w wr
theorem TO.new {w w1 w2 : World} (hb1 : Below w.heap.size w w1) (h : TimerAt w2 (w1.heap.size + 1) w1.heap.size (.slice none 0 0) []) (hb2 : Below w1.heap.size w1 w2) : TO w w2 (w1.heap.size + 1) w1.heap.size (.slice none 0 0) [] :=
  ⟨⟨[], h, Rel.nil⟩, (fun k hk => by
    have := hb1.size
    rcases hk with rfl | rfl | e
    · omega
    · omega
    · cases e), hb1.trans (hb2.mono hb1.size)⟩
theorem TO.set {w wr w' : World} {tb bm : Nat} {v v' : Value} {S S' : List It} (h : TO w wr tb bm v S) (ht : TimerS w' tb bm v' S') (hv : v'.ownBlock = v.ownBlock ∨ ∃ g, v'.ownBlock = some g ∧ wr.heap.size ≤ g) (hk : Kept (Mine tb bm v) wr w') : TO w w' tb bm v' S' :=
  ⟨ht, h.own.step h.below.size hv, h.own.below h.below hk h.below.size⟩
theorem TO.cut {w wr w' : World} {tb bm : Nat} {v v' : Value} {S S' : List It} (h : TO w wr tb bm v S) (ht : TimerS w' tb bm v' S') (hv : v'.ownBlock = v.ownBlock) (hk : Kept (Mine tb bm v) wr w') : TO w w' tb bm v' S' :=
  ⟨ht, h.own.same hv, h.own.below h.below hk h.below.size⟩
theorem TO.later {w wr w' : World} {tb bm : Nat} {v : Value} {S : List It} (h : TO w wr tb bm v S) (hb : Below wr.heap.size wr w') : TO w w' tb bm v S :=
  ⟨h.t.below hb, h.own, h.below.trans (hb.mono h.below.size)⟩
/-- The ids of a row. -/
theorem ids_val {w : World} {base : Nat} {v : Value} {D : List It} (h : w.ownsRow base 3 1 v D.length (idsC D)) : ∃ a c, v = .slice a D.length c := by
  rcases h.2 with ⟨rfl, e⟩ | ⟨gb, cap, cur, rfl, hb, hh, _⟩
  · exact ⟨none, 0, by rw [e]⟩
  · exact ⟨_, cap, rfl⟩
theorem ids_get {w : World} {base c : Nat} {a : Option Addr} {D : List It} (h : w.ownsRow base 3 1 (.slice a D.length c) D.length (idsC D)) (j : Nat) (hj : j < D.length) : ∃ b, a = some ⟨b, 0, none⟩ ∧ w.cell? ⟨b, j, none⟩ = some (.int .i64 (g D j).1) := by
  have h0 := h
  rcases h.2 with ⟨_, e⟩ | ⟨gb, cap, cur, hv, hb, hh, _⟩
  · omega
  · cases hv
    refine ⟨gb, rfl, ?_⟩
    rw [h0.cellAt j (by omega)]
    simp [idsC, g, hj]
end Go.Proofs.Ytmgapdbfaoflmaa.Tm
