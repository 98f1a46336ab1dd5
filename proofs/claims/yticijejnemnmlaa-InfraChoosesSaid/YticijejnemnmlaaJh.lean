/- Pair stores apart; a deed in a box. -/
import Derived.Test.YticijejnemnmlaaJg
namespace Go.Proofs.Yticijejnemnmlaa.If
open Go.RowKit Rt
set_option linter.unusedSimpArgs false
set_option linter.unusedVariables false
/-! ### what a deed does -/
def stepQ (q : Int) (st : Ad → Option Sp) (d : De) : Ad → Option Sp :=
  if q = 0 then chg st d.a (smpP d.n) else if q = 1 then chg st d.a missP else if q = 2 then setLameS st d.a d.z d.now else setPlainS st d.a d.now
theorem stepQ_other {q : Int} {st : Ad → Option Sp} {d : De} {o : Ad} (h : d.a ≠ o) : stepQ q st d o = st o := by
  unfold stepQ setLameS setPlainS
  repeat' split
  all_goals first | rfl | exact chg_other h
theorem stepQ_same {q : Int} {st st' : Ad → Option Sp} {d : De} {o : Ad} (h : st o = st' o) : stepQ q st d o = stepQ q st' d o := by
  unfold stepQ setLameS setPlainS
  repeat' split
  all_goals first | exact h | exact chg_same h
/-! ### two stores -/
/-- Pair stores that share no block, and own none of P. -/
def Pair (P : Nat → Prop) (W : World) (xb yb : Nat) (sx : Ad → Option Sp) (nx : Nat) (sy : Ad → Option Sp) (ny : Nat) : Prop :=
  ∃ Ux Uy, InfS W Ux xb 1000 sx nx ∧ InfS W Uy yb 1000 sy ny ∧ (∀ k, Ux k → ¬ Uy k) ∧ (∀ k, Ux k → ¬ P k) ∧ (∀ k, Uy k → ¬ P k) ∧ ∀ k, P k → k < W.heap.size
section
variable {P : Nat → Prop} {W W' : World} {xb yb nx ny : Nat} {sx sy : Ad → Option Sp}
theorem Pair.swap (h : Pair P W xb yb sx nx sy ny) : Pair P W yb xb sy ny sx nx := by
  obtain ⟨Ux, Uy, h1, h2, h3, h4, h5, h6⟩ := h
  exact ⟨Uy, Ux, h2, h1, fun k hk hx => h3 k hx hk, h5, h4, h6⟩
theorem Pair.read (h : Pair P W xb yb sx nx sy ny) (hb : Below W.heap.size W W') : Pair P W' xb yb sx nx sy ny := by
  obtain ⟨Ux, Uy, h1, h2, h3, h4, h5, h6⟩ := h
  exact ⟨Ux, Uy, h1.below hb, h2.below hb, h3, h4, h5, fun k hk => Nat.lt_of_lt_of_le (h6 k hk) hb.size⟩
theorem Pair.less {P' : Nat → Prop} (h : Pair P W xb yb sx nx sy ny) (hP : ∀ k, P' k → P k) : Pair P' W xb yb sx nx sy ny := by
  obtain ⟨Ux, Uy, h1, h2, h3, h4, h5, h6⟩ := h
  exact ⟨Ux, Uy, h1, h2, h3, fun k hk hp => h4 k hk (hP k hp), fun k hk hp => h5 k hk (hP k hp), fun k hk => h6 k (hP k hk)⟩
theorem Pair.add {P' : Nat → Prop} (h : Pair P W xb yb sx nx sy ny) (hb : Below W.heap.size W W') (hP : ∀ x, P' x → P x ∨ (W.heap.size ≤ x ∧ x < W'.heap.size)) : Pair P' W' xb yb sx nx sy ny := by
  obtain ⟨Ux, Uy, h1, h2, h3, h4, h5, h6⟩ := h
  refine ⟨Ux, Uy, h1.below hb, h2.below hb, h3, fun x hx hp => ?_, fun x hx hp => ?_, fun x hp => ?_⟩
  · rcases hP x hp with h | ⟨h, _⟩
    · exact h4 x hx h
    · have := h1.lt x hx; omega
  · rcases hP x hp with h | ⟨h, _⟩
    · exact h5 x hx h
    · have := h2.lt x hx; omega
  · rcases hP x hp with h | ⟨_, h⟩
    · exact Nat.lt_of_lt_of_le (h6 x h) hb.size
    · exact h
theorem Pair.px (h : Pair P W xb yb sx nx sy ny) : InfP P W xb 1000 sx nx := by
  obtain ⟨Ux, Uy, h1, h2, h3, h4, h5, h6⟩ := h
  exact ⟨Ux, h1, h4, h6⟩
/-- What a change of the first leaves of the two. -/
def PairC (P : Nat → Prop) (W : World) (xb yb : Nat) (sx : Ad → Option Sp) (nx : Nat) (sy : Ad → Option Sp) (ny : Nat) (e : Ending) (W' : World) : Prop :=
  (∃ v : Int, e = .returned (.int .i64 v)) ∧ Pair P W' xb yb sx nx sy ny ∧ Kept (fun x => ¬ P x) W W'
theorem Pair.op (h : Pair P W xb yb sx nx sy ny) {f : FuncId} {args : Array Value} {st' : Ad → Option Sp} {n' : Nat} {v : Int} (hc : ∀ U, InfS W U xb 1000 sx nx → Calls Try.prog f args W (Chg1 W U xb 1000 st' n' v)) :
    Calls Try.prog f args W (PairC P W xb yb st' n' sy ny) := by
  obtain ⟨Ux, Uy, h1, h2, h3, h4, h5, h6⟩ := h
  refine (hc Ux h1).mono ?_
  rintro e W' ⟨he, U', hS', hL, hK⟩
  refine ⟨⟨v, he⟩, ⟨U', Uy, hS', h2.kept hK (fun x hx hxx => h3 x hxx hx), fun k hk hy => ?_, fun k hk hp => ?_, h5, fun k hk => Nat.lt_of_lt_of_le (h6 k hk) hK.size⟩, hK.mono fun k _ hk => h4 k hk⟩
  · rcases hL k hk with h | h
    · exact h3 k h hy
    · have := h2.lt k hy; omega
  · rcases hL k hk with h | h
    · exact h4 k h hp
    · have := h6 k hp; omega
end
/-! ### a deed in a box -/
def Box8 (w : World) (b : Nat) (d : De) (la : Option Addr) (ln lc : Nat) : Prop := w.heap[b]? = some (.cells #[.int .i64 d.k, .bool d.a.v6, .int .u64 d.a.hi, .int .u64 d.a.lo, .string d.z, .int .i64 d.n, .int .i64 d.now, .slice la ln lc] 33 (0, 0))
section
variable {w w' : World} {b : Nat} {d : De} {la : Option Addr} {ln lc : Nat}
theorem Box8.lt (h : Box8 w b d la ln lc) : b < w.heap.size := (Array.getElem?_eq_some_iff.1 h).1
theorem Box8.below (h : Box8 w b d la ln lc) (hb : Below w.heap.size w w') : Box8 w' b d la ln lc := (hb.block b h.lt).trans h
theorem Box8.cells (h : Box8 w b d la ln lc) : w.cell? ⟨b, 0, none⟩ = some (.int .i64 d.k) ∧ w.cell? ⟨b, 1, none⟩ = some (.bool d.a.v6) ∧ w.cell? ⟨b, 2, none⟩ = some (.int .u64 d.a.hi) ∧ w.cell? ⟨b, 3, none⟩ = some (.int .u64 d.a.lo) ∧ w.cell? ⟨b, 4, none⟩ = some (.string d.z) ∧ w.cell? ⟨b, 5, none⟩ = some (.int .i64 d.n) ∧ w.cell? ⟨b, 6, none⟩ = some (.int .i64 d.now) := by
  unfold Box8 at h
  refine ⟨?_, ?_, ?_, ?_, ?_, ?_, ?_⟩ <;> (unfold World.cell?; simp only [h]; rfl)
end
/-- How the world stands between two deeds. -/
structure AS (w W : World) (xb yb : Nat) (o : Ad) (sx : Ad → Option Sp) (nx : Nat) (sy : Ad → Option Sp) (ny : Nat) : Prop where
  two : Pair (fun x => x < w.heap.size + 1) W xb yb sx nx sy ny
  bel : Below w.heap.size w W
  A : Box3 W w.heap.size (.bool o.v6) (.int .u64 o.hi) (.int .u64 o.lo)
/-- .. and within one. -/
structure AD (w W : World) (xb yb : Nat) (o : Ad) (db : Nat) (d : De) (la : Option Addr) (ln lc : Nat) (sx : Ad → Option Sp) (nx : Nat) (sy : Ad → Option Sp) (ny : Nat) : Prop where
  two : Pair (fun x => x < w.heap.size + 1 ∨ x = db) W xb yb sx nx sy ny
  bel : Below w.heap.size w W
  A : Box3 W w.heap.size (.bool o.v6) (.int .u64 o.hi) (.int .u64 o.lo)
  D : Box8 W db d la ln lc
section
variable {w W W' : World} {xb yb nx ny : Nat} {o : Ad} {sx sy : Ad → Option Sp} {db : Nat} {d : De} {la : Option Addr} {ln lc : Nat}
theorem AS.read (h : AS w W xb yb o sx nx sy ny) (hb : Below W.heap.size W W') : AS w W' xb yb o sx nx sy ny := ⟨h.two.read hb, h.bel.trans (hb.mono h.bel.size), h.A.below hb⟩
theorem AS.deed (h : AS w W xb yb o sx nx sy ny) (hb : Below W.heap.size W W') (hs : W.heap.size < W'.heap.size) (hD : Box8 W' W.heap.size d la ln lc) : AD w W' xb yb o W.heap.size d la ln lc sx nx sy ny :=
  ⟨h.two.add hb fun x hx => hx.imp id fun e => by subst e; exact ⟨Nat.le_refl _, hs⟩, h.bel.trans (hb.mono h.bel.size), h.A.below hb, hD⟩
theorem AD.done (h : AD w W xb yb o db d la ln lc sx nx sy ny) : AS w W xb yb o sx nx sy ny := ⟨h.two.less fun k hk => .inl hk, h.bel, h.A⟩
theorem AD.op {sx' : Ad → Option Sp} {nx' : Nat} {e : Ending} (h : AD w W xb yb o db d la ln lc sx nx sy ny) (hc : PairC (fun x => x < w.heap.size + 1 ∨ x = db) W xb yb sx' nx' sy ny e W') : AD w W' xb yb o db d la ln lc sx' nx' sy ny := by
  obtain ⟨_, h1, h2⟩ := hc
  exact ⟨h1, h.bel.trans (h2.below h.bel.size fun k hk hn => hn (.inl (Nat.lt_succ_of_lt hk))), (h2.block _ h.A.lt fun hn => hn (.inl (Nat.lt_succ_self _))).trans h.A, (h2.block _ h.D.lt fun hn => hn (.inr rfl)).trans h.D⟩
theorem AD.op2 {sy' : Ad → Option Sp} {ny' : Nat} {e : Ending} (h : AD w W xb yb o db d la ln lc sx nx sy ny) (hc : PairC (fun x => x < w.heap.size + 1 ∨ x = db) W yb xb sy' ny' sx nx e W') : AD w W' xb yb o db d la ln lc sx nx sy' ny' := by
  obtain ⟨_, h1, h2⟩ := hc
  exact ⟨h1.swap, h.bel.trans (h2.below h.bel.size fun k hk hn => hn (.inl (Nat.lt_succ_of_lt hk))), (h2.block _ h.A.lt fun hn => hn (.inl (Nat.lt_succ_self _))).trans h.A, (h2.block _ h.D.lt fun hn => hn (.inr rfl)).trans h.D⟩
end
end Go.Proofs.Yticijejnemnmlaa.If
