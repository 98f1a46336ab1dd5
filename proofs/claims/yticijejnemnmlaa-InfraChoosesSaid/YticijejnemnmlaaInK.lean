/- What the statements need of what is reckoned: plain laws. -/
import Derived.Test.YticijejnemnmlaaInJ
import Derived.Test.YticijejnemnmlaaNmP
namespace Go.Proofs.Yticijejnemnmlaa.If
open Go.RowKit Rt
set_option linter.unusedSimpArgs false
set_option linter.unusedVariables false
/-! ### the band -/
theorem ga_of_mem {l : List Ad} {x : Ad} {j : Nat} (h : x ∈ l.take j) : ∃ i, i < j ∧ i < l.length ∧ ga l i = x := by
  obtain ⟨i, hi, e⟩ := List.mem_iff_getElem.1 h
  rw [List.length_take] at hi
  refine ⟨i, by omega, by omega, ?_⟩
  rw [ga_eq (by omega), ← e, List.getElem_take]
theorem bandTo_ok (st : Ad → Option Sp) (z : ByteArray) (now : Int) (l : List Ad) (j : Nat) : ∀ a ∈ (bandTo st z now l j).1, okA st z now a = true := by
  induction j with
  | zero => intro a ha; cases ha
  | succ j ih =>
    intro a ha
    unfold bandTo at ha
    split at ha
    · exact ih a ha
    · rename_i hn
      rcases List.mem_append.1 ha with h | h
      · exact ih a h
      · rw [List.mem_singleton.1 h]
        cases e : okA st z now (ga l j) with
        | true => rfl
        | false => exact absurd (.inr e) hn
theorem bandTo_min (st : Ad → Option Sp) (z : ByteArray) (now : Int) (l : List Ad) (j : Nat) (hj : j ≤ l.length) : ∀ i, i < j → okA st z now (ga l i) = true →
    (bandTo st z now l j).1.length ≠ 0 ∧ (bandTo st z now l j).2 ≤ toP ((st (ga l i)).getD zeroP) := by
  induction j with
  | zero => intro i hi; omega
  | succ j ih =>
    intro i hi ho
    unfold bandTo
    split
    · rename_i h
      rcases Nat.lt_or_ge i j with h1 | h1
      · exact ih (by omega) i h1 ho
      · obtain rfl : i = j := by omega
        rcases h with h | h
        · obtain ⟨k, k1, k2, k3⟩ := ga_of_mem h
          rw [← k3] at ho ⊢
          exact ih (by omega) k k1 ho
        · rw [h] at ho; cases ho
    · refine ⟨by simp, ?_⟩
      simp only
      rcases Nat.lt_or_ge i j with h1 | h1
      · obtain ⟨q1, q2⟩ := ih (by omega) i h1 ho
        split
        · rename_i h
          rcases h with h | h
          · exact absurd h q1
          · omega
        · exact q2
      · obtain rfl : i = j := by omega
        split
        · omega
        · rename_i h; omega
theorem bandL_mem {st : Ad → Option Sp} {z : ByteArray} {now : Int} {l : List Ad} {a : Ad} (h : a ∈ bandL st z now l) :
    a ∈ l ∧ rightA a = true ∧ lameB z now ((st a).getD zeroP) = false ∧ ∀ b ∈ l, rightA b = true → lameB z now ((st b).getD zeroP) = false → toP ((st a).getD zeroP) ≤ toP ((st b).getD zeroP) + 400 := by
  unfold bandL at h
  split at h
  · obtain ⟨h1, h2⟩ := List.mem_filter.1 h
    have h3 := bandTo_ok st z now l _ a h1
    unfold okA at h3
    simp only [Bool.and_eq_true, Bool.not_eq_true'] at h3
    refine ⟨bandTo_mem st z now l _ (Nat.le_refl _) a h1, h3.1, h3.2, fun b hb r1 r2 => ?_⟩
    have hb' : b ∈ l.take l.length := by rw [List.take_length]; exact hb
    obtain ⟨i, i1, i2, i3⟩ := ga_of_mem hb'
    have ho : okA st z now (ga l i) = true := by rw [i3]; unfold okA; rw [r1, r2]; rfl
    have := (bandTo_min st z now l l.length (Nat.le_refl _) i i1 ho).2
    rw [i3] at this
    unfold slow at h2
    simp only [Bool.not_eq_true', decide_eq_false_iff_not] at h2
    omega
  · cases h
theorem bandL_len (st : Ad → Option Sp) (z : ByteArray) (now : Int) (l : List Ad) : (bandL st z now l).length ≤ l.length := by
  unfold bandL
  split
  · exact Nat.le_trans (List.length_filter_le _ _) (bandTo_len st z now l _)
  · exact Nat.zero_le _
/-! ### deeds -/
/-- A deed. -/
structure De where
  k : Int
  a : Ad
  z : ByteArray
  n : Int
  now : Int
def pickW (c n : Int) : Int := (if c < 0 then -(c + 1) else c).tmod n
def chg (st : Ad → Option Sp) (a : Ad) (f : Sp → Sp) : Ad → Option Sp := if rightA a then upd st a f else st
def step4 (st : Ad → Option Sp) (d : De) : Ad → Option Sp :=
  if pickW d.k 4 = 0 then chg st d.a (smpP d.n)
  else if pickW d.k 4 = 1 then chg st d.a missP
  else if pickW d.k 4 = 2 then (if Nm.rightB d.z && isT d.now then chg st d.a (lameP (Nm.lowerW d.z) d.now) else st)
  else if isT d.now then chg st d.a (plainP d.now) else st
theorem chg_other {st : Ad → Option Sp} {a o : Ad} {f : Sp → Sp} (h : a ≠ o) : chg st a f o = st o := by
  unfold chg upd
  split
  · exact if_neg (fun e => h e.symm)
  · rfl
theorem chg_same {st st' : Ad → Option Sp} {a o : Ad} {f : Sp → Sp} (h : st o = st' o) : chg st a f o = chg st' a f o := by
  unfold chg upd
  split
  · simp only
    split
    · rename_i e; subst e; rw [h]
    · exact h
  · exact h
theorem step4_other {st : Ad → Option Sp} {d : De} {o : Ad} (h : d.a ≠ o) : step4 st d o = st o := by
  unfold step4
  repeat' split
  all_goals first | rfl | exact chg_other h
theorem step4_same {st st' : Ad → Option Sp} {d : De} {o : Ad} (h : st o = st' o) : step4 st d o = step4 st' d o := by
  unfold step4
  repeat' split
  all_goals first | exact h | exact chg_same h
/-! ### a server of one's own -/
theorem eqz_iff (z : ByteArray) (p : Lm) : eqz z p = decide (p.1 = z) := by
  unfold eqz
  congr 1
  apply propext
  constructor
  · intro h
    rw [ByteArray.toList_eq, ByteArray.toList_eq] at h
    cases hp : p.1 with
    | mk x => cases z with
      | mk y => rw [hp] at h; simp at h; rw [h]
  · intro h; rw [h]
theorem addLame_nil (z : ByteArray) (u : Int) : addLame z u [] = [(z, u)] := rfl
theorem lame_own (z c : ByteArray) (now later : Int) (p : Sp) (hp : p.lm = []) :
    lameB c later (lameP (Nm.lowerW z) now p) = (isT later && (Nm.rightB c && (decide (Nm.lowerW z = Nm.lowerW c) && decide (later < now + 900000)))) := by
  unfold lameB lameP lmz
  rw [hp, addLame_nil]
  simp [eqz_iff]
theorem toP_zero {p : Sp} (h0 : p.x0 = 0) (h1 : p.x1 = 0) (h2 : p.x2 = 0) : toP p = 376 := by
  unfold toP; rw [h0, h1, h2]; rfl
end Go.Proofs.Yticijejnemnmlaa.If
