/- The sums of chapter 4 as the document tells them: the words of the rounds in one row. -/
import Derived.Test.YtndiagcpinmefaaDgN
namespace Go.Proofs.Ytndiagcpinmefaa.Dg
set_option linter.unusedSimpArgs false
set_option linter.unusedVariables false

/-- The words of the rounds of SHA-1, the first ones. -/
def sched1 (ws : List UInt32) : Nat → List UInt32
  | 0 => []
  | n + 1 => sched1 ws n ++ [if n < 16 then ws.getD n 0 else rotl ((((sched1 ws n).getD (n - 3) 0 ^^^ (sched1 ws n).getD (n - 8) 0) ^^^ (sched1 ws n).getD (n - 14) 0) ^^^ (sched1 ws n).getD (n - 16) 0) 1]
theorem sched1_succ (ws : List UInt32) (n : Nat) : sched1 ws (n + 1) = sched1 ws n ++ [if n < 16 then ws.getD n 0 else rotl ((((sched1 ws n).getD (n - 3) 0 ^^^ (sched1 ws n).getD (n - 8) 0) ^^^ (sched1 ws n).getD (n - 14) 0) ^^^ (sched1 ws n).getD (n - 16) 0) 1] := rfl
theorem sched1_length (ws : List UInt32) (n : Nat) : (sched1 ws n).length = n := by
  induction n with
  | zero => rfl
  | succ n ih => simp [sched1, ih]
def w1 (ws : List UInt32) (j : Nat) : UInt32 := (sched1 ws (j + 1)).getD j 0
theorem sched1_get (ws : List UInt32) (j : Nat) : ∀ n, j < n → (sched1 ws n).getD j 0 = w1 ws j := by
  intro n
  induction n with
  | zero => intro h; omega
  | succ n ih =>
    intro h
    by_cases hj : j = n
    · subst hj; rfl
    · rw [← ih (by omega)]
      have hl := sched1_length ws n
      rw [sched1_succ]
      simp only [List.getD_eq_getElem?_getD]
      rw [List.getElem?_append_left (by omega)]
theorem w1_low (ws : List UInt32) (j : Nat) (h : j < 16) : w1 ws j = ws.getD j 0 := by
  unfold w1 sched1
  rw [List.getD_eq_getElem?_getD, List.getElem?_append_right (by rw [sched1_length]; omega), sched1_length, if_pos h]
  simp
theorem w1_high (ws : List UInt32) (j : Nat) (h : 16 ≤ j) : w1 ws j = rotl (((w1 ws (j - 3) ^^^ w1 ws (j - 8)) ^^^ w1 ws (j - 14)) ^^^ w1 ws (j - 16)) 1 := by
  rw [← sched1_get ws (j - 3) j (by omega), ← sched1_get ws (j - 8) j (by omega), ← sched1_get ws (j - 14) j (by omega), ← sched1_get ws (j - 16) j (by omega)]
  conv => lhs; unfold w1 sched1
  rw [List.getD_eq_getElem?_getD, List.getElem?_append_right (by rw [sched1_length]; omega), sched1_length, if_neg (by omega)]
  simp
theorem buf1_low (ws : List UInt32) : ∀ i, i ≤ 16 → buf1 ws i = ws := by
  intro i
  induction i with
  | zero => intro _; rfl
  | succ i ih => intro h; unfold buf1; rw [if_pos (by omega)]; exact ih (by omega)
theorem getD_set_ne (l : List UInt32) (i j : Nat) (x : UInt32) (h : i ≠ j) : (l.set i x).getD j 0 = l.getD j 0 := by
  simp [List.getD_eq_getElem?_getD, List.getElem?_set, h]
theorem getD_set_eq (l : List UInt32) (i : Nat) (x : UInt32) (h : i < l.length) : (l.set i x).getD i 0 = x := by
  simp [List.getD_eq_getElem?_getD, h]
theorem buf1_high (ws : List UInt32) (wl : ws.length = 16) : ∀ d j, d ≤ j → j < 16 + d → (buf1 ws (16 + d)).getD (j % 16) 0 = w1 ws j := by
  intro d
  induction d with
  | zero => intro j _ h; rw [buf1_low ws 16 (by omega), w1_low ws j (by omega), Nat.mod_eq_of_lt (by omega)]
  | succ d ih =>
    intro j h1 h2
    rw [show 16 + (d + 1) = (16 + d) + 1 by omega]
    unfold buf1
    rw [if_neg (by omega)]
    by_cases hj : j = 16 + d
    · subst hj
      rw [getD_set_eq _ _ _ (by rw [buf1_length, wl]; omega)]
      unfold new1
      rw [w1_high ws (16 + d) (by omega), ← ih (16 + d - 3) (by omega) (by omega), ← ih (16 + d - 8) (by omega) (by omega), ← ih (16 + d - 14) (by omega) (by omega), ← ih (16 + d - 16) (by omega) (by omega)]
      rw [show (16 + d + 13) % 16 = (16 + d - 3) % 16 by omega, show (16 + d + 8) % 16 = (16 + d - 8) % 16 by omega, show (16 + d + 2) % 16 = (16 + d - 14) % 16 by omega, show (16 + d) % 16 = (16 + d - 16) % 16 by omega]
    · rw [getD_set_ne _ _ _ _ (by omega)]
      exact ih j (by omega) (by omega)
theorem buf1_w1 (ws : List UInt32) (wl : ws.length = 16) (i : Nat) : (buf1 ws (i + 1)).getD (i % 16) 0 = w1 ws i := by
  by_cases h : i < 16
  · rw [buf1_low ws (i + 1) (by omega), w1_low ws i h, Nat.mod_eq_of_lt h]
  · obtain ⟨d, hd⟩ : ∃ d, i + 1 = 16 + d := ⟨i - 15, by omega⟩
    rw [hd]; exact buf1_high ws wl d i (by omega) (by omega)

theorem u32_ext {a b : UInt32} (h : ∀ i, i < 32 → a.toBitVec.getLsbD i = b.toBitVec.getLsbD i) : a = b := UInt32.toBitVec_inj.1 (BitVec.eq_of_getLsbD_eq h)
theorem u32_ones (i : Nat) (h : i < 32) : (4294967295#32).getLsbD i = true := by
  rw [show (4294967295#32) = BitVec.allOnes 32 by decide, BitVec.getLsbD_allOnes]; simpa using h
theorem ch_eq (b c d : UInt32) : d ^^^ (b &&& (c ^^^ d)) = (b &&& c) ||| ((b ^^^ 4294967295) &&& d) := by
  refine u32_ext fun i hi => ?_
  simp [u32_ones i hi]
  cases b.toBitVec.getLsbD i <;> cases c.toBitVec.getLsbD i <;> cases d.toBitVec.getLsbD i <;> rfl
theorem maj_eq (b c d : UInt32) : (b &&& c) ||| (d &&& (b ||| c)) = ((b &&& c) ||| (b &&& d)) ||| (c &&& d) := by
  refine u32_ext fun i hi => ?_
  simp
  cases b.toBitVec.getLsbD i <;> cases c.toBitVec.getLsbD i <;> cases d.toBitVec.getLsbD i <;> rfl
/-- The document's round. -/
def rf (i : Nat) (b c d : UInt32) : UInt32 :=
  if i < 20 then (b &&& c) ||| ((b ^^^ 4294967295) &&& d) else if i < 40 then b ^^^ c ^^^ d else if i < 60 then ((b &&& c) ||| (b &&& d)) ||| (c &&& d) else b ^^^ c ^^^ d
def rk (i : Nat) : UInt32 := if i < 20 then 1518500249 else if i < 40 then 1859775393 else if i < 60 then 2400959708 else 3395469782
theorem fn1_eq (i : Nat) (b c d : UInt32) : fn1 i b c d = rf i b c d + rk i := by
  unfold fn1 rf rk
  by_cases h1 : i < 20
  · rw [if_pos h1, if_pos h1, if_pos h1, ch_eq]
  · by_cases h2 : i < 40
    · rw [if_neg h1, if_neg h1, if_neg h1, if_pos h2, if_pos h2, if_pos h2]
    · by_cases h3 : i < 60
      · rw [if_neg h1, if_neg h1, if_neg h1, if_neg h2, if_neg h2, if_neg h2, if_pos h3, if_pos h3, if_pos h3, maj_eq]
      · rw [if_neg h1, if_neg h1, if_neg h1, if_neg h2, if_neg h2, if_neg h2, if_neg h3, if_neg h3, if_neg h3]
theorem rd1_ref (v : S5) (w : UInt32) (i : Nat) : rd1 v w i = ⟨rotl v.a 5 + rf i v.b v.c v.d + v.e + rk i + w, v.a, rotl v.b 30, v.c, v.d⟩ := by
  unfold rd1
  rw [fn1_eq]
  congr 1
  ac_rfl
theorem st1_succ (h : S5) (ws : List UInt32) (wl : ws.length = 16) (i : Nat) : st1 h ws (i + 1) = ⟨rotl (st1 h ws i).a 5 + rf i (st1 h ws i).b (st1 h ws i).c (st1 h ws i).d + (st1 h ws i).e + rk i + w1 ws i, (st1 h ws i).a, rotl (st1 h ws i).b 30, (st1 h ws i).c, (st1 h ws i).d⟩ := by
  rw [← rd1_ref, ← buf1_w1 ws wl]; rfl

theorem wordOf_nat (a b c d : UInt8) : (wordOf a b c d).toNat = a.toNat * 16777216 + b.toNat * 65536 + c.toNat * 256 + d.toNat := by
  have ha := a.toNat_lt; have hb := b.toNat_lt; have hc := c.toNat_lt; have hd := d.toNat_lt
  unfold wordOf
  simp only [UInt32.toNat_or, UInt32.toNat_shiftLeft, UInt8.toNat_toUInt32]
  rw [show (24 : UInt32).toNat % 32 = 24 by decide, show (16 : UInt32).toNat % 32 = 16 by decide, show (8 : UInt32).toNat % 32 = 8 by decide]
  rw [Nat.shiftLeft_eq, Nat.shiftLeft_eq, Nat.shiftLeft_eq, Nat.mod_eq_of_lt (by omega : a.toNat * 2 ^ 24 < 2 ^ 32), Nat.mod_eq_of_lt (by omega : b.toNat * 2 ^ 16 < 2 ^ 32), Nat.mod_eq_of_lt (by omega : c.toNat * 2 ^ 8 < 2 ^ 32)]
  rw [Nat.mul_comm a.toNat, ← Nat.two_pow_add_eq_or_of_lt (by omega : b.toNat * 2 ^ 16 < 2 ^ 24)]
  rw [show 2 ^ 24 * a.toNat + b.toNat * 2 ^ 16 = 2 ^ 16 * (a.toNat * 256 + b.toNat) by omega, ← Nat.two_pow_add_eq_or_of_lt (by omega : c.toNat * 2 ^ 8 < 2 ^ 16)]
  rw [show 2 ^ 16 * (a.toNat * 256 + b.toNat) + c.toNat * 2 ^ 8 = 2 ^ 8 * (a.toNat * 65536 + b.toNat * 256 + c.toNat) by omega, ← Nat.two_pow_add_eq_or_of_lt (by omega : d.toNat < 2 ^ 8)]
  try omega

/-- The words of the rounds of SHA-256, the first ones. -/
def sched2 (ws : List UInt32) : Nat → List UInt32
  | 0 => []
  | n + 1 => sched2 ws n ++ [if n < 16 then ws.getD n 0 else new2 ((sched2 ws n).getD (n - 15) 0) ((sched2 ws n).getD (n - 2) 0) ((sched2 ws n).getD (n - 7) 0) ((sched2 ws n).getD (n - 16) 0)]
theorem sched2_succ (ws : List UInt32) (n : Nat) : sched2 ws (n + 1) = sched2 ws n ++ [if n < 16 then ws.getD n 0 else new2 ((sched2 ws n).getD (n - 15) 0) ((sched2 ws n).getD (n - 2) 0) ((sched2 ws n).getD (n - 7) 0) ((sched2 ws n).getD (n - 16) 0)] := rfl
theorem sched2_length (ws : List UInt32) (n : Nat) : (sched2 ws n).length = n := by
  induction n with
  | zero => rfl
  | succ n ih => simp [sched2, ih]
def w2 (ws : List UInt32) (j : Nat) : UInt32 := (sched2 ws (j + 1)).getD j 0
theorem sched2_get (ws : List UInt32) (j : Nat) : ∀ n, j < n → (sched2 ws n).getD j 0 = w2 ws j := by
  intro n
  induction n with
  | zero => intro h; omega
  | succ n ih =>
    intro h
    by_cases hj : j = n
    · subst hj; rfl
    · rw [← ih (by omega)]
      have hl := sched2_length ws n
      rw [sched2_succ]
      simp only [List.getD_eq_getElem?_getD]
      rw [List.getElem?_append_left (by omega)]
theorem w2_low (ws : List UInt32) (j : Nat) (h : j < 16) : w2 ws j = ws.getD j 0 := by
  unfold w2 sched2
  rw [List.getD_eq_getElem?_getD, List.getElem?_append_right (by rw [sched2_length]; omega), sched2_length, if_pos h]
  simp
theorem w2_high (ws : List UInt32) (j : Nat) (h : 16 ≤ j) : w2 ws j = new2 (w2 ws (j - 15)) (w2 ws (j - 2)) (w2 ws (j - 7)) (w2 ws (j - 16)) := by
  rw [← sched2_get ws (j - 15) j (by omega), ← sched2_get ws (j - 2) j (by omega), ← sched2_get ws (j - 7) j (by omega), ← sched2_get ws (j - 16) j (by omega)]
  conv => lhs; unfold w2 sched2
  rw [List.getD_eq_getElem?_getD, List.getElem?_append_right (by rw [sched2_length]; omega), sched2_length, if_neg (by omega)]
  simp
theorem buf2_low (ws : List UInt32) : ∀ i, i ≤ 16 → buf2 ws i = ws := by
  intro i
  induction i with
  | zero => intro _; rfl
  | succ i ih => intro h; unfold buf2; rw [if_pos (by omega)]; exact ih (by omega)
theorem buf2_high (ws : List UInt32) (wl : ws.length = 16) : ∀ d j, d ≤ j → j < 16 + d → (buf2 ws (16 + d)).getD (j % 16) 0 = w2 ws j := by
  intro d
  induction d with
  | zero => intro j _ h; rw [buf2_low ws 16 (by omega), w2_low ws j (by omega), Nat.mod_eq_of_lt (by omega)]
  | succ d ih =>
    intro j h1 h2
    rw [show 16 + (d + 1) = (16 + d) + 1 by omega]
    unfold buf2
    rw [if_neg (by omega)]
    by_cases hj : j = 16 + d
    · subst hj
      rw [getD_set_eq _ _ _ (by rw [buf2_length, wl]; omega)]
      rw [w2_high ws (16 + d) (by omega), ← ih (16 + d - 15) (by omega) (by omega), ← ih (16 + d - 2) (by omega) (by omega), ← ih (16 + d - 7) (by omega) (by omega), ← ih (16 + d - 16) (by omega) (by omega)]
      rw [show (16 + d + 1) % 16 = (16 + d - 15) % 16 by omega, show (16 + d + 14) % 16 = (16 + d - 2) % 16 by omega, show (16 + d + 9) % 16 = (16 + d - 7) % 16 by omega, show (16 + d) % 16 = (16 + d - 16) % 16 by omega]
    · rw [getD_set_ne _ _ _ _ (by omega)]
      exact ih j (by omega) (by omega)
theorem buf2_w2 (ws : List UInt32) (wl : ws.length = 16) (i : Nat) : (buf2 ws (i + 1)).getD (i % 16) 0 = w2 ws i := by
  by_cases h : i < 16
  · rw [buf2_low ws (i + 1) (by omega), w2_low ws i h, Nat.mod_eq_of_lt h]
  · obtain ⟨d, hd⟩ : ∃ d, i + 1 = 16 + d := ⟨i - 15, by omega⟩
    rw [hd]; exact buf2_high ws wl d i (by omega) (by omega)
theorem ch2_eq (e f g : UInt32) : (e &&& f) ^^^ ((e ^^^ 4294967295) &&& g) = g ^^^ (e &&& (f ^^^ g)) := by
  refine u32_ext fun i hi => ?_
  simp [u32_ones i hi]
  cases e.toBitVec.getLsbD i <;> cases f.toBitVec.getLsbD i <;> cases g.toBitVec.getLsbD i <;> rfl
theorem maj2_eq (a b c : UInt32) : ((a &&& b) ^^^ (a &&& c)) ^^^ (b &&& c) = (a &&& b) ||| (c &&& (a ||| b)) := by
  refine u32_ext fun i hi => ?_
  simp
  cases a.toBitVec.getLsbD i <;> cases b.toBitVec.getLsbD i <;> cases c.toBitVec.getLsbD i <;> rfl
theorem st2_succ (ks : List UInt32) (h : S8) (ws : List UInt32) (wl : ws.length = 16) (i : Nat) : st2 ks h ws (i + 1) = rd2 (st2 ks h ws i) (ks.getD i 0) (w2 ws i) := by
  rw [← buf2_w2 ws wl]; rfl
/-- The document's sums of a round. -/
theorem tt2_ref (v : S8) (k w : UInt32) : (((v.h + ((rotl v.e 26 ^^^ rotl v.e 21) ^^^ rotl v.e 7)) + ((v.e &&& v.f) ^^^ ((v.e ^^^ 4294967295) &&& v.g))) + k) + w = tt2 v k w := by
  unfold tt2 mix3; rw [ch2_eq]
theorem uu2_ref (v : S8) : ((rotl v.a 30 ^^^ rotl v.a 19) ^^^ rotl v.a 10) + (((v.a &&& v.b) ^^^ (v.a &&& v.c)) ^^^ (v.b &&& v.c)) = uu2 v := by
  unfold uu2 mix3; rw [maj2_eq]
theorem new2_ref (x y z t : UInt32) : ((t + ((rotl x 25 ^^^ rotl x 14) ^^^ x >>> 3)) + z) + ((rotl y 15 ^^^ rotl y 13) ^^^ y >>> 10) = new2 x y z t := by
  unfold new2; ac_rfl
theorem words_get (r : List UInt8) : ∀ n i, i < n → (wordsN r n).getD i 0 = wordOf (r.getD (4 * i) 0) (r.getD (4 * i + 1) 0) (r.getD (4 * i + 2) 0) (r.getD (4 * i + 3) 0) := by
  intro n
  induction n with
  | zero => intro i h; omega
  | succ n ih =>
    intro i h
    unfold wordsN
    rw [List.getD_eq_getElem?_getD]
    by_cases hi : i < n
    · rw [List.getElem?_append_left (by rw [wordsN_length]; exact hi), ← List.getD_eq_getElem?_getD, ih i hi]
    · obtain rfl : i = n := by omega
      rw [List.getElem?_append_right (by rw [wordsN_length]; omega), wordsN_length]; simp
theorem getD_drop (R : List UInt8) (a j : Nat) : (R.drop a).getD j 0 = R.getD (a + j) 0 := by
  simp [List.getD_eq_getElem?_getD]
end Go.Proofs.Ytndiagcpinmefaa.Dg
