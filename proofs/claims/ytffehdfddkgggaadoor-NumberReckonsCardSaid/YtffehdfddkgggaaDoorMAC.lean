/- Great numbers as digits: plain laws. -/
import Init
import GoSem.Op.String
import Derived.Laws.Strings
import Derived.Lib.TrimByte
namespace Go.Proofs.YtffehdfddkgggaaDoor.Nu
set_option linter.unusedSimpArgs false
set_option linter.unusedVariables false
/-- The base. -/
abbrev Bs : Nat := 4294967296
/-- A sum of digits, the least first. -/
def dsum (f : Nat → Nat) : Nat → Nat
  | 0 => 0
  | i + 1 => dsum f i + f i * Bs ^ i
def gd (L : List Nat) (i : Nat) : Nat := L.getD i 0
def val (L : List Nat) : Nat := dsum (gd L) L.length
/-- Digits. -/
def Dig (L : List Nat) : Prop := ∀ i, gd L i < Bs
/-- Digits, none behind that is 0. -/
structure Norm (L : List Nat) : Prop where
  dig : Dig L
  top : 0 < L.length → 0 < gd L (L.length - 1)
theorem dsum_succ (f : Nat → Nat) (i : Nat) : dsum f (i + 1) = dsum f i + f i * Bs ^ i := rfl
theorem pw (i : Nat) : Bs ^ (i + 1) = Bs * Bs ^ i := by rw [Nat.pow_succ, Nat.mul_comm]
theorem pw_pos (i : Nat) : 0 < Bs ^ i := Nat.pow_pos (by decide)
theorem gd_out {L : List Nat} {i : Nat} (h : L.length ≤ i) : gd L i = 0 := by
  unfold gd; rw [List.getD_eq_getElem?_getD, List.getElem?_eq_none h]; rfl
theorem gd_get {L : List Nat} {i : Nat} (h : i < L.length) : gd L i = L[i] := by
  unfold gd; rw [List.getD_eq_getElem?_getD, List.getElem?_eq_getElem h]; rfl
theorem dsum_congr {f g : Nat → Nat} {i : Nat} (h : ∀ j, j < i → f j = g j) : dsum f i = dsum g i := by
  induction i with
  | zero => rfl
  | succ i ih => rw [dsum_succ, dsum_succ, ih (fun j hj => h j (by omega)), h i (by omega)]
theorem dsum_lt {f : Nat → Nat} {i : Nat} (h : ∀ j, j < i → f j < Bs) : dsum f i < Bs ^ i := by
  induction i with
  | zero => unfold dsum; decide
  | succ i ih =>
    have h1 := ih (fun j hj => h j (by omega))
    have h2 := h i (by omega)
    rw [dsum_succ]
    have h3 : f i * Bs ^ i ≤ (Bs - 1) * Bs ^ i := Nat.mul_le_mul_right _ (by omega)
    have h4 : (Bs - 1) * Bs ^ i + Bs ^ i = Bs ^ (i + 1) := by rw [← Nat.succ_mul, pw]; rfl
    omega
theorem dsum_zero {f : Nat → Nat} {i k : Nat} (hk : i ≤ k) (h : ∀ j, i ≤ j → f j = 0) : dsum f k = dsum f i := by
  induction k with
  | zero => obtain rfl : i = 0 := by omega
            rfl
  | succ k ih =>
    rcases Nat.lt_or_ge k i with h1 | h1
    · obtain rfl : i = k + 1 := by omega
      rfl
    · rw [dsum_succ, ih h1, h k h1, Nat.zero_mul, Nat.add_zero]
theorem val_ext {L : List Nat} {k : Nat} (h : L.length ≤ k) : dsum (gd L) k = val L := dsum_zero h fun j hj => gd_out hj
theorem val_lt {L : List Nat} (h : Dig L) : val L < Bs ^ L.length := dsum_lt fun j _ => h j
theorem val_nil : val [] = 0 := rfl
theorem norm_nil : Norm [] := ⟨fun i => by unfold gd; simp, fun h => absurd h (by simp)⟩
theorem dsum_top {f : Nat → Nat} {i : Nat} : f i * Bs ^ i ≤ dsum f (i + 1) := by rw [dsum_succ]; omega
theorem norm_ge {L : List Nat} (h : Norm L) (h0 : 0 < L.length) : Bs ^ (L.length - 1) ≤ val L := by
  have h1 := h.top h0
  unfold val
  obtain ⟨k, hk⟩ : ∃ k, L.length = k + 1 := ⟨L.length - 1, by omega⟩
  rw [hk] at h1 ⊢
  simp only [Nat.add_sub_cancel] at h1 ⊢
  exact Nat.le_trans (Nat.le_mul_of_pos_left _ h1) (dsum_top (f := gd L))
theorem norm_zero {L : List Nat} (h : Norm L) : val L = 0 ↔ L = [] := by
  constructor
  · intro hv
    rcases Nat.eq_zero_or_pos L.length with h0 | h0
    · exact List.length_eq_zero_iff.1 h0
    · have := norm_ge h h0
      have := pw_pos (L.length - 1)
      omega
  · rintro rfl; rfl
/-- What is longer is greater. -/
theorem norm_len_lt {L M : List Nat} (hL : Norm L) (hM : Norm M) (h : L.length < M.length) : val L < val M := by
  have h1 := val_lt hL.dig
  have h2 := norm_ge hM (by omega)
  have h3 : Bs ^ L.length ≤ Bs ^ (M.length - 1) := Nat.pow_le_pow_right (by decide) (by omega)
  omega
/-- Two sums alike from k on: the digit at k decides. -/
theorem dsum_cmp {f g : Nat → Nat} {k n : Nat} (hf : ∀ j, f j < Bs) (hg : ∀ j, g j < Bs) (hk : k < n) (h : ∀ j, k < j → j < n → f j = g j) (hl : f k < g k) : dsum f n < dsum g n := by
  induction n with
  | zero => omega
  | succ n ih =>
    rw [dsum_succ, dsum_succ]
    rcases Nat.lt_or_ge k n with h1 | h1
    · have h2 := ih h1 (fun j a b => h j a (by omega))
      rw [h n h1 (by omega)]
      omega
    · obtain rfl : k = n := by omega
      have h2 := dsum_lt (f := f) (i := k) (fun j _ => hf j)
      have h3 : (f k + 1) * Bs ^ k ≤ g k * Bs ^ k := Nat.mul_le_mul_right _ hl
      rw [Nat.succ_mul] at h3
      omega
theorem val_inj {L M : List Nat} (hL : Norm L) (hM : Norm M) (h : val L = val M) : L = M := by
  have hlen : L.length = M.length := by
    rcases Nat.lt_trichotomy L.length M.length with h1 | h1 | h1
    · have := norm_len_lt hL hM h1; omega
    · exact h1
    · have := norm_len_lt hM hL h1; omega
  have key : ∀ d, d ≤ L.length → ∀ j, L.length - d ≤ j → j < L.length → gd L j = gd M j := by
    intro d
    induction d with
    | zero => intro _ j h1 h2; omega
    | succ d ih =>
      intro hd j h1 h2
      rcases Nat.lt_or_ge j (L.length - d) with h3 | h3
      · obtain rfl : j = L.length - (d + 1) := by omega
        rcases Nat.lt_trichotomy (gd L (L.length - (d + 1))) (gd M (L.length - (d + 1))) with h4 | h4 | h4
        · have := dsum_cmp hL.dig hM.dig h2 (fun j a b => ih (by omega) j (by omega) b) h4
          unfold val at h; rw [← hlen] at h; omega
        · exact h4
        · have := dsum_cmp hM.dig hL.dig h2 (fun j a b => (ih (by omega) j (by omega) b).symm) h4
          unfold val at h; rw [← hlen] at h; omega
      · exact ih (by omega) j h3 h2
  apply List.ext_getElem hlen
  intro i h1 h2
  have := key L.length (Nat.le_refl _) i (by omega) h1
  rwa [gd_get h1, gd_get h2] at this
end Go.Proofs.YtffehdfddkgggaaDoor.Nu

/- A digit of a quotient: the guess (Knuth's D): plain laws. -/
namespace Go.Proofs.YtffehdfddkgggaaDoor.Nu
set_option linter.unusedSimpArgs false
set_option linter.unusedVariables false
/-- What was divided and what by: the first digit v1 of v is great; top: the first two of u; P: what a place behind the first is worth. -/
structure KS (u v v1 top P ur vr : Nat) : Prop where
  ev : v = v1 * P + vr
  eu : u = top * P + ur
  lv : vr < P
  lu : ur < P
  g1 : 2147483648 ≤ v1
  l1 : v1 < Bs
  fits : u < v * Bs
/-- A guess q, and what it leaves of top. -/
structure KQ (u v v1 top q r : Nat) : Prop where
  eq : q * v1 + r = top
  hi : u < (q + 1) * v
  le : q ≤ Bs ∨ (q = Bs + 1 ∧ r < Bs)
section
variable {u v v1 top P ur vr q r : Nat}
theorem KS.pos (h : KS u v v1 top P ur vr) : 0 < P := Nat.lt_of_le_of_lt (Nat.zero_le _) h.lv
theorem KS.top_lt (h : KS u v v1 top P ur vr) : top < (v1 + 1) * Bs := by
  have h1 := h.fits
  have h2 : v < (v1 + 1) * P := by rw [h.ev, Nat.succ_mul]; have := h.lv; omega
  have h3 : top * P < ((v1 + 1) * Bs) * P := by
    have a1 : top * P ≤ u := by rw [h.eu]; omega
    have a2 : v * Bs < ((v1 + 1) * P) * Bs := Nat.mul_lt_mul_of_pos_right h2 (by decide)
    have a3 : ((v1 + 1) * P) * Bs = ((v1 + 1) * Bs) * P := by grind
    omega
  exact Nat.lt_of_mul_lt_mul_right h3
theorem KS.first (h : KS u v v1 top P ur vr) : KQ u v v1 top (top / v1) (top % v1) := by
  have hp := h.pos
  have h1 : 0 < v1 := by have := h.g1; omega
  have e : top / v1 * v1 + top % v1 = top := by rw [Nat.mul_comm]; exact Nat.div_add_mod _ _
  have hr : top % v1 < v1 := Nat.mod_lt _ h1
  refine ⟨e, ?_, ?_⟩
  · have a1 : top + 1 ≤ (top / v1 + 1) * v1 := by rw [Nat.succ_mul]; omega
    have a2 : (top + 1) * P ≤ ((top / v1 + 1) * v1) * P := Nat.mul_le_mul_right _ a1
    have a3 : ((top / v1 + 1) * v1) * P ≤ (top / v1 + 1) * v := by rw [Nat.mul_assoc, h.ev]; exact Nat.mul_le_mul_left _ (by omega)
    have a4 : u < (top + 1) * P := by rw [h.eu, Nat.succ_mul]; have := h.lu; omega
    omega
  · have ht := h.top_lt
    have hb : top / v1 < Bs + 2 := by
      apply (Nat.div_lt_iff_lt_mul h1).2
      have a1 : (v1 + 1) * Bs ≤ (Bs + 2) * v1 := by have := h.g1; rw [Nat.succ_mul, Nat.add_mul]; simp only [Bs] at *; omega
      omega
    have := h.l1
    rcases Nat.lt_or_ge (top / v1) (Bs + 1) with h2 | h2
    · left; omega
    · right; omega
/-- One less, where the guess is a whole base. -/
theorem KQ.down_big (k : KQ u v v1 top q r) (h : KS u v v1 top P ur vr) (hr : r < Bs) (hq : Bs ≤ q) : KQ u v v1 top (q - 1) (r + v1) := by
  obtain ⟨p, rfl⟩ : ∃ p, q = p + 1 := ⟨q - 1, by simp only [Bs] at hq; omega⟩
  simp only [Nat.add_sub_cancel]
  refine ⟨?_, ?_, ?_⟩
  · have := k.eq; rw [Nat.succ_mul] at this; omega
  · have a1 : v * Bs ≤ (p + 1) * v := by rw [Nat.mul_comm v]; exact Nat.mul_le_mul_right _ hq
    have := h.fits
    omega
  · left; rcases k.le with h | ⟨h, _⟩ <;> omega
/-- .. and where the next digits say that it is too great. -/
theorem KQ.down_next (k : KQ u v v1 top q r) (h : KS u v v1 top P ur vr) {P2 v2 u2 vr2 ur2 : Nat} (hP : P = Bs * P2) (hv : vr = v2 * P2 + vr2) (hu : ur = u2 * P2 + ur2) (hu2 : ur2 < P2) (hr : r < Bs) (hq : r * Bs + u2 < q * v2) : KQ u v v1 top (q - 1) (r + v1) := by
  obtain ⟨p, rfl⟩ : ∃ p, q = p + 1 := ⟨q - 1, by have : q ≠ 0 := by { rintro rfl; simp at hq }; omega⟩
  simp only [Nat.add_sub_cancel]
  refine ⟨?_, ?_, ?_⟩
  · have := k.eq; rw [Nat.succ_mul] at this; omega
  · have a0 := k.eq
    have a1 : (r * Bs + u2 + 1) * P2 ≤ (p + 1) * v2 * P2 := Nat.mul_le_mul_right _ hq
    have a2 : (p + 1) * v = ((p + 1) * v1) * P + (p + 1) * v2 * P2 + (p + 1) * vr2 := by rw [h.ev, hv]; grind
    have a3 : ((p + 1) * v1) * P + r * P = top * P := by rw [← Nat.add_mul, a0]
    have a4 : (r * Bs + u2 + 1) * P2 = r * P + u2 * P2 + P2 := by rw [hP]; grind
    have a5 := h.eu
    omega
  · left; rcases k.le with h | ⟨h, _⟩ <;> omega
/-- At the end: not too little, and too great by one at most. -/
theorem KQ.end_big (k : KQ u v v1 top q r) (h : KS u v v1 top P ur vr) (hr : Bs ≤ r) : q * v ≤ u ∧ q < Bs := by
  have hq : q ≤ Bs := by rcases k.le with h | ⟨_, h⟩ <;> omega
  have a0 := k.eq
  have a1 : q * v = (q * v1) * P + q * vr := by rw [h.ev]; grind
  have a2 : (q * v1) * P + r * P = top * P := by rw [← Nat.add_mul, a0]
  have a3 : q * vr ≤ Bs * P := Nat.mul_le_mul hq (Nat.le_of_lt h.lv)
  have a4 : Bs * P ≤ r * P := Nat.mul_le_mul_right _ hr
  have a5 := h.eu
  have a6 : q * v ≤ u := by omega
  refine ⟨a6, ?_⟩
  have := h.fits
  apply Nat.lt_of_mul_lt_mul_right (a := v)
  rw [Nat.mul_comm Bs]
  omega
theorem KQ.end_one (k : KQ u v v1 top q r) (h : KS u v v1 top P ur vr) (h1 : vr = 0) : q * v ≤ u := by
  have a0 := k.eq
  have a1 : q * v = (q * v1) * P := by rw [h.ev, h1]; grind
  have a2 : (q * v1) * P + r * P = top * P := by rw [← Nat.add_mul, a0]
  have a5 := h.eu
  omega
theorem KQ.end_next (k : KQ u v v1 top q r) (h : KS u v v1 top P ur vr) {P2 v2 u2 vr2 ur2 : Nat} (hP : P = Bs * P2) (hv : vr = v2 * P2 + vr2) (hvr2 : vr2 < P2) (hu : ur = u2 * P2 + ur2) (hqB : q < Bs) (hq : q * v2 ≤ r * Bs + u2) : q * v < u + v := by
  have a0 := k.eq
  have a1 : q * v = (q * v1) * P + q * v2 * P2 + q * vr2 := by rw [h.ev, hv]; grind
  have a2 : (q * v1) * P + r * P = top * P := by rw [← Nat.add_mul, a0]
  have a3 : q * v2 * P2 ≤ (r * Bs + u2) * P2 := Nat.mul_le_mul_right _ hq
  have a4 : (r * Bs + u2) * P2 = r * P + u2 * P2 := by rw [hP]; grind
  have a5 := h.eu
  have a6 : q * vr2 ≤ Bs * P2 := Nat.mul_le_mul (Nat.le_of_lt hqB) (Nat.le_of_lt hvr2)
  have a7 : P ≤ v := by rw [h.ev]; have := h.g1; have : 1 * P ≤ v1 * P := Nat.mul_le_mul_right _ (by omega); omega
  have a8 : q * vr2 < Bs * P2 ∨ q * vr2 = Bs * P2 := by omega
  rcases a8 with a8 | a8
  · omega
  · have : q * vr2 < Bs * P2 := by
      rcases Nat.eq_zero_or_pos P2 with z | z
      · omega
      · exact Nat.lt_of_le_of_lt (Nat.mul_le_mul_left _ (Nat.le_of_lt hvr2)) (Nat.mul_lt_mul_of_pos_right hqB z)
    omega
end
end Go.Proofs.YtffehdfddkgggaaDoor.Nu

/- Carries and borrows: plain laws. -/
namespace Go.Proofs.YtffehdfddkgggaaDoor.Nu
set_option linter.unusedSimpArgs false
set_option linter.unusedVariables false
/-! ### sums of places -/
theorem dsum_add (f g : Nat → Nat) (k : Nat) : dsum (fun i => f i + g i) k = dsum f k + dsum g k := by
  induction k with
  | zero => rfl
  | succ k ih => rw [dsum_succ, dsum_succ, dsum_succ, ih, Nat.add_mul]; omega
theorem dsum_mul (x : Nat) (f : Nat → Nat) (k : Nat) : dsum (fun i => x * f i) k = x * dsum f k := by
  induction k with
  | zero => rfl
  | succ k ih => rw [dsum_succ, dsum_succ, ih, Nat.mul_add, Nat.mul_assoc]
theorem dsum_shift (f : Nat → Nat) (i k : Nat) : dsum f (i + k) = dsum f i + Bs ^ i * dsum (fun j => f (i + j)) k := by
  induction k with
  | zero => simp [dsum]
  | succ k ih => rw [← Nat.add_assoc, dsum_succ, dsum_succ, ih, Nat.mul_add, Nat.pow_add]; grind
/-! ### carries -/
def cr (t : Nat → Nat) : Nat → Nat
  | 0 => 0
  | k + 1 => (t k + cr t k) / Bs
def ot (t : Nat → Nat) (k : Nat) : Nat := (t k + cr t k) % Bs
theorem cr_succ (t : Nat → Nat) (k : Nat) : cr t (k + 1) = (t k + cr t k) / Bs := rfl
theorem ot_lt (t : Nat → Nat) (k : Nat) : ot t k < Bs := Nat.mod_lt _ (by decide)
theorem cr_sum (t : Nat → Nat) (k : Nat) : dsum (ot t) k + cr t k * Bs ^ k = dsum t k := by
  induction k with
  | zero => rfl
  | succ k ih =>
    have h : ot t k + cr t (k + 1) * Bs = t k + cr t k := by rw [cr_succ]; unfold ot; rw [Nat.mul_comm]; exact Nat.mod_add_div _ _
    rw [dsum_succ, dsum_succ, ← ih, Nat.pow_succ]
    have h2 : (ot t k + cr t (k + 1) * Bs) * Bs ^ k = (t k + cr t k) * Bs ^ k := by rw [h]
    grind
theorem cr_lt {t : Nat → Nat} (h : ∀ i, t i ≤ (Bs - 1) * Bs) (k : Nat) : cr t k < Bs := by
  induction k with
  | zero => exact (by decide : 0 < Bs)
  | succ k ih =>
    rw [cr_succ]
    have := h k
    apply (Nat.div_lt_iff_lt_mul (by decide)).2
    simp only [Bs] at *
    omega
theorem cr_one {t : Nat → Nat} (h : ∀ i, t i ≤ 2 * (Bs - 1)) (k : Nat) : cr t k ≤ 1 := by
  induction k with
  | zero => exact Nat.zero_le _
  | succ k ih =>
    rw [cr_succ]
    have := h k
    have : (t k + cr t k) / Bs < 2 := by
      apply (Nat.div_lt_iff_lt_mul (by decide)).2
      simp only [Bs] at *
      omega
    omega
/-- No carry where the sum has room. -/
theorem cr_none {t : Nat → Nat} {k : Nat} (h : dsum t k < Bs ^ k) : cr t k = 0 := by
  have := cr_sum t k
  rcases Nat.eq_zero_or_pos (cr t k) with h0 | h0
  · exact h0
  · have : 1 * Bs ^ k ≤ cr t k * Bs ^ k := Nat.mul_le_mul_right _ h0
    omega
/-! ### borrows -/
def bw (a b : Nat → Nat) : Nat → Nat
  | 0 => 0
  | k + 1 => if a k < b k + bw a b k then 1 else 0
def df (a b : Nat → Nat) (k : Nat) : Nat := if a k < b k + bw a b k then a k + Bs - (b k + bw a b k) else a k - (b k + bw a b k)
theorem bw_succ (a b : Nat → Nat) (k : Nat) : bw a b (k + 1) = if a k < b k + bw a b k then 1 else 0 := rfl
theorem bw_le (a b : Nat → Nat) (k : Nat) : bw a b k ≤ 1 := by
  cases k with
  | zero => exact Nat.zero_le _
  | succ k => rw [bw_succ]; split <;> omega
theorem df_lt {a b : Nat → Nat} (ha : ∀ i, a i < Bs) (hb : ∀ i, b i < Bs) (k : Nat) : df a b k < Bs := by
  have := ha k; have := hb k; have := bw_le a b k
  unfold df; split <;> (simp only [Bs] at *; omega)
theorem bw_sum {a b : Nat → Nat} (ha : ∀ i, a i < Bs) (hb : ∀ i, b i < Bs) (k : Nat) : dsum (df a b) k + dsum b k = dsum a k + bw a b k * Bs ^ k := by
  induction k with
  | zero => rfl
  | succ k ih =>
    have h1 := bw_le a b k
    have h2 := hb k
    have h : df a b k + b k + bw a b k = a k + bw a b (k + 1) * Bs := by
      rw [bw_succ]; unfold df; split <;> (simp only [Bs] at *; omega)
    rw [dsum_succ, dsum_succ, dsum_succ, Nat.pow_succ]
    have h3 : (df a b k + b k + bw a b k) * Bs ^ k = (a k + bw a b (k + 1) * Bs) * Bs ^ k := by rw [h]
    grind
/-- No borrow where nothing greater is taken away. -/
theorem bw_none {a b : Nat → Nat} (ha : ∀ i, a i < Bs) (hb : ∀ i, b i < Bs) {k : Nat} (h : dsum b k ≤ dsum a k) : bw a b k = 0 ∧ dsum (df a b) k = dsum a k - dsum b k := by
  have h1 := bw_sum ha hb k
  have h2 := dsum_lt (f := df a b) (i := k) (fun j _ => df_lt ha hb j)
  have h3 := bw_le a b k
  rcases Nat.eq_zero_or_pos (bw a b k) with h0 | h0
  · rw [h0, Nat.zero_mul] at h1; exact ⟨h0, by omega⟩
  · obtain h4 : bw a b k = 1 := by omega
    rw [h4, Nat.one_mul] at h1; omega
/-! ### the noughts behind -/
/-- Digits without the last, if that is 0. -/
def trimL : List Nat → Nat → Nat
  | L, 0 => 0
  | L, k + 1 => if gd L k = 0 then trimL L k else k + 1
theorem trimL_le (L : List Nat) (k : Nat) : trimL L k ≤ k := by
  induction k with
  | zero => exact Nat.le_refl _
  | succ k ih => unfold trimL; split <;> omega
theorem trimL_sum (L : List Nat) (k : Nat) : dsum (gd L) (trimL L k) = dsum (gd L) k := by
  induction k with
  | zero => rfl
  | succ k ih =>
    unfold trimL
    split
    · rename_i h; rw [ih, dsum_succ, h]; simp
    · rfl
theorem trimL_top (L : List Nat) (k : Nat) (h : 0 < trimL L k) : 0 < gd L (trimL L k - 1) := by
  induction k with
  | zero => unfold trimL at h; omega
  | succ k ih =>
    unfold trimL at h ⊢
    split
    · rename_i h0; rw [if_pos h0] at h; exact ih h
    · rename_i h0; simp only [Nat.add_sub_cancel]; omega
theorem gd_take {L : List Nat} {k i : Nat} (h : i < k) : gd (L.take k) i = gd L i := by
  unfold gd; rw [List.getD_eq_getElem?_getD, List.getD_eq_getElem?_getD, List.getElem?_take, if_pos h]
theorem trim_norm {L : List Nat} (h : Dig L) : Norm (L.take (trimL L L.length)) ∧ val (L.take (trimL L L.length)) = val L := by
  have h1 := trimL_le L L.length
  have hl : (L.take (trimL L L.length)).length = trimL L L.length := by rw [List.length_take]; omega
  refine ⟨⟨fun i => ?_, fun h0 => ?_⟩, ?_⟩
  · rcases Nat.lt_or_ge i (trimL L L.length) with h2 | h2
    · rw [gd_take h2]; exact h i
    · rw [gd_out (by omega)]; decide
  · rw [hl] at h0 ⊢
    rw [gd_take (by omega)]
    exact trimL_top L L.length h0
  · unfold val
    rw [hl, dsum_congr (fun j hj => gd_take hj), trimL_sum]
end Go.Proofs.YtffehdfddkgggaaDoor.Nu

/- How many bits; which is less; bytes; moved by bits: plain laws. -/
namespace Go.Proofs.YtffehdfddkgggaaDoor.Nu
set_option linter.unusedSimpArgs false
set_option linter.unusedVariables false
/-! ### bits -/
/-- How many bits a number has. -/
def blen (n : Nat) : Nat := if n = 0 then 0 else n.log2 + 1
theorem blen_zero : blen 0 = 0 := rfl
theorem blen_eq_zero {n : Nat} : blen n = 0 ↔ n = 0 := by unfold blen; split <;> omega
theorem blen_lt (n : Nat) : n < 2 ^ blen n := by
  unfold blen; split
  · rename_i h; subst h; decide
  · exact Nat.lt_log2_self
theorem blen_ge {n : Nat} (h : n ≠ 0) : 2 ^ (blen n - 1) ≤ n := by
  unfold blen; rw [if_neg h, Nat.add_sub_cancel]
  exact Nat.log2_self_le h
/-- The bits from bounds. -/
theorem blen_of {n k : Nat} (h1 : 2 ^ k ≤ n) (h2 : n < 2 ^ (k + 1)) : blen n = k + 1 := by
  have hp : 0 < 2 ^ k := Nat.pow_pos (by decide)
  have h0 : n ≠ 0 := by omega
  have a1 := blen_lt n
  have a2 := blen_ge h0
  have b1 : ¬ blen n ≤ k := fun h => by
    have := Nat.pow_le_pow_right (n := 2) (by decide) h; omega
  have b2 : ¬ k + 1 ≤ blen n - 1 := fun h => by
    have := Nat.pow_le_pow_right (n := 2) (by decide) h; omega
  omega
theorem blen_le {n k : Nat} : blen n ≤ k ↔ n < 2 ^ k := by
  constructor
  · intro h
    have := Nat.pow_le_pow_right (n := 2) (by decide) h
    have := blen_lt n
    omega
  · intro h
    rcases Nat.eq_zero_or_pos n with h0 | h0
    · subst h0; exact Nat.zero_le _
    · have a2 := blen_ge (n := n) (by omega)
      rcases Nat.lt_or_ge k (blen n) with h1 | h1
      · have := Nat.pow_le_pow_right (n := 2) (by decide) (show k ≤ blen n - 1 by omega); omega
      · exact h1
theorem bs_pow (i : Nat) : Bs ^ i = 2 ^ (32 * i) := by rw [Nat.pow_mul]
/-- A number's bits from its digits. -/
theorem blen_val {L : List Nat} (h : Norm L) (h0 : 0 < L.length) : blen (val L) = 32 * (L.length - 1) + blen (gd L (L.length - 1)) := by
  obtain ⟨k, hk⟩ : ∃ k, L.length = k + 1 := ⟨L.length - 1, by omega⟩
  have ht := h.top h0
  unfold val
  rw [hk] at ht ⊢
  simp only [Nat.add_sub_cancel] at ht ⊢
  rw [dsum_succ]
  have h1 := dsum_lt (f := gd L) (i := k) (fun j _ => h.dig j)
  obtain ⟨d, hd⟩ : ∃ d, gd L k = d := ⟨_, rfl⟩
  rw [hd] at ht ⊢
  have hb0 : blen d ≠ 0 := fun e => by rw [blen_eq_zero] at e; omega
  obtain ⟨t, ht2⟩ : ∃ t, blen d = t + 1 := ⟨blen d - 1, by omega⟩
  have a1 := blen_lt d
  have a2 := blen_ge (n := d) (by omega)
  rw [ht2] at a1 a2 ⊢
  simp only [Nat.add_sub_cancel] at a2
  rw [← Nat.add_assoc]
  rw [bs_pow] at h1 ⊢
  apply blen_of
  · rw [Nat.pow_add, Nat.mul_comm]
    have := Nat.mul_le_mul_right (2 ^ (32 * k)) a2
    omega
  · rw [Nat.add_assoc, Nat.pow_add]
    have a3 : (d + 1) * 2 ^ (32 * k) ≤ 2 ^ (t + 1) * 2 ^ (32 * k) := Nat.mul_le_mul_right _ a1
    rw [Nat.succ_mul] at a3
    rw [Nat.mul_comm (2 ^ (32 * k))]
    omega
/-! ### which is less -/
def cmpN (a b : Nat) : Int := if a < b then -1 else if b < a then 1 else 0
/-- The walk from the top: k places are looked at yet. -/
def cmpTo (A C : List Nat) : Nat → Int
  | 0 => 0
  | k + 1 => if gd A k < gd C k then -1 else if gd C k < gd A k then 1 else cmpTo A C k
theorem cmpTo_eq {A C : List Nat} (hA : Dig A) (hC : Dig C) (k : Nat) : cmpTo A C k = cmpN (dsum (gd A) k) (dsum (gd C) k) := by
  induction k with
  | zero => rfl
  | succ k ih =>
    unfold cmpTo
    by_cases h1 : gd A k < gd C k
    · rw [if_pos h1]
      have := dsum_cmp (f := gd A) (g := gd C) (k := k) (n := k + 1) hA hC (by omega) (fun j a b => by omega) h1
      unfold cmpN; rw [if_pos this]
    · rw [if_neg h1]
      by_cases h2 : gd C k < gd A k
      · rw [if_pos h2]
        have := dsum_cmp (f := gd C) (g := gd A) (k := k) (n := k + 1) hC hA (by omega) (fun j a b => by omega) h2
        unfold cmpN; rw [if_neg (by omega), if_pos this]
      · rw [if_neg h2, ih]
        have e : gd A k = gd C k := by omega
        unfold cmpN
        rw [dsum_succ, dsum_succ, e]
        simp only [Nat.add_lt_add_iff_right]
theorem cmp_len {A C : List Nat} (hA : Norm A) (hC : Norm C) (h : A.length ≠ C.length) : cmpN (val A) (val C) = if A.length < C.length then -1 else 1 := by
  unfold cmpN
  rcases Nat.lt_or_gt_of_ne h with h1 | h1
  · rw [if_pos (norm_len_lt hA hC h1), if_pos h1]
  · have := norm_len_lt hC hA h1
    rw [if_neg (by omega), if_pos this, if_neg (by omega)]
theorem cmp_same {A C : List Nat} (hA : Norm A) (hC : Norm C) (h : A.length = C.length) : cmpN (val A) (val C) = cmpTo A C A.length := by
  rw [cmpTo_eq hA.dig hC.dig]
  unfold val; rw [h]
/-! ### digits of a number -/
theorem dsum_div {f : Nat → Nat} (hf : ∀ j, f j < Bs) {k : Nat} : ∀ i, i ≤ k → dsum f k / Bs ^ i % Bs ^ (k - i) = dsum (fun j => f (i + j)) (k - i) := by
  intro i hi
  have h := dsum_shift f i (k - i)
  rw [show i + (k - i) = k by omega] at h
  have h1 := dsum_lt (f := f) (i := i) (fun j _ => hf j)
  have h2 := dsum_lt (f := fun j => f (i + j)) (i := k - i) (fun j _ => hf (i + j))
  rw [h, Nat.add_mul_div_left _ _ (pw_pos i), Nat.div_eq_of_lt h1, Nat.zero_add, Nat.mod_eq_of_lt h2]
theorem digit_at {f : Nat → Nat} (hf : ∀ j, f j < Bs) {i k : Nat} (hi : i < k) : dsum f k / Bs ^ i % Bs = f i := by
  have h := dsum_shift f i (k - i)
  rw [show i + (k - i) = k by omega] at h
  have h1 := dsum_lt (f := f) (i := i) (fun j _ => hf j)
  obtain ⟨m, hm⟩ : ∃ m, k - i = m + 1 := ⟨k - i - 1, by omega⟩
  have h3 := dsum_shift (fun j => f (i + j)) 1 m
  rw [hm] at h
  rw [h, Nat.add_mul_div_left _ _ (pw_pos i), Nat.div_eq_of_lt h1, Nat.zero_add, Nat.add_comm m 1, h3]
  have e : dsum (fun j => f (i + j)) 1 = f i := by simp [dsum]
  rw [e, Nat.pow_one, Nat.add_mul_mod_self_left]
  exact Nat.mod_eq_of_lt (hf i)
end Go.Proofs.YtffehdfddkgggaaDoor.Nu

/- Moved by bits; bytes: plain laws. -/
namespace Go.Proofs.YtffehdfddkgggaaDoor.Nu
set_option linter.unusedSimpArgs false
set_option linter.unusedVariables false
/-! ### up by less than 32 bits -/
theorem bs_split {by_ : Nat} (h : by_ ≤ 32) : Bs = 2 ^ by_ * 2 ^ (32 - by_) := by
  rw [← Nat.pow_add, show by_ + (32 - by_) = 32 by omega]
theorem shl_mod (d : Nat) {s : Nat} (h : s ≤ 32) : d * 2 ^ s % Bs = 2 ^ s * (d % 2 ^ (32 - s)) := by
  rw [bs_split h, Nat.mul_comm d, Nat.mul_mod_mul_left]
theorem shl_room (d c : Nat) {s : Nat} (h : s ≤ 32) (hc : c < 2 ^ s) : d * 2 ^ s % Bs + c < Bs := by
  rw [shl_mod d h]
  have h1 : d % 2 ^ (32 - s) + 1 ≤ 2 ^ (32 - s) := Nat.mod_lt _ (Nat.pow_pos (by decide))
  have h2 := Nat.mul_le_mul_left (2 ^ s) h1
  rw [← bs_split h, Nat.mul_add, Nat.mul_one] at h2
  omega
theorem shl_carry (d c : Nat) {s : Nat} (h : s ≤ 32) (hc : c < 2 ^ s) : (d * 2 ^ s + c) / Bs = d * 2 ^ s / Bs ∧ (d * 2 ^ s + c) % Bs = d * 2 ^ s % Bs + c := by
  have h1 := shl_room d c h hc
  have h2 := Nat.div_add_mod (d * 2 ^ s) Bs
  have e : d * 2 ^ s + c = Bs * (d * 2 ^ s / Bs) + (d * 2 ^ s % Bs + c) := by omega
  constructor
  · rw [e, Nat.mul_add_div (by decide), Nat.div_eq_of_lt h1, Nat.add_zero]
  · rw [e, Nat.mul_add_mod, Nat.mod_eq_of_lt h1]
theorem shl_high {d s : Nat} (h : d < Bs) : d * 2 ^ s / Bs < 2 ^ s := by
  apply (Nat.div_lt_iff_lt_mul (by decide)).2
  rw [Nat.mul_comm d]
  exact Nat.mul_lt_mul_of_pos_left h (Nat.pow_pos (by decide))
theorem shl_or (d c : Nat) {s : Nat} (h : s ≤ 32) (hc : c < 2 ^ s) : (d * 2 ^ s % Bs) ||| c = d * 2 ^ s % Bs + c := by
  rw [shl_mod d h]
  exact (Nat.two_pow_add_eq_or_of_lt hc _).symm
/-- The carry of a move: what stands above. -/
theorem shl_cr {f : Nat → Nat} (hf : ∀ j, f j < Bs) {s : Nat} (h : s ≤ 32) (i : Nat) : cr (fun j => f j * 2 ^ s) i < 2 ^ s ∧ cr (fun j => f j * 2 ^ s) (i + 1) = f i * 2 ^ s / Bs ∧ ot (fun j => f j * 2 ^ s) i = (f i * 2 ^ s % Bs) ||| cr (fun j => f j * 2 ^ s) i := by
  have h1 : cr (fun j => f j * 2 ^ s) i < 2 ^ s := by
    induction i with
    | zero => exact Nat.pow_pos (by decide)
    | succ i ih => rw [cr_succ, (shl_carry _ _ h ih).1]; exact shl_high (hf i)
  refine ⟨h1, ?_, ?_⟩
  · rw [cr_succ, (shl_carry _ _ h h1).1]
  · unfold ot; rw [(shl_carry _ _ h h1).2, shl_or _ _ h h1]
/-! ### down by less than 32 bits -/
theorem dsum_of {r : Nat → Nat} {N n : Nat} (h : ∀ i, i < n → r i = N / Bs ^ i % Bs) : dsum r n = N % Bs ^ n := by
  induction n with
  | zero => simp [dsum, Nat.mod_one]
  | succ n ih =>
    rw [dsum_succ, ih (fun i hi => h i (by omega)), h n (by omega), Nat.pow_succ, Nat.mod_mul, Nat.mul_comm]
theorem shr_digit {f : Nat → Nat} (hf : ∀ j, f j < Bs) {n i s : Nat} (hi : i < n) (hs : s ≤ 32) : (f (i + 1) * Bs + f i) / 2 ^ s % Bs = dsum f (n + 1) / 2 ^ s / Bs ^ i % Bs := by
  have h := dsum_shift f i (n + 1 - i)
  rw [show i + (n + 1 - i) = n + 1 by omega] at h
  have h1 := dsum_lt (f := f) (i := i) (fun j _ => hf j)
  obtain ⟨m, hm⟩ : ∃ m, n + 1 - i = 2 + m := ⟨n + 1 - i - 2, by omega⟩
  have h3 := dsum_shift (fun j => f (i + j)) 2 m
  rw [hm] at h
  have e : dsum (fun j => f (i + j)) 2 = f (i + 1) * Bs + f i := by
    simp [dsum]; omega
  rw [e] at h3
  obtain ⟨R, hR⟩ : ∃ R, dsum (fun j => (fun j => f (i + j)) (2 + j)) m = R := ⟨_, rfl⟩
  rw [hR] at h3
  rw [Nat.div_div_eq_div_mul, Nat.mul_comm (2 ^ s), ← Nat.div_div_eq_div_mul, h, Nat.add_mul_div_left _ _ (pw_pos i), Nat.div_eq_of_lt h1, Nat.zero_add, h3]
  have e2 : Bs ^ 2 * R = 2 ^ s * (Bs * (2 ^ (32 - s) * R)) := by
    have := bs_split hs
    generalize 2 ^ s = x at *
    generalize 2 ^ (32 - s) = y at *
    have e5 : Bs ^ 2 = Bs * Bs := by rw [Nat.pow_succ, Nat.pow_one]
    rw [e5]
    conv => lhs; rw [Nat.mul_assoc]; arg 1; rw [this]
    grind
  rw [e2, Nat.add_mul_div_left _ _ (Nat.pow_pos (by decide)), Nat.add_mul_mod_self_left]
theorem shr_sum {f r : Nat → Nat} (hf : ∀ j, f j < Bs) {n s : Nat} (hs : s ≤ 32) (hr : ∀ i, i < n → r i = (f (i + 1) * Bs + f i) / 2 ^ s % Bs) (hN : dsum f (n + 1) / 2 ^ s < Bs ^ n) : dsum r n = dsum f (n + 1) / 2 ^ s := by
  rw [dsum_of (N := dsum f (n + 1) / 2 ^ s) (fun i hi => by rw [hr i hi, shr_digit hf hi hs]), Nat.mod_eq_of_lt hN]
end Go.Proofs.YtffehdfddkgggaaDoor.Nu

/- Numbers and bytes: plain laws. -/
namespace Go.Proofs.YtffehdfddkgggaaDoor.Nu
set_option linter.unusedSimpArgs false
set_option linter.unusedVariables false
/-- A sum of bytes, the least first. -/
def bsum (g : Nat → Nat) : Nat → Nat
  | 0 => 0
  | k + 1 => bsum g k + g k * 256 ^ k
theorem bsum_succ (g : Nat → Nat) (k : Nat) : bsum g (k + 1) = bsum g k + g k * 256 ^ k := rfl
theorem bsum_congr {f g : Nat → Nat} {k : Nat} (h : ∀ j, j < k → f j = g j) : bsum f k = bsum g k := by
  induction k with
  | zero => rfl
  | succ k ih => rw [bsum_succ, bsum_succ, ih (fun j hj => h j (by omega)), h k (by omega)]
theorem bsum_zero {g : Nat → Nat} {i k : Nat} (hk : i ≤ k) (h : ∀ j, i ≤ j → j < k → g j = 0) : bsum g k = bsum g i := by
  induction k with
  | zero => obtain rfl : i = 0 := by omega
            rfl
  | succ k ih =>
    rcases Nat.lt_or_ge k i with h1 | h1
    · obtain rfl : i = k + 1 := by omega
      rfl
    · rw [bsum_succ, ih h1 (fun j a b => h j a (by omega)), h k h1 (by omega), Nat.zero_mul, Nat.add_zero]
theorem bsum_lt {g : Nat → Nat} (h : ∀ j, g j < 256) (k : Nat) : bsum g k < 256 ^ k := by
  induction k with
  | zero => exact Nat.one_pos
  | succ k ih =>
    have h2 := h k
    rw [bsum_succ]
    have h3 : g k * 256 ^ k ≤ 255 * 256 ^ k := Nat.mul_le_mul_right _ (by omega)
    rw [Nat.pow_succ]
    omega
/-- Four bytes are a digit. -/
def four (g : Nat → Nat) (q : Nat) : Nat := g (4 * q) + 256 * g (4 * q + 1) + 65536 * g (4 * q + 2) + 16777216 * g (4 * q + 3)
theorem four_lt {g : Nat → Nat} (h : ∀ j, g j < 256) (q : Nat) : four g q < Bs := by
  have h0 := h (4 * q); have h1 := h (4 * q + 1); have h2 := h (4 * q + 2); have h3 := h (4 * q + 3)
  unfold four; simp only [Bs]; omega
theorem bsum_four (g : Nat → Nat) (m : Nat) : bsum g (4 * m) = dsum (four g) m := by
  induction m with
  | zero => rfl
  | succ m ih =>
    have e : 4 * (m + 1) = 4 * m + 1 + 1 + 1 + 1 := by omega
    have p : Bs ^ m = 256 ^ (4 * m) := by rw [Nat.pow_mul]
    rw [e, bsum_succ, bsum_succ, bsum_succ, bsum_succ, ih, dsum_succ, p]
    unfold four
    rw [Nat.pow_succ, Nat.pow_succ, Nat.pow_succ]
    grind
/-- A text's byte, counted from the end (0 beyond). -/
def bk (s : ByteArray) (k : Nat) : Nat := if k < s.size then (s.data.toList.getD (s.size - 1 - k) 0).toNat else 0
theorem bk_in {s : ByteArray} {k : Nat} (h : k < s.size) : bk s k = (s[s.size - 1 - k]'(by omega)).toNat := by
  have hs : s.data.size = s.size := rfl
  have hj : s.size - 1 - k < s.data.size := by omega
  unfold bk
  rw [if_pos h, List.getD_eq_getElem?_getD, Array.getElem?_toList, Array.getElem?_eq_getElem hj]
  rfl
theorem bk_lt (s : ByteArray) (k : Nat) : bk s k < 256 := by
  unfold bk; split
  · exact UInt8.toNat_lt _
  · decide
theorem bk_out {s : ByteArray} {k : Nat} (h : s.size ≤ k) : bk s k = 0 := by unfold bk; rw [if_neg (by omega)]
/-- The number of a text. -/
def numS (s : ByteArray) : Nat := bsum (bk s) s.size
theorem numS_ext {s : ByteArray} {k : Nat} (h : s.size ≤ k) : bsum (bk s) k = numS s := bsum_zero h fun j a _ => bk_out a
theorem numS_lt (s : ByteArray) : numS s < 256 ^ s.size := bsum_lt (bk_lt s) _
/-- .. by digits. -/
theorem numS_digits {s : ByteArray} {m : Nat} (h : s.size ≤ 4 * m) : dsum (four (bk s)) m = numS s := by rw [← bsum_four, numS_ext h]
/-- A first byte that is not 0 makes it great. -/
theorem numS_ge {s : ByteArray} (h : 0 < s.size) (h0 : bk s (s.size - 1) ≠ 0) : 256 ^ (s.size - 1) ≤ numS s := by
  unfold numS
  obtain ⟨k, hk⟩ : ∃ k, s.size = k + 1 := ⟨s.size - 1, by omega⟩
  rw [hk] at h0 ⊢
  simp only [Nat.add_sub_cancel] at h0 ⊢
  rw [bsum_succ]
  have := Nat.le_mul_of_pos_left (256 ^ k) (Nat.pos_of_ne_zero h0)
  omega
/-- A number's byte. -/
def byteN (n k : Nat) : Nat := n / 256 ^ k % 256
theorem byte_at {g : Nat → Nat} (h : ∀ j, g j < 256) {k m : Nat} (hk : k < m) : byteN (bsum g m) k = g k := by
  unfold byteN
  induction m with
  | zero => omega
  | succ m ih =>
    rw [bsum_succ]
    rcases Nat.lt_or_ge k m with h1 | h1
    · have e : g m * 256 ^ m = 256 ^ k * (256 * (g m * 256 ^ (m - k - 1))) := by
        have : 256 ^ m = 256 ^ k * (256 * 256 ^ (m - k - 1)) := by rw [← Nat.pow_succ', ← Nat.pow_add]; congr 1; omega
        rw [this]; grind
      rw [e, Nat.add_mul_div_left _ _ (Nat.pow_pos (by decide)), Nat.add_mul_mod_self_left]
      exact ih h1
    · obtain rfl : k = m := by omega
      rw [Nat.mul_comm, Nat.add_mul_div_left _ _ (Nat.pow_pos (by decide)), Nat.div_eq_of_lt (bsum_lt h k), Nat.zero_add]
      exact Nat.mod_eq_of_lt (h k)
/-- A byte of a digit is a byte of the number. -/
theorem byte_digit {f : Nat → Nat} (hf : ∀ j, f j < Bs) {q t m : Nat} (hq : q < m) (ht : t < 4) : f q / 256 ^ t % 256 = byteN (dsum f m) (4 * q + t) := by
  unfold byteN
  have hd := digit_at hf hq
  have p : 256 ^ (4 * q) = Bs ^ q := by rw [Nat.pow_mul]
  rw [Nat.pow_add, p, ← Nat.div_div_eq_div_mul]
  rw [← hd]
  generalize dsum f m / Bs ^ q = X
  have hB : Bs = 256 ^ t * (256 * 256 ^ (3 - t)) := by
    have : t = 0 ∨ t = 1 ∨ t = 2 ∨ t = 3 := by omega
    rcases this with rfl | rfl | rfl | rfl <;> rfl
  rw [hB, Nat.mod_mul_right_div_self, Nat.mod_mul_right_mod]
theorem byteN_zero {n k : Nat} (h : n < 256 ^ k) : byteN n k = 0 := by unfold byteN; rw [Nat.div_eq_of_lt h]
/-- A number told in so many bytes. -/
def wideW (n many : Nat) : ByteArray := ⟨((List.range many).map fun i => UInt8.ofNat (byteN n (many - 1 - i))).toArray⟩
theorem wideW_size (n many : Nat) : (wideW n many).size = many := by unfold wideW; simp [ByteArray.size]
theorem wideW_bk {n many k : Nat} (h : k < many) : bk (wideW n many) k = byteN n k := by
  unfold bk
  rw [wideW_size, if_pos h]
  show (((List.range many).map fun i => UInt8.ofNat (byteN n (many - 1 - i))).getD (many - 1 - k) 0).toNat = _
  have hj : many - 1 - k < many := by omega
  rw [List.getD_eq_getElem?_getD, List.getElem?_map, List.getElem?_range hj]
  have hb : byteN n k < 256 := Nat.mod_lt _ (by decide)
  simp only [Option.map_some, Option.getD_some]
  rw [show many - 1 - (many - 1 - k) = k by omega]
  simp; omega
theorem bsum_byteN (n k : Nat) : bsum (byteN n) k = n % 256 ^ k := by
  induction k with
  | zero => simp [bsum, Nat.mod_one]
  | succ k ih => rw [bsum_succ, ih, Nat.pow_succ, Nat.mod_mul, Nat.mul_comm]; rfl
/-- Told in enough bytes it is itself. -/
theorem numS_wide {n many : Nat} (h : n < 256 ^ many) : numS (wideW n many) = n := by
  unfold numS
  rw [wideW_size, bsum_congr (fun j hj => wideW_bk hj), bsum_byteN, Nat.mod_eq_of_lt h]
end Go.Proofs.YtffehdfddkgggaaDoor.Nu

/- Powers and what makes 1: plain laws. -/
namespace Go.Proofs.YtffehdfddkgggaaDoor.Nu
set_option linter.unusedSimpArgs false
set_option linter.unusedVariables false
/-! ### powers -/
def bitN (e k : Nat) : Nat := e / 2 ^ k % 2
theorem bitN_lt (e k : Nat) : bitN e k < 2 := Nat.mod_lt _ (by decide)
theorem bit_digit {f : Nat → Nat} (hf : ∀ j, f j < Bs) {q t m : Nat} (hq : q < m) (ht : t < 32) : f q / 2 ^ t % 2 = bitN (dsum f m) (32 * q + t) := by
  unfold bitN
  have hd := digit_at hf hq
  rw [Nat.pow_add, ← bs_pow, ← Nat.div_div_eq_div_mul, ← hd]
  generalize dsum f m / Bs ^ q = X
  have hB : Bs = 2 ^ t * (2 * 2 ^ (31 - t)) := by
    rw [← Nat.pow_succ', ← Nat.pow_add, show t + (31 - t + 1) = 32 by omega]
  rw [hB, Nat.mod_mul_right_div_self, Nat.mod_mul_right_mod]
theorem mod_two_succ (e k : Nat) : e % 2 ^ (k + 1) = e % 2 ^ k + 2 ^ k * bitN e k := by rw [Nat.pow_succ, Nat.mod_mul]; rfl
theorem div_two_succ (e k : Nat) : e / 2 ^ k = 2 * (e / 2 ^ (k + 1)) + bitN e k := by
  unfold bitN
  rw [Nat.pow_succ, ← Nat.div_div_eq_div_mul]
  exact (Nat.div_add_mod _ 2).symm
/-- From the least bit on: what is made by k bits. -/
def powL (a e m k : Nat) : Nat := a ^ (e % 2 ^ k) % m
def sqL (a m k : Nat) : Nat := a ^ (2 ^ k) % m
theorem powL_zero (a e m : Nat) : powL a e m 0 = 1 % m := by unfold powL; simp [Nat.mod_one]
theorem sqL_zero (a m : Nat) : sqL a m 0 = a % m := by unfold sqL; simp
theorem sqL_succ (a m k : Nat) : sqL a m (k + 1) = sqL a m k * sqL a m k % m := by
  unfold sqL; rw [← Nat.mul_mod, ← Nat.pow_add, Nat.pow_succ, Nat.mul_two]
theorem powL_one {a e m k : Nat} (h : bitN e k = 1) : powL a e m (k + 1) = powL a e m k * sqL a m k % m := by
  unfold powL sqL; rw [← Nat.mul_mod, ← Nat.pow_add, mod_two_succ, h, Nat.mul_one]
theorem powL_none {a e m k : Nat} (h : bitN e k = 0) : powL a e m (k + 1) = powL a e m k := by
  unfold powL; rw [mod_two_succ, h, Nat.mul_zero, Nat.add_zero]
theorem powL_all (a e m : Nat) : powL a e m (blen e) = a ^ e % m := by unfold powL; rw [Nat.mod_eq_of_lt (blen_lt e)]
/-- From the greatest bit on: what is made with k bits left. -/
def powH (a e m k : Nat) : Nat := a ^ (e / 2 ^ k) % m
theorem powH_top (a e m : Nat) : powH a e m (blen e) = 1 % m := by unfold powH; rw [Nat.div_eq_of_lt (blen_lt e)]; simp
theorem powH_none {a e m k : Nat} (h : bitN e k = 0) : powH a e m k = powH a e m (k + 1) * powH a e m (k + 1) % m := by
  unfold powH; rw [← Nat.mul_mod, ← Nat.pow_add, div_two_succ, h]; congr 2; omega
theorem powH_one {a e m k : Nat} (h : bitN e k = 1) : powH a e m k = (powH a e m (k + 1) * powH a e m (k + 1) % m) * (a % m) % m := by
  have h2 : powH a e m (k + 1) * powH a e m (k + 1) % m = a ^ (e / 2 ^ (k + 1) + e / 2 ^ (k + 1)) % m := by unfold powH; rw [← Nat.mul_mod, ← Nat.pow_add]
  rw [h2, ← Nat.mul_mod, ← Nat.pow_succ]
  unfold powH
  rw [div_two_succ, h]
  congr 2
  omega
theorem powH_all (a e m : Nat) : powH a e m 0 = a ^ e % m := by unfold powH; simp
/-! ### what makes 1 -/
structure IV where
  old : Nat
  r : Nat
  had : Nat
  have_ : Nat
def ivStep (m : Nat) (s : IV) : IV :=
  let t := s.old / s.r * s.have_ % m
  ⟨s.r, s.old % s.r, s.have_, (if s.had < t then s.had + m else s.had) - t⟩
def ivRun (m : Nat) : Nat → IV → IV
  | 0, s => s
  | k + 1, s => if s.r = 0 then s else ivRun m k (ivStep m s)
def ivFirst (a m : Nat) : IV := ⟨m, a % m, 0, 1 % m⟩
/-- What the loop keeps. -/
structure IvOk (a m : Nat) (s : IV) : Prop where
  l1 : s.had < m
  l2 : s.have_ < m
  e1 : ∃ k : Int, (s.had * a : Int) - s.old = m * k
  e2 : ∃ k : Int, (s.have_ * a : Int) - s.r = m * k
theorem ivFirst_ok (a m : Nat) (hm : 0 < m) : IvOk a m (ivFirst a m) := by
  refine ⟨hm, Nat.mod_lt _ hm, ⟨-1, ?_⟩, ?_⟩
  · show ((0 : Nat) * a : Int) - (m : Int) = m * -1
    simp
  · show ∃ k : Int, (((1 % m : Nat) : Int) * a : Int) - ((a % m : Nat) : Int) = m * k
    have h1 := Nat.div_add_mod 1 m
    have h2 := Nat.div_add_mod a m
    refine ⟨(a / m : Nat) - (1 / m : Nat) * a, ?_⟩
    have h1' : (m : Int) * (1 / m : Nat) + (1 % m : Nat) = 1 := by rw [← Int.natCast_mul, ← Int.natCast_add, h1]; rfl
    have h2' : (m : Int) * (a / m : Nat) + (a % m : Nat) = a := by rw [← Int.natCast_mul, ← Int.natCast_add, h2]
    generalize ((1 / m : Nat) : Int) = x at *
    generalize ((1 % m : Nat) : Int) = y at *
    generalize ((a / m : Nat) : Int) = z at *
    generalize ((a % m : Nat) : Int) = t at *
    have : y = 1 - m * x := by omega
    have : t = a - m * z := by omega
    subst_vars
    grind
theorem ivStep_ok {a m : Nat} {s : IV} (hm : 0 < m) (h : IvOk a m s) : IvOk a m (ivStep m s) := by
  obtain ⟨old, r, had, hv⟩ := s
  obtain ⟨l1, l2, ⟨k1, e1⟩, ⟨k2, e2⟩⟩ := h
  simp only at l1 l2 e1 e2
  have ht : old / r * hv % m < m := Nat.mod_lt _ hm
  have hd := Nat.div_add_mod (old / r * hv) m
  have hq := Nat.div_add_mod old r
  unfold ivStep
  simp only
  obtain ⟨t, hT⟩ : ∃ t, old / r * hv % m = t := ⟨_, rfl⟩
  rw [hT] at ht hd ⊢
  obtain ⟨n, c, hn, hnl⟩ : ∃ (n : Nat) (c : Int), ((n : Int) = had + m * c - t) ∧ n = (if had < t then had + m else had) - t := by
    by_cases hlt : had < t
    · refine ⟨had + m - t, 1, by omega, by rw [if_pos hlt]⟩
    · refine ⟨had - t, 0, by omega, by rw [if_neg hlt]⟩
  have hnm : n < m := by rw [hnl]; split <;> omega
  rw [← hnl]
  refine ⟨l2, hnm, ⟨k2, e2⟩, ?_⟩
  show ∃ k : Int, ((n : Int) * a) - ((old % r : Nat) : Int) = m * k
  have hd' : (m : Int) * ((old / r * hv / m : Nat) : Int) + t = (old / r : Nat) * hv := by rw [← Int.natCast_mul, ← Int.natCast_add, hd, Int.natCast_mul]
  have hq' : (r : Int) * ((old / r : Nat) : Int) + ((old % r : Nat) : Int) = old := by rw [← Int.natCast_mul, ← Int.natCast_add, hq]
  generalize ((old / r * hv / m : Nat) : Int) = z at *
  generalize ((old / r : Nat) : Int) = q at *
  generalize ((old % r : Nat) : Int) = s at *
  refine ⟨k1 + c * a + z * a - q * k2, ?_⟩
  rw [hn]
  have a1 : (t : Int) = q * hv - m * z := by omega
  have a2 : s = old - r * q := by omega
  rw [a1, a2]
  grind
theorem ivRun_ok {a m : Nat} (hm : 0 < m) : ∀ (k : Nat) (s : IV), IvOk a m s → IvOk a m (ivRun m k s)
  | 0, s, h => h
  | k + 1, s, h => by
    unfold ivRun
    split
    · exact h
    · exact ivRun_ok hm k _ (ivStep_ok hm h)
/-- The end comes after r + 1 rounds at the latest. -/
theorem ivRun_end (m : Nat) : ∀ (k : Nat) (s : IV), s.r ≤ k → (ivRun m (k + 1) s).r = 0
  | 0, s, h => by
    unfold ivRun
    have : s.r = 0 := by omega
    rw [if_pos this]; exact this
  | k + 1, s, h => by
    unfold ivRun
    split
    · assumption
    · rename_i h0
      apply ivRun_end m k
      have : s.old % s.r < s.r := Nat.mod_lt _ (by omega)
      show s.old % s.r ≤ k
      omega
end Go.Proofs.YtffehdfddkgggaaDoor.Nu

/- Products; one digit of a quotient, as reckoned in place: plain laws. -/
namespace Go.Proofs.YtffehdfddkgggaaDoor.Nu
set_option linter.unusedSimpArgs false
set_option linter.unusedVariables false
theorem gd_set {L : List Nat} {p v j : Nat} (hp : p < L.length) : gd (L.set p v) j = if j = p then v else gd L j := by
  unfold gd
  rw [List.getD_eq_getElem?_getD, List.getD_eq_getElem?_getD, List.getElem?_set]
  by_cases h : p = j
  · subst h; rw [if_pos rfl, if_pos hp, if_pos rfl]; rfl
  · rw [if_neg h, if_neg (fun e => h e.symm)]
theorem dig_set {L : List Nat} (h : Dig L) {p v : Nat} (hv : v < Bs) : Dig (L.set p v) := by
  intro j
  rcases Nat.lt_or_ge p L.length with hp | hp
  · rw [gd_set hp]; split
    · exact hv
    · exact h j
  · rw [List.set_eq_of_length_le hp]; exact h j
theorem dig_zeros (n : Nat) : Dig (List.replicate n 0) := by
  intro j
  unfold gd
  rw [List.getD_eq_getElem?_getD, List.getElem?_replicate]
  split <;> decide
theorem gd_zeros (n j : Nat) : gd (List.replicate n 0) j = 0 := by
  unfold gd
  rw [List.getD_eq_getElem?_getD, List.getElem?_replicate]
  split <;> rfl
/-! ### products -/
/-- What one digit times a number adds at a place. -/
def mt (x : Nat) (b o : Nat → Nat) (k : Nat) : Nat := x * b k + o k
theorem mt_le {x : Nat} {b o : Nat → Nat} (hx : x < Bs) (hb : ∀ j, b j < Bs) (ho : ∀ j, o j < Bs) (k : Nat) : mt x b o k ≤ (Bs - 1) * Bs := by
  have h1 : x * b k ≤ (Bs - 1) * (Bs - 1) := Nat.mul_le_mul (by omega) (by have := hb k; omega)
  have h2 := ho k
  unfold mt
  simp only [Bs] at *
  omega
theorem mul_row {o o' b : Nat → Nat} {x i lb N : Nat} (hN : i + lb + 1 ≤ N) (h0 : ∀ j, i + lb ≤ j → o j = 0) (h1 : ∀ j, j < i → o' j = o j) (h2 : ∀ k, k < lb → o' (i + k) = ot (mt x b fun k => o (i + k)) k)
    (h3 : o' (i + lb) = cr (mt x b fun k => o (i + k)) lb) (h4 : ∀ j, i + lb < j → o' j = 0) : dsum o' N = dsum o N + x * Bs ^ i * dsum b lb := by
  have e1 : dsum o' N = dsum o' (i + lb + 1) := dsum_zero hN fun j hj => h4 j (by omega)
  have e2 : dsum o N = dsum o (i + lb) := dsum_zero (by omega) h0
  rw [e1, e2, dsum_succ, dsum_shift o' i lb, dsum_shift o i lb, dsum_congr h1, h3]
  have e3 : dsum (fun j => o' (i + j)) lb = dsum (ot (mt x b fun k => o (i + k))) lb := dsum_congr h2
  have e4 := cr_sum (mt x b fun k => o (i + k)) lb
  have e5 : dsum (mt x b fun k => o (i + k)) lb = x * dsum b lb + dsum (fun j => o (i + j)) lb := by
    show dsum (fun k => x * b k + o (i + k)) lb = _
    rw [dsum_add (fun k => x * b k), dsum_mul]
  rw [e5] at e4
  rw [e3, Nat.pow_add]
  generalize dsum (ot (mt x b fun k => o (i + k))) lb = A at *
  generalize cr (mt x b fun k => o (i + k)) lb = C at *
  generalize dsum (fun j => o (i + j)) lb = D at *
  generalize dsum b lb = E at *
  generalize Bs ^ lb = F at *
  have : Bs ^ i * (A + C * F) = Bs ^ i * (x * E + D) := by rw [e4]
  grind
/-! ### one digit of a quotient, in place -/
/-- What is taken away at a place: the low half of q times a digit, with the carry. -/
def qt (q : Nat) (v : Nat → Nat) (k : Nat) : Nat := q * v k
theorem qt_le {q : Nat} {v : Nat → Nat} (hq : q < Bs) (hv : ∀ j, v j < Bs) (k : Nat) : qt q v k ≤ (Bs - 1) * Bs := by
  have h1 : q * v k ≤ (Bs - 1) * (Bs - 1) := Nat.mul_le_mul (by omega) (by have := hv k; omega)
  unfold qt
  simp only [Bs] at *
  omega
/-- What is left behind the taking, and whether too much was taken. -/
theorem take_sum {u v : Nat → Nat} {q n : Nat} (hq : q < Bs) (hu : ∀ j, u j < Bs) (hv : ∀ j, v j < Bs) :
    dsum (df u (ot (qt q v))) n + q * dsum v n = dsum u n + (cr (qt q v) n + bw u (ot (qt q v)) n) * Bs ^ n := by
  have h1 := bw_sum hu (ot_lt (qt q v)) n
  have h2 := cr_sum (qt q v) n
  have h3 : dsum (qt q v) n = q * dsum v n := dsum_mul q v n
  rw [h3] at h2
  rw [Nat.add_mul]
  omega
/-- The digit was right: what is left is the rest. -/
theorem take_right {u v : Nat → Nat} {q n un : Nat} (hq : q < Bs) (hu : ∀ j, u j < Bs) (hv : ∀ j, v j < Bs) (hle : q * dsum v n ≤ dsum u n + un * Bs ^ n) (hlt : dsum u n + un * Bs ^ n < (q + 1) * dsum v n) :
    un = cr (qt q v) n + bw u (ot (qt q v)) n ∧ dsum (df u (ot (qt q v))) n = dsum u n + un * Bs ^ n - q * dsum v n := by
  have h := take_sum (n := n) hq hu hv
  have h1 := dsum_lt (f := df u (ot (qt q v))) (i := n) (fun j _ => df_lt hu (ot_lt _) j)
  have h2 := dsum_lt (f := v) (i := n) (fun j _ => hv j)
  have h3 : (q + 1) * dsum v n = q * dsum v n + dsum v n := Nat.succ_mul _ _
  generalize cr (qt q v) n + bw u (ot (qt q v)) n = C at *
  generalize dsum (df u (ot (qt q v))) n = D at *
  have hc : un = C := by
    rcases Nat.lt_trichotomy un C with h4 | h4 | h4
    · have : (un + 1) * Bs ^ n ≤ C * Bs ^ n := Nat.mul_le_mul_right _ h4
      rw [Nat.succ_mul] at this; omega
    · exact h4
    · have : (C + 1) * Bs ^ n ≤ un * Bs ^ n := Nat.mul_le_mul_right _ h4
      rw [Nat.succ_mul] at this; omega
  subst hc
  exact ⟨rfl, by omega⟩
/-- The digit was one too great: too much was taken; given back, the rest is left. -/
theorem take_wrong {u v : Nat → Nat} {q n un : Nat} (hq : q < Bs) (hu : ∀ j, u j < Bs) (hv : ∀ j, v j < Bs) (hgt : dsum u n + un * Bs ^ n < q * dsum v n) (hle : q * dsum v n ≤ dsum u n + un * Bs ^ n + dsum v n) :
    un + 1 = cr (qt q v) n + bw u (ot (qt q v)) n ∧ cr (fun k => df u (ot (qt q v)) k + v k) n = 1 ∧
      dsum (ot fun k => df u (ot (qt q v)) k + v k) n = dsum u n + un * Bs ^ n + dsum v n - q * dsum v n := by
  have h := take_sum (n := n) hq hu hv
  have h1 := dsum_lt (f := df u (ot (qt q v))) (i := n) (fun j _ => df_lt hu (ot_lt _) j)
  have h2 := dsum_lt (f := v) (i := n) (fun j _ => hv j)
  have h4 := cr_sum (fun k => df u (ot (qt q v)) k + v k) n
  rw [dsum_add] at h4
  have h5 := dsum_lt (f := ot fun k => df u (ot (qt q v)) k + v k) (i := n) (fun j _ => ot_lt _ j)
  have h6 : cr (fun k => df u (ot (qt q v)) k + v k) n ≤ 1 := cr_one (fun i => by have := df_lt hu (ot_lt (qt q v)) i; have := hv i; simp only [Bs] at *; omega) n
  generalize cr (fun k => df u (ot (qt q v)) k + v k) n = K at *
  generalize dsum (ot fun k => df u (ot (qt q v)) k + v k) n = E at *
  generalize cr (qt q v) n + bw u (ot (qt q v)) n = C at *
  generalize dsum (df u (ot (qt q v))) n = D at *
  generalize q * dsum v n = Q at *
  have hc : un + 1 = C := by
    rcases Nat.lt_trichotomy (un + 1) C with h7 | h7 | h7
    · have : (un + 1 + 1) * Bs ^ n ≤ C * Bs ^ n := Nat.mul_le_mul_right _ h7
      rw [Nat.succ_mul, Nat.succ_mul] at this; omega
    · exact h7
    · have : C * Bs ^ n ≤ un * Bs ^ n := Nat.mul_le_mul_right _ (by omega)
      omega
  subst hc
  rw [Nat.succ_mul] at h
  have hk : K = 1 := by
    rcases Nat.eq_zero_or_pos K with h7 | h7
    · subst h7; rw [Nat.zero_mul] at h4; omega
    · omega
  subst hk
  rw [Nat.one_mul] at h4
  exact ⟨rfl, rfl, by omega⟩
end Go.Proofs.YtffehdfddkgggaaDoor.Nu

/- Texts of one length are ordered as their numbers: plain laws. -/
namespace Go.Proofs.YtffehdfddkgggaaDoor.Nu
set_option linter.unusedSimpArgs false
set_option linter.unusedVariables false
/-- The number of bytes, the greatest first. -/
def numL : List UInt8 → Nat
  | [] => 0
  | c :: x => c.toNat * 256 ^ x.length + numL x
theorem numL_lt : ∀ L : List UInt8, numL L < 256 ^ L.length
  | [] => Nat.one_pos
  | c :: x => by
    have h := numL_lt x
    have hc : c.toNat ≤ 255 := by have := UInt8.toNat_lt c; omega
    have := Nat.mul_le_mul_right (256 ^ x.length) hc
    unfold numL
    rw [List.length_cons, Nat.pow_succ]
    omega
theorem bytesLess_num : ∀ A C : List UInt8, A.length = C.length → Go.Op.bytesLess A C = decide (numL A < numL C)
  | [], [], _ => rfl
  | a :: x, c :: y, h => by
    simp only [List.length_cons, Nat.add_right_cancel_iff] at h
    have ih := bytesLess_num x y h
    have h1 := numL_lt x
    have h2 := numL_lt y
    rw [h] at h1
    unfold numL Go.Op.bytesLess
    rw [h]
    rcases Nat.lt_trichotomy a.toNat c.toNat with h3 | h3 | h3
    · have h4 : a < c := h3
      have : (a.toNat + 1) * 256 ^ y.length ≤ c.toNat * 256 ^ y.length := Nat.mul_le_mul_right _ h3
      rw [Nat.succ_mul] at this
      have h7 : a.toNat * 256 ^ y.length + numL x < c.toNat * 256 ^ y.length + numL y := by omega
      rw [decide_eq_true h7]
      simp [h4]
    · have h4 : a = c := UInt8.toNat_inj.1 h3
      subst h4
      have h5 : ¬ a < a := Nat.lt_irrefl _
      rw [ih]
      simp
    · have h4 : c < a := h3
      have h5 : ¬ a < c := fun h => Nat.lt_asymm h3 h
      have h6 : ¬ a = c := fun h => by subst h; exact Nat.lt_irrefl _ h3
      have : (c.toNat + 1) * 256 ^ y.length ≤ a.toNat * 256 ^ y.length := Nat.mul_le_mul_right _ h3
      rw [Nat.succ_mul] at this
      have h7 : ¬ a.toNat * 256 ^ y.length + numL x < c.toNat * 256 ^ y.length + numL y := by omega
      rw [decide_eq_false h7]
      simp [h5, h6]
theorem bk_cons (c : UInt8) (x : List UInt8) (k : Nat) : bk ⟨(c :: x).toArray⟩ k = if k = x.length then c.toNat else bk ⟨x.toArray⟩ k := by
  have e1 : (⟨(c :: x).toArray⟩ : ByteArray).size = x.length + 1 := rfl
  have e2 : (⟨x.toArray⟩ : ByteArray).size = x.length := rfl
  unfold bk
  rw [e1, e2]
  show (if k < x.length + 1 then ((c :: x).getD (x.length + 1 - 1 - k) 0).toNat else 0) = if k = x.length then c.toNat else if k < x.length then (x.getD (x.length - 1 - k) 0).toNat else 0
  by_cases h : k = x.length
  · subst h
    rw [if_pos (by omega), if_pos rfl, show x.length + 1 - 1 - x.length = 0 by omega]
    rfl
  · rw [if_neg h]
    by_cases h2 : k < x.length
    · rw [if_pos (by omega), if_pos h2, show x.length + 1 - 1 - k = (x.length - 1 - k) + 1 by omega]
      rfl
    · rw [if_neg (by omega), if_neg h2]
theorem numL_num : ∀ L : List UInt8, numS ⟨L.toArray⟩ = numL L
  | [] => rfl
  | c :: x => by
    have ih := numL_num x
    show numS _ = c.toNat * 256 ^ x.length + numL x
    unfold numS at *
    have e1 : (⟨(c :: x).toArray⟩ : ByteArray).size = x.length + 1 := rfl
    have e2 : (⟨x.toArray⟩ : ByteArray).size = x.length := rfl
    rw [e2] at ih
    rw [e1, bsum_succ, bk_cons, if_pos rfl, ← ih, bsum_congr (g := bk ⟨x.toArray⟩) (fun j hj => by rw [bk_cons, if_neg (by omega)])]
    omega
theorem bytes_list (s : ByteArray) : s.toList = s.data.toList := ByteArray.toList_eq s
theorem less_num {a c : ByteArray} (h : a.size = c.size) : Go.Op.bytesLess a.toList c.toList = decide (numS a < numS c) := by
  obtain ⟨x⟩ := a
  obtain ⟨y⟩ := c
  have ha := numL_num x.toList
  have hc := numL_num y.toList
  rw [show (⟨x.toList.toArray⟩ : ByteArray) = ⟨x⟩ from rfl] at ha
  rw [show (⟨y.toList.toArray⟩ : ByteArray) = ⟨y⟩ from rfl] at hc
  have e1 : (⟨x⟩ : ByteArray).toList = x.toList := bytes_list _
  have e2 : (⟨y⟩ : ByteArray).toList = y.toList := bytes_list _
  rw [e1, e2, ha, hc]
  exact bytesLess_num _ _ h
end Go.Proofs.YtffehdfddkgggaaDoor.Nu

/- Division digit by digit: plain laws. -/
namespace Go.Proofs.YtffehdfddkgggaaDoor.Nu
set_option linter.unusedSimpArgs false
set_option linter.unusedVariables false
/-- Some digits of a row, from j on. -/
def wd (O : List Nat) (j m : Nat) : Nat := dsum (fun i => gd O (j + i)) m
theorem dsum_mono (f : Nat → Nat) {i k : Nat} (h : i ≤ k) : dsum f i ≤ dsum f k := by
  obtain ⟨t, rfl⟩ : ∃ t, k = i + t := ⟨k - i, by omega⟩
  induction t with
  | zero => exact Nat.le_refl _
  | succ t ih => have h1 := ih (by omega); rw [← Nat.add_assoc, dsum_succ]; omega
theorem gd_zero_of_lt {O : List Nat} {m i : Nat} (h : val O < Bs ^ m) (hi : m ≤ i) : gd O i = 0 := by
  by_cases hl : O.length ≤ i
  · exact gd_out hl
  · rcases Nat.eq_zero_or_pos (gd O i) with h0 | h0
    · exact h0
    · have h1 : gd O i * Bs ^ i ≤ dsum (gd O) (i + 1) := dsum_top
      have h2 : dsum (gd O) (i + 1) ≤ val O := dsum_mono _ (by omega)
      have h3 : 1 * Bs ^ i ≤ gd O i * Bs ^ i := Nat.mul_le_mul_right _ h0
      have h4 : Bs ^ m ≤ Bs ^ i := Nat.pow_le_pow_right (by decide) hi
      omega
theorem val_wd {O : List Nat} {j m : Nat} (h : ∀ i, j + m ≤ i → gd O i = 0) : val O = dsum (gd O) j + Bs ^ j * wd O j m := by
  have h1 : dsum (gd O) (j + m) = val O := by
    rcases Nat.le_total O.length (j + m) with h2 | h2
    · exact val_ext h2
    · exact (dsum_zero h2 h).symm
  rw [← h1]
  exact dsum_shift _ _ _
theorem dsum_set {f g : Nat → Nat} {p : Nat} (h : ∀ i, i ≠ p → g i = f i) : ∀ n, p < n → dsum g n + f p * Bs ^ p = dsum f n + g p * Bs ^ p := by
  have low : ∀ n, n ≤ p → dsum g n = dsum f n := fun n hn => dsum_congr fun i hi => h i (by omega)
  intro n
  induction n with
  | zero => intro h0; omega
  | succ n ih =>
    intro hp
    rw [dsum_succ, dsum_succ]
    by_cases hpn : p = n
    · subst hpn; rw [low p (Nat.le_refl _)]; omega
    · rw [h n (fun e => hpn e.symm)]
      have := ih (by omega)
      omega
theorem val_set {L : List Nat} {p v : Nat} (hp : p < L.length) : val (L.set p v) + gd L p * Bs ^ p = val L + v * Bs ^ p := by
  have h := dsum_set (f := gd L) (g := gd (L.set p v)) (p := p) (fun i hi => by rw [gd_set hp, if_neg hi]) L.length hp
  rw [gd_set hp, if_pos rfl] at h
  unfold val
  rw [List.length_set]
  exact h
/-- A division under way: U is what vv has been taken from, k digits of the quotient are still to come. -/
structure DivI (U vv n lu lq k : Nat) (O Q : List Nat) : Prop where
  lenO : O.length = lu
  digO : Dig O
  lenQ : Q.length = lq
  digQ : Dig Q
  none : ∀ i, i < k → gd Q i = 0
  eq : U = vv * val Q + val O
  lt : val O < vv * Bs ^ k
section
variable {U vv n lu lq j : Nat} {O Q O' : List Nat}
theorem DivI.far (h : DivI U vv n lu lq (j + 1) O Q) (hv : vv < Bs ^ n) : ∀ i, j + (n + 1) ≤ i → gd O i = 0 := fun i hi => by
  apply gd_zero_of_lt (m := j + (n + 1)) _ hi
  have h1 : vv * Bs ^ (j + 1) ≤ Bs ^ n * Bs ^ (j + 1) := Nat.mul_le_mul_right _ (by omega)
  rw [← Nat.pow_add, show n + (j + 1) = j + (n + 1) by omega] at h1
  exact Nat.lt_of_lt_of_le h.lt h1
theorem DivI.fits (h : DivI U vv n lu lq (j + 1) O Q) (hv : vv < Bs ^ n) : wd O j (n + 1) < vv * Bs := by
  have h1 := val_wd (h.far hv)
  have h2 := h.lt
  have h3 : Bs ^ j * wd O j (n + 1) < Bs ^ j * (vv * Bs) := by
    rw [pw] at h2
    have : vv * (Bs * Bs ^ j) = Bs ^ j * (vv * Bs) := by grind
    omega
  exact Nat.lt_of_mul_lt_mul_left h3
theorem DivI.step (h : DivI U vv n lu lq (j + 1) O Q) (hv : vv < Bs ^ n) (hj : j < lq) (hl : O'.length = lu) (hd : Dig O') (hs : ∀ i, i < j ∨ j + n < i → gd O' i = gd O i) (hw : wd O' j (n + 1) = wd O j (n + 1) % vv) :
    DivI U vv n lu lq j O' (Q.set j (wd O j (n + 1) / vv)) := by
  have h1 := val_wd (h.far hv)
  have hf := h.far hv
  have h1' := val_wd (O := O') (j := j) (m := n + 1) (fun i hi => (hs i (by omega)).trans (hf i hi))
  have hlow : dsum (gd O') j = dsum (gd O) j := dsum_congr fun i hi => hs i (.inl hi)
  have hfit := h.fits hv
  have hvp : 0 < vv := by rcases Nat.eq_zero_or_pos vv with e | e; subst e; omega; exact e
  have hq : wd O j (n + 1) / vv < Bs := (Nat.div_lt_iff_lt_mul hvp).2 (by rw [Nat.mul_comm]; exact hfit)
  have hset := val_set (L := Q) (p := j) (v := wd O j (n + 1) / vv) (by rw [h.lenQ]; exact hj)
  rw [h.none j (by omega), Nat.zero_mul, Nat.add_zero] at hset
  have hdm := Nat.div_add_mod (wd O j (n + 1)) vv
  have hlt := Nat.mod_lt (wd O j (n + 1)) hvp
  rw [hw, hlow] at h1'
  have hds := dsum_lt (f := gd O) (i := j) (fun i _ => h.digO i)
  refine ⟨hl, hd, by rw [List.length_set]; exact h.lenQ, dig_set h.digQ hq, fun i hi => ?_, ?_, ?_⟩
  · rw [gd_set (by rw [h.lenQ]; exact hj), if_neg (by omega)]; exact h.none i (by omega)
  · rw [h.eq, hset, h1, h1']
    generalize wd O j (n + 1) / vv = q at *
    generalize wd O j (n + 1) % vv = r at *
    rw [← hdm]
    grind
  · rw [h1']
    have h3 : Bs ^ j * (wd O j (n + 1) % vv + 1) ≤ Bs ^ j * vv := Nat.mul_le_mul_left _ hlt
    rw [Nat.mul_add, Nat.mul_one] at h3
    rw [Nat.mul_comm vv]
    omega
end
/-- How it begins. -/
theorem DivI.start {U vv n la lq s : Nat} {O : List Nat} (hl : O.length = la + 1) (hd : Dig O) {x : Nat} (hU : val O = x * 2 ^ s) (hx : x < Bs ^ la) (hs : s < 32) (hn : n ≤ la) (hlq : lq = la + 1 - n) (hv : Bs ^ n ≤ 2 * vv) :
    DivI (val O) vv n (la + 1) lq lq O (List.replicate lq 0) := by
  have hz : val (List.replicate lq 0) = 0 := by
    unfold val
    rw [dsum_congr (g := fun _ => 0) (fun i _ => gd_zeros _ _)]
    exact dsum_zero (Nat.zero_le _) (fun _ _ => rfl)
  refine ⟨hl, hd, List.length_replicate, dig_zeros _, fun i _ => gd_zeros _ _, by rw [hz]; omega, ?_⟩
  rw [hU]
  have h1 : 2 ^ s ≤ 2 ^ 31 := Nat.pow_le_pow_right (by decide) (by omega)
  have h2 : x * 2 ^ s < Bs ^ la * 2 ^ 31 := by
    have a1 : x * 2 ^ s ≤ x * 2 ^ 31 := Nat.mul_le_mul_left _ h1
    have a2 : x * 2 ^ 31 < Bs ^ la * 2 ^ 31 := Nat.mul_lt_mul_of_pos_right hx (by decide)
    omega
  have h3 : Bs ^ n * Bs ^ lq = Bs ^ la * Bs := by rw [← Nat.pow_add, hlq, show n + (la + 1 - n) = la + 1 by omega, Nat.pow_succ]
  have h4 : Bs ^ n * Bs ^ lq ≤ 2 * vv * Bs ^ lq := Nat.mul_le_mul_right _ hv
  rw [h3, Nat.mul_assoc] at h4
  generalize Bs ^ la = P at *
  generalize vv * Bs ^ lq = K at *
  simp only [Bs] at h4
  omega
/-- How it ends. -/
theorem DivI.done {U vv n lu lq : Nat} {O Q : List Nat} (h : DivI U vv n lu lq 0 O Q) {p q s : Nat} (hU : U = p * 2 ^ s) (hv : vv = q * 2 ^ s) : val Q = p / q ∧ val O / 2 ^ s = p % q := by
  have h1 := h.eq
  have h2 := h.lt
  rw [Nat.pow_zero, Nat.mul_one] at h2
  have hs : 0 < 2 ^ s := Nat.pow_pos (by decide)
  have hq : 0 < q := by rcases Nat.eq_zero_or_pos q with e | e; subst e; rw [hv, Nat.zero_mul] at h2; omega; exact e
  have e1 : val O = (p % q) * 2 ^ s ∧ val Q = p / q := by
    have a1 : U / vv = val Q := by rw [h1, Nat.mul_add_div (by omega), Nat.div_eq_of_lt h2]; omega
    have a2 : U % vv = val O := by rw [h1, Nat.mul_add_mod]; exact Nat.mod_eq_of_lt h2
    rw [hU, hv] at a1 a2
    rw [Nat.mul_div_mul_right _ _ hs] at a1
    rw [Nat.mul_mod_mul_right] at a2
    exact ⟨a2.symm, a1.symm⟩
  exact ⟨e1.2, by rw [e1.1]; exact Nat.mul_div_cancel _ hs⟩
/-! ### the digit -/
theorem ks_of {f g : Nat → Nat} {m : Nat} (hf : ∀ i, f i < Bs) (hg : ∀ i, g i < Bs) (h1 : 2147483648 ≤ g m) (hfit : dsum f (m + 2) < dsum g (m + 1) * Bs) :
    KS (dsum f (m + 2)) (dsum g (m + 1)) (g m) (f (m + 1) * Bs + f m) (Bs ^ m) (dsum f m) (dsum g m) := by
  refine ⟨by rw [dsum_succ]; omega, ?_, dsum_lt fun i _ => hg i, dsum_lt fun i _ => hf i, h1, hg m, hfit⟩
  rw [dsum_succ, dsum_succ, pw]
  grind
/-- Where the guess ends. -/
theorem guess_end {f g : Nat → Nat} {m q r : Nat} (hf : ∀ i, f i < Bs) (hg : ∀ i, g i < Bs) (h : KS (dsum f (m + 2)) (dsum g (m + 1)) (g m) (f (m + 1) * Bs + f m) (Bs ^ m) (dsum f m) (dsum g m))
    (k : KQ (dsum f (m + 2)) (dsum g (m + 1)) (g m) (f (m + 1) * Bs + f m) q r) (he : Bs ≤ r ∨ (q < Bs ∧ (m = 0 ∨ q * g (m - 1) ≤ r * Bs + f (m - 1)))) :
    q < Bs ∧ dsum f (m + 2) < (q + 1) * dsum g (m + 1) ∧ q * dsum g (m + 1) < dsum f (m + 2) + dsum g (m + 1) := by
  have hvp : 0 < dsum g (m + 1) := by
    have := h.fits
    rcases Nat.eq_zero_or_pos (dsum g (m + 1)) with e | e
    · rw [e] at this; omega
    · exact e
  rcases he with hr | ⟨hq, h0 | hn⟩
  · obtain ⟨a1, a2⟩ := k.end_big h hr
    exact ⟨a2, k.hi, by omega⟩
  · subst h0
    have a1 := k.end_one h rfl
    exact ⟨hq, k.hi, by omega⟩
  · rcases Nat.eq_zero_or_pos m with h0 | h0
    · subst h0
      have a1 := k.end_one h rfl
      exact ⟨hq, k.hi, by omega⟩
    · obtain ⟨p, rfl⟩ : ∃ p, m = p + 1 := ⟨m - 1, by omega⟩
      rw [Nat.add_sub_cancel] at hn
      exact ⟨hq, k.hi, k.end_next h (P2 := Bs ^ p) (pw p) (show dsum g (p + 1) = g p * Bs ^ p + dsum g p by rw [dsum_succ]; omega) (dsum_lt fun i _ => hg i) (show dsum f (p + 1) = f p * Bs ^ p + dsum f p by rw [dsum_succ]; omega) hq hn⟩
/-- A round of the guess. -/
theorem guess_down {f g : Nat → Nat} {m q r : Nat} (hf : ∀ i, f i < Bs) (hg : ∀ i, g i < Bs) (h : KS (dsum f (m + 2)) (dsum g (m + 1)) (g m) (f (m + 1) * Bs + f m) (Bs ^ m) (dsum f m) (dsum g m))
    (k : KQ (dsum f (m + 2)) (dsum g (m + 1)) (g m) (f (m + 1) * Bs + f m) q r) (hr : r < Bs) (he : Bs ≤ q ∨ (0 < m ∧ r * Bs + f (m - 1) < q * g (m - 1))) :
    0 < q ∧ KQ (dsum f (m + 2)) (dsum g (m + 1)) (g m) (f (m + 1) * Bs + f m) (q - 1) (r + g m) := by
  rcases he with hq | ⟨h0, hn⟩
  · exact ⟨by simp only [Bs] at hq; omega, k.down_big h hr hq⟩
  · obtain ⟨p, rfl⟩ : ∃ p, m = p + 1 := ⟨m - 1, by omega⟩
    rw [Nat.add_sub_cancel] at hn
    refine ⟨?_, k.down_next h (P2 := Bs ^ p) (pw p) (show dsum g (p + 1) = g p * Bs ^ p + dsum g p by rw [dsum_succ]; omega) (show dsum f (p + 1) = f p * Bs ^ p + dsum f p by rw [dsum_succ]; omega) (dsum_lt fun i _ => hf i) hr hn⟩
    rcases Nat.eq_zero_or_pos q with e | e
    · subst e; omega
    · exact e
end Go.Proofs.YtffehdfddkgggaaDoor.Nu

/- The number of bytes: noughts ahead, digits put together byte by byte. Plain. -/
namespace Go.Proofs.YtffehdfddkgggaaDoor.Nu
set_option linter.unusedSimpArgs false
set_option linter.unusedVariables false
theorem numL_drop : ∀ L : List UInt8, numL (Go.Lib.trimLeftB L 0) = numL L
  | [] => rfl
  | c :: x => by
    unfold Go.Lib.trimLeftB
    rw [List.dropWhile_cons]
    by_cases h : c = 0
    · subst h
      have h1 := numL_drop x
      unfold Go.Lib.trimLeftB at h1
      simp only [beq_self_eq_true, if_true]
      rw [h1]
      simp [numL]
    · rw [if_neg (by simpa using h)]
theorem drop_head (L : List UInt8) : Go.Lib.trimLeftB L 0 = [] ∨ ∃ c x, Go.Lib.trimLeftB L 0 = c :: x ∧ c ≠ 0 := by
  unfold Go.Lib.trimLeftB
  induction L with
  | nil => exact .inl rfl
  | cons c x ih =>
    rw [List.dropWhile_cons]
    by_cases h : c = 0
    · subst h; simpa using ih
    · rw [if_neg (by simpa using h)]; exact .inr ⟨c, x, rfl, h⟩
/-- A text without its noughts ahead. -/
def cutS (s : ByteArray) : ByteArray := ⟨(Go.Lib.trimLeftB s.data.toList 0).toArray⟩
theorem cutS_num (s : ByteArray) : numS (cutS s) = numS s := by
  unfold cutS
  rw [numL_num, numL_drop, ← numL_num]
theorem cutS_le (s : ByteArray) : (cutS s).size ≤ s.size := by
  show (Go.Lib.trimLeftB s.data.toList 0).length ≤ s.data.size
  have := (List.dropWhile_sublist (fun x : UInt8 => x == 0) (l := s.data.toList)).length_le
  rw [Array.length_toList] at this
  exact this
theorem pow256 (m : Nat) : (256 : Nat) ^ m = 2 ^ (8 * m) := by rw [show (256 : Nat) = 2 ^ 8 from rfl, ← Nat.pow_mul]
theorem cutS_long (s : ByteArray) : 512 < (cutS s).size ↔ 4096 < blen (numS s) := by
  rw [← cutS_num]
  constructor
  · intro h
    rcases drop_head s.data.toList with h0 | ⟨c, x, h1, hc⟩
    · have : (cutS s).size = 0 := by show (Go.Lib.trimLeftB s.data.toList 0).length = 0; rw [h0]; rfl
      omega
    · have hl : (cutS s).size = x.length + 1 := by show (Go.Lib.trimLeftB s.data.toList 0).length = _; rw [h1]; rfl
      have hv : numS (cutS s) = numL (c :: x) := by unfold cutS; rw [numL_num, h1]
      have hge : 256 ^ x.length ≤ numL (c :: x) := by
        show 256 ^ x.length ≤ c.toNat * 256 ^ x.length + numL x
        have : 0 < c.toNat := by rcases Nat.eq_zero_or_pos c.toNat with e | e; exact absurd (UInt8.toNat_inj.1 e) hc; exact e
        have := Nat.mul_le_mul_right (256 ^ x.length) this
        omega
      rcases Nat.lt_or_ge 4096 (blen (numS (cutS s))) with h2 | h2
      · exact h2
      · have h3 : ¬ blen (numL (c :: x)) ≤ 8 * x.length := fun h => absurd (blen_le.1 h) (by rw [← pow256]; exact Nat.not_lt.2 hge)
        rw [hv] at h2
        omega
  · intro h
    rcases Nat.lt_or_ge 512 (cutS s).size with h1 | h1
    · exact h1
    · have h2 := numS_lt (cutS s)
      rw [pow256] at h2
      have h4 := blen_le.2 h2
      omega
/-- The last i bytes of a text's places, counted from the front. -/
def gI (s : ByteArray) (i j : Nat) : Nat := if s.size ≤ j + i then bk s j else 0
theorem gI_zero (s : ByteArray) (j : Nat) : gI s 0 j = 0 := by
  unfold gI; split
  · exact bk_out (by omega)
  · rfl
theorem gI_all (s : ByteArray) (j : Nat) : gI s s.size j = bk s j := by unfold gI; rw [if_pos (by omega)]
theorem gI_lt (s : ByteArray) (i j : Nat) : gI s i j < 256 := by
  unfold gI; split
  · exact bk_lt s j
  · decide
theorem gI_succ (s : ByteArray) {i : Nat} (h : i < s.size) (j : Nat) : gI s (i + 1) j = if j = s.size - 1 - i then bk s (s.size - 1 - i) else gI s i j := by
  unfold gI
  by_cases h1 : j = s.size - 1 - i
  · rw [if_pos h1, if_pos (by omega), h1]
  · rw [if_neg h1]
    by_cases h2 : s.size ≤ j + i
    · rw [if_pos h2, if_pos (by omega)]
    · rw [if_neg h2, if_neg (by omega)]
/-- One byte more: the digit in which it lies. -/
theorem four_byte (s : ByteArray) {i q t : Nat} (h : i < s.size) (hk : s.size - 1 - i = 4 * q + t) (ht : t < 4) :
    four (gI s (i + 1)) q = (four (gI s i) q ||| bk s (s.size - 1 - i) * 2 ^ (8 * t)) ∧ ∀ p, p ≠ q → four (gI s (i + 1)) p = four (gI s i) p := by
  obtain ⟨b, hb⟩ : ∃ b, bk s (s.size - 1 - i) = b := ⟨_, rfl⟩
  have hbB : b < 256 := by rw [← hb]; exact bk_lt s _
  have hg : ∀ j, gI s (i + 1) j = if j = 4 * q + t then b else gI s i j := fun j => by rw [gI_succ s h, hb, hk]
  have hz : ∀ j, j ≤ 4 * q + t → gI s i j = 0 := fun j hj => by unfold gI; rw [if_neg (by omega)]
  refine ⟨?_, fun p hp => ?_⟩
  · rw [hb]
    have h0 := gI_lt s i (4 * q + 1)
    have h1 := gI_lt s i (4 * q + 2)
    have h2 := gI_lt s i (4 * q + 3)
    have or_add : ∀ a b n : Nat, b < 2 ^ n → (a * 2 ^ n ||| b) = a * 2 ^ n + b := fun a b n hb => by
      have := Nat.shiftLeft_add_eq_or_of_lt hb a
      rw [Nat.shiftLeft_eq] at this
      exact this.symm
    unfold four
    rw [hg, hg, hg, hg]
    have ht4 : t = 0 ∨ t = 1 ∨ t = 2 ∨ t = 3 := by omega
    rcases ht4 with rfl | rfl | rfl | rfl
    · rw [if_pos (by omega), if_neg (by omega), if_neg (by omega), if_neg (by omega), hz (4 * q) (by omega)]
      have := or_add (gI s i (4 * q + 1) + 256 * gI s i (4 * q + 2) + 65536 * gI s i (4 * q + 3)) b 8 hbB
      rw [show 0 + 256 * gI s i (4 * q + 1) + 65536 * gI s i (4 * q + 2) + 16777216 * gI s i (4 * q + 3) = (gI s i (4 * q + 1) + 256 * gI s i (4 * q + 2) + 65536 * gI s i (4 * q + 3)) * 2 ^ 8 by omega, show b * 2 ^ (8 * 0) = b by omega, this]
      omega
    · rw [if_neg (by omega), if_pos (by omega), if_neg (by omega), if_neg (by omega), hz (4 * q) (by omega), hz (4 * q + 1) (by omega)]
      have := or_add (gI s i (4 * q + 2) + 256 * gI s i (4 * q + 3)) (b * 256) 16 (by omega)
      rw [show 0 + 256 * 0 + 65536 * gI s i (4 * q + 2) + 16777216 * gI s i (4 * q + 3) = (gI s i (4 * q + 2) + 256 * gI s i (4 * q + 3)) * 2 ^ 16 by omega, show b * 2 ^ (8 * 1) = b * 256 by omega, this]
      omega
    · rw [if_neg (by omega), if_neg (by omega), if_pos (by omega), if_neg (by omega), hz (4 * q) (by omega), hz (4 * q + 1) (by omega), hz (4 * q + 2) (by omega)]
      have := or_add (gI s i (4 * q + 3)) (b * 65536) 24 (by omega)
      rw [show 0 + 256 * 0 + 65536 * 0 + 16777216 * gI s i (4 * q + 3) = gI s i (4 * q + 3) * 2 ^ 24 by omega, show b * 2 ^ (8 * 2) = b * 65536 by omega, this]
      omega
    · rw [if_neg (by omega), if_neg (by omega), if_neg (by omega), if_pos (by omega), hz (4 * q) (by omega), hz (4 * q + 1) (by omega), hz (4 * q + 2) (by omega), hz (4 * q + 3) (by omega)]
      simp only [Nat.mul_zero, Nat.add_zero, Nat.zero_or]
      omega
  · unfold four
    rw [hg, hg, hg, hg, if_neg (by omega), if_neg (by omega), if_neg (by omega), if_neg (by omega)]
theorem four_zero (q : Nat) : four (fun _ => 0) q = 0 := rfl
theorem four_gI_lt (s : ByteArray) (i q : Nat) : four (gI s i) q < Bs := four_lt (gI_lt s i) q
end Go.Proofs.YtffehdfddkgggaaDoor.Nu
