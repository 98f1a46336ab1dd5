/- Base32 and Unbase32, Hex and Unhex: there and back, over lists. -/
import Derived.Test.YtndiagcpinmefaaDgB
namespace Go.Proofs.Ytndiagcpinmefaa.Dg
open Go.RowKit Rt Go.Proofs.YtndiagcpinmefaaW.PrintWords
set_option linter.unusedSimpArgs false

theorem drain_step' (v g : Nat) (h : 5 ≤ g) : drain v g = hexD (v / 2 ^ (g - 5) % 32) :: drain v (g - 5) := by rw [drain, if_pos h]
theorem drain_end' (v g : Nat) (h : g < 5) : drain v g = [] := by rw [drain, if_neg (by omega)]
theorem fiveV_hexD_fin : ∀ k : Fin 32, fiveV (hexD k.val) = (k.val : Int) := by decide +kernel
theorem fiveV_hexD (k : Nat) (h : k < 32) : fiveV (hexD k) = k := fiveV_hexD_fin ⟨k, h⟩
theorem hexV_hexD_fin : ∀ k : Fin 16, hexV (hexD k.val) = (k.val : Int) := by decide +kernel
theorem hexV_hexD (k : Nat) (h : k < 16) : hexV (hexD k) = k := hexV_hexD_fin ⟨k, h⟩
theorem hexBack (L : List UInt8) : unhexL (hexL L) = some L := by
  induction L with
  | nil => rfl
  | cons c L ih =>
    have hc := c.toNat_lt
    show unhexL (hexD (c.toNat / 16) :: hexD (c.toNat % 16) :: hexL L) = _
    unfold unhexL
    rw [hexV_hexD _ (by omega), hexV_hexD _ (by omega), if_neg (by omega), ih, Int.toNat_natCast, Int.toNat_natCast, show 16 * (c.toNat / 16) + c.toNat % 16 = c.toNat by omega]
    simp
/-- A number's bits, the great ones first. -/
def bits (n v : Nat) : List Bool := (List.range n).map fun i => v.testBit (n - 1 - i)
/-- Bits as a number. -/
def valB (l : List Bool) : Nat := l.foldl (fun a b => 2 * a + b.toNat) 0
theorem bits_length (n v : Nat) : (bits n v).length = n := by simp [bits]
theorem bits_zero (v : Nat) : bits 0 v = [] := rfl
theorem bits_succ (n v : Nat) : bits (n + 1) v = v.testBit n :: bits n v := by
  unfold bits
  rw [List.range_succ_eq_map, List.map_cons, List.map_map]
  congr 1
  apply List.map_congr_left
  intro i hi
  simp at hi
  simp only [Function.comp]
  congr 1; omega
theorem valB_append (a b : List Bool) : valB (a ++ b) = valB a * 2 ^ b.length + valB b := by
  have h : ∀ (b : List Bool) (x : Nat), b.foldl (fun a b => 2 * a + b.toNat) x = x * 2 ^ b.length + b.foldl (fun a b => 2 * a + b.toNat) 0 := by
    intro b
    induction b with
    | nil => intro x; simp
    | cons c b ih =>
      intro x
      rw [List.foldl_cons, List.foldl_cons, ih, ih (2 * 0 + c.toNat), List.length_cons, Nat.pow_succ]
      rw [Nat.add_mul, Nat.add_mul]; simp only [Nat.mul_zero, Nat.zero_mul, Nat.zero_add]
      have : 2 * x * 2 ^ b.length = x * (2 ^ b.length * 2) := by rw [Nat.mul_comm 2 x, Nat.mul_assoc, Nat.mul_comm 2]
      omega
  unfold valB
  rw [List.foldl_append, h]
theorem valB_cons (c : Bool) (b : List Bool) : valB (c :: b) = c.toNat * 2 ^ b.length + valB b := by
  have := valB_append [c] b
  simpa [valB] using this
theorem valB_bits (n v : Nat) : valB (bits n v) = v % 2 ^ n := by
  induction n with
  | zero => simp [bits_zero, valB]; omega
  | succ n ih =>
    rw [bits_succ, valB_cons, ih, bits_length, Nat.testBit_eq_decide_div_mod_eq]
    rw [Nat.pow_succ, Nat.mod_mul]
    have : v / 2 ^ n % 2 < 2 := Nat.mod_lt _ (by omega)
    by_cases h : v / 2 ^ n % 2 = 1
    · simp [h]; omega
    · have h0 : v / 2 ^ n % 2 = 0 := by omega
      simp [h0]
theorem valB_lt (l : List Bool) : valB l < 2 ^ l.length := by
  induction l with
  | nil => simp [valB]
  | cons c l ih => rw [valB_cons, List.length_cons, Nat.pow_succ]; cases c <;> simp <;> omega
theorem bits_valB (l : List Bool) : bits l.length (valB l) = l := by
  induction l with
  | nil => rfl
  | cons c l ih =>
    rw [List.length_cons, bits_succ]
    have hlt := valB_lt l
    have hm : bits l.length (valB (c :: l)) = bits l.length (valB l) := by
      unfold bits
      apply List.map_congr_left
      intro i hi
      simp at hi
      rw [valB_cons, Nat.mul_comm, Nat.testBit_two_pow_mul_add _ hlt]
      rw [if_pos (by omega)]
    rw [hm, ih]
    congr 1
    rw [valB_cons, Nat.testBit_eq_decide_div_mod_eq, Nat.mul_comm, Nat.mul_add_div (Nat.two_pow_pos _), Nat.div_eq_of_lt hlt]
    cases c <;> simp
/-- The bits of a sum of a multiple. -/
theorem bits_join (n m a b : Nat) (hb : b < 2 ^ m) : bits (n + m) (a * 2 ^ m + b) = bits n a ++ bits m b := by
  have h1 := bits_valB (bits n a ++ bits m b)
  rw [List.length_append, bits_length, bits_length, valB_append, valB_bits, valB_bits, bits_length, Nat.mod_eq_of_lt hb] at h1
  rw [← h1]
  unfold bits
  apply List.map_congr_left
  intro i hi
  simp at hi
  rw [Nat.mul_comm a, Nat.mul_comm (a % 2 ^ n), Nat.testBit_two_pow_mul_add _ hb, Nat.testBit_two_pow_mul_add _ hb]
  by_cases hc : n + m - 1 - i < m
  · rw [if_pos hc, if_pos hc]
  · rw [if_neg hc, if_neg hc, Nat.testBit_mod_two_pow]
    have : n + m - 1 - i - m < n := by omega
    simp [this]
theorem bits_mod (n N v : Nat) (h : n ≤ N) : bits n (v % 2 ^ N) = bits n v := by
  unfold bits
  apply List.map_congr_left
  intro i hi
  simp at hi
  rw [Nat.testBit_mod_two_pow]
  have : n - 1 - i < N := by omega
  simp [this]
theorem bits_split (n m v : Nat) : bits (n + m) v = bits n (v / 2 ^ m) ++ bits m v := by
  have := bits_join n m (v / 2 ^ m) (v % 2 ^ m) (Nat.mod_lt _ (Nat.two_pow_pos _))
  rw [Nat.mul_comm, Nat.div_add_mod, bits_mod m m v (Nat.le_refl _)] at this
  exact this
/-- Letters of five bits. -/
def enc5 : Nat → List Bool → List UInt8
  | 0, _ => []
  | k + 1, l => if 5 ≤ l.length then hexD (valB (l.take 5)) :: enc5 k (l.drop 5) else if l.length = 0 then [] else [hexD (valB l * 2 ^ (5 - l.length))]
def bits8 (r : List UInt8) : List Bool := r.flatMap fun c => bits 8 c.toNat
theorem bits8_length (r : List UInt8) : (bits8 r).length = 8 * r.length := by
  induction r with
  | nil => rfl
  | cons c r ih => simp [bits8, bits_length] at ih ⊢; omega
theorem enc5_more : ∀ k l, l.length < 5 * k → ∀ j, enc5 (k + j) l = enc5 k l := by
  intro k
  induction k with
  | zero => intro l h; simp at h
  | succ k ih =>
    intro l h j
    rw [show k + 1 + j = (k + j) + 1 by omega]
    unfold enc5
    by_cases h5 : 5 ≤ l.length
    · rw [if_pos h5, if_pos h5]
      by_cases hd : (l.drop 5).length < 5 * k
      · rw [ih _ hd j]
      · rw [List.length_drop] at hd; omega
    · rw [if_neg h5, if_neg h5]
/-- What drain tells: the full groups. -/
theorem drain_enc (v : Nat) : ∀ g k (T : List Bool), 5 * k > g + T.length → drain v g ++ enc5 (k - g / 5) (bits (g % 5) v ++ T) = enc5 k (bits g v ++ T) := by
  intro g
  induction g using Nat.strongRecOn with
  | ind g ih =>
    intro k T hk
    by_cases h5 : 5 ≤ g
    · rw [drain_step' v g h5]
      obtain ⟨q, rfl⟩ : ∃ q, k = q + 1 := ⟨k - 1, by omega⟩
      have hs : bits g v = bits 5 (v / 2 ^ (g - 5)) ++ bits (g - 5) v := by
        have := bits_split 5 (g - 5) v
        rw [show 5 + (g - 5) = g by omega] at this; exact this
      conv => rhs; unfold enc5
      rw [if_pos (by rw [List.length_append, bits_length]; omega)]
      rw [hs, List.append_assoc, List.take_append_of_le_length (by rw [bits_length]; omega), List.take_of_length_le (by rw [bits_length]; omega), valB_bits]
      rw [List.drop_append_of_le_length (by rw [bits_length]; omega), List.drop_of_length_le (by rw [bits_length]; omega), List.nil_append]
      rw [← ih (g - 5) (by omega) q T (by omega)]
      rw [show q + 1 - g / 5 = q - (g - 5) / 5 by omega, show g % 5 = (g - 5) % 5 by omega]
      rfl
    · rw [drain_end' v g (by omega), show g / 5 = 0 by omega, show g % 5 = g by omega]
      rfl
theorem fiveOut_enc : ∀ (r : List UInt8) (h v k : Nat), h < 5 → h + 8 * r.length < 5 * k → fiveOut h v r = enc5 k (bits h v ++ bits8 r) := by
  intro r
  induction r with
  | nil =>
    intro h v k hh hk
    obtain ⟨q, rfl⟩ : ∃ q, k = q + 1 := ⟨k - 1, by omega⟩
    by_cases h0 : h = 0
    · subst h0
      unfold fiveOut enc5 bits8
      rw [if_neg (by omega), if_neg (by simp [bits_length]), if_pos (by simp [bits_length])]
    · unfold fiveOut enc5 bits8
      rw [if_pos (by omega)]
      simp only [List.flatMap_nil, List.append_nil, bits_length]
      rw [if_neg (by omega), if_neg h0, valB_bits]
      have : v * 2 ^ (5 - h) % 32 = v % 2 ^ h * 2 ^ (5 - h) := by
        rw [show (32 : Nat) = 2 ^ h * 2 ^ (5 - h) by rw [← Nat.pow_add, show h + (5 - h) = 5 by omega], Nat.mul_mod_mul_right]
      rw [this]
  | cons c r ih =>
    intro h v k hh hk
    have hc := c.toNat_lt
    rw [List.length_cons] at hk
    unfold fiveOut
    rw [ih ((h + 8) % 5) _ (k - (h + 8) / 5) (by omega) (by omega)]
    have e : bits h v ++ bits8 (c :: r) = bits (h + 8) (v * 256 + c.toNat) ++ bits8 r := by
      rw [show (256 : Nat) = 2 ^ 8 by rfl, bits_join h 8 v c.toNat (by simpa using hc)]
      simp [bits8]
    rw [e, ← bits_mod (h + 8) 64 _ (by omega)]
    have := drain_enc ((v * 256 + c.toNat) % 2 ^ 64) (h + 8) k (bits8 r) (by rw [bits8_length]; omega)
    exact this

/-- Five bits to a letter. -/
def bits5 (ks : List Nat) : List Bool := ks.flatMap fun k => bits 5 k
theorem bits5_length (ks : List Nat) : (bits5 ks).length = 5 * ks.length := by
  induction ks with
  | nil => rfl
  | cons c r ih => simp [bits5, bits_length] at ih ⊢; omega
theorem bits8_append (a b : List UInt8) : bits8 (a ++ b) = bits8 a ++ bits8 b := by simp [bits8]
theorem bits_u8 (x : Nat) : bits 8 (UInt8.ofNat x).toNat = bits 8 x := by
  rw [show (UInt8.ofNat x).toNat = x % 2 ^ 8 by simp]
  exact bits_mod 8 8 x (Nat.le_refl _)
theorem bits_inj (n a b : Nat) (ha : a < 2 ^ n) (hb : b < 2 ^ n) (h : bits n a = bits n b) : a = b := by
  have := valB_bits n a
  rw [h, valB_bits, Nat.mod_eq_of_lt ha, Nat.mod_eq_of_lt hb] at this
  exact this.symm
theorem bits8_inj : ∀ a b : List UInt8, bits8 a = bits8 b → a = b := by
  intro a
  induction a with
  | nil =>
    intro b h
    have := congrArg List.length h
    rw [bits8_length, bits8_length] at this
    cases b with
    | nil => rfl
    | cons c b => simp at this
  | cons c a ih =>
    intro b h
    cases b with
    | nil => have := congrArg List.length h; rw [bits8_length, bits8_length] at this; simp at this
    | cons d b =>
      have e1 : bits 8 c.toNat ++ bits8 a = bits 8 d.toNat ++ bits8 b := by simpa [bits8] using h
      obtain ⟨h1, h2⟩ := List.append_inj e1 (by rw [bits_length, bits_length])
      have hc := bits_inj 8 _ _ (by simpa using c.toNat_lt) (by simpa using d.toNat_lt) h1
      rw [ih b h2, UInt8.toNat_inj.mp hc]
/-- The decoder, over the bits. -/
theorem fiveL_bits : ∀ (ks : List Nat) (h v : Nat) (M : List UInt8), h < 8 → (∀ k ∈ ks, k < 32) →
    ∃ h' v' M', fiveL h v M (ks.map hexD) = some (h', v', M') ∧ h' < 8 ∧ bits8 M' ++ bits h' v' = bits8 M ++ (bits h v ++ bits5 ks) := by
  intro ks
  induction ks with
  | nil => intro h v M hh _; exact ⟨h, v, M, rfl, hh, by simp [bits5]⟩
  | cons k ks ih =>
    intro h v M hh hk
    have hk0 : k < 32 := hk k (by simp)
    have hj : bits (h + 5) (v * 32 + k) = bits h v ++ bits 5 k := by
      rw [show (32 : Nat) = 2 ^ 5 by rfl, bits_join h 5 v k (by simpa using hk0)]
    have hjm : bits (h + 5) ((v * 32 + k) % 2 ^ 64) = bits h v ++ bits 5 k := by rw [bits_mod _ 64 _ (by omega), hj]
    obtain ⟨u, hu⟩ : ∃ u, (v * 32 + k) % 2 ^ 64 = u := ⟨_, rfl⟩
    rw [hu] at hjm
    rw [List.map_cons]
    unfold fiveL
    rw [fiveV_hexD k hk0, if_neg (by omega), Int.toNat_natCast]
    unfold fiveStep
    rw [hu]
    by_cases h8 : 8 ≤ h + 5
    · rw [if_pos h8]
      obtain ⟨h', v', M', e1, e2, e3⟩ := ih (h + 5 - 8) u (M ++ [UInt8.ofNat (u / 2 ^ (h + 5 - 8))]) (by omega) (fun x hx => hk x (by simp [hx]))
      refine ⟨h', v', M', e1, e2, ?_⟩
      rw [e3, bits8_append]
      have s : bits (h + 5) u = bits 8 (u / 2 ^ (h + 5 - 8)) ++ bits (h + 5 - 8) u := by
        have := bits_split 8 (h + 5 - 8) u
        rw [show 8 + (h + 5 - 8) = h + 5 by omega] at this; exact this
      have e8 : bits8 [UInt8.ofNat (u / 2 ^ (h + 5 - 8))] = bits 8 (u / 2 ^ (h + 5 - 8)) := by
        simp only [bits8, List.flatMap_cons, List.flatMap_nil, List.append_nil]; exact bits_u8 _
      have e5 : bits5 (k :: ks) = bits 5 k ++ bits5 ks := by simp [bits5]
      rw [e8, e5, List.append_assoc, ← List.append_assoc (bits 8 _), ← s, hjm, List.append_assoc]
    · rw [if_neg h8]
      obtain ⟨h', v', M', e1, e2, e3⟩ := ih (h + 5) u M (by omega) (fun x hx => hk x (by simp [hx]))
      refine ⟨h', v', M', e1, e2, ?_⟩
      have e5 : bits5 (k :: ks) = bits 5 k ++ bits5 ks := by simp [bits5]
      rw [e3, e5, hjm, List.append_assoc]
/-- The encoder's letters stand for the bits, filled up with zeros. -/
theorem enc5_bits : ∀ (k : Nat) (l : List Bool), l.length < 5 * k →
    ∃ ks p, enc5 k l = ks.map hexD ∧ (∀ x ∈ ks, x < 32) ∧ p < 5 ∧ bits5 ks = l ++ List.replicate p false := by
  intro k
  induction k with
  | zero => intro l h; omega
  | succ k ih =>
    intro l h
    unfold enc5
    by_cases h5 : 5 ≤ l.length
    · rw [if_pos h5]
      obtain ⟨ks, p, e1, e2, e3, e4⟩ := ih (l.drop 5) (by rw [List.length_drop]; omega)
      have hl : (l.take 5).length = 5 := by rw [List.length_take]; omega
      have hlt := valB_lt (l.take 5)
      rw [hl] at hlt
      refine ⟨valB (l.take 5) :: ks, p, by rw [e1]; rfl, ?_, e3, ?_⟩
      · intro x hx
        rcases List.mem_cons.mp hx with rfl | hx
        · simpa using hlt
        · exact e2 x hx
      · have hb := bits_valB (l.take 5)
        rw [hl] at hb
        have e5 : bits5 (valB (l.take 5) :: ks) = bits 5 (valB (l.take 5)) ++ bits5 ks := by simp [bits5]
        rw [e5, hb, e4, ← List.append_assoc, List.take_append_drop]
    · rw [if_neg h5]
      by_cases h0 : l.length = 0
      · rw [if_pos h0]
        exact ⟨[], 0, rfl, by simp, by omega, by rw [List.length_eq_zero_iff.mp h0]; rfl⟩
      · rw [if_neg h0]
        have hlt := valB_lt l
        have hp : 2 ^ l.length * 2 ^ (5 - l.length) = 32 := by rw [← Nat.pow_add, show l.length + (5 - l.length) = 5 by omega]
        have hb := bits_join l.length (5 - l.length) (valB l) 0 (Nat.two_pow_pos _)
        rw [bits_valB, show l.length + (5 - l.length) = 5 by omega, Nat.add_zero] at hb
        refine ⟨[valB l * 2 ^ (5 - l.length)], 5 - l.length, rfl, ?_, by omega, ?_⟩
        · intro x hx
          rw [List.mem_singleton.mp hx, ← hp]
          exact (Nat.mul_lt_mul_right (Nat.two_pow_pos _)).mpr hlt
        · have e5 : bits5 [valB l * 2 ^ (5 - l.length)] = bits 5 (valB l * 2 ^ (5 - l.length)) := by simp [bits5]
          rw [e5, hb]
          congr 1
          unfold bits
          apply List.ext_getElem
          · simp
          · intro i h1 h2; simp
theorem valB_zeros (p : Nat) : valB (List.replicate p false) = 0 := by
  induction p with
  | zero => rfl
  | succ p ih => rw [List.replicate_succ, valB_cons, ih]; simp
theorem fiveBack (L : List UInt8) : ∃ h v, fiveL 0 0 [] (fiveOut 0 0 L) = some (h, v, L) ∧ h < 5 ∧ v % 2 ^ h = 0 := by
  rw [fiveOut_enc L 0 0 (2 * L.length + 1) (by omega) (by omega), bits_zero, List.nil_append]
  obtain ⟨ks, p, e1, e2, e3, e4⟩ := enc5_bits (2 * L.length + 1) (bits8 L) (by rw [bits8_length]; omega)
  obtain ⟨h, v, M, f1, f2, f3⟩ := fiveL_bits ks 0 0 [] (by omega) e2
  rw [e1, f1]
  rw [e4, bits_zero] at f3
  have f3' : bits8 M ++ bits h v = bits8 L ++ List.replicate p false := f3
  have hl := congrArg List.length f3'
  rw [List.length_append, List.length_append, bits8_length, bits8_length, bits_length, List.length_replicate] at hl
  have hM : M.length = L.length := by omega
  obtain ⟨g1, g2⟩ := List.append_inj f3' (by rw [bits8_length, bits8_length, hM])
  refine ⟨h, v, by rw [bits8_inj M L g1], by omega, ?_⟩
  have := valB_bits h v
  rw [← this, g2]
  exact valB_zeros p
theorem fiveOut_length (L : List UInt8) : (fiveOut 0 0 L).length = (8 * L.length + 4) / 5 := by
  rw [fiveOut_enc L 0 0 (2 * L.length + 1) (by omega) (by omega), bits_zero, List.nil_append]
  obtain ⟨ks, p, e1, e2, e3, e4⟩ := enc5_bits (2 * L.length + 1) (bits8 L) (by rw [bits8_length]; omega)
  have hl := congrArg List.length e4
  rw [bits5_length, List.length_append, bits8_length, List.length_replicate] at hl
  rw [e1, List.length_map]
  omega
theorem fiveW_size (s : ByteArray) : (fiveW s).size = (8 * s.size + 4) / 5 := by
  unfold fiveW
  rw [mk_size, fiveOut_length, Array.length_toList]; rfl
/-- Hex, then Unhex. -/
theorem unhexW_hexL (L : List UInt8) : unhexW (mk (hexL L)) = (mk L, 0) := by
  unfold unhexW
  rw [mk_data, hexBack]
/-- Base32, then Unbase32. -/
theorem unfiveW_fiveW (s : ByteArray) : unfiveW (fiveW s) = (s, 0) := by
  unfold unfiveW fiveW
  obtain ⟨h, v, e, h1, h2⟩ := fiveBack s.data.toList
  rw [mk_data, e]
  show (if 5 ≤ h ∨ v % 2 ^ h ≠ 0 then _ else _) = _
  rw [if_neg (by omega), mk_toList]

end Go.Proofs.Ytndiagcpinmefaa.Dg
