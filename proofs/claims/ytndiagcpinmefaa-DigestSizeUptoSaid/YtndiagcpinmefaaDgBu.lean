/- Unbase32 over bits; a list of bits read as bytes. -/
import Derived.Test.YtndiagcpinmefaaDgBt
import Derived.Test.YtndiagcpinmefaaDgUh
namespace Go.Proofs.Ytndiagcpinmefaa.Dg
open Go.RowKit Rt Go.Proofs.YtndiagcpinmefaaW.PrintWords
set_option linter.unusedSimpArgs false

def five (c : UInt8) : Nat := (fiveV c).toNat
def bitsV (r : List UInt8) : List Bool := r.flatMap fun c => bits 5 (five c)
theorem bitsV_length (r : List UInt8) : (bitsV r).length = 5 * r.length := by
  induction r with
  | nil => rfl
  | cons c r ih => simp [bitsV, bits_length] at ih ⊢; omega
theorem bitsV_append (a b : List UInt8) : bitsV (a ++ b) = bitsV a ++ bitsV b := by simp [bitsV]
theorem five_lt (c : UInt8) : five c < 32 := by unfold five; have := fiveV_rng c; omega
/-- The decoder, over the bits, of letters that all are of the row. -/
theorem fiveL_gen : ∀ (r : List UInt8) (h v : Nat) (M : List UInt8), h < 8 → (∀ c ∈ r, ¬ fiveV c < 0) →
    ∃ h' v' M', fiveL h v M r = some (h', v', M') ∧ h' < 8 ∧ bits8 M' ++ bits h' v' = bits8 M ++ (bits h v ++ bitsV r) := by
  intro r
  induction r with
  | nil => intro h v M hh _; exact ⟨h, v, M, rfl, hh, by simp [bitsV]⟩
  | cons c r ih =>
    intro h v M hh hk
    have hk0 : five c < 32 := five_lt c
    obtain ⟨k, hkk⟩ : ∃ k, five c = k := ⟨_, rfl⟩
    have hj : bits (h + 5) (v * 32 + k) = bits h v ++ bits 5 k := by
      rw [show (32 : Nat) = 2 ^ 5 by rfl, bits_join h 5 v k (by omega)]
    have hjm : bits (h + 5) ((v * 32 + k) % 2 ^ 64) = bits h v ++ bits 5 k := by rw [bits_mod _ 64 _ (by omega), hj]
    obtain ⟨u, hu⟩ : ∃ u, (v * 32 + k) % 2 ^ 64 = u := ⟨_, rfl⟩
    rw [hu] at hjm
    have e5 : bitsV (c :: r) = bits 5 k ++ bitsV r := by rw [← hkk]; simp [bitsV]
    unfold fiveL
    rw [if_neg (hk c (by simp)), show (fiveV c).toNat = k from hkk]
    unfold fiveStep
    rw [hu]
    by_cases h8 : 8 ≤ h + 5
    · rw [if_pos h8]
      obtain ⟨h', v', M', e1, e2, e3⟩ := ih (h + 5 - 8) u (M ++ [UInt8.ofNat (u / 2 ^ (h + 5 - 8))]) (by omega) (fun x hx => hk x (by simp [hx]))
      refine ⟨h', v', M', e1, e2, ?_⟩
      rw [e3, bits8_append]
      have s : bits (h + 5) u = bits 8 (u / 2 ^ (h + 5 - 8)) ++ bits (h + 5 - 8) u := by
        have := bits_split 8 (h + 5 - 8) u
        rw [show 8 + (h + 5 - 8) = h + 5 by omega] at this; exact this
      have e8 : bits8 [UInt8.ofNat (u / 2 ^ (h + 5 - 8))] = bits 8 (u / 2 ^ (h + 5 - 8)) := by
        simp only [bits8, List.flatMap_cons, List.flatMap_nil, List.append_nil]; exact bits_u8 _
      rw [e8, e5, List.append_assoc, ← List.append_assoc (bits 8 _), ← s, hjm, List.append_assoc]
    · rw [if_neg h8]
      obtain ⟨h', v', M', e1, e2, e3⟩ := ih (h + 5) u M (by omega) (fun x hx => hk x (by simp [hx]))
      refine ⟨h', v', M', e1, e2, ?_⟩
      rw [e3, e5, hjm, List.append_assoc]
theorem fiveL_bad : ∀ (r : List UInt8) (h v : Nat) (M : List UInt8), (∃ c ∈ r, fiveV c < 0) → fiveL h v M r = none := by
  intro r
  induction r with
  | nil => intro h v M ⟨c, hc, _⟩; simp at hc
  | cons c r ih =>
    intro h v M ⟨d, hd, hn⟩
    unfold fiveL
    by_cases hc : fiveV c < 0
    · rw [if_pos hc]
    · rw [if_neg hc]
      rcases List.mem_cons.mp hd with rfl | hd
      · exact absurd hn hc
      · exact ih _ _ _ ⟨d, hd, hn⟩
theorem valB_all : ∀ l : List Bool, valB l = 0 → ∀ b ∈ l, b = false := by
  intro l
  induction l with
  | nil => intro _ b hb; simp at hb
  | cons c l ih =>
    intro h b hb
    rw [valB_cons] at h
    have hp := Nat.two_pow_pos l.length
    cases c with
    | true => simp at h
    | false =>
      rcases List.mem_cons.mp hb with rfl | hb
      · rfl
      · exact ih (by simpa using h) b hb
theorem valB_false : ∀ l : List Bool, (∀ b ∈ l, b = false) → valB l = 0 := by
  intro l
  induction l with
  | nil => intro _; rfl
  | cons c l ih =>
    intro h
    rw [valB_cons, ih (fun b hb => h b (by simp [hb])), h c (by simp)]; simp
/-- What Unbase32 says, by the bits alone: how many bytes, which bits are over. -/
theorem unfiveW_bits (s : ByteArray) (h : ∀ c ∈ s.data.toList, ¬ fiveV c < 0) :
    ∃ M T, bitsV s.data.toList = bits8 M ++ T ∧ T.length < 8 ∧ unfiveW s = if 5 ≤ T.length ∨ ¬ (∀ b ∈ T, b = false) then (⟨#[]⟩, 7) else (mk M, 0) := by
  obtain ⟨h', v', M, e1, e2, e3⟩ := fiveL_gen s.data.toList 0 0 [] (by omega) h
  refine ⟨M, bits h' v', ?_, by rw [bits_length]; exact e2, ?_⟩
  · rw [e3]; simp [bits8, bits_zero]
  · unfold unfiveW
    rw [e1]
    show (if 5 ≤ h' ∨ v' % 2 ^ h' ≠ 0 then _ else _) = _
    rw [bits_length, ← valB_bits h' v']
    by_cases hz : valB (bits h' v') = 0
    · have := valB_all _ hz
      by_cases h5 : 5 ≤ h'
      · rw [if_pos (.inl h5), if_pos (.inl h5)]
      · rw [if_neg (by omega), if_neg (by intro h; rcases h with h | h; exact h5 h; exact h this)]
    · have : ¬ (∀ b ∈ bits h' v', b = false) := fun h => hz (valB_false _ h)
      rw [if_pos (.inr hz), if_pos (.inr this)]
theorem unfiveW_bad (s : ByteArray) (h : ∃ c ∈ s.data.toList, fiveV c < 0) : unfiveW s = (⟨#[]⟩, 7) := by
  unfold unfiveW
  rw [fiveL_bad _ _ _ _ h]
theorem valueN_five_fin : ∀ c : Fin 256, (fiveV (UInt8.ofNat c.val) < 0 ∧ valueN c.val 32 = 99) ∨ (¬ fiveV (UInt8.ofNat c.val) < 0 ∧ valueN c.val 32 = (fiveV (UInt8.ofNat c.val)).toNat) := by decide +kernel
theorem valueN_five (c : UInt8) : (fiveV c < 0 ∧ valueN c.toNat 32 = 99) ∨ (¬ fiveV c < 0 ∧ valueN c.toNat 32 = five c) := by
  have := valueN_five_fin ⟨c.toNat, UInt8.toNat_lt c⟩; unfold five; simpa using this
/-- Bits as numbers of a row. -/
def bnums (B : List Bool) : List Int := B.map fun b => (b.toNat : Int)
theorem bnums_length (B : List Bool) : (bnums B).length = B.length := by simp [bnums]
theorem bnums_append (A B : List Bool) : bnums (A ++ B) = bnums A ++ bnums B := by simp [bnums]
theorem bits5_five (k : Nat) : bits 5 k = [k.testBit 4, k.testBit 3, k.testBit 2, k.testBit 1, k.testBit 0] := rfl
end Go.Proofs.Ytndiagcpinmefaa.Dg
