/- The plain law of DigestTells, up to a bulk: no program in sight. -/
import Derived.Test.YtndiagcpinmefaaPDigestTellsx2
import Derived.Test.YtndiagcpinmefaaDgBu
namespace Go.Proofs.Ytndiagcpinmefaa.Pure
open Go.RowKit Go.Proofs.Ytndiagcpinmefaa.PDigestTells Go.Proofs.YtndiagcpinmefaaW.PrintWords Go.Proofs.YtndiagcpinmefaaW.PrintLast Go.Proofs.YtndiagcpinmefaaW.PrintMore Go.Proofs.Ytndiagcpinmefaa.Dg
set_option linter.unusedSimpArgs false
set_option linter.unusedVariables false

theorem examples_f : guidepostlaw04_examples.f = some true := by decide +kernel
theorem wrap_in {n : Int} (h : -9223372036854775808 ≤ n ∧ n ≤ 9223372036854775807) : wrap64 n = n := by unfold wrap64; omega
theorem bt_mk (R : List UInt8) (j : Nat) (h : j < R.length) : bt (mk R) (j : Int) = ((R.getD j 0).toNat : Int) := by
  unfold bt
  rw [Int.toNat_natCast, dif_pos (by rw [mk_size]; exact h), mk_at]
theorem bits8_get : ∀ (L : List UInt8) (k : Nat), k < 8 * L.length → (bits8 L)[k]? = some ((L.getD (k / 8) 0).toNat.testBit (7 - k % 8)) := by
  intro L
  induction L with
  | nil => intro k h; simp at h
  | cons c L ih =>
    intro k h
    have e : bits8 (c :: L) = Dg.bits 8 c.toNat ++ bits8 L := by simp [bits8]
    rw [e]
    by_cases h8 : k < 8
    · rw [List.getElem?_append_left (by rw [bits_length]; exact h8), show k / 8 = 0 by omega, show k % 8 = k by omega]
      simp [Dg.bits, h8]
    · rw [List.getElem?_append_right (by rw [bits_length]; omega), bits_length, ih (k - 8) (by simp at h; omega)]
      rw [show (k - 8) % 8 = k % 8 by omega, show k / 8 = (k - 8) / 8 + 1 by omega]
      simp
theorem bit_shr_fin : ∀ (c : Fin 256) (j : Fin 8), Int.tmod (shr .u8 (c.val : Int) (j.val : Int)) 2 = ((c.val.testBit j.val).toNat : Int) := by decide +kernel
theorem bit_shr (c j : Nat) (hc : c < 256) (hj : j < 8) : Int.tmod (shr .u8 (c : Int) (j : Int)) 2 = ((c.testBit j).toNat : Int) := bit_shr_fin ⟨c, hc⟩ ⟨j, hj⟩
theorem letter_fin : ∀ v : Fin 32, (thirty.extract v.val (v.val + 1)).data.toList = [hexD v.val] := by decide +kernel
theorem letter (v : Nat) (h : v < 32) : thirty.extract v (v + 1) = mk [hexD v] := by
  rw [← mk_toList (thirty.extract v (v + 1)), letter_fin ⟨v, h⟩]
theorem valB_snoc (l : List Bool) (b : Bool) : valB (l ++ [b]) = 2 * valB l + b.toNat := by
  rw [valB_append]; simp [valB]; omega

/-- Five bits of a text from one on. -/
theorem b32_l1 (L out : List UInt8) (at_ : Nat) (hL : L.length ≤ 1048576) (hat : at_ < 8 * L.length) (ho : out.length ≤ 1099511627776) : ∀ d k j, j + d = 5 →
    guidepostref04_Base32.l1 (k + d + 1) (mk L) (mk out) ((8 * L.length : Nat) : Int) (at_ : Int) (valB (((bits8 L ++ List.replicate 5 false).drop at_).take j) : Int) ((at_ + j : Nat) : Int) =
    guidepostref04_Base32.l0 k (mk L) (mk (out ++ [hexD (valB (((bits8 L ++ List.replicate 5 false).drop at_).take 5))])) ((8 * L.length : Nat) : Int) ((at_ + 5 : Nat) : Int) := by
  have hT : (bits8 L ++ List.replicate 5 false).length = 8 * L.length + 5 := by rw [List.length_append, bits8_length, List.length_replicate]
  intro d
  induction d with
  | zero =>
    intro k j hj
    obtain rfl : j = 5 := by omega
    have hlt := valB_lt (((bits8 L ++ List.replicate 5 false).drop at_).take 5)
    rw [List.length_take, List.length_drop, hT, show min 5 (8 * L.length + 5 - at_) = 5 by omega] at hlt
    obtain ⟨v, hv⟩ : ∃ v, valB (((bits8 L ++ List.replicate 5 false).drop at_).take 5) = v := ⟨_, rfl⟩
    rw [hv] at hlt ⊢
    conv => lhs; unfold guidepostref04_Base32.l1
    have w1 : wrap64 ((at_ : Int) + 5) = ((at_ + 5 : Nat) : Int) := by rw [wrap_in (by omega)]; omega
    have w2 : wrap64 ((v : Int) + 1) = ((v + 1 : Nat) : Int) := by rw [wrap_in (by omega)]; omega
    rw [w1, w2, if_neg (by omega), if_pos (by omega), if_pos (by omega), if_pos (by omega)]
    rw [Int.toNat_natCast, Int.toNat_natCast]
    rw [show (⟨#[48, 49, 50, 51, 52, 53, 54, 55, 56, 57, 97, 98, 99, 100, 101, 102, 103, 104, 105, 106, 107, 108, 109, 110, 111, 112, 113, 114, 115, 116, 117, 118]⟩ : ByteArray).extract v (v + 1) = mk [hexD v] from letter v (by omega)]
    rw [if_pos (by rw [mk_size, mk_size]; simp; omega)]
    rw [show mk out ++ mk [hexD v] = mk (out ++ [hexD v]) from by rw [← mk_toList (mk out ++ mk [hexD v])]; simp [mk]]
  | succ d ih =>
    intro k j hj
    rw [show k + (d + 1) + 1 = (k + d + 1) + 1 by omega, ← ih k (j + 1) (by omega)]
    have hlt := valB_lt (((bits8 L ++ List.replicate 5 false).drop at_).take j)
    rw [List.length_take, List.length_drop, hT] at hlt
    have hlt2 : valB (((bits8 L ++ List.replicate 5 false).drop at_).take j) < 32 := by
      have hp : 2 ^ min j (8 * L.length + 5 - at_) ≤ 2 ^ 5 := Nat.pow_le_pow_right (by omega) (by omega)
      exact Nat.lt_of_lt_of_le hlt hp
    clear hlt
    have hsucc : ∀ b, (bits8 L ++ List.replicate 5 false)[at_ + j]? = some b → valB (((bits8 L ++ List.replicate 5 false).drop at_).take (j + 1)) = 2 * valB (((bits8 L ++ List.replicate 5 false).drop at_).take j) + b.toNat := by
      intro b hb
      rw [List.take_add_one, List.getElem?_drop, hb]
      exact valB_snoc _ b
    obtain ⟨v, hv⟩ : ∃ v, valB (((bits8 L ++ List.replicate 5 false).drop at_).take j) = v := ⟨_, rfl⟩
    rw [hv] at hlt2 hsucc ⊢
    conv => lhs; unfold guidepostref04_Base32.l1
    have w1 : wrap64 ((at_ : Int) + 5) = ((at_ + 5 : Nat) : Int) := by rw [wrap_in (by omega)]; omega
    have w3 : wrap64 (((at_ + j : Nat) : Int) + 1) = ((at_ + (j + 1) : Nat) : Int) := by rw [wrap_in (by omega)]; omega
    have w4 : wrap64 (2 * (v : Int)) = 2 * (v : Int) := wrap_in (by omega)
    rw [w1, if_pos (by omega), w3, w4]
    by_cases hin : at_ + j < 8 * L.length
    · have hg := bits8_get L (at_ + j) hin
      have hcl := UInt8.toNat_lt (L.getD ((at_ + j) / 8) 0)
      have hb : (bits8 L ++ List.replicate 5 false)[at_ + j]? = some ((L.getD ((at_ + j) / 8) 0).toNat.testBit (7 - (at_ + j) % 8)) := by
        rw [List.getElem?_append_left (by rw [bits8_length]; exact hin), hg]
      have w5 : wrap64 (Int.tdiv ((at_ + j : Nat) : Int) 8) = (((at_ + j) / 8 : Nat) : Int) := by
        rw [Int.tdiv_eq_ediv_of_nonneg (by omega), wrap_in (by omega)]; omega
      have w6 : wrap64 (7 - Int.tmod ((at_ + j : Nat) : Int) 8) = ((7 - (at_ + j) % 8 : Nat) : Int) := by
        rw [Int.tmod_eq_emod_of_nonneg (by omega), wrap_in (by omega)]; omega
      rw [hsucc _ hb, if_pos (by omega), w5, w6, if_pos (by omega), if_pos (by rw [mk_size]; omega), if_pos (by omega), bt_mk L _ (by omega), bit_shr _ _ (by simpa using hcl) (by omega)]
      have hbl : ((L.getD ((at_ + j) / 8) 0).toNat.testBit (7 - (at_ + j) % 8)).toNat ≤ 1 := by cases (L.getD ((at_ + j) / 8) 0).toNat.testBit (7 - (at_ + j) % 8) <;> simp
      generalize ((L.getD ((at_ + j) / 8) 0).toNat.testBit (7 - (at_ + j) % 8)).toNat = q at *
      rw [wrap_in (by omega : -9223372036854775808 ≤ (q : Int) ∧ (q : Int) ≤ 9223372036854775807), wrap_in (by omega)]
      rw [show 2 * (v : Int) + (q : Int) = ((2 * v + q : Nat) : Int) by omega]
    · have hb : (bits8 L ++ List.replicate 5 false)[at_ + j]? = some false := by
        rw [List.getElem?_append_right (by rw [bits8_length]; omega), bits8_length]
        rw [List.getElem?_replicate, if_pos (by omega)]
      rw [hsucc _ hb, if_neg (by omega)]
      rw [show 2 * (v : Int) = ((2 * v + false.toNat : Nat) : Int) by simp]
theorem enc5_nil (m : Nat) : enc5 m [] = [] := by cases m <;> rfl
theorem enc5_step (m : Nat) (B : List Bool) (at_ : Nat) (h : at_ < B.length) :
    enc5 (m + 1) (B.drop at_) = hexD (valB (((B ++ List.replicate 5 false).drop at_).take 5)) :: enc5 m (B.drop (at_ + 5)) := by
  have hd : (B ++ List.replicate 5 false).drop at_ = B.drop at_ ++ List.replicate 5 false := List.drop_append_of_le_length (by omega)
  rw [hd]
  have hl : (B.drop at_).length = B.length - at_ := List.length_drop
  rw [show B.drop (at_ + 5) = (B.drop at_).drop 5 by rw [List.drop_drop]]
  generalize B.drop at_ = l at *
  conv => lhs; unfold enc5
  by_cases h5 : 5 ≤ l.length
  · rw [if_pos h5, List.take_append_of_le_length h5]
  · rw [if_neg h5, if_neg (by omega), List.drop_of_length_le (by omega : l.length ≤ 5), enc5_nil]
    congr 2
    have : (l ++ List.replicate 5 false).take 5 = l ++ List.replicate (5 - l.length) false := by
      rw [List.take_append, List.take_of_length_le (by omega : l.length ≤ 5), List.take_replicate]
      congr 2; omega
    rw [this, valB_append, valB_zeros, List.length_replicate]; rfl
theorem b32_l0 (L : List UInt8) (hL : L.length ≤ 1048576) : ∀ m at_ k out, 8 * L.length ≤ at_ + 5 * m → at_ + 5 * m ≤ 16777216 → out.length + m ≤ 1099511627776 →
    guidepostref04_Base32.l0 (7 * m + k + 1) (mk L) (mk out) ((8 * L.length : Nat) : Int) (at_ : Int) = some (mk (out ++ enc5 m ((bits8 L).drop at_))) := by
  intro m
  induction m with
  | zero =>
    intro at_ k out h1 h2 h3
    conv => lhs; unfold guidepostref04_Base32.l0
    rw [if_neg (by omega)]
    simp [enc5]
  | succ m ih =>
    intro at_ k out h1 h2 h3
    rw [show 7 * (m + 1) + k + 1 = (7 * m + k + 1 + 5 + 1) + 1 by omega]
    conv => lhs; unfold guidepostref04_Base32.l0
    by_cases hlt : at_ < 8 * L.length
    · rw [if_pos (by omega)]
      have := b32_l1 L out at_ hL hlt (by omega) 5 (7 * m + k + 1) 0 (by omega)
      rw [List.take_zero, show at_ + 0 = at_ from rfl] at this
      rw [show ((valB [] : Nat) : Int) = 0 from rfl] at this
      show guidepostref04_Base32.l1 (7 * m + k + 1 + 5 + 1) (mk L) (mk out) ((8 * L.length : Nat) : Int) (at_ : Int) 0 (at_ : Int) = _
      rw [this, ih (at_ + 5) k _ (by omega) (by omega) (by simp; omega), enc5_step m _ _ (by rw [bits8_length]; exact hlt)]
      simp
    · rw [if_neg (by omega), List.drop_of_length_le (by rw [bits8_length]; omega), enc5_nil, List.append_nil]
theorem b32_f (s : ByteArray) (hs : s.size ≤ 1048576) (k : Nat) (hk : 7 * (2 * s.size + 1) + 1 ≤ k) : guidepostref04_Base32.f k s = some (fiveW s) := by
  obtain ⟨L, rfl⟩ : ∃ L, s = mk L := ⟨s.data.toList, (mk_toList s).symm⟩
  rw [mk_size] at hs hk
  obtain ⟨q, rfl⟩ : ∃ q, k = 7 * (2 * L.length + 1) + q + 1 := ⟨k - (7 * (2 * L.length + 1) + 1), by omega⟩
  unfold guidepostref04_Base32.f fiveW
  rw [mk_size, mk_data, wrap_in (by omega), show (8 * (L.length : Int)) = ((8 * L.length : Nat) : Int) by omega]
  have := b32_l0 L hs (2 * L.length + 1) 0 q [] (by omega) (by omega) (by simp; omega)
  rw [List.drop_zero, List.nil_append, ← List.nil_append (bits8 L), ← bits_zero 0, ← fiveOut_enc L 0 0 _ (by omega) (by omega)] at this
  exact this


/-- Five bits of a letter more. -/
theorem u32_l1 (s : ByteArray) (B : List Bool) (i v : Nat) (hv : v < 32) (hi : i < 1048576) (hB : B.length ≤ 10485760) (k : Nat) :
    guidepostref04_Unbase32.l1 (k + 6) s (bnums B) (i : Int) (v : Int) 4 = guidepostref04_Unbase32.l0 k s (bnums (B ++ Dg.bits 5 v)) ((i + 1 : Nat) : Int) := by
  have step : ∀ (q j : Nat) (B : List Bool), j < 5 → B.length ≤ 10485770 → guidepostref04_Unbase32.l1 (q + 1) s (bnums B) (i : Int) (v : Int) (j : Int) = guidepostref04_Unbase32.l1 q s (bnums (B ++ [v.testBit j])) (i : Int) (v : Int) ((j : Int) - 1) := by
    intro q j B hj hB
    conv => lhs; unfold guidepostref04_Unbase32.l1
    rw [if_pos (by omega), if_pos (by omega), if_pos (by rw [bnums_length]; omega), bit_shr v j (by omega) (by omega), wrap_in (by omega), bnums_append]; rfl
  rw [bits5_five]
  have s4 := step (k + 5) 4 B (by omega) (by omega)
  have s3 := step (k + 4) 3 (B ++ [v.testBit 4]) (by omega) (by simp; omega)
  have s2 := step (k + 3) 2 (B ++ [v.testBit 4] ++ [v.testBit 3]) (by omega) (by simp; omega)
  have s1 := step (k + 2) 1 (B ++ [v.testBit 4] ++ [v.testBit 3] ++ [v.testBit 2]) (by omega) (by simp; omega)
  have s0 := step (k + 1) 0 (B ++ [v.testBit 4] ++ [v.testBit 3] ++ [v.testBit 2] ++ [v.testBit 1]) (by omega) (by simp; omega)
  have e4 : ((4 : Nat) : Int) - 1 = ((3 : Nat) : Int) := by decide
  have e3 : ((3 : Nat) : Int) - 1 = ((2 : Nat) : Int) := by decide
  have e2 : ((2 : Nat) : Int) - 1 = ((1 : Nat) : Int) := by decide
  have e1 : ((1 : Nat) : Int) - 1 = ((0 : Nat) : Int) := by decide
  rw [e4] at s4
  rw [e3] at s3
  rw [e2] at s2
  rw [e1] at s1
  refine s4.trans (s3.trans (s2.trans (s1.trans (s0.trans ?_))))
  conv => lhs; unfold guidepostref04_Unbase32.l1
  rw [if_neg (by decide), wrap_in (by omega), show (i : Int) + 1 = ((i + 1 : Nat) : Int) by omega]
  simp
theorem value_five (c : UInt8) : guidepostref04_value.f ((c.toNat : Nat) : Int) 32 = some ((valueN c.toNat 32 : Nat) : Int) := by
  have := c.toNat_lt
  unfold guidepostref04_value.f
  rw [if_pos (by omega), Int.toNat_natCast]; rfl
/-- All the letters, where each is of the row. -/
theorem u32_l0 (L : List UInt8) (hL : L.length ≤ 1048576) (k : Nat) : ∀ d i, i + d = L.length → (∀ c ∈ L.drop i, ¬ fiveV c < 0) →
    guidepostref04_Unbase32.l0 (7 * d + k + 1) (mk L) (bnums (bitsV (L.take i))) (i : Int) = guidepostref04_Unbase32.l0 (k + 1) (mk L) (bnums (bitsV L)) (L.length : Int) := by
  intro d
  induction d with
  | zero =>
    intro i h _
    obtain rfl : i = L.length := by omega
    rw [List.take_length, show 7 * 0 + k + 1 = k + 1 by omega]
  | succ d ih =>
    intro i h hall
    have hi : i < L.length := by omega
    have hdrop : L.drop i = L[i] :: L.drop (i + 1) := List.drop_eq_getElem_cons hi
    have hg : L.getD i 0 = L[i] := by simp [List.getD_eq_getElem?_getD, hi]
    rw [show 7 * (d + 1) + k + 1 = (7 * d + k + 1 + 6) + 1 by omega]
    conv => lhs; unfold guidepostref04_Unbase32.l0
    rw [mk_size, if_pos (by omega), if_pos (by omega), bt_mk L i hi, hg, value_five]
    rw [hdrop] at hall
    rcases valueN_five L[i] with ⟨h1, _⟩ | ⟨_, h2⟩
    · exact absurd h1 (hall _ List.mem_cons_self)
    · have hlt := five_lt L[i]
      rw [Option.bind_some, h2, if_neg (by omega), u32_l1 (mk L) _ i _ hlt (by omega) (by rw [bitsV_length, List.length_take]; omega)]
      rw [← ih (i + 1) (by omega) (fun c hc => hall c (List.mem_cons_of_mem _ hc))]
      congr 2
      rw [List.take_succ_eq_append_getElem hi, bitsV_append]
      simp [bitsV]
/-- Some letter is not of the row. -/
theorem u32_bad (L : List UInt8) (hL : L.length ≤ 1048576) (k : Nat) : ∀ d i, i + d = L.length → (∃ c ∈ L.drop i, fiveV c < 0) →
    guidepostref04_Unbase32.l0 (7 * d + k + 1) (mk L) (bnums (bitsV (L.take i))) (i : Int) = some (⟨#[]⟩, false) := by
  intro d
  induction d with
  | zero =>
    intro i h hex
    obtain ⟨c, hc, _⟩ := hex
    rw [List.drop_of_length_le (by omega)] at hc
    simp at hc
  | succ d ih =>
    intro i h hex
    have hi : i < L.length := by omega
    have hdrop : L.drop i = L[i] :: L.drop (i + 1) := List.drop_eq_getElem_cons hi
    have hg : L.getD i 0 = L[i] := by simp [List.getD_eq_getElem?_getD, hi]
    rw [show 7 * (d + 1) + k + 1 = (7 * d + k + 1 + 6) + 1 by omega]
    conv => lhs; unfold guidepostref04_Unbase32.l0
    rw [mk_size, if_pos (by omega), if_pos (by omega), bt_mk L i hi, hg, value_five]
    rw [hdrop] at hex
    rcases valueN_five L[i] with ⟨h1, h2⟩ | ⟨h1, h2⟩
    · rw [Option.bind_some, h2, if_pos (by decide)]
    · have hlt := five_lt L[i]
      rw [Option.bind_some, h2, if_neg (by omega), u32_l1 (mk L) _ i _ hlt (by omega) (by rw [bitsV_length, List.length_take]; omega)]
      rw [← ih (i + 1) (by omega) (by
        obtain ⟨c, hc, hn⟩ := hex
        rcases List.mem_cons.mp hc with rfl | hc
        · exact absurd hn h1
        · exact ⟨c, hc, hn⟩)]
      congr 2
      rw [List.take_succ_eq_append_getElem hi, bitsV_append]
      simp [bitsV]


theorem rd_bnums (B : List Bool) (j : Nat) (h : j < B.length) : rd (bnums B) (j : Int) = (B[j].toNat : Int) := by
  unfold rd
  rw [Int.toNat_natCast]
  simp [bnums, List.getD_eq_getElem?_getD, h]
/-- The bits over. -/
theorem u32_l2 (B : List Bool) (hB : B.length ≤ 10485760) (n k : Nat) (hn : n ≤ 10485760) : ∀ d j, j + d = B.length →
    guidepostref04_Unbase32.l2 (d + k + 1) (bnums B) (n : Int) (j : Int) = if (∀ b ∈ B.drop j, b = false) then guidepostref04_Unbase32.l3 k (bnums B) (n : Int) (List.replicate n 0) 0 else some (⟨#[]⟩, false) := by
  intro d
  induction d with
  | zero =>
    intro j h
    rw [if_pos (by rw [List.drop_of_length_le (by omega)]; simp), show 0 + k + 1 = k + 1 by omega]
    conv => lhs; unfold guidepostref04_Unbase32.l2
    rw [bnums_length, if_neg (by omega), if_pos (by omega), Int.toNat_natCast, if_pos (by omega)]
  | succ d ih =>
    intro j h
    have hj : j < B.length := by omega
    have hdrop : B.drop j = B[j] :: B.drop (j + 1) := List.drop_eq_getElem_cons hj
    rw [show d + 1 + k + 1 = (d + k + 1) + 1 by omega]
    conv => lhs; unfold guidepostref04_Unbase32.l2
    rw [bnums_length, if_pos (by omega), if_pos (by omega), rd_bnums B j hj, hdrop]
    cases hb : B[j] with
    | false =>
      rw [if_pos (by rfl), wrap_in (by omega), show (j : Int) + 1 = ((j + 1 : Nat) : Int) by omega, ih (j + 1) (by omega)]
      by_cases hq : ∀ b ∈ B.drop (j + 1), b = false
      · rw [if_pos hq, if_pos (by
          intro b hb
          rcases List.mem_cons.mp hb with rfl | hb
          · rfl
          · exact hq b hb)]
      · rw [if_neg hq, if_neg (fun h => hq fun b hb => h b (List.mem_cons_of_mem _ hb))]
    | true =>
      rw [if_neg (by decide), if_neg (fun h => by simpa using h true List.mem_cons_self)]
/-- The bytes, bit by bit: what t bits have made. -/
def part (B : List Bool) (t i : Nat) : Int := (valB ((B.drop (8 * i)).take (min 8 (t - 8 * i))) : Int)
theorem part_same (B : List Bool) (t i : Nat) (h : i ≠ t / 8) : part B (t + 1) i = part B t i := by
  unfold part
  rw [show min 8 (t + 1 - 8 * i) = min 8 (t - 8 * i) by omega]
theorem part_step (B : List Bool) (t : Nat) (h : t < B.length) : part B (t + 1) (t / 8) = 2 * part B t (t / 8) + B[t].toNat ∧ 0 ≤ part B t (t / 8) ∧ part B t (t / 8) < 128 := by
  unfold part
  rw [show min 8 (t + 1 - 8 * (t / 8)) = t % 8 + 1 by omega, show min 8 (t - 8 * (t / 8)) = t % 8 by omega]
  have e : ((B.drop (8 * (t / 8))).take (t % 8 + 1)) = (B.drop (8 * (t / 8))).take (t % 8) ++ [B[t]] := by
    rw [List.take_add_one, List.getElem?_drop, show 8 * (t / 8) + t % 8 = t by omega, List.getElem?_eq_getElem h]; rfl
  have hlt := valB_lt ((B.drop (8 * (t / 8))).take (t % 8))
  have hl : ((B.drop (8 * (t / 8))).take (t % 8)).length ≤ 7 := by rw [List.length_take]; omega
  have hp : 2 ^ ((B.drop (8 * (t / 8))).take (t % 8)).length ≤ 2 ^ 7 := Nat.pow_le_pow_right (by omega) hl
  have hlt2 := Nat.lt_of_lt_of_le hlt hp
  clear hlt hp
  rw [e, valB_snoc]
  generalize valB ((B.drop (8 * (t / 8))).take (t % 8)) = v at *
  refine ⟨by omega, by omega, ?_⟩
  have : v < 128 := hlt2
  omega
theorem part_set (B : List Bool) (t n : Nat) (h : t / 8 < n) : ((List.range n).map (part B t)).set (t / 8) (part B (t + 1) (t / 8)) = (List.range n).map (part B (t + 1)) := by
  apply List.ext_getElem
  · simp
  · intro i h1 h2
    rw [List.getElem_set]
    by_cases hi : t / 8 = i
    · rw [if_pos hi]; subst hi; simp
    · rw [if_neg hi]; simp [part_same B t i (fun e => hi e.symm)]
theorem u32_l3 (B : List Bool) (hB : B.length ≤ 10485760) (n k : Nat) (hn : 8 * n ≤ B.length) : ∀ d t, t + d = 8 * n →
    guidepostref04_Unbase32.l3 (d + k + 1) (bnums B) (n : Int) ((List.range n).map (part B t)) (t : Int) = some (strOfNums ((List.range n).map (part B (8 * n))), true) := by
  intro d
  induction d with
  | zero =>
    intro t h
    obtain rfl : t = 8 * n := by omega
    rw [show 0 + k + 1 = k + 1 by omega]
    conv => lhs; unfold guidepostref04_Unbase32.l3
    rw [wrap_in (by omega : -9223372036854775808 ≤ 8 * (n : Int) ∧ 8 * (n : Int) ≤ 9223372036854775807), if_neg (by omega)]
  | succ d ih =>
    intro t h
    have ht : t < B.length := by omega
    have w1 : wrap64 (8 * (n : Int)) = 8 * (n : Int) := wrap_in (by omega)
    have w2 : wrap64 (Int.tdiv (t : Int) 8) = ((t / 8 : Nat) : Int) := by
      rw [Int.tdiv_eq_ediv_of_nonneg (by omega), wrap_in (by omega)]; omega
    have w3 : wrap64 ((t : Int) + 1) = ((t + 1 : Nat) : Int) := by rw [wrap_in (by omega)]; omega
    have h8 : t / 8 < n := by omega
    rw [show d + 1 + k + 1 = (d + k + 1) + 1 by omega, ← ih (t + 1) (by omega)]
    conv => lhs; unfold guidepostref04_Unbase32.l3
    rw [w1, w2, w3, if_pos (by omega), if_pos (by omega), List.length_map, List.length_range, if_pos (by omega), if_pos (by omega), bnums_length, if_pos (by omega), rd_bnums B t ht, Int.toNat_natCast]
    have hr : rd ((List.range n).map (part B t)) ((t / 8 : Nat) : Int) = part B t (t / 8) := by
      unfold rd
      rw [Int.toNat_natCast]
      simp [List.getD_eq_getElem?_getD, h8]
    obtain ⟨p1, p2, p3⟩ := part_step B t ht
    have hb1 : (B[t].toNat : Int) ≤ 1 := by cases B[t] <;> simp
    rw [hr, ← part_set B t n h8, p1]
    congr 2
    omega


theorem bits8_at (M : List UInt8) (T : List Bool) (i : Nat) (h : i < M.length) : ((bits8 M ++ T).drop (8 * i)).take 8 = Dg.bits 8 M[i].toNat := by
  have e : M = M.take i ++ M[i] :: M.drop (i + 1) := by rw [← List.drop_eq_getElem_cons h, List.take_append_drop]
  have e2 : bits8 M ++ T = bits8 (M.take i) ++ (Dg.bits 8 M[i].toNat ++ (bits8 (M.drop (i + 1)) ++ T)) := by
    have e3 : bits8 (M.take i ++ M[i] :: M.drop (i + 1)) = bits8 (M.take i) ++ (Dg.bits 8 M[i].toNat ++ bits8 (M.drop (i + 1))) := by
      rw [bits8_append]; rfl
    rw [← e] at e3
    rw [e3, List.append_assoc, List.append_assoc]
  have hl : (bits8 (M.take i)).length = 8 * i := by rw [bits8_length, List.length_take, Nat.min_eq_left (by omega)]
  rw [e2, List.drop_append_of_le_length (by omega), List.drop_of_length_le (by omega), List.nil_append]
  rw [List.take_append_of_le_length (by rw [bits_length]; omega), List.take_of_length_le (by rw [bits_length]; omega)]
theorem parts_bytes (M : List UInt8) (T : List Bool) : (List.range M.length).map (part (bits8 M ++ T) (8 * M.length)) = M.map fun c => (c.toNat : Int) := by
  apply List.ext_getElem
  · simp
  · intro i h1 h2
    have hi : i < M.length := by simpa using h1
    have hc := M[i].toNat_lt
    simp only [List.getElem_map, List.getElem_range]
    unfold part
    rw [show min 8 (8 * M.length - 8 * i) = 8 by omega, bits8_at M T i hi, valB_bits, Nat.mod_eq_of_lt (by simpa using hc)]
theorem parts_zero (B : List Bool) (n : Nat) : (List.range n).map (part B 0) = List.replicate n 0 := by
  apply List.ext_getElem
  · simp
  · intro i h1 h2
    simp [part, valB]
theorem strOfNums_bytes (M : List UInt8) : strOfNums (M.map fun c => (c.toNat : Int)) = mk M := by
  simp [strOfNums, Function.comp_def]; rfl
def unfiveR (s : ByteArray) : ByteArray × Bool := ((unfiveW s).1, (unfiveW s).2 == 0)
theorem u32_f (s : ByteArray) (hs : s.size ≤ 1048576) (k : Nat) (hk : 20 * s.size + 20 ≤ k) : guidepostref04_Unbase32.f k s = some (unfiveR s) := by
  obtain ⟨L, rfl⟩ : ∃ L, s = mk L := ⟨s.data.toList, (mk_toList s).symm⟩
  rw [mk_size] at hs hk
  unfold guidepostref04_Unbase32.f
  by_cases hbad : ∃ c ∈ L, fiveV c < 0
  · obtain ⟨q, rfl⟩ : ∃ q, k = 7 * L.length + q + 1 := ⟨k - (7 * L.length + 1), by omega⟩
    have := u32_bad L hs q L.length 0 (by omega) (by simpa using hbad)
    rw [List.take_zero] at this
    refine this.trans ?_
    unfold unfiveR
    rw [unfiveW_bad _ hbad]; rfl
  · have hall : ∀ c ∈ L, ¬ fiveV c < 0 := fun c hc h => hbad ⟨c, hc, h⟩
    obtain ⟨M, T, e1, e2, e3⟩ := unfiveW_bits (mk L) hall
    rw [mk_data] at e1
    have hlen := congrArg List.length e1
    rw [bitsV_length, List.length_append, bits8_length] at hlen
    obtain ⟨q, rfl⟩ : ∃ q, k = 7 * L.length + (T.length + (8 * M.length + q + 1) + 1) + 1 := ⟨k - (7 * L.length + (T.length + (8 * M.length + 1) + 1) + 1), by omega⟩
    have h0 := u32_l0 L hs (T.length + (8 * M.length + q + 1) + 1) L.length 0 (by omega) (by simpa using hall)
    rw [List.take_zero] at h0
    refine h0.trans ?_
    rw [e1]
    have hB : (bits8 M ++ T).length = 8 * M.length + T.length := by rw [List.length_append, bits8_length]
    conv => lhs; unfold guidepostref04_Unbase32.l0
    have w1 : wrap64 (((bits8 M ++ T).length : Int) / 8) = (M.length : Int) := by rw [hB, wrap_in (by omega)]; omega
    have w2 : wrap64 (8 * (M.length : Int)) = ((8 * M.length : Nat) : Int) := by rw [wrap_in (by omega)]; omega
    have w3 : wrap64 (((bits8 M ++ T).length : Int) - ((8 * M.length : Nat) : Int)) = (T.length : Int) := by rw [hB, wrap_in (by omega)]; omega
    rw [mk_size, if_neg (by omega), bnums_length, w1, w2, w3]
    unfold unfiveR
    rw [e3]
    by_cases h5 : 5 ≤ T.length
    · rw [if_pos (by omega), if_pos (.inl h5)]; rfl
    · rw [if_neg (by omega), u32_l2 (bits8 M ++ T) (by omega) M.length (8 * M.length + q + 1) (by omega) T.length (8 * M.length) (by omega)]
      have hd : (bits8 M ++ T).drop (8 * M.length) = T := by
        rw [List.drop_append_of_le_length (by rw [bits8_length]; omega), List.drop_of_length_le (by rw [bits8_length]; omega), List.nil_append]
      rw [hd]
      by_cases hz : ∀ b ∈ T, b = false
      · rw [if_pos hz, if_neg (by rintro (h | h); exact h5 h; exact h hz)]
        have h3 := u32_l3 (bits8 M ++ T) (by omega) M.length q (by omega) (8 * M.length) 0 (by omega)
        rw [parts_zero, parts_bytes, strOfNums_bytes] at h3
        exact h3
      · rw [if_neg hz, if_pos (.inr hz)]; rfl
theorem DigestTells_upto (a0 a1 a2 : ByteArray) (h0 : a0.size ≤ 1048576) (h1 : a1.size ≤ 1048576) (h2 : a2.size ≤ 1048576) : ∃ k, guidepostlaw04_DigestTells.f k a0 a1 a2 = some true := by
  refine ⟨20 * a2.size + 20 + (7 * (2 * a0.size + 1) + 1), ?_⟩
  have eU := u32_f a2 h2 (20 * a2.size + 20 + (7 * (2 * a0.size + 1) + 1)) (by omega)
  have eB := b32_f a0 h0 (20 * a2.size + 20 + (7 * (2 * a0.size + 1) + 1)) (by omega)
  have eH : digest_Hex.f a0 = some (mk (hexL a0.data.toList)) := by unfold digest_Hex.f; rw [if_pos (by omega)]
  have eHr : guidepostref04_Hex.f a0 = some (mk (hexL a0.data.toList)) := by unfold guidepostref04_Hex.f; rw [if_pos (by omega)]
  have eX : digest_Unhex.f a1 = some (unhexW a1) := by unfold digest_Unhex.f; rw [if_pos (by omega)]
  have eXr : guidepostref04_Unhex.f a1 = some (unhexR a1.data.toList) := by unfold guidepostref04_Unhex.f; rw [if_pos (by omega)]
  have eV : digest_Unbase32.f a2 = some (unfiveW a2) := by unfold digest_Unbase32.f; rw [if_pos (by omega)]
  have eBp : digest_Base32.f a0 = some (fiveW a0) := by unfold digest_Base32.f; rw [if_pos (by omega)]
  have hx : ∃ A b, unhexW a1 = (A, if b then 0 else 7) ∧ unhexR a1.data.toList = (A, b) := by
    unfold unhexW unhexR
    cases unhexL a1.data.toList with
    | none => exact ⟨_, false, rfl, rfl⟩
    | some M => exact ⟨_, true, rfl, rfl⟩
  have hy : ∃ A b, unfiveW a2 = (A, if b then 0 else 7) ∧ unfiveR a2 = (A, b) := by
    unfold unfiveR unfiveW
    split
    · exact ⟨_, false, rfl, rfl⟩
    · split
      · exact ⟨_, false, rfl, rfl⟩
      · exact ⟨_, true, rfl, rfl⟩
  obtain ⟨A, b, x1, x2⟩ := hx
  obtain ⟨C, d, y1, y2⟩ := hy
  rw [x1] at eX
  rw [x2] at eXr
  rw [y1] at eV
  rw [y2] at eU
  generalize 20 * a2.size + 20 + (7 * (2 * a0.size + 1) + 1) = k at *
  generalize mk (hexL a0.data.toList) = X at *
  generalize fiveW a0 = Y at *
  unfold guidepostlaw04_DigestTells.f
  rw [examples_f, eH, eHr, eX, eXr, eV, eU, eBp, eB]
  cases b <;> cases d <;> simp

end Go.Proofs.Ytndiagcpinmefaa.Pure
