/- The plain law of DigestOnes: no program in sight. -/
import Derived.Test.YtndiagcpinmefaaPDigestOnesx3
import Derived.Test.YtndiagcpinmefaaDgSp
namespace Go.Proofs.Ytndiagcpinmefaa.Pure
open Go.RowKit Go.Proofs.Ytndiagcpinmefaa.PDigestOnes Go.Proofs.YtndiagcpinmefaaW.PrintWords Go.Proofs.YtndiagcpinmefaaW.PrintLast Go.Proofs.YtndiagcpinmefaaW.PrintMore Go.Proofs.Ytndiagcpinmefaa.Dg
set_option linter.unusedSimpArgs false
set_option linter.unusedVariables false

theorem examples_f : guidepostlaw04_examples.f = some true := by decide +kernel

theorem wrap_in {n : Int} (h : -9223372036854775808 ≤ n ∧ n ≤ 9223372036854775807) : wrap64 n = n := by unfold wrap64; omega
theorem left_f (x : UInt32) (s : Nat) (h0 : 0 < s) (h : s < 32) : guidepostref04_left.f (u x) (s : Int) = some (u (rotl x s)) := by
  unfold guidepostref04_left.f
  rw [wrap_in (by omega), if_pos (by omega), if_pos (by omega)]
  have e1 : shl .u32 (u x) (s : Int) = u (x <<< UInt32.ofNat s) := by
    unfold shl
    rw [← shl_wrap x s h, Int.toNat_natCast, Nat.min_eq_left (by simp [IntKind.bits]; omega)]; simp
  have e2 : shr .u32 (u x) (32 - (s : Int)) = u (x >>> UInt32.ofNat (32 - s)) := by
    unfold shr
    rw [← shr_div x (32 - s) (by omega), show (32 - (s : Int)).toNat = 32 - s by omega, Nat.min_eq_left (by simp [IntKind.bits])]; simp
  rw [e1, e2, Dg.u32_or]; rfl
theorem bt_mk (R : List UInt8) (j : Nat) (h : j < R.length) : bt (mk R) (j : Int) = ((R.getD j 0).toNat : Int) := by
  unfold bt
  rw [Int.toNat_natCast, dif_pos (by rw [mk_size]; exact h), mk_at]
theorem word_f (R : List UInt8) (j : Nat) (h : j + 3 < R.length) (hR : R.length < 4611686018427387904) : guidepostref04_word.f (mk R) (j : Int) = some (u (wordOf (R.getD j 0) (R.getD (j + 1) 0) (R.getD (j + 2) 0) (R.getD (j + 3) 0))) := by
  unfold guidepostref04_word.f
  have hs : ((mk R).size : Int) = R.length := by rw [mk_size]
  rw [wrap_in (by omega), wrap_in (by omega), wrap_in (by omega), hs]
  rw [if_pos (by omega), if_pos (by omega), if_pos (by omega), if_pos (by omega), if_pos (by omega), if_pos (by omega), if_pos (by omega), if_pos (by omega)]
  rw [bt_mk R j (by omega), show (j : Int) + 1 = ((j + 1 : Nat) : Int) by omega, show (j : Int) + 2 = ((j + 2 : Nat) : Int) by omega, show (j : Int) + 3 = ((j + 3 : Nat) : Int) by omega, bt_mk R (j + 1) (by omega), bt_mk R (j + 2) (by omega), bt_mk R (j + 3) (by omega)]
  have hn := wordOf_nat (R.getD j 0) (R.getD (j + 1) 0) (R.getD (j + 2) 0) (R.getD (j + 3) 0)
  have ha := (R.getD j 0).toNat_lt; have hb := (R.getD (j + 1) 0).toNat_lt; have hc := (R.getD (j + 2) 0).toNat_lt; have hd := (R.getD (j + 3) 0).toNat_lt
  unfold u
  rw [hn]
  generalize (R.getD j 0).toNat = a at *
  generalize (R.getD (j + 1) 0).toNat = b at *
  generalize (R.getD (j + 2) 0).toNat = c at *
  generalize (R.getD (j + 3) 0).toNat = d at *
  congr 1
  omega
theorem rd_map (l : List UInt32) (j : Nat) (h : j < l.length) : rd (l.map u) (j : Int) = u (l.getD j 0) := by
  unfold rd
  rw [Int.toNat_natCast]
  simp [List.getD_eq_getElem?_getD, h]
theorem tell_l (x0 : List UInt32) (hx : x0.length ≤ 1000) : ∀ (d k i : Nat), i + d = x0.length → guidepostref04_tell.l0 (k + d + 1) (x0.map u) ((tellL (x0.take i)).map fun c => (c.toNat : Int)) (i : Int) = some (mk (tellL x0)) := by
  intro d
  induction d with
  | zero =>
    intro k i h
    unfold guidepostref04_tell.l0
    rw [if_neg (by rw [List.length_map]; omega)]
    congr 1
    rw [show x0.take i = x0 by rw [List.take_of_length_le]; omega]
    simp [strOfNums, Function.comp_def]; rfl
  | succ d ih =>
    intro k i h
    rw [show k + (d + 1) + 1 = (k + d + 1) + 1 by omega]
    unfold guidepostref04_tell.l0
    rw [if_pos (by rw [List.length_map]; omega), if_pos (by omega), rd_map _ _ (by omega)]
    simp only [Option.bind_some]
    have hl : (tellL (x0.take i)).length ≤ 4000 := by rw [tellL_length, List.length_take]; omega
    rw [if_pos (by simp; omega), wrap_in (by omega)]
    have hT : tellL (x0.take (i + 1)) = tellL (x0.take i) ++ bytes4 (x0.getD i 0) := by
      unfold tellL; rw [List.take_succ_eq_append_getElem (by omega), List.flatMap_append]
      rw [List.getD_eq_getElem?_getD, List.getElem?_eq_getElem (by omega)]; simp
    have := ih k (i + 1) (by omega)
    rw [hT, List.map_append] at this
    rw [← this]
    congr 1
    congr 1
    unfold bytes4
    have m24 := byteAt_mod (x0.getD i 0) 24; have m16 := byteAt_mod (x0.getD i 0) 16; have m8 := byteAt_mod (x0.getD i 0) 8; have m0 := byteAt_mod (x0.getD i 0) 0
    rw [show ((2 ^ 24 : Nat) : Int) = 16777216 by rfl] at m24
    rw [show ((2 ^ 16 : Nat) : Int) = 65536 by rfl] at m16
    rw [show ((2 ^ 8 : Nat) : Int) = 256 by rfl] at m8
    rw [show ((2 ^ 0 : Nat) : Int) = 1 by rfl, Int.ediv_one] at m0
    simp only [List.map_cons, List.map_nil]
    rw [← m24, ← m16, ← m8, ← m0]
theorem tell_f (x0 : List UInt32) (hx : x0.length ≤ 1000) (k : Nat) (hk : x0.length < k) : guidepostref04_tell.f k (x0.map u) = some (mk (tellL x0)) := by
  unfold guidepostref04_tell.f
  have := tell_l x0 hx x0.length (k - x0.length - 1) 0 (by omega)
  rw [show k - x0.length - 1 + x0.length + 1 = k by omega] at this
  exact this

theorem set_sched (ws : List UInt32) (i : Nat) (h : i < 80) (x : UInt32) (hx : sched1 ws (i + 1) = sched1 ws i ++ [x]) : ((sched1 ws i ++ List.replicate (80 - i) 0).map u).set i (u x) = (sched1 ws (i + 1) ++ List.replicate (80 - (i + 1)) 0).map u := by
  rw [hx, show u x = u x from rfl, ← List.map_set, show 80 - i = (80 - (i + 1)) + 1 by omega, List.replicate_succ, List.set_append_right _ _ (by rw [sched1_length]; omega), sched1_length]
  simp
theorem l1_f (hs : List Int) (R : List UInt8) (hR : R.length < 4611686018427387904) (a : Nat) (ha : a + 64 ≤ R.length) (hl : hs.length = 5) : ∀ (d k i : Nat), i + d = 80 →
    guidepostref04_Sum1.l1 (k + d + 1) hs (mk R) (a : Int) ((sched1 (wordsN (R.drop a) 16) i ++ List.replicate (80 - i) 0).map u) (i : Int) =
    guidepostref04_Sum1.l2 k hs (mk R) (a : Int) ((sched1 (wordsN (R.drop a) 16) 80).map u) (rd hs 0) (rd hs 1) (rd hs 2) (rd hs 3) (rd hs 4) 0 := by
  intro d
  induction d with
  | zero =>
    intro k i h
    obtain rfl : i = 80 := by omega
    conv => lhs; unfold guidepostref04_Sum1.l1
    rw [if_neg (by omega), hl, if_pos (by omega), if_pos (by omega), if_pos (by omega), if_pos (by omega), if_pos (by omega)]
    simp
  | succ d ih =>
    intro k i h
    rw [show k + (d + 1) + 1 = (k + d + 1) + 1 by omega]
    have hlen : ((sched1 (wordsN (R.drop a) 16) i ++ List.replicate (80 - i) 0).map u).length = 80 := by
      rw [List.length_map, List.length_append, sched1_length, List.length_replicate]; omega
    conv => lhs; unfold guidepostref04_Sum1.l1
    rw [if_pos (by omega)]
    by_cases h16 : i < 16
    · rw [if_pos (by omega), wrap_in (by omega : -9223372036854775808 ≤ (4 * (i : Int)) ∧ _), wrap_in (by omega), show (a : Int) + 4 * (i : Int) = ((a + 4 * i : Nat) : Int) by omega, word_f R _ (by omega) hR]
      simp only [Option.bind_some]
      rw [if_pos (by omega), hlen, if_pos (by omega), wrap_in (by omega), Int.toNat_natCast]
      rw [set_sched _ i (by omega) _ (by
        rw [sched1_succ, if_pos h16, words_get _ 16 i h16, getD_drop, getD_drop, getD_drop, getD_drop, Nat.add_assoc, Nat.add_assoc, Nat.add_assoc])]
      exact ih k (i + 1) (by omega)
    · rw [if_neg (by omega), wrap_in (by omega : -9223372036854775808 ≤ ((i : Int) - 3) ∧ _), wrap_in (by omega : -9223372036854775808 ≤ ((i : Int) - 8) ∧ _), wrap_in (by omega : -9223372036854775808 ≤ ((i : Int) - 14) ∧ _), wrap_in (by omega : -9223372036854775808 ≤ ((i : Int) - 16) ∧ _), hlen]
      rw [if_pos (by omega), if_pos (by omega), if_pos (by omega), if_pos (by omega), if_pos (by omega), if_pos (by omega), if_pos (by omega), if_pos (by omega)]
      have g : ∀ e : Nat, e ≤ 16 → 0 < e → rd ((sched1 (wordsN (R.drop a) 16) i ++ List.replicate (80 - i) 0).map u) ((i : Int) - (e : Int)) = u ((sched1 (wordsN (R.drop a) 16) i).getD (i - e) 0) := by
        intro e he he0
        rw [show (i : Int) - (e : Int) = ((i - e : Nat) : Int) by omega, rd_map _ _ (by rw [List.length_append, sched1_length, List.length_replicate]; omega)]
        rw [List.getD_eq_getElem?_getD, List.getElem?_append_left (by rw [sched1_length]; omega), ← List.getD_eq_getElem?_getD]
      have g3 := g 3 (by omega) (by omega)
      have g8 := g 8 (by omega) (by omega)
      have g14 := g 14 (by omega) (by omega)
      have g16 := g 16 (by omega) (by omega)
      simp only [Int.cast_ofNat_Int] at g3 g8 g14 g16
      rw [g3, g8, g14, g16, Dg.u32_xor, Dg.u32_xor, Dg.u32_xor]
      have hleft := left_f (((sched1 (wordsN (R.drop a) 16) i).getD (i - 3) 0 ^^^ (sched1 (wordsN (R.drop a) 16) i).getD (i - 8) 0 ^^^ (sched1 (wordsN (R.drop a) 16) i).getD (i - 14) 0) ^^^ (sched1 (wordsN (R.drop a) 16) i).getD (i - 16) 0) 1 (by omega) (by omega)
      rw [show ((1 : Nat) : Int) = 1 by rfl] at hleft
      rw [hleft]
      simp only [Option.bind_some]
      rw [if_pos (by omega), if_pos (by omega), wrap_in (by omega), Int.toNat_natCast]
      rw [set_sched _ i (by omega) _ (by rw [sched1_succ, if_neg h16])]
      exact ih k (i + 1) (by omega)
theorem kall : (4294967295 : Int) = u 4294967295 := by decide +kernel
theorem k1 : (1518500249 : Int) = u 1518500249 := by decide +kernel
theorem k2 : (1859775393 : Int) = u 1859775393 := by decide +kernel
theorem k3 : (2400959708 : Int) = u 2400959708 := by decide +kernel
theorem k4 : (3395469782 : Int) = u 3395469782 := by decide +kernel
theorem ref_round (a f e k w : UInt32) (ki : Int) (hk : ki = u k) : ((((((((u a + u f) % 4294967296) + u e) % 4294967296) + ki) % 4294967296) + u w) % (4294967296 : Int)) = u (a + f + e + k + w) := by
  subst hk
  rw [u32_add2, u32_add2, u32_add2, u32_add2]
theorem sum5 {α : Type} (h v : S5) (K : List Int → Option α) : (if (0 : Int) < ((h.l.map u).length : Int) then
      (some ((h.l.map u).set (Int.toNat 0) ((rd (h.l.map u) 0 + u v.a) % (4294967296 : Int)))).bind fun y1 => if (1 : Int) < ((h.l.map u).length : Int) then
          (some (y1.set (Int.toNat 1) ((rd y1 1 + u v.b) % (4294967296 : Int)))).bind fun y2 => if (2 : Int) < ((h.l.map u).length : Int) then
              (some (y2.set (Int.toNat 2) ((rd y2 2 + u v.c) % (4294967296 : Int)))).bind fun y3 => if (3 : Int) < ((h.l.map u).length : Int) then
                  (some (y3.set (Int.toNat 3) ((rd y3 3 + u v.d) % (4294967296 : Int)))).bind fun y4 => if (4 : Int) < ((h.l.map u).length : Int) then
                      K (y4.set (Int.toNat 4) ((rd y4 4 + u v.e) % (4294967296 : Int))) else none else none else none else none else none) = K ((h.add v).l.map u) := by
  have hl : (h.l.map u).length = 5 := rfl
  rw [hl, if_pos (by omega), Option.bind_some, if_pos (by omega), Option.bind_some, if_pos (by omega), Option.bind_some, if_pos (by omega), Option.bind_some, if_pos (by omega)]
  have e0 : rd (h.l.map u) 0 = u h.a := rfl
  rw [e0, u32_add2]
  have e1 : rd ((h.l.map u).set (Int.toNat 0) (u (h.a + v.a))) 1 = u h.b := rfl
  rw [e1, u32_add2]
  have e2 : rd (((h.l.map u).set (Int.toNat 0) (u (h.a + v.a))).set (Int.toNat 1) (u (h.b + v.b))) 2 = u h.c := rfl
  rw [e2, u32_add2]
  have e3 : rd ((((h.l.map u).set (Int.toNat 0) (u (h.a + v.a))).set (Int.toNat 1) (u (h.b + v.b))).set (Int.toNat 2) (u (h.c + v.c))) 3 = u h.d := rfl
  rw [e3, u32_add2]
  have e4 : rd (((((h.l.map u).set (Int.toNat 0) (u (h.a + v.a))).set (Int.toNat 1) (u (h.b + v.b))).set (Int.toNat 2) (u (h.c + v.c))).set (Int.toNat 3) (u (h.d + v.d))) 4 = u h.e := rfl
  rw [e4, u32_add2]
  rfl
theorem l2_f (h : S5) (R : List UInt8) (at_ : Int) (ws : List UInt32) (wl : ws.length = 16) (hs : List Int) (hh : hs = h.l.map u) (hat : wrap64 (at_ + 64) = at_ + 64) : ∀ (d k i : Nat), i + d = 80 →
    guidepostref04_Sum1.l2 (k + d + 1) hs (mk R) at_ ((sched1 ws 80).map u) (u (st1 h ws i).a) (u (st1 h ws i).b) (u (st1 h ws i).c) (u (st1 h ws i).d) (u (st1 h ws i).e) (i : Int) =
    guidepostref04_Sum1.l0 k ((comp1 h ws).l.map u) (mk R) (at_ + 64) := by
  intro d
  induction d with
  | zero =>
    intro k i hi
    obtain rfl : i = 80 := by omega
    subst hh
    conv => lhs; unfold guidepostref04_Sum1.l2
    rw [if_neg (by omega), hat]
    exact sum5 h _ (fun l => guidepostref04_Sum1.l0 k l (mk R) (at_ + 64))
  | succ d ih =>
    intro k i hi
    rw [show k + (d + 1) + 1 = (k + d + 1) + 1 by omega]
    have hlen : ((sched1 ws 80).map u).length = 80 := by rw [List.length_map, sched1_length]
    have hrd : rd ((sched1 ws 80).map u) (i : Int) = u (w1 ws i) := by rw [rd_map _ _ (by rw [sched1_length]; omega), sched1_get ws i 80 (by omega)]
    have h5 := left_f (st1 h ws i).a 5 (by omega) (by omega)
    have h30 := left_f (st1 h ws i).b 30 (by omega) (by omega)
    rw [show ((5 : Nat) : Int) = 5 by rfl] at h5
    rw [show ((30 : Nat) : Int) = 30 by rfl] at h30
    have i1 : (i : Int) + 1 = ((i + 1 : Nat) : Int) := by omega
    have hst := st1_succ h ws wl i
    have ih' := ih k (i + 1) (by omega)
    rw [hst] at ih'
    dsimp only at ih'
    rw [← ih']
    conv => lhs; unfold guidepostref04_Sum1.l2
    rw [if_pos (by omega)]
    by_cases c1 : i < 20
    · rw [if_pos (by omega), h5, Option.bind_some, if_pos (by omega), hlen, if_pos (by omega), h30, Option.bind_some, hrd, wrap_in (by omega), i1, kall, Dg.u32_xor, Dg.u32_and, Dg.u32_and, Dg.u32_or, ref_round _ _ _ 1518500249 _ _ k1]
      unfold rf rk
      rw [if_pos c1, if_pos c1]
    · rw [if_neg (by omega)]
      by_cases c2 : i < 40
      · rw [if_pos (by omega), h5, Option.bind_some, if_pos (by omega), hlen, if_pos (by omega), h30, Option.bind_some, hrd, wrap_in (by omega), i1, Dg.u32_xor, Dg.u32_xor, ref_round _ _ _ 1859775393 _ _ k2]
        unfold rf rk
        rw [if_neg c1, if_neg c1, if_pos c2, if_pos c2]
      · rw [if_neg (by omega)]
        by_cases c3 : i < 60
        · rw [if_pos (by omega), h5, Option.bind_some, if_pos (by omega), hlen, if_pos (by omega), h30, Option.bind_some, hrd, wrap_in (by omega), i1, Dg.u32_and, Dg.u32_and, Dg.u32_and, Dg.u32_or, Dg.u32_or, ref_round _ _ _ 2400959708 _ _ k3]
          unfold rf rk
          rw [if_neg c1, if_neg c1, if_neg c2, if_neg c2, if_pos c3, if_pos c3]
        · rw [if_neg (by omega), h5, Option.bind_some, if_pos (by omega), hlen, if_pos (by omega), h30, Option.bind_some, hrd, wrap_in (by omega), i1, Dg.u32_xor, Dg.u32_xor, ref_round _ _ _ 3395469782 _ _ k4]
          unfold rf rk
          rw [if_neg c1, if_neg c1, if_neg c2, if_neg c2, if_neg c3, if_neg c3]
theorem l0_f (R : List UInt8) (hR : R.length < 4611686018427387000) : ∀ (m : Nat) (h : S5) (a k : Nat), a + 64 * m = R.length →
    guidepostref04_Sum1.l0 (k + 163 * m + 7) (h.l.map u) (mk R) (a : Int) = some (mk (tellL ((chunks m (R.drop a)).foldl comp1 h).l)) := by
  intro m
  induction m with
  | zero =>
    intro h a k ha
    rw [show k + 163 * 0 + 7 = (k + 6) + 1 by omega]
    unfold guidepostref04_Sum1.l0
    rw [if_neg (by rw [mk_size]; omega), tell_f _ (by simp [S5.l]) _ (by simp [S5.l])]
    rfl
  | succ m ih =>
    intro h a k ha
    rw [show k + 163 * (m + 1) + 7 = (((k + 163 * m + 7) + 80 + 1) + 80 + 1) + 1 by omega]
    unfold guidepostref04_Sum1.l0
    rw [if_pos (by rw [mk_size]; omega), if_pos (by omega)]
    have h1 := l1_f (h.l.map u) R (by omega) a (by omega) rfl 80 ((k + 163 * m + 7) + 80 + 1) 0 (by omega)
    have h2 := l2_f h R (a : Int) (wordsN (R.drop a) 16) (wordsN_length _ _) (h.l.map u) rfl (wrap_in (by omega)) 80 (k + 163 * m + 7) 0 (by omega)
    have h3 := ih (comp1 h (wordsN (R.drop a) 16)) (a + 64) k (by omega)
    rw [show ((a + 64 : Nat) : Int) = (a : Int) + 64 by omega] at h3
    rw [chunks_succ, List.foldl_cons, List.drop_drop, ← h3, ← h2]
    exact h1
theorem refSum1_f (s : ByteArray) (hs : s.size ≤ 140737488351232) (k : Nat) (hk : 163 * ((padL s.data.toList).length / 64) + 7 ≤ k) : guidepostref04_Sum1.f k s = some (mk (sum1L s.data.toList)) := by
  unfold guidepostref04_Sum1.f
  have hp : guidepostref04_padded.f s = some (mk (padL s.data.toList)) := if_pos hs
  rw [hp]
  simp only [Option.bind_some]
  have hl : s.data.toList.length = s.size := by rw [Array.length_toList]; rfl
  have h64 : (padL s.data.toList).length % 64 = 0 := by unfold padL; rw [List.length_append]; exact tailL_length _
  have hb : (padL s.data.toList).length < 4611686018427387000 := by unfold padL tailL; simp; omega
  have := l0_f (padL s.data.toList) hb ((padL s.data.toList).length / 64) h1 0 (k - (163 * ((padL s.data.toList).length / 64) + 7)) (by omega)
  rw [show k - (163 * ((padL s.data.toList).length / 64) + 7) + 163 * ((padL s.data.toList).length / 64) + 7 = k by omega, List.drop_zero] at this
  exact this
theorem DigestOnes : guidepostlaw04_DigestOnes.Pure := by
  intro s hs
  refine ⟨163 * ((padL s.data.toList).length / 64) + 7, ?_⟩
  unfold guidepostlaw04_DigestOnes.f
  have h1 : digest_Sum1.f s = some (mk (sum1L s.data.toList)) := if_pos hs
  rw [examples_f, h1, refSum1_f s hs _ (Nat.le_refl _)]
  simp

end Go.Proofs.Ytndiagcpinmefaa.Pure
