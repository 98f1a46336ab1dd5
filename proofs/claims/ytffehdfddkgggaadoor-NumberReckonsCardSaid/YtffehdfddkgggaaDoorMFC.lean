/- The reference's functions by numbers; its division, plain. -/
import Derived.Test.YtffehdfddkgggaaDoorMEC
namespace Go.Proofs.YtffehdfddkgggaaDoor.Nu
open Go.RowKit Rt
set_option linter.unusedSimpArgs false
set_option linter.unusedVariables false
theorem RCmp_N {w : World} {u v : Value} {p q : Nat} (hu : NumAt w u p) (hv : NumAt w v q) (hp : blen p ≤ 400000) (hq : blen q ≤ 400000) :
    Calls Tryd.prog 22 #[u, v] w fun e w' => e = .returned (.int .i64 (cmpN p q)) ∧ Below w.heap.size w w' := by
  obtain ⟨A, hA, rfl, hsA⟩ := hu
  obtain ⟨C, hC, rfl, hsC⟩ := hv
  have h1 := norm_len hA hp
  have h2 := norm_len hC hq
  exact RCmp_any hsA hsC hA hC (by omega) (by omega)
theorem RMul_N {w : World} {u v : Value} {p q : Nat} (hu : NumAt w u p) (hv : NumAt w v q) (hp : blen p ≤ 400000) (hq : blen q ≤ 400000) :
    Calls Tryd.prog 35 #[u, v] w fun e w' => ∃ r, e = .returned r ∧ NumAt w' r (p * q) ∧ Below w.heap.size w w' := by
  obtain ⟨A, hA, rfl, hsA⟩ := hu
  obtain ⟨C, hC, rfl, hsC⟩ := hv
  have h1 := norm_len hA hp
  have h2 := norm_len hC hq
  exact RMul_any hsA hsC hA.dig hC.dig (by omega) (by omega)
theorem RAdd_N {w : World} {u v : Value} {p q : Nat} (hu : NumAt w u p) (hv : NumAt w v q) (hp : blen p ≤ 400000) (hq : blen q ≤ 400000) :
    Calls Tryd.prog 33 #[u, v] w fun e w' => ∃ r, e = .returned r ∧ NumAt w' r (p + q) ∧ Below w.heap.size w w' := by
  obtain ⟨A, hA, rfl, hsA⟩ := hu
  obtain ⟨C, hC, rfl, hsC⟩ := hv
  have h1 := norm_len hA hp
  have h2 := norm_len hC hq
  exact RAdd_any hsA hsC hA.dig hC.dig (by omega) (by omega)
theorem RSub_N {w : World} {u v : Value} {p q : Nat} (hu : NumAt w u p) (hv : NumAt w v q) (hp : blen p ≤ 400000) (hq : blen q ≤ 400000) (hle : q ≤ p) :
    Calls Tryd.prog 36 #[u, v] w fun e w' => ∃ r, e = .returned r ∧ NumAt w' r (p - q) ∧ Below w.heap.size w w' ∧ Newer w.heap.size r := by
  obtain ⟨A, hA, rfl, hsA⟩ := hu
  obtain ⟨C, hC, rfl, hsC⟩ := hv
  have h1 := norm_len hA hp
  have h2 := norm_len hC hq
  refine RSub_any hsA hsC hA.dig hC.dig (by omega) ?_ hle
  rcases Nat.lt_or_ge A.length C.length with h3 | h3
  · have := norm_len_lt hA hC h3; omega
  · exact h3
theorem RUp_N {w : World} {u : Value} {p : Nat} (hu : NumAt w u p) (hp : blen p ≤ 400000) (s : Nat) (hs : s < 32) :
    Calls Tryd.prog 52 #[u, .int .i64 (s : Int)] w fun e w' => ∃ r, e = .returned r ∧ NumAt w' r (p * 2 ^ s) ∧ Below w.heap.size w w' := by
  obtain ⟨A, hA, rfl, hsA⟩ := hu
  have h1 := norm_len hA hp
  exact RUp_any hsA hA.dig (by omega) s hs
theorem RDown_N {w : World} {u : Value} {p : Nat} (hu : NumAt w u p) (hp : blen p ≤ 400000) (s : Nat) (hs : s < 32) :
    Calls Tryd.prog 54 #[u, .int .i64 (s : Int)] w fun e w' => ∃ r, e = .returned r ∧ NumAt w' r (p / 2 ^ s) ∧ Below w.heap.size w w' := by
  obtain ⟨A, hA, rfl, hsA⟩ := hu
  have h1 := norm_len hA hp
  exact RDown_any hsA hA.dig (by omega) s hs
theorem RMoved_N {w : World} {u : Value} {p : Nat} (hu : NumAt w u p) (hp : blen p ≤ 400000) (d : Nat) (hd : d < Bs) :
    Calls Tryd.prog 53 #[u, .int .u32 (d : Int)] w fun e w' => ∃ r, e = .returned r ∧ NumAt w' r (d + Bs * p) ∧ Below w.heap.size w w' ∧ Newer w.heap.size r := by
  obtain ⟨A, hA, rfl, hsA⟩ := hu
  have h1 := norm_len hA hp
  exact RMoved_any hsA hA.dig (by omega) d hd
theorem RTrim_N {w : World} {g c : Nat} {L : List Nat} (h : RowM w g L) (hd : Dig L) (hl : L.length ≤ 1000000) (hc : c = L.length) :
    Calls Tryd.prog 40 #[.slice (some ⟨g, 0, none⟩) c c] w fun e w' => ∃ r, e = .returned r ∧ NumAt w' r (val L) ∧ w' = w := by
  subst hc
  exact RTrim_row h hd (by omega) (Nat.le_refl _) (by unfold maxLen; omega)
/-! ### the reference's division, plain -/
/-- The first two digits (or the one) of what is left, against the first digit of what it is divided by. -/
theorem top_guess {R vv v1 n top : Nat} (hn : vv < (v1 + 1) * Bs ^ n) (ht : top * Bs ^ n ≤ R) : top / (v1 + 1) * vv ≤ R ∧ top / (v1 + 1) ≤ R / vv ∨ vv = 0 := by
  rcases Nat.eq_zero_or_pos vv with h0 | h0
  · exact .inr h0
  · left
    have h1 : top / (v1 + 1) * vv ≤ R := by
      have a1 : top / (v1 + 1) * vv ≤ top / (v1 + 1) * ((v1 + 1) * Bs ^ n) := Nat.mul_le_mul_left _ (Nat.le_of_lt hn)
      have a2 : top / (v1 + 1) * ((v1 + 1) * Bs ^ n) = (top / (v1 + 1) * (v1 + 1)) * Bs ^ n := by rw [Nat.mul_assoc]
      have a3 : (top / (v1 + 1) * (v1 + 1)) * Bs ^ n ≤ top * Bs ^ n := Nat.mul_le_mul_right _ (Nat.div_mul_le_self _ _)
      omega
    exact ⟨h1, (Nat.le_div_iff_mul_le h0).2 h1⟩
/-- A division under way, the reference's: the digits from k on are done. -/
structure RdvI (av vv k lq : Nat) (Q : List Nat) (rest : Nat) : Prop where
  len : Q.length = lq
  dig : Dig Q
  none : ∀ i, i < k → gd Q i = 0
  q : val Q = Bs ^ k * (av / Bs ^ k / vv)
  r : rest = av / Bs ^ k % vv
theorem RdvI.start {av vv lq : Nat} (hv : 0 < vv) (h : av < Bs ^ lq) : RdvI av vv lq lq (List.replicate lq 0) 0 := by
  have hz : val (List.replicate lq 0) = 0 := by
    unfold val
    rw [dsum_congr (g := fun _ => 0) (fun i _ => gd_zeros _ _)]
    exact dsum_zero (Nat.zero_le _) (fun _ _ => rfl)
  refine ⟨List.length_replicate, dig_zeros _, fun i _ => gd_zeros _ _, ?_, ?_⟩
  · rw [hz, Nat.div_eq_of_lt h, Nat.zero_div, Nat.mul_zero]
  · rw [Nat.div_eq_of_lt h, Nat.zero_mod]
theorem RdvI.high {f : Nat → Nat} (hf : ∀ i, f i < Bs) {k n : Nat} (hk : k < n) : dsum f n / Bs ^ k = dsum f n / Bs ^ (k + 1) * Bs + f k := by
  have h1 := digit_at hf hk
  have h2 : dsum f n / Bs ^ (k + 1) = dsum f n / Bs ^ k / Bs := by rw [Nat.pow_succ, Nat.div_div_eq_div_mul]
  have h3 := Nat.div_add_mod (dsum f n / Bs ^ k) Bs
  rw [h2, ← h1]
  rw [Nat.mul_comm]
  omega
/-- R: what is left, a digit brought down. -/
theorem RdvI.next {av vv k lq R rest a : Nat} {Q : List Nat} (h : RdvI av vv (k + 1) lq Q rest) (hv : 0 < vv) (hk : k < lq) (ha : av / Bs ^ k = av / Bs ^ (k + 1) * Bs + a) (hR : R = a + Bs * rest) (haB : a < Bs) :
    R / vv < Bs ∧ RdvI av vv k lq (Q.set k (R / vv)) (R % vv) := by
  have hr := h.r
  have hlt : rest < vv := by rw [hr]; exact Nat.mod_lt _ hv
  obtain ⟨H, hH⟩ : ∃ H, av / Bs ^ (k + 1) = H := ⟨_, rfl⟩
  have hq := h.q
  rw [hH] at ha hr hq
  have hdm := Nat.div_add_mod H vv
  have hHR : av / Bs ^ k = vv * (H / vv * Bs) + R := by
    rw [ha, hR, hr]
    have : H * Bs = (vv * (H / vv) + H % vv) * Bs := by rw [hdm]
    rw [this]
    grind
  have hqd : R / vv < Bs := by
    apply (Nat.div_lt_iff_lt_mul hv).2
    have : Bs * rest + Bs ≤ Bs * vv := by rw [← Nat.mul_succ]; exact Nat.mul_le_mul_left _ hlt
    omega
  refine ⟨hqd, by rw [List.length_set]; exact h.len, dig_set h.dig hqd, fun i hi => ?_, ?_, ?_⟩
  · rw [gd_set (by rw [h.len]; exact hk), if_neg (by omega)]; exact h.none i (by omega)
  · have hs := val_set (L := Q) (p := k) (v := R / vv) (by rw [h.len]; exact hk)
    rw [h.none k (by omega), Nat.zero_mul, Nat.add_zero] at hs
    rw [hs, hq, hHR, Nat.mul_add_div hv, pw]
    grind
  · rw [hHR, Nat.mul_add_mod]
theorem RdvI.skip {av vv k lq R rest a : Nat} {Q : List Nat} (h : RdvI av vv (k + 1) lq Q rest) (hv : 0 < vv) (hk : k < lq) (ha : av / Bs ^ k = av / Bs ^ (k + 1) * Bs + a) (hR : R = a + Bs * rest) (haB : a < Bs) (hlt : R < vv) :
    RdvI av vv k lq Q R := by
  have h1 := (h.next hv hk ha hR haB).2
  rw [Nat.div_eq_of_lt hlt, Nat.mod_eq_of_lt hlt] at h1
  refine ⟨h.len, h.dig, fun i hi => h.none i (by omega), ?_, h1.r⟩
  rw [← h1.q]
  have hs := val_set (L := Q) (p := k) (v := 0) (by rw [h.len]; exact hk)
  rw [h.none k (by omega)] at hs
  omega
theorem RdvI.done {a b s lq : Nat} {Q : List Nat} {rest : Nat} (h : RdvI (a * 2 ^ s) (b * 2 ^ s) 0 lq Q rest) : val Q = a / b ∧ rest / 2 ^ s = a % b := by
  have hs : 0 < 2 ^ s := Nat.pow_pos (by decide)
  have h1 := h.q
  have h2 := h.r
  rw [Nat.pow_zero, Nat.div_one] at h1 h2
  rw [Nat.one_mul, Nat.mul_div_mul_right _ _ hs] at h1
  rw [Nat.mul_mod_mul_right] at h2
  exact ⟨h1, by rw [h2]; exact Nat.mul_div_cancel _ hs⟩
end Go.Proofs.YtffehdfddkgggaaDoor.Nu

/- The reference's Div. -/
namespace Go.Proofs.YtffehdfddkgggaaDoor.Nu
open Go.RowKit Rt
set_option linter.unusedSimpArgs false
set_option linter.unusedVariables false
theorem blen_mono {n m : Nat} (h : n ≤ m) : blen n ≤ blen m := blen_le.2 (Nat.lt_of_le_of_lt h (blen_lt m))
/-- The memory of the reference's division: what is older lies as it lay; the quotient's row. -/
structure RdM (w1 W : World) (g : Nat) (Q : List Nat) : Prop where
  bel : Below w1.heap.size w1 W
  g1 : w1.heap.size = g
  row : RowM W g Q
theorem RdM.below {w1 W W' : World} {g : Nat} {Q : List Nat} (h : RdM w1 W g Q) (hb : Below W.heap.size W W') : RdM w1 W' g Q :=
  ⟨h.bel.trans (hb.mono h.bel.size), h.g1, h.row.below hb⟩
theorem RdM.nb {w1 W : World} {g : Nat} {Q : List Nat} (h : RdM w1 W g Q) {v : Value} {n : Nat} (hn : NumAt w1 v n) : NumAt W v n := hn.below h.bel
theorem RdM.set {w1 W : World} {g : Nat} {Q : List Nat} (h : RdM w1 W g Q) (j d : Nat) : RdM w1 (W.setCell ⟨g, j, none⟩ (.int .u32 (d : Int))) g (Q.set j d) :=
  ⟨h.bel.setCell (p := ⟨g, j, none⟩) (Nat.le_of_eq h.g1) _, h.g1, h.row.set _ _⟩
set_option maxHeartbeats 8000000 in
set_option maxRecDepth 100000 in
theorem RDiv_N {w : World} {u v : Value} {a b : Nat} (hu : NumAt w u a) (hv : NumAt w v b) (ha : blen a ≤ 300000) (hb : blen b ≤ 300000) (h0 : b ≠ 0) :
    Calls Tryd.prog 37 #[u, v] w fun e w' => ∃ r1 r2, e = .returned (.tuple #[r1, r2]) ∧ NumAt w' r1 (a / b) ∧ NumAt w' r2 (a % b) ∧ Below w.heap.size w w' := by
  obtain ⟨C, hC, hCv, hsC⟩ := id hv
  obtain ⟨ua, ul, uc, rfl⟩ := hu.shape
  obtain ⟨va, vc, rfl, -, -⟩ := id hsC
  have hlen := norm_len hC (by rw [hCv]; exact hb)
  have hc0 : 0 < C.length := by
    rcases Nat.eq_zero_or_pos C.length with e | e
    · rw [List.length_eq_zero_iff.1 e, val_nil] at hCv; exact absurd hCv.symm h0
    · exact e
  have hbl := blen_val hC hc0
  rw [hCv] at hbl
  have htop := hC.top hc0
  have htB := blen_le32 (hC.dig (C.length - 1))
  have ht1 : 1 ≤ blen (gd C (C.length - 1)) := by
    rcases Nat.eq_zero_or_pos (blen (gd C (C.length - 1))) with e | e
    · rw [blen_eq_zero] at e; omega
    · exact e
  obtain ⟨lb, hlb⟩ : ∃ n, C.length = n := ⟨_, rfl⟩
  rw [hlb] at hbl htop htB ht1 hc0 hv hlen ⊢
  obtain ⟨s, hs⟩ : ∃ s, 32 * lb - blen b = s := ⟨_, rfl⟩
  have hs32 : s < 32 := by omega
  have hsi : (32 : Int) * (lb : Int) - (blen b : Int) = (s : Int) := by omega
  have hRb := Lib.hid (hv.rbits (Nat.le_trans hb (by decide)))
  have hUa := Lib.hid (RUp_N hu (Nat.le_trans ha (by decide)) s hs32)
  have hw32 := Nu.wr (x := (32 : Int) * (lb : Int)) (by omega) (by omega)
  obtain ⟨bb, hbb⟩ : ∃ z, blen b = z := ⟨_, rfl⟩
  rw [hbb] at hRb hsi
  have hsw := Nu.wr (x := (s : Int)) (by omega) (by omega)
  have hbp := Nat.pos_of_ne_zero h0
  have hvH := Lib.hid hv
  clear hC hCv hsC hbl htop htB ht1 hlb hs hu hv hbb
  go_enter Tryd.func37, Tryd.ntmps37
  go_wp2_with (go_at_call 18; refine hRb.out.mono ?_; rintro e w2 ⟨rfl, rfl⟩)
  refine hUa.out.mono ?_
  rintro e w0 ⟨r0, rfl, hna, hb0⟩
  obtain ⟨aa, la, ca, rfl⟩ := hna.shape
  have hUb := Lib.hid (RUp_N (hvH.out.below hb0) (Nat.le_trans hb (by decide)) s hs32)
  have hnaH := Lib.hid hna
  have hb0H := Lib.hid hb0
  clear hna hb0 hUa hRb hvH
  go_wp2_with fail
  refine hUb.out.mono ?_
  rintro e w1 ⟨r1, rfl, hnb, hb1⟩
  obtain ⟨ba, n, cb, rfl⟩ := hnb.shape
  have hraH := Lib.hid (hnaH.out.below hb1)
  have hrbH := Lib.hid hnb
  have hE1 := Lib.hid (hb0H.out.trans (hb1.mono hb0H.out.size))
  obtain ⟨av, hav⟩ : ∃ z, a * 2 ^ s = z := ⟨_, rfl⟩
  obtain ⟨vv, hvv⟩ : ∃ z, b * 2 ^ s = z := ⟨_, rfl⟩
  have h2s : (2 : Nat) ^ s < 2 ^ 32 := Nat.pow_lt_pow_right (by decide) hs32
  have h2b : blen (2 ^ s) ≤ 32 := blen_le.2 h2s
  have hvvB : Hid (blen vv ≤ 300050) := Lib.hid (by rw [← hvv]; exact Nat.le_trans (blen_mul _ _) (by omega))
  have havB : Hid (blen av ≤ 300050) := Lib.hid (by rw [← hav]; exact Nat.le_trans (blen_mul _ _) (by omega))
  have hvvH : Hid (0 < vv) := Lib.hid (by rw [← hvv]; exact Nat.mul_pos hbp (Nat.pow_pos (by decide)))
  rw [hav] at hraH
  rw [hvv] at hrbH
  have havH := Lib.hid hav
  have hvvE := Lib.hid hvv
  clear hnb hb1 hnaH hb0H hUb hav hvv h2s h2b
  -- the digits
  obtain ⟨A, hA, hAv, hsA⟩ := id hraH.out
  obtain ⟨V, hV, hVv, hsV⟩ := id hrbH.out
  have hlA := hsA.len
  have hlV := hsV.len
  have hlaB : la ≤ 300051 := by rw [hlA]; exact norm_len hA (by rw [hAv]; exact havB.out)
  have hnB : n ≤ 300051 := by rw [hlV]; exact norm_len hV (by rw [hVv]; exact hvvB.out)
  have hn0 : 0 < n := by
    rcases Nat.eq_zero_or_pos n with e | e
    · rw [e] at hlV
      rw [List.length_eq_zero_iff.1 hlV.symm, val_nil] at hVv
      have := hvvH.out; omega
    · exact e
  obtain ⟨m, hm⟩ : ∃ m, n = m + 1 := ⟨n - 1, by omega⟩
  have hvd : vv = dsum (gd V) m + gd V m * Bs ^ m := by rw [← hVv]; unfold val; rw [← hlV, hm, dsum_succ]
  have hvl := dsum_lt (f := gd V) (i := m) (fun i _ => hV.dig i)
  have hv1B := hV.dig m
  obtain ⟨v1, hv1⟩ : ∃ z, gd V m = z := ⟨_, rfl⟩
  rw [hv1] at hvd hv1B
  have hv1H : Hid (vv < (v1 + 1) * Bs ^ m) := Lib.hid (by rw [Nat.succ_mul]; omega)
  have hvvn : Hid (vv < Bs ^ n) := Lib.hid (by rw [← hVv, hlV]; exact val_lt hV.dig)
  have havn : av < Bs ^ la := by rw [← hAv, hlA]; exact val_lt hA.dig
  have hRI := RdvI.start hvvH.out havn
  simp only [Bs] at hv1B
  have hmk := run_mk w1 la la (Nat.le_refl _) (by omega)
  obtain ⟨g, hg⟩ : ∃ g, w1.heap.size = g := ⟨_, rfl⟩
  have hM := RowM.made w1 la
  rw [hg] at hmk hM
  have hI0 : Hid (RdM w1 (w1.alloc (.cells (encD (List.replicate la 0)) 60)) g (List.replicate la 0)) := Lib.hid ⟨(Below.refl _ _).alloc (Nat.le_refl _) _, hg, hM⟩
  obtain ⟨W1, hW1⟩ : ∃ W, w1.alloc (.cells (encD (List.replicate la 0)) 60) = W := ⟨_, rfl⟩
  rw [hW1] at hmk hI0
  have hlaw := Nu.wr (x := (la : Int) - 1) (by omega) (by omega)
  have hn1 : (n : Int) - 1 = (m : Int) := by omega
  have hn1w := Nu.wr (x := (n : Int) - 1) (by omega) (by omega)
  have hmnl : (m : Int) < (n : Int) := by omega
  have hRIH := Lib.hid hRI
  have hAH := Lib.hid hA
  have hAvH := Lib.hid hAv
  have hsAH := Lib.hid hsA
  have hsVH := Lib.hid hsV
  have hlAH := Lib.hid hlA
  have hlVH := Lib.hid hlV
  have hv1E := Lib.hid hv1
  have hgH := Lib.hid hg
  have hm1 : m < n := by omega
  have hmH := Lib.hid hm
  have hz0 := Lib.hid (NumAt.zero W1)
  have hzn := Lib.hid (Newer.nil (g + 1))
  have hlai : ((la : Int) - 1) = (la : Int) - 1 := rfl
  clear hM hW1 hg hA hAv hsA hV hVv hsV hlA hlV hvd hvl hv1 havn hRI hm hlai
  go_wp2_with fail
  clear hmk
  go_loopw [9, 10] (fun vr vk wr => ∃ (k : Nat) (Q : List Nat) (rest : Nat) (ra : Option Addr) (rl rc : Nat), vr = .slice ra rl rc ∧ vk = .int .i64 ((k : Int) - 1) ∧ k ≤ la ∧ Hid (RdvI av vv k la Q rest) ∧ Hid (RdM w1 wr g Q) ∧ Hid (NumAt wr (.slice ra rl rc) rest) ∧ Hid (Newer (g + 1) (.slice ra rl rc))) (fun _ vk _ => (intOf vk + 1).toNat)
  case atStart => exact ⟨la, _, 0, none, 0, 0, rfl, rfl, Nat.le_refl _, hRIH, hI0, hz0, hzn⟩
  case round =>
    obtain ⟨k, Q, rest, ra, rl, rc, rfl, rfl, hk, hR, hM, hnr, hnew⟩ := hrel
    clear hRIH hI0 hz0 hzn
    by_cases hlt : (0 : Int) ≤ (k : Int) - 1
    · obtain ⟨j, rfl⟩ : ∃ j, k = j + 1 := ⟨k - 1, by omega⟩
      have hj1 : ((j + 1 : Nat) : Int) - 1 = (j : Int) := by omega
      rw [hj1] at hlt ⊢
      have hjl' : j < la := by omega
      have hjl : (j : Int) < la := by omega
      have hjw := Nu.wr (x := (j : Int) - 1) (by omega) (by omega)
      obtain ⟨b2, off, rfl, cA⟩ := hsAH.out.at hM.out.bel (j := j) (by rw [← hlAH.out]; exact hjl')
      have hxB := Lib.hid (hAH.out.dig j)
      have hhigh := RdvI.high (f := gd A) hAH.out.dig hjl'
      rw [show dsum (gd A) la = av from by rw [← hAvH.out, hlAH.out]; rfl] at hhigh
      obtain ⟨x, hx⟩ : ∃ z, gd A j = z := ⟨_, rfl⟩
      rw [hx] at cA hxB hhigh
      replace hhigh := Lib.hid hhigh
      have hrl : rest < vv := by rw [hR.out.r]; exact Nat.mod_lt _ hvvH.out
      obtain ⟨R, hRe0⟩ : ∃ z, x + Bs * rest = z := ⟨_, rfl⟩
      have hRe : Hid (R = x + Bs * rest) := Lib.hid hRe0.symm
      have hRlt : Hid (R < vv * Bs) := Lib.hid (by
        rw [← hRe0]
        have h1 : Bs * rest + Bs ≤ Bs * vv := by rw [← Nat.mul_succ]; exact Nat.mul_le_mul_left _ hrl
        rw [Nat.mul_comm vv]
        have := hxB.out; omega)
      have hRBl : Hid (blen R ≤ 400000) := Lib.hid (by
        have h1 := blen_mono (Nat.le_of_lt hRlt.out)
        have h2 := blen_mul vv Bs
        have h3 : blen Bs = 33 := by decide
        have := hvvB.out
        omega)
      have hRB := Lib.hid (hR.out.next hvvH.out hjl' hhigh.out hRe.out hxB.out).1
      have hrB : blen rest ≤ 400000 := Nat.le_trans (blen_mono (Nat.le_of_lt hrl)) (Nat.le_trans hvvB.out (by decide))
      have hMv := RMoved_N hnr.out hrB x hxB.out
      rw [hRe0] at hMv
      have hMvH := Lib.hid hMv
      clear hMv hx hRe0
      go_wp2_with fail
      refine hMvH.out.mono ?_
      rintro e w2 ⟨rt, rfl, hnt, hb2, hnw⟩
      obtain ⟨tA, l, tc, rfl⟩ := hnt.shape
      have hg2 : g + 1 ≤ wr.heap.size := hM.out.row.lt
      have hmem2 := Lib.hid (hM.out.below hb2)
      have hn2 := Lib.hid hnt
      have hnew3 := Lib.hid (hnw.mono hg2)
      have hCm := RCmp_N hnt (hmem2.out.nb hrbH.out) hRBl.out (Nat.le_trans hvvB.out (by decide))
      obtain ⟨cv, hcv⟩ : ∃ z, cmpN R vv = z := ⟨_, rfl⟩
      rw [hcv] at hCm
      have hCmH := Lib.hid hCm
      clear hnt hb2 hnw hg2 hM hnr hnew hMvH hCm cA
      by_cases hRv : R < vv
      · have hcv0 : cv < 0 := by rw [← hcv]; unfold cmpN; rw [if_pos hRv]; decide
        have hskip := Lib.hid (hR.out.skip hvvH.out hjl' hhigh.out hRe.out hxB.out hRv)
        clear hcv
        go_wp2_with (go_at_call 22; refine hCmH.out.mono ?_; rintro e w3 ⟨rfl, hb3⟩; have hmem := Lib.hid (hmem2.out.below hb3); have hn3 := Lib.hid (hn2.out.below hb3); clear hb3)
        go_roundw
        case rel => exact ⟨j, _, R, tA, l, tc, rfl, by first | rfl | go_num, by omega, hskip, hmem, hn3, hnew3⟩
        case measure => first | (simp [intOf]; done) | (simp [intOf]; omega)
      · have hcv0 : ¬ cv < 0 := by rw [← hcv]; unfold cmpN; rw [if_neg hRv]; split <;> decide
        clear hcv
        go_upto_region 12 with (go_at_call 22; refine hCmH.out.mono ?_; rintro e w3 ⟨rfl, hb3⟩; have hmem := Lib.hid (hmem2.out.below hb3); have hn3 := Lib.hid (hn2.out.below hb3); clear hb3)
        obtain ⟨T, hT, hTv, hsT⟩ := id hn3.out
        have hlT := hsT.len
        have hTl : n ≤ l ∧ l ≤ n + 1 := by
          refine ⟨?_, ?_⟩
          · rcases Nat.lt_or_ge l n with h | h
            · have h1 := val_lt hT.dig
              rw [hTv, ← hlT] at h1
              obtain ⟨V', hV', hVv', hsV'⟩ := id hrbH.out
              have h2 := norm_ge hV' (by rw [← hsV'.len]; exact hn0)
              rw [hVv', ← hsV'.len] at h2
              have h3 := Nat.pow_le_pow_right (n := Bs) (by decide) (show l ≤ n - 1 by omega)
              omega
            · exact h
          · rcases Nat.lt_or_ge (n + 1) l with h | h
            · have h1 := norm_ge hT (by rw [← hlT]; omega)
              rw [hTv, ← hlT] at h1
              have h3 := Nat.pow_le_pow_right (n := Bs) (by decide) (show n + 1 ≤ l - 1 by omega)
              have h4 : vv * Bs < Bs ^ (n + 1) := by rw [Nat.pow_succ]; exact Nat.mul_lt_mul_of_pos_right hvvn.out (by decide)
              have := hRlt.out
              omega
            · exact h
        have hl0 : 0 < l := by omega
        obtain ⟨tb, toff, rfl, cT1⟩ := hsT.at (Below.refl _ _) (j := l - 1) (by rw [← hlT]; omega)
        obtain ⟨tb', toff', hte, cT2⟩ := hsT.at (Below.refl _ _) (j := l - 2) (by rw [← hlT]; omega)
        cases hte
        obtain ⟨vb, voff, rfl, cV⟩ := hsVH.out.at hmem.out.bel (j := m) (by rw [← hlVH.out]; exact hm1)
        rw [hv1E.out] at cV
        have hRd : R = dsum (gd T) l := by rw [← hTv]; unfold val; rw [hlT]
        have hT1B := hT.dig (l - 1)
        have hT2B := hT.dig (l - 2)
        obtain ⟨l1, hl1e⟩ : ∃ z, l - 1 = z := ⟨_, rfl⟩
        obtain ⟨l2, hl2e⟩ : ∃ z, l - 2 = z := ⟨_, rfl⟩
        rw [hl1e] at cT1 hT1B
        rw [hl2e] at cT2 hT2B
        have hl1 : (l : Int) - 1 = (l1 : Int) := by omega
        have hl1w := Nu.wr (x := (l : Int) - 1) (by omega) (by omega)
        have hl1w2 := Nu.wr (x := (l1 : Int)) (by omega) (by omega)
        have hl1l : (l1 : Int) < (l : Int) := by omega
        have hv1w := Nu.wr64 (x := (v1 : Int)) (by omega) (by omega)
        by_cases hln : (n : Int) < (l : Int)
        · have hle : l = m + 2 := by have := hmH.out; omega
          have hl2 : (l : Int) - 2 = (l2 : Int) := by omega
          have hl2w := Nu.wr (x := (l : Int) - 2) (by omega) (by omega)
          have hl2w2 := Nu.wr (x := (l2 : Int)) (by omega) (by omega)
          have hl2l : (l2 : Int) < (l : Int) := by omega
          have htop : (gd T l1 * Bs + gd T l2) * Bs ^ m ≤ R := by
            rw [hRd, hle, show l1 = m + 1 by omega, show l2 = m by omega, dsum_succ, dsum_succ, pw, Nat.add_mul, Nat.mul_assoc]
            exact Nat.le_trans (Nat.le_of_eq (Nat.add_comm _ _)) (Nat.add_le_add_right (Nat.le_add_left _ _) _)
          obtain ⟨t1, ht1⟩ : ∃ z, gd T l1 = z := ⟨_, rfl⟩
          obtain ⟨t2, ht2⟩ : ∃ z, gd T l2 = z := ⟨_, rfl⟩
          rw [ht1] at cT1 hT1B htop
          rw [ht2] at cT2 hT2B htop
          simp only [Bs] at hT1B hT2B
          have ht1w := Nu.wr64 (x := (t1 : Int)) (by omega) (by omega)
          have ht2w := Nu.wr64 (x := (t2 : Int)) (by omega) (by omega)
          have ht3w := Nu.wr64 (x := (t1 : Int) * 4294967296) (by omega) (by omega)
          have ht4w := Nu.wr64 (x := (t1 : Int) * 4294967296 + (t2 : Int)) (by omega) (by omega)
          have htpi : (t1 : Int) * 4294967296 + (t2 : Int) = ((t1 * Bs + t2 : Nat) : Int) := by simp only [Bs]; omega
          have htpB : t1 * Bs + t2 < 18446744073709551616 := by simp only [Bs]; omega
          obtain ⟨top, htp⟩ : ∃ z, t1 * Bs + t2 = z := ⟨_, rfl⟩
          rw [htp] at htpi htpB htop
          clear hT hTv hsT hlT hTl hRd ht1 ht2 hle htp hmem2 hn2 hCmH hl1e hl2e
          go_upto_region 15 with (fail)
          have hq15 : Hid (top / (v1 + 1) * vv ≤ R ∧ top / (v1 + 1) ≤ R / vv) := Lib.hid (by
            rcases top_guess (n := m) hv1H.out htop with h | h
            · exact h
            · exact absurd h (Nat.ne_of_gt hvvH.out))
          obtain ⟨d0, hd0⟩ : ∃ z, top / (v1 + 1) = z := ⟨_, rfl⟩
          rw [hd0] at hq15
          have hd0B : d0 < 4294967296 := by have h1 := hq15.out.2; have h2 := hRB.out; simp only [Bs] at h2; omega
          have htq : Int.tdiv (top : Int) ((v1 : Int) + 1) = (d0 : Int) := by rw [← hd0]; exact (Int.ofNat_tdiv top (v1 + 1)).symm
          have htq2 : (top : Int) / ((v1 : Int) + 1) = (d0 : Int) := by rw [← hd0]; rfl
          have hd0w := Nu.wr64 (x := (d0 : Int)) (by omega) (by omega)
          have hv1w1 := Nu.wr64 (x := (v1 : Int) + 1) (by omega) (by omega)
          have hv1ne : ¬ (v1 : Int) + 1 = 0 := by omega
          have hdm : Int.tmod (d0 : Int) 4294967296 = (d0 : Int) := by rw [show Int.tmod (d0 : Int) 4294967296 = ((d0 % Bs : Nat) : Int) from (Int.ofNat_tmod d0 Bs).symm, Nat.mod_eq_of_lt hd0B]
          have hdq : Int.tdiv (d0 : Int) 4294967296 = 0 := by rw [show Int.tdiv (d0 : Int) 4294967296 = ((d0 / Bs : Nat) : Int) from (Int.ofNat_tdiv d0 Bs).symm, Nat.div_eq_of_lt hd0B]; rfl
          have hdm2 : (d0 : Int) % 4294967296 = (d0 : Int) := by omega
          have hdq2 : (d0 : Int) / 4294967296 = 0 := by omega
          clear hd0 htop
          go_wp2_with fail
          have hrow2 : RowM (w3.alloc (.cells #[.int .u32 (d0 : Int), .int .u32 0] 60)) w3.heap.size [d0, 0] := World.alloc_heap_new _ _
          have hval2 : val [d0, 0] = d0 := by unfold val; simp [dsum, gd]
          have hdig2 : Dig [d0, 0] := fun i => by
            match i with
            | 0 => exact hd0B
            | 1 => exact (show (0 : Nat) < Bs from by decide)
            | i + 2 => unfold gd; simp
          have hb4 : Below w3.heap.size w3 (w3.alloc (.cells #[.int .u32 (d0 : Int), .int .u32 0] 60)) := (Below.refl _ _).alloc (Nat.le_refl _) _
          have hTr := RTrim_N hrow2 hdig2 (by simp) (show 2 = [d0, 0].length from rfl)
          rw [hval2] at hTr
          have hmem4 := Lib.hid (hmem.out.below hb4)
          have hn4 := Lib.hid (hn3.out.below hb4)
          have hnew4 : Newer (g + 1) (.slice (some ⟨tb, toff, none⟩) l tc) := hnew3.out
          have hnew4H := Lib.hid hnew4
          have hTrH := Lib.hid hTr
          clear hrow2 hval2 hdig2 hb4 hTr hnew4 cT1 cT2 cV
          obtain ⟨w4, hw4⟩ : ∃ W, w3.alloc (.cells #[.int .u32 (d0 : Int), .int .u32 0] 60) = W := ⟨_, rfl⟩
          rw [hw4] at hmem4 hn4 hTrH ⊢
          clear hw4
          refine hTrH.out.mono ?_
          rintro e w5 ⟨rt, rfl, hnt, rfl⟩
          obtain ⟨rta, rtl, rtc, rfl⟩ := hnt.shape
          have hMl := Lib.hid (RMul_N (hmem4.out.nb hrbH.out) hnt (Nat.le_trans hvvB.out (by decide)) (Nat.le_trans (blen_le.2 (show d0 < 2 ^ 32 from hd0B)) (by decide)))
          clear hnt hTrH
          go_wp2_with fail
          refine hMl.out.mono ?_
          rintro e w6 ⟨rm, rfl, hnm, hb6⟩
          obtain ⟨rma, rml, rmc, rfl⟩ := hnm.shape
          have hmem6 := Lib.hid (hmem4.out.below hb6)
          rw [Nat.mul_comm] at hnm
          have hSb := Lib.hid (RSub_N (hn4.out.below hb6) hnm hRBl.out (Nat.le_trans (blen_mono hq15.out.1) hRBl.out) hq15.out.1)
          have hg6 : g + 1 ≤ w6.heap.size := hmem6.out.row.lt
          clear hnm hb6 hMl hmem4 hn4
          go_wp2_with fail
          refine hSb.out.mono ?_
          rintro e w7 ⟨rs, rfl, hns, hb7, hnws⟩
          obtain ⟨rsa, rsl, rsc, rfl⟩ := hns.shape
          have hmem7 := Lib.hid (hmem6.out.below hb7)
          have hnwsH := Lib.hid (hnws.mono hg6)
          have hnsH := Lib.hid hns
          have hq15H : Hid (d0 * vv + (R - d0 * vv) = R) := Lib.hid (by have := hq15.out.1; omega)
          clear hns hb7 hnws hg6 hSb hmem6
          go_wp2_with fail
          go_loopw [9, 12] (fun vr vd wx => ∃ (d r2 : Nat) (ra : Option Addr) (rl rc : Nat), vr = .slice ra rl rc ∧ vd = .int .u64 (d : Int) ∧ Hid (d * vv + r2 = R) ∧ Hid (RdM w1 wx g Q) ∧ Hid (NumAt wx (.slice ra rl rc) r2) ∧ Hid (Newer (g + 1) (.slice ra rl rc))) (fun _ vd _ => R / vv - (intOf vd).toNat)
          case atStart => exact ⟨d0, R - d0 * vv, _, _, _, rfl, rfl, hq15H, hmem7, hnsH, hnwsH⟩
          case round =>
            obtain ⟨d, r2, ra, rl, rc, rfl, rfl, hdr, hmem8, hn8, hnew8⟩ := hrel
            clear hnsH hnwsH hmem7
            have hr2B : blen r2 ≤ 400000 := Nat.le_trans (blen_mono (show r2 ≤ R by have := hdr.out; omega)) hRBl.out
            have hCm2 := RCmp_N hn8.out (hmem8.out.nb hrbH.out) hr2B (Nat.le_trans hvvB.out (by decide))
            obtain ⟨cv2, hcv2⟩ : ∃ z, cmpN r2 vv = z := ⟨_, rfl⟩
            rw [hcv2] at hCm2
            have hCm2H := Lib.hid hCm2
            have hdq : d ≤ R / vv := (Nat.le_div_iff_mul_le hvvH.out).2 (by have := hdr.out; omega)
            have hdB : d < 4294967296 := by have h2 := hRB.out; simp only [Bs] at h2; omega
            clear hCm2
            by_cases hge : vv ≤ r2
            · have hcv0 : (0 : Int) ≤ cv2 := by rw [← hcv2]; unfold cmpN; rw [if_neg (by omega)]; split <;> decide
              have hd1 : (d + 1) * vv ≤ R := by rw [Nat.succ_mul]; have := hdr.out; omega
              have hdq1 : d + 1 ≤ R / vv := (Nat.le_div_iff_mul_le hvvH.out).2 hd1
              have hdw := Nu.wr64 (x := (d : Int) + 1) (by omega) (by omega)
              have hdr2 : Hid ((d + 1) * vv + (r2 - vv) = R) := Lib.hid (by rw [Nat.succ_mul]; have := hdr.out; omega)
              clear hcv2 hd1
              go_wp2_with fail
              refine hCm2H.out.mono ?_
              rintro e w9 ⟨rfl, hb9⟩
              have hmem9 := Lib.hid (hmem8.out.below hb9)
              have hSb2 := Lib.hid (RSub_N (hn8.out.below hb9) (hmem9.out.nb hrbH.out) hr2B (Nat.le_trans hvvB.out (by decide)) hge)
              have hg9 : g + 1 ≤ w9.heap.size := hmem9.out.row.lt
              clear hb9 hmem8 hn8 hnew8 hCm2H
              go_wp2_with fail
              refine hSb2.out.mono ?_
              rintro e wa ⟨rz, rfl, hnz, hbz, hnwz⟩
              obtain ⟨rza, rzl, rzc, rfl⟩ := hnz.shape
              have hmema := Lib.hid (hmem9.out.below hbz)
              have hnzH := Lib.hid hnz
              have hnwzH := Lib.hid (hnwz.mono hg9)
              clear hnz hbz hnwz hg9 hSb2 hmem9
              go_wp2_with fail
              go_roundw
              case rel => exact ⟨d + 1, r2 - vv, _, _, _, rfl, by first | rfl | go_num, hdr2, hmema, hnzH, hnwzH⟩
              case measure => first | (simp [intOf]; done) | (simp [intOf]; omega)
            · have hcv0 : ¬ (0 : Int) ≤ cv2 := by rw [← hcv2]; unfold cmpN; rw [if_pos (by omega)]; decide
              have hde : R / vv = d := by
                apply Nat.div_eq_of_lt_le
                · have := hdr.out; omega
                · rw [Nat.succ_mul]; have := hdr.out; omega
              have hre : R % vv = r2 := by
                have h1 := Nat.div_add_mod R vv
                rw [hde, Nat.mul_comm] at h1
                have := hdr.out
                omega
              have hnext := (hR.out.next hvvH.out hjl' hhigh.out hRe.out hxB.out).2
              rw [hde, hre] at hnext
              have hnextH := Lib.hid hnext
              have hdm3 : (d : Int) % 4294967296 = (d : Int) := by omega
              have hd32 := Nu.wr32 (x := (d : Int)) (by omega) (by omega)
              clear hcv2 hnext hde hre
              go_upto_region 20 with (go_at_call 22; refine hCm2H.out.mono ?_; rintro e w9 ⟨rfl, hb9⟩; have hmem9 := Lib.hid (hmem8.out.below hb9); have hn9 := Lib.hid (hn8.out.below hb9); clear hb9 hmem8 hn8 hCm2H)
              have cQ := hmem9.out.row.cell j (by rw [hR.out.len]; exact hjl')
              have fQ := hmem9.out.row.frozen j
              have hmemF := Lib.hid (hmem9.out.set j d)
              have hnF : Hid (NumAt (w9.setCell ⟨g, j, none⟩ (.int .u32 (d : Int))) (.slice ra rl rc) r2) := Lib.hid (hn9.out.other (p := ⟨g, j, none⟩) _ (by intro a m c e; cases e; have := hnew8.out _ _ _ rfl; show _ ≠ g; omega))
              clear hmem9 hn9
              go_wp2_with fail
              go_roundw
              case rel => exact ⟨j, _, r2, ra, rl, rc, rfl, by first | rfl | go_num, by omega, hnextH, hmemF, hnF, hnew8⟩
              case measure => first | (simp [intOf]; done) | (simp [intOf]; omega)
        · have hle : l = m + 1 := by have := hmH.out; omega
          have htop : gd T l1 * Bs ^ m ≤ R := by
            rw [hRd, hle, show l1 = m by omega, dsum_succ]
            exact Nat.le_add_left _ _
          obtain ⟨top, ht1⟩ : ∃ z, gd T l1 = z := ⟨_, rfl⟩
          rw [ht1] at cT1 hT1B htop
          simp only [Bs] at hT1B
          have ht1w := Nu.wr64 (x := (top : Int)) (by omega) (by omega)
          clear hT hTv hsT hlT hTl hRd ht1 hle hmem2 hn2 hCmH hl1e hl2e
          go_upto_region 15 with (fail)
          have hq15 : Hid (top / (v1 + 1) * vv ≤ R ∧ top / (v1 + 1) ≤ R / vv) := Lib.hid (by
            rcases top_guess (n := m) hv1H.out htop with h | h
            · exact h
            · exact absurd h (Nat.ne_of_gt hvvH.out))
          obtain ⟨d0, hd0⟩ : ∃ z, top / (v1 + 1) = z := ⟨_, rfl⟩
          rw [hd0] at hq15
          have hd0B : d0 < 4294967296 := by have h1 := hq15.out.2; have h2 := hRB.out; simp only [Bs] at h2; omega
          have htq : Int.tdiv (top : Int) ((v1 : Int) + 1) = (d0 : Int) := by rw [← hd0]; exact (Int.ofNat_tdiv top (v1 + 1)).symm
          have htq2 : (top : Int) / ((v1 : Int) + 1) = (d0 : Int) := by rw [← hd0]; rfl
          have hd0w := Nu.wr64 (x := (d0 : Int)) (by omega) (by omega)
          have hv1w1 := Nu.wr64 (x := (v1 : Int) + 1) (by omega) (by omega)
          have hv1ne : ¬ (v1 : Int) + 1 = 0 := by omega
          have hdm : Int.tmod (d0 : Int) 4294967296 = (d0 : Int) := by rw [show Int.tmod (d0 : Int) 4294967296 = ((d0 % Bs : Nat) : Int) from (Int.ofNat_tmod d0 Bs).symm, Nat.mod_eq_of_lt hd0B]
          have hdq : Int.tdiv (d0 : Int) 4294967296 = 0 := by rw [show Int.tdiv (d0 : Int) 4294967296 = ((d0 / Bs : Nat) : Int) from (Int.ofNat_tdiv d0 Bs).symm, Nat.div_eq_of_lt hd0B]; rfl
          have hdm2 : (d0 : Int) % 4294967296 = (d0 : Int) := by omega
          have hdq2 : (d0 : Int) / 4294967296 = 0 := by omega
          clear hd0 htop
          go_wp2_with fail
          have hrow2 : RowM (w3.alloc (.cells #[.int .u32 (d0 : Int), .int .u32 0] 60)) w3.heap.size [d0, 0] := World.alloc_heap_new _ _
          have hval2 : val [d0, 0] = d0 := by unfold val; simp [dsum, gd]
          have hdig2 : Dig [d0, 0] := fun i => by
            match i with
            | 0 => exact hd0B
            | 1 => exact (show (0 : Nat) < Bs from by decide)
            | i + 2 => unfold gd; simp
          have hb4 : Below w3.heap.size w3 (w3.alloc (.cells #[.int .u32 (d0 : Int), .int .u32 0] 60)) := (Below.refl _ _).alloc (Nat.le_refl _) _
          have hTr := RTrim_N hrow2 hdig2 (by simp) (show 2 = [d0, 0].length from rfl)
          rw [hval2] at hTr
          have hmem4 := Lib.hid (hmem.out.below hb4)
          have hn4 := Lib.hid (hn3.out.below hb4)
          have hnew4 : Newer (g + 1) (.slice (some ⟨tb, toff, none⟩) l tc) := hnew3.out
          have hnew4H := Lib.hid hnew4
          have hTrH := Lib.hid hTr
          clear hrow2 hval2 hdig2 hb4 hTr hnew4 cT1 cT2 cV
          obtain ⟨w4, hw4⟩ : ∃ W, w3.alloc (.cells #[.int .u32 (d0 : Int), .int .u32 0] 60) = W := ⟨_, rfl⟩
          rw [hw4] at hmem4 hn4 hTrH ⊢
          clear hw4
          refine hTrH.out.mono ?_
          rintro e w5 ⟨rt, rfl, hnt, rfl⟩
          obtain ⟨rta, rtl, rtc, rfl⟩ := hnt.shape
          have hMl := Lib.hid (RMul_N (hmem4.out.nb hrbH.out) hnt (Nat.le_trans hvvB.out (by decide)) (Nat.le_trans (blen_le.2 (show d0 < 2 ^ 32 from hd0B)) (by decide)))
          clear hnt hTrH
          go_wp2_with fail
          refine hMl.out.mono ?_
          rintro e w6 ⟨rm, rfl, hnm, hb6⟩
          obtain ⟨rma, rml, rmc, rfl⟩ := hnm.shape
          have hmem6 := Lib.hid (hmem4.out.below hb6)
          rw [Nat.mul_comm] at hnm
          have hSb := Lib.hid (RSub_N (hn4.out.below hb6) hnm hRBl.out (Nat.le_trans (blen_mono hq15.out.1) hRBl.out) hq15.out.1)
          have hg6 : g + 1 ≤ w6.heap.size := hmem6.out.row.lt
          clear hnm hb6 hMl hmem4 hn4
          go_wp2_with fail
          refine hSb.out.mono ?_
          rintro e w7 ⟨rs, rfl, hns, hb7, hnws⟩
          obtain ⟨rsa, rsl, rsc, rfl⟩ := hns.shape
          have hmem7 := Lib.hid (hmem6.out.below hb7)
          have hnwsH := Lib.hid (hnws.mono hg6)
          have hnsH := Lib.hid hns
          have hq15H : Hid (d0 * vv + (R - d0 * vv) = R) := Lib.hid (by have := hq15.out.1; omega)
          clear hns hb7 hnws hg6 hSb hmem6
          go_wp2_with fail
          go_loopw [9, 12] (fun vr vd wx => ∃ (d r2 : Nat) (ra : Option Addr) (rl rc : Nat), vr = .slice ra rl rc ∧ vd = .int .u64 (d : Int) ∧ Hid (d * vv + r2 = R) ∧ Hid (RdM w1 wx g Q) ∧ Hid (NumAt wx (.slice ra rl rc) r2) ∧ Hid (Newer (g + 1) (.slice ra rl rc))) (fun _ vd _ => R / vv - (intOf vd).toNat)
          case atStart => exact ⟨d0, R - d0 * vv, _, _, _, rfl, rfl, hq15H, hmem7, hnsH, hnwsH⟩
          case round =>
            obtain ⟨d, r2, ra, rl, rc, rfl, rfl, hdr, hmem8, hn8, hnew8⟩ := hrel
            clear hnsH hnwsH hmem7
            have hr2B : blen r2 ≤ 400000 := Nat.le_trans (blen_mono (show r2 ≤ R by have := hdr.out; omega)) hRBl.out
            have hCm2 := RCmp_N hn8.out (hmem8.out.nb hrbH.out) hr2B (Nat.le_trans hvvB.out (by decide))
            obtain ⟨cv2, hcv2⟩ : ∃ z, cmpN r2 vv = z := ⟨_, rfl⟩
            rw [hcv2] at hCm2
            have hCm2H := Lib.hid hCm2
            have hdq : d ≤ R / vv := (Nat.le_div_iff_mul_le hvvH.out).2 (by have := hdr.out; omega)
            have hdB : d < 4294967296 := by have h2 := hRB.out; simp only [Bs] at h2; omega
            clear hCm2
            by_cases hge : vv ≤ r2
            · have hcv0 : (0 : Int) ≤ cv2 := by rw [← hcv2]; unfold cmpN; rw [if_neg (by omega)]; split <;> decide
              have hd1 : (d + 1) * vv ≤ R := by rw [Nat.succ_mul]; have := hdr.out; omega
              have hdq1 : d + 1 ≤ R / vv := (Nat.le_div_iff_mul_le hvvH.out).2 hd1
              have hdw := Nu.wr64 (x := (d : Int) + 1) (by omega) (by omega)
              have hdr2 : Hid ((d + 1) * vv + (r2 - vv) = R) := Lib.hid (by rw [Nat.succ_mul]; have := hdr.out; omega)
              clear hcv2 hd1
              go_wp2_with fail
              refine hCm2H.out.mono ?_
              rintro e w9 ⟨rfl, hb9⟩
              have hmem9 := Lib.hid (hmem8.out.below hb9)
              have hSb2 := Lib.hid (RSub_N (hn8.out.below hb9) (hmem9.out.nb hrbH.out) hr2B (Nat.le_trans hvvB.out (by decide)) hge)
              have hg9 : g + 1 ≤ w9.heap.size := hmem9.out.row.lt
              clear hb9 hmem8 hn8 hnew8 hCm2H
              go_wp2_with fail
              refine hSb2.out.mono ?_
              rintro e wa ⟨rz, rfl, hnz, hbz, hnwz⟩
              obtain ⟨rza, rzl, rzc, rfl⟩ := hnz.shape
              have hmema := Lib.hid (hmem9.out.below hbz)
              have hnzH := Lib.hid hnz
              have hnwzH := Lib.hid (hnwz.mono hg9)
              clear hnz hbz hnwz hg9 hSb2 hmem9
              go_wp2_with fail
              go_roundw
              case rel => exact ⟨d + 1, r2 - vv, _, _, _, rfl, by first | rfl | go_num, hdr2, hmema, hnzH, hnwzH⟩
              case measure => first | (simp [intOf]; done) | (simp [intOf]; omega)
            · have hcv0 : ¬ (0 : Int) ≤ cv2 := by rw [← hcv2]; unfold cmpN; rw [if_pos (by omega)]; decide
              have hde : R / vv = d := by
                apply Nat.div_eq_of_lt_le
                · have := hdr.out; omega
                · rw [Nat.succ_mul]; have := hdr.out; omega
              have hre : R % vv = r2 := by
                have h1 := Nat.div_add_mod R vv
                rw [hde, Nat.mul_comm] at h1
                have := hdr.out
                omega
              have hnext := (hR.out.next hvvH.out hjl' hhigh.out hRe.out hxB.out).2
              rw [hde, hre] at hnext
              have hnextH := Lib.hid hnext
              have hdm3 : (d : Int) % 4294967296 = (d : Int) := by omega
              have hd32 := Nu.wr32 (x := (d : Int)) (by omega) (by omega)
              clear hcv2 hnext hde hre
              go_upto_region 20 with (go_at_call 22; refine hCm2H.out.mono ?_; rintro e w9 ⟨rfl, hb9⟩; have hmem9 := Lib.hid (hmem8.out.below hb9); have hn9 := Lib.hid (hn8.out.below hb9); clear hb9 hmem8 hn8 hCm2H)
              have cQ := hmem9.out.row.cell j (by rw [hR.out.len]; exact hjl')
              have fQ := hmem9.out.row.frozen j
              have hmemF := Lib.hid (hmem9.out.set j d)
              have hnF : Hid (NumAt (w9.setCell ⟨g, j, none⟩ (.int .u32 (d : Int))) (.slice ra rl rc) r2) := Lib.hid (hn9.out.other (p := ⟨g, j, none⟩) _ (by intro a m c e; cases e; have := hnew8.out _ _ _ rfl; show _ ≠ g; omega))
              clear hmem9 hn9
              go_wp2_with fail
              go_roundw
              case rel => exact ⟨j, _, r2, ra, rl, rc, rfl, by first | rfl | go_num, by omega, hnextH, hmemF, hnF, hnew8⟩
              case measure => first | (simp [intOf]; done) | (simp [intOf]; omega)
    · have hk0 : k = 0 := by omega
      subst hk0
      have hd := hR.out
      rw [← havH.out, ← hvvE.out] at hd
      obtain ⟨e1, e2⟩ := hd.done
      have hTr := RTrim_N hM.out.row hR.out.dig (by rw [hR.out.len]; omega) hR.out.len.symm
      rw [e1] at hTr
      have hTrH := Lib.hid hTr
      have hrl : rest < vv := by rw [hR.out.r]; exact Nat.mod_lt _ hvvH.out
      have hDn := RDown_N hnr.out (Nat.le_trans (blen_mono (Nat.le_of_lt hrl)) (Nat.le_trans hvvB.out (by decide))) s hs32
      rw [e2] at hDn
      have hDnH := Lib.hid hDn
      have hEF := Lib.hid (hE1.out.trans (hM.out.bel.mono hE1.out.size))
      clear hd e1 e2 hTr hDn
      go_wp2_with fail
      refine hTrH.out.mono ?_
      rintro e w3 ⟨q1, rfl, hq1, rfl⟩
      obtain ⟨q1a, q1l, q1c, rfl⟩ := hq1.shape
      have hq1H := Lib.hid hq1
      clear hq1 hTrH
      go_wp2_with fail
      refine hDnH.out.mono ?_
      rintro e w4 ⟨q2, rfl, hq2, hb4⟩
      obtain ⟨q2a, q2l, q2c, rfl⟩ := hq2.shape
      have hq1F := Lib.hid (hq1H.out.below hb4)
      have hq2F := Lib.hid hq2
      have hE4 := Lib.hid (hEF.out.trans (hb4.mono hEF.out.size))
      clear hq2 hb4 hDnH hq1H
      go_wp2_with fail
      refine bodyPost_ret (v := .tuple #[.slice q1a q1l q1c, .slice q2a q2l q2c]) (by simp [results, Tryd.results37, go_sem]) rfl ⟨_, _, rfl, hq1F.out, hq2F.out, hE4.out⟩
end Go.Proofs.YtffehdfddkgggaaDoor.Nu

/- The reference's Pow. -/
namespace Go.Proofs.YtffehdfddkgggaaDoor.Nu
open Go.RowKit Rt
set_option linter.unusedSimpArgs false
set_option linter.unusedVariables false
theorem one_N (w : World) : NumAt (w.alloc (.cells #[.int .u32 1] 60)) (.slice (some ⟨w.heap.size, 0, none⟩) 1 1) 1 := by
  have h : RowM (w.alloc (.cells #[.int .u32 1] 60)) w.heap.size [1] := World.alloc_heap_new _ _
  have hs := h.sl (k := 1) (c := 1) (Nat.le_refl _) (Nat.le_refl _)
  refine ⟨[1], ⟨fun i => ?_, fun _ => ?_⟩, by unfold val; simp [dsum, gd], hs⟩
  · match i with
    | 0 => exact (show (1 : Nat) < Bs from by decide)
    | i + 1 => unfold gd; simp
  · show 0 < gd [1] 0
    decide
set_option maxHeartbeats 8000000 in
set_option maxRecDepth 100000 in
theorem RPow_N {w : World} {u v x : Value} {a e m : Nat} (hu : NumAt w u a) (hv : NumAt w v e) (hx : NumAt w x m) (haB : blen a ≤ 300000) (heB : blen e ≤ 300000) (hm0 : m ≠ 0) (hmB : blen m ≤ 100000) :
    Calls Tryd.prog 25 #[u, v, x] w fun f w' => ∃ r, f = .returned r ∧ NumAt w' r (a ^ e % m) ∧ Below w.heap.size w w' := by
  obtain ⟨ua, ul, uc, rfl⟩ := hu.shape
  obtain ⟨ea, el, ec, rfl⟩ := hv.shape
  obtain ⟨xa, xl, xc, rfl⟩ := hx.shape
  have hb0 : Below w.heap.size w (w.alloc (.cells #[.int .u32 1] 60)) := (Below.refl _ w).alloc (Nat.le_refl _) _
  have n1 := Lib.hid (one_N w)
  have nA := Lib.hid (hu.below hb0)
  have nE := Lib.hid (hv.below hb0)
  have nM := Lib.hid (hx.below hb0)
  have hE := Lib.hid hb0
  have hmp := Nat.pos_of_ne_zero hm0
  obtain ⟨W0, hW0⟩ : ∃ W, w.alloc (.cells #[.int .u32 1] 60) = W := ⟨_, rfl⟩
  rw [hW0] at n1 nA nE nM hE
  have hW0H := Lib.hid hW0
  have hD1 := Lib.hid (RDiv_N n1.out nM.out (by decide) (Nat.le_trans hmB (by decide)) hm0)
  clear hu hv hx hb0 hW0
  go_enter Tryd.func25, Tryd.ntmps25
  go_wp2_with fail
  rw [hW0H.out]
  refine hD1.out.mono ?_
  rintro f w1 ⟨q1, o1, rfl, hq1, ho1, hb1⟩
  obtain ⟨q1a, q1l, q1c, rfl⟩ := hq1.shape
  obtain ⟨oa, ol, oc, rfl⟩ := ho1.shape
  have nO := Lib.hid ho1
  replace nA := Lib.hid (nA.out.below hb1)
  replace nE := Lib.hid (nE.out.below hb1)
  replace nM := Lib.hid (nM.out.below hb1)
  replace hE := Lib.hid (hE.out.trans (hb1.mono hE.out.size))
  have hD2 := Lib.hid (RDiv_N nA.out nM.out haB (Nat.le_trans hmB (by decide)) hm0)
  clear hq1 ho1 hb1 hD1 n1 hW0H
  go_wp2_with fail
  refine hD2.out.mono ?_
  rintro f w2 ⟨q2, p2, rfl, hq2, hp2, hb2⟩
  obtain ⟨q2a, q2l, q2c, rfl⟩ := hq2.shape
  obtain ⟨pa, pl, pc, rfl⟩ := hp2.shape
  have nX := Lib.hid hp2
  replace nO := Lib.hid (nO.out.below hb2)
  replace nE := Lib.hid (nE.out.below hb2)
  replace nM := Lib.hid (nM.out.below hb2)
  replace hE := Lib.hid (hE.out.trans (hb2.mono hE.out.size))
  have hBt := Lib.hid (nE.out.rbits (Nat.le_trans heB (by decide)))
  clear hq2 hp2 hb2 hD2 nA
  obtain ⟨be, hbe⟩ : ∃ z, blen e = z := ⟨_, rfl⟩
  have htop : 1 % m = powH a e m be := by rw [← hbe]; exact (powH_top a e m).symm
  rw [htop] at nO
  rw [hbe] at heB hBt
  have hbeH := Lib.hid hbe
  have hbw := Nu.wr (x := (be : Int) - 1) (by omega) (by omega)
  clear hbe htop
  go_wp2_with (go_at_call 18; refine hBt.out.mono ?_; rintro f w3 ⟨rfl, rfl⟩)
  have hB0 := Lib.hid (Below.refl w3.heap.size w3)
  clear hBt
  go_loopw [8, 12] (fun vo vk wr => ∃ (k : Nat) (oa : Option Addr) (ol oc : Nat), vo = .slice oa ol oc ∧ vk = .int .i64 ((k : Int) - 1) ∧ k ≤ be ∧ Hid (Below w3.heap.size w3 wr) ∧ Hid (NumAt wr (.slice oa ol oc) (powH a e m k))) (fun _ vk _ => (intOf vk + 1).toNat)
  case atStart => exact ⟨be, _, _, _, rfl, rfl, Nat.le_refl _, hB0, nO⟩
  case round =>
    obtain ⟨k, oa, ol, oc, rfl, rfl, hk, hB, nO2⟩ := hrel
    clear nO hB0
    by_cases hlt : (0 : Int) ≤ (k : Int) - 1
    · obtain ⟨j, rfl⟩ : ∃ j, k = j + 1 := ⟨k - 1, by omega⟩
      have hj1 : ((j + 1 : Nat) : Int) - 1 = (j : Int) := by omega
      rw [hj1] at hlt ⊢
      have hjw := Nu.wr (x := (j : Int) - 1) (by omega) (by omega)
      have hoB : blen (powH a e m (j + 1)) ≤ 100000 := Nat.le_trans (blen_lt_le (Nat.mod_lt _ hmp)) hmB
      have hMl := Lib.hid (RMul_N nO2.out nO2.out (Nat.le_trans hoB (by decide)) (Nat.le_trans hoB (by decide)))
      go_wp2_with fail
      refine hMl.out.mono ?_
      rintro f w4 ⟨s1, rfl, hs1, hb4⟩
      obtain ⟨sa, sl, sc, rfl⟩ := hs1.shape
      replace hB := Lib.hid (hB.out.trans (hb4.mono hB.out.size))
      have hDv := Lib.hid (RDiv_N hs1 (nM.out.below hB.out) (Nat.le_trans (blen_mul _ _) (by omega)) (Nat.le_trans hmB (by decide)) hm0)
      clear hs1 hb4 hMl nO2
      go_wp2_with fail
      refine hDv.out.mono ?_
      rintro f w5 ⟨q5, r5, rfl, hq5, hr5, hb5⟩
      obtain ⟨q5a, q5l, q5c, rfl⟩ := hq5.shape
      obtain ⟨r5a, r5l, r5c, rfl⟩ := hr5.shape
      replace hB := Lib.hid (hB.out.trans (hb5.mono hB.out.size))
      have nS := Lib.hid hr5
      clear hq5 hb5 hDv hr5
      obtain ⟨t, ht⟩ : ∃ t, j % 32 = t := ⟨_, rfl⟩
      obtain ⟨qd, hqd⟩ : ∃ t, j / 32 = t := ⟨_, rfl⟩
      have htm : Int.tmod (j : Int) 32 = (t : Int) := by rw [← ht]; exact (Int.ofNat_tmod j 32).symm
      have htq : Int.tdiv (j : Int) 32 = (qd : Int) := by rw [← hqd]; exact (Int.ofNat_tdiv j 32).symm
      have htm2 : (j : Int) % 32 = (t : Int) := by omega
      have htq2 : (j : Int) / 32 = (qd : Int) := by omega
      have htl : t < 32 := by omega
      have hqw := Nu.wr (x := (qd : Int)) (by omega) (by omega)
      have htw := Nu.wr (x := (t : Int)) (by omega) (by omega)
      have hkqt : j = 32 * qd + t := by omega
      obtain ⟨L, hL, hLv, hLs⟩ := id nE.out
      have hel := hLs.len
      have hbl : qd < L.length := by
        rcases Nat.lt_or_ge qd L.length with h1 | h1
        · exact h1
        · have h2 := val_lt hL.dig
          rw [hLv, bs_pow] at h2
          have h3 := blen_le.2 h2
          rw [hbeH.out] at h3
          omega
      obtain ⟨bb, ob, hbe2, ce⟩ := hLs.at hB.out hbl
      cases hbe2
      have hqel : (qd : Int) < (el : Int) := by omega
      have hdB := hL.dig qd
      have hbit := bit_digit (f := gd L) hL.dig hbl htl
      rw [← hkqt, show dsum (gd L) L.length = e from hLv] at hbit
      obtain ⟨d, hd⟩ : ∃ z, gd L qd = z := ⟨_, rfl⟩
      rw [hd] at ce hdB hbit
      have hdq : d / 2 ^ t ≤ d := Nat.div_le_self _ _
      have hshr : (d : Int) / 2 ^ t = ((d / 2 ^ t : Nat) : Int) := by rw [Int.natCast_ediv, Int.natCast_pow]; rfl
      obtain ⟨y, hy⟩ : ∃ z, d / 2 ^ t = z := ⟨_, rfl⟩
      rw [hy] at hdq hshr hbit
      obtain ⟨bt, hbt⟩ : ∃ z, bitN e j = z := ⟨_, rfl⟩
      rw [hbt] at hbit
      have hr1 : Int.tmod (y : Int) 2 = (bt : Int) := by rw [← hbit]; exact (Int.ofNat_tmod y 2).symm
      have hr2 : (y : Int) % 2 = (bt : Int) := by omega
      have hbt2 : bt < 2 := by rw [← hbt]; exact bitN_lt e j
      have hyw := Nu.wr32 (x := (y : Int)) (by omega) (by simp only [Bs] at hdB; omega)
      have hbtw := Nu.wr32 (x := (bt : Int)) (by omega) (by omega)
      clear hL hLv hLs hel hbit hd hy hkqt ht hqd hdB hbl
      by_cases h1 : bt = 1
      · have hb1 : ((bt : Int) == 1) = true := by simp; omega
        have hval := Lib.hid (powH_one (a := a) (m := m) (show bitN e j = 1 by rw [hbt, h1]))
        have hsB : blen (powH a e m (j + 1) * powH a e m (j + 1) % m) ≤ 100000 := Nat.le_trans (blen_lt_le (Nat.mod_lt _ hmp)) hmB
        have hxB : blen (a % m) ≤ 100000 := Nat.le_trans (blen_lt_le (Nat.mod_lt _ hmp)) hmB
        have hMl2 := Lib.hid (RMul_N nS.out (nX.out.below hB.out) (Nat.le_trans hsB (by decide)) (Nat.le_trans hxB (by decide)))
        clear hbt
        go_wp2_with fail
        refine hMl2.out.mono ?_
        rintro f w6 ⟨s1, rfl, hs1, hb6⟩
        obtain ⟨sa2, sl2, sc2, rfl⟩ := hs1.shape
        replace hB := Lib.hid (hB.out.trans (hb6.mono hB.out.size))
        have hDv2 := Lib.hid (RDiv_N hs1 (nM.out.below hB.out) (Nat.le_trans (blen_mul _ _) (by omega)) (Nat.le_trans hmB (by decide)) hm0)
        clear hs1 hb6 hMl2 nS ce
        go_wp2_with fail
        refine hDv2.out.mono ?_
        rintro f w7 ⟨q7, r7, rfl, hq7, hr7, hb7⟩
        obtain ⟨q7a, q7l, q7c, rfl⟩ := hq7.shape
        obtain ⟨r7a, r7l, r7c, rfl⟩ := hr7.shape
        replace hB := Lib.hid (hB.out.trans (hb7.mono hB.out.size))
        rw [← hval.out] at hr7
        have nF := Lib.hid hr7
        clear hq7 hb7 hDv2 hr7 hval
        go_wp2_with fail
        go_roundw
        case rel => exact ⟨j, _, _, _, rfl, by first | rfl | go_num, by omega, hB, nF⟩
        case measure => first | (simp [intOf]; done) | (simp [intOf]; omega)
      · have hb1 : ((bt : Int) == 1) = false := by simp; omega
        have hval := powH_none (a := a) (m := m) (show bitN e j = 0 by omega)
        rw [← hval] at nS
        clear hbt hval
        go_wp2_with fail
        go_roundw
        case rel => exact ⟨j, _, _, _, rfl, by first | rfl | go_num, by omega, hB, nS⟩
        case measure => first | (simp [intOf]; done) | (simp [intOf]; omega)
    · have hk0 : k = 0 := by omega
      subst hk0
      rw [powH_all] at nO2
      have hEF := Lib.hid (hE.out.trans (hB.out.mono hE.out.size))
      clear hB
      go_wp2_with fail
      go_ret
      exact ⟨_, rfl, nO2.out, hEF.out⟩
end Go.Proofs.YtffehdfddkgggaaDoor.Nu

/- The reference's Inv. -/
namespace Go.Proofs.YtffehdfddkgggaaDoor.Nu
open Go.RowKit Rt
set_option linter.unusedSimpArgs false
set_option linter.unusedVariables false
set_option maxHeartbeats 8000000 in
set_option maxRecDepth 100000 in
theorem RInv_any {w : World} {u x : Value} {a m : Nat} (hu : NumAt w u a) (hx : NumAt w x m) (haB : blen a ≤ 300000) (hm0 : m ≠ 0) (hmB : blen m ≤ 100000) (F : IV) (hF : ivRun m (a % m + 1) (ivFirst a m) = F) :
    Calls Tryd.prog 26 #[u, x] w fun f w' => ∃ r, f = .returned (.tuple #[r, .bool (decide (F.old = 1))]) ∧ NumAt w' r (if F.old = 1 then F.had % m else 0) ∧ Below w.heap.size w w' := by
  obtain ⟨ua, ul, uc, rfl⟩ := hu.shape
  obtain ⟨xa, xl, xc, rfl⟩ := hx.shape
  have hmp := Nat.pos_of_ne_zero hm0
  have hD1 := Lib.hid (RDiv_N hu hx haB (Nat.le_trans hmB (by decide)) hm0)
  have nM0 := Lib.hid hx
  clear hu hx
  go_enter Tryd.func26, Tryd.ntmps26
  go_wp2_with fail
  refine hD1.out.mono ?_
  rintro f w1 ⟨q1, r1, rfl, hq1, hr1, hb1⟩
  obtain ⟨q1a, q1l, q1c, rfl⟩ := hq1.shape
  obtain ⟨ra, rl, rc, rfl⟩ := hr1.shape
  have hb2 : Below w1.heap.size w1 (w1.alloc (.cells #[.int .u32 1] 60)) := (Below.refl _ w1).alloc (Nat.le_refl _) _
  have nR := Lib.hid (hr1.below hb2)
  have n1 := Lib.hid (one_N w1)
  have nM1 := Lib.hid ((nM0.out.below hb1).below hb2)
  have hE1 := Lib.hid (hb1.trans (hb2.mono hb1.size))
  obtain ⟨W1, hW1⟩ : ∃ W, w1.alloc (.cells #[.int .u32 1] 60) = W := ⟨_, rfl⟩
  rw [hW1] at nR n1 nM1 hE1
  have hW1H := Lib.hid hW1
  have hD2 := Lib.hid (RDiv_N n1.out nM1.out (by decide) (Nat.le_trans hmB (by decide)) hm0)
  clear hq1 hr1 hb1 hb2 hW1 hD1 nM0
  go_wp2_with fail
  rw [hW1H.out]
  refine hD2.out.mono ?_
  rintro f w0 ⟨q2, v2, rfl, hq2, hv2, hb2⟩
  obtain ⟨q2a, q2l, q2c, rfl⟩ := hq2.shape
  obtain ⟨va, vl, vc, rfl⟩ := hv2.shape
  replace nR := Lib.hid (nR.out.below hb2)
  have nM := Lib.hid (nM1.out.below hb2)
  have hE := Lib.hid (hE1.out.trans (hb2.mono hE1.out.size))
  have nV := Lib.hid hv2
  have nH := Lib.hid (NumAt.zero w0)
  have hB0 := Lib.hid (Below.refl w0.heap.size w0)
  clear hq2 hv2 hb2 hD2 n1 nM1 hE1 hW1H
  go_wp2_with fail
  have ham := Nat.mod_lt a hmp
  have h1m := Nat.mod_lt 1 hmp
  go_loopg [7, 8, 9, 11] (a % m + 1) (fun k v7 v8 v9 v11 wr => ∃ (s : IV) (ra : Option Addr) (rl rc : Nat) (oa : Option Addr) (ol oc : Nat) (ha : Option Addr) (hl hc : Nat) (va : Option Addr) (vl vc : Nat), v7 = .slice ra rl rc ∧ v8 = .slice oa ol oc ∧ v9 = .slice ha hl hc ∧ v11 = .slice va vl vc ∧ Hid (s.r < k ∧ ivRun m k s = F) ∧ Hid (Below w0.heap.size w0 wr) ∧ Hid (NumAt wr (.slice oa ol oc) s.old) ∧ Hid (NumAt wr (.slice ra rl rc) s.r) ∧ Hid (NumAt wr (.slice ha hl hc) s.had) ∧ Hid (NumAt wr (.slice va vl vc) s.have_) ∧ Hid (s.old ≤ m ∧ s.r < m ∧ s.had < m ∧ s.have_ < m))
  case atStart => exact ⟨ivFirst a m, _, _, _, _, _, _, _, _, _, _, _, _, rfl, rfl, rfl, rfl, Lib.hid ⟨Nat.lt_succ_self _, hF⟩, hB0, nM, nR, nH, nV, Lib.hid ⟨Nat.le_refl _, ham, hmp, h1m⟩⟩
  case round =>
    obtain ⟨s, ra, rl, rc, oa, ol, oc, ha, hl, hc, va, vl, vc, rfl, rfl, rfl, rfl, hk, hB, nO, nR2, nH2, nV2, hBd⟩ := hrel
    clear nR nH nV hB0
    have nR := nR2
    have nH := nH2
    have nV := nV2
    clear nR2 nH2 nV2
    obtain ⟨hb7, hb8, hb9, hb10⟩ := hBd.out
    have hoB : blen s.old ≤ 100000 := Nat.le_trans (blen_mono hb7) hmB
    have hrB : blen s.r ≤ 100000 := Nat.le_trans (blen_lt_le hb8) hmB
    have hhB : blen s.had ≤ 100000 := Nat.le_trans (blen_lt_le hb9) hmB
    have hvB : blen s.have_ ≤ 100000 := Nat.le_trans (blen_lt_le hb10) hmB
    have hl8 := nR.out.len_zero
    clear hBd
    by_cases hr0 : s.r = 0
    · have hl0 : rl = 0 := hl8.2 hr0
      subst hl0
      have hFs : F = s := by
        obtain ⟨h1, h2⟩ := hk.out
        obtain ⟨n, rfl⟩ : ∃ n, gk = n + 1 := ⟨gk - 1, by omega⟩
        unfold ivRun at h2
        rw [if_pos hr0] at h2
        exact h2.symm
      subst hFs
      have hb2 : Below wr.heap.size wr (wr.alloc (.cells #[.int .u32 1] 60)) := (Below.refl _ wr).alloc (Nat.le_refl _) _
      have n1 := Lib.hid (one_N wr)
      replace nO := Lib.hid (nO.out.below hb2)
      replace nH := Lib.hid (nH.out.below hb2)
      replace hB := Lib.hid (hB.out.trans (hb2.mono hB.out.size))
      have hCm := RCmp_N nO.out n1.out (Nat.le_trans hoB (by decide)) (by decide)
      obtain ⟨cv, hcv⟩ : ∃ z, cmpN F.old 1 = z := ⟨_, rfl⟩
      rw [hcv] at hCm
      have hCmH := Lib.hid hCm
      clear hl8 hk hb2 hCm nR nV
      by_cases h1 : F.old = 1
      · have hcv0 : (cv == 0) = true := by rw [← hcv, h1]; decide
        clear hcv
        go_wp2_with (go_at_call 22; refine hCmH.out.mono ?_; rintro e w5 ⟨rfl, hb5⟩; replace nH := Lib.hid (nH.out.below hb5); replace hB := Lib.hid (hB.out.trans (hb5.mono hB.out.size)); clear hb5)
        have hDv := Lib.hid (RDiv_N nH.out (nM.out.below hB.out) (Nat.le_trans hhB (by decide)) (Nat.le_trans hmB (by decide)) hm0)
        refine hDv.out.mono ?_
        rintro e w6 ⟨q6, r6, rfl, hq6, hr6, hb6⟩
        obtain ⟨q6a, q6l, q6c, rfl⟩ := hq6.shape
        obtain ⟨r6a, r6l, r6c, rfl⟩ := hr6.shape
        have nF := Lib.hid hr6
        have hEF := Lib.hid ((hE.out.trans (hB.out.mono hE.out.size)).trans (hb6.mono (Nat.le_trans hE.out.size hB.out.size)))
        clear hq6 hr6 hb6 hDv
        go_wp2_with fail
        refine bodyPost_ret (v := .tuple #[.slice r6a r6l r6c, .bool true]) (by simp [results, Tryd.results26, go_sem]) rfl ⟨_, by first | rfl | simp [h1], by first | exact nF.out | (rw [if_pos h1]; exact nF.out), hEF.out⟩
      · have hcv0 : (cv == 0) = false := by rw [← hcv]; unfold cmpN; split; decide; split; decide; omega
        clear hcv
        go_wp2_with (go_at_call 22; refine hCmH.out.mono ?_; rintro e w5 ⟨rfl, hb5⟩; replace hB := Lib.hid (hB.out.trans (hb5.mono hB.out.size)); clear hb5)
        refine bodyPost_ret (v := .tuple #[.slice none 0 0, .bool false]) (by simp [results, Tryd.results26, go_sem]) rfl ⟨_, by first | rfl | simp [h1], by first | exact NumAt.zero _ | (rw [if_neg h1]; exact NumAt.zero _), hE.out.trans (hB.out.mono hE.out.size)⟩
    · have hl0 : (0 : Int) < (rl : Int) := by have := fun h => hr0 (hl8.1 h); omega
      have hrp := Nat.pos_of_ne_zero hr0
      have hDv := Lib.hid (RDiv_N nO.out nR.out (Nat.le_trans hoB (by decide)) (Nat.le_trans hrB (by decide)) hr0)
      clear hl8
      go_wp2_with fail
      refine hDv.out.mono ?_
      rintro e w3 ⟨q3, s3, rfl, hn1, hn2, hb3⟩
      obtain ⟨a1, l1, c1, rfl⟩ := hn1.shape
      obtain ⟨a2, l2, c2, rfl⟩ := hn2.shape
      (try replace nO := Lib.hid (nO.out.below hb3))
      (try replace nR := Lib.hid (nR.out.below hb3))
      (try replace nH := Lib.hid (nH.out.below hb3))
      (try replace nV := Lib.hid (nV.out.below hb3))
      (try replace nQ := Lib.hid (nQ.out.below hb3))
      (try replace nS := Lib.hid (nS.out.below hb3))
      (try replace nT := Lib.hid (nT.out.below hb3))
      (try replace nP := Lib.hid (nP.out.below hb3))
      replace hB := Lib.hid (hB.out.trans (hb3.mono hB.out.size))
      have nQ := Lib.hid hn1
      have nS := Lib.hid hn2
      have hqB : blen (s.old / s.r) ≤ 100000 := Nat.le_trans (blen_mono (Nat.le_trans (Nat.div_le_self _ _) hb7)) hmB
      have hMl := Lib.hid (RMul_N nQ.out nV.out (Nat.le_trans hqB (by decide)) (Nat.le_trans hvB (by decide)))
      clear hn1 hn2 hb3 hDv
      go_wp2_with fail
      refine hMl.out.mono ?_
      rintro e w4 ⟨s4, rfl, hn4, hb4⟩
      obtain ⟨a4, l4, c4, rfl⟩ := hn4.shape
      (try replace nO := Lib.hid (nO.out.below hb4))
      (try replace nR := Lib.hid (nR.out.below hb4))
      (try replace nH := Lib.hid (nH.out.below hb4))
      (try replace nV := Lib.hid (nV.out.below hb4))
      (try replace nQ := Lib.hid (nQ.out.below hb4))
      (try replace nS := Lib.hid (nS.out.below hb4))
      (try replace nT := Lib.hid (nT.out.below hb4))
      (try replace nP := Lib.hid (nP.out.below hb4))
      replace hB := Lib.hid (hB.out.trans (hb4.mono hB.out.size))
      have hDv2 := Lib.hid (RDiv_N hn4 (nM.out.below hB.out) (Nat.le_trans (blen_mul _ _) (by omega)) (Nat.le_trans hmB (by decide)) hm0)
      clear hn4 hb4 hMl nQ
      go_wp2_with fail
      refine hDv2.out.mono ?_
      rintro e w5 ⟨q5, t5, rfl, hq5, ht5, hb5⟩
      obtain ⟨q5a, q5l, q5c, rfl⟩ := hq5.shape
      obtain ⟨t5a, t5l, t5c, rfl⟩ := ht5.shape
      (try replace nO := Lib.hid (nO.out.below hb5))
      (try replace nR := Lib.hid (nR.out.below hb5))
      (try replace nH := Lib.hid (nH.out.below hb5))
      (try replace nV := Lib.hid (nV.out.below hb5))
      (try replace nQ := Lib.hid (nQ.out.below hb5))
      (try replace nS := Lib.hid (nS.out.below hb5))
      (try replace nT := Lib.hid (nT.out.below hb5))
      (try replace nP := Lib.hid (nP.out.below hb5))
      replace hB := Lib.hid (hB.out.trans (hb5.mono hB.out.size))
      have nT := Lib.hid ht5
      clear hq5 hb5 hDv2 ht5
      obtain ⟨t, ht⟩ : ∃ t, s.old / s.r * s.have_ % m = t := ⟨_, rfl⟩
      have htm : t < m := by rw [← ht]; exact Nat.mod_lt _ hmp
      have htB : blen t ≤ 100000 := Nat.le_trans (blen_lt_le htm) hmB
      rw [ht] at nT
      have htH := Lib.hid ht
      clear ht
      have hCm := RCmp_N nH.out nT.out (Nat.le_trans hhB (by decide)) (Nat.le_trans htB (by decide))
      obtain ⟨cv, hcv⟩ : ∃ z, cmpN s.had t = z := ⟨_, rfl⟩
      rw [hcv] at hCm
      have hCmH := Lib.hid hCm
      clear hCm
      by_cases hlt : s.had < t
      · have hcv0 : cv < 0 := by rw [← hcv]; unfold cmpN; rw [if_pos hlt]; decide
        clear hcv
        go_wp2_with (go_at_call 22; refine hCmH.out.mono ?_; rintro e w6 ⟨rfl, hb6⟩; replace hB := Lib.hid (hB.out.trans (hb6.mono hB.out.size)); replace nR := Lib.hid (nR.out.below hb6); replace nH := Lib.hid (nH.out.below hb6); replace nV := Lib.hid (nV.out.below hb6); replace nS := Lib.hid (nS.out.below hb6); replace nT := Lib.hid (nT.out.below hb6); clear hb6 hCmH nO)
        have hAd := Lib.hid (RAdd_N nH.out (nM.out.below hB.out) (Nat.le_trans hhB (by decide)) (Nat.le_trans hmB (by decide)))
        refine hAd.out.mono ?_
        rintro e w7 ⟨p7, rfl, hn7, hb7'⟩
        obtain ⟨p7a, p7l, p7c, rfl⟩ := hn7.shape
        (try replace nO := Lib.hid (nO.out.below hb7'))
        (try replace nR := Lib.hid (nR.out.below hb7'))
        (try replace nH := Lib.hid (nH.out.below hb7'))
        (try replace nV := Lib.hid (nV.out.below hb7'))
        (try replace nQ := Lib.hid (nQ.out.below hb7'))
        (try replace nS := Lib.hid (nS.out.below hb7'))
        (try replace nT := Lib.hid (nT.out.below hb7'))
        (try replace nP := Lib.hid (nP.out.below hb7'))
        replace hB := Lib.hid (hB.out.trans (hb7'.mono hB.out.size))
        have nP := Lib.hid hn7
        clear hn7 hb7' hAd
        obtain ⟨hp, hhp⟩ : ∃ z, s.had + m = z := ⟨_, rfl⟩
        rw [hhp] at nP
        have hpv : Hid ((if s.had < t then s.had + m else s.had) = hp) := Lib.hid (by rw [if_pos hlt]; exact hhp)
        have hpt : t ≤ hp := by omega
        have hpB : blen hp ≤ 300000 := by rw [← hhp]; exact Nat.le_trans (blen_add _ _) (by omega)
        clear hhp hlt
        have hSb := Lib.hid (RSub_N nP.out nT.out (Nat.le_trans hpB (by decide)) (Nat.le_trans htB (by decide)) hpt)
        go_wp2_with fail
        refine hSb.out.mono ?_
        rintro e wd ⟨x1, rfl, hn1, hbd, -⟩
        obtain ⟨x1a, x1l, x1c, rfl⟩ := hn1.shape
        (try replace nO := Lib.hid (nO.out.below hbd))
        (try replace nR := Lib.hid (nR.out.below hbd))
        (try replace nH := Lib.hid (nH.out.below hbd))
        (try replace nV := Lib.hid (nV.out.below hbd))
        (try replace nQ := Lib.hid (nQ.out.below hbd))
        (try replace nS := Lib.hid (nS.out.below hbd))
        (try replace nT := Lib.hid (nT.out.below hbd))
        (try replace nP := Lib.hid (nP.out.below hbd))
        replace hB := Lib.hid (hB.out.trans (hbd.mono hB.out.size))
        have nN := Lib.hid hn1
        clear hn1 hbd hSb
        have hstep : ivStep m s = ⟨s.r, s.old % s.r, s.have_, hp - t⟩ := by
          unfold ivStep
          dsimp only
          rw [htH.out, hpv.out]
        have hkk : Hid (s.old % s.r < gk - 1 ∧ ivRun m (gk - 1) ⟨s.r, s.old % s.r, s.have_, hp - t⟩ = F) := Lib.hid (by
          obtain ⟨h1, h2⟩ := hk.out
          obtain ⟨n, rfl⟩ : ∃ n, gk = n + 1 := ⟨gk - 1, by omega⟩
          unfold ivRun at h2
          rw [if_neg hr0, hstep] at h2
          have := Nat.mod_lt s.old hrp
          exact ⟨by omega, h2⟩)
        have hgk : gk - 1 < gk := by have := hk.out.1; omega
        have hpm : Hid (hp - t < m) := Lib.hid (by have h := hpv.out; split at h <;> omega)
        clear hstep
        go_wp2_with fail
        go_roundg (gk - 1)
        case measure => exact hgk
        case rel => exact ⟨⟨s.r, s.old % s.r, s.have_, hp - t⟩, _, _, _, _, _, _, _, _, _, _, _, _, rfl, rfl, rfl, rfl, hkk, hB, nR, nS, nV, nN, Lib.hid ⟨Nat.le_of_lt hb8, Nat.lt_trans (Nat.mod_lt _ hrp) hb8, hb10, hpm.out⟩⟩
      · have hcv0 : ¬ cv < 0 := by rw [← hcv]; unfold cmpN; rw [if_neg hlt]; split <;> decide
        clear hcv
        go_upto_region 10 with (go_at_call 22; refine hCmH.out.mono ?_; rintro e w6 ⟨rfl, hb6⟩; replace hB := Lib.hid (hB.out.trans (hb6.mono hB.out.size)); replace nR := Lib.hid (nR.out.below hb6); replace nH := Lib.hid (nH.out.below hb6); replace nV := Lib.hid (nV.out.below hb6); replace nS := Lib.hid (nS.out.below hb6); replace nT := Lib.hid (nT.out.below hb6); clear hb6 hCmH nO)
        have nP := nH
        obtain ⟨hp, hhp⟩ : ∃ z, s.had = z := ⟨_, rfl⟩
        rw [hhp] at nP
        have hpv : Hid ((if s.had < t then s.had + m else s.had) = hp) := Lib.hid (by rw [if_neg hlt]; exact hhp)
        have hpt : t ≤ hp := by omega
        have hpB : blen hp ≤ 300000 := by rw [← hhp]; omega
        clear hhp hlt nH
        have hSb := Lib.hid (RSub_N nP.out nT.out (Nat.le_trans hpB (by decide)) (Nat.le_trans htB (by decide)) hpt)
        go_wp2_with fail
        refine hSb.out.mono ?_
        rintro e wd ⟨x1, rfl, hn1, hbd, -⟩
        obtain ⟨x1a, x1l, x1c, rfl⟩ := hn1.shape
        (try replace nO := Lib.hid (nO.out.below hbd))
        (try replace nR := Lib.hid (nR.out.below hbd))
        (try replace nH := Lib.hid (nH.out.below hbd))
        (try replace nV := Lib.hid (nV.out.below hbd))
        (try replace nQ := Lib.hid (nQ.out.below hbd))
        (try replace nS := Lib.hid (nS.out.below hbd))
        (try replace nT := Lib.hid (nT.out.below hbd))
        (try replace nP := Lib.hid (nP.out.below hbd))
        replace hB := Lib.hid (hB.out.trans (hbd.mono hB.out.size))
        have nN := Lib.hid hn1
        clear hn1 hbd hSb
        have hstep : ivStep m s = ⟨s.r, s.old % s.r, s.have_, hp - t⟩ := by
          unfold ivStep
          dsimp only
          rw [htH.out, hpv.out]
        have hkk : Hid (s.old % s.r < gk - 1 ∧ ivRun m (gk - 1) ⟨s.r, s.old % s.r, s.have_, hp - t⟩ = F) := Lib.hid (by
          obtain ⟨h1, h2⟩ := hk.out
          obtain ⟨n, rfl⟩ : ∃ n, gk = n + 1 := ⟨gk - 1, by omega⟩
          unfold ivRun at h2
          rw [if_neg hr0, hstep] at h2
          have := Nat.mod_lt s.old hrp
          exact ⟨by omega, h2⟩)
        have hgk : gk - 1 < gk := by have := hk.out.1; omega
        have hpm : Hid (hp - t < m) := Lib.hid (by have h := hpv.out; split at h <;> omega)
        clear hstep
        go_wp2_with fail
        go_roundg (gk - 1)
        case measure => exact hgk
        case rel => exact ⟨⟨s.r, s.old % s.r, s.have_, hp - t⟩, _, _, _, _, _, _, _, _, _, _, _, _, rfl, rfl, rfl, rfl, hkk, hB, nR, nS, nV, nN, Lib.hid ⟨Nat.le_of_lt hb8, Nat.lt_trans (Nat.mod_lt _ hrp) hb8, hb10, hpm.out⟩⟩
theorem RInv_N {w : World} {u x : Value} {a m : Nat} (hu : NumAt w u a) (hx : NumAt w x m) (haB : blen a ≤ 300000) (hm0 : m ≠ 0) (hmB : blen m ≤ 100000) :
    Calls Tryd.prog 26 #[u, x] w fun f w' => ∃ r, f = .returned (.tuple #[r, .bool (decide ((invF a m).old = 1))]) ∧ NumAt w' r (if (invF a m).old = 1 then (invF a m).had % m else 0) ∧ Below w.heap.size w w' :=
  RInv_any hu hx haB hm0 hmB (invF a m) rfl
end Go.Proofs.YtffehdfddkgggaaDoor.Nu

/- of, is. -/
namespace Go.Proofs.YtffehdfddkgggaaDoor.Nu
open Go.RowKit Rt
set_option linter.unusedSimpArgs false
set_option linter.unusedVariables false
theorem pow256z (m : Nat) : (256 : Nat) ^ m = 2 ^ (8 * m) := by rw [show (256 : Nat) = 2 ^ 8 from rfl, ← Nat.pow_mul]
theorem blen_size {s : ByteArray} {k : Nat} (h : s.size ≤ k) : blen (numS s) ≤ 8 * k := by
  have h2 := numS_lt s
  rw [pow256z] at h2
  exact Nat.le_trans (blen_le.2 h2) (Nat.mul_le_mul_left 8 h)
theorem numS_small {s : ByteArray} (h : s.size ≤ 512) : blen (numS s) ≤ 4096 := blen_size h
theorem capN_small {n : Nat} (h : blen n ≤ 4096) : capN n = n ∧ errN n = 0 := by
  unfold capN errN
  rw [if_neg (by omega), if_neg (by omega)]
  exact ⟨rfl, rfl⟩
/-- A text of at most so many bytes. -/
def cutB (s : ByteArray) (most : Nat) : ByteArray := if most < s.size then s.extract 0 most else s
theorem cutB_size (s : ByteArray) (most : Nat) : (cutB s most).size ≤ most := by
  unfold cutB; split
  · rw [ByteArray.size_extract]; omega
  · omega
/-- The number of at most so many bytes. -/
def ofV (s : ByteArray) (most : Nat) : Nat := numS (cutB s most)
theorem ofV_small (s : ByteArray) {most : Nat} (h : most ≤ 512) : blen (ofV s most) ≤ 8 * most := by
  have h1 := cutB_size s most
  have h2 := numS_lt (cutB s most)
  refine blen_le.2 (Nat.lt_of_lt_of_le h2 ?_)
  rw [show (256 : Nat) = 2 ^ 8 from rfl, ← Nat.pow_mul]
  exact Nat.pow_le_pow_right (by decide) (by omega)
set_option maxHeartbeats 4000000 in
set_option maxRecDepth 100000 in
theorem of_N (s : ByteArray) (most : Nat) (hm : most ≤ 512) (hs : s.size ≤ 9223372036854775807) (w : World) :
    Calls Tryd.prog 27 #[.string s, .int .i64 (most : Int)] w fun e w' => ∃ r, e = .returned (.agg #[r]) ∧ NumAt w' r (ofV s most) ∧ Below w.heap.size w w' := by
  obtain ⟨c, hc⟩ : ∃ c, cutB s most = c := ⟨_, rfl⟩
  have hcs : c.size ≤ 512 := by rw [← hc]; exact Nat.le_trans (cutB_size s most) hm
  unfold ofV
  rw [hc]
  have hX := Boxed.new w 26 (.slice none 0 0)
  have hB0 : Below w.heap.size w (w.alloc (.cells #[.slice none 0 0] 26)) := (Below.refl _ w).alloc (Nat.le_refl _) _
  have hO := Of_N c (w.alloc (.cells #[.slice none 0 0] 26))
  obtain ⟨h1, h2⟩ := capN_small (numS_small hcs)
  rw [h1, h2] at hO
  obtain ⟨W0, hW0⟩ : ∃ W, w.alloc (.cells #[.slice none 0 0] 26) = W := ⟨_, rfl⟩
  rw [hW0] at hX hB0 hO
  have hW0H := Lib.hid hW0
  have hOH := Lib.hid hO
  have hXH := Lib.hid hX
  have hBH := Lib.hid hB0
  have hsz := Lib.hid (show W0.heap.size = w.heap.size + 1 by rw [← hW0]; simp)
  have fin : ∀ (w2 : World) (r : Value), NumAt w2 r (numS c) → Below W0.heap.size W0 w2 → ∃ ra rl rc, r = .slice ra rl rc ∧ Hid (NumAt (w2.alloc (.cells #[r] 26)) r (numS c)) ∧ Hid (Below w.heap.size w (w2.alloc (.cells #[r] 26))) ∧ Hid (Boxed (w2.alloc (.cells #[r] 26)) w.heap.size 26 (.slice none 0 0)) := fun w2 r hn hb => by
    obtain ⟨ra, rl, rc, rfl⟩ := hn.shape
    have hb2 : Below w2.heap.size w2 (w2.alloc (.cells #[.slice ra rl rc] 26)) := (Below.refl _ w2).alloc (Nat.le_refl _) _
    have hx2 : Boxed w2 w.heap.size 26 (.slice none 0 0) := (hb.block _ hX.lt).trans hX
    exact ⟨ra, rl, rc, rfl, Lib.hid (hn.below hb2), Lib.hid ((hB0.trans (hb.mono hB0.size)).trans (hb2.mono (by have := hB0.size; have := hb.size; omega))), Lib.hid ((hb2.block _ hx2.lt).trans hx2)⟩
  have finH := Lib.hid fin
  clear hX hB0 hO hW0 fin h1 h2
  by_cases hl : (most : Int) < (s.size : Int)
  · have hce : s.extract 0 most = c := by rw [← hc]; unfold cutB; rw [if_pos (by omega)]
    have hl2 : (most : Int) ≤ (s.size : Int) := by omega
    have hl0 : (0 : Int) ≤ (most : Int) := by omega
    clear hc
    go_enter Tryd.func27, Tryd.ntmps27
    go_upto_region 1 with (fail)
    rw [hW0H.out]
    clear hW0H
    go_wp2_with fail
    refine hOH.out.mono ?_
    rintro e w2 ⟨r, rfl, hn, hb⟩
    obtain ⟨ra, rl, rc, rfl, hnF, hEF, hxF⟩ := finH.out w2 r hn hb
    have x2c := hxF.out.cell
    have x2f := hxF.out.frozen
    have q0 := (Boxed.new w2 26 (.slice ra rl rc)).cell
    clear hn hb
    go_wp2_with fail
    have r0 := (hxF.out.set (.slice ra rl rc)).cell
    have hE := hEF.out.setCell (p := ⟨w.heap.size, 0, none⟩) (Nat.le_refl _) (.slice ra rl rc)
    have hN3 := hnF.out.fresh hxF.out (fun d h => by cases h) (.slice ra rl rc)
    obtain ⟨W3, hW3⟩ : ∃ W, (w2.alloc (.cells #[.slice ra rl rc] 26)).setCell ⟨w.heap.size, 0, none⟩ (.slice ra rl rc) = W := ⟨_, rfl⟩
    rw [hW3] at r0 hE hN3 ⊢
    refine bodyPost_ret (v := .agg #[.slice ra rl rc]) (by simp [results, Tryd.results27, go_sem, r0]) rfl ⟨_, rfl, hN3, hE⟩
  · have hce : s = c := by rw [← hc]; unfold cutB; rw [if_neg (by omega)]
    subst hce
    clear hc
    go_enter Tryd.func27, Tryd.ntmps27
    go_upto_region 1 with (fail)
    rw [hW0H.out]
    clear hW0H
    go_wp2_with fail
    refine hOH.out.mono ?_
    rintro e w2 ⟨r, rfl, hn, hb⟩
    obtain ⟨ra, rl, rc, rfl, hnF, hEF, hxF⟩ := finH.out w2 r hn hb
    have x2c := hxF.out.cell
    have x2f := hxF.out.frozen
    have q0 := (Boxed.new w2 26 (.slice ra rl rc)).cell
    clear hn hb
    go_wp2_with fail
    have r0 := (hxF.out.set (.slice ra rl rc)).cell
    have hE := hEF.out.setCell (p := ⟨w.heap.size, 0, none⟩) (Nat.le_refl _) (.slice ra rl rc)
    have hN3 := hnF.out.fresh hxF.out (fun d h => by cases h) (.slice ra rl rc)
    obtain ⟨W3, hW3⟩ : ∃ W, (w2.alloc (.cells #[.slice ra rl rc] 26)).setCell ⟨w.heap.size, 0, none⟩ (.slice ra rl rc) = W := ⟨_, rfl⟩
    rw [hW3] at r0 hE hN3 ⊢
    refine bodyPost_ret (v := .agg #[.slice ra rl rc]) (by simp [results, Tryd.results27, go_sem, r0]) rfl ⟨_, rfl, hN3, hE⟩
set_option maxHeartbeats 4000000 in
set_option maxRecDepth 100000 in
theorem is_true {w : World} {u x : Value} {p q : Nat} (hu : NumAt w u p) (hx : NumAt w x q) (hp : blen p ≤ 300000) (hq : blen q ≤ 300000) (e f : Int) (h : (f ≠ 0 ∧ e = f ∧ p = 0) ∨ (f = 0 ∧ e = 0 ∧ p = q)) :
    Calls Tryd.prog 16 #[.agg #[u], .int .i64 e, x, .int .i64 f] w fun r w' => r = .returned (.bool true) ∧ Below w.heap.size w w' := by
  obtain ⟨ua, ul, uc, rfl⟩ := hu.shape
  obtain ⟨xa, xl, xc, rfl⟩ := hx.shape
  have hB0 : Below w.heap.size w (w.alloc (.cells #[.slice ua ul uc] 26)) := (Below.refl _ w).alloc (Nat.le_refl _) _
  have y0 := (Boxed.new w 26 (.slice ua ul uc)).cell
  have nU := Lib.hid (hu.below hB0)
  have nX := Lib.hid (hx.below hB0)
  obtain ⟨W0, hW0⟩ : ∃ W, w.alloc (.cells #[.slice ua ul uc] 26) = W := ⟨_, rfl⟩
  rw [hW0] at y0 nU nX hB0
  have hW0H := Lib.hid hW0
  have hE := Lib.hid hB0
  clear hu hx hB0 hW0
  rcases h with ⟨h1, rfl, h3⟩ | ⟨rfl, rfl, h3⟩
  · have hf0 : (e != 0) = true := by simpa using h1
    have hBt := nU.out.bits (Nat.le_trans hp (by decide))
    rw [h3, blen_zero] at hBt
    have hBtH := Lib.hid hBt
    clear hBt h1
    go_enter Tryd.func16, Tryd.ntmps16
    go_upto_region 1 with (fail)
    rw [hW0H.out]
    clear hW0H
    go_wp2_with (go_at_call 20; refine hBtH.out.mono ?_; rintro r w2 ⟨rfl, hb2⟩)
    go_ret
    exact ⟨rfl, hE.out.trans (hb2.mono hE.out.size)⟩
  · subst h3
    have hBy := Lib.hid (Bytes_N nU.out (Nat.le_trans hp (by decide)))
    clear hp
    go_enter Tryd.func16, Tryd.ntmps16
    go_upto_region 1 with (fail)
    rw [hW0H.out]
    clear hW0H
    go_wp2_with (go_at_call 29; refine hBy.out.mono ?_; rintro r w2 ⟨rfl, hb2⟩)
    have hRy := Lib.hid (RBytes_N (nX.out.below hb2) (Nat.le_trans hq (by decide)))
    refine hRy.out.mono ?_
    rintro r w3 ⟨rfl, hb3⟩
    go_wp2_with fail
    go_ret
    exact ⟨rfl, (hE.out.trans (hb2.mono hE.out.size)).trans (hb3.mono (Nat.le_trans hE.out.size hb2.size))⟩
end Go.Proofs.YtffehdfddkgggaaDoor.Nu

/- examples. -/
namespace Go.Proofs.YtffehdfddkgggaaDoor.Nu
open Go.RowKit Rt
set_option linter.unusedSimpArgs false
set_option linter.unusedVariables false
theorem Small_lit (w : World) (n : Nat) (i : Int) (hi : i = (n : Int)) (hn : n < 18446744073709551616) : Calls Tryd.prog 14 #[.int .u64 i] w fun e w' => ∃ v', e = .returned (.agg #[v']) ∧ NumAt w' v' n ∧ Below w.heap.size w w' := by
  subst hi; exact Small_N w n hn
set_option maxHeartbeats 8000000 in
set_option maxRecDepth 100000 in
theorem examples_any (w : World) : Calls Tryd.prog 11 #[] w fun e w' => e = .returned (.bool true) ∧ Below w.heap.size w w' := by
  go_enter Tryd.func11, Tryd.ntmps11
  have hE := Lib.hid (Below.refl w.heap.size w)
  have hC1 := Lib.hid (Of_N ⟨#[0, 1, 0]⟩ w)
  go_wp2_with fail
  refine hC1.out.mono ?_
  rintro e w1 ⟨va, rfl, na, hb⟩
  obtain ⟨aa, al, ac, rfl⟩ := na.shape
  rw [show errN (numS ⟨#[0, 1, 0]⟩) = 0 from by decide +kernel]
  rw [show capN (numS ⟨#[0, 1, 0]⟩) = 256 from by decide +kernel] at na
  replace na := Lib.hid na
  replace hE := Lib.hid (hE.out.trans (hb.mono hE.out.size))
  clear hb hC1
  go_upto_region 2 with (fail)
  have hb : Below w1.heap.size w1 (w1.alloc (.cells #[.slice aa al ac] 26)) := (Below.refl _ _).alloc (Nat.le_refl _) _
  have k1' := Var.made na.out
  replace na := Lib.hid (na.out.below hb)
  replace hE := Lib.hid (hE.out.trans (hb.mono hE.out.size))
  have k1 := Lib.hid k1'
  clear hb k1'
  obtain ⟨w2, hw⟩ : ∃ W, (w1.alloc (.cells #[.slice aa al ac] 26)) = W := ⟨_, rfl⟩
  rw [hw] at hE na k1 ⊢
  clear hw
  obtain ⟨gk1, hgk1⟩ : ∃ g, w1.heap.size = g := ⟨_, rfl⟩
  rw [hgk1] at k1 ⊢
  clear hgk1
  clear na
  have hC3 := Lib.hid (Small_lit w2 7 7 rfl (by decide))
  go_wp2_with fail
  refine hC3.out.mono ?_
  rintro e w3 ⟨vb, rfl, nb, hb⟩
  obtain ⟨ba, bl, bc, rfl⟩ := nb.shape
  replace k1 := Lib.hid (k1.out.below hb)
  replace nb := Lib.hid nb
  replace hE := Lib.hid (hE.out.trans (hb.mono hE.out.size))
  clear hb hC3
  have hC4 := Lib.hid (Small_lit w3 2 2 rfl (by decide))
  go_wp2_with fail
  refine hC4.out.mono ?_
  rintro e w4 ⟨vc, rfl, nc, hb⟩
  obtain ⟨ca, cl, cc, rfl⟩ := nc.shape
  replace k1 := Lib.hid (k1.out.below hb)
  replace nb := Lib.hid (nb.out.below hb)
  replace nc := Lib.hid nc
  replace hE := Lib.hid (hE.out.trans (hb.mono hE.out.size))
  clear hb hC4
  have hC5 := Lib.hid (Div_N nb.out nc.out (by decide) (by decide))
  go_wp2_with fail
  refine hC5.out.mono ?_
  rintro e w5 ⟨vd, vf, rfl, nd, nf, hb⟩
  obtain ⟨da, dl, dc, rfl⟩ := nd.shape
  obtain ⟨fa, fl, fc, rfl⟩ := nf.shape
  rw [show divE 2 = 0 from rfl]
  rw [show 7 / 2 = 3 from rfl] at nd
  rw [show onDiv 2 (7 % 2) = 1 from rfl] at nf
  replace k1 := Lib.hid (k1.out.below hb)
  replace nb := Lib.hid (nb.out.below hb)
  replace nc := Lib.hid (nc.out.below hb)
  replace nd := Lib.hid nd
  replace nf := Lib.hid nf
  replace hE := Lib.hid (hE.out.trans (hb.mono hE.out.size))
  clear hb hC5
  clear nb
  clear nc
  go_upto_region 3 with (fail)
  have hb : Below w5.heap.size w5 (w5.alloc (.cells #[.slice da dl dc] 26)) := (Below.refl _ _).alloc (Nat.le_refl _) _
  have k3' := Var.made nd.out
  replace k1 := Lib.hid (k1.out.below hb)
  replace nd := Lib.hid (nd.out.below hb)
  replace nf := Lib.hid (nf.out.below hb)
  replace hE := Lib.hid (hE.out.trans (hb.mono hE.out.size))
  have k3 := Lib.hid k3'
  clear hb k3'
  have hb : Below (w5.alloc (.cells #[.slice da dl dc] 26)).heap.size (w5.alloc (.cells #[.slice da dl dc] 26)) ((w5.alloc (.cells #[.slice da dl dc] 26)).alloc (.cells #[.slice fa fl fc] 26)) := (Below.refl _ _).alloc (Nat.le_refl _) _
  have k4' := Var.made nf.out
  replace k1 := Lib.hid (k1.out.below hb)
  replace nd := Lib.hid (nd.out.below hb)
  replace nf := Lib.hid (nf.out.below hb)
  replace k3 := Lib.hid (k3.out.below hb)
  replace hE := Lib.hid (hE.out.trans (hb.mono hE.out.size))
  have k4 := Lib.hid k4'
  clear hb k4'
  simp only [World.size_alloc] at k4
  obtain ⟨w6, hw⟩ : ∃ W, ((w5.alloc (.cells #[.slice da dl dc] 26)).alloc (.cells #[.slice fa fl fc] 26)) = W := ⟨_, rfl⟩
  rw [hw] at hE k1 nd nf k3 k4 ⊢
  clear hw
  obtain ⟨gk3, hgk3⟩ : ∃ g, w5.heap.size = g := ⟨_, rfl⟩
  obtain ⟨gk4, hgk4⟩ : ∃ g, w5.heap.size + 1 = g := ⟨_, rfl⟩
  rw [hgk4] at k4 ⊢
  rw [hgk3] at k3 ⊢
  clear hgk3 hgk4
  clear nd
  clear nf
  have hC7 := Lib.hid (Small_lit w6 3 3 rfl (by decide))
  go_wp2_with fail
  refine hC7.out.mono ?_
  rintro e w7 ⟨vb, rfl, nb, hb⟩
  obtain ⟨ba, bl, bc, rfl⟩ := nb.shape
  replace k1 := Lib.hid (k1.out.below hb)
  replace k3 := Lib.hid (k3.out.below hb)
  replace k4 := Lib.hid (k4.out.below hb)
  replace nb := Lib.hid nb
  replace hE := Lib.hid (hE.out.trans (hb.mono hE.out.size))
  clear hb hC7
  have hC8 := Lib.hid (Small_lit w7 200 200 rfl (by decide))
  go_wp2_with fail
  refine hC8.out.mono ?_
  rintro e w8 ⟨vc, rfl, nc, hb⟩
  obtain ⟨ca, cl, cc, rfl⟩ := nc.shape
  replace k1 := Lib.hid (k1.out.below hb)
  replace k3 := Lib.hid (k3.out.below hb)
  replace k4 := Lib.hid (k4.out.below hb)
  replace nb := Lib.hid (nb.out.below hb)
  replace nc := Lib.hid nc
  replace hE := Lib.hid (hE.out.trans (hb.mono hE.out.size))
  clear hb hC8
  have hC9 := Lib.hid (Small_lit w8 13 13 rfl (by decide))
  go_wp2_with fail
  refine hC9.out.mono ?_
  rintro e w9 ⟨vh, rfl, nh, hb⟩
  obtain ⟨ha, hl, hc, rfl⟩ := nh.shape
  replace k1 := Lib.hid (k1.out.below hb)
  replace k3 := Lib.hid (k3.out.below hb)
  replace k4 := Lib.hid (k4.out.below hb)
  replace nb := Lib.hid (nb.out.below hb)
  replace nc := Lib.hid (nc.out.below hb)
  replace nh := Lib.hid nh
  replace hE := Lib.hid (hE.out.trans (hb.mono hE.out.size))
  clear hb hC9
  have hC10 := Lib.hid (Pow_N nb.out nc.out nh.out (by decide) (by decide) (by decide))
  go_wp2_with fail
  refine hC10.out.mono ?_
  rintro e w10 ⟨vp, rfl, np, hb⟩
  obtain ⟨pa, pl, pc, rfl⟩ := np.shape
  rw [show modE 13 = 0 from by decide +kernel]
  rw [show powV 3 200 13 = 9 from by decide +kernel] at np
  replace k1 := Lib.hid (k1.out.below hb)
  replace k3 := Lib.hid (k3.out.below hb)
  replace k4 := Lib.hid (k4.out.below hb)
  replace nb := Lib.hid (nb.out.below hb)
  replace nc := Lib.hid (nc.out.below hb)
  replace nh := Lib.hid (nh.out.below hb)
  replace np := Lib.hid np
  replace hE := Lib.hid (hE.out.trans (hb.mono hE.out.size))
  clear hb hC10
  clear nb
  clear nc
  clear nh
  go_upto_region 4 with (fail)
  have hb : Below w10.heap.size w10 (w10.alloc (.cells #[.slice pa pl pc] 26)) := (Below.refl _ _).alloc (Nat.le_refl _) _
  have k6' := Var.made np.out
  replace k1 := Lib.hid (k1.out.below hb)
  replace k3 := Lib.hid (k3.out.below hb)
  replace k4 := Lib.hid (k4.out.below hb)
  replace np := Lib.hid (np.out.below hb)
  replace hE := Lib.hid (hE.out.trans (hb.mono hE.out.size))
  have k6 := Lib.hid k6'
  clear hb k6'
  obtain ⟨w11, hw⟩ : ∃ W, (w10.alloc (.cells #[.slice pa pl pc] 26)) = W := ⟨_, rfl⟩
  rw [hw] at hE k1 k3 k4 np k6 ⊢
  clear hw
  obtain ⟨gk6, hgk6⟩ : ∃ g, w10.heap.size = g := ⟨_, rfl⟩
  rw [hgk6] at k6 ⊢
  clear hgk6
  clear np
  have hC12 := Lib.hid (Small_lit w11 3 3 rfl (by decide))
  go_wp2_with fail
  refine hC12.out.mono ?_
  rintro e w12 ⟨vb, rfl, nb, hb⟩
  obtain ⟨ba, bl, bc, rfl⟩ := nb.shape
  replace k1 := Lib.hid (k1.out.below hb)
  replace k3 := Lib.hid (k3.out.below hb)
  replace k4 := Lib.hid (k4.out.below hb)
  replace k6 := Lib.hid (k6.out.below hb)
  replace nb := Lib.hid nb
  replace hE := Lib.hid (hE.out.trans (hb.mono hE.out.size))
  clear hb hC12
  have hC13 := Lib.hid (Small_lit w12 7 7 rfl (by decide))
  go_wp2_with fail
  refine hC13.out.mono ?_
  rintro e w13 ⟨vc, rfl, nc, hb⟩
  obtain ⟨ca, cl, cc, rfl⟩ := nc.shape
  replace k1 := Lib.hid (k1.out.below hb)
  replace k3 := Lib.hid (k3.out.below hb)
  replace k4 := Lib.hid (k4.out.below hb)
  replace k6 := Lib.hid (k6.out.below hb)
  replace nb := Lib.hid (nb.out.below hb)
  replace nc := Lib.hid nc
  replace hE := Lib.hid (hE.out.trans (hb.mono hE.out.size))
  clear hb hC13
  have hC14 := Lib.hid (Inv_N nb.out nc.out (by decide) (by decide))
  go_wp2_with fail
  refine hC14.out.mono ?_
  rintro e w14 ⟨vi, rfl, ni, hb⟩
  obtain ⟨ia, il, ic, rfl⟩ := ni.shape
  rw [show invE 3 7 = 0 from by decide +kernel]
  rw [show invV 3 7 = 5 from by decide +kernel] at ni
  replace k1 := Lib.hid (k1.out.below hb)
  replace k3 := Lib.hid (k3.out.below hb)
  replace k4 := Lib.hid (k4.out.below hb)
  replace k6 := Lib.hid (k6.out.below hb)
  replace nb := Lib.hid (nb.out.below hb)
  replace nc := Lib.hid (nc.out.below hb)
  replace ni := Lib.hid ni
  replace hE := Lib.hid (hE.out.trans (hb.mono hE.out.size))
  clear hb hC14
  clear nb
  clear nc
  go_upto_region 5 with (fail)
  have hb : Below w14.heap.size w14 (w14.alloc (.cells #[.slice ia il ic] 26)) := (Below.refl _ _).alloc (Nat.le_refl _) _
  have k8' := Var.made ni.out
  replace k1 := Lib.hid (k1.out.below hb)
  replace k3 := Lib.hid (k3.out.below hb)
  replace k4 := Lib.hid (k4.out.below hb)
  replace k6 := Lib.hid (k6.out.below hb)
  replace ni := Lib.hid (ni.out.below hb)
  replace hE := Lib.hid (hE.out.trans (hb.mono hE.out.size))
  have k8 := Lib.hid k8'
  clear hb k8'
  obtain ⟨w15, hw⟩ : ∃ W, (w14.alloc (.cells #[.slice ia il ic] 26)) = W := ⟨_, rfl⟩
  rw [hw] at hE k1 k3 k4 k6 ni k8 ⊢
  clear hw
  obtain ⟨gk8, hgk8⟩ : ∃ g, w14.heap.size = g := ⟨_, rfl⟩
  rw [hgk8] at k8 ⊢
  clear hgk8
  clear ni
  have hC16 := Lib.hid (Small_lit w15 2 2 rfl (by decide))
  go_wp2_with fail
  refine hC16.out.mono ?_
  rintro e w16 ⟨vb, rfl, nb, hb⟩
  obtain ⟨ba, bl, bc, rfl⟩ := nb.shape
  replace k1 := Lib.hid (k1.out.below hb)
  replace k3 := Lib.hid (k3.out.below hb)
  replace k4 := Lib.hid (k4.out.below hb)
  replace k6 := Lib.hid (k6.out.below hb)
  replace k8 := Lib.hid (k8.out.below hb)
  replace nb := Lib.hid nb
  replace hE := Lib.hid (hE.out.trans (hb.mono hE.out.size))
  clear hb hC16
  have hC17 := Lib.hid (Small_lit w16 4 4 rfl (by decide))
  go_wp2_with fail
  refine hC17.out.mono ?_
  rintro e w17 ⟨vc, rfl, nc, hb⟩
  obtain ⟨ca, cl, cc, rfl⟩ := nc.shape
  replace k1 := Lib.hid (k1.out.below hb)
  replace k3 := Lib.hid (k3.out.below hb)
  replace k4 := Lib.hid (k4.out.below hb)
  replace k6 := Lib.hid (k6.out.below hb)
  replace k8 := Lib.hid (k8.out.below hb)
  replace nb := Lib.hid (nb.out.below hb)
  replace nc := Lib.hid nc
  replace hE := Lib.hid (hE.out.trans (hb.mono hE.out.size))
  clear hb hC17
  have hC18 := Lib.hid (Inv_N nb.out nc.out (by decide) (by decide))
  go_wp2_with fail
  refine hC18.out.mono ?_
  rintro e w18 ⟨vj, rfl, nj, hb⟩
  obtain ⟨ja, jl, jc, rfl⟩ := nj.shape
  rw [show invE 2 4 = 13 from by decide +kernel]
  replace k1 := Lib.hid (k1.out.below hb)
  replace k3 := Lib.hid (k3.out.below hb)
  replace k4 := Lib.hid (k4.out.below hb)
  replace k6 := Lib.hid (k6.out.below hb)
  replace k8 := Lib.hid (k8.out.below hb)
  replace nb := Lib.hid (nb.out.below hb)
  replace nc := Lib.hid (nc.out.below hb)
  replace nj := Lib.hid nj
  replace hE := Lib.hid (hE.out.trans (hb.mono hE.out.size))
  clear hb hC18
  clear nb
  clear nc
  go_upto_region 6 with (fail)
  have hb : Below w18.heap.size w18 (w18.alloc (.cells #[.slice ja jl jc] 26)) := (Below.refl _ _).alloc (Nat.le_refl _) _
  have k10' := Var.made nj.out
  replace k1 := Lib.hid (k1.out.below hb)
  replace k3 := Lib.hid (k3.out.below hb)
  replace k4 := Lib.hid (k4.out.below hb)
  replace k6 := Lib.hid (k6.out.below hb)
  replace k8 := Lib.hid (k8.out.below hb)
  replace nj := Lib.hid (nj.out.below hb)
  replace hE := Lib.hid (hE.out.trans (hb.mono hE.out.size))
  have k10 := Lib.hid k10'
  clear hb k10'
  obtain ⟨w19, hw⟩ : ∃ W, (w18.alloc (.cells #[.slice ja jl jc] 26)) = W := ⟨_, rfl⟩
  rw [hw] at hE k1 k3 k4 k6 k8 nj k10 ⊢
  clear hw
  obtain ⟨gk10, hgk10⟩ : ∃ g, w18.heap.size = g := ⟨_, rfl⟩
  rw [hgk10] at k10 ⊢
  clear hgk10
  clear nj
  have hC20 := Lib.hid (Small_lit w19 258 258 rfl (by decide))
  go_wp2_with fail
  refine hC20.out.mono ?_
  rintro e w20 ⟨vb, rfl, nb, hb⟩
  obtain ⟨ba, bl, bc, rfl⟩ := nb.shape
  replace k1 := Lib.hid (k1.out.below hb)
  replace k3 := Lib.hid (k3.out.below hb)
  replace k4 := Lib.hid (k4.out.below hb)
  replace k6 := Lib.hid (k6.out.below hb)
  replace k8 := Lib.hid (k8.out.below hb)
  replace k10 := Lib.hid (k10.out.below hb)
  replace nb := Lib.hid nb
  replace hE := Lib.hid (hE.out.trans (hb.mono hE.out.size))
  clear hb hC20
  have hC21 := Lib.hid (Wide_N nb.out (by decide) 4 (by decide) (by decide))
  go_wp2_with fail
  refine hC21.out.mono ?_
  rintro e w21 ⟨rfl, hb⟩
  rw [show wideE 258 4 = 0 from by decide +kernel, show wideS 258 4 = ⟨#[0, 0, 1, 2]⟩ from by decide +kernel]
  replace k1 := Lib.hid (k1.out.below hb)
  replace k3 := Lib.hid (k3.out.below hb)
  replace k4 := Lib.hid (k4.out.below hb)
  replace k6 := Lib.hid (k6.out.below hb)
  replace k8 := Lib.hid (k8.out.below hb)
  replace k10 := Lib.hid (k10.out.below hb)
  replace nb := Lib.hid (nb.out.below hb)
  replace hE := Lib.hid (hE.out.trans (hb.mono hE.out.size))
  clear hb hC21
  clear nb
  go_upto_region 7 with (fail)
  obtain ⟨k1a, k1l, k1c, k1b, k1n⟩ := k1.out
  have zk1 := k1b.cell
  clear k1b
  obtain ⟨k3a, k3l, k3c, k3b, k3n⟩ := k3.out
  have zk3 := k3b.cell
  clear k3b
  obtain ⟨k4a, k4l, k4c, k4b, k4n⟩ := k4.out
  have zk4 := k4b.cell
  clear k4b
  obtain ⟨k6a, k6l, k6c, k6b, k6n⟩ := k6.out
  have zk6 := k6b.cell
  clear k6b
  obtain ⟨k8a, k8l, k8c, k8b, k8n⟩ := k8.out
  have zk8 := k8b.cell
  clear k8b
  replace k1n := Lib.hid k1n
  replace k3n := Lib.hid k3n
  replace k4n := Lib.hid k4n
  replace k6n := Lib.hid k6n
  replace k8n := Lib.hid k8n
  clear k1 k3 k4 k6 k8 k10
  have hD0 := Lib.hid (Bytes_N k1n.out (by decide))
  go_wp2_with fail
  refine hD0.out.mono ?_
  rintro e y0 ⟨rfl, hb⟩
  rw [show bytesW 256 = ⟨#[1, 0]⟩ from by decide +kernel]
  replace zk1 := (hb.cell (World.block_lt_of_cell? _ _ zk1)).trans zk1
  replace zk3 := (hb.cell (World.block_lt_of_cell? _ _ zk3)).trans zk3
  replace zk4 := (hb.cell (World.block_lt_of_cell? _ _ zk4)).trans zk4
  replace zk6 := (hb.cell (World.block_lt_of_cell? _ _ zk6)).trans zk6
  replace zk8 := (hb.cell (World.block_lt_of_cell? _ _ zk8)).trans zk8
  replace k1n := Lib.hid (k1n.out.below hb)
  replace k3n := Lib.hid (k3n.out.below hb)
  replace k4n := Lib.hid (k4n.out.below hb)
  replace k6n := Lib.hid (k6n.out.below hb)
  replace k8n := Lib.hid (k8n.out.below hb)
  replace hE := Lib.hid (hE.out.trans (hb.mono hE.out.size))
  clear hb hD0
  have hD1 := Lib.hid (k1n.out.bits (by decide))
  go_wp2_with fail
  refine hD1.out.mono ?_
  rintro e y1 ⟨rfl, hb⟩
  rw [show blen 256 = 9 from by decide +kernel]
  replace zk1 := (hb.cell (World.block_lt_of_cell? _ _ zk1)).trans zk1
  replace zk3 := (hb.cell (World.block_lt_of_cell? _ _ zk3)).trans zk3
  replace zk4 := (hb.cell (World.block_lt_of_cell? _ _ zk4)).trans zk4
  replace zk6 := (hb.cell (World.block_lt_of_cell? _ _ zk6)).trans zk6
  replace zk8 := (hb.cell (World.block_lt_of_cell? _ _ zk8)).trans zk8
  replace k1n := Lib.hid (k1n.out.below hb)
  replace k3n := Lib.hid (k3n.out.below hb)
  replace k4n := Lib.hid (k4n.out.below hb)
  replace k6n := Lib.hid (k6n.out.below hb)
  replace k8n := Lib.hid (k8n.out.below hb)
  replace hE := Lib.hid (hE.out.trans (hb.mono hE.out.size))
  clear hb hD1
  have hD2 := Lib.hid (Bytes_N k3n.out (by decide))
  go_wp2_with fail
  refine hD2.out.mono ?_
  rintro e y2 ⟨rfl, hb⟩
  rw [show bytesW 3 = ⟨#[3]⟩ from by decide +kernel]
  replace zk1 := (hb.cell (World.block_lt_of_cell? _ _ zk1)).trans zk1
  replace zk3 := (hb.cell (World.block_lt_of_cell? _ _ zk3)).trans zk3
  replace zk4 := (hb.cell (World.block_lt_of_cell? _ _ zk4)).trans zk4
  replace zk6 := (hb.cell (World.block_lt_of_cell? _ _ zk6)).trans zk6
  replace zk8 := (hb.cell (World.block_lt_of_cell? _ _ zk8)).trans zk8
  replace k1n := Lib.hid (k1n.out.below hb)
  replace k3n := Lib.hid (k3n.out.below hb)
  replace k4n := Lib.hid (k4n.out.below hb)
  replace k6n := Lib.hid (k6n.out.below hb)
  replace k8n := Lib.hid (k8n.out.below hb)
  replace hE := Lib.hid (hE.out.trans (hb.mono hE.out.size))
  clear hb hD2
  have hD3 := Lib.hid (Bytes_N k4n.out (by decide))
  go_wp2_with fail
  refine hD3.out.mono ?_
  rintro e y3 ⟨rfl, hb⟩
  rw [show bytesW 1 = ⟨#[1]⟩ from by decide +kernel]
  replace zk1 := (hb.cell (World.block_lt_of_cell? _ _ zk1)).trans zk1
  replace zk3 := (hb.cell (World.block_lt_of_cell? _ _ zk3)).trans zk3
  replace zk4 := (hb.cell (World.block_lt_of_cell? _ _ zk4)).trans zk4
  replace zk6 := (hb.cell (World.block_lt_of_cell? _ _ zk6)).trans zk6
  replace zk8 := (hb.cell (World.block_lt_of_cell? _ _ zk8)).trans zk8
  replace k1n := Lib.hid (k1n.out.below hb)
  replace k3n := Lib.hid (k3n.out.below hb)
  replace k4n := Lib.hid (k4n.out.below hb)
  replace k6n := Lib.hid (k6n.out.below hb)
  replace k8n := Lib.hid (k8n.out.below hb)
  replace hE := Lib.hid (hE.out.trans (hb.mono hE.out.size))
  clear hb hD3
  have hD4 := Lib.hid (Bytes_N k6n.out (by decide))
  go_wp2_with fail
  refine hD4.out.mono ?_
  rintro e y4 ⟨rfl, hb⟩
  rw [show bytesW 9 = ⟨#[9]⟩ from by decide +kernel]
  replace zk1 := (hb.cell (World.block_lt_of_cell? _ _ zk1)).trans zk1
  replace zk3 := (hb.cell (World.block_lt_of_cell? _ _ zk3)).trans zk3
  replace zk4 := (hb.cell (World.block_lt_of_cell? _ _ zk4)).trans zk4
  replace zk6 := (hb.cell (World.block_lt_of_cell? _ _ zk6)).trans zk6
  replace zk8 := (hb.cell (World.block_lt_of_cell? _ _ zk8)).trans zk8
  replace k1n := Lib.hid (k1n.out.below hb)
  replace k3n := Lib.hid (k3n.out.below hb)
  replace k4n := Lib.hid (k4n.out.below hb)
  replace k6n := Lib.hid (k6n.out.below hb)
  replace k8n := Lib.hid (k8n.out.below hb)
  replace hE := Lib.hid (hE.out.trans (hb.mono hE.out.size))
  clear hb hD4
  have hD5 := Lib.hid (Bytes_N k8n.out (by decide))
  go_wp2_with fail
  refine hD5.out.mono ?_
  rintro e y5 ⟨rfl, hb⟩
  rw [show bytesW 5 = ⟨#[5]⟩ from by decide +kernel]
  replace zk1 := (hb.cell (World.block_lt_of_cell? _ _ zk1)).trans zk1
  replace zk3 := (hb.cell (World.block_lt_of_cell? _ _ zk3)).trans zk3
  replace zk4 := (hb.cell (World.block_lt_of_cell? _ _ zk4)).trans zk4
  replace zk6 := (hb.cell (World.block_lt_of_cell? _ _ zk6)).trans zk6
  replace zk8 := (hb.cell (World.block_lt_of_cell? _ _ zk8)).trans zk8
  replace k1n := Lib.hid (k1n.out.below hb)
  replace k3n := Lib.hid (k3n.out.below hb)
  replace k4n := Lib.hid (k4n.out.below hb)
  replace k6n := Lib.hid (k6n.out.below hb)
  replace k8n := Lib.hid (k8n.out.below hb)
  replace hE := Lib.hid (hE.out.trans (hb.mono hE.out.size))
  clear hb hD5
  go_wp2_with fail
  go_ret
  exact ⟨rfl, hE.out⟩
end Go.Proofs.YtffehdfddkgggaaDoor.Nu
