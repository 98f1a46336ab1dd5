/- A digit of a quotient. -/
import Derived.Test.YtffehdfddkgggaaDoorMCC
import Derived.Test.YtffehdfddkgggaaDoorMAC
import Derived.BigQuiet
import Derived.RangeFuncNested
import Derived.RangeFuncBound
import Derived.RangeFuncBox
import Derived.RangeFuncCalls
import Derived.RangeFuncLeaves
import Derived.Shelf.Abstract
import Derived.OwnWalkIn
import Derived.TacticsInMore
import Derived.LoopNIn
import Derived.LoopIn
import Derived.WalkSpells
import Derived.Test.YtffehdfddkgggaaDoorMRC
namespace Go.Proofs.YtffehdfddkgggaaDoor.Nu
open Go.RowKit Rt
set_option linter.unusedSimpArgs false
set_option linter.unusedVariables false
theorem bits_or_top {a b : Nat} (ha : a < Bs) (hb : b < Bs) : Go.bits BinOp.or IntKind.u64 ((a : Int) * 4294967296) (b : Int) = ((a * Bs + b : Nat) : Int) := by
  have h0 : a * Bs + b = a * Bs ||| b := by
    have := Nat.shiftLeft_add_eq_or_of_lt (b := b) (i := 32) hb a
    rw [Nat.shiftLeft_eq] at this
    exact this
  have h1 : ((a : Int) * 4294967296) = ((a * Bs : Nat) : Int) := by simp only [Bs]; omega
  have h2 : a * Bs + b < 2 ^ 64 := by simp only [Bs] at *; omega
  rw [h1]
  unfold Go.bits
  have h3 : (BitVec.ofInt IntKind.u64.bits ((a * Bs : Nat) : Int) ||| BitVec.ofInt IntKind.u64.bits (b : Int)).toNat = a * Bs + b := by
    rw [BitVec.toNat_or, BitVec.ofInt_natCast, BitVec.ofInt_natCast, BitVec.toNat_ofNat, BitVec.toNat_ofNat]
    show (a * Bs % 2 ^ 64) ||| (b % 2 ^ 64) = _
    rw [Nat.mod_eq_of_lt (Nat.lt_of_le_of_lt (Nat.le_add_right _ _) h2), Nat.mod_eq_of_lt (Nat.lt_trans hb (by decide)), h0]
  simp only [h3]
  exact Nu.wr64 (Int.natCast_nonneg _) (by omega)
theorem bits_and_low (a : Nat) (ha : a < 18446744073709551616) : Go.bits BinOp.and IntKind.u64 (a : Int) 4294967295 = ((a % Bs : Nat) : Int) := by
  unfold Go.bits
  have h3 : (BitVec.ofInt IntKind.u64.bits (a : Int) &&& BitVec.ofInt IntKind.u64.bits 4294967295).toNat = a % Bs := by
    rw [BitVec.toNat_and, show (4294967295 : Int) = ((4294967295 : Nat) : Int) from rfl, BitVec.ofInt_natCast, BitVec.ofInt_natCast, BitVec.toNat_ofNat, BitVec.toNat_ofNat]
    show (a % 2 ^ 64) &&& (4294967295 % 2 ^ 64) = a % 2 ^ 32
    rw [Nat.mod_eq_of_lt (show a < 2 ^ 64 from ha)]
    exact Nat.and_two_pow_sub_one_eq_mod a 32
  simp only [h3]
  exact Nu.wr64 (Int.natCast_nonneg _) (by simp only [Bs]; omega)
/-- A digit less another one, less a borrow, in 64 bits. -/
theorem sub_u64 {x o b : Nat} (hx : x < Bs) (ho : o < Bs) (hb : b ≤ 1) : ∃ y z : Nat, IntKind.u64.wrap ((x : Int) - (o : Int)) = (y : Int) ∧ IntKind.u64.wrap ((y : Int) - (b : Int)) = (z : Int) ∧ z < 18446744073709551616 ∧
    z % Bs = (if x < o + b then x + Bs - (o + b) else x - (o + b)) ∧ z / 9223372036854775808 = (if x < o + b then 1 else 0) := by
  have w1 : ∀ t : Int, IntKind.u64.wrap t = t % 18446744073709551616 := fun t => by simp [IntKind.wrap, IntKind.bits, IntKind.signed]
  simp only [Bs] at hx ho ⊢
  refine ⟨(if x < o then x + 18446744073709551616 - o else x - o), (if x < o + b then x + 18446744073709551616 - (o + b) else x - (o + b)), ?_, ?_, ?_, ?_, ?_⟩
  · rw [w1]; split <;> omega
  · rw [w1]; split <;> split <;> omega
  · split <;> omega
  · split <;> omega
  · split <;> omega
structure DgW (w W : World) (gu gv : Nat) (O V : List Nat) : Prop where
  u : RowM W gu O
  v : RowM W gv V
  kept : Kept (fun b => b = gu) w W
theorem DgW.drewN {w W : World} {gu gv : Nat} {O V : List Nat} (h : DgW w W gu gv O V) (n : Nat) : DgW w (W.drewN n) gu gv O V := ⟨h.u, h.v, ⟨h.kept.os, h.kept.tape, h.kept.output, h.kept.size, h.kept.block⟩⟩
/-- The taking under way. -/
structure TkI (w W : World) (gu gv : Nat) (O V : List Nat) (j : Nat) (d : Nat → Nat) (k : Nat) (O2 : List Nat) : Prop where
  u : RowM W gu O2
  v : RowM W gv V
  kept : Kept (fun b => b = gu) w W
  len : O2.length = O.length
  dig : Dig O2
  is : ∀ i, gd O2 i = if j ≤ i ∧ i < j + k then d (i - j) else gd O i
theorem TkI.step {w W : World} {gu gv : Nat} {O V : List Nat} {j : Nat} {d : Nat → Nat} {k : Nat} {O2 : List Nat} (h : TkI w W gu gv O V j d k O2) (hne : gu ≠ gv) (hk : j + k < O.length) {y : Nat} (hy : y = d k) (hyB : y < Bs) :
    TkI w (W.setCell ⟨gu, j + k, none⟩ (.int .u32 (y : Int))) gu gv O V j d (k + 1) (O2.set (j + k) y) := by
  subst hy
  refine ⟨h.u.set _ _, h.v.other _ _ (fun e => hne e.symm), h.kept.setCell (p := ⟨gu, j + k, none⟩) (.inl rfl) _, by rw [List.length_set]; exact h.len, dig_set h.dig hyB, fun i => ?_⟩
  rw [gd_set (by rw [h.len]; exact hk)]
  by_cases h1 : i = j + k
  · rw [if_pos h1, if_pos (by omega), h1, show j + k - j = k by omega]
  · rw [if_neg h1, h.is i]
    by_cases h2 : j ≤ i ∧ i < j + k
    · rw [if_pos h2, if_pos (by omega)]
    · rw [if_neg h2, if_neg (by omega)]
theorem TkI.drewN {w W : World} {gu gv : Nat} {O V : List Nat} {j : Nat} {d : Nat → Nat} {k : Nat} {O2 : List Nat} (h : TkI w W gu gv O V j d k O2) (n : Nat) : TkI w (W.drewN n) gu gv O V j d k O2 :=
  ⟨h.u, h.v, ⟨h.kept.os, h.kept.tape, h.kept.output, h.kept.size, h.kept.block⟩, h.len, h.dig, h.is⟩
theorem TkI.done {w W : World} {gu gv : Nat} {O V : List Nat} {j : Nat} {d : Nat → Nat} {n : Nat} {O2 : List Nat} (h : TkI w W gu gv O V j d n O2) (hl : j + n < O.length) :
    RowM (W.setCell ⟨gu, j + n, none⟩ (.int .u32 0)) gu (O2.set (j + n) 0) ∧ (O2.set (j + n) 0).length = O.length ∧ Dig (O2.set (j + n) 0) ∧ (∀ i, i < j ∨ j + n < i → gd (O2.set (j + n) 0) i = gd O i) ∧ wd (O2.set (j + n) 0) j (n + 1) = dsum d n ∧ Kept (fun b => b = gu) w (W.setCell ⟨gu, j + n, none⟩ (.int .u32 0)) := by
  have hl2 : j + n < O2.length := by rw [h.len]; exact hl
  refine ⟨h.u.set _ 0, by rw [List.length_set]; exact h.len, dig_set h.dig (by decide), fun i hi => ?_, ?_, h.kept.setCell (p := ⟨gu, j + n, none⟩) (.inl rfl) _⟩
  · rw [gd_set hl2, if_neg (by omega), h.is, if_neg (by omega)]
  · unfold wd
    rw [dsum_succ, gd_set hl2, if_pos rfl, Nat.zero_mul, Nat.add_zero]
    refine dsum_congr fun i hi => ?_
    rw [gd_set hl2, if_neg (by omega), h.is, if_pos (by omega), show j + i - j = i by omega]
set_option maxHeartbeats 4000000 in
set_option maxRecDepth 100000 in
theorem Digit_any {w : World} {gu gv : Nat} {O V : List Nat} {j m n cu cv : Nat} (hU : RowM w gu O) (hV : RowM w gv V) (hne : gu ≠ gv) (hO : Dig O) (hVd : Dig V) (hnm : n = m + 1) (hj : j + n + 1 ≤ O.length) (hnV : n ≤ V.length) (hlO : O.length ≤ 2000000) (htop : 2147483648 ≤ gd V m) (hfit : wd O j (n + 1) < dsum (gd V) n * Bs) :
    Calls Tryd.prog 51 #[.slice (some ⟨gu, j, none⟩) (n + 1) cu, .slice (some ⟨gv, 0, none⟩) n cv] w fun e w' => ∃ O', e = .returned (.int .u32 ((wd O j (n + 1) / dsum (gd V) n : Nat) : Int)) ∧ RowM w' gu O' ∧ O'.length = O.length ∧ Dig O' ∧ (∀ i, i < j ∨ j + n < i → gd O' i = gd O i) ∧ wd O' j (n + 1) = wd O j (n + 1) % dsum (gd V) n ∧ Kept (fun b => b = gu) w w' := by
  have hfH : ∀ i, (fun i => gd O (j + i)) i < Bs := fun i => hO (j + i)
  have hgH : ∀ i, gd V i < Bs := hVd
  obtain ⟨f, hf⟩ : ∃ f : Nat → Nat, (fun i => gd O (j + i)) = f := ⟨_, rfl⟩
  rw [hf] at hfH
  have hwd0 : wd O j (n + 1) = dsum f (m + 2) := by unfold wd; rw [hf, hnm]
  have hfx : ∀ i, gd O (j + i) = f i := fun i => by rw [← hf]
  obtain ⟨g, hg⟩ : ∃ g : Nat → Nat, gd V = g := ⟨_, rfl⟩
  rw [hg] at htop hfit ⊢
  rw [hwd0] at hfit ⊢
  rw [hg] at hgH
  have hgn : dsum g n = dsum g (m + 1) := by rw [hnm]
  rw [hgn] at hfit ⊢
  have hks := ks_of hfH hgH htop hfit
  have hk0 := hks.first
  have cun : w.cell? ⟨gu, j + n, none⟩ = some (.int .u32 (f (m + 1) : Int)) := by rw [hU.cell _ (by omega), hfx, hnm]
  have cum : w.cell? ⟨gu, j + m, none⟩ = some (.int .u32 (f m : Int)) := by rw [hU.cell _ (by omega), hfx]
  have cvm : w.cell? ⟨gv, m, none⟩ = some (.int .u32 (g m : Int)) := by rw [hV.cell _ (by omega), hg]
  have hUH := Lib.hid hU
  have hVH := Lib.hid hV
  have hneH := Lib.hid hne
  have hOH := Lib.hid hO
  have hVdH := Lib.hid hVd
  have hjH := Lib.hid hj
  have hnVH := Lib.hid hnV
  have hfHH := Lib.hid hfH
  have hgHH := Lib.hid hgH
  have hfxH := Lib.hid hfx
  have hgEH := Lib.hid hg
  have hwdH := Lib.hid hwd0
  have hksH := Lib.hid hks
  have hk0H := Lib.hid hk0
  have hnmH := Lib.hid hnm
  have hn1 : (n : Int) - 1 = (m : Int) := by omega
  have hn1w := Nu.wr (x := (n : Int) - 1) (by omega) (by omega)
  have hmw := Nu.wr (x := (m : Int)) (by omega) (by omega)
  have hnlt : (n : Int) < (n : Int) + 1 := by omega
  have hmlt : (m : Int) < (n : Int) + 1 := by omega
  have hmlt2 : (m : Int) < (n : Int) := by omega
  have hmn0 : n ≤ 2000000 := by omega
  have hm0 : m < n := by omega
  have hmn1 : (m : Int) + 1 = (n : Int) := by omega
  obtain ⟨b1, hb1⟩ : ∃ t, f (m + 1) = t := ⟨_, rfl⟩
  obtain ⟨b0, hb0⟩ : ∃ t, f m = t := ⟨_, rfl⟩
  obtain ⟨v1, hv1⟩ : ∃ t, g m = t := ⟨_, rfl⟩
  have hb1B := hfH (m + 1)
  have hb0B := hfH m
  have hv1B := hgH m
  have hv1H := Lib.hid hv1
  have hb1H := Lib.hid hb1
  have hb0H := Lib.hid hb0
  rw [hb1] at cun hb1B
  rw [hb0] at cum hb0B
  rw [hv1] at cvm hv1B htop
  have hb1w := Nu.wr64 (x := (b1 : Int)) (by omega) (by simp only [Bs] at hb1B; omega)
  have hb0w := Nu.wr64 (x := (b0 : Int)) (by omega) (by simp only [Bs] at hb0B; omega)
  have hv1w := Nu.wr64 (x := (v1 : Int)) (by omega) (by simp only [Bs] at hv1B; omega)
  have hshw := Nu.wr64 (x := (b1 : Int) * 4294967296) (by omega) (by simp only [Bs] at hb1B; omega)
  have hvne : ¬ (v1 : Int) = 0 := by omega
  have hor := bits_or_top hb1B hb0B
  have htB : b1 * Bs + b0 < 18446744073709551616 := by simp only [Bs] at *; omega
  obtain ⟨top, htop0⟩ : ∃ t, b1 * Bs + b0 = t := ⟨_, rfl⟩
  rw [htop0] at hor htB
  have htopH := Lib.hid htop0
  rw [hv1, hb1, hb0, htop0] at hk0H hksH
  obtain ⟨q0, hq0⟩ : ∃ t, top / v1 = t := ⟨_, rfl⟩
  obtain ⟨r0, hr0⟩ : ∃ t, top % v1 = t := ⟨_, rfl⟩
  rw [hq0, hr0] at hk0H
  have htdq : Int.tdiv (top : Int) (v1 : Int) = (q0 : Int) := by rw [← hq0]; exact (Int.ofNat_tdiv top v1).symm
  have htmr : Int.tmod (top : Int) (v1 : Int) = (r0 : Int) := by rw [← hr0]; exact (Int.ofNat_tmod top v1).symm
  have hr0B : r0 < v1 := by rw [← hr0]; exact Nat.mod_lt _ (by omega)
  have hq0B : q0 < 18446744073709551616 := by rw [← hq0]; exact Nat.lt_of_le_of_lt (Nat.div_le_self _ _) htB
  have hq0w := Nu.wr64 (x := (q0 : Int)) (by omega) (by omega)
  have hr0w := Nu.wr64 (x := (r0 : Int)) (by omega) (by simp only [Bs] at hv1B; omega)
  clear hU hV hne hO hVd hj hnV hfH hgH hfx hg hwd0 hgn hks hk0 hnm hf hfit htop0 hq0 hr0
  go_enter Tryd.func51, Tryd.ntmps51
  go_upto_region 2 with (fail)
  go_quiet (fail)
  have hWa : Hid (DgW w (w.drewN nq) gu gv O V) := Lib.hid ((DgW.mk hUH.out hVH.out (Kept.refl _ _)).drewN _)
  have cvm2 : (w.drewN nq).cell? ⟨gv, m, none⟩ = some (.int .u32 (v1 : Int)) := cvm
  obtain ⟨Wa, hWae⟩ : ∃ W, w.drewN nq = W := ⟨_, rfl⟩
  rw [hWae] at hWa cvm2 ⊢
  clear hWae cun cum cvm
  go_upto_region 3 with (fail)
  go_quiet (fail)
  have hW1 : Hid (DgW w (Wa.drewN nq) gu gv O V) := Lib.hid (hWa.out.drewN _)
  obtain ⟨W1, hW1e⟩ : ∃ W, Wa.drewN nq = W := ⟨_, rfl⟩
  rw [hW1e] at hW1 ⊢
  clear hW1e cvm2 hWa
  go_wp2_with fail
  go_loopw [7, 8] (fun vq vr wr => ∃ q r : Nat, vq = .int .u64 (q : Int) ∧ vr = .int .u64 (r : Int) ∧ q < 18446744073709551616 ∧ r < 8589934592 ∧ Hid (KQ (dsum f (m + 2)) (dsum g (m + 1)) v1 top q r) ∧ Hid (DgW w wr gu gv O V)) (fun vq _ _ => (intOf vq).toNat)
  case atStart => exact ⟨q0, r0, rfl, rfl, hq0B, by simp only [Bs] at hv1B; omega, hk0H, hW1⟩
  case round =>
    obtain ⟨q, r, rfl, rfl, hqB, hrB, hK, hW⟩ := hrel
    clear hW1
    have cvm := hW.out.v.cell m (by have := hnVH.out; omega)
    rw [hgEH.out, hv1H.out] at cvm
    have hqw := Nu.wr64 (x := (q : Int)) (by omega) (by omega)
    have hrw := Nu.wr64 (x := (r : Int)) (by omega) (by omega)
    go_upto_region 4 with (fail)
    obtain ⟨bt, hbt⟩ : ∃ bt : Bool, decide (r < Bs ∧ (Bs ≤ q ∨ (0 < m ∧ r * Bs + f (m - 1) < q * g (m - 1)))) = bt := ⟨_, rfl⟩
    go_cut [79] from 48 to 89 (fun s79 wx => s79 = .bool bt ∧ Hid (DgW w wx gu gv O V))
    case first =>
      by_cases hr : Bs ≤ r
      · have t1 : ((r : Int) / 4294967296 == 0) = false := by simp only [Bs] at hr; simp; omega
        have hres : bt = false := by rw [← hbt]; simp only [Bs] at *; simp; omega
        go_quiet (fail)
        go_wp2_with fail
        go_meet
        case rel => exact ⟨by rw [hres], Lib.hid (hW.out.drewN _)⟩
      · have t1 : ((r : Int) / 4294967296 == 0) = true := by simp only [Bs] at hr; simp; omega
        by_cases hq : Bs ≤ q
        · have t2 : ((q : Int) / 4294967296 != 0) = true := by simp only [Bs] at hq; simp; omega
          have hres : bt = true := by rw [← hbt]; exact decide_eq_true ⟨by omega, .inl hq⟩
          go_quiet (fail)
          go_wp2_with fail
          go_meet
          case rel => exact ⟨by rw [hres], Lib.hid (hW.out.drewN _)⟩
        · have t2 : ((q : Int) / 4294967296 != 0) = false := by simp only [Bs] at hq; simp; omega
          by_cases hm0 : m = 0
          · have t3 : decide ((1 : Int) < (n : Int)) = false := by have := hnmH.out; simp; omega
            have hres : bt = false := by rw [← hbt]; exact decide_eq_false (by omega)
            go_quiet (fail)
            go_wp2_with fail
            go_meet
            case rel => exact ⟨by rw [hres], Lib.hid (hW.out.drewN _)⟩
          · obtain ⟨p, rfl⟩ : ∃ p, m = p + 1 := ⟨m - 1, by omega⟩
            rw [Nat.add_sub_cancel] at hbt
            have t3 : decide ((1 : Int) < (n : Int)) = true := by have := hnmH.out; simp; omega
            have hn2 : (n : Int) - 2 = (p : Int) := by have := hnmH.out; omega
            have hn2w := Nu.wr (x := (n : Int) - 2) (by omega) (by omega)
            have hplt : (p : Int) < (n : Int) := by omega
            have hplt2 : (p : Int) < (n : Int) + 1 := by omega
            have cvp := hW.out.v.cell p (by have := hnVH.out; omega)
            have cup := hW.out.u.cell (j + p) (by have := hjH.out; omega)
            rw [hgEH.out] at cvp
            rw [hfxH.out] at cup
            have hupB := hfHH.out p
            have hvpB := hgHH.out p
            obtain ⟨up, hup⟩ : ∃ t, f p = t := ⟨_, rfl⟩
            obtain ⟨vp, hvp⟩ : ∃ t, g p = t := ⟨_, rfl⟩
            rw [hup] at cup hupB hbt
            rw [hvp] at cvp hvpB hbt
            have hupw := Nu.wr64 (x := (up : Int)) (by omega) (by simp only [Bs] at hupB; omega)
            have hvpw := Nu.wr64 (x := (vp : Int)) (by omega) (by simp only [Bs] at hvpB; omega)
            have hqv : q * vp ≤ 4294967295 * 4294967295 := Nat.mul_le_mul (by simp only [Bs] at hq; omega) (by simp only [Bs] at hvpB; omega)
            have hqvi : (q : Int) * (vp : Int) = ((q * vp : Nat) : Int) := rfl
            have hqvw := Nu.wr64 (x := ((q * vp : Nat) : Int)) (by omega) (by omega)
            have hrs := Nu.wr64 (x := (r : Int) * 4294967296) (by omega) (by simp only [Bs] at hr; omega)
            have horp := bits_or_top (a := r) (b := up) (by omega) hupB
            obtain ⟨ru, hru⟩ : ∃ t, r * Bs + up = t := ⟨_, rfl⟩
            rw [hru] at horp hbt
            obtain ⟨qv, hqv0⟩ : ∃ t, q * vp = t := ⟨_, rfl⟩
            rw [hqv0] at hqvi hqvw hbt
            clear hup hvp
            have t4 : decide ((ru : Int) < (qv : Int)) = bt := by
              rw [← hbt]
              apply decide_eq_decide.2
              constructor
              · intro h; exact ⟨by omega, .inr ⟨by omega, by omega⟩⟩
              · rintro ⟨_, h | ⟨_, h⟩⟩
                · exact absurd h hq
                · omega
            go_quiet (fail)
            go_wp2_with fail
            go_meet
            case rel => exact ⟨by first | rw [t4] | (rw [show decide (ru < qv) = bt from by rw [← t4]; exact decide_eq_decide.2 (by omega)]), Lib.hid (hW.out.drewN _)⟩
    case rest =>
      obtain ⟨rfl, hW2⟩ := hcut
      clear hW
      have cvm := hW2.out.v.cell m (by have := hnVH.out; omega)
      rw [hgEH.out, hv1H.out] at cvm
      cases bt with
      | true =>
        have hd := of_decide_eq_true hbt
        have hdn := guess_down (m := m) (q := q) (r := r) hfHH.out hgHH.out (by rw [hv1H.out, hb1H.out, hb0H.out, htopH.out]; exact hksH.out) (by rw [hv1H.out, hb1H.out, hb0H.out, htopH.out]; exact hK.out) hd.1 hd.2
        have hq1 := hdn.1
        have hrl := hd.1
        have hKn : Hid (KQ (dsum f (m + 2)) (dsum g (m + 1)) v1 top (q - 1) (r + v1)) := Lib.hid (by have h := hdn.2; rw [hv1H.out, hb1H.out, hb0H.out, htopH.out] at h; exact h)
        clear hbt hd hdn hK
        simp only [Bs] at hrl
        have hqm := Nu.wr64 (x := (q : Int) - 1) (by omega) (by omega)
        have hra := Nu.wr64 (x := (r : Int) + (v1 : Int)) (by omega) (by simp only [Bs] at hv1B; omega)
        go_wp2_with fail
        go_roundw
        case rel => exact ⟨q - 1, r + v1, by first | rfl | go_num, by first | rfl | go_num, by omega, by simp only [Bs] at hv1B; omega, hKn, hW2⟩
        case measure => first | (simp [intOf]; done) | (simp [intOf]; omega)
      | false =>
        have hd := of_decide_eq_false hbt
        have hge := guess_end (m := m) (q := q) (r := r) hfHH.out hgHH.out (by rw [hv1H.out, hb1H.out, hb0H.out, htopH.out]; exact hksH.out) (by rw [hv1H.out, hb1H.out, hb0H.out, htopH.out]; exact hK.out) (by
          rcases Nat.lt_or_ge r Bs with h1 | h1
          · right
            rcases Nat.lt_or_ge q Bs with h2 | h2
            · refine ⟨h2, ?_⟩
              rcases Nat.eq_zero_or_pos m with h3 | h3
              · exact .inl h3
              · right
                rcases Nat.lt_or_ge (r * Bs + f (m - 1)) (q * g (m - 1)) with h4 | h4
                · exact absurd ⟨h1, .inr ⟨h3, h4⟩⟩ hd
                · exact h4
            · exact absurd ⟨h1, .inl h2⟩ hd
          · exact .inl h1)
        obtain ⟨hqL, hhi, hlo⟩ := hge
        have hqLH := Lib.hid hqL
        have hhiH := Lib.hid hhi
        have hloH := Lib.hid hlo
        have hqS : q < 4294967296 := by simp only [Bs] at hqL; exact hqL
        have hI2 : Hid (TkI w wc gu gv O V j (df f (ot (qt q g))) 0 O) := Lib.hid ⟨hW2.out.u, hW2.out.v, hW2.out.kept, rfl, hOH.out, fun i => by rw [if_neg (by omega)]⟩
        clear hbt hd hK hqL hhi hlo cvm hqB hW2 hrB hrw
        go_wp2_with fail
        go_loopw [9, 10, 91] (fun vb vc vk wr => ∃ (k : Nat) (O2 : List Nat), vb = .int .u64 ((bw f (ot (qt q g)) k : Nat) : Int) ∧ vc = .int .u64 ((cr (qt q g) k : Nat) : Int) ∧ vk = .int .i64 (k : Int) ∧ k ≤ n ∧ Hid (TkI w wr gu gv O V j (df f (ot (qt q g))) k O2)) (fun _ _ vk _ => n - (intOf vk).toNat)
        case atStart => exact ⟨0, O, rfl, rfl, rfl, Nat.zero_le _, hI2⟩
        case round =>
          obtain ⟨k, O2, rfl, rfl, rfl, hk, hI⟩ := hrel
          clear hI2
          by_cases hlt : (k : Int) < n
          · have hkl : k < n := by omega
            have hklu : (k : Int) < (n : Int) + 1 := by omega
            have cV := hI.out.v.cell k (by have := hnVH.out; omega)
            rw [hgEH.out] at cV
            have cU := hI.out.u.cell (j + k) (by rw [hI.out.len]; have := hjH.out; omega)
            rw [hI.out.is, if_neg (by omega), hfxH.out] at cU
            have fU := hI.out.u.frozen (j + k)
            have hcB := cr_lt (t := qt q g) (fun i => qt_le hqLH.out hgHH.out i) k
            have hbB := bw_le f (ot (qt q g)) k
            have hoB := ot_lt (qt q g) k
            have hxB := hfHH.out k
            have hyB := hgHH.out k
            obtain ⟨s1, s2, hs1, hs2, hs2B, hs3, hs4⟩ := sub_u64 hxB hoB hbB
            rw [show (if f k < ot (qt q g) k + bw f (ot (qt q g)) k then f k + Bs - (ot (qt q g) k + bw f (ot (qt q g)) k) else f k - (ot (qt q g) k + bw f (ot (qt q g)) k)) = df f (ot (qt q g)) k from rfl] at hs3
            rw [← bw_succ f (ot (qt q g)) k] at hs4
            have hP : qt q g k + cr (qt q g) k = q * g k + cr (qt q g) k := rfl
            have hot : (q * g k + cr (qt q g) k) % Bs = ot (qt q g) k := rfl
            have hcs : (q * g k + cr (qt q g) k) / Bs = cr (qt q g) (k + 1) := rfl
            obtain ⟨c, hc⟩ : ∃ t, cr (qt q g) k = t := ⟨_, rfl⟩
            rw [hc] at hcB hot hcs ⊢
            obtain ⟨y, hy⟩ : ∃ t, g k = t := ⟨_, rfl⟩
            rw [hy] at cV hyB hot hcs
            have hqy : q * y ≤ 4294967295 * 4294967295 := Nat.mul_le_mul (by omega) (by simp only [Bs] at hyB; omega)
            have hyw := Nu.wr64 (x := (y : Int)) (by omega) (by simp only [Bs] at hyB; omega)
            have hqyi : (q : Int) * (y : Int) = ((q * y : Nat) : Int) := rfl
            obtain ⟨qy, hqy0⟩ : ∃ t, q * y = t := ⟨_, rfl⟩
            rw [hqy0] at hqy hot hcs hqyi
            have hqyw := Nu.wr64 (x := (qy : Int)) (by omega) (by omega)
            have hpci : (qy : Int) + (c : Int) = ((qy + c : Nat) : Int) := rfl
            have hpcB : qy + c < 18446744073709551616 := by simp only [Bs] at hcB; omega
            obtain ⟨pc, hpc0⟩ : ∃ t, qy + c = t := ⟨_, rfl⟩
            rw [hpc0] at hot hcs hpci hpcB
            have hpcw := Nu.wr64 (x := (pc : Int)) (by omega) (by omega)
            have hpcs : (pc : Int) / 4294967296 = ((cr (qt q g) (k + 1) : Nat) : Int) := by rw [← hcs]; exact ediv_cast pc
            have hpca := bits_and_low pc hpcB
            rw [hot] at hpca
            obtain ⟨o, ho⟩ : ∃ t, ot (qt q g) k = t := ⟨_, rfl⟩
            rw [ho] at hpca hs1
            obtain ⟨b, hb⟩ : ∃ t, bw f (ot (qt q g)) k = t := ⟨_, rfl⟩
            rw [hb] at hs2 ⊢
            obtain ⟨x, hx⟩ : ∃ t, f k = t := ⟨_, rfl⟩
            rw [hx] at cU hs1 hxB
            have hxw := Nu.wr64 (x := (x : Int)) (by omega) (by simp only [Bs] at hxB; omega)
            obtain ⟨e, he⟩ : ∃ t, df f (ot (qt q g)) k = t := ⟨_, rfl⟩
            have heB : e < Bs := by rw [← he]; exact df_lt hfHH.out (ot_lt _) k
            rw [he] at hs3
            have hsm : (s2 : Int) % 4294967296 = (e : Int) := by rw [emod_cast, hs3]
            have hs32 : IntKind.u32.wrap (s2 : Int) = (e : Int) := by rw [conv32, hs3]
            have hsd : (s2 : Int) / 9223372036854775808 = ((bw f (ot (qt q g)) (k + 1) : Nat) : Int) := by rw [← hs4]; rfl
            have hI3 : Hid (TkI w (wr.setCell ⟨gu, j + k, none⟩ (.int .u32 (e : Int))) gu gv O V j (df f (ot (qt q g))) (k + 1) (O2.set (j + k) e)) := Lib.hid (hI.out.step hneH.out (by have := hjH.out; omega) he.symm heB)
            obtain ⟨c2, hc2⟩ : ∃ t, cr (qt q g) (k + 1) = t := ⟨_, rfl⟩
            rw [hc2] at hpcs
            obtain ⟨b2, hb2⟩ : ∃ t, bw f (ot (qt q g)) (k + 1) = t := ⟨_, rfl⟩
            rw [hb2] at hsd
            have hc2H := Lib.hid hc2
            have hb2H := Lib.hid hb2
            clear hs3 hs4 hP hot hcs hc hy hqy0 hpc0 ho hb hx he hc2 hb2 hcB hbB hoB hI
            go_wp2_with fail
            go_roundw
            case rel => exact ⟨k + 1, _, by rw [hb2H.out], by rw [hc2H.out], by first | rfl | go_num, by omega, hI3⟩
            case measure => first | (simp [intOf]; done) | (simp [intOf]; omega)
          · have hkl : n = k := by omega
            subst hkl
            have hUv : dsum f (m + 2) = dsum f (m + 1) + b1 * Bs ^ (m + 1) := by rw [dsum_succ f (m + 1), hb1H.out]
            have cU := hI.out.u.cell (j + n) (by rw [hI.out.len]; have := hjH.out; omega)
            rw [hI.out.is, if_neg (by omega), hfxH.out, hnmH.out, hb1H.out, ← hnmH.out] at cU
            have fU := hI.out.u.frozen (j + n)
            have hcB := cr_lt (t := qt q g) (fun i => qt_le hqLH.out hgHH.out i) n
            have hbB := bw_le f (ot (qt q g)) n
            obtain ⟨s1, s2, hs1, hs2, hs2B, hs3, hs4⟩ := sub_u64 hb1B hcB hbB
            have hvp : 0 < dsum g (m + 1) := by
              have := hksH.out.fits
              rcases Nat.eq_zero_or_pos (dsum g (m + 1)) with e | e
              · rw [e] at this; omega
              · exact e
            by_cases hle : q * dsum g (m + 1) ≤ dsum f (m + 2)
            · have htk := take_right (n := m + 1) (un := b1) hqLH.out hfHH.out hgHH.out (by rw [← hUv]; exact hle) (by rw [← hUv]; exact hhiH.out)
              rw [← hUv, ← hnmH.out] at htk
              obtain ⟨ht1, ht2⟩ := htk
              rw [show dsum g n = dsum g (m + 1) from by rw [hnmH.out]] at ht2
              rw [if_neg (by omega)] at hs3 hs4
              rw [← ht1, Nat.sub_self] at hs3
              have hqd : dsum f (m + 2) / dsum g (m + 1) = q := Nat.div_eq_of_lt_le hle hhiH.out
              have hqmod : dsum f (m + 2) % dsum g (m + 1) = dsum f (m + 2) - q * dsum g (m + 1) := by
                have := Nat.div_add_mod (dsum f (m + 2)) (dsum g (m + 1))
                rw [hqd, Nat.mul_comm] at this; omega
              have hfin := Lib.hid (hI.out.done (by have := hjH.out; omega))
              rw [ht2, ← hqmod] at hfin
              have hqdH := Lib.hid hqd
              have hqm := conv32 q
              rw [Nat.mod_eq_of_lt hqLH.out] at hqm
              have hqm2 : (q : Int) % 4294967296 = (q : Int) := by omega
              obtain ⟨c, hc⟩ : ∃ t, cr (qt q g) n = t := ⟨_, rfl⟩
              obtain ⟨b, hb⟩ : ∃ t, bw f (ot (qt q g)) n = t := ⟨_, rfl⟩
              rw [hc] at hs1 ⊢
              rw [hb] at hs2 ⊢
              have hsm : (s2 : Int) % 4294967296 = 0 := by rw [emod_cast, hs3]; rfl
              have hs32 : IntKind.u32.wrap (s2 : Int) = 0 := by rw [conv32, hs3]; rfl
              have hsd : (s2 : Int) / 9223372036854775808 = 0 := by omega
              clear hUv hcB hbB hs3 hs4 hvp hle ht1 ht2 hqd hqmod hc hb hI
              go_wp2_with fail
              go_ret
              exact ⟨by first | (rw [hqdH.out]) | (rw [← hqdH.out]; rfl) | (rw [← hqdH.out]; simp), _, hfin.out.1, hfin.out.2.1, hfin.out.2.2.1, hfin.out.2.2.2.1, hfin.out.2.2.2.2.1, hfin.out.2.2.2.2.2⟩
            · have hgt : dsum f (m + 2) < q * dsum g (m + 1) := by omega
              have htk := take_wrong (n := m + 1) (un := b1) hqLH.out hfHH.out hgHH.out (by rw [← hUv]; exact hgt) (by rw [← hUv]; exact Nat.le_of_lt hloH.out)
              rw [← hUv, ← hnmH.out] at htk
              obtain ⟨ht1, ht2, ht3⟩ := htk
              obtain ⟨D, hD⟩ : ∃ t, df f (ot (qt q g)) = t := ⟨_, rfl⟩
              have hDB : Hid (∀ i, D i < Bs) := Lib.hid (fun i => by rw [← hD]; exact df_lt hfHH.out (ot_lt _) i)
              simp only [hD] at ht2 ht3 hI
              rw [show dsum g n = dsum g (m + 1) from by rw [hnmH.out]] at ht3
              rw [if_pos (by omega)] at hs3 hs4
              rw [show b1 + Bs - (cr (qt q g) n + bw f (ot (qt q g)) n) = 4294967295 by simp only [Bs]; omega] at hs3
              have hqp : 0 < q := by
                rcases Nat.eq_zero_or_pos q with e | e
                · subst e; rw [Nat.zero_mul] at hgt; omega
                · exact e
              obtain ⟨q', hq'⟩ : ∃ t, q = t + 1 := ⟨q - 1, by omega⟩
              have hlo' := hloH.out
              rw [hq', Nat.succ_mul] at hgt hlo' ht3
              have hqd : dsum f (m + 2) / dsum g (m + 1) = q' := Nat.div_eq_of_lt_le (by omega) (by rw [Nat.succ_mul]; omega)
              have hqmod : dsum f (m + 2) % dsum g (m + 1) = dsum f (m + 2) - q' * dsum g (m + 1) := by
                have := Nat.div_add_mod (dsum f (m + 2)) (dsum g (m + 1))
                rw [hqd, Nat.mul_comm] at this; omega
              rw [show dsum f (m + 2) + dsum g (m + 1) - (q' * dsum g (m + 1) + dsum g (m + 1)) = dsum f (m + 2) % dsum g (m + 1) by omega] at ht3
              have hqdH := Lib.hid hqd
              have hqi : (q : Int) - 1 = (q' : Int) := by omega
              have hqmw := Nu.wr64 (x := (q' : Int)) (by omega) (by omega)
              have hqm := conv32 q'
              rw [Nat.mod_eq_of_lt (by simp only [Bs]; omega)] at hqm
              have hqm2 : (q' : Int) % 4294967296 = (q' : Int) := by omega
              obtain ⟨c, hc⟩ : ∃ t, cr (qt q g) n = t := ⟨_, rfl⟩
              obtain ⟨b, hb⟩ : ∃ t, bw f (ot (qt q g)) n = t := ⟨_, rfl⟩
              rw [hc] at hs1 ⊢
              rw [hb] at hs2 ⊢
              obtain ⟨e1, he1⟩ : ∃ t : Nat, t = 4294967295 := ⟨_, rfl⟩
              rw [← he1] at hs3
              have hsm : (s2 : Int) % 4294967296 = (e1 : Int) := by rw [emod_cast, hs3]
              have hs32 : IntKind.u32.wrap (s2 : Int) = (e1 : Int) := by rw [conv32, hs3]
              have hsd : (s2 : Int) / 9223372036854775808 = 1 := by omega
              have he1H := Lib.hid he1
              have ht2H := Lib.hid ht2
              have ht3H := Lib.hid ht3
              have hln : j + n < O2.length := by rw [hI.out.len]; have := hjH.out; omega
              have hI4 : Hid (TkI w (wr.setCell ⟨gu, j + n, none⟩ (.int .u32 (e1 : Int))) gu gv (O2.set (j + n) e1) V j (ot fun k => D k + g k) 0 (O2.set (j + n) e1)) := Lib.hid ⟨hI.out.u.set _ _, hI.out.v.other _ _ (fun e => hneH.out e.symm), hI.out.kept.setCell (p := ⟨gu, j + n, none⟩) (.inl rfl) _, rfl, dig_set hI.out.dig (by rw [he1]; decide), fun i => by rw [if_neg (by omega)]⟩
              have hbaseD : Hid (∀ k, k < n → gd (O2.set (j + n) e1) (j + k) = D k) := Lib.hid (fun k hk => by
                rw [gd_set hln, if_neg (by omega), hI.out.is, if_pos (by omega), show j + k - j = k by omega])
              have hbaseE : Hid (gd (O2.set (j + n) e1) (j + n) = e1) := Lib.hid (by rw [gd_set hln, if_pos rfl])
              have hbaseO : Hid (∀ i, i < j ∨ j + n < i → gd (O2.set (j + n) e1) i = gd O i) := Lib.hid (fun i hi => by
                rw [gd_set hln, if_neg (by omega), hI.out.is, if_neg (by omega)])
              have hbaseL : Hid ((O2.set (j + n) e1).length = O.length) := Lib.hid (by rw [List.length_set]; exact hI.out.len)
              obtain ⟨O4, hO4⟩ : ∃ t, O2.set (j + n) e1 = t := ⟨_, rfl⟩
              rw [hO4] at hI4 hbaseD hbaseE hbaseO hbaseL
              clear hUv hcB hbB hs3 hs4 hvp hle ht1 ht2 ht3 hqd hqmod hc hb hI hgt hq' hlo' hqp he1 hD hln hO4
              go_wp2_with fail
              go_loopw [10, 143] (fun vc vk wr => ∃ (k : Nat) (O2 : List Nat), vc = .int .u64 ((cr (fun k => D k + g k) k : Nat) : Int) ∧ vk = .int .i64 (k : Int) ∧ k ≤ n ∧ Hid (TkI w wr gu gv O4 V j (ot fun k => D k + g k) k O2)) (fun _ vk _ => n - (intOf vk).toNat)
              case atStart => exact ⟨0, O4, rfl, rfl, Nat.zero_le _, hI4⟩
              case round =>
                obtain ⟨k, O2, rfl, rfl, hk, hI⟩ := hrel
                clear hI4
                by_cases hlt : (k : Int) < n
                · have hkl : k < n := by omega
                  have hklu : (k : Int) < (n : Int) + 1 := by omega
                  have cV := hI.out.v.cell k (by have := hnVH.out; omega)
                  rw [hgEH.out] at cV
                  have cU := hI.out.u.cell (j + k) (by rw [hI.out.len, hbaseL.out]; have := hjH.out; omega)
                  rw [hI.out.is, if_neg (by omega), hbaseD.out k hkl] at cU
                  have hcB : cr (fun k => D k + g k) k ≤ 1 := cr_one (fun i => by have := hDB.out i; have := hgHH.out i; simp only [Bs] at *; omega) k
                  have hxB := hDB.out k
                  have hyB := hgHH.out k
                  have hot : (D k + g k + cr (fun k => D k + g k) k) % Bs = ot (fun k => D k + g k) k := rfl
                  have hcs : (D k + g k + cr (fun k => D k + g k) k) / Bs = cr (fun k => D k + g k) (k + 1) := rfl
                  obtain ⟨c, hc⟩ : ∃ t, cr (fun k => D k + g k) k = t := ⟨_, rfl⟩
                  rw [hc] at hcB hot hcs ⊢
                  obtain ⟨y, hy⟩ : ∃ t, g k = t := ⟨_, rfl⟩
                  obtain ⟨x, hx⟩ : ∃ t, D k = t := ⟨_, rfl⟩
                  rw [hy] at cV hyB hot hcs
                  rw [hx] at cU hxB hot hcs
                  simp only [Bs] at hxB hyB
                  have hyw := Nu.wr64 (x := (y : Int)) (by omega) (by omega)
                  have hxw := Nu.wr64 (x := (x : Int)) (by omega) (by omega)
                  have hxyw := Nu.wr64 (x := (x : Int) + (y : Int)) (by omega) (by omega)
                  have hsi : (x : Int) + (y : Int) + (c : Int) = ((x + y + c : Nat) : Int) := rfl
                  have hsB : x + y + c < 8589934592 := by omega
                  obtain ⟨sm, hsm0⟩ : ∃ t, x + y + c = t := ⟨_, rfl⟩
                  rw [hsm0] at hsi hsB hot hcs
                  have hsw := Nu.wr64 (x := (sm : Int)) (by omega) (by omega)
                  obtain ⟨e, he⟩ : ∃ t, ot (fun k => D k + g k) k = t := ⟨_, rfl⟩
                  have heB : e < Bs := by rw [← he]; exact ot_lt _ k
                  rw [he] at hot
                  have hsm : (sm : Int) % 4294967296 = (e : Int) := by rw [emod_cast, hot]
                  have hs32 : IntKind.u32.wrap (sm : Int) = (e : Int) := by rw [conv32, hot]
                  have hsd : (sm : Int) / 4294967296 = ((cr (fun k => D k + g k) (k + 1) : Nat) : Int) := by rw [← hcs]; exact ediv_cast sm
                  obtain ⟨c2, hc2⟩ : ∃ t, cr (fun k => D k + g k) (k + 1) = t := ⟨_, rfl⟩
                  rw [hc2] at hsd
                  have hc2H := Lib.hid hc2
                  have heH := Lib.hid he
                  have heBH := Lib.hid heB
                  clear hot hcs hc hy hx hsm0 he hc2 heB hcB
                  go_upto_region 24 with (fail)
                  go_quiet (fail)
                  have hI3 : Hid (TkI w ((wr.drewN nq).setCell ⟨gu, j + k, none⟩ (.int .u32 (e : Int))) gu gv O4 V j (ot fun k => D k + g k) (k + 1) (O2.set (j + k) e)) := Lib.hid ((hI.out.drewN nq).step hneH.out (by rw [hbaseL.out]; have := hjH.out; omega) heH.out.symm heBH.out)
                  have fU := (hI.out.drewN nq).u.frozen (j + k)
                  have cU2 : (wr.drewN nq).cell? ⟨gu, j + k, none⟩ = _ := cU
                  clear hI
                  go_wp2_with fail
                  go_roundw
                  case rel => exact ⟨k + 1, _, by rw [hc2H.out], by first | rfl | go_num, by omega, hI3⟩
                  case measure => first | (simp [intOf]; done) | (simp [intOf]; omega)
                · have hkl : n = k := by omega
                  subst hkl
                  have cU := hI.out.u.cell (j + n) (by rw [hI.out.len, hbaseL.out]; have := hjH.out; omega)
                  rw [hI.out.is, if_neg (by omega), hbaseE.out] at cU
                  have fU := hI.out.u.frozen (j + n)
                  have hfin := Lib.hid (hI.out.done (by rw [hbaseL.out]; have := hjH.out; omega))
                  rw [ht3H.out, hbaseL.out] at hfin
                  have hO : Hid (∀ i, i < j ∨ j + n < i → gd (O2.set (j + n) 0) i = gd O i) := Lib.hid (fun i hi => (hfin.out.2.2.2.1 i hi).trans (hbaseO.out i hi))
                  obtain ⟨c3, hc3⟩ : ∃ t, cr (fun k => D k + g k) n = t := ⟨_, rfl⟩
                  have hc31 : c3 = 1 := by rw [← hc3]; exact ht2H.out
                  rw [hc3]
                  have hc3m : (c3 : Int) % 4294967296 = (c3 : Int) := by omega
                  have hc3w : IntKind.u32.wrap (c3 : Int) = (c3 : Int) := by rw [hc31]; rfl
                  have hsum : IntKind.u32.wrap ((e1 : Int) + (c3 : Int)) = 0 := by rw [hc31, he1H.out]; rfl
                  clear hc3 hc31 hI
                  go_wp2_with fail
                  go_ret
                  exact ⟨by first | (rw [hqdH.out]) | (rw [← hqdH.out]; rfl) | (rw [← hqdH.out]; simp), _, hfin.out.1, hfin.out.2.1, hfin.out.2.2.1, hO.out, hfin.out.2.2.2.2.1, hfin.out.2.2.2.2.2⟩
end Go.Proofs.YtffehdfddkgggaaDoor.Nu

/- Cmp: the iterator. -/
namespace Go.Proofs.YtffehdfddkgggaaDoor.Nu
open Go.RowKit Rt
set_option linter.unusedSimpArgs false
set_option linter.unusedVariables false
open Go.Shelf
attribute [local go_sem] Oper.semAt_some
/-- The digits from behind, each with its place. -/
def bkD (A : List Nat) : Nat → List (Nat × Nat)
  | 0 => []
  | k + 1 => (k, gd A k) :: bkD A k
abbrev Dg (A : List Nat) := { p : Nat × Nat // p.1 < A.length ∧ p.2 = gd A p.1 }
set_option maxRecDepth 100000 in
set_option maxHeartbeats 1000000 in
theorem back1_in (F : Fence) (n : Nat) (h60 : F.fn 60) (hro : F.round = none) (hn : 1 ≤ n) (l Bs0 : Nat) (w0 : World) (A : List Nat) (a : Option Addr) (la ca : Nat) (hla : A.length = la) (hA : SlD w0 (.slice a la ca) A) (hl : la ≤ 1000000) (hcB : w0.cell? ⟨Bs0, 0, none⟩ = some (.slice a la ca)) (hBs : Bs0 < w0.heap.size) (J Jx : List (Dg A) → World → Prop)
    (hY : ∀ pre x W, J pre W → pre.length < la → YieldAt F (n - 1) Tryd.prog l #[Value.int .i64 (x.1.1 : Int), Value.int .u32 (x.1.2 : Int)] W fun e W' =>
      (e = .returned (.bool true) ∧ J (pre ++ [x]) W' ∧ Below w0.heap.size W W') ∨ (e = .returned (.bool false) ∧ Jx (pre ++ [x]) W'))
    (W : World) (hB : Below w0.heap.size w0 W) (h0 : J [] W) :
    CallsIn F n Tryd.prog 60 #[.func (.yield l) #[] #[], .pointer (some ⟨Bs0, 0, none⟩)] W fun e W' => (∃ v, e = .returned v) ∧
      ((∃ ys, ys.map (·.1) = bkD A la ∧ J ys W') ∨ (∃ pre, pre.map (·.1) <+: bkD A la ∧ Jx pre W')) := by
  have hAH := Lib.hid hA
  have hlaH := Lib.hid hla
  have hcBH := Lib.hid hcB
  have hc0 : W.cell? ⟨Bs0, 0, none⟩ = some (.slice a la ca) := (hB.cell (p := ⟨Bs0, 0, none⟩) hBs).trans hcB
  have hlw := Nu.wr (x := (la : Int) - 1) (by omega) (by omega)
  have hpre0 : Hid (bkD A la = ([] : List (Dg A)).map (·.1) ++ bkD A la) := Lib.hid rfl
  have hBH := Lib.hid hB
  clear hA hla hcB hB
  refine callsIn_of_wp Tryd.func60 rfl h60 ?_ hro
  simp only [Tryd.ntmps60, List.size_toArray, List.length_cons, List.length_nil, Nat.reduceAdd, Nat.reduceSub, Array.replicate_succ, Array.replicate_zero, List.push_toArray, List.append_toArray, List.nil_append, List.cons_append]
  gi_wp2
  gi_loopw [3] (fun i wr => ∃ (k : Nat) (pre : List (Dg A)), k ≤ la ∧ i = .int .i64 ((k : Int) - 1) ∧ pre.length + k = la ∧ Hid (bkD A la = pre.map (·.1) ++ bkD A k) ∧ J pre wr ∧ Hid (Below w0.heap.size w0 wr))
    (fun i _ => (intOf i + 1).toNat)
  case atStart => exact ⟨la, [], Nat.le_refl _, rfl, by simp, hpre0, h0, hBH⟩
  case round =>
    obtain ⟨k, pre, hk, rfl, hlen, hpre, hJs, hBr⟩ := hrel
    clear hc0
    have hcr : wr.cell? ⟨Bs0, 0, none⟩ = some (.slice a la ca) := (hBr.out.cell (p := ⟨Bs0, 0, none⟩) hBs).trans hcBH.out
    by_cases hlt : (0 : Int) ≤ (k : Int) - 1
    · obtain ⟨j, rfl⟩ : ∃ j, k = j + 1 := ⟨k - 1, by omega⟩
      have hj1 : ((j + 1 : Nat) : Int) - 1 = (j : Int) := by omega
      rw [hj1] at hlt ⊢
      have hjl : (j : Int) < la := by omega
      have hjw := Nu.wr (x := (j : Int) - 1) (by omega) (by omega)
      obtain ⟨b, off, rfl, cA⟩ := hAH.out.at hBr.out (j := j) (by rw [hlaH.out]; omega)
      have hjA : j < A.length := by rw [hlaH.out]; omega
      have hE : Hid (bkD A la = (pre ++ [(⟨(j, gd A j), hjA, rfl⟩ : Dg A)]).map (·.1) ++ bkD A j) := Lib.hid (by rw [hpre.out]; simp [bkD])
      have hlen2 : Hid ((pre ++ [(⟨(j, gd A j), hjA, rfl⟩ : Dg A)]).length + j = la) := Lib.hid (by rw [List.length_append, List.length_singleton]; omega)
      obtain ⟨fn, tmps, assign, body, hy, hR⟩ := hY pre ⟨(j, gd A j), hjA, rfl⟩ wr hJs (by omega)
      try unfold encDg at hy
      try dsimp only at hy
      clear hlen hpre hJs
      gi_wp2
      refine hR.mono ?_
      rintro e W3 (⟨rfl, hJ3, hk3⟩ | ⟨rfl, hJx3⟩)
      · have hB3 := Lib.hid (hBr.out.trans hk3)
        clear hk3 hBr
        gi_wp2
        go_roundw
        case rel => exact ⟨j, _, by omega, by first | rfl | go_num, hlen2.out, hE, hJ3, hB3⟩
        case measure => first | (simp [intOf]; done) | (simp [intOf]; omega)
      · gi_wp2
        refine bodyPost_ret (results_none rfl _ _ _) rfl ?_
        exact ⟨⟨_, rfl⟩, .inr ⟨_, ⟨_, hE.out.symm⟩, hJx3⟩⟩
    · have hk0 : k = 0 := by omega
      subst hk0
      have hE : Hid (bkD A la = pre.map (·.1)) := Lib.hid (by rw [hpre.out]; simp [bkD])
      gi_wp2
      go_end0
      exact ⟨⟨_, rfl⟩, .inl ⟨pre, hE.out.symm, hJs⟩⟩
/-- slices.Backward: a function value that has its slice in a box. -/
theorem back_any (a : Option Addr) (la ca : Nat) (w : World) :
    Calls Tryd.prog 43 #[.slice a la ca] w fun e w' => e = .returned (.func (.func 60) #[] #[.pointer (some ⟨w.heap.size, 0, none⟩)]) ∧ w' = w.alloc (.cells #[.slice a la ca] 24) := by
  go_enter Tryd.func43, Tryd.ntmps43
  go_wp2_with fail
  go_ret
  exact ⟨rfl, rfl⟩
theorem back_stops (F : Fence) (n : Nat) (h60 : F.fn 60) (hro : F.round = none) (hn : 1 ≤ n) (Bs0 : Nat) (w0 : World) (A : List Nat) (a : Option Addr) (la ca : Nat) (hla : A.length = la) (hA : SlD w0 (.slice a la ca) A) (hl : la ≤ 1000000) (hcB : w0.cell? ⟨Bs0, 0, none⟩ = some (.slice a la ca)) (hBs : Bs0 < w0.heap.size) :
    SeqStopsK F n Tryd.prog 60 #[.pointer (some ⟨Bs0, 0, none⟩)] (fun x : Dg A => #[Value.int .i64 (x.1.1 : Int), Value.int .u32 (x.1.2 : Int)]) (Below w0.heap.size) (fun ys => ys.map (·.1) = bkD A la) (fun pre => pre.map (·.1) <+: bkD A la) la w0 := fun l J Jx W hW _ _ hY h0 =>
  back1_in F n h60 hro hn l Bs0 w0 A a la ca hla hA hl hcB hBs J Jx hY W hW h0
/-- What a walk from behind says of two rows. -/
def goC (A C : List Nat) : List (Nat × Nat) → Int
  | [] => 0
  | x :: l => if x.2 < gd C x.1 then -1 else if gd C x.1 < x.2 then 1 else goC A C l
theorem goC_bk (A C : List Nat) : ∀ k, goC A C (bkD A k) = cmpTo A C k
  | 0 => rfl
  | k + 1 => by
    show (if gd A k < gd C k then -1 else if gd C k < gd A k then 1 else goC A C (bkD A k)) = (if gd A k < gd C k then -1 else if gd C k < gd A k then 1 else cmpTo A C k)
    rw [goC_bk A C k]
theorem goC_app_same (A C : List Nat) (P : List (Nat × Nat)) (x : Nat × Nat) (v : Int) (hp : ∀ l, goC A C (P ++ l) = goC A C l) (hv : ∀ l, goC A C (x :: l) = v) : ∀ l, goC A C ((P ++ [x]) ++ l) = v := fun l => by
  rw [List.append_assoc, hp]; exact hv l
theorem goC_app_go (A C : List Nat) (P : List (Nat × Nat)) (x : Nat × Nat) (hp : ∀ l, goC A C (P ++ l) = goC A C l) (hv : x.2 = gd C x.1) : ∀ l, goC A C ((P ++ [x]) ++ l) = goC A C l := fun l => by
  rw [List.append_assoc, hp]
  show goC A C (x :: l) = _
  unfold goC
  rw [if_neg (by omega), if_neg (by omega)]
  cases l <;> rfl
set_option maxRecDepth 100000 in
set_option maxHeartbeats 2000000 in
theorem Cmp_len {w : World} {u v : Value} {A C : List Nat} (hu : SlD w u A) (hv : SlD w v C) (hA : Norm A) (hC : Norm C) (hlA : A.length ≤ 1000000) (hlC : C.length ≤ 1000000) (hne : A.length ≠ C.length) :
    Calls Tryd.prog 21 #[.agg #[u], .agg #[v]] w fun e w' => e = .returned (.int .i64 (cmpN (val A) (val C))) ∧ Below w.heap.size w w' := by
  obtain ⟨a, ca, rfl, _, _⟩ := id hu
  obtain ⟨b, cb, rfl, _, _⟩ := id hv
  rw [cmp_len hA hC hne]
  obtain ⟨la, hla⟩ : ∃ n, A.length = n := ⟨_, rfl⟩
  obtain ⟨lb, hlb⟩ : ∃ n, C.length = n := ⟨_, rfl⟩
  rw [hla] at hlA hne ⊢
  rw [hlb] at hlC hne ⊢
  have hn1 : ((la : Int) != (lb : Int)) = true := by simp; omega
  have hM : min 1 (max (-1) ((la : Int) - (lb : Int))) = (if la < lb then (-1 : Int) else 1) := by split <;> omega
  obtain ⟨r, hr⟩ : ∃ r : Int, (if la < lb then (-1 : Int) else 1) = r := ⟨_, rfl⟩
  rw [hr] at hM ⊢
  clear hr
  have hlw := Nu.wr (x := (la : Int) - (lb : Int)) (by omega) (by omega)
  clear hu hv hA hC hla hlb
  go_enter Tryd.func21, Tryd.ntmps21
  go_wp2_with fail
  have hE : Below w.heap.size w (((w.alloc (.cells #[.slice a la ca] 26)).alloc (.cells #[.slice b lb cb] 26)).alloc (.cells #[.int .i64 r] 3)) := (((Below.refl _ w).alloc (Nat.le_refl _) _).alloc (by simp) _).alloc (by simp; omega) _
  have r0 := (Boxed.new ((w.alloc (.cells #[.slice a la ca] 26)).alloc (.cells #[.slice b lb cb] 26)) 3 (.int .i64 r)).cell
  simp only [World.size_alloc] at r0
  obtain ⟨W3, hW3⟩ : ∃ W, ((w.alloc (.cells #[.slice a la ca] 26)).alloc (.cells #[.slice b lb cb] 26)).alloc (.cells #[.int .i64 r] 3) = W := ⟨_, rfl⟩
  rw [hW3] at r0 hE ⊢
  exact bodyPost_ret (v := .int .i64 r) (by simp [results, Tryd.results21, go_sem, r0]) rfl ⟨rfl, hE⟩
set_option maxRecDepth 100000 in
set_option maxHeartbeats 2000000 in
theorem Cmp_same {w : World} {u v : Value} {A C : List Nat} (hu : SlD w u A) (hv : SlD w v C) (hA : Norm A) (hC : Norm C) (hlA : A.length ≤ 1000000) (hne : A.length = C.length) :
    Calls Tryd.prog 21 #[.agg #[u], .agg #[v]] w fun e w' => e = .returned (.int .i64 (cmpN (val A) (val C))) ∧ Below w.heap.size w w' := by
  obtain ⟨a, ca, rfl, _, _⟩ := id hu
  obtain ⟨b, cb, rfl, _, _⟩ := id hv
  rw [cmp_same hA hC hne, ← goC_bk]
  obtain ⟨la, hla⟩ : ∃ n, A.length = n := ⟨_, rfl⟩
  rw [← hne] at hv ⊢
  rw [hla] at hlA hu hv ⊢
  have huH := Lib.hid hu
  have hvH := Lib.hid hv
  have hlaH := Lib.hid hla
  have hlcH := Lib.hid (hne.symm.trans hla)
  have hBox0 := (Boxed.new w 26 (.slice a la ca))
  have hBox1 := (Boxed.new (w.alloc (.cells #[.slice a la ca] 26)) 26 (.slice b la cb))
  have hBox2 := (Boxed.new ((w.alloc (.cells #[.slice a la ca] 26)).alloc (.cells #[.slice b la cb] 26)) 3 (.int .i64 0))
  simp only [World.size_alloc] at hBox1 hBox2
  have hbb : Below w.heap.size w (((w.alloc (.cells #[.slice a la ca] 26)).alloc (.cells #[.slice b la cb] 26)).alloc (.cells #[.int .i64 0] 3)) := (((Below.refl _ w).alloc (Nat.le_refl _) _).alloc (by simp) _).alloc (by simp; omega) _
  have y0 := ((hBox0.alloc (.cells #[.slice b la cb] 26)).alloc (.cells #[.int .i64 0] 3))
  have y1 := hBox1.alloc (.cells #[.int .i64 0] 3)
  have hsz : (((w.alloc (.cells #[.slice a la ca] 26)).alloc (.cells #[.slice b la cb] 26)).alloc (.cells #[.int .i64 0] 3)).heap.size = w.heap.size + 3 := by simp
  obtain ⟨w3, hw3⟩ : ∃ W, ((w.alloc (.cells #[.slice a la ca] 26)).alloc (.cells #[.slice b la cb] 26)).alloc (.cells #[.int .i64 0] 3) = W := ⟨_, rfl⟩
  rw [hw3] at hBox2 hbb y0 y1 hsz
  have hw3H := Lib.hid hw3
  clear hu hv hA hC hla hne hBox0 hBox1 hw3
  have c0 := y0.cell
  have c1 := y1.cell
  refine (callsIn_wide (n := 100)).1 (callsIn_of_wp_marks Tryd.func21 rfl trivial (wpIn_wide.2 ?_) rfl)
  simp only [Tryd.ntmps21, List.size_toArray, List.length_cons, List.length_nil, Nat.reduceAdd, Nat.reduceSub, Array.replicate_succ, Array.replicate_zero, List.push_toArray, List.append_toArray, List.nil_append, List.cons_append]
  go_upto_region 1 with (fail)
  rw [hw3H.out]
  clear hw3H
  go_wp2_with (go_at_call 43; refine (back_any a la ca w3).mono ?_; rintro e w' ⟨rfl, rfl⟩)
  have hb4 : Below w.heap.size w (w3.alloc (.cells #[.slice a la ca] 24)) := hbb.alloc (by omega) _
  have hz4 : (w3.alloc (.cells #[.slice a la ca] 24)).heap.size = w.heap.size + 4 := by simp [hsz]
  have z1 := y1.alloc (.cells #[.slice a la ca] 24)
  have z2 := hBox2.alloc (.cells #[.slice a la ca] 24)
  have z3 := (Boxed.new w3 24 (.slice a la ca)).cell
  rw [hsz] at z3
  obtain ⟨w4, hw4⟩ : ∃ W, w3.alloc (.cells #[.slice a la ca] 24) = W := ⟨_, rfl⟩
  rw [hw4] at hb4 hz4 z1 z2 z3 ⊢
  have huA4 : SlD w4 (.slice a la ca) A := huH.out.below hb4
  have huC4 : Hid (SlD w4 (.slice b la cb) C) := Lib.hid (hvH.out.below hb4)
  clear hw4 hbb y0 y1 hBox2 c0 c1 hsz huH hvH
  refine wpIn_wide.1 (wpIn_rangeFunc_ownG (F := Fence.wide) (n := 100) rfl (by omega) (gf := 60) (lb := #[.pointer (some ⟨w.heap.size + 3, 0, none⟩)]) rfl trivial (enters_of Tryd.func60 (by kernel_rfl) rfl)
    (back_stops Fence.wide 99 trivial rfl (by omega) (w.heap.size + 3) w4 A a la ca hlaH.out huA4 hlA z3 (by omega)) belowK_t (belowK_b (Nat.le_refl _)) (Below.refl _ _) (fun _ => rfl)
    (fun pre W => (∀ l, goC A C (pre.map (·.1) ++ l) = goC A C l) ∧ Below w4.heap.size w4 W)
    (fun c pre W => (c = .ret ∧ ∃ v, (∀ l, goC A C (pre.map (·.1) ++ l) = v) ∧ Boxed W (w.heap.size + 1 + 1) 3 (.int .i64 v)) ∧ Below w.heap.size w W)
    (OwnFrom.and (Own.from (fun pre A B row hs hg hr => hs) _) (ownFrom_below (Nat.le_refl _) (Nat.le_refl _)))
    (fun c => OwnFrom.and (Own.from (fun pre A B row hs hg hr => by
      obtain ⟨h1, v, h2, h3⟩ := hs
      exact ⟨h1, v, h2, h3.kept hg (fun e => by obtain ⟨o, ho, hc⟩ := hr _ e.symm; rw [show A.heap[w.heap.size + 1 + 1]? = _ from h3] at ho; cases ho; cases hc)⟩) _) (ownFrom_below (Nat.le_refl _) (by omega)))
    ⟨fun l => rfl, Below.refl _ _⟩
    (fun x => { tmps := #[.agg #[.slice a la ca], .agg #[.slice b la cb], .pointer (some ⟨w.heap.size, 0, none⟩), .pointer (some ⟨w.heap.size + 1, 0, none⟩), .pointer (some ⟨w.heap.size + 1 + 1, 0, none⟩), .int .i64 (x.1.1 : Int), .int .u32 (x.1.2 : Int), undef, .pointer (some ⟨w.heap.size, 0, none⟩), .slice a la ca, .int .i64 la, .pointer (some ⟨w.heap.size + 1, 0, none⟩), .slice b la cb, .int .i64 la, .bool false, undef, undef, undef, undef, undef, undef, undef, undef, undef, .pointer (some ⟨w.heap.size, 0, none⟩), .slice a la ca, .func (.func 60) #[] #[.pointer (some ⟨w.heap.size + 3, 0, none⟩)], .int .i64 (x.1.1 : Int), .int .u32 (x.1.2 : Int), undef, undef, undef, undef, undef, undef, undef, undef, undef, undef, undef, undef, undef], defers := [] }) ?assign ?body ?done ?stop)
  case assign =>
    intro l x W K hK
    gi_wp2
    exact hK
  case body =>
    rintro l pre x W ⟨hp, hB⟩ hlt
    obtain ⟨hx1, hx2⟩ := x.2
    have hpH := Lib.hid hp
    have hbw := Lib.hid (hb4.trans (hB.mono (by omega)))
    obtain ⟨b0, off, rfl, cC⟩ := huC4.out.at hB (j := x.1.1) (by rw [hlcH.out]; have := hlaH.out; omega)
    have c1 := (hB.cell (p := ⟨w.heap.size + 1, 0, none⟩) (show w.heap.size + 1 < w4.heap.size by omega)).trans z1.cell
    have y2 : Boxed W (w.heap.size + 1 + 1) 3 (.int .i64 0) := (hB.block _ (by omega)).trans z2
    have y2H := Lib.hid y2
    have c2 := y2.cell
    have f2 := y2.frozen
    have hBH := Lib.hid hB
    obtain ⟨k, hk⟩ : ∃ q, x.1.1 = q := ⟨_, rfl⟩
    have hkl : (k : Int) < la := by have := hlaH.out; omega
    obtain ⟨y, hy⟩ : ∃ q, gd C x.1.1 = q := ⟨_, rfl⟩
    obtain ⟨d, hd⟩ : ∃ q, x.1.2 = q := ⟨_, rfl⟩
    have hvd : Hid (∀ v, (if d < y then (-1 : Int) else if y < d then 1 else 0) = v → v ≠ 0 → ∀ l, goC A C ((pre ++ [x]).map (·.1) ++ l) = v) := Lib.hid (fun v h1 h2 l => by
      rw [List.map_append, List.map_singleton]
      refine goC_app_same A C _ _ v hpH.out (fun l => ?_) l
      unfold goC
      rw [hd, hy]
      by_cases q1 : d < y
      · rw [if_pos q1] at h1 ⊢; exact h1
      · rw [if_neg q1] at h1 ⊢
        by_cases q2 : y < d
        · rw [if_pos q2] at h1 ⊢; exact h1
        · rw [if_neg q2] at h1; exact absurd h1.symm h2)
    have hvg : Hid (d = y → ∀ l, goC A C ((pre ++ [x]).map (·.1) ++ l) = goC A C l) := Lib.hid (fun h1 l => by
      rw [List.map_append, List.map_singleton]
      exact goC_app_go A C _ _ hpH.out (by rw [hd, hy]; exact h1) l)
    rw [hy] at cC
    rw [hk] at cC
    rw [hk, hd]
    clear hp hB hx1 hx2 hy hd hk y2 z1 z2 z3 huA4
    by_cases q1 : d < y
    · have hr := Lib.hid (hvd.out (-1) (by rw [if_pos q1]) (by decide))
      have q1i : (d : Int) < y := by omega
      clear hvd hvg
      gi_wp2
      exact ⟨(KeepsOthers.setCell _ _ _).from _, ⟨rfl, -1, hr.out, y2H.out.set _⟩, hbw.out.setCell (p := ⟨w.heap.size + 1 + 1, 0, none⟩) (by simp; omega) _⟩
    · by_cases q2 : y < d
      · have hr := Lib.hid (hvd.out 1 (by rw [if_neg q1, if_pos q2]) (by decide))
        clear hvd hvg
        gi_wp2
        exact ⟨(KeepsOthers.setCell _ _ _).from _, ⟨rfl, 1, hr.out, y2H.out.set _⟩, hbw.out.setCell (p := ⟨w.heap.size + 1 + 1, 0, none⟩) (by simp; omega) _⟩
      · have hr := Lib.hid (hvg.out (by omega))
        clear hvd hvg
        gi_wp2
        exact ⟨(KeepsOthers.refl W).from _, Below.refl _ _, hr.out, hBH.out⟩
  case done =>
    rintro D ys W hD hys ⟨hp, hB⟩ hK
    have hv : goC A C (bkD A la) = 0 := by
      have h := hp []
      rw [List.append_nil, hys] at h
      rw [h]; rfl
    have hvH := Lib.hid hv
    have y2 : Boxed W (w.heap.size + 1 + 1) 3 (.int .i64 0) := (hB.block _ (by omega)).trans z2
    have hbw := Lib.hid (hb4.trans (hB.mono (by omega)))
    have y2H := Lib.hid y2
    have c2 := y2.cell
    have f2 := y2.frozen
    clear hp hys hv z1 z2 z3 huA4 hB y2
    simp only [Exit.inBlock]
    go_wp2
    have hK2 := (KeepsOthers.setCell W ⟨w.heap.size + 1 + 1, 0, none⟩ (.int .i64 0)).same D _ hK rfl
    refine ⟨by simp, .inl ⟨_, _, rfl, run_takeDeferred hK2, ?_⟩⟩
    have hc5 := cell_kept (World.cell?_setCell_same' W ⟨w.heap.size + 1 + 1, 0, none⟩ (.int .i64 0) (by rw [c2]; rfl)) (grownBy_putObj' _ D (.deferred none)) (fun r e => by cases e; exact ⟨_, hK2, rfl⟩)
    exact ⟨.int .i64 0, by simp [results, Tryd.f21, go_sem, hc5], by rw [hvH.out], (hbw.out.setCell (p := ⟨w.heap.size + 1 + 1, 0, none⟩) (by simp; omega) _).trans (belowK_b (w := w) (Nat.le_refl _) _ D _ _ (by omega) hK2 rfl rfl)⟩
  case stop =>
    rintro D c pre W hD hpr ⟨⟨rfl, v, hp, hr⟩, hB⟩ hK
    have hv : goC A C (bkD A la) = v := by
      obtain ⟨t, ht⟩ := hpr
      rw [← ht]; exact hp t
    have hvH := Lib.hid hv
    have hrc := hr.cell
    have hrf := hr.frozen
    clear hp hpr hv z1 z2 z3 huA4
    refine wpIn_wide.2 ?_
    go_wp2
    refine ⟨by simp, .inl ⟨_, _, rfl, run_takeDeferred hK, ?_⟩⟩
    have hc5 := cell_kept hrc (grownBy_putObj' _ D (.deferred none)) (fun r e => by cases e; exact ⟨_, hK, rfl⟩)
    exact ⟨.int .i64 v, by simp [results, Tryd.f21, go_sem, hc5], by rw [hvH.out], hB.trans (belowK_b (w := w) (Nat.le_refl _) _ D _ _ (by omega) hK rfl rfl)⟩
theorem Cmp_any {w : World} {u v : Value} {A C : List Nat} (hu : SlD w u A) (hv : SlD w v C) (hA : Norm A) (hC : Norm C) (hlA : A.length ≤ 1000000) (hlC : C.length ≤ 1000000) :
    Calls Tryd.prog 21 #[.agg #[u], .agg #[v]] w fun e w' => e = .returned (.int .i64 (cmpN (val A) (val C))) ∧ Below w.heap.size w w' := by
  by_cases h : A.length = C.length
  · exact Cmp_same hu hv hA hC hlA h
  · exact Cmp_len hu hv hA hC hlA hlC h
theorem Cmp_N {w : World} {u v : Value} {p q : Nat} (hu : NumAt w u p) (hv : NumAt w v q) (hp : blen p ≤ 400000) (hq : blen q ≤ 400000) :
    Calls Tryd.prog 21 #[.agg #[u], .agg #[v]] w fun e w' => e = .returned (.int .i64 (cmpN p q)) ∧ Below w.heap.size w w' := by
  obtain ⟨A, hA, rfl, hsA⟩ := hu
  obtain ⟨C, hC, rfl, hsC⟩ := hv
  have h1 := norm_len hA hp
  have h2 := norm_len hC hq
  exact Cmp_any hsA hsC hA hC (by omega) (by omega)
end Go.Proofs.YtffehdfddkgggaaDoor.Nu

/- Sub. -/
namespace Go.Proofs.YtffehdfddkgggaaDoor.Nu
open Go.RowKit Rt
set_option linter.unusedSimpArgs false
set_option linter.unusedVariables false
/-- A row under way. -/
structure SbI (w W : World) (u v : Value) (g c : Nat) (d : Nat → Nat) (k : Nat) (O : List Nat) : Prop where
  set : Set3 w W u v
  row : RowM W g O
  len : O.length = c
  dig : Dig O
  is : ∀ j, j < k → gd O j = d j
theorem SbI.step {w W : World} {u v : Value} {g c : Nat} {d : Nat → Nat} {k : Nat} {O : List Nat} (h : SbI w W u v g c d k O) (hg : w.heap.size + 3 ≤ g) (hk : k < c) {e : Nat} (he : e = d k) (heB : e < Bs) :
    SbI w (W.setCell ⟨g, k, none⟩ (.int .u32 (e : Int))) u v g c d (k + 1) (O.set k e) := by
  subst he
  refine ⟨h.set.put hg _, h.row.set _ _, by rw [List.length_set]; exact h.len, dig_set h.dig heB, fun j hj => ?_⟩
  rw [gd_set (by rw [h.len]; exact hk)]
  by_cases h1 : j = k
  · subst h1; rw [if_pos rfl]
  · rw [if_neg h1]; exact h.is j (by omega)
set_option maxHeartbeats 4000000 in
set_option maxRecDepth 100000 in
theorem Sub_less {w : World} {u v : Value} {p q : Nat} (hu : NumAt w u p) (hv : NumAt w v q) (hp : blen p ≤ 400000) (hq : blen q ≤ 400000) (hlt : p < q) :
    Calls Tryd.prog 28 #[.agg #[u], .agg #[v]] w fun e w' => e = .returned (.tuple #[.agg #[.slice none 0 0], .int .i64 1]) ∧ Below w.heap.size w w' := by
  obtain ⟨a, la, ca, rfl⟩ := hu.shape
  obtain ⟨b, lb, cb, rfl⟩ := hv.shape
  have hS0 := Lib.hid (Set3.made w (.slice a la ca) (.slice b lb cb))
  obtain ⟨W0, hW0⟩ : ∃ W, ((w.alloc (.cells #[.slice a la ca] 26)).alloc (.cells #[.slice b lb cb] 26)).alloc (.cells #[.slice none 0 0] 26) = W := ⟨_, rfl⟩
  rw [hW0] at hS0
  have hW0H := Lib.hid hW0
  have hC := Lib.hid (Cmp_N (hu.below hS0.out.bel) (hv.below hS0.out.bel) hp hq)
  have hc : cmpN p q = -1 := by unfold cmpN; rw [if_pos hlt]
  rw [hc] at hC
  have y0 := hS0.out.bu.cell
  have y1 := hS0.out.bv.cell
  clear hW0 hu hv hp hq hlt hc
  go_enter Tryd.func28, Tryd.ntmps28
  go_upto_region 1 with (fail)
  rw [hW0H.out]
  go_wp2_with (go_at_call 21; refine hC.out.mono ?_; rintro e w2 ⟨rfl, hb2⟩; have hS2 := Lib.hid (hS0.out.below hb2); have z2 := hS2.out.br.cell; have f2 := hS2.out.br.frozen)
  have r0 := (hS2.out.br.set (.slice none 0 0)).cell
  have hE := hS2.out.bel.setCell (p := ⟨w.heap.size + 2, 0, none⟩) (Nat.le_add_right _ _) (.slice none 0 0)
  obtain ⟨W3, hW3⟩ : ∃ W, w2.setCell ⟨w.heap.size + 2, 0, none⟩ (.slice none 0 0) = W := ⟨_, rfl⟩
  rw [hW3] at r0 hE ⊢
  refine bodyPost_ret (v := .tuple #[.agg #[.slice none 0 0], .int .i64 1]) (by simp [results, Tryd.results28, go_sem, r0]) rfl ⟨rfl, hE⟩
set_option maxHeartbeats 4000000 in
set_option maxRecDepth 100000 in
theorem Sub_any {w : World} {u v : Value} {A C : List Nat} (hu : SlD w u A) (hv : SlD w v C) (hA : Norm A) (hC : Norm C) (hlA : A.length ≤ 1000000) (hlC : C.length ≤ A.length) (hle : val C ≤ val A) :
    Calls Tryd.prog 28 #[.agg #[u], .agg #[v]] w fun e w' => ∃ r, e = .returned (.tuple #[.agg #[r], .int .i64 0]) ∧ NumAt w' r (val A - val C) ∧ Below w.heap.size w w' := by
  obtain ⟨a, ca, rfl, _, _⟩ := id hu
  obtain ⟨b, cb, rfl, _, _⟩ := id hv
  obtain ⟨la, hla⟩ : ∃ n, A.length = n := ⟨_, rfl⟩
  obtain ⟨lb, hlb⟩ : ∃ n, C.length = n := ⟨_, rfl⟩
  have hS0 := Lib.hid (Set3.made w (.slice a la ca) (.slice b lb cb))
  obtain ⟨W0, hW0⟩ : ∃ W, ((w.alloc (.cells #[.slice a la ca] 26)).alloc (.cells #[.slice b lb cb] 26)).alloc (.cells #[.slice none 0 0] 26) = W := ⟨_, rfl⟩
  rw [hW0] at hS0
  have hW0s : W0.heap.size = w.heap.size + 3 := by rw [← hW0]; simp
  have hCm := Cmp_any (hu.below hS0.out.bel) (hv.below hS0.out.bel) hA hC hlA (by omega)
  rw [hla, hlb] at hCm
  obtain ⟨cv, hcv⟩ : ∃ z, cmpN (val A) (val C) = z := ⟨_, rfl⟩
  have hcv0 : ¬ (cv < 0) := by rw [← hcv]; unfold cmpN; rw [if_neg (by omega)]; split <;> omega
  rw [hcv] at hCm
  have hCmH := Lib.hid hCm
  rw [hla] at hlA hu hlC ⊢
  rw [hlb] at hv hlC ⊢
  have huH := Lib.hid hu
  have hvH := Lib.hid hv
  have hAH := Lib.hid hA.dig
  have hCH := Lib.hid hC.dig
  have hlaH := Lib.hid hla
  have hlbH := Lib.hid hlb
  have hleH := Lib.hid hle
  have hW0H := Lib.hid hW0
  have y0 := hS0.out.bu.cell
  have y1 := hS0.out.bv.cell
  have hlc := Lib.hid hlC
  have hW0sH := Lib.hid hW0s
  clear hW0 hu hv hA hC hla hlb hle hCm hcv hlC hW0s
  go_enter Tryd.func28, Tryd.ntmps28
  go_upto_region 1 with (fail)
  rw [hW0H.out]
  clear hW0H
  go_upto_region 3 with (go_at_call 21; refine hCmH.out.mono ?_; rintro e w2 ⟨rfl, hb2⟩; have hS2 := Lib.hid (hS0.out.below hb2); have z0 := hS2.out.bu.cell; have z1 := hS2.out.bv.cell; clear y0 y1)
  obtain ⟨g, hg⟩ : ∃ g, w2.heap.size = g := ⟨_, rfl⟩
  have hg3 : w.heap.size + 3 ≤ g := by rw [← hg, ← hW0sH.out]; exact hb2.size
  have hmk := run_mk w2 la la (Nat.le_refl _) (by omega)
  have hM1 := RowM.made w2 la
  have hS1 := hS2.out.below ((Below.refl _ w2).alloc (Nat.le_refl _) (.cells (encD (List.replicate la 0)) 60))
  rw [hg] at hmk hM1
  obtain ⟨W1, hW1⟩ : ∃ W, w2.alloc (.cells (encD (List.replicate la 0)) 60) = W := ⟨_, rfl⟩
  rw [hW1] at hmk hM1 hS1
  have hI1 : Hid (SbI w W1 (.slice a la ca) (.slice b lb cb) g la (df (gd A) (gd C)) 0 (List.replicate la 0)) := Lib.hid ⟨hS1, hM1, List.length_replicate, dig_zeros _, fun j hj => absurd hj (Nat.not_lt_zero _)⟩
  have hgH := Lib.hid hg3
  clear hW1 hM1 hS1 hg hg3 hS2 hb2 hS0 hCmH hW0sH
  go_wp2_with fail
  go_loopw [7, 21] (fun vb vk wr => ∃ (k : Nat) (O : List Nat), vb = .int .u64 ((bw (gd A) (gd C) k : Nat) : Int) ∧ vk = .int .i64 k ∧ k ≤ la ∧ Hid (SbI w wr (.slice a la ca) (.slice b lb cb) g la (df (gd A) (gd C)) k O)) (fun _ vk _ => la - (intOf vk).toNat)
  case atStart => exact ⟨0, _, rfl, rfl, Nat.zero_le _, hI1⟩
  case round =>
    obtain ⟨k, O, rfl, rfl, hk, hI⟩ := hrel
    clear hI1 z0 z1 hmk
    by_cases hlt : (k : Int) < la
    · have hkl : k < la := by omega
      have z0 := hI.out.set.bu.cell
      have z1 := hI.out.set.bv.cell
      obtain ⟨s1, s2, hs1, hs2, hs2B, hs3, hs4⟩ := sub_u64 (hAH.out k) (hCH.out k) (bw_le (gd A) (gd C) k)
      rw [show (if gd A k < gd C k + bw (gd A) (gd C) k then gd A k + Bs - (gd C k + bw (gd A) (gd C) k) else gd A k - (gd C k + bw (gd A) (gd C) k)) = df (gd A) (gd C) k from rfl] at hs3
      rw [← bw_succ (gd A) (gd C) k] at hs4
      obtain ⟨b1, hb1⟩ : ∃ t, bw (gd A) (gd C) k = t := ⟨_, rfl⟩
      rw [hb1] at hs2 ⊢
      obtain ⟨e, he⟩ : ∃ t, df (gd A) (gd C) k = t := ⟨_, rfl⟩
      have heB : e < Bs := by rw [← he]; exact df_lt hAH.out hCH.out k
      rw [he] at hs3
      have hsm : (s2 : Int) % 4294967296 = (e : Int) := by rw [emod_cast, hs3]
      have hs32 : IntKind.u32.wrap (s2 : Int) = (e : Int) := by rw [conv32, hs3]
      have hsd : (s2 : Int) / 9223372036854775808 = ((bw (gd A) (gd C) (k + 1) : Nat) : Int) := by rw [← hs4]; rfl
      obtain ⟨b2, hb2⟩ : ∃ t, bw (gd A) (gd C) (k + 1) = t := ⟨_, rfl⟩
      rw [hb2] at hsd
      have heH := Lib.hid he
      have heBH := Lib.hid heB
      have hb2H := Lib.hid hb2
      clear hs3 hs4 he heB hb2 hb1
      go_upto_region 8 with (fail)
      obtain ⟨wd, hwd⟩ : ∃ d, wr.drew = d := ⟨_, rfl⟩
      have hbd : Below wr.heap.size wr wd := by rw [← hwd]; exact (Below.refl _ _).drew
      have hS20 := Lib.hid (hI.out.set.below hbd)
      have hM20 := Lib.hid (hI.out.row.below hbd)
      replace z0 := (hbd.cell (World.block_lt_of_cell? _ _ z0)).trans z0
      replace z1 := (hbd.cell (World.block_lt_of_cell? _ _ z1)).trans z1
      clear hbd
      refine Rt.wp_region_ordM [1, 0, 2, 1, 0, 2, 0, 0, 0, 0] [0, 1, 3, 4, 7, 2, 5, 6, 8, 9] (by kernel_rfl) (by kernel_rfl) ?_
      rw [hwd]
      clear hwd
      apply ord_read rfl rfl rfl; (· (intro W hW; have g0 := cell_up hW z0; have g1 := cell_up hW z1; go_simp; with_reducible rfl)); (· (simp only [Act.put, Act.eval, List.setIfInBounds_toArray, List.set_cons_zero, List.set_cons_succ, Array.getD_eq_getD_getElem?, List.getElem?_toArray, List.getElem?_cons_zero, List.getElem?_cons_succ, Option.getD_some, List.getElem_toArray, List.getElem_cons_succ, List.getElem_cons_zero]; with_reducible rfl))
      apply ord_move rfl rfl rfl rfl; (· (simp only [Act.put, Act.eval, List.setIfInBounds_toArray, List.set_cons_zero, List.set_cons_succ, Array.getD_eq_getD_getElem?, List.getElem?_toArray, List.getElem?_cons_zero, List.getElem?_cons_succ, Option.getD_some, List.getElem_toArray, List.getElem_cons_succ, List.getElem_cons_zero]; with_reducible rfl))
      apply ord_read rfl rfl rfl; (· (intro W hW; have g0 := cell_up hW z0; have g1 := cell_up hW z1; go_simp; with_reducible rfl)); (· (simp only [Act.put, Act.eval, List.setIfInBounds_toArray, List.set_cons_zero, List.set_cons_succ, Array.getD_eq_getD_getElem?, List.getElem?_toArray, List.getElem?_cons_zero, List.getElem?_cons_succ, Option.getD_some, List.getElem_toArray, List.getElem_cons_succ, List.getElem_cons_zero]; with_reducible rfl))
      apply ord_move rfl rfl rfl rfl; (· (simp only [Act.put, Act.eval, List.setIfInBounds_toArray, List.set_cons_zero, List.set_cons_succ, Array.getD_eq_getD_getElem?, List.getElem?_toArray, List.getElem?_cons_zero, List.getElem?_cons_succ, Option.getD_some, List.getElem_toArray, List.getElem_cons_succ, List.getElem_cons_zero]; with_reducible rfl))
      apply ord_move rfl rfl rfl rfl; (· (simp only [Act.put, Act.eval, List.setIfInBounds_toArray, List.set_cons_zero, List.set_cons_succ, Array.getD_eq_getD_getElem?, List.getElem?_toArray, List.getElem?_cons_zero, List.getElem?_cons_succ, Option.getD_some, List.getElem_toArray, List.getElem_cons_succ, List.getElem_cons_zero]; with_reducible rfl))
      refine ord_call rfl rfl rfl (by go_simp; exact ⟨rfl, rfl⟩) ?_
      refine (at2 (huH.out.below hS20.out.bel) (by rw [hlaH.out]; omega) k (by omega) hAH.out).mono ?_
      rintro e w21 ⟨rfl, hb21⟩
      refine ⟨_, rfl, hb21, ?_⟩
      have hS21 := Lib.hid (hS20.out.below hb21)
      have hM21 := Lib.hid (hM20.out.below hb21)
      replace z0 := (hb21.cell (World.block_lt_of_cell? _ _ z0)).trans z0
      replace z1 := (hb21.cell (World.block_lt_of_cell? _ _ z1)).trans z1
      simp only [Act.put, Act.eval, List.setIfInBounds_toArray, List.set_cons_zero, List.set_cons_succ, Array.getD_eq_getD_getElem?, List.getElem?_toArray, List.getElem?_cons_zero, List.getElem?_cons_succ, Option.getD_some, List.getElem_toArray, List.getElem_cons_succ, List.getElem_cons_zero]
      refine ord_call rfl rfl rfl (by go_simp; exact ⟨rfl, rfl⟩) ?_
      refine (at2 (hvH.out.below hS21.out.bel) (by have := hlc.out; rw [hlbH.out]; omega) k (by omega) hCH.out).mono ?_
      rintro e w22 ⟨rfl, hb22⟩
      refine ⟨_, rfl, hb22, ?_⟩
      have hS22 := Lib.hid (hS21.out.below hb22)
      have hM22 := Lib.hid (hM21.out.below hb22)
      replace z0 := (hb22.cell (World.block_lt_of_cell? _ _ z0)).trans z0
      replace z1 := (hb22.cell (World.block_lt_of_cell? _ _ z1)).trans z1
      simp only [Act.put, Act.eval, List.setIfInBounds_toArray, List.set_cons_zero, List.set_cons_succ, Array.getD_eq_getD_getElem?, List.getElem?_toArray, List.getElem?_cons_zero, List.getElem?_cons_succ, Option.getD_some, List.getElem_toArray, List.getElem_cons_succ, List.getElem_cons_zero]
      apply ord_pure rfl rfl rfl; (· (intro w; go_simp; with_reducible rfl)); (· (simp only [Act.put, Act.eval, List.setIfInBounds_toArray, List.set_cons_zero, List.set_cons_succ, Array.getD_eq_getD_getElem?, List.getElem?_toArray, List.getElem?_cons_zero, List.getElem?_cons_succ, Option.getD_some, List.getElem_toArray, List.getElem_cons_succ, List.getElem_cons_zero]; with_reducible rfl))
      apply ord_pure rfl rfl rfl; (· (intro w; go_simp; with_reducible rfl)); (· (simp only [Act.put, Act.eval, List.setIfInBounds_toArray, List.set_cons_zero, List.set_cons_succ, Array.getD_eq_getD_getElem?, List.getElem?_toArray, List.getElem?_cons_zero, List.getElem?_cons_succ, Option.getD_some, List.getElem_toArray, List.getElem_cons_succ, List.getElem_cons_zero]; with_reducible rfl))
      apply ord_pure rfl rfl rfl; (· (intro w; go_simp; with_reducible rfl)); (· (simp only [Act.put, Act.eval, List.setIfInBounds_toArray, List.set_cons_zero, List.set_cons_succ, Array.getD_eq_getD_getElem?, List.getElem?_toArray, List.getElem?_cons_zero, List.getElem?_cons_succ, Option.getD_some, List.getElem_toArray, List.getElem_cons_succ, List.getElem_cons_zero]; with_reducible rfl))
      with_reducible refine ord_nil ?_
      have hkw := Nu.wr (x := (k : Int) + 1) (by omega) (by omega)
      have hI2 : Hid (SbI w w22 (.slice a la ca) (.slice b lb cb) g la (df (gd A) (gd C)) k O) := Lib.hid ⟨hS22.out, hM22.out, hI.out.len, hI.out.dig, hI.out.is⟩
      have cO := hI2.out.row.cell k (by rw [hI2.out.len]; exact hkl)
      have fO := hI2.out.row.frozen k
      have hA : Hid (SbI w (w22.setCell ⟨g, k, none⟩ (.int .u32 (e : Int))) (.slice a la ca) (.slice b lb cb) g la (df (gd A) (gd C)) (k + 1) (O.set k e)) := Lib.hid (hI2.out.step hgH.out hkl heH.out.symm heBH.out)
      clear hI hI2 hS20 hS21 hM20 hM21 z0 z1 hb21 hb22 hS22 hM22 hs1 hs2
      go_wp2_with fail
      go_roundw
      case rel => exact ⟨k + 1, _, by rw [hb2H.out], by first | rfl | go_num, by omega, hA⟩
      case measure => first | (simp [intOf]; done) | (simp [intOf]; omega)
    · have hkn : k = la := by omega
      subst hkn
      have hval : val O = val A - val C := by
        have h1 : dsum (gd A) k = val A := by unfold val; rw [hlaH.out]
        have h2 : dsum (gd C) k = val C := val_ext (by rw [hlbH.out]; exact hlc.out)
        have h3 := (bw_none (a := gd A) (b := gd C) hAH.out hCH.out (k := k) (by rw [h1, h2]; exact hleH.out)).2
        rw [h1, h2] at h3
        unfold val at *
        rw [hI.out.len, dsum_congr hI.out.is]; exact h3
      have hT := Trim_row hI.out.row hI.out.dig (by rw [hI.out.len]; omega) (Nat.le_of_eq hI.out.len) (by unfold maxLen; omega)
      rw [hI.out.len, hval] at hT
      have hTH := Lib.hid hT
      clear hT hval
      go_wp2_with fail
      refine hTH.out.mono ?_
      rintro e w3 ⟨q, rfl, hn, hb3⟩
      have hS3 := hI.out.set.below hb3
      have x2c := hS3.br.cell
      have x2f := hS3.br.frozen
      have hnH := Lib.hid hn
      have hSH := Lib.hid hS3
      clear hn hS3
      go_wp2_with fail
      have r0 := (hSH.out.br.set (.slice (some ⟨g, 0, none⟩) q k)).cell
      have hE := hSH.out.bel.setCell (p := ⟨w.heap.size + 2, 0, none⟩) (Nat.le_add_right _ _) (.slice (some ⟨g, 0, none⟩) q k)
      have hN3 := hnH.out.other (p := ⟨w.heap.size + 2, 0, none⟩) (.slice (some ⟨g, 0, none⟩) q k) (by intro b off q e; cases e; show g ≠ w.heap.size + 2; have := hgH.out; omega)
      obtain ⟨W3, hW3⟩ : ∃ W, w3.setCell ⟨w.heap.size + 2, 0, none⟩ (.slice (some ⟨g, 0, none⟩) q k) = W := ⟨_, rfl⟩
      rw [hW3] at r0 hE hN3 ⊢
      refine bodyPost_ret (v := .tuple #[.agg #[.slice (some ⟨g, 0, none⟩) q k], .int .i64 0]) (by simp [results, Tryd.results28, go_sem, r0]) rfl ⟨_, rfl, hN3, hE⟩
theorem Sub_N {w : World} {u v : Value} {p q : Nat} (hu : NumAt w u p) (hv : NumAt w v q) (hp : blen p ≤ 400000) (hq : blen q ≤ 400000) :
    Calls Tryd.prog 28 #[.agg #[u], .agg #[v]] w fun e w' => ∃ r, e = .returned (.tuple #[.agg #[r], .int .i64 (if p < q then 1 else 0)]) ∧ NumAt w' r (p - q) ∧ Below w.heap.size w w' := by
  by_cases h : p < q
  · refine (Sub_less hu hv hp hq h).mono ?_
    rintro e w' ⟨rfl, hb⟩
    exact ⟨_, by rw [if_pos h], by rw [show p - q = 0 by omega]; exact NumAt.zero _, hb⟩
  · rw [if_neg h]
    obtain ⟨A, hA, rfl, hsA⟩ := hu
    obtain ⟨C, hC, rfl, hsC⟩ := hv
    have h1 := norm_len hA hp
    have h2 := norm_len hC hq
    refine Sub_any hsA hsC hA hC (by omega) ?_ (by omega)
    rcases Nat.lt_or_ge A.length C.length with h3 | h3
    · have := norm_len_lt hA hC h3; omega
    · exact h3
end Go.Proofs.YtffehdfddkgggaaDoor.Nu

/- Div: nothing to divide by, and what is less. -/
namespace Go.Proofs.YtffehdfddkgggaaDoor.Nu
open Go.RowKit Rt
set_option linter.unusedSimpArgs false
set_option linter.unusedVariables false
/-- Two boxes and two results' cells. -/
structure Set4 (w W : World) (u v : Value) : Prop where
  bu : Boxed W w.heap.size 26 u
  bv : Boxed W (w.heap.size + 1) 26 v
  br : Boxed W (w.heap.size + 2) 26 (.slice none 0 0)
  bs : Boxed W (w.heap.size + 3) 26 (.slice none 0 0)
  bel : Below w.heap.size w W
  size : w.heap.size + 4 ≤ W.heap.size
theorem Set4.made (w : World) (u v : Value) : Set4 w ((((w.alloc (.cells #[u] 26)).alloc (.cells #[v] 26)).alloc (.cells #[.slice none 0 0] 26)).alloc (.cells #[.slice none 0 0] 26)) u v := by
  have h3 := Set3.made w u v
  have hz : (((w.alloc (.cells #[u] 26)).alloc (.cells #[v] 26)).alloc (.cells #[.slice none 0 0] 26)).heap.size = w.heap.size + 3 := by simp
  refine ⟨h3.bu.alloc _, h3.bv.alloc _, h3.br.alloc _, ?_, h3.bel.alloc (by omega) _, by simp⟩
  have := Boxed.new (((w.alloc (.cells #[u] 26)).alloc (.cells #[v] 26)).alloc (.cells #[.slice none 0 0] 26)) 26 (.slice none 0 0)
  rw [hz] at this
  exact this
theorem Set4.kept {w W W' : World} {u v : Value} {S : Nat → Prop} (h : Set4 w W u v) (hk : Kept S W W') (hS : ∀ x, S x → w.heap.size + 4 ≤ x) : Set4 w W' u v := by
  have hz := h.size
  have f : ∀ x, x < w.heap.size + 4 → W'.heap[x]? = W.heap[x]? := fun x hx => hk.block x (by omega) (fun e => by have := hS x e; omega)
  exact ⟨(f _ (by omega)).trans h.bu, (f _ (by omega)).trans h.bv, (f _ (by omega)).trans h.br, (f _ (by omega)).trans h.bs, h.bel.trans (hk.below (by omega) (fun k hk2 e => by have := hS k e; omega)), Nat.le_trans hz hk.size⟩
theorem Set4.below {w W W' : World} {u v : Value} (h : Set4 w W u v) (hb : Below W.heap.size W W') : Set4 w W' u v := h.kept (Kept.of_below (S := fun _ => False) hb) (fun _ h => h.elim)
theorem Set4.put {w W : World} {u v : Value} (h : Set4 w W u v) {g j : Nat} (hg : w.heap.size + 4 ≤ g) (x : Value) : Set4 w (W.setCell ⟨g, j, none⟩ x) u v :=
  h.kept (S := fun x => x = g) (Kept.setCell (S := fun x => x = g) (p := ⟨g, j, none⟩) (Kept.refl _ W) (.inl rfl) x) (fun y e => by subst e; exact hg)
set_option maxHeartbeats 4000000 in
set_option maxRecDepth 100000 in
theorem Div_zero {w : World} {u v : Value} {p : Nat} (hu : NumAt w u p) (hv : NumAt w v 0) :
    Calls Tryd.prog 31 #[.agg #[u], .agg #[v]] w fun e w' => e = .returned (.tuple #[.agg #[.slice none 0 0], .agg #[.slice none 0 0], .int .i64 1]) ∧ Below w.heap.size w w' := by
  obtain ⟨a, la, ca, rfl⟩ := hu.shape
  obtain ⟨b, lb, cb, rfl⟩ := hv.shape
  have hlb : lb = 0 := by
    obtain ⟨L, h1, h2, h3⟩ := hv
    have := h3.len
    rw [(norm_zero h1).1 h2] at this
    exact this
  subst hlb
  have hS0 := Lib.hid (Set4.made w (.slice a la ca) (.slice b 0 cb))
  obtain ⟨W0, hW0⟩ : ∃ W, (((w.alloc (.cells #[.slice a la ca] 26)).alloc (.cells #[.slice b 0 cb] 26)).alloc (.cells #[.slice none 0 0] 26)).alloc (.cells #[.slice none 0 0] 26) = W := ⟨_, rfl⟩
  rw [hW0] at hS0
  have hW0H := Lib.hid hW0
  have y0 := hS0.out.bu.cell
  have y1 := hS0.out.bv.cell
  have y2 := hS0.out.br.cell
  have y3 := hS0.out.bs.cell
  have f2 := hS0.out.br.frozen
  have f3 := hS0.out.bs.frozen
  have hr : Hid (Boxed ((W0.setCell ⟨w.heap.size + 2, 0, none⟩ (.slice none 0 0)).setCell ⟨w.heap.size + 3, 0, none⟩ (.slice none 0 0)) (w.heap.size + 2) 26 (.slice none 0 0)) := Lib.hid ((Below.heap_setCell _ _ _ _ (show w.heap.size + 2 ≠ w.heap.size + 3 by omega)).trans (hS0.out.br.set (.slice none 0 0)))
  clear hW0 hu hv
  go_enter Tryd.func31, Tryd.ntmps31
  go_upto_region 1 with (fail)
  rw [hW0H.out]
  clear hW0H
  go_wp2_with fail
  have r0 := hr.out.cell
  have r1 := ((show Boxed (W0.setCell ⟨w.heap.size + 2, 0, none⟩ (.slice none 0 0)) (w.heap.size + 3) 26 (.slice none 0 0) from (Below.heap_setCell _ _ _ _ (show w.heap.size + 3 ≠ w.heap.size + 2 by omega)).trans hS0.out.bs).set (.slice none 0 0)).cell
  have hE := (hS0.out.bel.setCell (p := ⟨w.heap.size + 2, 0, none⟩) (Nat.le_add_right _ _) (.slice none 0 0)).setCell (p := ⟨w.heap.size + 3, 0, none⟩) (Nat.le_add_right _ _) (.slice none 0 0)
  obtain ⟨W3, hW3⟩ : ∃ W, (W0.setCell ⟨w.heap.size + 2, 0, none⟩ (.slice none 0 0)).setCell ⟨w.heap.size + 3, 0, none⟩ (.slice none 0 0) = W := ⟨_, rfl⟩
  rw [hW3] at r0 r1 hE ⊢
  refine bodyPost_ret (v := .tuple #[.agg #[.slice none 0 0], .agg #[.slice none 0 0], .int .i64 1]) (by simp [results, Tryd.results31, go_sem, r0, r1]) rfl ⟨rfl, hE⟩
set_option maxHeartbeats 4000000 in
set_option maxRecDepth 100000 in
theorem Div_less {w : World} {u v : Value} {p q : Nat} (hu : NumAt w u p) (hv : NumAt w v q) (hp : blen p ≤ 400000) (hq : blen q ≤ 400000) (hlt : p < q) :
    Calls Tryd.prog 31 #[.agg #[u], .agg #[v]] w fun e w' => e = .returned (.tuple #[.agg #[.slice none 0 0], .agg #[u], .int .i64 0]) ∧ NumAt w' u p ∧ Below w.heap.size w w' := by
  obtain ⟨a, la, ca, rfl⟩ := hu.shape
  obtain ⟨b, lb, cb, rfl⟩ := hv.shape
  have hlb : lb ≠ 0 := by
    obtain ⟨L, h1, h2, h3⟩ := hv
    have h4 := h3.len
    intro e
    rw [e] at h4
    rw [List.length_eq_zero_iff.1 h4.symm] at h2
    rw [← h2, val_nil] at hlt
    omega
  have hlb0 : ((lb : Int) == 0) = false := by simpa using hlb
  have hS0 := Lib.hid (Set4.made w (.slice a la ca) (.slice b lb cb))
  obtain ⟨W0, hW0⟩ : ∃ W, (((w.alloc (.cells #[.slice a la ca] 26)).alloc (.cells #[.slice b lb cb] 26)).alloc (.cells #[.slice none 0 0] 26)).alloc (.cells #[.slice none 0 0] 26) = W := ⟨_, rfl⟩
  rw [hW0] at hS0
  have hW0H := Lib.hid hW0
  have hC := Lib.hid (Cmp_N (hu.below hS0.out.bel) (hv.below hS0.out.bel) hp hq)
  have hc : cmpN p q = -1 := by unfold cmpN; rw [if_pos hlt]
  rw [hc] at hC
  have hnu := Lib.hid (hu.below hS0.out.bel)
  have y0 := hS0.out.bu.cell
  have y1 := hS0.out.bv.cell
  clear hW0 hu hv hp hq hlt hc hlb
  go_enter Tryd.func31, Tryd.ntmps31
  go_upto_region 1 with (fail)
  rw [hW0H.out]
  clear hW0H
  go_upto_region 5 with (go_at_call 21; refine hC.out.mono ?_; rintro e w2 ⟨rfl, hb2⟩; have hS2 := Lib.hid (hS0.out.below hb2); have z0 := hS2.out.bu.cell; have z2 := hS2.out.br.cell; have f2 := hS2.out.br.frozen; have hnu2 := Lib.hid (hnu.out.below hb2); clear y0 y1)
  obtain ⟨wd, hwd⟩ : ∃ d, w2.drew = d := ⟨_, rfl⟩
  have hbd : Below w2.heap.size w2 wd := by rw [← hwd]; exact (Below.refl _ _).drew
  have hS3 := Lib.hid (hS2.out.below hbd)
  have hnu3 := Lib.hid (hnu2.out.below hbd)
  clear hbd
  have hnu4 := Lib.hid ((hnu3.out.fresh hS3.out.br (fun d h => by cases h) (.slice none 0 0)).fresh (show Boxed (wd.setCell ⟨w.heap.size + 2, 0, none⟩ (.slice none 0 0)) (w.heap.size + 3) 26 (.slice none 0 0) from (Below.heap_setCell _ _ _ _ (show w.heap.size + 3 ≠ w.heap.size + 2 by omega)).trans hS3.out.bs) (fun d h => by cases h) (.slice a la ca))
  have hr : Hid (Boxed ((wd.setCell ⟨w.heap.size + 2, 0, none⟩ (.slice none 0 0)).setCell ⟨w.heap.size + 3, 0, none⟩ (.slice a la ca)) (w.heap.size + 2) 26 (.slice none 0 0)) := Lib.hid ((Below.heap_setCell _ _ _ _ (show w.heap.size + 2 ≠ w.heap.size + 3 by omega)).trans (hS3.out.br.set (.slice none 0 0)))
  have x0 := hS3.out.bu.cell
  have x2 := hS3.out.br.cell
  have x3 := hS3.out.bs.cell
  have fx2 := hS3.out.br.frozen
  have fx3 := hS3.out.bs.frozen
  clear z0 z2 f2 hC hS0 hnu hnu2 hnu3
  go_region
  go_wp2_with fail
  have r0 := hr.out.cell
  have r1 := ((show Boxed (wd.setCell ⟨w.heap.size + 2, 0, none⟩ (.slice none 0 0)) (w.heap.size + 3) 26 (.slice none 0 0) from (Below.heap_setCell _ _ _ _ (show w.heap.size + 3 ≠ w.heap.size + 2 by omega)).trans hS3.out.bs).set (.slice a la ca)).cell
  have hE := (hS3.out.bel.setCell (p := ⟨w.heap.size + 2, 0, none⟩) (Nat.le_add_right _ _) (.slice none 0 0)).setCell (p := ⟨w.heap.size + 3, 0, none⟩) (Nat.le_add_right _ _) (.slice a la ca)
  have hN4 := hnu4.out
  obtain ⟨W3, hW3⟩ : ∃ W, (wd.setCell ⟨w.heap.size + 2, 0, none⟩ (.slice none 0 0)).setCell ⟨w.heap.size + 3, 0, none⟩ (.slice a la ca) = W := ⟨_, rfl⟩
  rw [hW3] at r0 r1 hE hN4 ⊢
  refine bodyPost_ret (v := .tuple #[.agg #[.slice none 0 0], .agg #[.slice a la ca], .int .i64 0]) (by simp [results, Tryd.results31, go_sem, r0, r1]) rfl ⟨rfl, hN4, hE⟩
end Go.Proofs.YtffehdfddkgggaaDoor.Nu

/- Div. -/
namespace Go.Proofs.YtffehdfddkgggaaDoor.Nu
open Go.RowKit Rt
set_option linter.unusedSimpArgs false
set_option linter.unusedVariables false
theorem shifted {C O2 : List Nat} {m d s : Nat} (hC : Dig C) (hlC : C.length = m + 1) (hd : gd C m = d) (h1 : 2 ^ 31 ≤ d * 2 ^ s) (h2 : (d + 1) * 2 ^ s ≤ 2 ^ 32) (hO : Dig O2) (hv : val O2 = val C * 2 ^ s) :
    val C * 2 ^ s < Bs ^ (m + 1) ∧ Bs ^ (m + 1) ≤ 2 * (val C * 2 ^ s) ∧ dsum (gd O2) (m + 1) = val C * 2 ^ s ∧ 2147483648 ≤ gd O2 m := by
  have hvc : val C = dsum (gd C) m + d * Bs ^ m := by unfold val; rw [hlC, dsum_succ, hd]
  have hlt := dsum_lt (f := gd C) (i := m) (fun i _ => hC i)
  have hs : 0 < 2 ^ s := Nat.pow_pos (by decide)
  have e1 : val C + 1 ≤ (d + 1) * Bs ^ m := by rw [hvc, Nat.succ_mul]; omega
  have e2 : (val C + 1) * 2 ^ s ≤ Bs ^ (m + 1) := by
    have a1 : (val C + 1) * 2 ^ s ≤ ((d + 1) * Bs ^ m) * 2 ^ s := Nat.mul_le_mul_right _ e1
    have a2 : ((d + 1) * Bs ^ m) * 2 ^ s = ((d + 1) * 2 ^ s) * Bs ^ m := by grind
    have a3 : ((d + 1) * 2 ^ s) * Bs ^ m ≤ Bs * Bs ^ m := Nat.mul_le_mul_right _ h2
    rw [pw]; omega
  have e3 : val C * 2 ^ s < Bs ^ (m + 1) := by rw [Nat.succ_mul] at e2; omega
  have e4 : 2 ^ 31 * Bs ^ m ≤ val C * 2 ^ s := by
    have a1 : 2 ^ 31 * Bs ^ m ≤ (d * 2 ^ s) * Bs ^ m := Nat.mul_le_mul_right _ h1
    have a2 : (d * 2 ^ s) * Bs ^ m = (d * Bs ^ m) * 2 ^ s := by grind
    have a3 : (d * Bs ^ m) * 2 ^ s ≤ val C * 2 ^ s := Nat.mul_le_mul_right _ (by omega)
    omega
  have e5 : dsum (gd O2) (m + 1) = val C * 2 ^ s := by
    rw [← hv] at e3 ⊢
    rcases Nat.le_total O2.length (m + 1) with h | h
    · exact val_ext h
    · exact (dsum_zero h fun i hi => gd_zero_of_lt e3 hi).symm
  refine ⟨e3, ?_, e5, ?_⟩
  · rw [pw]
    have : Bs * Bs ^ m = 2 * (2 ^ 31 * Bs ^ m) := by rw [← Nat.mul_assoc]
    omega
  · rw [dsum_succ] at e5
    have hlt2 := dsum_lt (f := gd O2) (i := m) (fun i _ => hO i)
    rcases Nat.lt_or_ge (gd O2 m) 2147483648 with h | h
    · have a1 : (gd O2 m + 1) * Bs ^ m ≤ 2147483648 * Bs ^ m := Nat.mul_le_mul_right _ h
      rw [Nat.succ_mul] at a1
      omega
    · exact h
/-- A division in memory. -/
structure DvI (w W : World) (u v : Value) (g1 g2 g3 U vv n la lq : Nat) (V : List Nat) (k : Nat) (O Q : List Nat) : Prop where
  set : Set4 w W u v
  r1 : RowM W g1 O
  r2 : RowM W g2 V
  r3 : RowM W g3 Q
  div : DivI U vv n (la + 1) lq k O Q
theorem DvI.step {w W W' : World} {u v : Value} {g1 g2 g3 U vv n la lq j : Nat} {V O Q O' : List Nat} (h : DvI w W u v g1 g2 g3 U vv n la lq V (j + 1) O Q) (h1 : w.heap.size + 4 ≤ g1) (h2 : g1 < g2) (h3 : g2 < g3) (hv : vv < Bs ^ n) (hj : j < lq)
    (hk : Kept (fun b => b = g1) W W') (hr : RowM W' g1 O') (hl : O'.length = O.length) (hd : Dig O') (hs : ∀ i, i < j ∨ j + n < i → gd O' i = gd O i) (hw : wd O' j (n + 1) = wd O j (n + 1) % vv) :
    DvI w (W'.setCell ⟨g3, j, none⟩ (.int .u32 ((wd O j (n + 1) / vv : Nat) : Int))) u v g1 g2 g3 U vv n la lq V j O' (Q.set j (wd O j (n + 1) / vv)) := by
  have k2 : RowM W' g2 V := (hk.block _ h.r2.lt (by omega)).trans h.r2
  have k3 : RowM W' g3 Q := (hk.block _ h.r3.lt (by omega)).trans h.r3
  exact ⟨(h.set.kept hk (fun b e => by omega)).put (by omega) _, hr.other _ _ (by show g1 ≠ g3; omega), k2.other _ _ (by show g2 ≠ g3; omega), k3.set _ _, h.div.step hv hj (hl.trans h.div.lenO) hd hs hw⟩
/-- What is left, moved back, under way. -/
structure RdI (w W : World) (u v : Value) (g1 g3 g4 n s : Nat) (O Q : List Nat) (k : Nat) (R : List Nat) : Prop where
  set : Set4 w W u v
  r1 : RowM W g1 O
  r3 : RowM W g3 Q
  r4 : RowM W g4 R
  len : R.length = n
  dig : Dig R
  lo : ∀ j, j < k → gd R j = (gd O (j + 1) * Bs + gd O j) / 2 ^ s % Bs
theorem RdI.step {w W : World} {u v : Value} {g1 g3 g4 n s k : Nat} {O Q R : List Nat} (h : RdI w W u v g1 g3 g4 n s O Q k R) (h1 : w.heap.size + 4 ≤ g1) (h3 : g1 < g3) (h4 : g3 < g4) (hk : k < n) {e : Nat} (he : (gd O (k + 1) * Bs + gd O k) / 2 ^ s % Bs = e) (heB : e < Bs) :
    RdI w (W.setCell ⟨g4, k, none⟩ (.int .u32 (e : Int))) u v g1 g3 g4 n s O Q (k + 1) (R.set k e) := by
  refine ⟨h.set.put (by omega) _, h.r1.other _ _ (by show g1 ≠ g4; omega), h.r3.other _ _ (by show g3 ≠ g4; omega), h.r4.set _ _, by rw [List.length_set]; exact h.len, dig_set h.dig heB, fun j hj => ?_⟩
  rw [gd_set (by rw [h.len]; exact hk)]
  by_cases h5 : j = k
  · rw [if_pos h5, h5, he]
  · rw [if_neg h5]; exact h.lo j (by omega)
set_option maxHeartbeats 4000000 in
set_option maxRecDepth 100000 in
theorem Div_any {w : World} {u v : Value} {A C : List Nat} {m : Nat} (hu : SlD w u A) (hv : SlD w v C) (hA : Norm A) (hC : Norm C) (hlA : A.length ≤ 1000000) (hlC : C.length = m + 1) (hlCA : C.length ≤ A.length) (hle : val C ≤ val A) :
    Calls Tryd.prog 31 #[.agg #[u], .agg #[v]] w fun e w' => ∃ r1 r2, e = .returned (.tuple #[.agg #[r1], .agg #[r2], .int .i64 0]) ∧ NumAt w' r1 (val A / val C) ∧ NumAt w' r2 (val A % val C) ∧ Below w.heap.size w w' := by
  obtain ⟨a, ca, rfl, -, -⟩ := id hu
  obtain ⟨b, cb, rfl, ⟨hcb, -⟩, -⟩ := id hv
  obtain ⟨la, hla⟩ : ∃ n, A.length = n := ⟨_, rfl⟩
  obtain ⟨n, hnm⟩ : ∃ n, m + 1 = n := ⟨_, rfl⟩
  rw [hnm] at hlC
  have hS0 := Lib.hid (Set4.made w (.slice a la ca) (.slice b n cb))
  obtain ⟨W0, hW0⟩ : ∃ W, (((w.alloc (.cells #[.slice a la ca] 26)).alloc (.cells #[.slice b n cb] 26)).alloc (.cells #[.slice none 0 0] 26)).alloc (.cells #[.slice none 0 0] 26) = W := ⟨_, rfl⟩
  rw [hW0] at hS0
  rw [hla] at hlA hu hlCA ⊢
  rw [hlC] at hv hcb hlCA ⊢
  have hCm := Cmp_any (hu.below hS0.out.bel) (hv.below hS0.out.bel) hA hC (by omega) (by omega)
  obtain ⟨cv, hcv⟩ : ∃ z, cmpN (val A) (val C) = z := ⟨_, rfl⟩
  have hcv0 : ¬ (cv < 0) := by rw [← hcv]; unfold cmpN; rw [if_neg (by omega)]; split <;> omega
  rw [hcv] at hCm
  have hCmH := Lib.hid hCm
  have huH := Lib.hid hu
  have hvH := Lib.hid hv
  have hAH := Lib.hid hA
  have hCH := Lib.hid hC
  have hlaH := Lib.hid hla
  have hlcH := Lib.hid hlC
  have hnmH := Lib.hid hnm
  have hW0H := Lib.hid hW0
  -- the first digit
  have htp := hC.top (by omega)
  have hmC : C.length - 1 = m := by omega
  rw [hmC] at htp
  have htB := hC.dig m
  obtain ⟨d, hd⟩ : ∃ t, gd C m = t := ⟨_, rfl⟩
  have hbl : 1 ≤ blen d := by
    rcases Nat.eq_zero_or_pos (blen d) with e | e
    · rw [blen_eq_zero] at e; omega
    · exact e
  have hbl32 : blen d ≤ 32 := blen_le32 (by rw [← hd]; exact htB)
  obtain ⟨s, hs⟩ : ∃ s, s + blen d = 32 := ⟨32 - blen d, by omega⟩
  have hs31 : s < 32 := by omega
  have hsi : (32 : Int) - (blen d : Int) = (s : Int) := by omega
  have hLZ := LZ_any d (by rw [← hd]; exact htB)
  rw [hsi] at hLZ
  have hLZH := Lib.hid hLZ
  have hdge : Hid (2 ^ 31 ≤ d * 2 ^ s ∧ (d + 1) * 2 ^ s ≤ 2 ^ 32) := Lib.hid (by
    have h1 := blen_ge (n := d) (by omega)
    have h2 := blen_lt d
    have h3 : 2 ^ (blen d - 1) * 2 ^ s = 2 ^ 31 := by rw [← Nat.pow_add, show blen d - 1 + s = 31 by omega]
    have h4 : 2 ^ blen d * 2 ^ s = 2 ^ 32 := by rw [← Nat.pow_add, show blen d + s = 32 by omega]
    have h5 : 2 ^ (blen d - 1) * 2 ^ s ≤ d * 2 ^ s := Nat.mul_le_mul_right _ h1
    have h6 : (d + 1) * 2 ^ s ≤ 2 ^ blen d * 2 ^ s := Nat.mul_le_mul_right _ h2
    omega)
  obtain ⟨bb, ob, rfl, cvm⟩ := hv.at hS0.out.bel (j := m) (by omega)
  rw [hd] at cvm
  have hdH := Lib.hid hd
  have hn1 : (n : Int) - 1 = (m : Int) := by omega
  have hn1w := Nu.wr (x := (n : Int) - 1) (by omega) (by omega)
  have hmn : (m : Int) < (n : Int) := by omega
  have hn0 : ((n : Int) == 0) = false := by simp; omega
  have y0 := hS0.out.bu.cell
  have y1 := hS0.out.bv.cell
  have hncb : (n : Int) ≤ (n : Int) + 1 := by omega
  have hnla : n ≤ la := hlCA
  clear hW0 hu hv hA hC hla hlC hle hCm hcv htp hmC htB hbl hbl32 hs hLZ hd hnm hcb hlCA
  go_enter Tryd.func31, Tryd.ntmps31
  go_upto_region 1 with (fail)
  rw [hW0H.out]
  clear hW0H
  go_upto_region 7 with (first | (go_at_call 21; refine hCmH.out.mono ?_; rintro e w2 ⟨rfl, hb2⟩; have hS2 := Lib.hid (hS0.out.below hb2); have z0 := hS2.out.bu.cell; have z1 := hS2.out.bv.cell; replace cvm := (hb2.cell (World.block_lt_of_cell? _ _ cvm)).trans cvm; clear y0 y1 hb2) | (go_at_call 42; refine (hLZH.out _).mono ?_; rintro e w3 ⟨rfl, rfl⟩) | fail)
  obtain ⟨wz, hwz⟩ : ∃ d, w3.drew = d := ⟨_, rfl⟩
  have hbd : Below w3.heap.size w3 wz := by rw [← hwz]; exact (Below.refl _ _).drew
  have hS20 := Lib.hid (hS2.out.below hbd)
  replace z0 := (hbd.cell (World.block_lt_of_cell? _ _ z0)).trans z0
  replace z1 := (hbd.cell (World.block_lt_of_cell? _ _ z1)).trans z1
  clear hbd cvm
  refine Rt.wp_region_ordM [1, 0, 2, 1, 0, 2, 0, 0, 0, 0] [0, 1, 3, 4, 6, 2, 5, 7, 8, 9] (by kernel_rfl) (by kernel_rfl) ?_
  rw [hwz]
  clear hwz
  apply ord_read rfl rfl rfl; (· (intro W hW; have g0 := cell_up hW z0; have g1 := cell_up hW z1; go_simp; with_reducible rfl)); (· (simp only [Act.put, Act.eval, List.setIfInBounds_toArray, List.set_cons_zero, List.set_cons_succ, Array.getD_eq_getD_getElem?, List.getElem?_toArray, List.getElem?_cons_zero, List.getElem?_cons_succ, Option.getD_some, List.getElem_toArray, List.getElem_cons_succ, List.getElem_cons_zero]; with_reducible rfl))
  apply ord_move rfl rfl rfl rfl; (· (simp only [Act.put, Act.eval, List.setIfInBounds_toArray, List.set_cons_zero, List.set_cons_succ, Array.getD_eq_getD_getElem?, List.getElem?_toArray, List.getElem?_cons_zero, List.getElem?_cons_succ, Option.getD_some, List.getElem_toArray, List.getElem_cons_succ, List.getElem_cons_zero]; with_reducible rfl))
  apply ord_read rfl rfl rfl; (· (intro W hW; have g0 := cell_up hW z0; have g1 := cell_up hW z1; go_simp; with_reducible rfl)); (· (simp only [Act.put, Act.eval, List.setIfInBounds_toArray, List.set_cons_zero, List.set_cons_succ, Array.getD_eq_getD_getElem?, List.getElem?_toArray, List.getElem?_cons_zero, List.getElem?_cons_succ, Option.getD_some, List.getElem_toArray, List.getElem_cons_succ, List.getElem_cons_zero]; with_reducible rfl))
  apply ord_move rfl rfl rfl rfl; (· (simp only [Act.put, Act.eval, List.setIfInBounds_toArray, List.set_cons_zero, List.set_cons_succ, Array.getD_eq_getD_getElem?, List.getElem?_toArray, List.getElem?_cons_zero, List.getElem?_cons_succ, Option.getD_some, List.getElem_toArray, List.getElem_cons_succ, List.getElem_cons_zero]; with_reducible rfl))
  apply ord_move rfl rfl rfl rfl; (· (simp only [Act.put, Act.eval, List.setIfInBounds_toArray, List.set_cons_zero, List.set_cons_succ, Array.getD_eq_getD_getElem?, List.getElem?_toArray, List.getElem?_cons_zero, List.getElem?_cons_succ, Option.getD_some, List.getElem_toArray, List.getElem_cons_succ, List.getElem_cons_zero]; with_reducible rfl))
  refine ord_call rfl rfl rfl (by go_simp; exact ⟨rfl, rfl⟩) ?_
  have hLf := Left_any (huH.out.below hS20.out.bel) hAH.out.dig (by rw [hlaH.out]; omega) s (by omega)
  rw [hlaH.out] at hLf
  refine hLf.mono ?_
  rintro e w21 ⟨g1, O1, rfl, hM1, hl1, hd1, hv1, hg1, hb21⟩
  refine ⟨_, rfl, hb21, ?_⟩
  have hS21 := Lib.hid (hS20.out.below hb21)
  replace z0 := (hb21.cell (World.block_lt_of_cell? _ _ z0)).trans z0
  replace z1 := (hb21.cell (World.block_lt_of_cell? _ _ z1)).trans z1
  simp only [Act.put, Act.eval, List.setIfInBounds_toArray, List.set_cons_zero, List.set_cons_succ, Array.getD_eq_getD_getElem?, List.getElem?_toArray, List.getElem?_cons_zero, List.getElem?_cons_succ, Option.getD_some, List.getElem_toArray, List.getElem_cons_succ, List.getElem_cons_zero]
  have hM1H := Lib.hid hM1
  have hl1H := Lib.hid hl1
  have hd1H := Lib.hid hd1
  have hv1H := Lib.hid hv1
  have hg1H := Lib.hid hg1
  clear hM1 hl1 hd1 hv1 hg1
  refine ord_call rfl rfl rfl (by go_simp; exact ⟨rfl, rfl⟩) ?_
  have hLf := Left_any (hvH.out.below hS21.out.bel) hCH.out.dig (by rw [hlcH.out]; omega) s (by omega)
  rw [hlcH.out] at hLf
  refine hLf.mono ?_
  rintro e w22 ⟨g2, O2, rfl, hM2, hl2, hd2, hv2, hg2, hb22⟩
  refine ⟨_, rfl, hb22, ?_⟩
  have hS22 := Lib.hid (hS21.out.below hb22)
  replace z0 := (hb22.cell (World.block_lt_of_cell? _ _ z0)).trans z0
  replace z1 := (hb22.cell (World.block_lt_of_cell? _ _ z1)).trans z1
  simp only [Act.put, Act.eval, List.setIfInBounds_toArray, List.set_cons_zero, List.set_cons_succ, Array.getD_eq_getD_getElem?, List.getElem?_toArray, List.getElem?_cons_zero, List.getElem?_cons_succ, Option.getD_some, List.getElem_toArray, List.getElem_cons_succ, List.getElem_cons_zero]
  apply ord_pure rfl rfl rfl; (· (intro w; go_simp; with_reducible rfl)); (· (simp only [Act.put, Act.eval, List.setIfInBounds_toArray, List.set_cons_zero, List.set_cons_succ, Array.getD_eq_getD_getElem?, List.getElem?_toArray, List.getElem?_cons_zero, List.getElem?_cons_succ, Option.getD_some, List.getElem_toArray, List.getElem_cons_succ, List.getElem_cons_zero]; with_reducible rfl))
  apply ord_pure rfl rfl rfl; (· (intro w; go_simp; with_reducible rfl)); (· (simp only [Act.put, Act.eval, List.setIfInBounds_toArray, List.set_cons_zero, List.set_cons_succ, Array.getD_eq_getD_getElem?, List.getElem?_toArray, List.getElem?_cons_zero, List.getElem?_cons_succ, Option.getD_some, List.getElem_toArray, List.getElem_cons_succ, List.getElem_cons_zero]; with_reducible rfl))
  apply ord_pure rfl rfl rfl; (· (intro w; go_simp; with_reducible rfl)); (· (simp only [Act.put, Act.eval, List.setIfInBounds_toArray, List.set_cons_zero, List.set_cons_succ, Array.getD_eq_getD_getElem?, List.getElem?_toArray, List.getElem?_cons_zero, List.getElem?_cons_succ, Option.getD_some, List.getElem_toArray, List.getElem_cons_succ, List.getElem_cons_zero]; with_reducible rfl))
  with_reducible refine ord_nil ?_
  have hB21 := Lib.hid hb21
  have hM1b := Lib.hid (hM1H.out.below hb22)
  have hg12 : g1 < g2 := Nat.lt_of_lt_of_le hM1H.out.lt hg2
  have hgw : w.heap.size + 4 ≤ g1 := Nat.le_trans hS20.out.size hg1H.out
  obtain ⟨hsh1, hsh2, hsh3, hsh4⟩ := shifted hCH.out.dig (hlcH.out.trans hnmH.out.symm) hdH.out hdge.out.1 hdge.out.2 hd2 hv2
  rw [hnmH.out] at hsh1 hsh2 hsh3
  obtain ⟨vv, hvv⟩ : ∃ t, val C * 2 ^ s = t := ⟨_, rfl⟩
  rw [hvv] at hsh1 hsh2 hsh3
  have hl1' : O1.length = la + 1 := by rw [hl1H.out]
  have hvA : val A < Bs ^ la := by rw [← hlaH.out]; exact val_lt hAH.out.dig
  obtain ⟨lq, hlq⟩ : ∃ t, la + 1 - n = t := ⟨_, rfl⟩
  have hlqi : (la : Int) + 1 - (n : Int) = (lq : Int) := by omega
  have hdv := DivI.start (U := 0) hl1' hd1H.out hv1H.out hvA hs31 hnla hlq.symm hsh2
  have hmk := run_mk w22 lq lq (Nat.le_refl _) (by omega)
  obtain ⟨g3, hg3⟩ : ∃ g, w22.heap.size = g := ⟨_, rfl⟩
  have hg23 : g2 < g3 := by rw [← hg3]; exact hM2.lt
  have hM3 := RowM.made w22 lq
  rw [hg3] at hmk hM3
  have hI : Hid (DvI w (w22.alloc (.cells (encD (List.replicate lq 0)) 60)) (.slice a la ca) (.slice (some ⟨bb, ob, none⟩) n cb) g1 g2 g3 (val O1) vv n la lq O2 lq O1 (List.replicate lq 0)) :=
    Lib.hid ⟨hS22.out.below ((Below.refl _ _).alloc (Nat.le_refl _) _), hM1b.out.alloc _, hM2.alloc _, hM3, hdv⟩
  obtain ⟨W1, hW1⟩ : ∃ W, w22.alloc (.cells (encD (List.replicate lq 0)) 60) = W := ⟨_, rfl⟩
  rw [hW1] at hI hmk
  have hlqw := Nu.wr (x := (la : Int) + 1 - (n : Int)) (by omega) (by omega)
  have hlqw2 := Nu.wr (x := (lq : Int)) (by omega) (by omega)
  have hlqw3 := Nu.wr (x := (lq : Int) - 1) (by omega) (by omega)
  have hsh1H := Lib.hid hsh1
  have hsh3H := Lib.hid hsh3
  have hsh4H := Lib.hid hsh4
  have hvvH := Lib.hid hvv
  have hl2H := Lib.hid (show n < O2.length by rw [hl2]; omega)
  have hd2H := Lib.hid hd2
  have hlqH := Lib.hid hlq
  clear hb21 hb22 hM1H hM1b hM2 hS20 hS21 hS22 hl1H hl1' hvA hdv hg3 hM3 hW1 hsh1 hsh2 hsh3 hsh4 hvv hl2 hd2 hv2 hlq hg2 hg1H hdge z0 z1 hLf hB21 hCmH hLZH
  go_wp2_with fail
  go_loopw [12] (fun vj wr => ∃ (k : Nat) (O Q : List Nat), vj = .int .i64 ((k : Int) - 1) ∧ k ≤ lq ∧ Hid (DvI w wr (.slice a la ca) (.slice (some ⟨bb, ob, none⟩) n cb) g1 g2 g3 (val O1) vv n la lq O2 k O Q)) (fun vj _ => (intOf vj + 1).toNat)
  case atStart => exact ⟨lq, _, _, rfl, Nat.le_refl _, hI⟩
  case round =>
    obtain ⟨k, O, Q, rfl, hk, hI2⟩ := hrel
    clear hI
    by_cases hlt : (0 : Int) ≤ (k : Int) - 1
    · obtain ⟨j, rfl⟩ : ∃ j, k = j + 1 := ⟨k - 1, by omega⟩
      have hj1 : ((j + 1 : Nat) : Int) - 1 = (j : Int) := by omega
      rw [hj1] at hlt ⊢
      have hjl : (j : Int) < lq := by omega
      have hjw := Nu.wr (x := (j : Int) - 1) (by omega) (by omega)
      have hjn := Nu.wr (x := (j : Int) + (n : Int)) (by omega) (by omega)
      have hjn1 := Nu.wr (x := (j : Int) + (n : Int) + 1) (by omega) (by omega)
      have hjb : (j : Int) ≤ (j : Int) + (n : Int) + 1 := by omega
      have hjb2 : (j : Int) + (n : Int) + 1 ≤ (la : Int) + 1 := by have := hlqH.out; omega
      have hfit := hI2.out.div.fits hsh1H.out
      rw [← hsh3H.out] at hfit
      have hDg := Digit_any (w := wr) (cu := la + 1 - j) (cv := n + 1) hI2.out.r1 hI2.out.r2 (by omega) hI2.out.div.digO hd2H.out hnmH.out.symm (by rw [hI2.out.div.lenO]; have := hlqH.out; omega) (Nat.le_of_lt hl2H.out) (by rw [hI2.out.div.lenO]; omega) hsh4H.out hfit
      rw [hsh3H.out] at hDg
      have hDgH := Lib.hid hDg
      clear hfit hDg
      go_wp2_with fail
      rw [show j + n + 1 - j = n + 1 by omega]
      refine hDgH.out.mono ?_
      rintro e w3 ⟨O', rfl, hr', hl', hd', hs', hw', hk'⟩
      have hI3 : Hid (DvI w (w3.setCell ⟨g3, j, none⟩ (.int .u32 ((wd O j (n + 1) / vv : Nat) : Int))) (.slice a la ca) (.slice (some ⟨bb, ob, none⟩) n cb) g1 g2 g3 (val O1) vv n la lq O2 j O' (Q.set j (wd O j (n + 1) / vv))) :=
        Lib.hid (hI2.out.step hgw hg12 hg23 hsh1H.out (by omega) hk' hr' hl' hd' hs' hw')
      have k3 : RowM w3 g3 Q := (hk'.block _ hI2.out.r3.lt (by omega)).trans hI2.out.r3
      have cQ := k3.cell j (by rw [hI2.out.div.lenQ]; omega)
      have fQ := k3.frozen j
      obtain ⟨qd, hqd⟩ : ∃ t, wd O j (n + 1) / vv = t := ⟨_, rfl⟩
      rw [hqd] at hI3 ⊢
      clear hr' hl' hd' hs' hw' hk' k3 hI2 hDgH hqd
      go_wp2_with fail
      go_roundw
      case rel => exact ⟨j, _, _, by first | rfl | go_num, by omega, hI3⟩
      case measure => first | (simp [intOf]; done) | (simp [intOf]; omega)
    · have hk0 : k = 0 := by omega
      subst hk0
      obtain ⟨hqv, hrv⟩ := hI2.out.div.done hv1H.out hvvH.out.symm
      have hqvH := Lib.hid hqv
      have hrvH := Lib.hid hrv
      have hvO : val O < Bs ^ n := by have h1 := hI2.out.div.lt; rw [Nat.pow_zero, Nat.mul_one] at h1; exact Nat.lt_trans h1 hsh1H.out
      have hds : Hid (dsum (gd O) (n + 1) = val O ∧ val O < Bs ^ n) := Lib.hid ⟨by
        rcases Nat.le_total O.length (n + 1) with h | h
        · exact val_ext h
        · exact (dsum_zero h fun i hi => gd_zero_of_lt hvO (by omega)).symm, hvO⟩
      have hlO := Lib.hid hI2.out.div.lenO
      have hdO := Lib.hid hI2.out.div.digO
      have hlQ := Lib.hid hI2.out.div.lenQ
      have hdQ := Lib.hid hI2.out.div.digQ
      have hmk := run_mk wr n n (Nat.le_refl _) (by omega)
      obtain ⟨g4, hg4⟩ : ∃ g, wr.heap.size = g := ⟨_, rfl⟩
      have hg34 : g3 < g4 := by rw [← hg4]; exact hI2.out.r3.lt
      have hM4 := RowM.made wr n
      rw [hg4] at hmk hM4
      have hR0 : Hid (RdI w (wr.alloc (.cells (encD (List.replicate n 0)) 60)) (.slice a la ca) (.slice (some ⟨bb, ob, none⟩) n cb) g1 g3 g4 n s O Q 0 (List.replicate n 0)) :=
        Lib.hid ⟨hI2.out.set.below ((Below.refl _ _).alloc (Nat.le_refl _) _), hI2.out.r1.alloc _, hI2.out.r3.alloc _, hM4, List.length_replicate, dig_zeros _, fun j hj => absurd hj (Nat.not_lt_zero _)⟩
      obtain ⟨W2, hW2⟩ : ∃ W, wr.alloc (.cells (encD (List.replicate n 0)) 60) = W := ⟨_, rfl⟩
      rw [hW2] at hR0 hmk
      clear hqv hrv hvO hg4 hM4 hW2 hI2
      go_wp2_with fail
      go_loopw [73] (fun vk wr => ∃ (k : Nat) (R : List Nat), vk = .int .i64 (k : Int) ∧ k ≤ n ∧ Hid (RdI w wr (.slice a la ca) (.slice (some ⟨bb, ob, none⟩) n cb) g1 g3 g4 n s O Q k R)) (fun vk _ => n - (intOf vk).toNat)
      case atStart => exact ⟨0, _, rfl, Nat.zero_le _, hR0⟩
      case round =>
        obtain ⟨k, R, rfl, hk, hI⟩ := hrel
        clear hR0 hmk
        by_cases hlt : (k : Int) < n
        · have hkl : k < n := by omega
          have cA := hI.out.r1.cell k (by rw [hlO.out]; omega)
          have cF := hI.out.r1.cell (k + 1) (by rw [hlO.out]; omega)
          have cO := hI.out.r4.cell k (by rw [hI.out.len]; exact hkl)
          have fO := hI.out.r4.frozen k
          have hkw := Nu.wr (x := (k : Int) + 1) (by omega) (by omega)
          have hkn : ((k : Int) + 1).toNat = k + 1 := by omega
          have hk0 : (0 : Int) ≤ (k : Int) + 1 := by omega
          have hk1 : (k : Int) + 1 < (la : Int) + 1 := by omega
          have hk2 : (k : Int) < (la : Int) + 1 := by omega
          have hdB := hdO.out k
          have hfB := hdO.out (k + 1)
          obtain ⟨x, hx⟩ : ∃ z, gd O k = z := ⟨_, rfl⟩
          obtain ⟨f, hf⟩ : ∃ z, gd O (k + 1) = z := ⟨_, rfl⟩
          rw [hx] at cA hdB
          rw [hf] at cF hfB
          have hor := bits_or_top hfB hdB
          have hdw := Nu.wr64 (x := (x : Int)) (by omega) (by simp only [Bs] at hdB; omega)
          have hfw := Nu.wr64 (x := (f : Int)) (by omega) (by simp only [Bs] at hfB; omega)
          have hmw := Nu.wr64 (x := (f : Int) * 4294967296) (by omega) (by simp only [Bs] at hfB; omega)
          have hsb : f * Bs + x < 18446744073709551616 := by simp only [Bs] at *; omega
          obtain ⟨sm, hsm0⟩ : ∃ z, f * Bs + x = z := ⟨_, rfl⟩
          rw [hsm0] at hor hsb
          have hdq : sm / 2 ^ s ≤ sm := Nat.div_le_self _ _
          have hshr : (sm : Int) / 2 ^ s = ((sm / 2 ^ s : Nat) : Int) := by rw [Int.natCast_ediv, Int.natCast_pow]; rfl
          obtain ⟨q, hq⟩ : ∃ z, sm / 2 ^ s = z := ⟨_, rfl⟩
          rw [hq] at hdq hshr
          have heb : q % Bs < Bs := Nat.mod_lt _ (by decide)
          have hqm := emod_cast q
          have hq32 := conv32 q
          obtain ⟨e, he⟩ : ∃ z, q % Bs = z := ⟨_, rfl⟩
          rw [he] at heb hqm hq32
          have hE : Hid ((gd O (k + 1) * Bs + gd O k) / 2 ^ s % Bs = e) := Lib.hid (by rw [hf, hx, hsm0, hq, he])
          have heB := Lib.hid heb
          clear hq he heb hdq hsm0 hx hf hdB hfB
          go_upto_region 17 with (fail)
          obtain ⟨wz, hwz⟩ : ∃ d, wr.drew = d := ⟨_, rfl⟩
          have hI2 : Hid (RdI w wz (.slice a la ca) (.slice (some ⟨bb, ob, none⟩) n cb) g1 g3 g4 n s O Q k R) := Lib.hid (by
            rw [← hwz]
            exact ⟨hI.out.set.below (Below.refl _ _).drew, hI.out.r1, hI.out.r3, hI.out.r4, hI.out.len, hI.out.dig, hI.out.lo⟩)
          have cA' : wz.cell? ⟨g1, k, none⟩ = some (.int .u32 (x : Int)) := by rw [← hwz]; exact cA
          have cF' : wz.cell? ⟨g1, k + 1, none⟩ = some (.int .u32 (f : Int)) := by rw [← hwz]; exact cF
          have cO' : wz.cell? ⟨g4, k, none⟩ = some (.int .u32 (gd R k : Int)) := by rw [← hwz]; exact cO
          have fO' : wz.frozen? ⟨g4, k, none⟩ = false := by rw [← hwz]; exact fO
          clear cA cF cO fO hI
          refine Rt.wp_region_text [0, 0, 0, 0, 0, 0, 1, 0, 0, 0, 0, 0, 1, 0, 0, 0, 0, 0, 0, 2] (by kernel_rfl) (by kernel_rfl) ?_
          rw [hwz]
          clear hwz
          apply txt_move rfl rfl; (· (simp only [Act.put, Act.eval, List.setIfInBounds_toArray, List.set_cons_zero, List.set_cons_succ, Array.getD_eq_getD_getElem?, List.getElem?_toArray, List.getElem?_cons_zero, List.getElem?_cons_succ, Option.getD_some, List.getElem_toArray, List.getElem_cons_succ, List.getElem_cons_zero]; with_reducible rfl))
          apply txt_move rfl rfl; (· (simp only [Act.put, Act.eval, List.setIfInBounds_toArray, List.set_cons_zero, List.set_cons_succ, Array.getD_eq_getD_getElem?, List.getElem?_toArray, List.getElem?_cons_zero, List.getElem?_cons_succ, Option.getD_some, List.getElem_toArray, List.getElem_cons_succ, List.getElem_cons_zero]; with_reducible rfl))
          apply txt_move rfl rfl; (· (simp only [Act.put, Act.eval, List.setIfInBounds_toArray, List.set_cons_zero, List.set_cons_succ, Array.getD_eq_getD_getElem?, List.getElem?_toArray, List.getElem?_cons_zero, List.getElem?_cons_succ, Option.getD_some, List.getElem_toArray, List.getElem_cons_succ, List.getElem_cons_zero]; with_reducible rfl))
          apply txt_move rfl rfl; (· (simp only [Act.put, Act.eval, List.setIfInBounds_toArray, List.set_cons_zero, List.set_cons_succ, Array.getD_eq_getD_getElem?, List.getElem?_toArray, List.getElem?_cons_zero, List.getElem?_cons_succ, Option.getD_some, List.getElem_toArray, List.getElem_cons_succ, List.getElem_cons_zero]; with_reducible rfl))
          apply txt_pure rfl rfl rfl; (· (intro w; go_simp; with_reducible rfl)); (· (simp only [Act.put, Act.eval, List.setIfInBounds_toArray, List.set_cons_zero, List.set_cons_succ, Array.getD_eq_getD_getElem?, List.getElem?_toArray, List.getElem?_cons_zero, List.getElem?_cons_succ, Option.getD_some, List.getElem_toArray, List.getElem_cons_succ, List.getElem_cons_zero]; with_reducible rfl))
          apply txt_pure rfl rfl rfl; (· (intro w; go_simp; with_reducible rfl)); (· (simp only [Act.put, Act.eval, List.setIfInBounds_toArray, List.set_cons_zero, List.set_cons_succ, Array.getD_eq_getD_getElem?, List.getElem?_toArray, List.getElem?_cons_zero, List.getElem?_cons_succ, Option.getD_some, List.getElem_toArray, List.getElem_cons_succ, List.getElem_cons_zero]; with_reducible rfl))
          apply txt_read rfl rfl rfl; (· (go_simp; with_reducible rfl)); (· (simp only [Act.put, Act.eval, List.setIfInBounds_toArray, List.set_cons_zero, List.set_cons_succ, Array.getD_eq_getD_getElem?, List.getElem?_toArray, List.getElem?_cons_zero, List.getElem?_cons_succ, Option.getD_some, List.getElem_toArray, List.getElem_cons_succ, List.getElem_cons_zero]; with_reducible rfl))
          apply txt_pure rfl rfl rfl; (· (intro w; go_simp; with_reducible rfl)); (· (simp only [Act.put, Act.eval, List.setIfInBounds_toArray, List.set_cons_zero, List.set_cons_succ, Array.getD_eq_getD_getElem?, List.getElem?_toArray, List.getElem?_cons_zero, List.getElem?_cons_succ, Option.getD_some, List.getElem_toArray, List.getElem_cons_succ, List.getElem_cons_zero]; with_reducible rfl))
          apply txt_pure rfl rfl rfl; (· (intro w; go_simp; with_reducible rfl)); (· (simp only [Act.put, Act.eval, List.setIfInBounds_toArray, List.set_cons_zero, List.set_cons_succ, Array.getD_eq_getD_getElem?, List.getElem?_toArray, List.getElem?_cons_zero, List.getElem?_cons_succ, Option.getD_some, List.getElem_toArray, List.getElem_cons_succ, List.getElem_cons_zero]; with_reducible rfl))
          apply txt_move rfl rfl; (· (simp only [Act.put, Act.eval, List.setIfInBounds_toArray, List.set_cons_zero, List.set_cons_succ, Array.getD_eq_getD_getElem?, List.getElem?_toArray, List.getElem?_cons_zero, List.getElem?_cons_succ, Option.getD_some, List.getElem_toArray, List.getElem_cons_succ, List.getElem_cons_zero]; with_reducible rfl))
          apply txt_move rfl rfl; (· (simp only [Act.put, Act.eval, List.setIfInBounds_toArray, List.set_cons_zero, List.set_cons_succ, Array.getD_eq_getD_getElem?, List.getElem?_toArray, List.getElem?_cons_zero, List.getElem?_cons_succ, Option.getD_some, List.getElem_toArray, List.getElem_cons_succ, List.getElem_cons_zero]; with_reducible rfl))
          apply txt_pure rfl rfl rfl; (· (intro w; go_simp; with_reducible rfl)); (· (simp only [Act.put, Act.eval, List.setIfInBounds_toArray, List.set_cons_zero, List.set_cons_succ, Array.getD_eq_getD_getElem?, List.getElem?_toArray, List.getElem?_cons_zero, List.getElem?_cons_succ, Option.getD_some, List.getElem_toArray, List.getElem_cons_succ, List.getElem_cons_zero]; with_reducible rfl))
          apply txt_read rfl rfl rfl; (· (go_simp; with_reducible rfl)); (· (simp only [Act.put, Act.eval, List.setIfInBounds_toArray, List.set_cons_zero, List.set_cons_succ, Array.getD_eq_getD_getElem?, List.getElem?_toArray, List.getElem?_cons_zero, List.getElem?_cons_succ, Option.getD_some, List.getElem_toArray, List.getElem_cons_succ, List.getElem_cons_zero]; with_reducible rfl))
          apply txt_pure rfl rfl rfl; (· (intro w; go_simp; with_reducible rfl)); (· (simp only [Act.put, Act.eval, List.setIfInBounds_toArray, List.set_cons_zero, List.set_cons_succ, Array.getD_eq_getD_getElem?, List.getElem?_toArray, List.getElem?_cons_zero, List.getElem?_cons_succ, Option.getD_some, List.getElem_toArray, List.getElem_cons_succ, List.getElem_cons_zero]; with_reducible rfl))
          apply txt_pure rfl rfl rfl; (· (intro w; go_simp; with_reducible rfl)); (· (simp only [Act.put, Act.eval, List.setIfInBounds_toArray, List.set_cons_zero, List.set_cons_succ, Array.getD_eq_getD_getElem?, List.getElem?_toArray, List.getElem?_cons_zero, List.getElem?_cons_succ, Option.getD_some, List.getElem_toArray, List.getElem_cons_succ, List.getElem_cons_zero]; with_reducible rfl))
          apply txt_move rfl rfl; (· (simp only [Act.put, Act.eval, List.setIfInBounds_toArray, List.set_cons_zero, List.set_cons_succ, Array.getD_eq_getD_getElem?, List.getElem?_toArray, List.getElem?_cons_zero, List.getElem?_cons_succ, Option.getD_some, List.getElem_toArray, List.getElem_cons_succ, List.getElem_cons_zero]; with_reducible rfl))
          apply txt_pure rfl rfl rfl; (· (intro w; go_simp; with_reducible rfl)); (· (simp only [Act.put, Act.eval, List.setIfInBounds_toArray, List.set_cons_zero, List.set_cons_succ, Array.getD_eq_getD_getElem?, List.getElem?_toArray, List.getElem?_cons_zero, List.getElem?_cons_succ, Option.getD_some, List.getElem_toArray, List.getElem_cons_succ, List.getElem_cons_zero]; with_reducible rfl))
          apply txt_pure rfl rfl rfl; (· (intro w; go_simp; with_reducible rfl)); (· (simp only [Act.put, Act.eval, List.setIfInBounds_toArray, List.set_cons_zero, List.set_cons_succ, Array.getD_eq_getD_getElem?, List.getElem?_toArray, List.getElem?_cons_zero, List.getElem?_cons_succ, Option.getD_some, List.getElem_toArray, List.getElem_cons_succ, List.getElem_cons_zero]; with_reducible rfl))
          apply txt_pure rfl rfl rfl; (· (intro w; go_simp; with_reducible rfl)); (· (simp only [Act.put, Act.eval, List.setIfInBounds_toArray, List.set_cons_zero, List.set_cons_succ, Array.getD_eq_getD_getElem?, List.getElem?_toArray, List.getElem?_cons_zero, List.getElem?_cons_succ, Option.getD_some, List.getElem_toArray, List.getElem_cons_succ, List.getElem_cons_zero]; with_reducible rfl))
          apply txt_do rfl rfl rfl; (· (go_simp; with_reducible rfl)); (· (simp only [Act.put, Act.eval, List.setIfInBounds_toArray, List.set_cons_zero, List.set_cons_succ, Array.getD_eq_getD_getElem?, List.getElem?_toArray, List.getElem?_cons_zero, List.getElem?_cons_succ, Option.getD_some, List.getElem_toArray, List.getElem_cons_succ, List.getElem_cons_zero]; with_reducible rfl))
          with_reducible refine txt_nil ?_
          have hI3 := Lib.hid (hI2.out.step hgw (by omega) hg34 hkl hE.out heB.out)
          clear hI2 cA' cF' cO' fO'
          go_wp2_with fail
          go_roundw
          case rel => exact ⟨k + 1, _, by first | rfl | go_num, by omega, hI3⟩
          case measure => first | (simp [intOf]; done) | (simp [intOf]; omega)
        · have hkl : n = k := by omega
          subst hkl
          have hval : val R = val A % val C := by
            have h3 := shr_sum (f := gd O) (r := gd R) hdO.out (n := n) (s := s) (by omega) hI.out.lo (by rw [hds.out.1]; exact Nat.lt_of_le_of_lt (Nat.div_le_self _ _) hds.out.2)
            rw [hds.out.1, hrvH.out] at h3
            have : val R = dsum (gd R) n := by unfold val; rw [hI.out.len]
            rw [this]; exact h3
          have hT := Trim_row hI.out.r3 hdQ.out (by rw [hlQ.out]; omega) (Nat.le_of_eq hlQ.out) (by unfold maxLen; omega)
          rw [hlQ.out, hqvH.out] at hT
          have hTH := Lib.hid hT
          have hvalH := Lib.hid hval
          clear hT hval
          go_wp2_with fail
          refine hTH.out.mono ?_
          rintro e w3 ⟨q, rfl, hn, hb3⟩
          have hT2 := Trim_row (hI.out.r4.below hb3) hI.out.dig (by rw [hI.out.len]; omega) (Nat.le_of_eq hI.out.len) (by unfold maxLen; omega)
          rw [hI.out.len, hvalH.out] at hT2
          have hT2H := Lib.hid hT2
          have hS3 := Lib.hid (hI.out.set.below hb3)
          have hnH := Lib.hid hn
          clear hT2 hn hb3 hI hTH
          go_wp2_with fail
          refine hT2H.out.mono ?_
          rintro e w4 ⟨q2, rfl, hn2, hb4⟩
          have hS4 := Lib.hid (hS3.out.below hb4)
          have hN1 := Lib.hid (hnH.out.below hb4)
          have hN2 := Lib.hid hn2
          have x2 := hS4.out.br.cell
          have x3 := hS4.out.bs.cell
          have fx2 := hS4.out.br.frozen
          have fx3 := hS4.out.bs.frozen
          clear hn2 hb4 hS3 hnH hT2H
          go_wp2_with fail
          obtain ⟨r1, hr1⟩ : ∃ r : Value, .slice (some ⟨g3, 0, none⟩) q lq = r := ⟨_, rfl⟩
          obtain ⟨r2, hr2⟩ : ∃ r : Value, .slice (some ⟨g4, 0, none⟩) q2 n = r := ⟨_, rfl⟩
          rw [hr1] at hN1 ⊢
          rw [hr2] at hN2 ⊢
          have hb3 : Boxed (w4.setCell ⟨w.heap.size + 2, 0, none⟩ r1) (w.heap.size + 3) 26 (.slice none 0 0) := (Below.heap_setCell _ _ _ _ (show w.heap.size + 3 ≠ w.heap.size + 2 by omega)).trans hS4.out.bs
          have hN1' := (hN1.out.fresh hS4.out.br (fun d h => by cases h) r1).fresh hb3 (fun d h => by cases h) r2
          have hN2' := (hN2.out.fresh hS4.out.br (fun d h => by cases h) r1).fresh hb3 (fun d h => by cases h) r2
          have q0 := (show Boxed ((w4.setCell ⟨w.heap.size + 2, 0, none⟩ r1).setCell ⟨w.heap.size + 3, 0, none⟩ r2) (w.heap.size + 2) 26 r1 from (Below.heap_setCell _ _ _ _ (show w.heap.size + 2 ≠ w.heap.size + 3 by omega)).trans (hS4.out.br.set r1)).cell
          have q1 := (hb3.set r2).cell
          have hE := (hS4.out.bel.setCell (p := ⟨w.heap.size + 2, 0, none⟩) (Nat.le_add_right _ _) r1).setCell (p := ⟨w.heap.size + 3, 0, none⟩) (Nat.le_add_right _ _) r2
          obtain ⟨W3, hW3⟩ : ∃ W, (w4.setCell ⟨w.heap.size + 2, 0, none⟩ r1).setCell ⟨w.heap.size + 3, 0, none⟩ r2 = W := ⟨_, rfl⟩
          rw [hW3] at q0 q1 hE hN1' hN2' ⊢
          refine bodyPost_ret (v := .tuple #[.agg #[r1], .agg #[r2], .int .i64 0]) (by simp [results, Tryd.results31, go_sem, q0, q1]) rfl ⟨_, _, rfl, hN1', hN2', hE⟩
def divE (q : Nat) : Int := if q = 0 then 1 else 0
/-- Nothing comes with an error. -/
def onDiv (q x : Nat) : Nat := if q = 0 then 0 else x
theorem Div_N {w : World} {u v : Value} {p q : Nat} (hu : NumAt w u p) (hv : NumAt w v q) (hp : blen p ≤ 400000) (hq : blen q ≤ 400000) :
    Calls Tryd.prog 31 #[.agg #[u], .agg #[v]] w fun e w' => ∃ r1 r2, e = .returned (.tuple #[.agg #[r1], .agg #[r2], .int .i64 (divE q)]) ∧ NumAt w' r1 (p / q) ∧ NumAt w' r2 (onDiv q (p % q)) ∧ Below w.heap.size w w' := by
  unfold divE onDiv
  by_cases h0 : q = 0
  · subst h0
    refine (Div_zero hu hv).mono ?_
    rintro e w' ⟨rfl, hb⟩
    exact ⟨_, _, rfl, by rw [Nat.div_zero]; exact NumAt.zero _, NumAt.zero _, hb⟩
  · rw [if_neg h0, if_neg h0]
    by_cases hlt : p < q
    · refine (Div_less hu hv hp hq hlt).mono ?_
      rintro e w' ⟨rfl, hn, hb⟩
      exact ⟨_, _, rfl, by rw [Nat.div_eq_of_lt hlt]; exact NumAt.zero _, by rw [Nat.mod_eq_of_lt hlt]; exact hn, hb⟩
    · obtain ⟨A, hA, rfl, hsA⟩ := hu
      obtain ⟨C, hC, rfl, hsC⟩ := hv
      have h1 := norm_len hA hp
      have h2 := norm_len hC hq
      have hcl : 0 < C.length := by
        rcases Nat.eq_zero_or_pos C.length with e | e
        · rw [List.length_eq_zero_iff.1 e, val_nil] at h0; exact absurd rfl h0
        · exact e
      obtain ⟨m, hm⟩ : ∃ m, C.length = m + 1 := ⟨C.length - 1, by omega⟩
      refine Div_any hsA hsC hA hC (by omega) hm ?_ (by omega)
      rcases Nat.lt_or_ge A.length C.length with h3 | h3
      · have := norm_len_lt hA hC h3; omega
      · exact h3
end Go.Proofs.YtffehdfddkgggaaDoor.Nu

/- Variables that hold a number; mod. -/
namespace Go.Proofs.YtffehdfddkgggaaDoor.Nu
open Go.RowKit Rt
set_option linter.unusedSimpArgs false
set_option linter.unusedVariables false
/-- A variable that holds a number. -/
def Var (W : World) (g n : Nat) : Prop := ∃ a l c, Boxed W g 26 (.slice a l c) ∧ NumAt W (.slice a l c) n
theorem Var.below {W W' : World} {g n : Nat} (h : Var W g n) (hb : Below W.heap.size W W') : Var W' g n := by
  obtain ⟨a, l, c, h1, h2⟩ := h
  exact ⟨a, l, c, (hb.block g h1.lt).trans h1, h2.below hb⟩
theorem Var.lt {W : World} {g n : Nat} (h : Var W g n) : g < W.heap.size := by
  obtain ⟨a, l, c, h1, h2⟩ := h
  exact h1.lt
theorem Var.made {W : World} {v : Value} {n : Nat} (h : NumAt W v n) : Var (W.alloc (.cells #[v] 26)) W.heap.size n := by
  obtain ⟨a, l, c, rfl⟩ := h.shape
  exact ⟨a, l, c, Boxed.new W 26 _, h.below ((Below.refl _ W).alloc (Nat.le_refl _) _)⟩
theorem Var.put {W : World} {g n m : Nat} (h : Var W g n) {v : Value} (hn : NumAt W v m) : Var (W.setCell ⟨g, 0, none⟩ v) g m := by
  obtain ⟨a, l, c, h1, h2⟩ := h
  obtain ⟨a', l', c', rfl⟩ := hn.shape
  exact ⟨a', l', c', h1.set _, hn.fresh h1 (fun d e => by cases e) _⟩
theorem Var.other {W : World} {g n g' n' : Nat} (h : Var W g n) (h' : Var W g' n') (hne : g ≠ g') (x : Value) : Var (W.setCell ⟨g', 0, none⟩ x) g n := by
  obtain ⟨a, l, c, h1, h2⟩ := h
  obtain ⟨a', l', c', h1', h2'⟩ := h'
  exact ⟨a, l, c, (Below.heap_setCell _ _ _ _ hne).trans h1, h2.fresh h1' (fun d e => by cases e) _⟩
theorem NumAt.otherV {W : World} {v : Value} {n g m : Nat} (h : NumAt W v n) (h' : Var W g m) (x : Value) : NumAt (W.setCell ⟨g, 0, none⟩ x) v n := by
  obtain ⟨a, l, c, h1, h2⟩ := h'
  exact h.fresh h1 (fun d e => by cases e) x
set_option maxHeartbeats 4000000 in
set_option maxRecDepth 100000 in
theorem mod_N {w : World} {u v : Value} {p q : Nat} (hu : NumAt w u p) (hv : NumAt w v q) (hp : blen p ≤ 400000) (hq : blen q ≤ 400000) :
    Calls Tryd.prog 45 #[.agg #[u], .agg #[v]] w fun e w' => ∃ r, e = .returned (.agg #[r]) ∧ NumAt w' r (onDiv q (p % q)) ∧ Below w.heap.size w w' := by
  obtain ⟨a, la, ca, rfl⟩ := hu.shape
  obtain ⟨b, lb, cb, rfl⟩ := hv.shape
  have hS0 := Lib.hid (Set3.made w (.slice a la ca) (.slice b lb cb))
  obtain ⟨W0, hW0⟩ : ∃ W, ((w.alloc (.cells #[.slice a la ca] 26)).alloc (.cells #[.slice b lb cb] 26)).alloc (.cells #[.slice none 0 0] 26) = W := ⟨_, rfl⟩
  rw [hW0] at hS0
  have hW0H := Lib.hid hW0
  have hC := Lib.hid (Div_N (hu.below hS0.out.bel) (hv.below hS0.out.bel) hp hq)
  obtain ⟨dv1, hdv1⟩ : ∃ z, divE q = z := ⟨_, rfl⟩
  rw [hdv1] at hC
  have y0 := hS0.out.bu.cell
  have y1 := hS0.out.bv.cell
  clear hW0 hu hv hp hq hdv1
  go_enter Tryd.func45, Tryd.ntmps45
  go_upto_region 1 with (fail)
  rw [hW0H.out]
  clear hW0H
  go_wp2_with fail
  refine hC.out.mono ?_
  rintro e w2 ⟨r1, r2, rfl, hn1, hn2, hb2⟩
  obtain ⟨a1, l1, c1, rfl⟩ := hn1.shape
  obtain ⟨a2, l2, c2, rfl⟩ := hn2.shape
  have hb3 : Below w2.heap.size w2 ((w2.alloc (.cells #[.slice a1 l1 c1] 26)).alloc (.cells #[.slice a2 l2 c2] 26)) := ((Below.refl _ w2).alloc (Nat.le_refl _) _).alloc (by simp) _
  have hS3 := (hS0.out.below hb2).below hb3
  have hnH := Lib.hid (hn2.below hb3)
  have hSH := Lib.hid hS3
  have x2c := hS3.br.cell
  have x2f := hS3.br.frozen
  have q0 := (Boxed.new (w2.alloc (.cells #[.slice a1 l1 c1] 26)) 26 (.slice a2 l2 c2)).cell
  rw [World.size_alloc] at q0
  clear hn1 hn2 hb2 hb3 hS3 hS0 hC y0 y1
  go_wp2_with fail
  obtain ⟨w3, hw3⟩ : ∃ W, (w2.alloc (.cells #[.slice a1 l1 c1] 26)).alloc (.cells #[.slice a2 l2 c2] 26) = W := ⟨_, rfl⟩
  rw [hw3] at hnH hSH ⊢
  have r0 := (hSH.out.br.set (.slice a2 l2 c2)).cell
  have hE := hSH.out.bel.setCell (p := ⟨w.heap.size + 2, 0, none⟩) (Nat.le_add_right _ _) (.slice a2 l2 c2)
  have hN3 := hnH.out.fresh hSH.out.br (fun d h => by cases h) (.slice a2 l2 c2)
  obtain ⟨W3, hW3⟩ : ∃ W, w3.setCell ⟨w.heap.size + 2, 0, none⟩ (.slice a2 l2 c2) = W := ⟨_, rfl⟩
  rw [hW3] at r0 hE hN3 ⊢
  refine bodyPost_ret (v := .agg #[.slice a2 l2 c2]) (by simp [results, Tryd.results45, go_sem, r0]) rfl ⟨_, rfl, hN3, hE⟩
end Go.Proofs.YtffehdfddkgggaaDoor.Nu
