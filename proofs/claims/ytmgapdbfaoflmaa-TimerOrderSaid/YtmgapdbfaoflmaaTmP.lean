/- TimerOrder walked. -/
import Derived.Test.YtmgapdbfaoflmaaTmO
namespace Go.Proofs.Ytmgapdbfaoflmaa.Tm
open Go.RowKit Rt
set_option linter.unusedSimpArgs false
set_option linter.unusedVariables false
/-- What the timer holds behind k settings: k items, each with its place and the time that the list says. -/
def Built (ats : List Int) (S : List It) (k : Nat) : Prop := S.length = k ∧ ∀ p ∈ S, ∃ i : Nat, i < k ∧ p.1 = (i : Int) ∧ p.2 = pk (ats.getD i 0) 10000
theorem Built.step {ats : List Int} {S : List It} {k : Nat} (h : Built ats S k) : Built ats (insS (eraseS S (k : Int)) ((k : Int), pk (ats.getD k 0) 10000)) (k + 1) := by
  have e : eraseS S (k : Int) = S := eraseS_none fun p hp e => by obtain ⟨i, hi, h1, _⟩ := h.2 p hp; omega
  rw [e]
  refine ⟨by rw [insS_length, h.1], fun p hp => ?_⟩
  rcases List.mem_cons.1 ((insS_perm S _).mem_iff.1 hp) with rfl | hp
  · exact ⟨k, by omega, rfl, rfl⟩
  · obtain ⟨i, hi, h1, h2⟩ := h.2 p hp
    exact ⟨i, by omega, h1, h2⟩
/-- Ahead of a round of asking. -/
structure AskI (w wr : World) (ats : List Int) (S : List It) (tb bm : Nat) (kk : Nat) (N : Nat) (nw la : Int) (A T : List It) (v : Value) : Prop where
  to : TO w wr tb bm v T
  split : S = A ++ T
  now0 : 0 ≤ nw ∧ nw ≤ 10000
  la0 : -1 ≤ la ∧ la ≤ 10000
  le : ∀ p ∈ T, la ≤ p.2
  gt : 0 < kk → ∀ p ∈ T, nw < p.2
  fin : kk = N + 1 → T = []
theorem Srt.le_of {A T : List It} (h : Srt (A ++ T)) {p q : It} (hp : p ∈ A) (hq : q ∈ T) : p.2 ≤ q.2 := by
  have := (List.pairwise_append.1 h).2.2 p hp q hq
  unfold lt at this; omega
theorem dueS_rest (T : List It) (now : Int) : dueS T now ++ restS T now = T := List.takeWhile_append_dropWhile
theorem dueS_le {T : List It} {now : Int} {p : It} (h : p ∈ dueS T now) : p.2 ≤ now := by
  unfold dueS at h
  induction T with
  | nil => simp at h
  | cons a T ih =>
    by_cases ha : a.2 ≤ now
    · rw [List.takeWhile_cons_of_pos (by simpa using ha)] at h
      rcases List.mem_cons.1 h with rfl | h
      · exact ha
      · exact ih h
    · rw [List.takeWhile_cons_of_neg (by simpa using ha)] at h; simp at h
theorem restS_gt {T : List It} (hs : Srt T) {now : Int} {p : It} (h : p ∈ restS T now) : now < p.2 := by
  unfold restS at h
  have : ∀ T : List It, Srt T → p ∈ T.dropWhile (fun p => decide (p.2 ≤ now)) → now < p.2 := by
    intro T
    induction T with
    | nil => intro _ h; simp at h
    | cons a T ih =>
      intro hs h
      have h1 := List.pairwise_cons.1 hs
      by_cases ha : a.2 ≤ now
      · rw [List.dropWhile_cons_of_pos (by simpa using ha)] at h
        exact ih h1.2 h
      · rw [List.dropWhile_cons_of_neg (by simpa using ha)] at h
        rcases List.mem_cons.1 h with rfl | h
        · omega
        · have := h1.1 p h; unfold lt at this; omega
  exact this T hs h
/-- Where the last that came stands. -/
def lastOf (la : Int) (D : List It) (j : Nat) : Int := if j = 0 then la else (g D (j - 1)).2
theorem lastOf_le {la : Int} {D R : List It} (hs : Srt (D ++ R)) (hla : ∀ p ∈ D ++ R, la ≤ p.2) {j : Nat} (hj : j ≤ D.length) : (∀ i, j ≤ i → i < D.length → lastOf la D j ≤ (g D i).2) ∧ (∀ p ∈ R, lastOf la D j ≤ p.2) := by
  unfold lastOf
  by_cases h0 : j = 0
  · rw [if_pos h0]
    exact ⟨fun i _ hi => hla _ (List.mem_append_left _ (g_mem hi)), fun p hp => hla p (List.mem_append_right _ hp)⟩
  · rw [if_neg h0]
    refine ⟨fun i h1 h2 => ?_, fun p hp => hs.le_of (g_mem (by omega)) hp⟩
    have := (List.pairwise_iff_getElem.1 (List.pairwise_append.1 hs).1) (j - 1) i (by omega) h2 (by omega)
    rw [g_eq (by omega), g_eq h2]
    unfold lt at this; omega
set_option maxRecDepth 100000 in
set_option maxHeartbeats 8000000 in
theorem TimerOrder_any {w : World} {v0 v1 : Value} {L ns : List Int} (hL : SliceI w v0 L (· < w.heap.size)) (hN : SliceI w v1 ns (· < w.heap.size)) (hn8 : ns.length * 8 ≤ 140737488351232) :
    Calls Try.prog 8 #[v0, v1] w fun e w' => e = .returned (.bool true) ∧ Below w.heap.size w w' := by
  obtain ⟨a0, c0, rfl, hc0, hc0m, hnn0, _⟩ := hL.val
  obtain ⟨a1, c1, rfl, hc1, hc1m, _⟩ := hN.val
  have hlm : L.length ≤ 9223372036854775807 := by unfold maxLen at hc0m; omega
  have hcm : c0 ≤ 9223372036854775807 := by unfold maxLen at hc0m; omega
  obtain ⟨m, hm⟩ : ∃ m, (if L.length < 200 then L.length else 200) = m := ⟨_, rfl⟩
  have hmL : m ≤ L.length ∧ m ≤ 200 := by rw [← hm]; split <;> omega
  obtain ⟨hmL, hm200⟩ := hmL
  have hmc : m ≤ c0 := by omega
  have hmi : (if (200 : Int) < (L.length : Int) then (200 : Int) else (L.length : Int)) = (m : Int) := by rw [← hm]; split <;> split <;> omega
  have hmiH := Lib.hid hm
  clear hm
  go_enter Try.func8, Try.ntmps8
  go_wp2_with fail
  refine (examples_any w).mono ?_
  rintro e w1 ⟨rfl, hb1⟩
  go_wp2_with fail
  refine (New_any w1).mono ?_
  rintro e w2 ⟨rfl, h2, hb2⟩
  have hT := TO.new hb1 h2 hb2
  obtain ⟨tb, htb⟩ : ∃ t, w1.heap.size + 1 = t := ⟨_, rfl⟩
  rw [htb] at hT ⊢
  obtain ⟨bm, hbm⟩ : ∃ t, w1.heap.size = t := ⟨_, rfl⟩
  rw [hbm] at hT
  clear htb hbm h2 hb1 hb2
  go_wp2_with fail
  go_loopw [8] (fun i wr => ∃ (k : Nat) (S : List It) (v : Value), i = .int .i64 k ∧ k ≤ m ∧ Built L S k ∧ TO w wr tb bm v S) (fun i _ => m - (intOf i).toNat)
  case atStart => exact ⟨0, [], _, rfl, Nat.zero_le _, ⟨rfl, by simp⟩, hT⟩
  case round =>
    clear hT
    obtain ⟨k, S, v, rfl, hk, hB, hT⟩ := hrel
    by_cases hlt : k < m
    · have hlt' : (k : Int) < m := by omega
      obtain ⟨b, off, rfl, _, hcell, hwf⟩ := (hL.below (Nat.le_refl _) hT.below).at k (by omega)
      have hst := Lib.hid hB.step
      have hSl : S.length < 1099511627775 := by have := hB.1; omega
      obtain ⟨x, hx⟩ : ∃ x, L.getD k 0 = x := ⟨_, rfl⟩
      rw [hx] at hcell hwf
      have hxH := Lib.hid hx
      have hpk := pk_bd x 10000 (by omega)
      obtain ⟨y, hy⟩ : ∃ y, pk x 10000 = y := ⟨_, rfl⟩
      have hp := fun w => pick_any x 10000 w hwf (by omega) (by omega)
      rw [hy] at hpk hp
      have hyH := Lib.hid hy
      have hpH := Lib.hid hp
      obtain ⟨hy0, hy1⟩ := hpk
      have htt := hT.t
      clear hx hy hp
      go_wp2_with fail
      refine (hpH.out _).mono ?_
      rintro e w4 ⟨rfl, rfl⟩
      go_wp2_with fail
      refine (Set_S htt (k : Int) y (by unfold wf; omega) (by unfold wf; omega) hy0 hSl).mono ?_
      rintro e w5 ⟨rfl, v5, hT5, hv5, hk5⟩
      have hTO := hT.set hT5 hv5 hk5
      have hB2 : Built L (insS (eraseS S (k : Int)) ((k : Int), y)) (k + 1) := by
        have := hst.out; rw [hxH.out, hyH.out] at this; exact this
      clear hT5 hv5 hk5 htt hT hcell
      go_wp2
      go_roundw
      case rel => exact ⟨k + 1, _, v5, by go_num, by omega, hB2, hTO⟩
      case measure => simp [intOf]; omega
    · obtain rfl : k = m := by omega
      have hlt' : ¬ (k : Int) < k := by omega
      have hSl : S.length = k := hB.1
      have hTt := hT.t
      have hsrt := hTt.srt
      have hSlH := Lib.hid hSl
      have hA0 : AskI w wr L S tb bm 0 ns.length 0 (-1) [] S v := ⟨hT, rfl, by omega, by omega, fun p hp => by
        obtain ⟨i, _, _, h2⟩ := hB.2 p hp
        have := pk_bd (L.getD i 0) 10000 (by omega)
        omega, fun h => by omega, fun h => by omega⟩
      clear hTt hSl hT
      go_wp2_with fail
      go_loopw [9, 10, 11, 12] (fun nw' la' many' i wq => ∃ (kk : Nat) (nw la : Int) (A T : List It) (v' : Value), nw' = .int .i64 nw ∧ la' = .int .i64 la ∧ many' = .int .i64 (A.length : Int) ∧ i = .int .i64 kk ∧ kk ≤ ns.length + 1 ∧ AskI w wq L S tb bm kk ns.length nw la A T v') (fun _ _ _ i _ => ns.length + 1 - (intOf i).toNat)
      case atStart => exact ⟨0, 0, -1, [], S, v, rfl, rfl, rfl, rfl, by omega, hA0⟩
      case round =>
        clear hA0
        obtain ⟨kk, nw, la, A, T, v', rfl, rfl, rfl, rfl, hkk, hA⟩ := hrel
        have hnw := hA.now0
        obtain ⟨hnw0, hnw1⟩ := hnw
        have hkk8 : (kk : Int) ≤ 140737488351233 := by omega
        by_cases hle : kk ≤ ns.length
        · have hle' : (kk : Int) ≤ ns.length := by omega
          have hwb := Tm.wr (show -9223372036854775808 ≤ nw - 1 by omega) (by omega)
          by_cases heq : kk = ns.length
          · have heq' : ((kk : Int) == (ns.length : Int)) = true := beq_iff_eq.2 (by omega)
            have heq2 : (kk : Int) = (ns.length : Int) := by omega
            obtain ⟨nq, hnq⟩ : ∃ q : Int, (10000 : Int) = q := ⟨_, rfl⟩
            have hfin : kk + 1 = ns.length + 1 → nq = 10000 := fun _ => hnq.symm
            have hnq2 : 0 ≤ nq ∧ nq ≤ 10000 := by omega
            obtain ⟨hnqa, hnqb⟩ := hnq2
            have hnqc : nw ≤ nq := by omega
            have heqH := Lib.hid heq
            clear heq
            have hnqH := Lib.hid hnq
            clear heq2 hnq
            go_wp2_with fail
            rw [show (Value.int .i64 10000) = .int .i64 nq by rw [hnqH.out]]
            have hdq := hA.to.t
            have hTl : T.length < 1099511627775 := by have h1 := hSlH.out; rw [hA.split, List.length_append] at h1; omega
            have hAl : A.length ≤ 200 := by have h1 := hSlH.out; rw [hA.split, List.length_append] at h1; omega
            have hwq : wf nq := by unfold wf; omega
            go_wp2_with fail
            refine (Due_S hdq nq hwq hTl).mono ?_
            rintro e wd ⟨out, v9, rfl, hout, hT9, hv9, hk9⟩
            have hTO9 := hA.to.cut hT9 hv9 hk9
            have hsT : Srt (dueS T nq ++ restS T nq) := by rw [dueS_rest]; exact hdq.srt
            have hleT : ∀ p ∈ dueS T nq ++ restS T nq, la ≤ p.2 := by rw [dueS_rest]; exact hA.le
            have hspl : S = (A ++ dueS T nq) ++ restS T nq := by rw [List.append_assoc, dueS_rest]; exact hA.split
            have hrest : ∀ p ∈ restS T nq, nq < p.2 := fun p hp => restS_gt hdq.srt hp
            have hdue : ∀ p ∈ dueS T nq, p.2 ≤ nq := fun p hp => dueS_le hp
            have hgt : 0 < kk → ∀ p ∈ dueS T nq, nw < p.2 := fun h p hp => hA.gt h p (by rw [← dueS_rest T nq]; exact List.mem_append_left _ hp)
            have hlab := hA.la0
            obtain ⟨D, hD⟩ : ∃ D, dueS T nq = D := ⟨_, rfl⟩
            obtain ⟨R, hR⟩ : ∃ R, restS T nq = R := ⟨_, rfl⟩
            rw [hD, hR] at hsT hleT hspl
            rw [hD] at hout hdue hgt
            rw [hR] at hrest hTO9
            obtain ⟨ao, co, rfl⟩ := ids_val hout
            have hDl : D.length ≤ 200 := by have h1 := hSlH.out; rw [hspl, List.length_append, List.length_append] at h1; omega
            have hmemS : ∀ p ∈ D, p ∈ S := fun p hp => by rw [hspl]; exact List.mem_append_left _ (List.mem_append_right _ hp)
            have hsplH := Lib.hid hspl
            have hdueH := Lib.hid hdue
            have hgtH := Lib.hid hgt
            have hrestH := Lib.hid hrest
            have hleH := Lib.hid hleT
            have hmemH := Lib.hid hmemS
            have hAlO := Lib.hid hAl
            clear hD hR hT9 hv9 hk9 hdq hspl hdue hgt hrest hleT hmemS hA
            go_wp2_with fail
            go_loop [10, 11, 15] (fun la' many' i' => ∃ j : Nat, i' = .int .i64 j ∧ j ≤ D.length ∧ la' = .int .i64 (lastOf la D j) ∧ many' = .int .i64 ((A.length + j : Nat) : Int)) (fun _ _ i' => D.length - (intOf i').toNat)
            case atStart => exact ⟨0, rfl, Nat.zero_le _, rfl, rfl⟩
            case round =>
              obtain ⟨j, rfl, hj, rfl, rfl⟩ := hrel
              by_cases hjD : j < D.length
              · have hjD' : (j : Int) < D.length := by omega
                obtain ⟨go, rfl, hco⟩ := ids_get hout j hjD
                obtain ⟨ix, hix, hid, hat⟩ := hB.2 _ (hmemH.out _ (g_mem hjD))
                rw [hid] at hco
                obtain ⟨b0, off0, rfl, _, hcell, hwf⟩ := (hL.below (Nat.le_refl _) hTO9.below).at ix (by omega)
                have hixk : (ix : Int) < k := by omega
                have hlast := (lastOf_le hsT hleH.out (Nat.le_of_lt hjD)).1 j (Nat.le_refl _) hjD
                have hnow := hdueH.out _ (g_mem hjD)
                have hold := fun h => hgtH.out h _ (g_mem hjD)
                have hlnx : Hid (lastOf la D (j + 1) = (g D j).2) := Lib.hid (by unfold lastOf; simp)
                have hpk := pk_bd (L.getD ix 0) 10000 (by omega)
                rw [hat] at hlast hnow hold hlnx
                obtain ⟨x, hx⟩ : ∃ x, L.getD ix 0 = x := ⟨_, rfl⟩
                rw [hx] at hcell hwf hlast hnow hold hlnx hpk
                have hp := fun w => pick_any x 10000 w hwf (by omega) (by omega)
                obtain ⟨y, hy⟩ : ∃ y, pk x 10000 = y := ⟨_, rfl⟩
                rw [hy] at hp hlast hnow hold hlnx hpk
                obtain ⟨lj, hlj⟩ : ∃ l, lastOf la D j = l := ⟨_, rfl⟩
                rw [hlj] at hlast ⊢
                obtain ⟨mj, hmj⟩ : ∃ q, A.length + j = q := ⟨_, rfl⟩
                rw [hmj]
                have hmjb : mj ≤ 400 := by have := hAlO.out; omega
                have hpH := Lib.hid hp
                obtain ⟨hy0, hy1⟩ := hpk
                have c1 : ¬ y < lj := by omega
                have c2 : ¬ nq < y := by omega
                have hmjH := Lib.hid hmj
                clear hx hy hp hid hat hlj hmj hlast hnow
                by_cases hk0 : 0 < kk
                · have hk0' : (0 : Int) < kk := by omega
                  have c3 : ¬ y < nw - 1 := by have := hold hk0; omega
                  clear hold
                  go_wp2_with fail
                  refine (hpH.out _).mono ?_
                  rintro e w4 ⟨rfl, rfl⟩
                  go_wp2
                  go_round
                  case rel => exact ⟨j + 1, by go_num, by omega, by rw [hlnx.out], by have := hmjH.out; rw [← Nat.add_assoc, this]; go_num⟩
                  case measure => simp [intOf]; omega
                · have hk0' : ¬ (0 : Int) < kk := by omega
                  clear hold
                  go_wp2_with fail
                  refine (hpH.out _).mono ?_
                  rintro e w4 ⟨rfl, rfl⟩
                  go_wp2
                  go_round
                  case rel => exact ⟨j + 1, by go_num, by omega, by rw [hlnx.out], by have := hmjH.out; rw [← Nat.add_assoc, this]; go_num⟩
                  case measure => simp [intOf]; omega
              · obtain rfl : j = D.length := by omega
                have hll := (lastOf_le hsT hleH.out (Nat.le_refl _)).2
                have hA2 : AskI w wd L S tb bm (kk + 1) ns.length nq (lastOf la D D.length) (A ++ D) R v9 := ⟨hTO9, hsplH.out, by omega, (by
                  unfold lastOf
                  split
                  · omega
                  · obtain ⟨ix, _, _, hat⟩ := hB.2 _ (hmemH.out _ (g_mem (l := D) (i := D.length - 1) (by omega)))
                    have := pk_bd (L.getD ix 0) 10000 (by omega)
                    omega), hll, fun _ => hrestH.out, fun h => by
                    cases R with
                    | nil => rfl
                    | cons q R =>
                      have h1 := hrestH.out q (by simp)
                      obtain ⟨ix, _, _, hat⟩ := hB.2 q (by rw [hsplH.out]; simp)
                      have := pk_bd (L.getD ix 0) 10000 (by omega)
                      have := hfin (by omega)
                      omega⟩
                have hll' : (A ++ D).length = A.length + D.length := List.length_append
                have hllH := Lib.hid hll'
                obtain ⟨lz, hlz⟩ : ∃ l, lastOf la D D.length = l := ⟨_, rfl⟩
                rw [hlz] at hA2 ⊢
                clear hlz hll hll'
                go_wp2
                go_roundw
                case rel => exact ⟨kk + 1, nq, lz, A ++ D, R, v9, rfl, rfl, by rw [hllH.out], by go_num, by omega, hA2⟩
                case measure => simp [intOf]; omega
          · have heq' : ((kk : Int) == (ns.length : Int)) = false := beq_eq_false_iff_ne.2 (by omega)
            have hlt2 : (kk : Int) < ns.length := by omega
            obtain ⟨b1, off1, rfl, _, hcell1, hwf1⟩ := (hN.below (Nat.le_refl _) hA.to.below).at kk (by omega)
            obtain ⟨z, hz⟩ : ∃ x, ns.getD kk 0 = x := ⟨_, rfl⟩
            rw [hz] at hcell1 hwf1
            have hpz := fun w => pick_any z 500 w hwf1 (by omega) (by omega)
            have hpzb := pk_bd z 500 (by omega)
            obtain ⟨u, hu⟩ : ∃ u, pk z 500 = u := ⟨_, rfl⟩
            rw [hu] at hpz hpzb
            obtain ⟨hu0, hu1⟩ := hpzb
            have hpzH := Lib.hid hpz
            have hws := Tm.wr (show -9223372036854775808 ≤ nw + u by omega) (by omega)
            obtain ⟨nq, hnq⟩ : ∃ q : Int, (if nw + u < 10000 then nw + u else 10000) = q := ⟨_, rfl⟩
            have hfin : kk + 1 = ns.length + 1 → nq = 10000 := fun h => by omega
            have hnq2 : 0 ≤ nq ∧ nq ≤ 10000 ∧ nw ≤ nq := by rw [← hnq]; split <;> omega
            obtain ⟨hnqa, hnqb, hnqc⟩ := hnq2
            clear hz hu hpz
            go_wp2_with fail
            refine (hpzH.out _).mono ?_
            rintro e w4 ⟨rfl, rfl⟩
            clear hcell1 hpzH
            have hdq := hA.to.t
            have hTl : T.length < 1099511627775 := by have h1 := hSlH.out; rw [hA.split, List.length_append] at h1; omega
            have hAl : A.length ≤ 200 := by have h1 := hSlH.out; rw [hA.split, List.length_append] at h1; omega
            have hwq : wf nq := by unfold wf; omega
            go_wp2_with fail
            refine (Due_S hdq nq hwq hTl).mono ?_
            rintro e wd ⟨out, v9, rfl, hout, hT9, hv9, hk9⟩
            have hTO9 := hA.to.cut hT9 hv9 hk9
            have hsT : Srt (dueS T nq ++ restS T nq) := by rw [dueS_rest]; exact hdq.srt
            have hleT : ∀ p ∈ dueS T nq ++ restS T nq, la ≤ p.2 := by rw [dueS_rest]; exact hA.le
            have hspl : S = (A ++ dueS T nq) ++ restS T nq := by rw [List.append_assoc, dueS_rest]; exact hA.split
            have hrest : ∀ p ∈ restS T nq, nq < p.2 := fun p hp => restS_gt hdq.srt hp
            have hdue : ∀ p ∈ dueS T nq, p.2 ≤ nq := fun p hp => dueS_le hp
            have hgt : 0 < kk → ∀ p ∈ dueS T nq, nw < p.2 := fun h p hp => hA.gt h p (by rw [← dueS_rest T nq]; exact List.mem_append_left _ hp)
            have hlab := hA.la0
            obtain ⟨D, hD⟩ : ∃ D, dueS T nq = D := ⟨_, rfl⟩
            obtain ⟨R, hR⟩ : ∃ R, restS T nq = R := ⟨_, rfl⟩
            rw [hD, hR] at hsT hleT hspl
            rw [hD] at hout hdue hgt
            rw [hR] at hrest hTO9
            obtain ⟨ao, co, rfl⟩ := ids_val hout
            have hDl : D.length ≤ 200 := by have h1 := hSlH.out; rw [hspl, List.length_append, List.length_append] at h1; omega
            have hmemS : ∀ p ∈ D, p ∈ S := fun p hp => by rw [hspl]; exact List.mem_append_left _ (List.mem_append_right _ hp)
            have hsplH := Lib.hid hspl
            have hdueH := Lib.hid hdue
            have hgtH := Lib.hid hgt
            have hrestH := Lib.hid hrest
            have hleH := Lib.hid hleT
            have hmemH := Lib.hid hmemS
            have hAlO := Lib.hid hAl
            clear hD hR hT9 hv9 hk9 hdq hspl hdue hgt hrest hleT hmemS hA
            go_wp2_with fail
            go_loop [10, 11, 15] (fun la' many' i' => ∃ j : Nat, i' = .int .i64 j ∧ j ≤ D.length ∧ la' = .int .i64 (lastOf la D j) ∧ many' = .int .i64 ((A.length + j : Nat) : Int)) (fun _ _ i' => D.length - (intOf i').toNat)
            case atStart => exact ⟨0, rfl, Nat.zero_le _, rfl, rfl⟩
            case round =>
              obtain ⟨j, rfl, hj, rfl, rfl⟩ := hrel
              by_cases hjD : j < D.length
              · have hjD' : (j : Int) < D.length := by omega
                obtain ⟨go, rfl, hco⟩ := ids_get hout j hjD
                obtain ⟨ix, hix, hid, hat⟩ := hB.2 _ (hmemH.out _ (g_mem hjD))
                rw [hid] at hco
                obtain ⟨b0, off0, rfl, _, hcell, hwf⟩ := (hL.below (Nat.le_refl _) hTO9.below).at ix (by omega)
                have hixk : (ix : Int) < k := by omega
                have hlast := (lastOf_le hsT hleH.out (Nat.le_of_lt hjD)).1 j (Nat.le_refl _) hjD
                have hnow := hdueH.out _ (g_mem hjD)
                have hold := fun h => hgtH.out h _ (g_mem hjD)
                have hlnx : Hid (lastOf la D (j + 1) = (g D j).2) := Lib.hid (by unfold lastOf; simp)
                have hpk := pk_bd (L.getD ix 0) 10000 (by omega)
                rw [hat] at hlast hnow hold hlnx
                obtain ⟨x, hx⟩ : ∃ x, L.getD ix 0 = x := ⟨_, rfl⟩
                rw [hx] at hcell hwf hlast hnow hold hlnx hpk
                have hp := fun w => pick_any x 10000 w hwf (by omega) (by omega)
                obtain ⟨y, hy⟩ : ∃ y, pk x 10000 = y := ⟨_, rfl⟩
                rw [hy] at hp hlast hnow hold hlnx hpk
                obtain ⟨lj, hlj⟩ : ∃ l, lastOf la D j = l := ⟨_, rfl⟩
                rw [hlj] at hlast ⊢
                obtain ⟨mj, hmj⟩ : ∃ q, A.length + j = q := ⟨_, rfl⟩
                rw [hmj]
                have hmjb : mj ≤ 400 := by have := hAlO.out; omega
                have hpH := Lib.hid hp
                obtain ⟨hy0, hy1⟩ := hpk
                have c1 : ¬ y < lj := by omega
                have c2 : ¬ nq < y := by omega
                have hmjH := Lib.hid hmj
                clear hx hy hp hid hat hlj hmj hlast hnow
                by_cases hk0 : 0 < kk
                · have hk0' : (0 : Int) < kk := by omega
                  have c3 : ¬ y < nw - 1 := by have := hold hk0; omega
                  clear hold
                  go_wp2_with fail
                  refine (hpH.out _).mono ?_
                  rintro e w4 ⟨rfl, rfl⟩
                  go_wp2
                  go_round
                  case rel => exact ⟨j + 1, by go_num, by omega, by rw [hlnx.out], by have := hmjH.out; rw [← Nat.add_assoc, this]; go_num⟩
                  case measure => simp [intOf]; omega
                · have hk0' : ¬ (0 : Int) < kk := by omega
                  clear hold
                  go_wp2_with fail
                  refine (hpH.out _).mono ?_
                  rintro e w4 ⟨rfl, rfl⟩
                  go_wp2
                  go_round
                  case rel => exact ⟨j + 1, by go_num, by omega, by rw [hlnx.out], by have := hmjH.out; rw [← Nat.add_assoc, this]; go_num⟩
                  case measure => simp [intOf]; omega
              · obtain rfl : j = D.length := by omega
                have hll := (lastOf_le hsT hleH.out (Nat.le_refl _)).2
                have hA2 : AskI w wd L S tb bm (kk + 1) ns.length nq (lastOf la D D.length) (A ++ D) R v9 := ⟨hTO9, hsplH.out, by omega, (by
                  unfold lastOf
                  split
                  · omega
                  · obtain ⟨ix, _, _, hat⟩ := hB.2 _ (hmemH.out _ (g_mem (l := D) (i := D.length - 1) (by omega)))
                    have := pk_bd (L.getD ix 0) 10000 (by omega)
                    omega), hll, fun _ => hrestH.out, fun h => by
                    cases R with
                    | nil => rfl
                    | cons q R =>
                      have h1 := hrestH.out q (by simp)
                      obtain ⟨ix, _, _, hat⟩ := hB.2 q (by rw [hsplH.out]; simp)
                      have := pk_bd (L.getD ix 0) 10000 (by omega)
                      have := hfin (by omega)
                      omega⟩
                have hll' : (A ++ D).length = A.length + D.length := List.length_append
                have hllH := Lib.hid hll'
                obtain ⟨lz, hlz⟩ : ∃ l, lastOf la D D.length = l := ⟨_, rfl⟩
                rw [hlz] at hA2 ⊢
                clear hlz hll hll'
                go_wp2
                go_roundw
                case rel => exact ⟨kk + 1, nq, lz, A ++ D, R, v9, rfl, rfl, by rw [hllH.out], by go_num, by omega, hA2⟩
                case measure => simp [intOf]; omega
        · obtain rfl : kk = ns.length + 1 := by omega
          have hle' : ¬ ((ns.length : Int) + 1 ≤ ns.length) := by omega
          have hT0 := hA.fin rfl
          subst hT0
          have hAl : A.length = k := by have h1 := hSlH.out; rw [hA.split, List.append_nil] at h1; exact h1
          have hAl' : ((A.length : Int) == (k : Int)) = true := beq_iff_eq.2 (by omega)
          have hTt := hA.to.t
          have hbw := hA.to.below
          have hAlH := Lib.hid hAl
          clear hAl
          go_wp2_with fail
          refine (Len_S hTt).mono ?_
          rintro e w4 ⟨rfl, rfl⟩
          go_wp2
          go_ret
          exact ⟨rfl, hbw⟩
end Go.Proofs.Ytmgapdbfaoflmaa.Tm
