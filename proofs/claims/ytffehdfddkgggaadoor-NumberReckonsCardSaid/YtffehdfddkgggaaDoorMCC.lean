/- The reference's up. -/
import Derived.Test.YtffehdfddkgggaaDoorMBC
namespace Go.Proofs.YtffehdfddkgggaaDoor.Nu
open Go.RowKit Rt
set_option linter.unusedSimpArgs false
set_option linter.unusedVariables false
set_option maxHeartbeats 1000000 in
set_option maxRecDepth 100000 in
theorem RUp_any {w : World} {u : Value} {A : List Nat} (hu : SlD w u A) (hA : Dig A) (hlA : A.length ≤ 1000000) (s : Nat) (hs : s < 32) :
    Calls Tryd.prog 52 #[u, .int .i64 (s : Int)] w fun e w' => ∃ r, e = .returned r ∧ NumAt w' r (val A * 2 ^ s) ∧ Below w.heap.size w w' := by
  have hpB : (2 : Nat) ^ s < Bs := Nat.pow_lt_pow_right (by decide) hs
  obtain ⟨p, hp⟩ : ∃ p, 2 ^ s = p := ⟨_, rfl⟩
  rw [hp] at hpB ⊢
  have hpi : (2 : Int) ^ s = (p : Int) := by rw [← hp, Int.natCast_pow]; rfl
  have hpw := wr32 (x := (p : Int)) (by omega) (by simp only [Bs] at hpB; omega)
  have hM := World.alloc_heap_new w (.cells (encD [p]) 60)
  have hM2 : RowM (w.alloc (.cells (encD [p]) 60)) w.heap.size [p] := hM
  have hobj : (#[.int .u32 (p : Int)] : Array Value) = encD [p] := rfl
  have hB : Below w.heap.size w (w.alloc (.cells (encD [p]) 60)) := (Below.refl _ w).alloc (Nat.le_refl _) _
  have hS := hM2.sl (k := 1) (c := 1) (Nat.le_refl _) (Nat.le_refl _)
  have hd : Dig [p] := by
    intro j
    match j with
    | 0 => exact hpB
    | j + 1 => exact (by decide : 0 < Bs)
  have hv : val [p] = p := by
    show dsum (gd [p]) 1 = p
    simp [dsum, gd]
  have hC := Lib.hid (RMul_any (hu.below hB) hS hA hd hlA (show (1 : Nat) ≤ 1000000 by decide))
  have hvt : val (List.take 1 [p]) = p := hv
  rw [hvt] at hC
  have hBH := Lib.hid hB
  have hobjH := Lib.hid hobj
  obtain ⟨a, c, rfl, _, _⟩ := id hu
  clear hu hM hM2 hB hS hd hv hvt hobj hp
  go_enter Tryd.func52, Tryd.ntmps52
  go_wp2_with fail
  rw [hobjH.out]
  refine hC.out.mono ?_
  rintro e w2 ⟨r, rfl, hn, hb2⟩
  go_wp2_with fail
  go_ret
  exact ⟨_, rfl, hn, hBH.out.trans (hb2.mono hBH.out.size)⟩
end Go.Proofs.YtffehdfddkgggaaDoor.Nu

/- The reference's down. -/
namespace Go.Proofs.YtffehdfddkgggaaDoor.Nu
open Go.RowKit Rt
set_option linter.unusedSimpArgs false
set_option linter.unusedVariables false
/-- A move down under way. -/
structure DoI (w W : World) (g la s : Nat) (A : List Nat) (k : Nat) (O : List Nat) : Prop where
  bel : Below w.heap.size w W
  row : RowM W g O
  len : O.length = la
  dig : Dig O
  lo : ∀ j, j < k → gd O j = (gd A (j + 1) * Bs + gd A j) / 2 ^ s % Bs
set_option maxHeartbeats 4000000 in
set_option maxRecDepth 100000 in
theorem RDown_any {w : World} {u : Value} {A : List Nat} (hu : SlD w u A) (hA : Dig A) (hlA : A.length ≤ 1000000) (s : Nat) (hs : s < 32) :
    Calls Tryd.prog 54 #[u, .int .i64 (s : Int)] w fun e w' => ∃ r, e = .returned r ∧ NumAt w' r (val A / 2 ^ s) ∧ Below w.heap.size w w' := by
  obtain ⟨a, ca, rfl, _, _⟩ := id hu
  obtain ⟨la, hla⟩ : ∃ n, A.length = n := ⟨_, rfl⟩
  rw [hla] at hlA hu ⊢
  have huH := Lib.hid hu
  have hAH := Lib.hid hA
  have hlaH := Lib.hid hla
  have hmk := run_mk w la la (Nat.le_refl _) (by omega)
  clear hu hA hla
  go_enter Tryd.func54, Tryd.ntmps54
  go_upto_region 2 with (fail)
  have hM1 := RowM.made w la
  have hB1 : Below w.heap.size w (w.alloc (.cells (encD (List.replicate la 0)) 60)) := (Below.refl _ w).alloc (Nat.le_refl _) _
  obtain ⟨W1, hW1⟩ : ∃ W, w.alloc (.cells (encD (List.replicate la 0)) 60) = W := ⟨_, rfl⟩
  rw [hW1] at hM1 hB1 ⊢
  obtain ⟨g, hg⟩ : ∃ g, w.heap.size = g := ⟨_, rfl⟩
  rw [hg] at hM1 ⊢
  have hI1 : Hid (DoI w W1 g la s A 0 (List.replicate la 0)) := Lib.hid ⟨hB1, hM1, List.length_replicate, dig_zeros _, fun j hj => absurd hj (Nat.not_lt_zero _)⟩
  have hgH := Lib.hid hg
  clear hW1 hM1 hB1 hg hmk
  go_wp2_with fail
  go_loopw [6] (fun vk wr => ∃ (k : Nat) (O : List Nat), vk = .int .i64 k ∧ k ≤ la ∧ Hid (DoI w wr g la s A k O)) (fun vk _ => la - (intOf vk).toNat)
  case atStart => exact ⟨0, _, rfl, Nat.zero_le _, hI1⟩
  case round =>
    obtain ⟨k, O, rfl, hk, hI⟩ := hrel
    clear hI1
    by_cases hlt : (k : Int) < la
    · have hkl : k < la := by omega
      obtain ⟨ba, oa, rfl, cA⟩ := huH.out.at hI.out.bel (j := k) (by rw [hlaH.out]; exact hkl)
      have cO := hI.out.row.cell k (by rw [hI.out.len]; omega)
      have fO := hI.out.row.frozen k
      have hkw := Nu.wr (x := (k : Int) + 1) (by omega) (by omega)
      have hdB := hAH.out k
      have hfB := hAH.out (k + 1)
      by_cases hk1 : (k : Int) + 1 < la
      · obtain ⟨ba', oa', hba, cF⟩ := huH.out.at hI.out.bel (j := k + 1) (by rw [hlaH.out]; omega)
        cases hba
        have hkn : ((k : Int) + 1).toNat = k + 1 := by omega
        have hk0 : (0 : Int) ≤ (k : Int) + 1 := by omega
        obtain ⟨sm, hsm0⟩ : ∃ z, gd A (k + 1) * Bs + gd A k = z := ⟨_, rfl⟩
        obtain ⟨d, hd⟩ : ∃ z, gd A k = z := ⟨_, rfl⟩
        obtain ⟨f, hf⟩ : ∃ z, gd A (k + 1) = z := ⟨_, rfl⟩
        have hsm : f * Bs + d = sm := by rw [← hd, ← hf]; exact hsm0
        rw [hd] at cA hdB
        rw [hf] at cF hfB
        have hdw := Nu.wr64 (x := (d : Int)) (by omega) (by simp only [Bs] at hdB; omega)
        have hfw := Nu.wr64 (x := (f : Int)) (by omega) (by simp only [Bs] at hfB; omega)
        have hmw := Nu.wr64 (x := (f : Int) * 4294967296) (by omega) (by simp only [Bs] at hfB; omega)
        have hsmi : (d : Int) + (f : Int) * 4294967296 = (sm : Int) := by rw [← hsm]; simp only [Bs]; omega
        have hsb : sm < 18446744073709551616 := by simp only [Bs] at *; omega
        have hsw := Nu.wr64 (x := (sm : Int)) (by omega) (by omega)
        have hdq : sm / 2 ^ s ≤ sm := Nat.div_le_self _ _
        have hshr : (sm : Int) / 2 ^ s = ((sm / 2 ^ s : Nat) : Int) := by rw [Int.natCast_ediv, Int.natCast_pow]; rfl
        obtain ⟨q, hq⟩ : ∃ z, sm / 2 ^ s = z := ⟨_, rfl⟩
        rw [hq] at hdq hshr
        have hqw := Nu.wr64 (x := (q : Int)) (by omega) (by omega)
        have htm : Int.tmod (q : Int) 4294967296 = ((q % Bs : Nat) : Int) := (Int.ofNat_tmod q Bs).symm
        have heb : q % Bs < Bs := Nat.mod_lt _ (by decide)
        obtain ⟨e, he⟩ : ∃ z, q % Bs = z := ⟨_, rfl⟩
        rw [he] at htm heb
        have hE : Hid ((gd A (k + 1) * Bs + gd A k) / 2 ^ s % Bs = e) := Lib.hid (by rw [hsm0, hq, he])
        have heB := Lib.hid heb
        have hew := Nu.wr64 (x := (e : Int)) (by omega) (by simp only [Bs] at heb; omega)
        have hem : (e : Int) % 4294967296 = (e : Int) := by simp only [Bs] at heb; omega
        clear hq he heb hdq hsm0
        clear hd hf hsm hdB hfB
        have hV : Hid ((gd A (k + 1) * Bs + gd A k) / 2 ^ s % Bs = e) := hE
        have hI3 : Hid (DoI w (wr.setCell ⟨g, k, none⟩ (.int .u32 (e : Int))) g la s A (k + 1) (O.set k e)) := Lib.hid (by
          have hl1 : k < O.length := by rw [hI.out.len]; omega
          refine ⟨hI.out.bel.setCell (p := ⟨g, k, none⟩) (Nat.le_of_eq hgH.out) _, hI.out.row.set k e, by rw [List.length_set]; exact hI.out.len, dig_set hI.out.dig heB.out, fun j hj => ?_⟩
          rw [gd_set hl1]
          by_cases h1 : j = k
          · rw [if_pos h1, h1, hV.out]
          · rw [if_neg h1]; exact hI.out.lo j (by omega))
        go_wp2_with fail
        go_roundw
        case rel => exact ⟨k + 1, _, by first | rfl | go_num, by omega, hI3⟩
        case measure => first | (simp [intOf]; done) | (simp [intOf]; omega)
      · have hz : gd A (k + 1) = 0 := gd_out (by rw [hlaH.out]; omega)
        obtain ⟨sm, hsm0⟩ : ∃ z, gd A (k + 1) * Bs + gd A k = z := ⟨_, rfl⟩
        have hsm : gd A k = sm := by rw [← hsm0, hz]; simp
        rw [hsm] at cA hdB
        have hsb : sm < 18446744073709551616 := by simp only [Bs] at *; omega
        have hsw := Nu.wr64 (x := (sm : Int)) (by omega) (by omega)
        have hdq : sm / 2 ^ s ≤ sm := Nat.div_le_self _ _
        have hshr : (sm : Int) / 2 ^ s = ((sm / 2 ^ s : Nat) : Int) := by rw [Int.natCast_ediv, Int.natCast_pow]; rfl
        obtain ⟨q, hq⟩ : ∃ z, sm / 2 ^ s = z := ⟨_, rfl⟩
        rw [hq] at hdq hshr
        have hqw := Nu.wr64 (x := (q : Int)) (by omega) (by omega)
        have htm : Int.tmod (q : Int) 4294967296 = ((q % Bs : Nat) : Int) := (Int.ofNat_tmod q Bs).symm
        have heb : q % Bs < Bs := Nat.mod_lt _ (by decide)
        obtain ⟨e, he⟩ : ∃ z, q % Bs = z := ⟨_, rfl⟩
        rw [he] at htm heb
        have hE : Hid ((gd A (k + 1) * Bs + gd A k) / 2 ^ s % Bs = e) := Lib.hid (by rw [hsm0, hq, he])
        have heB := Lib.hid heb
        have hew := Nu.wr64 (x := (e : Int)) (by omega) (by simp only [Bs] at heb; omega)
        have hem : (e : Int) % 4294967296 = (e : Int) := by simp only [Bs] at heb; omega
        clear hq he heb hdq hsm0
        clear hsm hz hdB hfB
        have hV : Hid ((gd A (k + 1) * Bs + gd A k) / 2 ^ s % Bs = e) := hE
        have hI3 : Hid (DoI w (wr.setCell ⟨g, k, none⟩ (.int .u32 (e : Int))) g la s A (k + 1) (O.set k e)) := Lib.hid (by
          have hl1 : k < O.length := by rw [hI.out.len]; omega
          refine ⟨hI.out.bel.setCell (p := ⟨g, k, none⟩) (Nat.le_of_eq hgH.out) _, hI.out.row.set k e, by rw [List.length_set]; exact hI.out.len, dig_set hI.out.dig heB.out, fun j hj => ?_⟩
          rw [gd_set hl1]
          by_cases h1 : j = k
          · rw [if_pos h1, h1, hV.out]
          · rw [if_neg h1]; exact hI.out.lo j (by omega))
        go_wp2_with fail
        go_roundw
        case rel => exact ⟨k + 1, _, by first | rfl | go_num, by omega, hI3⟩
        case measure => first | (simp [intOf]; done) | (simp [intOf]; omega)
    · have hkl : k = la := by omega
      subst hkl
      have hval : val O = val A / 2 ^ s := by
        have h1 : dsum (gd A) (k + 1) = val A := val_ext (by rw [hlaH.out]; omega)
        have h2 : val A < Bs ^ k := by have := val_lt hAH.out; rw [hlaH.out] at this; exact this
        have h3 := shr_sum (f := gd A) (r := gd O) hAH.out (n := k) (s := s) (by omega) hI.out.lo (by rw [h1]; exact Nat.lt_of_le_of_lt (Nat.div_le_self _ _) h2)
        rw [h1] at h3
        unfold val at *
        rw [hI.out.len]; exact h3
      have hT := RTrim_row hI.out.row hI.out.dig (by rw [hI.out.len]; omega) (Nat.le_of_eq hI.out.len) (by unfold maxLen; omega)
      rw [hI.out.len, hval] at hT
      have hTH := Lib.hid hT
      clear hT hval
      go_wp2_with fail
      refine hTH.out.mono ?_
      rintro e w3 ⟨r, rfl, hn, rfl⟩
      go_wp2_with fail
      go_ret
      exact ⟨_, rfl, hn, hI.out.bel⟩
end Go.Proofs.YtffehdfddkgggaaDoor.Nu

/- Rows of digits that grow; the reference's moved. -/
namespace Go.Proofs.YtffehdfddkgggaaDoor.Nu
open Go.RowKit Rt
set_option linter.unusedSimpArgs false
set_option linter.unusedVariables false
theorem dv_one (T : List Nat) : ∀ u ∈ T.map dv, u.oneCell' = true := by
  intro u hu
  obtain ⟨d, _, rfl⟩ := List.mem_map.1 hu
  rfl
theorem map_dv_get {T : List Nat} {j : Nat} {u : Value} (h : (T.map dv)[j]? = some u) : j < T.length ∧ u = .int .u32 (gd T j : Int) := by
  have hj : j < (T.map dv).length := (List.getElem?_eq_some_iff.1 h).1
  rw [List.length_map] at hj
  refine ⟨hj, ?_⟩
  rw [List.getElem?_map, List.getElem?_eq_getElem hj] at h
  rw [gd_get hj]
  exact (Option.some.inj h).symm
theorem wpList_app_d {w : World} {ops : Array Oper} {rest : List Oper} {o : Oper} {a : Act} {Q : Exit → Act → World → Prop} (hgd : o.guard = none) (s x : Operand)
    (ho : o.op = .call { callee := .builtin .append, args := #[s, x], argTypes := #[24, 24] }) {base : Nat} {v : Value} {L : List Nat} (hs : a.eval s = v) (hown : w.ownsRow base 60 1 v L.length (L.map dv)) (hbase : base ≤ w.heap.size)
    {b off c m : Nat} {T : List Nat} (hx : a.eval x = .slice (some ⟨b, off, none⟩) m c) (hm : m = T.length) (hT : ∀ j, j < T.length → w.cell? ⟨b, off + j, none⟩ = some (.int .u32 (gd T j : Int)))
    (hl : L.length + T.length ≤ 35184372088832)
    (h : ∀ v' w', w'.ownsRow base 60 1 v' (L ++ T).length ((L ++ T).map dv) → w.grownBy w' v.ownBlock → (v'.ownBlock = v.ownBlock ∨ v'.ownBlock = some w.heap.size) → wpList Tryd.prog ops Q rest (a.put o.dst v') w') : wpList Tryd.prog ops Q (o :: rest) a w := by
  obtain ⟨i, hi, h0, h1, h2⟩ := info60'
  subst hm
  exact wpList_append_own_at _ hgd s x 24 ho base 60 i (.int .u32 0) 1 4 Tryd.underlying24 hi h0 h1 h2 rfl (by decide) v L.length (L.map dv) hs hown ⟨b, off, none⟩ T.length c (T.map dv) hx (by rw [List.length_map, Nat.mul_one])
    (fun j u hj => by obtain ⟨h3, rfl⟩ := map_dv_get hj; rw [Addr.add_lit]; exact hT j h3) (dv_one T) (by unfold maxLen; omega) (by omega) hbase
    (fun v1 w1 q1 q2 _ q4 => h v1 w1 (by rw [List.length_append, List.map_append]; exact q1) q2 q4)
theorem own_sl {w : World} {base : Nat} {v : Value} {L : List Nat} (h : w.ownsRow base 60 1 v L.length (L.map dv)) : SlD w v L ∧ ∃ a c, v = .slice a L.length c ∧ c ≤ maxLen := by
  have hc := h
  rcases h.2 with ⟨rfl, e⟩ | ⟨g, cap, cur, rfl, hbg, hh, hle, hcm, hsz, htk⟩
  · refine ⟨⟨none, 0, by rw [e], ⟨by omega, .inl ⟨rfl, rfl⟩⟩, fun h0 => by omega⟩, none, 0, by rw [e], by unfold maxLen; omega⟩
  · refine ⟨⟨_, cap, rfl, ⟨hle, .inr ⟨g, 0, rfl⟩⟩, fun h0 => ⟨g, 0, rfl, (Array.getElem?_eq_some_iff.1 hh).1, fun j hj => ?_⟩⟩, _, cap, rfl, hcm⟩
    have := hc.cellAt j (by rw [Nat.mul_one]; exact hj)
    rw [Nat.zero_add, this, List.getElem?_map, List.getElem?_eq_getElem hj, gd_get hj]
    rfl
theorem own_below {w w' : World} {base : Nat} {v : Value} {L : List Nat} (h : w.ownsRow base 60 1 v L.length (L.map dv)) (hb : Below w.heap.size w w') : w'.ownsRow base 60 1 v L.length (L.map dv) := by
  obtain ⟨h1, h2 | ⟨g, cap, cur, hv, hg, hh, r⟩⟩ := h
  · exact ⟨h1, .inl h2⟩
  · exact ⟨h1, .inr ⟨g, cap, cur, hv, hg, (hb.block g (Array.getElem?_eq_some_iff.1 hh).1).trans hh, r⟩⟩
/-- A row that is not older. -/
def Newer (b : Nat) (r : Value) : Prop := ∀ p l c, r = .slice (some p) l c → b ≤ p.block
theorem Newer.nil (b : Nat) : Newer b (.slice none 0 0) := fun p l c e => by cases e
theorem Newer.mono {b b' : Nat} {r : Value} (h : Newer b r) (hb : b' ≤ b) : Newer b' r := fun p l c e => Nat.le_trans hb (h p l c e)
/-- What ends with the reference's trim. -/
theorem RTrim_ownF {w : World} {base : Nat} {v : Value} {L : List Nat} (h : w.ownsRow base 60 1 v L.length (L.map dv)) (hd : Dig L) (hl : L.length ≤ 70368744177664) :
    Calls Tryd.prog 40 #[v] w fun e w' => ∃ r, e = .returned r ∧ NumAt w' r (val L) ∧ w' = w ∧ Newer base r := by
  have hnew : Newer base v := by
    rcases h.2 with ⟨rfl, e⟩ | ⟨g, cap, cur, rfl, hbg, _⟩
    · exact Newer.nil _
    · intro p l c e; cases e; exact hbg
  obtain ⟨hs, a, c, rfl, hc⟩ := own_sl h
  obtain ⟨a', c', hv, hcc, hcell⟩ := id hs
  cases hv
  have ht := trimL_le L L.length
  obtain ⟨h1, h2⟩ := trim_norm hd
  refine (RTrim_any hs hl hcc.1 hc).mono ?_
  rintro e w' ⟨rfl, rfl⟩
  have hlen : (L.take (trimL L L.length)).length = trimL L L.length := by rw [List.length_take]; omega
  refine ⟨_, rfl, ⟨_, h1, h2, a, c, by rw [hlen], ⟨by have := hcc.1; omega, hcc.2⟩, fun h0 => ?_⟩, rfl, fun p l c' e => by cases e; exact hnew p _ _ rfl⟩
  rw [hlen] at h0
  obtain ⟨b, off, rfl, hb, hcl⟩ := hcell (by omega)
  refine ⟨b, off, rfl, hb, fun j hj => ?_⟩
  rw [hlen] at hj
  rw [gd_take hj]
  exact hcl j (by omega)
theorem RTrim_own {w : World} {base : Nat} {v : Value} {L : List Nat} (h : w.ownsRow base 60 1 v L.length (L.map dv)) (hd : Dig L) (hl : L.length ≤ 70368744177664) :
    Calls Tryd.prog 40 #[v] w fun e w' => ∃ r, e = .returned r ∧ NumAt w' r (val L) ∧ w' = w :=
  (RTrim_ownF h hd hl).mono fun e w' ⟨r, h1, h2, h3, _⟩ => ⟨r, h1, h2, h3⟩
end Go.Proofs.YtffehdfddkgggaaDoor.Nu

/- The reference's Small. -/
namespace Go.Proofs.YtffehdfddkgggaaDoor.Nu
open Go.RowKit Rt
set_option linter.unusedSimpArgs false
set_option linter.unusedVariables false
theorem gd_snoc (L : List Nat) (d j : Nat) : gd (L ++ [d]) j = if j = L.length then d else gd L j := by
  unfold gd
  rw [List.getD_eq_getElem?_getD, List.getD_eq_getElem?_getD, List.getElem?_append]
  by_cases h : j < L.length
  · rw [if_pos h, if_neg (by omega)]
  · rw [if_neg h]
    by_cases h2 : j = L.length
    · rw [if_pos h2, h2, Nat.sub_self]; rfl
    · rw [if_neg h2, List.getElem?_eq_none (by simp; omega), List.getElem?_eq_none (by omega)]
theorem val_snoc (L : List Nat) (d : Nat) : val (L ++ [d]) = val L + d * Bs ^ L.length := by
  unfold val
  rw [List.length_append, List.length_singleton, dsum_succ, gd_snoc, if_pos rfl]
  congr 1
  exact dsum_congr fun j hj => by rw [gd_snoc, if_neg (by omega)]
theorem dig_snoc {L : List Nat} {d : Nat} (h : Dig L) (hd : d < Bs) : Dig (L ++ [d]) := by
  intro j
  rw [gd_snoc]; split
  · exact hd
  · exact h j
/-- The digits of a little number under way. -/
structure SmI (w W : World) (n : Nat) (x : Nat) (v : Value) (L : List Nat) : Prop where
  row : W.ownsRow w.heap.size 60 1 v L.length (L.map dv)
  bel : Below w.heap.size w W
  dig : Dig L
  sum : val L + x * Bs ^ L.length = n
  fin : x = 0 → Norm L
set_option maxHeartbeats 2000000 in
set_option maxRecDepth 100000 in
theorem RSmall_N (w : World) (n : Nat) (hn : n < 18446744073709551616) : Calls Tryd.prog 15 #[.int .u64 (n : Int)] w fun e w' => ∃ r, e = .returned r ∧ NumAt w' r n ∧ Below w.heap.size w w' := by
  have hI0 : Hid (SmI w w n n (.slice none 0 0) []) := Lib.hid ⟨World.ownsRow_nil _ _ _ _, Below.refl _ _, norm_nil.dig, by simp [val, dsum], fun _ => norm_nil⟩
  go_enter Tryd.func15, Tryd.ntmps15
  go_wp2_with fail
  go_loopw [0, 3] (fun vx vo wr => ∃ (x : Nat) (L : List Nat), vx = .int .u64 (x : Int) ∧ x ≤ n ∧ Hid (SmI w wr n x vo L)) (fun vx _ _ => (intOf vx).toNat)
  case atStart => exact ⟨n, [], rfl, Nat.le_refl _, hI0⟩
  case round =>
    obtain ⟨x, L, rfl, hxn, hI⟩ := hrel
    clear hI0
    by_cases h0 : x = 0
    · subst h0
      have hv : val L = n := by have := hI.out.sum; rw [Nat.zero_mul] at this; exact this
      have hN : NumAt wr _ n := ⟨L, hI.out.fin rfl, hv, (own_sl hI.out.row).1⟩
      have hNH := Lib.hid hN
      clear hN
      go_wp2_with fail
      go_ret
      exact ⟨_, rfl, hNH.out, hI.out.bel⟩
    · have hxp : (0 : Int) < x := by omega
      have htm : Int.tmod (x : Int) 4294967296 = ((x % Bs : Nat) : Int) := (Int.ofNat_tmod x Bs).symm
      have htd : Int.tdiv (x : Int) 4294967296 = ((x / Bs : Nat) : Int) := (Int.ofNat_tdiv x Bs).symm
      have heB : x % Bs < Bs := Nat.mod_lt _ (by decide)
      have hqB : x / Bs < x := Nat.div_lt_self (by omega) (by decide)
      have hsum := Nat.div_add_mod x Bs
      have hlen : L.length < 2 := by
        rcases Nat.lt_or_ge L.length 2 with h | h
        · exact h
        · have h1 := hI.out.sum
          have h2 : Bs ^ 2 ≤ Bs ^ L.length := Nat.pow_le_pow_right (by decide) h
          have h3 : 1 * Bs ^ L.length ≤ x * Bs ^ L.length := Nat.mul_le_mul_right _ (by omega)
          have h4 : Bs ^ 2 = 18446744073709551616 := rfl
          omega
      obtain ⟨e, he⟩ : ∃ z, x % Bs = z := ⟨_, rfl⟩
      obtain ⟨q, hq⟩ : ∃ z, x / Bs = z := ⟨_, rfl⟩
      rw [he] at htm heB hsum
      rw [hq] at htd hqB hsum
      have hew := Nu.wr64 (x := (e : Int)) (by omega) (by simp only [Bs] at heB; omega)
      have hqw := Nu.wr64 (x := (q : Int)) (by omega) (by omega)
      have hem : (e : Int) % 4294967296 = (e : Int) := by simp only [Bs] at heB; omega
      have hsumH := Lib.hid hsum
      have heBH := Lib.hid heB
      have hlenH := Lib.hid hlen
      clear he hq hsum heB hlen
      go_wp2_with (at_builtin; refine wpList_app_d rfl (.tmp 6) (.tmp 10) rfl rfl (own_below hI.out.row ((Below.refl _ wr).alloc (Nat.le_refl _) (.cells #[.int .u32 (e : Int)] 60))) (Nat.le_trans hI.out.bel.size (by simp)) (b := wr.heap.size) (off := 0) (m := 1) (c := 1) (T := [e]) rfl rfl (fun j hj => by { have hj0 : j = 0 := by { simp at hj; omega }; subst hj0; exact World.cell?_alloc_one _ _ _ }) (by have := hlenH.out; simp; omega) ?_; intro v' w' hrow hgrow hat)
      have hb : Below w.heap.size w w' := by
        have h1 : Below w.heap.size w (wr.alloc (.cells #[.int .u32 (e : Int)] 60)) := hI.out.bel.alloc hI.out.bel.size _
        refine ⟨hgrow.os.trans h1.os, hgrow.tape.trans h1.tape, hgrow.output.trans h1.output, Nat.le_trans h1.size hgrow.size, fun k hk => ?_⟩
        refine (hgrow.block k (Nat.lt_of_lt_of_le hk h1.size) fun e2 => ?_).trans (h1.block k hk)
        rcases hI.out.row.2 with ⟨rfl, _⟩ | ⟨g, cap, cur, rfl, hg, _⟩
        · cases e2
        · cases e2; have hk2 : g < w.heap.size := hk; omega
      have hI3 : Hid (SmI w w' n q v' (L ++ [e])) := Lib.hid ⟨hrow, hb, dig_snoc hI.out.dig heBH.out, by
          have h1 := hI.out.sum
          have h2 := hsumH.out
          rw [val_snoc, List.length_append, List.length_singleton, pw]
          rw [← h2] at h1
          rw [← h1]; grind, fun hq0 => ⟨dig_snoc hI.out.dig heBH.out, fun _ => by
            have h2 := hsumH.out
            subst hq0
            rw [List.length_append, List.length_singleton, Nat.add_sub_cancel, gd_snoc, if_pos rfl]
            omega⟩⟩
      clear hrow hgrow hat hb hI
      go_wp2_with fail
      go_roundw
      case rel => exact ⟨q, _, by first | rfl | go_num, by omega, hI3⟩
      case measure => first | (simp [intOf]; done) | (simp [intOf]; omega)
end Go.Proofs.YtffehdfddkgggaaDoor.Nu

/- The reference's Sub. -/
namespace Go.Proofs.YtffehdfddkgggaaDoor.Nu
open Go.RowKit Rt
set_option linter.unusedSimpArgs false
set_option linter.unusedVariables false
theorem own_grow {w wr w' : World} {v : Value} {L : List Nat} {o : Obj} (hrow : wr.ownsRow w.heap.size 60 1 v L.length (L.map dv)) (hbel : Below w.heap.size w wr) (hgrow : (wr.alloc o).grownBy w' v.ownBlock) : Below w.heap.size w w' := by
  have h1 : Below w.heap.size w (wr.alloc o) := hbel.alloc hbel.size _
  refine ⟨hgrow.os.trans h1.os, hgrow.tape.trans h1.tape, hgrow.output.trans h1.output, Nat.le_trans h1.size hgrow.size, fun k hk => ?_⟩
  refine (hgrow.block k (Nat.lt_of_lt_of_le hk h1.size) fun e2 => ?_).trans (h1.block k hk)
  rcases hrow.2 with ⟨rfl, _⟩ | ⟨g, cap, cur, rfl, hg, _⟩
  · cases e2
  · cases e2; have hk2 : g < w.heap.size := hk; omega
/-- A difference under way. -/
structure SuI (w W : World) (A C : List Nat) (k : Nat) (v : Value) (L : List Nat) : Prop where
  row : W.ownsRow w.heap.size 60 1 v L.length (L.map dv)
  bel : Below w.heap.size w W
  dig : Dig L
  len : L.length = k
  is : ∀ j, j < k → gd L j = df (gd A) (gd C) j
theorem sub_step {a b c : Nat} (ha : a < Bs) (hb : b + c ≤ Bs) : (a + Bs - (b + c)) % Bs = (if a < b + c then a + Bs - (b + c) else a - (b + c)) ∧ (a + Bs - (b + c)) / Bs + (if a < b + c then 1 else 0) = 1 := by
  by_cases h : a < b + c
  · rw [if_pos h, if_pos h]
    simp only [Bs] at *
    omega
  · rw [if_neg h, if_neg h]
    simp only [Bs] at *
    omega
set_option maxHeartbeats 4000000 in
set_option maxRecDepth 100000 in
theorem RSub_any {w : World} {u v : Value} {A C : List Nat} (hu : SlD w u A) (hv : SlD w v C) (hA : Dig A) (hC : Dig C) (hlA : A.length ≤ 1000000) (hlC : C.length ≤ A.length) (hle : val C ≤ val A) :
    Calls Tryd.prog 36 #[u, v] w fun e w' => ∃ r, e = .returned r ∧ NumAt w' r (val A - val C) ∧ Below w.heap.size w w' ∧ Newer w.heap.size r := by
  obtain ⟨a, ca, rfl, _, _⟩ := id hu
  obtain ⟨b, cb, rfl, _, _⟩ := id hv
  obtain ⟨la, hla⟩ : ∃ n, A.length = n := ⟨_, rfl⟩
  obtain ⟨lb, hlb⟩ : ∃ n, C.length = n := ⟨_, rfl⟩
  rw [hla] at hlA hu hlC ⊢
  rw [hlb] at hlC hv ⊢
  have huH := Lib.hid hu
  have hvH := Lib.hid hv
  have hAH := Lib.hid hA
  have hCH := Lib.hid hC
  have hlaH := Lib.hid hla
  have hlbH := Lib.hid hlb
  have hleH := Lib.hid hle
  have hI0 : Hid (SuI w w A C 0 (.slice none 0 0) []) := Lib.hid ⟨World.ownsRow_nil _ _ _ _, Below.refl _ _, norm_nil.dig, rfl, fun j hj => absurd hj (Nat.not_lt_zero _)⟩
  clear hu hv hA hC hla hlb hle
  go_enter Tryd.func36, Tryd.ntmps36
  go_wp2_with fail
  go_loopw [5, 6, 7] (fun vo vb vk wr => ∃ (k : Nat) (L : List Nat), vb = .int .u64 ((bw (gd A) (gd C) k : Nat) : Int) ∧ vk = .int .i64 k ∧ k ≤ la ∧ Hid (SuI w wr A C k vo L)) (fun _ _ vk _ => la - (intOf vk).toNat)
  case atStart => exact ⟨0, [], rfl, rfl, Nat.zero_le _, hI0⟩
  case round =>
    obtain ⟨k, L, rfl, rfl, hk, hI⟩ := hrel
    clear hI0
    by_cases hlt : (k : Int) < la
    · have hkl : k < la := by omega
      obtain ⟨ba, oa, rfl, cA⟩ := huH.out.at hI.out.bel (j := k) (by rw [hlaH.out]; exact hkl)
      have hxB := hAH.out k
      have hyB := hCH.out k
      have hcB := bw_le (gd A) (gd C) k
      obtain ⟨hz1, hz2⟩ := sub_step (a := gd A k) (b := gd C k) (c := bw (gd A) (gd C) k) hxB (by simp only [Bs] at *; omega)
      rw [show (if gd A k < gd C k + bw (gd A) (gd C) k then gd A k + Bs - (gd C k + bw (gd A) (gd C) k) else gd A k - (gd C k + bw (gd A) (gd C) k)) = df (gd A) (gd C) k from rfl] at hz1
      rw [show (if gd A k < gd C k + bw (gd A) (gd C) k then 1 else 0) = bw (gd A) (gd C) (k + 1) from rfl] at hz2
      obtain ⟨cc, hcc⟩ : ∃ t, bw (gd A) (gd C) k = t := ⟨_, rfl⟩
      rw [hcc] at hz1 hz2 hcB ⊢
      obtain ⟨x, hx⟩ : ∃ t, gd A k = t := ⟨_, rfl⟩
      rw [hx] at hz1 hz2 hxB cA
      have hxw := Nu.wr64 (x := (x : Int)) (by omega) (by simp only [Bs] at hxB; omega)
      have hxw2 := Nu.wr64 (x := (x : Int) + 4294967296) (by omega) (by simp only [Bs] at hxB; omega)
      by_cases hlm : (k : Int) < lb
      · obtain ⟨bb, ob, rfl, cB⟩ := hvH.out.at hI.out.bel (j := k) (by rw [hlbH.out]; omega)
        obtain ⟨y, hy⟩ : ∃ t, gd C k = t := ⟨_, rfl⟩
        rw [hy] at hz1 hz2 hyB cB
        have hyw := Nu.wr64 (x := (y : Int)) (by omega) (by simp only [Bs] at hyB; omega)
        have hcy := Nu.wr64 (x := (cc : Int) + (y : Int)) (by omega) (by simp only [Bs] at hyB; omega)
        obtain ⟨z, hz⟩ : ∃ t, x + Bs - (y + cc) = t := ⟨_, rfl⟩
        have hzi : (x : Int) + 4294967296 - ((cc : Int) + (y : Int)) = (z : Int) := by simp only [Bs] at hz hyB; omega
        have hzl : z < 2 * Bs := by simp only [Bs] at *; omega
        rw [hz] at hz1 hz2
        simp only [Bs] at hzl
        clear hy hx hcc hz hxB hyB hcB
        have hzb : z < 18446744073709551616 := by omega
        have hzw := Nu.wr64 (x := (z : Int)) (by omega) (by omega)
        have htm : Int.tmod (z : Int) 4294967296 = ((z % Bs : Nat) : Int) := (Int.ofNat_tmod z Bs).symm
        have htd : Int.tdiv (z : Int) 4294967296 = ((z / Bs : Nat) : Int) := (Int.ofNat_tdiv z Bs).symm
        rw [hz1] at htm
        have hq1 : z / Bs ≤ 1 := by omega
        obtain ⟨q, hq⟩ : ∃ t, z / Bs = t := ⟨_, rfl⟩
        rw [hq] at htd hz2 hq1
        obtain ⟨e, he⟩ : ∃ t, df (gd A) (gd C) k = t := ⟨_, rfl⟩
        have heB : e < Bs := by rw [← he]; exact df_lt hAH.out hCH.out k
        rw [he] at htm
        obtain ⟨b2, hb2⟩ : ∃ t, bw (gd A) (gd C) (k + 1) = t := ⟨_, rfl⟩
        rw [hb2] at hz2
        have hqi : (1 : Int) - (q : Int) = (b2 : Int) := by omega
        have hb2w := Nu.wr64 (x := (b2 : Int)) (by omega) (by omega)
        have hew := Nu.wr64 (x := (e : Int)) (by omega) (by simp only [Bs] at heB; omega)
        have hqw := Nu.wr64 (x := (q : Int)) (by omega) (by omega)
        have hem : (e : Int) % 4294967296 = (e : Int) := by simp only [Bs] at heB; omega
        have heH := Lib.hid he
        have heBH := Lib.hid heB
        have hb2H := Lib.hid hb2
        have hlen := Lib.hid hI.out.len
        clear hz1 hz2 hq he heB hb2 hq1 hzb
        go_wp2_with (at_builtin; refine wpList_app_d rfl (.tmp 36) (.tmp 40) rfl rfl (own_below hI.out.row ((Below.refl _ wr).alloc (Nat.le_refl _) (.cells #[.int .u32 (e : Int)] 60))) (Nat.le_trans hI.out.bel.size (by simp)) (b := wr.heap.size) (off := 0) (m := 1) (c := 1) (T := [e]) rfl rfl (fun j hj => by { have hj0 : j = 0 := by { simp at hj; omega }; subst hj0; exact World.cell?_alloc_one _ _ _ }) (by have := hlen.out; simp; omega) ?_; intro v' w' hrow hgrow hat)
        have hI3 : Hid (SuI w w' A C (k + 1) v' (L ++ [e])) := Lib.hid ⟨hrow, own_grow hI.out.row hI.out.bel hgrow, dig_snoc hI.out.dig heBH.out, by rw [List.length_append, List.length_singleton, hlen.out], fun j hj => by
          rw [gd_snoc, hlen.out]
          by_cases h1 : j = k
          · rw [if_pos h1, h1]; exact heH.out.symm
          · rw [if_neg h1]; exact hI.out.is j (by omega)⟩
        clear hrow hgrow hat hI
        go_wp2_with fail
        go_roundw
        case rel => exact ⟨k + 1, _, by rw [hb2H.out], by first | rfl | go_num, by omega, hI3⟩
        case measure => first | (simp [intOf]; done) | (simp [intOf]; omega)
      · have hy0 : gd C k = 0 := gd_out (by rw [hlbH.out]; omega)
        rw [hy0] at hz1 hz2 hyB
        have hcy := Nu.wr64 (x := (cc : Int)) (by omega) (by omega)
        obtain ⟨z, hz⟩ : ∃ t, x + Bs - (0 + cc) = t := ⟨_, rfl⟩
        have hzi : (x : Int) + 4294967296 - (cc : Int) = (z : Int) := by simp only [Bs] at hz; omega
        have hzl : z < 2 * Bs := by simp only [Bs] at *; omega
        rw [hz] at hz1 hz2
        simp only [Bs] at hzl
        clear hy0 hx hcc hz hxB hyB hcB
        have hzb : z < 18446744073709551616 := by omega
        have hzw := Nu.wr64 (x := (z : Int)) (by omega) (by omega)
        have htm : Int.tmod (z : Int) 4294967296 = ((z % Bs : Nat) : Int) := (Int.ofNat_tmod z Bs).symm
        have htd : Int.tdiv (z : Int) 4294967296 = ((z / Bs : Nat) : Int) := (Int.ofNat_tdiv z Bs).symm
        rw [hz1] at htm
        have hq1 : z / Bs ≤ 1 := by omega
        obtain ⟨q, hq⟩ : ∃ t, z / Bs = t := ⟨_, rfl⟩
        rw [hq] at htd hz2 hq1
        obtain ⟨e, he⟩ : ∃ t, df (gd A) (gd C) k = t := ⟨_, rfl⟩
        have heB : e < Bs := by rw [← he]; exact df_lt hAH.out hCH.out k
        rw [he] at htm
        obtain ⟨b2, hb2⟩ : ∃ t, bw (gd A) (gd C) (k + 1) = t := ⟨_, rfl⟩
        rw [hb2] at hz2
        have hqi : (1 : Int) - (q : Int) = (b2 : Int) := by omega
        have hb2w := Nu.wr64 (x := (b2 : Int)) (by omega) (by omega)
        have hew := Nu.wr64 (x := (e : Int)) (by omega) (by simp only [Bs] at heB; omega)
        have hqw := Nu.wr64 (x := (q : Int)) (by omega) (by omega)
        have hem : (e : Int) % 4294967296 = (e : Int) := by simp only [Bs] at heB; omega
        have heH := Lib.hid he
        have heBH := Lib.hid heB
        have hb2H := Lib.hid hb2
        have hlen := Lib.hid hI.out.len
        clear hz1 hz2 hq he heB hb2 hq1 hzb
        go_wp2_with (at_builtin; refine wpList_app_d rfl (.tmp 36) (.tmp 40) rfl rfl (own_below hI.out.row ((Below.refl _ wr).alloc (Nat.le_refl _) (.cells #[.int .u32 (e : Int)] 60))) (Nat.le_trans hI.out.bel.size (by simp)) (b := wr.heap.size) (off := 0) (m := 1) (c := 1) (T := [e]) rfl rfl (fun j hj => by { have hj0 : j = 0 := by { simp at hj; omega }; subst hj0; exact World.cell?_alloc_one _ _ _ }) (by have := hlen.out; simp; omega) ?_; intro v' w' hrow hgrow hat)
        have hI3 : Hid (SuI w w' A C (k + 1) v' (L ++ [e])) := Lib.hid ⟨hrow, own_grow hI.out.row hI.out.bel hgrow, dig_snoc hI.out.dig heBH.out, by rw [List.length_append, List.length_singleton, hlen.out], fun j hj => by
          rw [gd_snoc, hlen.out]
          by_cases h1 : j = k
          · rw [if_pos h1, h1]; exact heH.out.symm
          · rw [if_neg h1]; exact hI.out.is j (by omega)⟩
        clear hrow hgrow hat hI
        go_wp2_with fail
        go_roundw
        case rel => exact ⟨k + 1, _, by rw [hb2H.out], by first | rfl | go_num, by omega, hI3⟩
        case measure => first | (simp [intOf]; done) | (simp [intOf]; omega)
    · have hkl : k = la := by omega
      subst hkl
      have hval : val L = val A - val C := by
        have h1 : dsum (gd A) k = val A := by unfold val; rw [hlaH.out]
        have h2 : dsum (gd C) k = val C := val_ext (by rw [hlbH.out]; exact hlC)
        have h3 := (bw_none (a := gd A) (b := gd C) hAH.out hCH.out (k := k) (by rw [h1, h2]; exact hleH.out)).2
        rw [h1, h2] at h3
        unfold val at *
        rw [hI.out.len, dsum_congr hI.out.is]; exact h3
      have hT := RTrim_ownF hI.out.row hI.out.dig (by rw [hI.out.len]; omega)
      rw [hval] at hT
      have hTH := Lib.hid hT
      clear hT hval
      go_wp2_with fail
      refine hTH.out.mono ?_
      rintro e w3 ⟨r, rfl, hn, rfl, hnw⟩
      have hnwH := Lib.hid hnw
      clear hnw
      go_wp2_with fail
      go_ret
      exact ⟨_, rfl, hn, hI.out.bel, hnwH.out⟩
end Go.Proofs.YtffehdfddkgggaaDoor.Nu

/- The reference's Add. -/
namespace Go.Proofs.YtffehdfddkgggaaDoor.Nu
open Go.RowKit Rt
set_option linter.unusedSimpArgs false
set_option linter.unusedVariables false
/-- A sum under way. -/
structure SaI (w W : World) (A C : List Nat) (k : Nat) (v : Value) (L : List Nat) : Prop where
  row : W.ownsRow w.heap.size 60 1 v L.length (L.map dv)
  bel : Below w.heap.size w W
  dig : Dig L
  len : L.length = k
  is : ∀ j, j < k → gd L j = ot (fun i => gd A i + gd C i) j
set_option maxHeartbeats 4000000 in
set_option maxRecDepth 100000 in
theorem RAdd_any {w : World} {u v : Value} {A C : List Nat} (hu : SlD w u A) (hv : SlD w v C) (hA : Dig A) (hC : Dig C) (hlA : A.length ≤ 1000000) (hlC : C.length ≤ 1000000) :
    Calls Tryd.prog 33 #[u, v] w fun e w' => ∃ r, e = .returned r ∧ NumAt w' r (val A + val C) ∧ Below w.heap.size w w' := by
  obtain ⟨a, ca, rfl, _, _⟩ := id hu
  obtain ⟨b, cb, rfl, _, _⟩ := id hv
  obtain ⟨la, hla⟩ : ∃ n, A.length = n := ⟨_, rfl⟩
  obtain ⟨lb, hlb⟩ : ∃ n, C.length = n := ⟨_, rfl⟩
  rw [hla] at hlA hu ⊢
  rw [hlb] at hlC hv ⊢
  have hcr1 := Lib.hid (fun k => cr_one (t := fun i => gd A i + gd C i) (fun i => by have := hA i; have := hC i; simp only [Bs] at *; omega) k)
  have huH := Lib.hid hu
  have hvH := Lib.hid hv
  have hAH := Lib.hid hA
  have hCH := Lib.hid hC
  have hlaH := Lib.hid hla
  have hlbH := Lib.hid hlb
  have hI0 : Hid (SaI w w A C 0 (.slice none 0 0) []) := Lib.hid ⟨World.ownsRow_nil _ _ _ _, Below.refl _ _, norm_nil.dig, rfl, fun j hj => absurd hj (Nat.not_lt_zero _)⟩
  clear hu hv hA hC hla hlb
  go_enter Tryd.func33, Tryd.ntmps33
  go_wp2_with fail
  go_loopw [5, 6, 7] (fun vo vb vk wr => ∃ (k : Nat) (L : List Nat), vb = .int .u64 ((cr (fun i => gd A i + gd C i) k : Nat) : Int) ∧ vk = .int .i64 k ∧ k ≤ la + lb + 1 ∧ Hid (SaI w wr A C k vo L)) (fun _ _ vk _ => la + lb + 1 - (intOf vk).toNat)
  case atStart => exact ⟨0, [], rfl, rfl, Nat.zero_le _, hI0⟩
  case round =>
    obtain ⟨k, L, rfl, rfl, hk, hI⟩ := hrel
    clear hI0
    have hxB := hAH.out k
    have hyB := hCH.out k
    have hcB := hcr1.out k
    have hot : cr (fun i => gd A i + gd C i) (k + 1) = (gd A k + gd C k + cr (fun i => gd A i + gd C i) k) / Bs := rfl
    have hoo : ot (fun i => gd A i + gd C i) k = (gd A k + gd C k + cr (fun i => gd A i + gd C i) k) % Bs := rfl
    obtain ⟨cc, hcc⟩ : ∃ z, cr (fun i => gd A i + gd C i) k = z := ⟨_, rfl⟩
    rw [hcc] at hcB hot hoo ⊢
    have hccH := Lib.hid hcc
    clear hcc
    have hccw := Nu.wr64 (x := (cc : Int)) (by omega) (by omega)
    by_cases hla1 : (k : Int) < la
    · obtain ⟨ba, oa, rfl, cA⟩ := huH.out.at hI.out.bel (j := k) (by rw [hlaH.out]; omega)
      have hxw := Nu.wr64 (x := (gd A k : Int)) (by omega) (by simp only [Bs] at hxB; omega)
      have hcx := Nu.wr64 (x := (cc : Int) + (gd A k : Int)) (by omega) (by simp only [Bs] at hxB; omega)
      by_cases hlb1 : (k : Int) < lb
      · obtain ⟨bb, ob, rfl, cB⟩ := hvH.out.at hI.out.bel (j := k) (by rw [hlbH.out]; omega)
        have hyw := Nu.wr64 (x := (gd C k : Int)) (by omega) (by simp only [Bs] at hyB; omega)
        obtain ⟨z, hz⟩ : ∃ t, gd A k + gd C k + cc = t := ⟨_, rfl⟩
        have hzi : (cc : Int) + (gd A k : Int) + (gd C k : Int) = (z : Int) := by omega
        have hzl : z < 2 * 4294967296 := by simp only [Bs] at *; omega
        rw [hz] at hot hoo
        have hzw := Nu.wr64 (x := (z : Int)) (by omega) (by omega)
        have htm : Int.tmod (z : Int) 4294967296 = ((z % Bs : Nat) : Int) := (Int.ofNat_tmod z Bs).symm
        have htd : Int.tdiv (z : Int) 4294967296 = ((z / Bs : Nat) : Int) := (Int.ofNat_tdiv z Bs).symm
        rw [← hoo] at htm
        rw [← hot] at htd
        have heB : ot (fun i => gd A i + gd C i) k < Bs := ot_lt _ _
        have hqB : cr (fun i => gd A i + gd C i) (k + 1) ≤ 1 := hcr1.out (k + 1)
        obtain ⟨e, he⟩ : ∃ t, ot (fun i => gd A i + gd C i) k = t := ⟨_, rfl⟩
        obtain ⟨q, hq⟩ : ∃ t, cr (fun i => gd A i + gd C i) (k + 1) = t := ⟨_, rfl⟩
        rw [he] at htm heB
        rw [hq] at htd hqB
        have hew := Nu.wr64 (x := (e : Int)) (by omega) (by simp only [Bs] at heB; omega)
        have hqw := Nu.wr64 (x := (q : Int)) (by omega) (by omega)
        have hem : (e : Int) % 4294967296 = (e : Int) := by simp only [Bs] at heB; omega
        have heH := Lib.hid he
        have heBH := Lib.hid heB
        have hqH := Lib.hid hq
        have hlen := Lib.hid hI.out.len
        clear hot hoo hz he hq heB hqB hzl hxB hyB hcB
        go_wp2_with (at_builtin; refine wpList_app_d rfl (.tmp 48) (.tmp 52) rfl rfl (own_below hI.out.row ((Below.refl _ wr).alloc (Nat.le_refl _) (.cells #[.int .u32 (e : Int)] 60))) (Nat.le_trans hI.out.bel.size (by simp)) (b := wr.heap.size) (off := 0) (m := 1) (c := 1) (T := [e]) rfl rfl (fun j hj => by { have hj0 : j = 0 := by { simp at hj; omega }; subst hj0; exact World.cell?_alloc_one _ _ _ }) (by have := hlen.out; simp; omega) ?_; intro v' w' hrow hgrow hat)
        have hI3 : Hid (SaI w w' A C (k + 1) v' (L ++ [e])) := Lib.hid ⟨hrow, own_grow hI.out.row hI.out.bel hgrow, dig_snoc hI.out.dig heBH.out, by rw [List.length_append, List.length_singleton, hlen.out], fun j hj => by
          rw [gd_snoc, hlen.out]
          by_cases h1 : j = k
          · rw [if_pos h1, h1]; exact heH.out.symm
          · rw [if_neg h1]; exact hI.out.is j (by omega)⟩
        clear hrow hgrow hat hI
        go_wp2_with fail
        go_roundw
        case rel => exact ⟨k + 1, _, by rw [hqH.out], by first | rfl | go_num, by omega, hI3⟩
        case measure => first | (simp [intOf]; done) | (simp [intOf]; omega)
      · have hy0 : gd C k = 0 := gd_out (by rw [hlbH.out]; omega)
        obtain ⟨z, hz⟩ : ∃ t, gd A k + gd C k + cc = t := ⟨_, rfl⟩
        have hzi : (cc : Int) + (gd A k : Int) = (z : Int) := by omega
        have hzl : z < 2 * 4294967296 := by simp only [Bs] at *; omega
        rw [hz] at hot hoo
        have hzw := Nu.wr64 (x := (z : Int)) (by omega) (by omega)
        have htm : Int.tmod (z : Int) 4294967296 = ((z % Bs : Nat) : Int) := (Int.ofNat_tmod z Bs).symm
        have htd : Int.tdiv (z : Int) 4294967296 = ((z / Bs : Nat) : Int) := (Int.ofNat_tdiv z Bs).symm
        rw [← hoo] at htm
        rw [← hot] at htd
        have heB : ot (fun i => gd A i + gd C i) k < Bs := ot_lt _ _
        have hqB : cr (fun i => gd A i + gd C i) (k + 1) ≤ 1 := hcr1.out (k + 1)
        obtain ⟨e, he⟩ : ∃ t, ot (fun i => gd A i + gd C i) k = t := ⟨_, rfl⟩
        obtain ⟨q, hq⟩ : ∃ t, cr (fun i => gd A i + gd C i) (k + 1) = t := ⟨_, rfl⟩
        rw [he] at htm heB
        rw [hq] at htd hqB
        have hew := Nu.wr64 (x := (e : Int)) (by omega) (by simp only [Bs] at heB; omega)
        have hqw := Nu.wr64 (x := (q : Int)) (by omega) (by omega)
        have hem : (e : Int) % 4294967296 = (e : Int) := by simp only [Bs] at heB; omega
        have heH := Lib.hid he
        have heBH := Lib.hid heB
        have hqH := Lib.hid hq
        have hlen := Lib.hid hI.out.len
        clear hot hoo hz he hq heB hqB hzl hxB hyB hcB
        go_wp2_with (at_builtin; refine wpList_app_d rfl (.tmp 48) (.tmp 52) rfl rfl (own_below hI.out.row ((Below.refl _ wr).alloc (Nat.le_refl _) (.cells #[.int .u32 (e : Int)] 60))) (Nat.le_trans hI.out.bel.size (by simp)) (b := wr.heap.size) (off := 0) (m := 1) (c := 1) (T := [e]) rfl rfl (fun j hj => by { have hj0 : j = 0 := by { simp at hj; omega }; subst hj0; exact World.cell?_alloc_one _ _ _ }) (by have := hlen.out; simp; omega) ?_; intro v' w' hrow hgrow hat)
        have hI3 : Hid (SaI w w' A C (k + 1) v' (L ++ [e])) := Lib.hid ⟨hrow, own_grow hI.out.row hI.out.bel hgrow, dig_snoc hI.out.dig heBH.out, by rw [List.length_append, List.length_singleton, hlen.out], fun j hj => by
          rw [gd_snoc, hlen.out]
          by_cases h1 : j = k
          · rw [if_pos h1, h1]; exact heH.out.symm
          · rw [if_neg h1]; exact hI.out.is j (by omega)⟩
        clear hrow hgrow hat hI
        go_wp2_with fail
        go_roundw
        case rel => exact ⟨k + 1, _, by rw [hqH.out], by first | rfl | go_num, by omega, hI3⟩
        case measure => first | (simp [intOf]; done) | (simp [intOf]; omega)
    · have hx0 : gd A k = 0 := gd_out (by rw [hlaH.out]; omega)
      by_cases hlb1 : (k : Int) < lb
      · obtain ⟨bb, ob, rfl, cB⟩ := hvH.out.at hI.out.bel (j := k) (by rw [hlbH.out]; omega)
        have hyw := Nu.wr64 (x := (gd C k : Int)) (by omega) (by simp only [Bs] at hyB; omega)
        obtain ⟨z, hz⟩ : ∃ t, gd A k + gd C k + cc = t := ⟨_, rfl⟩
        have hzi : (cc : Int) + (gd C k : Int) = (z : Int) := by omega
        have hzl : z < 2 * 4294967296 := by simp only [Bs] at *; omega
        rw [hz] at hot hoo
        have hzw := Nu.wr64 (x := (z : Int)) (by omega) (by omega)
        have htm : Int.tmod (z : Int) 4294967296 = ((z % Bs : Nat) : Int) := (Int.ofNat_tmod z Bs).symm
        have htd : Int.tdiv (z : Int) 4294967296 = ((z / Bs : Nat) : Int) := (Int.ofNat_tdiv z Bs).symm
        rw [← hoo] at htm
        rw [← hot] at htd
        have heB : ot (fun i => gd A i + gd C i) k < Bs := ot_lt _ _
        have hqB : cr (fun i => gd A i + gd C i) (k + 1) ≤ 1 := hcr1.out (k + 1)
        obtain ⟨e, he⟩ : ∃ t, ot (fun i => gd A i + gd C i) k = t := ⟨_, rfl⟩
        obtain ⟨q, hq⟩ : ∃ t, cr (fun i => gd A i + gd C i) (k + 1) = t := ⟨_, rfl⟩
        rw [he] at htm heB
        rw [hq] at htd hqB
        have hew := Nu.wr64 (x := (e : Int)) (by omega) (by simp only [Bs] at heB; omega)
        have hqw := Nu.wr64 (x := (q : Int)) (by omega) (by omega)
        have hem : (e : Int) % 4294967296 = (e : Int) := by simp only [Bs] at heB; omega
        have heH := Lib.hid he
        have heBH := Lib.hid heB
        have hqH := Lib.hid hq
        have hlen := Lib.hid hI.out.len
        clear hot hoo hz he hq heB hqB hzl hxB hyB hcB
        go_wp2_with (at_builtin; refine wpList_app_d rfl (.tmp 48) (.tmp 52) rfl rfl (own_below hI.out.row ((Below.refl _ wr).alloc (Nat.le_refl _) (.cells #[.int .u32 (e : Int)] 60))) (Nat.le_trans hI.out.bel.size (by simp)) (b := wr.heap.size) (off := 0) (m := 1) (c := 1) (T := [e]) rfl rfl (fun j hj => by { have hj0 : j = 0 := by { simp at hj; omega }; subst hj0; exact World.cell?_alloc_one _ _ _ }) (by have := hlen.out; simp; omega) ?_; intro v' w' hrow hgrow hat)
        have hI3 : Hid (SaI w w' A C (k + 1) v' (L ++ [e])) := Lib.hid ⟨hrow, own_grow hI.out.row hI.out.bel hgrow, dig_snoc hI.out.dig heBH.out, by rw [List.length_append, List.length_singleton, hlen.out], fun j hj => by
          rw [gd_snoc, hlen.out]
          by_cases h1 : j = k
          · rw [if_pos h1, h1]; exact heH.out.symm
          · rw [if_neg h1]; exact hI.out.is j (by omega)⟩
        clear hrow hgrow hat hI
        go_wp2_with fail
        go_roundw
        case rel => exact ⟨k + 1, _, by rw [hqH.out], by first | rfl | go_num, by omega, hI3⟩
        case measure => first | (simp [intOf]; done) | (simp [intOf]; omega)
      · have hy0 : gd C k = 0 := gd_out (by rw [hlbH.out]; omega)
        by_cases hc0 : cc = 0
        · subst hc0
          have hval : val L = val A + val C := by
            have e1 : val L = dsum (ot fun i => gd A i + gd C i) k := by unfold val; rw [hI.out.len]; exact dsum_congr hI.out.is
            have e2 := cr_sum (fun i => gd A i + gd C i) k
            rw [hccH.out, Nat.zero_mul, Nat.add_zero, dsum_add, val_ext (by rw [hlaH.out]; omega), val_ext (by rw [hlbH.out]; omega)] at e2
            rw [e1, e2]
          have hT := RTrim_own hI.out.row hI.out.dig (by rw [hI.out.len]; omega)
          rw [hval] at hT
          have hTH := Lib.hid hT
          clear hT hval hot hoo hx0 hy0 hxB hyB hcB
          go_wp2_with fail
          refine hTH.out.mono ?_
          rintro e w3 ⟨r, rfl, hn, rfl⟩
          go_wp2_with fail
          go_ret
          exact ⟨_, rfl, hn, hI.out.bel⟩
        · have hcp : (0 : Int) < cc := by omega
          have hkb : k < la + lb + 1 := by
            rcases Nat.lt_or_ge k (la + lb + 1) with h | h
            · exact h
            · exfalso
              obtain ⟨j, rfl⟩ : ∃ j, k = j + 1 := ⟨k - 1, by omega⟩
              have h1 := hccH.out
              rw [cr_succ, gd_out (L := A) (by rw [hlaH.out]; omega), gd_out (L := C) (by rw [hlbH.out]; omega)] at h1
              have h2 := hcr1.out j
              have h3 : (0 + 0 + cr (fun i => gd A i + gd C i) j) / Bs = 0 := Nat.div_eq_of_lt (by simp only [Bs]; omega)
              rw [h3] at h1
              exact hc0 h1.symm
          obtain ⟨z, hz⟩ : ∃ t, gd A k + gd C k + cc = t := ⟨_, rfl⟩
          have hzi : (cc : Int) = (z : Int) := by omega
          have hzl : z < 2 * 4294967296 := by simp only [Bs] at *; omega
          rw [hz] at hot hoo
          have hzw := Nu.wr64 (x := (z : Int)) (by omega) (by omega)
          have htm : Int.tmod (z : Int) 4294967296 = ((z % Bs : Nat) : Int) := (Int.ofNat_tmod z Bs).symm
          have htd : Int.tdiv (z : Int) 4294967296 = ((z / Bs : Nat) : Int) := (Int.ofNat_tdiv z Bs).symm
          rw [← hoo] at htm
          rw [← hot] at htd
          have heB : ot (fun i => gd A i + gd C i) k < Bs := ot_lt _ _
          have hqB : cr (fun i => gd A i + gd C i) (k + 1) ≤ 1 := hcr1.out (k + 1)
          obtain ⟨e, he⟩ : ∃ t, ot (fun i => gd A i + gd C i) k = t := ⟨_, rfl⟩
          obtain ⟨q, hq⟩ : ∃ t, cr (fun i => gd A i + gd C i) (k + 1) = t := ⟨_, rfl⟩
          rw [he] at htm heB
          rw [hq] at htd hqB
          have hew := Nu.wr64 (x := (e : Int)) (by omega) (by simp only [Bs] at heB; omega)
          have hqw := Nu.wr64 (x := (q : Int)) (by omega) (by omega)
          have hem : (e : Int) % 4294967296 = (e : Int) := by simp only [Bs] at heB; omega
          have heH := Lib.hid he
          have heBH := Lib.hid heB
          have hqH := Lib.hid hq
          have hlen := Lib.hid hI.out.len
          clear hot hoo hz he hq heB hqB hzl hxB hyB hcB
          go_wp2_with (at_builtin; refine wpList_app_d rfl (.tmp 48) (.tmp 52) rfl rfl (own_below hI.out.row ((Below.refl _ wr).alloc (Nat.le_refl _) (.cells #[.int .u32 (e : Int)] 60))) (Nat.le_trans hI.out.bel.size (by simp)) (b := wr.heap.size) (off := 0) (m := 1) (c := 1) (T := [e]) rfl rfl (fun j hj => by { have hj0 : j = 0 := by { simp at hj; omega }; subst hj0; exact World.cell?_alloc_one _ _ _ }) (by have := hlen.out; simp; omega) ?_; intro v' w' hrow hgrow hat)
          have hI3 : Hid (SaI w w' A C (k + 1) v' (L ++ [e])) := Lib.hid ⟨hrow, own_grow hI.out.row hI.out.bel hgrow, dig_snoc hI.out.dig heBH.out, by rw [List.length_append, List.length_singleton, hlen.out], fun j hj => by
            rw [gd_snoc, hlen.out]
            by_cases h1 : j = k
            · rw [if_pos h1, h1]; exact heH.out.symm
            · rw [if_neg h1]; exact hI.out.is j (by omega)⟩
          clear hrow hgrow hat hI
          go_wp2_with fail
          go_roundw
          case rel => exact ⟨k + 1, _, by rw [hqH.out], by first | rfl | go_num, by omega, hI3⟩
          case measure => first | (simp [intOf]; done) | (simp [intOf]; omega)
end Go.Proofs.YtffehdfddkgggaaDoor.Nu

/- long. -/
namespace Go.Proofs.YtffehdfddkgggaaDoor.Nu
open Go.RowKit Rt
set_option linter.unusedSimpArgs false
set_option linter.unusedVariables false
theorem Long_N {w : World} {v : Value} {n : Nat} (h : NumAt w v n) (hb : blen n ≤ 1000000) : Calls Tryd.prog 34 #[v] w fun e w' => e = .returned (.int .i64 (errN n)) ∧ w' = w := by
  have hB := Lib.hid (h.rbits hb)
  unfold errN
  obtain ⟨k, hk⟩ : ∃ k, blen n = k := ⟨_, rfl⟩
  rw [hk] at hB hb ⊢
  clear h hk
  by_cases hgt : 4096 < k
  · have hgi : (4096 : Int) < k := by omega
    rw [if_pos hgt]
    go_enter Tryd.func34, Tryd.ntmps34
    go_wp2_with fail
    refine hB.out.mono ?_
    rintro e w2 ⟨rfl, rfl⟩
    go_wp2_with fail
    go_ret
    exact ⟨rfl, rfl⟩
  · have hgi : ¬ (4096 : Int) < k := by omega
    rw [if_neg hgt]
    go_enter Tryd.func34, Tryd.ntmps34
    go_wp2_with fail
    refine hB.out.mono ?_
    rintro e w2 ⟨rfl, rfl⟩
    go_wp2_with fail
    go_ret
    exact ⟨rfl, rfl⟩
end Go.Proofs.YtffehdfddkgggaaDoor.Nu

/- The reference's moved. -/
namespace Go.Proofs.YtffehdfddkgggaaDoor.Nu
open Go.RowKit Rt
set_option linter.unusedSimpArgs false
set_option linter.unusedVariables false
theorem val_cons (d : Nat) (A : List Nat) : val (d :: A) = d + Bs * val A := by
  unfold val
  rw [List.length_cons, Nat.add_comm A.length 1, dsum_shift]
  have e : dsum (gd (d :: A)) 1 = d := by simp [dsum, gd]
  rw [e, Nat.pow_one]
  congr 2
  exact dsum_congr fun j _ => by unfold gd; rw [Nat.add_comm 1 j]; rfl
theorem dig_cons {d : Nat} {A : List Nat} (hd : d < Bs) (hA : Dig A) : Dig (d :: A) := by
  intro j
  match j with
  | 0 => exact hd
  | j + 1 => exact hA j
/-- A slice's shape, as the program makes them. -/
def Shaped (v : Value) : Prop := v = .slice none 0 0 ∨ ∃ b off m c, v = .slice (some ⟨b, off, none⟩) m c
set_option maxHeartbeats 2000000 in
set_option maxRecDepth 100000 in
theorem RMoved_any {w : World} {u : Value} {A : List Nat} (hu : SlD w u A) (hA : Dig A) (hlA : A.length ≤ 1000000) (d : Nat) (hd : d < Bs) :
    Calls Tryd.prog 53 #[u, .int .u32 (d : Int)] w fun e w' => ∃ r, e = .returned r ∧ NumAt w' r (d + Bs * val A) ∧ Below w.heap.size w w' ∧ Newer w.heap.size r := by
  have hdL := Lib.hid (dig_cons hd hA)
  have hvL := Lib.hid (val_cons d A)
  have hlL : Hid ((d :: A).length ≤ 1000001) := Lib.hid (by rw [List.length_cons]; omega)
  have hB1 := Lib.hid (show Below w.heap.size w (w.alloc (.cells #[.int .u32 (d : Int)] 60)) from (Below.refl _ w).alloc (Nat.le_refl _) _)
  have hown := Lib.hid (show (w.alloc (.cells #[.int .u32 (d : Int)] 60)).ownsRow w.heap.size 60 1 (.slice (some ⟨w.heap.size, 0, none⟩) 1 1) [d].length ([d].map dv) from ⟨rfl, .inr ⟨_, 1, _, rfl, Nat.le_refl _, World.alloc_heap_new _ _, Nat.le_refl _, by unfold maxLen; omega, rfl, rfl⟩⟩)
  have hsh : Shaped u := by
    obtain ⟨a', c', rfl, ⟨hcc, hsh⟩, _⟩ := id hu
    rcases hsh with ⟨rfl, rfl⟩ | ⟨b, off, rfl⟩
    · have h0 : A.length = 0 := by omega
      rw [h0]; exact .inl rfl
    · exact .inr ⟨b, off, _, _, rfl⟩
  rcases hsh with rfl | ⟨b, off, m, c, rfl⟩
  · have hA0 : A = [] := by
      obtain ⟨a', c', hv, _⟩ := hu
      have : A.length = 0 := by injection hv with _ h _; exact h.symm
      exact List.length_eq_zero_iff.1 this
    subst hA0
    clear hu hA hlA hd
    obtain ⟨i, hi, h0, h1, h2⟩ := info60'
    go_enter Tryd.func53, Tryd.ntmps53
    go_wp2_with (at_builtin; refine wpList_append_own_none rfl (.tmp 8) (.tmp 9) 24 rfl w.heap.size 60 i 1 Tryd.underlying24 hi (.slice (some ⟨w.heap.size, 0, none⟩) 1 1) 1 [dv d] rfl hown.out rfl ?_)
    have hrow := hown.out
    have hbx := hB1.out
    have hTH := Lib.hid (RTrim_ownF hrow hdL.out (by have := hlL.out; exact Nat.le_trans this (by decide)))
    rw [hvL.out] at hTH
    have hbw := Lib.hid hbx
    clear hrow hbx
    go_wp2_with fail
    refine hTH.out.mono ?_
    rintro e w3 ⟨r, rfl, hn, rfl, hnw⟩
    have hnwH := Lib.hid hnw
    clear hnw
    go_wp2_with fail
    go_ret
    exact ⟨_, rfl, hn, hbw.out, hnwH.out⟩
  · have hm := hu.len
    have huH := Lib.hid hu
    have hlH := Lib.hid hlA
    clear hu hA hlA hd
    go_enter Tryd.func53, Tryd.ntmps53
    go_wp2_with (at_builtin; refine wpList_app_d rfl (.tmp 8) (.tmp 9) rfl rfl hown.out (by simp) (b := b) (off := off) (m := m) (c := c) (T := A) rfl hm (fun j hj => by { obtain ⟨b', o', e', hc⟩ := huH.out.at hB1.out hj; cases e'; exact hc }) (by have := hlH.out; simp; omega) ?_; intro v' w' hrow hgrow hat)
    have hbx : Below w.heap.size w w' := ⟨hgrow.os.trans hB1.out.os, hgrow.tape.trans hB1.out.tape, hgrow.output.trans hB1.out.output, Nat.le_trans hB1.out.size hgrow.size, fun k hk => (hgrow.block k (Nat.lt_of_lt_of_le hk hB1.out.size) (fun e2 => by cases e2; exact absurd hk (Nat.lt_irrefl _))).trans (hB1.out.block k hk)⟩
    clear hgrow hat
    replace hrow : w'.ownsRow w.heap.size 60 1 v' (d :: A).length ((d :: A).map dv) := hrow
    have hTH := Lib.hid (RTrim_ownF hrow hdL.out (by have := hlL.out; exact Nat.le_trans this (by decide)))
    rw [hvL.out] at hTH
    have hbw := Lib.hid hbx
    clear hrow hbx
    go_wp2_with fail
    refine hTH.out.mono ?_
    rintro e w3 ⟨r, rfl, hn, rfl, hnw⟩
    have hnwH := Lib.hid hnw
    clear hnw
    go_wp2_with fail
    go_ret
    exact ⟨_, rfl, hn, hbw.out, hnwH.out⟩
end Go.Proofs.YtffehdfddkgggaaDoor.Nu
