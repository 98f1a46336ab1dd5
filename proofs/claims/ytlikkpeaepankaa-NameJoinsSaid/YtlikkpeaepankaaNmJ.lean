/- guidepostref01.Cased. -/
import Derived.Test.YtlikkpeaepankaaNmG
namespace Go.Proofs.Ytlikkpeaepankaa.Nm
open Go.RowKit Rt Go.Proofs.YtlikkpeaepankaaW.PrintWords
set_option linter.unusedSimpArgs false

theorem own_below {w w' : World} {base : Nat} {e : TypeId} {size n : Nat} {v : Value} {xs : List Value} (h : w.ownsRow base e size v n xs) (hb : Below w.heap.size w w') : w'.ownsRow base e size v n xs := by
  obtain ⟨h1, h2⟩ := h
  refine ⟨h1, ?_⟩
  rcases h2 with h2 | ⟨g, cap, cur, hv, hg, hh, r⟩
  · exact .inl h2
  · exact .inr ⟨g, cap, cur, hv, hg, (hb.block g (Array.getElem?_eq_some_iff.1 hh).1).trans hh, r⟩
theorem addr_add0 (g k : Nat) : (⟨g, 0, none⟩ : Addr).add k = ⟨g, k, none⟩ := by
  unfold Addr.add; split <;> simp_all
theorem own_slice {w : World} {B : Nat} {v : Value} {l : List ByteArray} (h : w.ownsRow B 9 1 v l.length (l.map Value.string)) : ∃ A cap, v = .slice A l.length cap ∧ StrRow w A l ∧ ∀ k, k < l.length → ∀ ad, A = some ad → (ad.add k).block < w.heap.size := by
  by_cases h0 : l.length = 0
  · rcases h.2 with ⟨rfl, h1⟩ | ⟨g, cap, cur, rfl, _⟩
    · exact ⟨none, 0, by rw [h0], fun k hk => by omega, fun k hk => by omega⟩
    · exact ⟨some ⟨g, 0, none⟩, cap, by rw [h0], fun k hk => by omega, fun k hk => by omega⟩
  · obtain ⟨g, cap, rfl, hgl, hcell⟩ := own_cell h h0
    refine ⟨some ⟨g, 0, none⟩, cap, rfl, fun k hk => ⟨_, rfl, ?_⟩, fun k hk ad he => ?_⟩
    · have := hcell k (by simpa using hk)
      rw [addr_add0, this]; simp
    · cases he; rw [addr_add0]; exact hgl

theorem caseW_cons (bits k : Nat) (c : UInt8) (x : List UInt8) : caseW bits k (c :: x) = if isLow c then (caseB bits k c :: (caseW bits (k + 1) x).1, (caseW bits (k + 1) x).2) else (c :: (caseW bits k x).1, (caseW bits k x).2) := by rw [caseW]
theorem caseW_snd (bits : Nat) : ∀ (x : List UInt8) (k : Nat), (caseW bits k x).2 ≤ k + x.length := by
  intro x
  induction x with
  | nil => intro k; exact Nat.le_refl _
  | cons c x ih => intro k; rw [caseW_cons]; split <;> simp <;> have := ih k <;> have := ih (k + 1) <;> omega
theorem rem_int (k m : Nat) (h : k % 64 = m) : Int.tmod (k : Int) 64 = (m : Int) := by rw [Int.tmod_eq_emod_of_nonneg (by omega)]; omega

set_option maxRecDepth 100000 in
set_option maxHeartbeats 4000000 in
theorem Cased_ref (s : ByteArray) (bits : Nat) (hb64 : bits < 2 ^ 64) (hs : s.size ≤ 140737488351232) (w : World) :
    Calls Try.prog 30 #[.string s, .int .u64 (bits : Int)] w fun e W' => e = .returned (.tuple #[.string (casedW s bits).1, .int .i64 (casedW s bits).2]) ∧ Below w.heap.size w W' := by
  obtain ⟨i0, hi, hz0, hz1, hz2⟩ := info_parts info9
  by_cases hR : rightB s = true
  · obtain ⟨a, ha, rfl⟩ := right_isN hR
    have hLr := ha.labels
    have hal : a.length ≤ 128 := by have := labs_length (mk (enc a)) _ 0 rfl; rw [labs_enc a ha.ok] at this; have h2 := congrArg List.length (posL_snd a 0); simp at h2; have := ha.size; omega
    have hCas := Lib.hid (ha.casd bits)
    have hIs := Lib.hid (ha.cas bits).1
    have hok := Lib.hid ha.ok
    go_enter Try.func30, Try.ntmps30
    go_wp2_with (go_at_call 14; refine (Labels_ref _ hs _).mono ?_; rintro e w1 ⟨v, rfl, hrow, hb1⟩; rw [hR])
    rw [hLr] at hrow
    obtain ⟨A, cap, rfl, hR1, hlt1⟩ := own_slice hrow
    rw [List.length_map] at hlt1 ⊢
    have hCe : Hid (∀ wr, Below w1.heap.size w1 wr → ∀ k (h : k < a.length), ∃ ad, A = some ad ∧ wr.cell? (ad.add k) = some (.string (mk a[k]))) := Lib.hid (fun wr hb k h => by
      obtain ⟨ad, h1, h2⟩ := hR1 k (by simpa using h)
      refine ⟨ad, h1, ?_⟩
      rw [hb.cell (hlt1 k h ad h1), h2]; simp)
    clear hrow hLr hR1 hlt1
    go_wp2
    go_loopw [8, 9, 10] (fun kv v i wr => ∃ (k kk : Nat) (done : List (List UInt8)), i = .int .i64 k ∧ k ≤ a.length ∧ kv = .int .i64 kk ∧ kk ≤ 63 * k ∧ Hid (casL bits 0 (a.map lowL) = done ++ casL bits kk ((a.drop k).map lowL)) ∧ done.length = k ∧ wr.ownsRow w1.heap.size 9 1 v done.length (done.map fun x => Value.string (mk x)) ∧ Below w1.heap.size w1 wr) (fun _ _ i _ => a.length - (intOf i).toNat)
    case atStart => exact ⟨0, 0, [], rfl, Nat.zero_le _, rfl, Nat.le_refl _, Lib.hid (by simp), rfl, World.ownsRow_nil _ _ _ _, Below.refl _ _⟩
    case round =>
      obtain ⟨k, kk, done, rfl, hk, rfl, hkk, hD, hdl, hrow, hb⟩ := hrel
      by_cases hlt : k < a.length
      · have hlt' : (k : Int) < a.length := by omega
        obtain ⟨ad, rfl, hc⟩ := hCe.out wr hb k hlt
        have hx := hok.out a[k] (List.getElem_mem hlt)
        obtain ⟨hx1, hx2⟩ := hx
        have hDk : Hid (casL bits 0 (a.map lowL) = (done ++ [(caseW bits kk (lowL a[k])).1]) ++ casL bits (caseW bits kk (lowL a[k])).2 ((a.drop (k + 1)).map lowL)) := Lib.hid (by
          rw [hD.out, List.drop_eq_getElem_cons hlt, List.map_cons, casL, List.append_assoc, List.singleton_append])
        obtain ⟨y, hy⟩ : ∃ y, a[k] = y := ⟨_, rfl⟩
        rw [hy] at hc hDk hx1 hx2
        have hsy : (mk y).size ≤ 140737488351232 := by rw [mk_size]; omega
        clear hD hy
        go_wp2_with (go_at_call 47; refine (small_ref (mk y) hsy _).mono ?_; rintro e w2 ⟨rfl, hb2⟩)
        have hxl : (lowL y).length ≤ 63 := by rw [lowL_length]; omega
        obtain ⟨x, hx⟩ : ∃ x, lowL y = x := ⟨_, rfl⟩
        rw [hx] at hDk hxl ⊢
        rw [Lib.run_convert_string_bytes _ 9 53 5 _ Try.underlying9 Try.underlying53 Try.underlying5]
        simp only [Result.andThen]
        rw [Oper.upon_value]
        obtain ⟨cp, hcp⟩ : ∃ cp, grownCap w2 (mk x).size 0 5 = cp := ⟨_, rfl⟩
        rw [hcp]
        obtain ⟨sp, hsp⟩ := bytes9_new w2 (mk x)
        have hbw := bytesWorld_below w2 5 (mk x)
        obtain ⟨W0, hW0⟩ : ∃ W0, Lib.bytesWorld w2 5 (mk x) = W0 := ⟨_, rfl⟩
        rw [hW0] at hsp hbw ⊢
        rw [mk_data] at hsp
        have hq2 : wr.heap.size ≤ w2.heap.size := hb2.size
        have hB0 : Hid (Below wr.heap.size wr W0) := Lib.hid (hb2.trans (hbw.mono hq2))
        have hS0 := Lib.hid hsp
        rw [mk_size]
        clear hW0 hcp hsp hbw hb2 hx
        go_wp2
        go_loopw [8, 12] (fun kv v W => ∃ (j k' : Nat) (pre : List UInt8), v = .int .i64 j ∧ j ≤ x.length ∧ kv = .int .i64 k' ∧ k' ≤ kk + j ∧ pre.length = j ∧ Hid (caseW bits kk x = (pre ++ (caseW bits k' (x.drop j)).1, (caseW bits k' (x.drop j)).2)) ∧ Hid (Bytes9 W w2.heap.size (pre ++ x.drop j) sp) ∧ Hid (Below wr.heap.size wr W)) (fun _ v _ => x.length - (intOf v).toNat)
        case atStart => exact ⟨0, kk, [], rfl, Nat.zero_le _, rfl, Nat.le_refl _, rfl, Lib.hid (by simp), hS0, hB0⟩
        case round =>
          obtain ⟨j, k', pre, rfl, hj, rfl, hk', hpl, hC, hS, hB⟩ := hrel
          by_cases hlj : j < x.length
          · have hlj' : (j : Int) < x.length := by omega
            have hxd : x.drop j = x[j] :: x.drop (j + 1) := List.drop_eq_getElem_cons hlj
            have hS1 := hS.out
            have hC1 := hC.out
            rw [hxd] at hS1 hC1
            obtain ⟨c, hcc⟩ : ∃ c, x[j] = c := ⟨_, rfl⟩
            rw [hcc] at hS1 hC1
            have hcj := hS1.cell j (by simp; omega)
            have hfj := hS1.frozen j (by simp; omega)
            rw [mid_get _ _ _ _ hpl] at hcj
            have hcl := UInt8.toNat_lt c
            rw [caseW_cons] at hC1
            by_cases hlo : isLow c = true
            · have hl2 : 97 ≤ c.toNat ∧ c.toNat ≤ 122 := by simpa [isLow] using hlo
              have e1 : 97 ≤ (c.toNat : Int) := by omega
              have e2 : (c.toNat : Int) ≤ 122 := by omega
              rw [if_pos hlo] at hC1
              obtain ⟨m, hm⟩ : ∃ m, k' % 64 = m := ⟨_, rfl⟩
              obtain ⟨z, hz⟩ : ∃ z, bits >>> m = z := ⟨_, rfl⟩
              have hm0 : (m : Int) ≤ 64 := by omega
              have h48 := rem_int k' m hm
              have h49 : (bits : Int) / 2 ^ m = (z : Int) := by rw [← hz, Nat.shiftRight_eq_div_pow]; simp
              have hzl : z < 2 ^ 64 := by rw [← hz, Nat.shiftRight_eq_div_pow]; exact Nat.lt_of_le_of_lt (Nat.div_le_self _ _) hb64
              have hkb : k' ≤ 100000 := by omega
              by_cases hone : z % 2 = 1
              · have h50 : Int.tmod (z : Int) 2 = 1 := by rw [Int.tmod_eq_emod_of_nonneg (by omega)]; omega
                have h51 : ((z : Int) % 2) = 1 := by omega
                have hcB : caseB bits k' c = UInt8.ofNat (c.toNat - 32) := by unfold caseB; rw [hm, hz, hone]
                have hcT : ((caseB bits k' c).toNat : Int) = (c.toNat : Int) - 32 := by rw [hcB]; simp; omega
                have hset := hS1.set j (by simp; omega) (caseB bits k' c)
                rw [mid_set _ _ _ _ _ hpl, hcT] at hset
                have hC2 : Hid (caseW bits kk x = ((pre ++ [caseB bits k' c]) ++ (caseW bits (k' + 1) (x.drop (j + 1))).1, (caseW bits (k' + 1) (x.drop (j + 1))).2)) := Lib.hid (by rw [hC1]; simp)
                have hS2 : Hid (Bytes9 (wr.setCell ⟨w2.heap.size, j, none⟩ (.int .u8 ((c.toNat : Int) - 32))) w2.heap.size ((pre ++ [caseB bits k' c]) ++ x.drop (j + 1)) sp) := Lib.hid (by simpa using hset)
                clear hm hz hset hcB hC1 hC hS1 hS hlo hl2
                go_wp2
                go_roundw
                case rel => exact ⟨j + 1, k' + 1, pre ++ [caseB bits k' c], by go_num, by omega, by go_num, by omega, by simp; omega, hC2, hS2, Lib.hid (hB.out.setCell (p := ⟨w2.heap.size, j, none⟩) hq2 _)⟩
                case measure => simp [intOf]; omega
              · have h50 : Int.tmod (z : Int) 2 = 0 := by rw [Int.tmod_eq_emod_of_nonneg (by omega)]; omega
                have h51 : ((z : Int) % 2) = 0 := by omega
                have hcB : caseB bits k' c = c := by
                  unfold caseB; rw [hm, hz, show z % 2 = 0 by omega]; simp
                have hC2 : Hid (caseW bits kk x = ((pre ++ [c]) ++ (caseW bits (k' + 1) (x.drop (j + 1))).1, (caseW bits (k' + 1) (x.drop (j + 1))).2)) := Lib.hid (by rw [hC1, hcB]; simp)
                have hS2 : Hid (Bytes9 wr w2.heap.size ((pre ++ [c]) ++ x.drop (j + 1)) sp) := Lib.hid (by simpa using hS1)
                clear hm hz hcB hC1 hC hS1 hS hlo hl2
                go_wp2
                go_roundw
                case rel => exact ⟨j + 1, k' + 1, pre ++ [c], by go_num, by omega, by go_num, by omega, by simp; omega, hC2, hS2, hB⟩
                case measure => simp [intOf]; omega
            · have hl2 : (c.toNat : Int) < 97 ∨ 122 < (c.toNat : Int) := by
                have : ¬ (97 ≤ c.toNat ∧ c.toNat ≤ 122) := fun h => hlo (by simpa [isLow] using h)
                omega
              rw [if_neg hlo] at hC1
              have hC2 : Hid (caseW bits kk x = ((pre ++ [c]) ++ (caseW bits k' (x.drop (j + 1))).1, (caseW bits k' (x.drop (j + 1))).2)) := Lib.hid (by rw [hC1]; simp)
              have hS2 : Hid (Bytes9 wr w2.heap.size ((pre ++ [c]) ++ x.drop (j + 1)) sp) := Lib.hid (by simpa using hS1)
              clear hC1 hC hS1 hS hlo
              rcases hl2 with hl2 | hl2
              · go_wp2
                go_roundw
                case rel => exact ⟨j + 1, k', pre ++ [c], by go_num, by omega, rfl, by omega, by simp; omega, hC2, hS2, hB⟩
                case measure => simp [intOf]; omega
              · have hl3 : 97 ≤ (c.toNat : Int) := by omega
                go_wp2
                go_roundw
                case rel => exact ⟨j + 1, k', pre ++ [c], by go_num, by omega, rfl, by omega, by simp; omega, hC2, hS2, hB⟩
                case measure => simp [intOf]; omega
          · obtain rfl : j = x.length := by omega
            have hS1 := hS.out
            have hC1 := hC.out
            rw [List.drop_length] at hS1 hC1
            rw [List.append_nil] at hS1
            simp only [caseW, List.append_nil] at hC1
            have hcv : (convert 53 9 (.slice (some ⟨w2.heap.size, 0, none⟩) x.length cp)).run Try.prog wr = .ok (.string (mk pre)) wr := by
              have h1 := run_convert_bytes_arg (P := Try.prog) wr 53 5 Try.underlying53 Try.underlying5 w2.heap.size 0 x.length cp (pre.map fun c => (c.toNat : Int)) (by simpa using hpl)
                (fun i hi => by
                  have := hS1.cell i (by omega)
                  rw [Nat.zero_add, this]
                  simp [List.getD_eq_getElem?_getD, hpl, hi]) 9 Try.underlying9
              rw [h1]
              congr 3
              simp [strOfNums, Function.comp_def]; rfl
            have hD3 : Hid (casL bits 0 (a.map lowL) = (done ++ [pre]) ++ casL bits k' ((a.drop (k + 1)).map lowL)) := Lib.hid (by rw [hDk.out, hC1])
            have hrow2 := own_below hrow hB.out
            have hBB : Below w1.heap.size w1 wr := hb.trans (hB.out.mono hb.size)
            have hbs := hBB.size
            clear hS1 hC1 hS hC hrow hDk hS0 hB0
            go_wp2_with (at_builtin; go_loud (refine wpList_append_own _ rfl _ _ 22 rfl w1.heap.size 9 i0 (.string ⟨#[]⟩) 1 16 Try.underlying22 hi hz0 hz1 hz2 rfl (by decide) _ _ _ rfl (hrow2.alloc _) ⟨wr.heap.size, 0, none⟩ 1 1 [.string (mk pre)] rfl rfl (cell_one_new _ _ _) (by simp [Value.oneCell']) (by unfold maxLen; omega) (by omega) (by simp; omega) ?_); intro v' w3 hown' hgrow _; have hb2 : Below w1.heap.size w1 w3 := (hBB.alloc hbs _).grown hgrow (by simp; omega) (fun k hk => (hrow2.lt k hk).1); clear hgrow hrow2)
            go_roundw
            case rel => exact ⟨k + 1, k', done ++ [pre], by go_num, by omega, rfl, by omega, hD3, by simp; omega, by simpa using hown', hb2⟩
            case measure => simp [intOf]; omega
      · obtain rfl : k = a.length := by omega
        have hD2 := hD.out
        rw [List.drop_length, List.map_nil, casL, List.append_nil] at hD2
        have hrow2 : wr.ownsRow w1.heap.size 9 1 u9 (done.map mk).length ((done.map mk).map Value.string) := by rw [List.length_map, List.map_map]; exact hrow
        obtain ⟨A2, cap2, rfl, hR2, _⟩ := own_slice hrow2
        have hof := fun w' => Of_ref A2 cap2 (done.map mk) w'
        have hIs2 := hIs.out
        have hCas2 := hCas.out
        rw [hD2] at hIs2 hCas2
        rw [ofW_mk _ hIs2.ok, if_pos hIs2.le] at hof
        have hres : Hid (casedW (mk (enc a)) bits = (mk (enc done), 0)) := Lib.hid hCas2
        have hBw := hb1.trans (hb.mono hb1.size)
        have hbw2 : w.heap.size ≤ wr.heap.size := hBw.size
        have hdm : (done.map mk).length * 16 ≤ 140737488351232 := by rw [List.length_map]; omega
        simp only [List.length_map] at hof hdm ⊢
        clear hD hD2 hIs2 hCas2 hrow hrow2 hIs hCas hdl
        go_wp2_with (go_at_call 16; refine (hof _ hR2 hdm).mono ?_; rintro e w3 ⟨rfl, hb3⟩)
        go_ret2
        exact ⟨by rw [hres.out]; rfl, hBw.trans (hb3.mono hbw2)⟩
  · have hRf : rightB s = false := by simpa using hR
    have hL : casedW s bits = (⟨#[]⟩, 2) := by unfold casedW; rw [if_neg hR]
    have hLH := Lib.hid hL
    clear hL hR
    go_enter Try.func30, Try.ntmps30
    go_wp2_with (go_at_call 14; refine (Labels_ref _ hs _).mono ?_; rintro e w1 ⟨v, rfl, hrow, hb1⟩; rw [hRf])
    go_ret2
    exact ⟨by rw [hLH.out]; rfl, hb1⟩
end Go.Proofs.Ytlikkpeaepankaa.Nm
