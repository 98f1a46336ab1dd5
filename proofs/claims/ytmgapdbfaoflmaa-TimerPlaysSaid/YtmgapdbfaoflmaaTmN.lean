/- TimerOnce walked. -/
import Derived.Test.YtmgapdbfaoflmaaTmO
namespace Go.Proofs.Ytmgapdbfaoflmaa.Tm
open Go.RowKit Rt
set_option linter.unusedSimpArgs false
set_option linter.unusedVariables false
theorem mem_eraseS {S : List It} (h : S.Pairwise (fun a b => a.1 ≠ b.1)) {id : Int} {p : It} : p ∈ eraseS S id ↔ p ∈ S ∧ p.1 ≠ id := by
  constructor
  · intro hp
    exact ⟨List.mem_of_mem_eraseP hp, eraseS_gone h id p hp⟩
  · rintro ⟨hp, hn⟩
    exact (List.mem_eraseP_of_neg (by simpa using hn)).2 hp
theorem mem_insS {S : List It} {x p : It} : p ∈ insS S x ↔ p = x ∨ p ∈ S := by
  rw [(insS_perm S x).mem_iff, List.mem_cons]
theorem TO.drew {w wr : World} {tb bm : Nat} {v : Value} {S : List It} (h : TO w wr tb bm v S) : TO w wr.drew tb bm v S := h.later ((Below.refl _ _).drew)
structure Once1 (S : List It) (L : List Int) (k : Nat) : Prop where
  ids : ∀ x, (∃ p ∈ S, p.1 = x) ↔ x ∈ L.take k
  ats : ∀ p ∈ S, 0 ≤ p.2 ∧ p.2 < 1000
  len : S.length ≤ k
theorem Once1.step {S : List It} {L : List Int} {k : Nat} (h : Once1 S L k) (hd : S.Pairwise (fun a b => a.1 ≠ b.1)) (hk : k < L.length) {x y : Int} (hx : L.getD k 0 = x) (hy0 : 0 ≤ y) (hy1 : y < 1000) : Once1 (insS (eraseS S x) (x, y)) L (k + 1) := by
  refine ⟨fun z => ?_, fun p hp => ?_, ?_⟩
  · rw [take_snoc' L k hk, hx, List.mem_append, List.mem_singleton, ← h.ids]
    constructor
    · rintro ⟨p, hp, rfl⟩
      rcases mem_insS.1 hp with rfl | hp
      · exact .inr rfl
      · exact .inl ⟨p, ((mem_eraseS hd).1 hp).1, rfl⟩
    · rintro (⟨p, hp, rfl⟩ | rfl)
      · by_cases e : p.1 = x
        · exact ⟨(x, y), mem_insS.2 (.inl rfl), e.symm⟩
        · exact ⟨p, mem_insS.2 (.inr ((mem_eraseS hd).2 ⟨hp, e⟩)), rfl⟩
      · exact ⟨(z, y), mem_insS.2 (.inl rfl), rfl⟩
  · rcases mem_insS.1 hp with rfl | hp
    · exact ⟨hy0, hy1⟩
    · exact h.ats p ((mem_eraseS hd).1 hp).1
  · rw [insS_length]
    have := eraseS_length_le S x
    have := h.len
    omega
/-- What is set behind k takings away. -/
structure Once2 (S : List It) (L G : List Int) (k : Nat) : Prop where
  ids : ∀ x, (∃ p ∈ S, p.1 = x) ↔ x ∈ L ∧ x ∉ G.take k
  ats : ∀ p ∈ S, 0 ≤ p.2 ∧ p.2 < 1000
  len : S.length ≤ 60
theorem Once2.step {S : List It} {L G : List Int} {k : Nat} (h : Once2 S L G k) (hd : S.Pairwise (fun a b => a.1 ≠ b.1)) (hk : k < G.length) {x : Int} (hx : G.getD k 0 = x) : Once2 (eraseS S x) L G (k + 1) := by
  refine ⟨fun z => ?_, fun p hp => h.ats p ((mem_eraseS hd).1 hp).1, Nat.le_trans (eraseS_length_le S x) h.len⟩
  have h1 := h.ids z
  rw [take_snoc' G k hk, hx, List.mem_append, List.mem_singleton]
  constructor
  · rintro ⟨p, hp, rfl⟩
    obtain ⟨hp, hn⟩ := (mem_eraseS hd).1 hp
    have := h1.1 ⟨p, hp, rfl⟩
    exact ⟨this.1, fun e => e.elim this.2 hn⟩
  · rintro ⟨ha, hb⟩
    obtain ⟨p, hp, rfl⟩ := h1.2 ⟨ha, fun e => hb (.inl e)⟩
    exact ⟨p, (mem_eraseS hd).2 ⟨hp, fun e => hb (.inr e)⟩, rfl⟩
/-- What is told in the end. -/
structure Told (X L G : List Int) : Prop where
  ids : ∀ x, x ∈ X ↔ x ∈ L ∧ x ∉ G
  apart : X.Pairwise (· ≠ ·)
  len : X.length ≤ 60
theorem Once2.told {S : List It} {L G : List Int} (h : Once2 S L G G.length) (hd : S.Pairwise (fun a b => a.1 ≠ b.1)) : dueS S 1000 = S ∧ restS S 1000 = [] ∧ Told (S.map (·.1)) L G := by
  have h1 : ∀ p ∈ S, p.2 ≤ 1000 := fun p hp => by have := h.ats p hp; omega
  obtain ⟨d1, d2⟩ := due_split (A := S) (T := []) h1 (fun p T' e => by cases e)
  rw [List.append_nil] at d1 d2
  refine ⟨d1, d2, ⟨fun x => ?_, ?_, by rw [List.length_map]; exact h.len⟩⟩
  · have := h.ids x
    rw [List.take_length] at this
    rw [← this, List.mem_map]
  · exact List.pairwise_map.2 hd
/-- Whether x is among the first j. -/
def inB (L : List Int) (x : Int) (j : Nat) : Bool := (L.take j).any (· == x)
theorem inB_step {L : List Int} {x y : Int} {j : Nat} (h : j < L.length) (hy : L.getD j 0 = y) : inB L x (j + 1) = (inB L x j || (y == x)) := by
  unfold inB
  rw [take_snoc' L j h, hy, List.any_append]
  simp
theorem inB_full {L : List Int} {x : Int} : inB L x L.length = true ↔ x ∈ L := by
  unfold inB
  rw [List.take_length, List.any_eq_true]
  constructor
  · rintro ⟨y, hy, e⟩; have : y = x := by simpa using e
    exact this ▸ hy
  · exact fun h => ⟨x, h, by simp⟩
theorem getD_mem {L : List Int} {j : Nat} (h : j < L.length) : L.getD j 0 ∈ L := by
  rw [List.getD_eq_getElem?_getD, List.getElem?_eq_getElem h]
  exact List.getElem_mem h
theorem Told.ne {X L G : List Int} (h : Told X L G) {i k : Nat} (hi : i < k) (hk : k < X.length) : X.getD i 0 ≠ X.getD k 0 := by
  have := (List.pairwise_iff_getElem.1 h.apart) i k (by omega) hk hi
  rw [List.getD_eq_getElem?_getD, List.getElem?_eq_getElem (by omega), List.getD_eq_getElem?_getD, List.getElem?_eq_getElem hk]
  exact this
/-- Numbers that lie in a row. -/
def RowI (w : World) (a : Option Addr) (L : List Int) : Prop := ∀ j, j < L.length → ∃ b off, a = some ⟨b, off, none⟩ ∧ ∀ w', Below w.heap.size w w' → w'.cell? ⟨b, off + j, none⟩ = some (.int .i64 (L.getD j 0))
theorem RowI.of {w : World} {a : Option Addr} {n c : Nat} {L0 : List Int} (h : SliceI w (.slice a n c) L0 (· < w.heap.size)) (m : Nat) (hm : m ≤ L0.length) : RowI w a (L0.take m) := by
  intro j hj
  rw [List.length_take] at hj
  obtain ⟨⟨a', c', h1, h2, hc, hnn, h3⟩, h4⟩ := h
  cases h1
  obtain ⟨b, off, e, hb, hS, hc⟩ := h3 (by omega)
  refine ⟨b, off, e, fun w' hw => (World.cell?_of_block (hw.block b hb)).trans ?_⟩
  rw [hc j (by omega)]
  simp only [List.getD_eq_getElem?_getD, List.getElem?_take]
  rw [if_pos (by omega)]
theorem RowI.ids {w : World} {base c : Nat} {a : Option Addr} {D : List It} (h : w.ownsRow base 3 1 (.slice a D.length c) D.length (idsC D)) : RowI w a (D.map (·.1)) := by
  intro j hj
  rw [List.length_map] at hj
  obtain ⟨b, e, hc⟩ := ids_get h j hj
  refine ⟨b, 0, e, fun w' hw => ?_⟩
  have hb := World.block_lt_of_cell? w _ hc
  rw [Nat.zero_add]
  refine (World.cell?_of_block (hw.block b hb)).trans (hc.trans ?_)
  simp [g, hj]
theorem SliceI.wfd {w : World} {v : Value} {L : List Int} {S : Nat → Prop} (h : SliceI w v L S) (j : Nat) (hj : j < L.length) : wf (L.getD j 0) := h.wfs _ (getD_mem hj)
theorem below3 {w wd wq : World} (b1 : Below w.heap.size w wd) (b2 : Below wd.heap.size wd wq) : Below w.heap.size w wq := b1.trans (b2.mono b1.size)
set_option maxRecDepth 100000 in
set_option maxHeartbeats 8000000 in
theorem TimerOnce_any {w : World} {v0 v1 v2 : Value} {L0 A G : List Int} (hL : SliceI w v0 L0 (· < w.heap.size)) (hA : SliceI w v1 A (· < w.heap.size)) (hG : SliceI w v2 G (· < w.heap.size)) :
    Calls Try.prog 10 #[v0, v1, v2] w fun e w' => e = .returned (.bool true) ∧ Below w.heap.size w w' := by
  obtain ⟨a0, c0, rfl, hc0, hc0m, hnn0, _⟩ := hL.val
  obtain ⟨a1, c1, rfl, hc1, hc1m, _⟩ := hA.val
  obtain ⟨a2, c2, rfl, hc2, hc2m, _⟩ := hG.val
  have hlm : L0.length ≤ 9223372036854775807 := by unfold maxLen at hc0m; omega
  have hcm : c0 ≤ 9223372036854775807 := by unfold maxLen at hc0m; omega
  have hAm : A.length ≤ 9223372036854775807 := by unfold maxLen at hc1m; omega
  have hGm : G.length ≤ 9223372036854775807 := by unfold maxLen at hc2m; omega
  have hwfL := Lib.hid (hL.wfd)
  have hwfA := Lib.hid (hA.wfd)
  have hwfG := Lib.hid (hG.wfd)
  obtain ⟨m, hm⟩ : ∃ m, (if L0.length < 60 then L0.length else 60) = m := ⟨_, rfl⟩
  have hmL : m ≤ L0.length ∧ m ≤ 60 := by rw [← hm]; split <;> omega
  obtain ⟨hmL, hm60⟩ := hmL
  have hmc : m ≤ c0 := by omega
  have hmi : (if (60 : Int) < (L0.length : Int) then (60 : Int) else (L0.length : Int)) = (m : Int) := by rw [← hm]; split <;> split <;> omega
  have hmiH := Lib.hid hm
  have hRL := RowI.of hL m hmL
  have hRA := RowI.of hA A.length (Nat.le_refl _)
  have hRG := RowI.of hG G.length (Nat.le_refl _)
  rw [List.take_length] at hRA hRG
  obtain ⟨L, hLe⟩ : ∃ L, L0.take m = L := ⟨_, rfl⟩
  have hLm : L.length = m := by rw [← hLe, List.length_take]; omega
  have hwL : Hid (∀ j, j < m → wf (L.getD j 0)) := Lib.hid (fun j hj => by
    have h1 := getD_mem (L := L) (j := j) (by omega)
    rw [← hLe] at h1 ⊢
    exact hL.wfs _ (List.mem_of_mem_take h1))
  rw [hLe] at hRL
  clear hm hLe hL hA hG hwfL
  have hLmH := Lib.hid hLm
  have hRLH := Lib.hid hRL
  have hRAH := Lib.hid hRA
  have hRGH := Lib.hid hRG
  clear hLm hRL hRA hRG
  go_enter Try.func10, Try.ntmps10
  go_wp2_with fail
  refine (examples_any w).mono ?_
  rintro e w1 ⟨rfl, hb1⟩
  go_wp2_with fail
  refine (New_any w1).mono ?_
  rintro e w2 ⟨rfl, h2, hb2⟩
  have hT := TO.new hb1 h2 hb2
  obtain ⟨tb, htb⟩ : ∃ t, w1.heap.size + 1 = t := ⟨_, rfl⟩
  rw [htb] at hT ⊢
  obtain ⟨bm, hbm⟩ : ∃ t, w1.heap.size = t := ⟨_, rfl⟩
  rw [hbm] at hT
  clear htb hbm h2 hb1 hb2
  go_wp2_with fail
  go_loopw [9] (fun i wr => ∃ (k : Nat) (S : List It) (v : Value), i = .int .i64 k ∧ k ≤ m ∧ Once1 S L k ∧ TO w wr tb bm v S) (fun i _ => m - (intOf i).toNat)
  case atStart => exact ⟨0, [], _, rfl, Nat.zero_le _, ⟨by simp, by simp, by simp⟩, hT⟩
  case round =>
    clear hT
    obtain ⟨k, S, v, rfl, hk, hB, hT⟩ := hrel
    by_cases hlt : k < m
    · have hlt' : (k : Int) < m := by omega
      have hkL : k < L.length := by have := hLmH.out; omega
      obtain ⟨b, off, hb0, hc0⟩ := hRLH.out k hkL
      have hcell := hc0 wr hT.below
      have hwx := hwL.out k hlt
      obtain ⟨x, hx⟩ : ∃ x, L.getD k 0 = x := ⟨_, rfl⟩
      rw [hx] at hcell hwx
      subst hb0
      have hSl : S.length < 1099511627775 := by have := hB.len; omega
      have hst := Lib.hid (fun y h0 h1 => hB.step (y := y) hT.t.distinct hkL hx h0 h1)
      have htt := hT.t
      clear hx hc0 hkL
      by_cases hkA : k < A.length
      · have hkA' : (k : Int) < A.length := by omega
        obtain ⟨b1, off1, hb1, hc1⟩ := hRAH.out k hkA
        have hcell1 := hc1 wr hT.below
        have hwz := hwfA.out k hkA
        obtain ⟨z, hz⟩ : ∃ x, A.getD k 0 = x := ⟨_, rfl⟩
        rw [hz] at hcell1 hwz
        subst hb1
        clear hz hc1
        have hp := fun w => pick_any z 1000 w hwz (by omega) (by omega)
        have hpk := pk_bd z 1000 (by omega)
        obtain ⟨y, hy⟩ : ∃ y, pk z 1000 = y := ⟨_, rfl⟩
        rw [hy] at hp hpk
        obtain ⟨hy0, hy1⟩ := hpk
        have hpH := Lib.hid hp
        clear hy hp
        have hB2 := hst.out y hy0 hy1
        go_upto_region 12 with (fail)
        refine Rt.wp_region_text [0, 0, 0, 0, 1, 0, 1, 2] (by kernel_rfl) (by kernel_rfl) ?_
        apply txt_move rfl rfl; (· (simp only [Act.put, Act.eval, List.setIfInBounds_toArray, List.set_cons_zero, List.set_cons_succ, Array.getD_eq_getD_getElem?, List.getElem?_toArray, List.getElem?_cons_zero, List.getElem?_cons_succ, Option.getD_some]; with_reducible rfl))
        apply txt_move rfl rfl; (· (simp only [Act.put, Act.eval, List.setIfInBounds_toArray, List.set_cons_zero, List.set_cons_succ, Array.getD_eq_getD_getElem?, List.getElem?_toArray, List.getElem?_cons_zero, List.getElem?_cons_succ, Option.getD_some]; with_reducible rfl))
        apply txt_move rfl rfl; (· (simp only [Act.put, Act.eval, List.setIfInBounds_toArray, List.set_cons_zero, List.set_cons_succ, Array.getD_eq_getD_getElem?, List.getElem?_toArray, List.getElem?_cons_zero, List.getElem?_cons_succ, Option.getD_some]; with_reducible rfl))
        apply txt_pure rfl rfl rfl; (· (intro w; go_simp; with_reducible rfl)); (· (simp only [Act.put, Act.eval, List.setIfInBounds_toArray, List.set_cons_zero, List.set_cons_succ, Array.getD_eq_getD_getElem?, List.getElem?_toArray, List.getElem?_cons_zero, List.getElem?_cons_succ, Option.getD_some]; with_reducible rfl))
        apply txt_read rfl rfl rfl; (· (go_simp; with_reducible rfl)); (· (simp only [Act.put, Act.eval, List.setIfInBounds_toArray, List.set_cons_zero, List.set_cons_succ, Array.getD_eq_getD_getElem?, List.getElem?_toArray, List.getElem?_cons_zero, List.getElem?_cons_succ, Option.getD_some]; with_reducible rfl))
        apply txt_move rfl rfl; (· (simp only [Act.put, Act.eval, List.setIfInBounds_toArray, List.set_cons_zero, List.set_cons_succ, Array.getD_eq_getD_getElem?, List.getElem?_toArray, List.getElem?_cons_zero, List.getElem?_cons_succ, Option.getD_some]; with_reducible rfl))
        apply txt_quiet rfl rfl rfl; (· (go_simp; exact ⟨rfl, rfl⟩)); (· (exact hpH.out _)); (· (simp only [Act.put, Act.eval, List.setIfInBounds_toArray, List.set_cons_zero, List.set_cons_succ, Array.getD_eq_getD_getElem?, List.getElem?_toArray, List.getElem?_cons_zero, List.getElem?_cons_succ, Option.getD_some]; with_reducible rfl))
        refine txt_call rfl rfl rfl (by go_simp; exact ⟨⟨rfl, rfl⟩, rfl⟩) ?_
        refine (Set_S htt.drew x y hwx (by unfold wf; omega) hy0 hSl).mono ?_
        rintro e w5 ⟨rfl, v5, hT5, hv5, hk5⟩
        refine ⟨_, rfl, ?_⟩
        simp only [Act.put, Act.eval, List.setIfInBounds_toArray, List.set_cons_zero, List.set_cons_succ, Array.getD_eq_getD_getElem?, List.getElem?_toArray, List.getElem?_cons_zero, List.getElem?_cons_succ, Option.getD_some]
        with_reducible refine txt_nil ?_
        have hTO := hT.drew.set hT5 hv5 hk5
        clear hT5 hv5 hk5 htt hT hcell hst hpH
        go_wp2
        go_roundw
        case rel => exact ⟨k + 1, _, v5, by go_num, by omega, hB2, hTO⟩
        case measure => simp [intOf]; omega
      · have hkA' : ¬ (k : Int) < A.length := by omega
        have hwz : wf (k : Int) := by unfold wf; omega
        have hp := fun w => pick_any (k : Int) 1000 w hwz (by omega) (by omega)
        have hpk := pk_bd (k : Int) 1000 (by omega)
        obtain ⟨y, hy⟩ : ∃ y, pk (k : Int) 1000 = y := ⟨_, rfl⟩
        rw [hy] at hp hpk
        obtain ⟨hy0, hy1⟩ := hpk
        have hpH := Lib.hid hp
        clear hy hp
        have hB2 := hst.out y hy0 hy1
        go_upto_region 12 with (fail)
        refine Rt.wp_region_text [0, 0, 0, 0, 1, 0, 1, 2] (by kernel_rfl) (by kernel_rfl) ?_
        apply txt_move rfl rfl; (· (simp only [Act.put, Act.eval, List.setIfInBounds_toArray, List.set_cons_zero, List.set_cons_succ, Array.getD_eq_getD_getElem?, List.getElem?_toArray, List.getElem?_cons_zero, List.getElem?_cons_succ, Option.getD_some]; with_reducible rfl))
        apply txt_move rfl rfl; (· (simp only [Act.put, Act.eval, List.setIfInBounds_toArray, List.set_cons_zero, List.set_cons_succ, Array.getD_eq_getD_getElem?, List.getElem?_toArray, List.getElem?_cons_zero, List.getElem?_cons_succ, Option.getD_some]; with_reducible rfl))
        apply txt_move rfl rfl; (· (simp only [Act.put, Act.eval, List.setIfInBounds_toArray, List.set_cons_zero, List.set_cons_succ, Array.getD_eq_getD_getElem?, List.getElem?_toArray, List.getElem?_cons_zero, List.getElem?_cons_succ, Option.getD_some]; with_reducible rfl))
        apply txt_pure rfl rfl rfl; (· (intro w; go_simp; with_reducible rfl)); (· (simp only [Act.put, Act.eval, List.setIfInBounds_toArray, List.set_cons_zero, List.set_cons_succ, Array.getD_eq_getD_getElem?, List.getElem?_toArray, List.getElem?_cons_zero, List.getElem?_cons_succ, Option.getD_some]; with_reducible rfl))
        apply txt_read rfl rfl rfl; (· (go_simp; with_reducible rfl)); (· (simp only [Act.put, Act.eval, List.setIfInBounds_toArray, List.set_cons_zero, List.set_cons_succ, Array.getD_eq_getD_getElem?, List.getElem?_toArray, List.getElem?_cons_zero, List.getElem?_cons_succ, Option.getD_some]; with_reducible rfl))
        apply txt_move rfl rfl; (· (simp only [Act.put, Act.eval, List.setIfInBounds_toArray, List.set_cons_zero, List.set_cons_succ, Array.getD_eq_getD_getElem?, List.getElem?_toArray, List.getElem?_cons_zero, List.getElem?_cons_succ, Option.getD_some]; with_reducible rfl))
        apply txt_quiet rfl rfl rfl; (· (go_simp; exact ⟨rfl, rfl⟩)); (· (exact hpH.out _)); (· (simp only [Act.put, Act.eval, List.setIfInBounds_toArray, List.set_cons_zero, List.set_cons_succ, Array.getD_eq_getD_getElem?, List.getElem?_toArray, List.getElem?_cons_zero, List.getElem?_cons_succ, Option.getD_some]; with_reducible rfl))
        refine txt_call rfl rfl rfl (by go_simp; exact ⟨⟨rfl, rfl⟩, rfl⟩) ?_
        refine (Set_S htt.drew x y hwx (by unfold wf; omega) hy0 hSl).mono ?_
        rintro e w5 ⟨rfl, v5, hT5, hv5, hk5⟩
        refine ⟨_, rfl, ?_⟩
        simp only [Act.put, Act.eval, List.setIfInBounds_toArray, List.set_cons_zero, List.set_cons_succ, Array.getD_eq_getD_getElem?, List.getElem?_toArray, List.getElem?_cons_zero, List.getElem?_cons_succ, Option.getD_some]
        with_reducible refine txt_nil ?_
        have hTO := hT.drew.set hT5 hv5 hk5
        clear hT5 hv5 hk5 htt hT hcell hst hpH
        go_wp2
        go_roundw
        case rel => exact ⟨k + 1, _, v5, by go_num, by omega, hB2, hTO⟩
        case measure => simp [intOf]; omega
    · obtain rfl : k = m := by omega
      have hlt' : ¬ (k : Int) < k := by omega
      have hB0 : Once2 S L G 0 := ⟨fun x => by rw [hB.ids, ← hLmH.out, List.take_length]; simp, hB.ats, by have := hB.len; omega⟩
      clear hB
      go_wp2_with fail
      go_loopw [11] (fun i wq => ∃ (j : Nat) (S : List It) (v : Value), i = .int .i64 j ∧ j ≤ G.length ∧ Once2 S L G j ∧ TO w wq tb bm v S) (fun i _ => G.length - (intOf i).toNat)
      case atStart => exact ⟨0, S, v, rfl, Nat.zero_le _, hB0, hT⟩
      case round =>
        clear hT hB0 S v
        obtain ⟨j, S, v, rfl, hj, hB, hT⟩ := hrel
        by_cases hjG : j < G.length
        · have hjG' : (j : Int) < G.length := by omega
          obtain ⟨b, off, hb0, hc0⟩ := hRGH.out j hjG
          have hcell := hc0 _ hT.below
          have hwx := hwfG.out j hjG
          obtain ⟨x, hx⟩ : ∃ x, G.getD j 0 = x := ⟨_, rfl⟩
          rw [hx] at hcell hwx
          subst hb0
          have hSl : S.length < 1099511627776 := by have := hB.len; omega
          have hst := hB.step hT.t.distinct hjG hx
          have htt := hT.t
          clear hx hc0 hB
          go_wp2_with fail
          refine (Cancel_S htt x hwx hSl).mono ?_
          rintro e w5 ⟨rfl, v5, hT5, hv5, hk5⟩
          have hTO := hT.cut hT5 hv5 hk5
          clear hT5 hv5 hk5 htt hT hcell
          go_wp2
          go_roundw
          case rel => exact ⟨j + 1, _, v5, by go_num, by omega, hst, hTO⟩
          case measure => simp [intOf]; omega
        · obtain rfl : j = G.length := by omega
          have hlt2 : ¬ (G.length : Int) < G.length := by omega
          have htt := hT.t
          obtain ⟨d1, d2, hX⟩ := hB.told htt.distinct
          have hSl : S.length < 1099511627775 := by have := hB.len; omega
          clear hB
          go_wp2_with fail
          refine (Due_S htt 1000 (by unfold wf; omega) hSl).mono ?_
          rintro e wd ⟨out, v9, rfl, hout, hT9, hv9, hk9⟩
          rw [d1] at hout
          rw [d2] at hT9
          have hTO := hT.cut hT9 hv9 hk9
          obtain ⟨ao, co, rfl⟩ := ids_val hout
          have hRXH := Lib.hid (RowI.ids hout)
          obtain ⟨X, hXe⟩ : ∃ X, S.map (·.1) = X := ⟨_, rfl⟩
          have hXl : S.length = X.length := by rw [← hXe, List.length_map]
          rw [hXe] at hX hRXH
          rw [hXl]
          have hXl60 := hX.len
          have hXH := Lib.hid hX
          have hbw := hTO.below
          have hgon := hTO.t
          clear d1 d2 hXe hXl hX hT9 hv9 hk9 hT htt hout hSl hTO S v
          go_wp2_with fail
          go_loopw [13] (fun i wq => ∃ (p : Nat), i = .int .i64 p ∧ p ≤ X.length ∧ Below wd.heap.size wd wq) (fun i _ => X.length - (intOf i).toNat)
          case atStart => exact ⟨0, rfl, Nat.zero_le _, Below.refl _ _⟩
          case round =>
            obtain ⟨p, rfl, hp, hbp⟩ := hrel
            by_cases hpX : p < X.length
            · have hpX' : (p : Int) < X.length := by omega
              obtain ⟨bx, ox, hb0, hcx⟩ := hRXH.out p hpX
              subst hb0
              have hxm := (hXH.out.ids _).1 (getD_mem hpX)
              have hxf : inB L (X.getD p 0) k = true := by have h1 := inB_full.2 hxm.1; rw [hLmH.out] at h1; exact h1
              have hxn : ∀ i, i < p → X.getD i 0 ≠ X.getD p 0 := fun i hi => hXH.out.ne hi hpX
              have hxg : ∀ i, i < G.length → G.getD i 0 ≠ X.getD p 0 := fun i hi e => hxm.2 (e ▸ getD_mem hi)
              obtain ⟨x, hx⟩ : ∃ x, X.getD p 0 = x := ⟨_, rfl⟩
              rw [hx] at hcx hxf hxn hxg
              have hcxH := Lib.hid hcx
              have hxnH := Lib.hid hxn
              have hxgH := Lib.hid hxg
              have hxfH := Lib.hid hxf
              clear hx hcx hxn hxg hxf hxm
              go_wp2_with fail
              go_loopw [14, 15] (fun b' i wq => ∃ (q : Nat), b' = .bool (inB L x q) ∧ i = .int .i64 q ∧ q ≤ k ∧ Below wd.heap.size wd wq) (fun _ i _ => k - (intOf i).toNat)
              case atStart => exact ⟨0, rfl, rfl, Nat.zero_le _, hbp⟩
              case round =>
                clear hbp
                obtain ⟨q, rfl, rfl, hq, hbp⟩ := hrel
                by_cases hqm : q < k
                · have hqm' : (q : Int) < k := by omega
                  have hqL : q < L.length := by have := hLmH.out; omega
                  obtain ⟨bl, ol, hb0, hcl⟩ := hRLH.out q hqL
                  have hcell := hcl _ (below3 hbw hbp)
                  have hcell2 := hcxH.out _ hbp
                  subst hb0
                  obtain ⟨y, hy⟩ : ∃ x, L.getD q 0 = x := ⟨_, rfl⟩
                  rw [hy] at hcell
                  have hst := Lib.hid (inB_step (x := x) hqL hy)
                  clear hy hcl hqL
                  obtain ⟨bb, hbb⟩ : ∃ b, inB L x q = b := ⟨_, rfl⟩
                  have hbbH := Lib.hid hbb
                  rw [hbb]
                  clear hbb
                  cases bb with
                  | true =>
                    go_upto_region 25 with (fail)
                    refine Rt.wp_region_text [0, 0, 0, 0, 0, 1, 0, 0, 0, 1, 0, 0, 0] (by kernel_rfl) (by kernel_rfl) ?_
                    apply txt_move rfl rfl; (· (simp only [Act.put, Act.eval, List.setIfInBounds_toArray, List.set_cons_zero, List.set_cons_succ, Array.getD_eq_getD_getElem?, List.getElem?_toArray, List.getElem?_cons_zero, List.getElem?_cons_succ, Option.getD_some]; with_reducible rfl))
                    apply txt_move rfl rfl; (· (simp only [Act.put, Act.eval, List.setIfInBounds_toArray, List.set_cons_zero, List.set_cons_succ, Array.getD_eq_getD_getElem?, List.getElem?_toArray, List.getElem?_cons_zero, List.getElem?_cons_succ, Option.getD_some]; with_reducible rfl))
                    apply txt_skip rfl rfl; (· (simp only [Act.put, Act.eval, List.setIfInBounds_toArray, List.set_cons_zero, List.set_cons_succ, Array.getD_eq_getD_getElem?, List.getElem?_toArray, List.getElem?_cons_zero, List.getElem?_cons_succ, Option.getD_some]; with_reducible rfl))
                    apply txt_skip rfl rfl; (· (simp only [Act.put, Act.eval, List.setIfInBounds_toArray, List.set_cons_zero, List.set_cons_succ, Array.getD_eq_getD_getElem?, List.getElem?_toArray, List.getElem?_cons_zero, List.getElem?_cons_succ, Option.getD_some]; with_reducible rfl))
                    apply txt_skip rfl rfl; (· (simp only [Act.put, Act.eval, List.setIfInBounds_toArray, List.set_cons_zero, List.set_cons_succ, Array.getD_eq_getD_getElem?, List.getElem?_toArray, List.getElem?_cons_zero, List.getElem?_cons_succ, Option.getD_some]; with_reducible rfl))
                    apply txt_skip rfl rfl; (· (simp only [Act.put, Act.eval, List.setIfInBounds_toArray, List.set_cons_zero, List.set_cons_succ, Array.getD_eq_getD_getElem?, List.getElem?_toArray, List.getElem?_cons_zero, List.getElem?_cons_succ, Option.getD_some]; with_reducible rfl))
                    apply txt_skip rfl rfl; (· (simp only [Act.put, Act.eval, List.setIfInBounds_toArray, List.set_cons_zero, List.set_cons_succ, Array.getD_eq_getD_getElem?, List.getElem?_toArray, List.getElem?_cons_zero, List.getElem?_cons_succ, Option.getD_some]; with_reducible rfl))
                    apply txt_skip rfl rfl; (· (simp only [Act.put, Act.eval, List.setIfInBounds_toArray, List.set_cons_zero, List.set_cons_succ, Array.getD_eq_getD_getElem?, List.getElem?_toArray, List.getElem?_cons_zero, List.getElem?_cons_succ, Option.getD_some]; with_reducible rfl))
                    apply txt_skip rfl rfl; (· (simp only [Act.put, Act.eval, List.setIfInBounds_toArray, List.set_cons_zero, List.set_cons_succ, Array.getD_eq_getD_getElem?, List.getElem?_toArray, List.getElem?_cons_zero, List.getElem?_cons_succ, Option.getD_some]; with_reducible rfl))
                    apply txt_skip rfl rfl; (· (simp only [Act.put, Act.eval, List.setIfInBounds_toArray, List.set_cons_zero, List.set_cons_succ, Array.getD_eq_getD_getElem?, List.getElem?_toArray, List.getElem?_cons_zero, List.getElem?_cons_succ, Option.getD_some]; with_reducible rfl))
                    apply txt_skip rfl rfl; (· (simp only [Act.put, Act.eval, List.setIfInBounds_toArray, List.set_cons_zero, List.set_cons_succ, Array.getD_eq_getD_getElem?, List.getElem?_toArray, List.getElem?_cons_zero, List.getElem?_cons_succ, Option.getD_some]; with_reducible rfl))
                    apply txt_pure rfl rfl rfl; (· (intro w; go_simp; with_reducible rfl)); (· (simp only [Act.put, Act.eval, List.setIfInBounds_toArray, List.set_cons_zero, List.set_cons_succ, Array.getD_eq_getD_getElem?, List.getElem?_toArray, List.getElem?_cons_zero, List.getElem?_cons_succ, Option.getD_some]; with_reducible rfl))
                    apply txt_assign rfl rfl; (· (simp only [Act.put, Act.eval, List.setIfInBounds_toArray, List.set_cons_zero, List.set_cons_succ, Array.getD_eq_getD_getElem?, List.getElem?_toArray, List.getElem?_cons_zero, List.getElem?_cons_succ, Option.getD_some]; with_reducible rfl))
                    with_reducible refine txt_nil ?_
                    go_wp2
                    go_roundw
                    case rel => exact ⟨q + 1, by rw [hst.out, hbbH.out]; rfl, by go_num, by omega, hbp.drew⟩
                    case measure => simp [intOf]; omega
                  | false =>
                    go_upto_region 25 with (fail)
                    refine Rt.wp_region_text [0, 0, 0, 0, 0, 1, 0, 0, 0, 1, 0, 0, 0] (by kernel_rfl) (by kernel_rfl) ?_
                    apply txt_move rfl rfl; (· (simp only [Act.put, Act.eval, List.setIfInBounds_toArray, List.set_cons_zero, List.set_cons_succ, Array.getD_eq_getD_getElem?, List.getElem?_toArray, List.getElem?_cons_zero, List.getElem?_cons_succ, Option.getD_some]; with_reducible rfl))
                    apply txt_move rfl rfl; (· (simp only [Act.put, Act.eval, List.setIfInBounds_toArray, List.set_cons_zero, List.set_cons_succ, Array.getD_eq_getD_getElem?, List.getElem?_toArray, List.getElem?_cons_zero, List.getElem?_cons_succ, Option.getD_some]; with_reducible rfl))
                    apply txt_pure rfl rfl rfl; (· (intro w; go_simp; with_reducible rfl)); (· (simp only [Act.put, Act.eval, List.setIfInBounds_toArray, List.set_cons_zero, List.set_cons_succ, Array.getD_eq_getD_getElem?, List.getElem?_toArray, List.getElem?_cons_zero, List.getElem?_cons_succ, Option.getD_some]; with_reducible rfl))
                    apply txt_pure rfl rfl rfl; (· (intro w; go_simp; with_reducible rfl)); (· (simp only [Act.put, Act.eval, List.setIfInBounds_toArray, List.set_cons_zero, List.set_cons_succ, Array.getD_eq_getD_getElem?, List.getElem?_toArray, List.getElem?_cons_zero, List.getElem?_cons_succ, Option.getD_some]; with_reducible rfl))
                    apply txt_pure rfl rfl rfl; (· (intro w; go_simp; with_reducible rfl)); (· (simp only [Act.put, Act.eval, List.setIfInBounds_toArray, List.set_cons_zero, List.set_cons_succ, Array.getD_eq_getD_getElem?, List.getElem?_toArray, List.getElem?_cons_zero, List.getElem?_cons_succ, Option.getD_some]; with_reducible rfl))
                    apply txt_read rfl rfl rfl; (· (go_simp; with_reducible rfl)); (· (simp only [Act.put, Act.eval, List.setIfInBounds_toArray, List.set_cons_zero, List.set_cons_succ, Array.getD_eq_getD_getElem?, List.getElem?_toArray, List.getElem?_cons_zero, List.getElem?_cons_succ, Option.getD_some]; with_reducible rfl))
                    apply txt_pure rfl rfl rfl; (· (intro w; go_simp; with_reducible rfl)); (· (simp only [Act.put, Act.eval, List.setIfInBounds_toArray, List.set_cons_zero, List.set_cons_succ, Array.getD_eq_getD_getElem?, List.getElem?_toArray, List.getElem?_cons_zero, List.getElem?_cons_succ, Option.getD_some]; with_reducible rfl))
                    apply txt_pure rfl rfl rfl; (· (intro w; go_simp; with_reducible rfl)); (· (simp only [Act.put, Act.eval, List.setIfInBounds_toArray, List.set_cons_zero, List.set_cons_succ, Array.getD_eq_getD_getElem?, List.getElem?_toArray, List.getElem?_cons_zero, List.getElem?_cons_succ, Option.getD_some]; with_reducible rfl))
                    apply txt_pure rfl rfl rfl; (· (intro w; go_simp; with_reducible rfl)); (· (simp only [Act.put, Act.eval, List.setIfInBounds_toArray, List.set_cons_zero, List.set_cons_succ, Array.getD_eq_getD_getElem?, List.getElem?_toArray, List.getElem?_cons_zero, List.getElem?_cons_succ, Option.getD_some]; with_reducible rfl))
                    apply txt_read rfl rfl rfl; (· (go_simp; with_reducible rfl)); (· (simp only [Act.put, Act.eval, List.setIfInBounds_toArray, List.set_cons_zero, List.set_cons_succ, Array.getD_eq_getD_getElem?, List.getElem?_toArray, List.getElem?_cons_zero, List.getElem?_cons_succ, Option.getD_some]; with_reducible rfl))
                    apply txt_pure rfl rfl rfl; (· (intro w; go_simp; with_reducible rfl)); (· (simp only [Act.put, Act.eval, List.setIfInBounds_toArray, List.set_cons_zero, List.set_cons_succ, Array.getD_eq_getD_getElem?, List.getElem?_toArray, List.getElem?_cons_zero, List.getElem?_cons_succ, Option.getD_some]; with_reducible rfl))
                    apply txt_pure rfl rfl rfl; (· (intro w; go_simp; with_reducible rfl)); (· (simp only [Act.put, Act.eval, List.setIfInBounds_toArray, List.set_cons_zero, List.set_cons_succ, Array.getD_eq_getD_getElem?, List.getElem?_toArray, List.getElem?_cons_zero, List.getElem?_cons_succ, Option.getD_some]; with_reducible rfl))
                    apply txt_assign rfl rfl; (· (simp only [Act.put, Act.eval, List.setIfInBounds_toArray, List.set_cons_zero, List.set_cons_succ, Array.getD_eq_getD_getElem?, List.getElem?_toArray, List.getElem?_cons_zero, List.getElem?_cons_succ, Option.getD_some]; with_reducible rfl))
                    with_reducible refine txt_nil ?_
                    go_wp2
                    go_roundw
                    case rel => exact ⟨q + 1, by rw [hst.out, hbbH.out]; rfl, by go_num, by omega, hbp.drew⟩
                    case measure => simp [intOf]; omega
                · obtain rfl : q = k := by omega
                  have hq' : ¬ (q : Int) < q := by omega
                  rw [hxfH.out]
                  go_wp2_with fail
                  go_loopw [14, 16] (fun b' i wq => ∃ (r : Nat), b' = .bool true ∧ i = .int .i64 r ∧ r ≤ G.length ∧ Below wd.heap.size wd wq) (fun _ i _ => G.length - (intOf i).toNat)
                  case atStart => exact ⟨0, rfl, rfl, Nat.zero_le _, hbp⟩
                  case round =>
                    clear hbp
                    obtain ⟨r, rfl, rfl, hr, hbp⟩ := hrel
                    by_cases hrG : r < G.length
                    · have hrG' : (r : Int) < G.length := by omega
                      obtain ⟨bl, ol, hb0, hcl⟩ := hRGH.out r hrG
                      have hcell := hcl _ (below3 hbw hbp)
                      have hcell2 := hcxH.out _ hbp
                      subst hb0
                      have hne := hxgH.out r hrG
                      obtain ⟨y, hy⟩ : ∃ x, G.getD r 0 = x := ⟨_, rfl⟩
                      rw [hy] at hcell hne
                      have hne' : (y == x) = false := beq_eq_false_iff_ne.2 hne
                      clear hy hcl hne
                      go_upto_region 29 with (fail)
                      refine Rt.wp_region_text [0, 0, 0, 0, 0, 1, 0, 0, 0, 1, 0, 0, 0] (by kernel_rfl) (by kernel_rfl) ?_
                      apply txt_move rfl rfl; (· (simp only [Act.put, Act.eval, List.setIfInBounds_toArray, List.set_cons_zero, List.set_cons_succ, Array.getD_eq_getD_getElem?, List.getElem?_toArray, List.getElem?_cons_zero, List.getElem?_cons_succ, Option.getD_some]; with_reducible rfl))
                      apply txt_move rfl rfl; (· (simp only [Act.put, Act.eval, List.setIfInBounds_toArray, List.set_cons_zero, List.set_cons_succ, Array.getD_eq_getD_getElem?, List.getElem?_toArray, List.getElem?_cons_zero, List.getElem?_cons_succ, Option.getD_some]; with_reducible rfl))
                      apply txt_pure rfl rfl rfl; (· (intro w; go_simp; with_reducible rfl)); (· (simp only [Act.put, Act.eval, List.setIfInBounds_toArray, List.set_cons_zero, List.set_cons_succ, Array.getD_eq_getD_getElem?, List.getElem?_toArray, List.getElem?_cons_zero, List.getElem?_cons_succ, Option.getD_some]; with_reducible rfl))
                      apply txt_pure rfl rfl rfl; (· (intro w; go_simp; with_reducible rfl)); (· (simp only [Act.put, Act.eval, List.setIfInBounds_toArray, List.set_cons_zero, List.set_cons_succ, Array.getD_eq_getD_getElem?, List.getElem?_toArray, List.getElem?_cons_zero, List.getElem?_cons_succ, Option.getD_some]; with_reducible rfl))
                      apply txt_pure rfl rfl rfl; (· (intro w; go_simp; with_reducible rfl)); (· (simp only [Act.put, Act.eval, List.setIfInBounds_toArray, List.set_cons_zero, List.set_cons_succ, Array.getD_eq_getD_getElem?, List.getElem?_toArray, List.getElem?_cons_zero, List.getElem?_cons_succ, Option.getD_some]; with_reducible rfl))
                      apply txt_read rfl rfl rfl; (· (go_simp; with_reducible rfl)); (· (simp only [Act.put, Act.eval, List.setIfInBounds_toArray, List.set_cons_zero, List.set_cons_succ, Array.getD_eq_getD_getElem?, List.getElem?_toArray, List.getElem?_cons_zero, List.getElem?_cons_succ, Option.getD_some]; with_reducible rfl))
                      apply txt_pure rfl rfl rfl; (· (intro w; go_simp; with_reducible rfl)); (· (simp only [Act.put, Act.eval, List.setIfInBounds_toArray, List.set_cons_zero, List.set_cons_succ, Array.getD_eq_getD_getElem?, List.getElem?_toArray, List.getElem?_cons_zero, List.getElem?_cons_succ, Option.getD_some]; with_reducible rfl))
                      apply txt_pure rfl rfl rfl; (· (intro w; go_simp; with_reducible rfl)); (· (simp only [Act.put, Act.eval, List.setIfInBounds_toArray, List.set_cons_zero, List.set_cons_succ, Array.getD_eq_getD_getElem?, List.getElem?_toArray, List.getElem?_cons_zero, List.getElem?_cons_succ, Option.getD_some]; with_reducible rfl))
                      apply txt_pure rfl rfl rfl; (· (intro w; go_simp; with_reducible rfl)); (· (simp only [Act.put, Act.eval, List.setIfInBounds_toArray, List.set_cons_zero, List.set_cons_succ, Array.getD_eq_getD_getElem?, List.getElem?_toArray, List.getElem?_cons_zero, List.getElem?_cons_succ, Option.getD_some]; with_reducible rfl))
                      apply txt_read rfl rfl rfl; (· (go_simp; with_reducible rfl)); (· (simp only [Act.put, Act.eval, List.setIfInBounds_toArray, List.set_cons_zero, List.set_cons_succ, Array.getD_eq_getD_getElem?, List.getElem?_toArray, List.getElem?_cons_zero, List.getElem?_cons_succ, Option.getD_some]; with_reducible rfl))
                      apply txt_pure rfl rfl rfl; (· (intro w; go_simp; with_reducible rfl)); (· (simp only [Act.put, Act.eval, List.setIfInBounds_toArray, List.set_cons_zero, List.set_cons_succ, Array.getD_eq_getD_getElem?, List.getElem?_toArray, List.getElem?_cons_zero, List.getElem?_cons_succ, Option.getD_some]; with_reducible rfl))
                      apply txt_pure rfl rfl rfl; (· (intro w; go_simp; with_reducible rfl)); (· (simp only [Act.put, Act.eval, List.setIfInBounds_toArray, List.set_cons_zero, List.set_cons_succ, Array.getD_eq_getD_getElem?, List.getElem?_toArray, List.getElem?_cons_zero, List.getElem?_cons_succ, Option.getD_some]; with_reducible rfl))
                      apply txt_assign rfl rfl; (· (simp only [Act.put, Act.eval, List.setIfInBounds_toArray, List.set_cons_zero, List.set_cons_succ, Array.getD_eq_getD_getElem?, List.getElem?_toArray, List.getElem?_cons_zero, List.getElem?_cons_succ, Option.getD_some]; with_reducible rfl))
                      with_reducible refine txt_nil ?_
                      go_wp2
                      go_roundw
                      case rel => exact ⟨r + 1, by simp [bne, hne'], by go_num, by omega, hbp.drew⟩
                      case measure => simp [intOf]; omega
                    · obtain rfl : r = G.length := by omega
                      go_wp2_with fail
                      go_loopw [14, 17] (fun b' i wq => ∃ (s : Nat), b' = .bool true ∧ i = .int .i64 s ∧ s ≤ p ∧ Below wd.heap.size wd wq) (fun _ i _ => p - (intOf i).toNat)
                      case atStart => exact ⟨0, rfl, rfl, Nat.zero_le _, hbp⟩
                      case round =>
                        clear hbp
                        obtain ⟨s, rfl, rfl, hs, hbp⟩ := hrel
                        by_cases hsp : s < p
                        · have hsp' : (s : Int) < p := by omega
                          obtain ⟨bl, ol, hb0, hcl⟩ := hRXH.out s (by omega)
                          have hcell := hcl _ hbp
                          have hcell2 := hcxH.out _ hbp
                          cases hb0
                          have hne := hxnH.out s hsp
                          obtain ⟨y, hy⟩ : ∃ x, X.getD s 0 = x := ⟨_, rfl⟩
                          rw [hy] at hcell hne
                          have hne' : (y == x) = false := beq_eq_false_iff_ne.2 hne
                          clear hy hcl hne
                          have hsX : (s : Int) < X.length := by omega
                          go_upto_region 33 with (fail)
                          refine Rt.wp_region_text [0, 0, 0, 0, 0, 1, 0, 0, 0, 1, 0, 0, 0] (by kernel_rfl) (by kernel_rfl) ?_
                          apply txt_move rfl rfl; (· (simp only [Act.put, Act.eval, List.setIfInBounds_toArray, List.set_cons_zero, List.set_cons_succ, Array.getD_eq_getD_getElem?, List.getElem?_toArray, List.getElem?_cons_zero, List.getElem?_cons_succ, Option.getD_some]; with_reducible rfl))
                          apply txt_move rfl rfl; (· (simp only [Act.put, Act.eval, List.setIfInBounds_toArray, List.set_cons_zero, List.set_cons_succ, Array.getD_eq_getD_getElem?, List.getElem?_toArray, List.getElem?_cons_zero, List.getElem?_cons_succ, Option.getD_some]; with_reducible rfl))
                          apply txt_pure rfl rfl rfl; (· (intro w; go_simp; with_reducible rfl)); (· (simp only [Act.put, Act.eval, List.setIfInBounds_toArray, List.set_cons_zero, List.set_cons_succ, Array.getD_eq_getD_getElem?, List.getElem?_toArray, List.getElem?_cons_zero, List.getElem?_cons_succ, Option.getD_some]; with_reducible rfl))
                          apply txt_pure rfl rfl rfl; (· (intro w; go_simp; with_reducible rfl)); (· (simp only [Act.put, Act.eval, List.setIfInBounds_toArray, List.set_cons_zero, List.set_cons_succ, Array.getD_eq_getD_getElem?, List.getElem?_toArray, List.getElem?_cons_zero, List.getElem?_cons_succ, Option.getD_some]; with_reducible rfl))
                          apply txt_pure rfl rfl rfl; (· (intro w; go_simp; with_reducible rfl)); (· (simp only [Act.put, Act.eval, List.setIfInBounds_toArray, List.set_cons_zero, List.set_cons_succ, Array.getD_eq_getD_getElem?, List.getElem?_toArray, List.getElem?_cons_zero, List.getElem?_cons_succ, Option.getD_some]; with_reducible rfl))
                          apply txt_read rfl rfl rfl; (· (go_simp; with_reducible rfl)); (· (simp only [Act.put, Act.eval, List.setIfInBounds_toArray, List.set_cons_zero, List.set_cons_succ, Array.getD_eq_getD_getElem?, List.getElem?_toArray, List.getElem?_cons_zero, List.getElem?_cons_succ, Option.getD_some]; with_reducible rfl))
                          apply txt_pure rfl rfl rfl; (· (intro w; go_simp; with_reducible rfl)); (· (simp only [Act.put, Act.eval, List.setIfInBounds_toArray, List.set_cons_zero, List.set_cons_succ, Array.getD_eq_getD_getElem?, List.getElem?_toArray, List.getElem?_cons_zero, List.getElem?_cons_succ, Option.getD_some]; with_reducible rfl))
                          apply txt_pure rfl rfl rfl; (· (intro w; go_simp; with_reducible rfl)); (· (simp only [Act.put, Act.eval, List.setIfInBounds_toArray, List.set_cons_zero, List.set_cons_succ, Array.getD_eq_getD_getElem?, List.getElem?_toArray, List.getElem?_cons_zero, List.getElem?_cons_succ, Option.getD_some]; with_reducible rfl))
                          apply txt_pure rfl rfl rfl; (· (intro w; go_simp; with_reducible rfl)); (· (simp only [Act.put, Act.eval, List.setIfInBounds_toArray, List.set_cons_zero, List.set_cons_succ, Array.getD_eq_getD_getElem?, List.getElem?_toArray, List.getElem?_cons_zero, List.getElem?_cons_succ, Option.getD_some]; with_reducible rfl))
                          apply txt_read rfl rfl rfl; (· (go_simp; with_reducible rfl)); (· (simp only [Act.put, Act.eval, List.setIfInBounds_toArray, List.set_cons_zero, List.set_cons_succ, Array.getD_eq_getD_getElem?, List.getElem?_toArray, List.getElem?_cons_zero, List.getElem?_cons_succ, Option.getD_some]; with_reducible rfl))
                          apply txt_pure rfl rfl rfl; (· (intro w; go_simp; with_reducible rfl)); (· (simp only [Act.put, Act.eval, List.setIfInBounds_toArray, List.set_cons_zero, List.set_cons_succ, Array.getD_eq_getD_getElem?, List.getElem?_toArray, List.getElem?_cons_zero, List.getElem?_cons_succ, Option.getD_some]; with_reducible rfl))
                          apply txt_pure rfl rfl rfl; (· (intro w; go_simp; with_reducible rfl)); (· (simp only [Act.put, Act.eval, List.setIfInBounds_toArray, List.set_cons_zero, List.set_cons_succ, Array.getD_eq_getD_getElem?, List.getElem?_toArray, List.getElem?_cons_zero, List.getElem?_cons_succ, Option.getD_some]; with_reducible rfl))
                          apply txt_assign rfl rfl; (· (simp only [Act.put, Act.eval, List.setIfInBounds_toArray, List.set_cons_zero, List.set_cons_succ, Array.getD_eq_getD_getElem?, List.getElem?_toArray, List.getElem?_cons_zero, List.getElem?_cons_succ, Option.getD_some]; with_reducible rfl))
                          with_reducible refine txt_nil ?_
                          go_wp2
                          go_roundw
                          case rel => exact ⟨s + 1, by simp [bne, hne'], by go_num, by omega, hbp.drew⟩
                          case measure => simp [intOf]; omega
                        · obtain rfl : s = p := by omega
                          have hs' : ¬ (s : Int) < s := by omega
                          go_wp2
                          go_roundw
                          case rel => exact ⟨s + 1, by go_num, by omega, hbp⟩
                          case measure => simp [intOf]; omega
            · obtain rfl : p = X.length := by omega
              have hp' : ¬ (X.length : Int) < X.length := by omega
              go_wp2_with fail
              go_loopw [18] (fun i wq => ∃ (q : Nat), i = .int .i64 q ∧ q ≤ k ∧ Below wd.heap.size wd wq) (fun i _ => k - (intOf i).toNat)
              case atStart => exact ⟨0, rfl, Nat.zero_le _, hbp⟩
              case round =>
                clear hbp
                obtain ⟨q, rfl, hq, hbp⟩ := hrel
                by_cases hqm : q < k
                · have hqm' : (q : Int) < k := by omega
                  have hqL : q < L.length := by have := hLmH.out; omega
                  obtain ⟨bl, ol, hb0, hcl⟩ := hRLH.out q hqL
                  subst hb0
                  have hor : inB X (L.getD q 0) X.length = true ∨ inB G (L.getD q 0) G.length = true := by
                    by_cases hg : L.getD q 0 ∈ G
                    · exact .inr (inB_full.2 hg)
                    · exact .inl (inB_full.2 ((hXH.out.ids _).2 ⟨getD_mem hqL, hg⟩))
                  obtain ⟨y, hy⟩ : ∃ x, L.getD q 0 = x := ⟨_, rfl⟩
                  rw [hy] at hcl hor
                  have hcyH := Lib.hid (fun w' (h : Below wd.heap.size wd w') => hcl w' (below3 hbw h))
                  have horH := Lib.hid hor
                  clear hy hcl hqL hor
                  go_wp2_with fail
                  go_loopw [19, 20] (fun b' i wq => ∃ (r : Nat), b' = .bool (inB X y r) ∧ i = .int .i64 r ∧ r ≤ X.length ∧ Below wd.heap.size wd wq) (fun _ i _ => X.length - (intOf i).toNat)
                  case atStart => exact ⟨0, rfl, rfl, Nat.zero_le _, hbp⟩
                  case round =>
                    clear hbp
                    obtain ⟨r, rfl, rfl, hr, hbp⟩ := hrel
                    by_cases hrX : r < X.length
                    · have hrX' : (r : Int) < X.length := by omega
                      obtain ⟨bx, ox, hb0, hcx⟩ := hRXH.out r hrX
                      have hcell := hcx _ hbp
                      have hcell2 := hcyH.out _ hbp
                      subst hb0
                      obtain ⟨x, hx⟩ : ∃ x, X.getD r 0 = x := ⟨_, rfl⟩
                      rw [hx] at hcell
                      have hst := Lib.hid (inB_step (x := y) hrX hx)
                      clear hx hcx
                      obtain ⟨bb, hbb⟩ : ∃ b, inB X y r = b := ⟨_, rfl⟩
                      have hbbH := Lib.hid hbb
                      rw [hbb]
                      clear hbb
                      cases bb with
                      | true =>
                        go_upto_region 43 with (fail)
                        refine Rt.wp_region_text [0, 0, 0, 0, 0, 1, 0, 0, 0, 1, 0, 0, 0] (by kernel_rfl) (by kernel_rfl) ?_
                        apply txt_move rfl rfl; (· (simp only [Act.put, Act.eval, List.setIfInBounds_toArray, List.set_cons_zero, List.set_cons_succ, Array.getD_eq_getD_getElem?, List.getElem?_toArray, List.getElem?_cons_zero, List.getElem?_cons_succ, Option.getD_some]; with_reducible rfl))
                        apply txt_move rfl rfl; (· (simp only [Act.put, Act.eval, List.setIfInBounds_toArray, List.set_cons_zero, List.set_cons_succ, Array.getD_eq_getD_getElem?, List.getElem?_toArray, List.getElem?_cons_zero, List.getElem?_cons_succ, Option.getD_some]; with_reducible rfl))
                        apply txt_skip rfl rfl; (· (simp only [Act.put, Act.eval, List.setIfInBounds_toArray, List.set_cons_zero, List.set_cons_succ, Array.getD_eq_getD_getElem?, List.getElem?_toArray, List.getElem?_cons_zero, List.getElem?_cons_succ, Option.getD_some]; with_reducible rfl))
                        apply txt_skip rfl rfl; (· (simp only [Act.put, Act.eval, List.setIfInBounds_toArray, List.set_cons_zero, List.set_cons_succ, Array.getD_eq_getD_getElem?, List.getElem?_toArray, List.getElem?_cons_zero, List.getElem?_cons_succ, Option.getD_some]; with_reducible rfl))
                        apply txt_skip rfl rfl; (· (simp only [Act.put, Act.eval, List.setIfInBounds_toArray, List.set_cons_zero, List.set_cons_succ, Array.getD_eq_getD_getElem?, List.getElem?_toArray, List.getElem?_cons_zero, List.getElem?_cons_succ, Option.getD_some]; with_reducible rfl))
                        apply txt_skip rfl rfl; (· (simp only [Act.put, Act.eval, List.setIfInBounds_toArray, List.set_cons_zero, List.set_cons_succ, Array.getD_eq_getD_getElem?, List.getElem?_toArray, List.getElem?_cons_zero, List.getElem?_cons_succ, Option.getD_some]; with_reducible rfl))
                        apply txt_skip rfl rfl; (· (simp only [Act.put, Act.eval, List.setIfInBounds_toArray, List.set_cons_zero, List.set_cons_succ, Array.getD_eq_getD_getElem?, List.getElem?_toArray, List.getElem?_cons_zero, List.getElem?_cons_succ, Option.getD_some]; with_reducible rfl))
                        apply txt_skip rfl rfl; (· (simp only [Act.put, Act.eval, List.setIfInBounds_toArray, List.set_cons_zero, List.set_cons_succ, Array.getD_eq_getD_getElem?, List.getElem?_toArray, List.getElem?_cons_zero, List.getElem?_cons_succ, Option.getD_some]; with_reducible rfl))
                        apply txt_skip rfl rfl; (· (simp only [Act.put, Act.eval, List.setIfInBounds_toArray, List.set_cons_zero, List.set_cons_succ, Array.getD_eq_getD_getElem?, List.getElem?_toArray, List.getElem?_cons_zero, List.getElem?_cons_succ, Option.getD_some]; with_reducible rfl))
                        apply txt_skip rfl rfl; (· (simp only [Act.put, Act.eval, List.setIfInBounds_toArray, List.set_cons_zero, List.set_cons_succ, Array.getD_eq_getD_getElem?, List.getElem?_toArray, List.getElem?_cons_zero, List.getElem?_cons_succ, Option.getD_some]; with_reducible rfl))
                        apply txt_skip rfl rfl; (· (simp only [Act.put, Act.eval, List.setIfInBounds_toArray, List.set_cons_zero, List.set_cons_succ, Array.getD_eq_getD_getElem?, List.getElem?_toArray, List.getElem?_cons_zero, List.getElem?_cons_succ, Option.getD_some]; with_reducible rfl))
                        apply txt_pure rfl rfl rfl; (· (intro w; go_simp; with_reducible rfl)); (· (simp only [Act.put, Act.eval, List.setIfInBounds_toArray, List.set_cons_zero, List.set_cons_succ, Array.getD_eq_getD_getElem?, List.getElem?_toArray, List.getElem?_cons_zero, List.getElem?_cons_succ, Option.getD_some]; with_reducible rfl))
                        apply txt_assign rfl rfl; (· (simp only [Act.put, Act.eval, List.setIfInBounds_toArray, List.set_cons_zero, List.set_cons_succ, Array.getD_eq_getD_getElem?, List.getElem?_toArray, List.getElem?_cons_zero, List.getElem?_cons_succ, Option.getD_some]; with_reducible rfl))
                        with_reducible refine txt_nil ?_
                        go_wp2
                        go_roundw
                        case rel => exact ⟨r + 1, by rw [hst.out, hbbH.out]; rfl, by go_num, by omega, hbp.drew⟩
                        case measure => simp [intOf]; omega
                      | false =>
                        go_upto_region 43 with (fail)
                        refine Rt.wp_region_text [0, 0, 0, 0, 0, 1, 0, 0, 0, 1, 0, 0, 0] (by kernel_rfl) (by kernel_rfl) ?_
                        apply txt_move rfl rfl; (· (simp only [Act.put, Act.eval, List.setIfInBounds_toArray, List.set_cons_zero, List.set_cons_succ, Array.getD_eq_getD_getElem?, List.getElem?_toArray, List.getElem?_cons_zero, List.getElem?_cons_succ, Option.getD_some]; with_reducible rfl))
                        apply txt_move rfl rfl; (· (simp only [Act.put, Act.eval, List.setIfInBounds_toArray, List.set_cons_zero, List.set_cons_succ, Array.getD_eq_getD_getElem?, List.getElem?_toArray, List.getElem?_cons_zero, List.getElem?_cons_succ, Option.getD_some]; with_reducible rfl))
                        apply txt_pure rfl rfl rfl; (· (intro w; go_simp; with_reducible rfl)); (· (simp only [Act.put, Act.eval, List.setIfInBounds_toArray, List.set_cons_zero, List.set_cons_succ, Array.getD_eq_getD_getElem?, List.getElem?_toArray, List.getElem?_cons_zero, List.getElem?_cons_succ, Option.getD_some]; with_reducible rfl))
                        apply txt_pure rfl rfl rfl; (· (intro w; go_simp; with_reducible rfl)); (· (simp only [Act.put, Act.eval, List.setIfInBounds_toArray, List.set_cons_zero, List.set_cons_succ, Array.getD_eq_getD_getElem?, List.getElem?_toArray, List.getElem?_cons_zero, List.getElem?_cons_succ, Option.getD_some]; with_reducible rfl))
                        apply txt_pure rfl rfl rfl; (· (intro w; go_simp; with_reducible rfl)); (· (simp only [Act.put, Act.eval, List.setIfInBounds_toArray, List.set_cons_zero, List.set_cons_succ, Array.getD_eq_getD_getElem?, List.getElem?_toArray, List.getElem?_cons_zero, List.getElem?_cons_succ, Option.getD_some]; with_reducible rfl))
                        apply txt_read rfl rfl rfl; (· (go_simp; with_reducible rfl)); (· (simp only [Act.put, Act.eval, List.setIfInBounds_toArray, List.set_cons_zero, List.set_cons_succ, Array.getD_eq_getD_getElem?, List.getElem?_toArray, List.getElem?_cons_zero, List.getElem?_cons_succ, Option.getD_some]; with_reducible rfl))
                        apply txt_pure rfl rfl rfl; (· (intro w; go_simp; with_reducible rfl)); (· (simp only [Act.put, Act.eval, List.setIfInBounds_toArray, List.set_cons_zero, List.set_cons_succ, Array.getD_eq_getD_getElem?, List.getElem?_toArray, List.getElem?_cons_zero, List.getElem?_cons_succ, Option.getD_some]; with_reducible rfl))
                        apply txt_pure rfl rfl rfl; (· (intro w; go_simp; with_reducible rfl)); (· (simp only [Act.put, Act.eval, List.setIfInBounds_toArray, List.set_cons_zero, List.set_cons_succ, Array.getD_eq_getD_getElem?, List.getElem?_toArray, List.getElem?_cons_zero, List.getElem?_cons_succ, Option.getD_some]; with_reducible rfl))
                        apply txt_pure rfl rfl rfl; (· (intro w; go_simp; with_reducible rfl)); (· (simp only [Act.put, Act.eval, List.setIfInBounds_toArray, List.set_cons_zero, List.set_cons_succ, Array.getD_eq_getD_getElem?, List.getElem?_toArray, List.getElem?_cons_zero, List.getElem?_cons_succ, Option.getD_some]; with_reducible rfl))
                        apply txt_read rfl rfl rfl; (· (go_simp; with_reducible rfl)); (· (simp only [Act.put, Act.eval, List.setIfInBounds_toArray, List.set_cons_zero, List.set_cons_succ, Array.getD_eq_getD_getElem?, List.getElem?_toArray, List.getElem?_cons_zero, List.getElem?_cons_succ, Option.getD_some]; with_reducible rfl))
                        apply txt_pure rfl rfl rfl; (· (intro w; go_simp; with_reducible rfl)); (· (simp only [Act.put, Act.eval, List.setIfInBounds_toArray, List.set_cons_zero, List.set_cons_succ, Array.getD_eq_getD_getElem?, List.getElem?_toArray, List.getElem?_cons_zero, List.getElem?_cons_succ, Option.getD_some]; with_reducible rfl))
                        apply txt_pure rfl rfl rfl; (· (intro w; go_simp; with_reducible rfl)); (· (simp only [Act.put, Act.eval, List.setIfInBounds_toArray, List.set_cons_zero, List.set_cons_succ, Array.getD_eq_getD_getElem?, List.getElem?_toArray, List.getElem?_cons_zero, List.getElem?_cons_succ, Option.getD_some]; with_reducible rfl))
                        apply txt_assign rfl rfl; (· (simp only [Act.put, Act.eval, List.setIfInBounds_toArray, List.set_cons_zero, List.set_cons_succ, Array.getD_eq_getD_getElem?, List.getElem?_toArray, List.getElem?_cons_zero, List.getElem?_cons_succ, Option.getD_some]; with_reducible rfl))
                        with_reducible refine txt_nil ?_
                        go_wp2
                        go_roundw
                        case rel => exact ⟨r + 1, by rw [hst.out, hbbH.out]; rfl, by go_num, by omega, hbp.drew⟩
                        case measure => simp [intOf]; omega
                    · obtain rfl : r = X.length := by omega
                      obtain ⟨b0, hb0⟩ : ∃ b, inB X y X.length = b := ⟨_, rfl⟩
                      rw [hb0] at horH ⊢
                      clear hb0
                      go_wp2_with fail
                      go_loopw [19, 21] (fun b' i wq => ∃ (s : Nat), b' = .bool (b0 || inB G y s) ∧ i = .int .i64 s ∧ s ≤ G.length ∧ Below wd.heap.size wd wq) (fun _ i _ => G.length - (intOf i).toNat)
                      case atStart => exact ⟨0, by simp [inB], rfl, Nat.zero_le _, hbp⟩
                      case round =>
                        clear hbp
                        obtain ⟨s, rfl, rfl, hs, hbp⟩ := hrel
                        by_cases hsG : s < G.length
                        · have hsG' : (s : Int) < G.length := by omega
                          obtain ⟨bx, ox, hb0, hcx⟩ := hRGH.out s hsG
                          have hcell := hcx _ (below3 hbw hbp)
                          have hcell2 := hcyH.out _ hbp
                          subst hb0
                          obtain ⟨x, hx⟩ : ∃ x, G.getD s 0 = x := ⟨_, rfl⟩
                          rw [hx] at hcell
                          have hst0 := inB_step (x := y) hsG hx
                          have hst : Hid ((b0 || inB G y (s + 1)) = ((b0 || inB G y s) || (x == y))) := Lib.hid (by rw [hst0, Bool.or_assoc])
                          clear hx hcx hst0
                          obtain ⟨bb, hbb⟩ : ∃ b, (b0 || inB G y s) = b := ⟨_, rfl⟩
                          have hbbH := Lib.hid hbb
                          rw [hbb]
                          clear hbb
                          cases bb with
                          | true =>
                            go_upto_region 47 with (fail)
                            refine Rt.wp_region_text [0, 0, 0, 0, 0, 1, 0, 0, 0, 1, 0, 0, 0] (by kernel_rfl) (by kernel_rfl) ?_
                            apply txt_move rfl rfl; (· (simp only [Act.put, Act.eval, List.setIfInBounds_toArray, List.set_cons_zero, List.set_cons_succ, Array.getD_eq_getD_getElem?, List.getElem?_toArray, List.getElem?_cons_zero, List.getElem?_cons_succ, Option.getD_some]; with_reducible rfl))
                            apply txt_move rfl rfl; (· (simp only [Act.put, Act.eval, List.setIfInBounds_toArray, List.set_cons_zero, List.set_cons_succ, Array.getD_eq_getD_getElem?, List.getElem?_toArray, List.getElem?_cons_zero, List.getElem?_cons_succ, Option.getD_some]; with_reducible rfl))
                            apply txt_skip rfl rfl; (· (simp only [Act.put, Act.eval, List.setIfInBounds_toArray, List.set_cons_zero, List.set_cons_succ, Array.getD_eq_getD_getElem?, List.getElem?_toArray, List.getElem?_cons_zero, List.getElem?_cons_succ, Option.getD_some]; with_reducible rfl))
                            apply txt_skip rfl rfl; (· (simp only [Act.put, Act.eval, List.setIfInBounds_toArray, List.set_cons_zero, List.set_cons_succ, Array.getD_eq_getD_getElem?, List.getElem?_toArray, List.getElem?_cons_zero, List.getElem?_cons_succ, Option.getD_some]; with_reducible rfl))
                            apply txt_skip rfl rfl; (· (simp only [Act.put, Act.eval, List.setIfInBounds_toArray, List.set_cons_zero, List.set_cons_succ, Array.getD_eq_getD_getElem?, List.getElem?_toArray, List.getElem?_cons_zero, List.getElem?_cons_succ, Option.getD_some]; with_reducible rfl))
                            apply txt_skip rfl rfl; (· (simp only [Act.put, Act.eval, List.setIfInBounds_toArray, List.set_cons_zero, List.set_cons_succ, Array.getD_eq_getD_getElem?, List.getElem?_toArray, List.getElem?_cons_zero, List.getElem?_cons_succ, Option.getD_some]; with_reducible rfl))
                            apply txt_skip rfl rfl; (· (simp only [Act.put, Act.eval, List.setIfInBounds_toArray, List.set_cons_zero, List.set_cons_succ, Array.getD_eq_getD_getElem?, List.getElem?_toArray, List.getElem?_cons_zero, List.getElem?_cons_succ, Option.getD_some]; with_reducible rfl))
                            apply txt_skip rfl rfl; (· (simp only [Act.put, Act.eval, List.setIfInBounds_toArray, List.set_cons_zero, List.set_cons_succ, Array.getD_eq_getD_getElem?, List.getElem?_toArray, List.getElem?_cons_zero, List.getElem?_cons_succ, Option.getD_some]; with_reducible rfl))
                            apply txt_skip rfl rfl; (· (simp only [Act.put, Act.eval, List.setIfInBounds_toArray, List.set_cons_zero, List.set_cons_succ, Array.getD_eq_getD_getElem?, List.getElem?_toArray, List.getElem?_cons_zero, List.getElem?_cons_succ, Option.getD_some]; with_reducible rfl))
                            apply txt_skip rfl rfl; (· (simp only [Act.put, Act.eval, List.setIfInBounds_toArray, List.set_cons_zero, List.set_cons_succ, Array.getD_eq_getD_getElem?, List.getElem?_toArray, List.getElem?_cons_zero, List.getElem?_cons_succ, Option.getD_some]; with_reducible rfl))
                            apply txt_skip rfl rfl; (· (simp only [Act.put, Act.eval, List.setIfInBounds_toArray, List.set_cons_zero, List.set_cons_succ, Array.getD_eq_getD_getElem?, List.getElem?_toArray, List.getElem?_cons_zero, List.getElem?_cons_succ, Option.getD_some]; with_reducible rfl))
                            apply txt_pure rfl rfl rfl; (· (intro w; go_simp; with_reducible rfl)); (· (simp only [Act.put, Act.eval, List.setIfInBounds_toArray, List.set_cons_zero, List.set_cons_succ, Array.getD_eq_getD_getElem?, List.getElem?_toArray, List.getElem?_cons_zero, List.getElem?_cons_succ, Option.getD_some]; with_reducible rfl))
                            apply txt_assign rfl rfl; (· (simp only [Act.put, Act.eval, List.setIfInBounds_toArray, List.set_cons_zero, List.set_cons_succ, Array.getD_eq_getD_getElem?, List.getElem?_toArray, List.getElem?_cons_zero, List.getElem?_cons_succ, Option.getD_some]; with_reducible rfl))
                            with_reducible refine txt_nil ?_
                            go_wp2
                            go_roundw
                            case rel => exact ⟨s + 1, by rw [hst.out, hbbH.out]; rfl, by go_num, by omega, hbp.drew⟩
                            case measure => simp [intOf]; omega
                          | false =>
                            go_upto_region 47 with (fail)
                            refine Rt.wp_region_text [0, 0, 0, 0, 0, 1, 0, 0, 0, 1, 0, 0, 0] (by kernel_rfl) (by kernel_rfl) ?_
                            apply txt_move rfl rfl; (· (simp only [Act.put, Act.eval, List.setIfInBounds_toArray, List.set_cons_zero, List.set_cons_succ, Array.getD_eq_getD_getElem?, List.getElem?_toArray, List.getElem?_cons_zero, List.getElem?_cons_succ, Option.getD_some]; with_reducible rfl))
                            apply txt_move rfl rfl; (· (simp only [Act.put, Act.eval, List.setIfInBounds_toArray, List.set_cons_zero, List.set_cons_succ, Array.getD_eq_getD_getElem?, List.getElem?_toArray, List.getElem?_cons_zero, List.getElem?_cons_succ, Option.getD_some]; with_reducible rfl))
                            apply txt_pure rfl rfl rfl; (· (intro w; go_simp; with_reducible rfl)); (· (simp only [Act.put, Act.eval, List.setIfInBounds_toArray, List.set_cons_zero, List.set_cons_succ, Array.getD_eq_getD_getElem?, List.getElem?_toArray, List.getElem?_cons_zero, List.getElem?_cons_succ, Option.getD_some]; with_reducible rfl))
                            apply txt_pure rfl rfl rfl; (· (intro w; go_simp; with_reducible rfl)); (· (simp only [Act.put, Act.eval, List.setIfInBounds_toArray, List.set_cons_zero, List.set_cons_succ, Array.getD_eq_getD_getElem?, List.getElem?_toArray, List.getElem?_cons_zero, List.getElem?_cons_succ, Option.getD_some]; with_reducible rfl))
                            apply txt_pure rfl rfl rfl; (· (intro w; go_simp; with_reducible rfl)); (· (simp only [Act.put, Act.eval, List.setIfInBounds_toArray, List.set_cons_zero, List.set_cons_succ, Array.getD_eq_getD_getElem?, List.getElem?_toArray, List.getElem?_cons_zero, List.getElem?_cons_succ, Option.getD_some]; with_reducible rfl))
                            apply txt_read rfl rfl rfl; (· (go_simp; with_reducible rfl)); (· (simp only [Act.put, Act.eval, List.setIfInBounds_toArray, List.set_cons_zero, List.set_cons_succ, Array.getD_eq_getD_getElem?, List.getElem?_toArray, List.getElem?_cons_zero, List.getElem?_cons_succ, Option.getD_some]; with_reducible rfl))
                            apply txt_pure rfl rfl rfl; (· (intro w; go_simp; with_reducible rfl)); (· (simp only [Act.put, Act.eval, List.setIfInBounds_toArray, List.set_cons_zero, List.set_cons_succ, Array.getD_eq_getD_getElem?, List.getElem?_toArray, List.getElem?_cons_zero, List.getElem?_cons_succ, Option.getD_some]; with_reducible rfl))
                            apply txt_pure rfl rfl rfl; (· (intro w; go_simp; with_reducible rfl)); (· (simp only [Act.put, Act.eval, List.setIfInBounds_toArray, List.set_cons_zero, List.set_cons_succ, Array.getD_eq_getD_getElem?, List.getElem?_toArray, List.getElem?_cons_zero, List.getElem?_cons_succ, Option.getD_some]; with_reducible rfl))
                            apply txt_pure rfl rfl rfl; (· (intro w; go_simp; with_reducible rfl)); (· (simp only [Act.put, Act.eval, List.setIfInBounds_toArray, List.set_cons_zero, List.set_cons_succ, Array.getD_eq_getD_getElem?, List.getElem?_toArray, List.getElem?_cons_zero, List.getElem?_cons_succ, Option.getD_some]; with_reducible rfl))
                            apply txt_read rfl rfl rfl; (· (go_simp; with_reducible rfl)); (· (simp only [Act.put, Act.eval, List.setIfInBounds_toArray, List.set_cons_zero, List.set_cons_succ, Array.getD_eq_getD_getElem?, List.getElem?_toArray, List.getElem?_cons_zero, List.getElem?_cons_succ, Option.getD_some]; with_reducible rfl))
                            apply txt_pure rfl rfl rfl; (· (intro w; go_simp; with_reducible rfl)); (· (simp only [Act.put, Act.eval, List.setIfInBounds_toArray, List.set_cons_zero, List.set_cons_succ, Array.getD_eq_getD_getElem?, List.getElem?_toArray, List.getElem?_cons_zero, List.getElem?_cons_succ, Option.getD_some]; with_reducible rfl))
                            apply txt_pure rfl rfl rfl; (· (intro w; go_simp; with_reducible rfl)); (· (simp only [Act.put, Act.eval, List.setIfInBounds_toArray, List.set_cons_zero, List.set_cons_succ, Array.getD_eq_getD_getElem?, List.getElem?_toArray, List.getElem?_cons_zero, List.getElem?_cons_succ, Option.getD_some]; with_reducible rfl))
                            apply txt_assign rfl rfl; (· (simp only [Act.put, Act.eval, List.setIfInBounds_toArray, List.set_cons_zero, List.set_cons_succ, Array.getD_eq_getD_getElem?, List.getElem?_toArray, List.getElem?_cons_zero, List.getElem?_cons_succ, Option.getD_some]; with_reducible rfl))
                            with_reducible refine txt_nil ?_
                            go_wp2
                            go_roundw
                            case rel => exact ⟨s + 1, by rw [hst.out, hbbH.out]; rfl, by go_num, by omega, hbp.drew⟩
                            case measure => simp [intOf]; omega
                        · obtain rfl : s = G.length := by omega
                          have hall : (b0 || inB G y G.length) = true := by
                            rcases horH.out with h | h
                            · rw [h]; rfl
                            · rw [h]; simp
                          rw [hall]
                          go_wp2
                          go_roundw
                          case rel => exact ⟨q + 1, by go_num, by omega, hbp⟩
                          case measure => simp [intOf]; omega
                · obtain rfl : q = k := by omega
                  have hq' : ¬ (q : Int) < q := by omega
                  have hTt := hgon.below hbp
                  have hend := below3 hbw hbp
                  go_wp2_with fail
                  refine (Len_S hTt).mono ?_
                  rintro e w4 ⟨rfl, rfl⟩
                  go_wp2
                  go_ret
                  exact ⟨rfl, hend⟩
end Go.Proofs.Ytmgapdbfaoflmaa.Tm
