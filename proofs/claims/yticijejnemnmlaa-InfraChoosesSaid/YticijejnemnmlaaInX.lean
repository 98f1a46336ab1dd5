/- DeleteFunc over a row of lames of one's own. -/
import Derived.Test.YticijejnemnmlaaInW
import Derived.Test.YticijejnemnmlaaNmK
namespace Go.Proofs.Yticijejnemnmlaa.If
open Go.RowKit Rt
set_option linter.unusedSimpArgs false
set_option linter.unusedVariables false
theorem zero72 (w : World) : (zeroValue 72).run Try.prog w = .ok (.agg #[.string ⟨#[]⟩, .int .i64 0]) w := by kernel_rfl
section
variable {w w' : World} {base n b c k : Nat} {v : Value} {L M : List Lm}
/-- A row of one's own, in its block. -/
def OwnL (w : World) (b c : Nat) (L : List Lm) : Prop := w.ownsRow 0 72 2 (.slice (some ⟨b, 0, none⟩) L.length c) L.length (lmC L)
theorem OwnL.row (h : OwnL w b c L) (hb : base ≤ b) : w.ownsRow base 72 2 (.slice (some ⟨b, 0, none⟩) L.length c) L.length (lmC L) := by
  obtain ⟨h1, h2 | ⟨g, cap, cur, hv, hg, r⟩⟩ := h
  · cases h2.1
  · cases hv; exact ⟨h1, .inr ⟨b, _, cur, rfl, hb, r⟩⟩
theorem OwnL.of (h : w.ownsRow base 72 2 (.slice (some ⟨b, 0, none⟩) n c) n (lmC L)) (hn : n = L.length) : OwnL w b c L ∧ base ≤ b := by
  subst hn
  obtain ⟨h1, h2 | ⟨g, cap, cur, hv, hg, r⟩⟩ := h
  · cases h2.1
  · cases hv; exact ⟨⟨h1, .inr ⟨b, _, cur, rfl, Nat.zero_le _, r⟩⟩, hg⟩
theorem OwnL.lt (h : OwnL w b c L) : b < w.heap.size := (World.ownsRow.lt h b rfl).2
theorem OwnL.cap (h : OwnL w b c L) : L.length ≤ c ∧ c ≤ maxLen := by
  obtain ⟨h1, h2 | ⟨g, cap, cur, hv, hg, hh, r1, r2, _⟩⟩ := h
  · cases h2.1
  · cases hv; exact ⟨r1, r2⟩
theorem OwnL.keep (h : OwnL w b c L) (hb : w'.heap[b]? = w.heap[b]?) : OwnL w' b c L := by
  obtain ⟨h1, h2 | ⟨g, cap, cur, hv, hg, hh, r⟩⟩ := h
  · cases h2.1
  · cases hv; exact ⟨h1, .inr ⟨b, _, cur, rfl, hg, hb.trans hh, r⟩⟩
theorem OwnL.below (h : OwnL w b c L) (hb : Below w.heap.size w w') : OwnL w' b c L := h.keep (hb.block b h.lt)
theorem OwnL.at (h : OwnL w b c L) (i : Nat) (hi : i < L.length) :
    w.cell? ⟨b, i * 2, none⟩ = some (.string (gk L i).1) ∧ w.cell? ⟨b, i * 2 + 1, none⟩ = some (.int .i64 (gk L i).2) := by
  have h1 := World.ownsRow.cellAt h (i * 2) (by omega)
  have h2 := World.ownsRow.cellAt h (i * 2 + 1) (by omega)
  have h3 := lmC_get L i hi
  rw [Nat.mul_comm 2 i] at h3
  rw [h3.1] at h1
  rw [h3.2] at h2
  exact ⟨h1, h2⟩
theorem OwnL.fr (h : OwnL w b c L) (j : Nat) : w.frozen? ⟨b, j, none⟩ = false := World.ownsRow.frozenAt h j
theorem OwnL.set (h : OwnL w b c L) (i : Nat) (hi : i < L.length) (p : Lm) : OwnL ((w.setCell ⟨b, i * 2, none⟩ (.string p.1)).setCell ⟨b, i * 2 + 1, none⟩ (.int .i64 p.2)) b c (L.set i p) := by
  have h1 := (World.ownsRow.stored (World.ownsRow.stored h (i * 2) (.string p.1)).1 (i * 2 + 1) (.int .i64 p.2)).1
  unfold OwnL
  rw [lmC_set L i p hi, Nat.mul_comm 2 i, List.length_set]
  exact h1
/-- Fewer of them. -/
theorem OwnL.take (h : OwnL w b c L) (k : Nat) (hk : k ≤ L.length) : OwnL w b c (L.take k) := by
  obtain ⟨h1, h2 | ⟨g, cap, cur, hv, hg, hh, r1, r2, r3, r4⟩⟩ := h
  · cases h2.1
  · cases hv
    have hl : (L.take k).length = k := by rw [List.length_take, Nat.min_eq_left hk]
    refine ⟨lmC_length _, .inr ⟨b, _, cur, rfl, hg, hh, by omega, r2, r3, ?_⟩⟩
    rw [hl, ← lmC_take, ← r4, List.take_take]
    congr 1; omega
/-- What is behind the k-th one is cleared. -/
theorem OwnL.clear (h : OwnL w b c L) (hk : k < L.length) (cc : Nat) :
    (Builtin.clear_ #[57] 0 #[.slice (some ⟨b, k * 2, none⟩) (L.length - k) cc]).run Try.prog w = .ok (.tuple #[]) (w.setCells b (k * 2) (Builtin.zeroCells (Value.agg #[.string ⟨#[]⟩, .int .i64 0]).cells (L.length - k)).toList) ∧
      OwnL (w.setCells b (k * 2) (Builtin.zeroCells (Value.agg #[.string ⟨#[]⟩, .int .i64 0]).cells (L.length - k)).toList) b c (L.take k) := by
  have hfr := h.fr
  obtain ⟨h1, h2 | ⟨g, cap, cur, hv, hg, hh, r1, r2, r3, r4⟩⟩ := h
  · cases h2.1
  · cases hv
    obtain ⟨zs, hzs⟩ : ∃ zs, (Builtin.zeroCells (Value.agg #[.string ⟨#[]⟩, .int .i64 0]).cells (L.length - k)).toList = zs := ⟨_, rfl⟩
    have hzl : zs.length = (L.length - k) * 2 := by rw [← hzs, Array.length_toList, size_zeroCells]; rfl
    have hz1 : ∀ u ∈ zs, u.oneCell' = true := by
      intro u hu
      rw [← hzs] at hu
      simp [Builtin.zeroCells, Value.cells] at hu
      obtain ⟨j, hj, rfl⟩ := hu
      rcases Nat.mod_two_eq_zero_or_one j with e | e <;> simp [e, Value.oneCell']
    obtain ⟨m, hm⟩ : ∃ m, L.length - k = m + 1 := ⟨L.length - k - 1, by omega⟩
    obtain ⟨cur', q1, q2, q3⟩ := Nm.setCells_row zs (k * 2) w cur hh (by omega)
    have hcell : ∀ j, j < zs.length → (w.cell? ⟨b, k * 2 + j, none⟩).isSome = true := fun j hj => by simp [World.cell?, hh]; omega
    have hst := run_storeCells_cells (P := Try.prog) b (k * 2) zs 0 w (by simpa using hcell) (by intro j _; exact hfr _) (by intro u hu; exact hz1 u hu)
    simp only [Nat.add_zero] at hst
    rw [hzs]
    refine ⟨?_, lmC_length _, .inr ⟨b, _, cur', rfl, Nat.zero_le _, q1, by rw [List.length_take]; omega, r2, q2.trans r3, ?_⟩⟩
    · rw [hm] at hzs ⊢
      simp only [Builtin.clear_]
      simp [run_underlying Try.underlying57, zero72, hzs, hst]
    · rw [q3, List.length_take, Nat.min_eq_left (by omega), ← lmC_take, ← r4, List.append_assoc, List.take_take]
      have e : (List.take (k * 2) cur.toList).length = k * 2 := by rw [List.length_take, Array.length_toList]; omega
      rw [List.take_append_of_le_length (by omega), List.take_take, Nat.min_self]
      congr 1; omega
end
/-! ### DeleteFunc -/
def keepZ (z : ByteArray) (L : List Lm) : List Lm := L.filter (fun p => !eqz z p)
theorem keepZ_snoc (z : ByteArray) (L : List Lm) (j : Nat) (hj : j < L.length) : keepZ z (L.take (j + 1)) = if eqz z (gk L j) = true then keepZ z (L.take j) else keepZ z (L.take j) ++ [gk L j] := by
  unfold keepZ
  rw [List.take_succ_eq_append_getElem hj, List.filter_append, gk_eq hj]
  by_cases h : eqz z L[j] = true
  · rw [if_pos h]; simp [h]
  · rw [if_neg h]; simp [h]
theorem keepZ_all {z : ByteArray} {L : List Lm} (h : ∀ i, i < L.length → eqz z (gk L i) = false) : keepZ z L = L := List.filter_eq_self.2 fun p hp => by
  obtain ⟨i, hi, rfl⟩ := List.getElem_of_mem hp; rw [← gk_eq hi, h i hi]; rfl
theorem idxZ_cases (z : ByteArray) (L : List Lm) : (idxZ z L = -1 ∧ ∀ i, i < L.length → eqz z (gk L i) = false) ∨ ∃ k, k < L.length ∧ idxZ z L = (k : Int) ∧ eqz z (gk L k) = true ∧ ∀ i, i < k → eqz z (gk L i) = false := by
  cases h : L.findIdx? (eqz z) with
  | none => exact .inl ⟨by unfold idxZ; rw [h], fun i hi => by rw [gk_eq hi]; exact List.findIdx?_eq_none_iff.1 h _ (List.getElem_mem hi)⟩
  | some k =>
    obtain ⟨hk, h1, h2⟩ := List.findIdx?_eq_some_iff_getElem.1 h
    exact .inr ⟨k, hk, by unfold idxZ; rw [h], by rw [gk_eq hk]; exact h1, fun i hi => by rw [gk_eq (by omega)]; simpa using h2 i hi⟩
/-- How the row stands in a round. -/
structure DF (z : ByteArray) (L M : List Lm) (i j : Nat) : Prop where
  len : M.length = L.length
  ij : i < j
  jl : j ≤ L.length
  hd : M.take i = keepZ z (L.take j)
  tl : ∀ k, j ≤ k → k < L.length → gk M k = gk L k
theorem DF.skip {z : ByteArray} {L M : List Lm} {i j : Nat} (h : DF z L M i j) (hj : j < L.length) (he : eqz z (gk L j) = true) : DF z L M i (j + 1) :=
  ⟨h.len, by have := h.ij; omega, hj, by rw [keepZ_snoc z L j hj, if_pos he]; exact h.hd, fun k hk => h.tl k (by omega)⟩
theorem DF.put {z : ByteArray} {L M : List Lm} {i j : Nat} (h : DF z L M i j) (hj : j < L.length) (he : eqz z (gk L j) = false) : DF z L (M.set i (gk L j)) (i + 1) (j + 1) := by
  have h1 := h.ij
  have h2 := h.len
  refine ⟨by rw [List.length_set]; exact h2, by omega, hj, ?_, fun k hk hk2 => ?_⟩
  · rw [keepZ_snoc z L j hj, if_neg (by simp [he]), ← h.hd, List.take_succ_eq_append_getElem (by rw [List.length_set]; omega), List.take_set_of_le (Nat.le_refl _), List.getElem_set_self]
  · rw [← h.tl k (by omega) hk2, gk_eq (l := M.set i (gk L j)) (by rw [List.length_set]; omega), gk_eq (l := M) (by omega), List.getElem_set_ne (by omega)]
theorem DF.done {z : ByteArray} {L M : List Lm} {i : Nat} (h : DF z L M i L.length) : M.take i = keepZ z L := by rw [h.hd, List.take_length]
theorem DF.start {z : ByteArray} {L : List Lm} {k : Nat} (hk : k < L.length) (hy : eqz z (gk L k) = true) (hno : ∀ i, i < k → eqz z (gk L i) = false) : DF z L L k (k + 1) := by
  refine ⟨rfl, by omega, hk, ?_, fun _ _ _ => rfl⟩
  rw [keepZ_snoc z L k hk, if_pos hy]
  refine (keepZ_all fun i hi => ?_).symm
  rw [List.length_take] at hi
  have : gk (L.take k) i = gk L i := by rw [gk_eq (by rw [List.length_take]; exact hi), gk_eq (by omega), List.getElem_take]
  rw [this]; exact hno i (by omega)
set_option maxHeartbeats 2000000 in
set_option maxRecDepth 100000 in
theorem DelF_row {w : World} {zb : Nat} {z : ByteArray} {b c : Nat} {L : List Lm} (hz : w.cell? ⟨zb, 0, none⟩ = some (.string z)) (h : OwnL w b c L) (hzb : zb ≠ b) (hl : L.length < 1099511627776) {k : Nat} (hk : k < L.length) (hy : eqz z (gk L k) = true) (hno : ∀ i, i < k → eqz z (gk L i) = false) :
    Calls Try.prog 32 #[.slice (some ⟨b, 0, none⟩) L.length c, .func (.func 34) #[] #[.pointer (some ⟨zb, 0, none⟩)]] w fun e w' => e = .returned (.slice (some ⟨b, 0, none⟩) (keepZ z L).length c) ∧ OwnL w' b c (keepZ z L) ∧ Kept (fun x => x = b) w w' := by
  have hix := idxZ_some hk hno hy
  have hI := Lib.hid (Index_any hz (fun _ => RowL.of_row h rfl rfl (by omega)) rfl hl)
  rw [hix] at hI
  obtain ⟨hcl, hcm⟩ := h.cap
  have hcm' : (c : Int) ≤ 9223372036854775807 := by unfold maxLen at hcm; omega
  have hDF := Lib.hid (DF.start hk hy hno)
  have hH := Lib.hid h
  have hzH := Lib.hid hz
  obtain ⟨n, hn⟩ : ∃ n, L.length = n := ⟨_, rfl⟩
  have hnH := Lib.hid hn
  rw [hn] at hI hl hcl hk
  rw [hn]
  have hkm : ((k : Int) == -1) = false := by simp
  clear h hz hy hno hn hcm hix
  go_enter Try.func32, Try.ntmps32
  go_wp2_with (go_at_call 49; refine hI.out.mono ?_; rintro e w1 ⟨rfl, hb1⟩)
  go_loopw [5, 6] (fun vi vj wr => ∃ (i j : Nat) (M : List Lm), j ≤ n ∧ i < j ∧ vi = .int .i64 i ∧ vj = .int .i64 j ∧ Hid (DF z L M i j) ∧ Hid (OwnL wr b c M) ∧ Kept (fun x => x = b) w wr)
    (fun _ vj _ => n - (intOf vj).toNat)
  case atStart => exact ⟨k, k + 1, L, by omega, by omega, rfl, by go_num, hDF, Lib.hid (hH.out.below (by exact hb1)), Kept.of_below hb1⟩
  case round =>
    obtain ⟨i, j, M, hjn, hij, rfl, rfl, hD, hO, hKp⟩ := hrel
    have hML : M.length = n := hD.out.len.trans hnH.out
    by_cases hlt : j < n
    · obtain ⟨c0, c1⟩ := hO.out.at j (by omega)
      rw [hD.out.tl j (Nat.le_refl _) (by have := hnH.out; omega)] at c0 c1
      have hzlt := World.block_lt_of_cell? w _ hzH.out
      have hzr := (hKp.cell (p := ⟨zb, 0, none⟩) hzlt hzb).trans hzH.out
      have hblt := hO.out.lt
      obtain ⟨p, hp⟩ : ∃ p, gk L j = p := ⟨_, rfl⟩
      rw [hp] at c0 c1
      have hji : (j : Int) < n := by omega
      have hii : (i : Int) < n := by omega
      have hpH := Lib.hid hp
      have hKH := Lib.hid hKp
      clear hp hKp
      have hzr2 := Lib.hid ((Below.cell (Below.alloc (Below.refl wr.heap.size wr) (Nat.le_refl _) (.cells #[.string p.1, .int .i64 p.2] 72)) (p := ⟨zb, 0, none⟩) (World.block_lt_of_cell? wr _ hzr)).trans hzr)
      cases hE : eqz z p with
      | true =>
        go_wp2_with (go_at_call 34; refine (pred_any hzr2.out p).mono ?_; rintro e w2 ⟨rfl, hb2⟩; rw [hE])
        go_roundw
        case rel => exact ⟨i, j + 1, M, by omega, by omega, rfl, by go_num, Lib.hid (hD.out.skip (by have := hnH.out; omega) (by rw [hpH.out]; exact hE)), Lib.hid ((hO.out.below ((Below.refl _ _).alloc (Nat.le_refl _) _)).below hb2), (hKH.out.alloc _).trans (Kept.of_below hb2)⟩
        case measure => first | (simp [intOf]; done) | (simp [intOf]; omega)
      | false =>
        have hO1 := hO.out.below ((Below.refl wr.heap.size wr).alloc (Nat.le_refl _) (.cells #[.string p.1, .int .i64 p.2] 72))
        have hO1H := Lib.hid hO1
        have k0 := World.alloc_heap_new wr (.cells #[.string p.1, .int .i64 p.2] 72)
        go_wp2_with (go_at_call 34; refine (pred_any hzr2.out p).mono ?_; rintro e w2 ⟨rfl, hb2⟩; rw [hE]; have hO2 := hO1H.out.below hb2; have hk2 := (hb2.block wr.heap.size (by simp)).trans k0; have d0 : w2.cell? ⟨wr.heap.size, 0, none⟩ = some (.string p.1) := by { simp [World.cell?, hk2] }; have d1 : w2.cell? ⟨wr.heap.size, 1, none⟩ = some (.int .i64 p.2) := by { simp [World.cell?, hk2] }; have f0 := hO2.fr (i * 2); have f1 := hO2.fr (i * 2 + 1); obtain ⟨e0, e1⟩ := hO2.at i (by omega); have hO2H := Lib.hid hO2; clear hO1 hO2 k0 hk2)
        go_roundw
        case rel =>
          refine ⟨i + 1, j + 1, M.set i p, by omega, by omega, by go_num, by go_num, Lib.hid ?_, Lib.hid (hO2H.out.set i (by omega) p), (((hKH.out.alloc _).trans (Kept.of_below hb2)).setCell (p := ⟨b, i * 2, none⟩) (.inl rfl) _).setCell (p := ⟨b, i * 2 + 1, none⟩) (.inl rfl) _⟩
          have := hD.out.put (by have := hnH.out; omega) (by rw [hpH.out]; exact hE)
          rw [hpH.out] at this; exact this
        case measure => first | (simp [intOf]; done) | (simp [intOf]; omega)
    · obtain rfl : j = n := by omega
      have hD2 : M.take i = keepZ z L := by
        have := hD.out
        rw [← hnH.out] at this
        exact this.done
      have hlen : (keepZ z L).length = i := by rw [← hD2, List.length_take]; omega
      obtain ⟨hc1, hc2⟩ := hO.out.clear (k := i) (by omega) (c - i)
      rw [hML] at hc1 hc2
      rw [hD2] at hc2
      have hci : ¬ c - i = 0 := by omega
      have hii : (i : Int) ≤ j := by omega
      have hic : (i : Int) ≤ c := by omega
      have hc2H := Lib.hid hc2
      have hKH := Lib.hid hKp
      have hbl := hO.out.lt
      obtain ⟨zs, hzs⟩ : ∃ zs, (Builtin.zeroCells (Value.agg #[.string ⟨#[]⟩, .int .i64 0]).cells (j - i)).toList = zs := ⟨_, rfl⟩
      rw [hzs] at hc1 hc2H
      have hKs : Hid (Kept (fun x => x = b) w (wr.setCells b (i * 2) zs)) := Lib.hid (by
        obtain ⟨s1, s2, s3, s4⟩ := Nm.setCells_same b zs (i * 2) wr
        exact hKH.out.trans ⟨s1, s2, s3, Nat.le_of_eq s4.symm, fun x hx hne => Nm.setCells_far zs _ x hne⟩)
      have hlen := Lib.hid hlen
      clear hc2 hD2 hKp hzs hML
      go_wp2
      go_ret
      exact ⟨by rw [hlen.out]; rfl, hc2H.out, hKs.out⟩
end Go.Proofs.Yticijejnemnmlaa.If
