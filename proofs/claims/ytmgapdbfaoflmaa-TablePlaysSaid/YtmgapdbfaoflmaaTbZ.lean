/- The reference's table: Put, Get, Look, Drop. -/
import Derived.Test.YtmgapdbfaoflmaaTbY
namespace Go.Proofs.Ytmgapdbfaoflmaa.Tb
open Go.RowKit Go.Shelf Rt Tm
set_option linter.unusedSimpArgs false
set_option linter.unusedVariables false
def DistK (S : List KV) : Prop := S.Pairwise (fun a b => a.1 ≠ b.1)
theorem split_at {S : List KV} (hd : DistK S) {i : Nat} (hi : i < S.length) : S = S.take i ++ gk S i :: S.drop (i + 1) ∧ ∀ q ∈ S.take i ++ S.drop (i + 1), q.1 ≠ (gk S i).1 := by
  have e : S = S.take i ++ gk S i :: S.drop (i + 1) := by
    rw [gk_eq hi, ← List.drop_eq_getElem_cons hi, List.take_append_drop]
  refine ⟨e, ?_⟩
  unfold DistK at hd
  rw [e] at hd
  obtain ⟨h1, h2, h3⟩ := List.pairwise_append.1 hd
  intro q hq
  rcases List.mem_append.1 hq with h | h
  · exact h3 q h _ (by simp)
  · exact Ne.symm ((List.pairwise_cons.1 h2).1 q h)
theorem at_yes {S : List KV} (hd : DistK S) {i : Nat} (hi : i < S.length) : delK S (gk S i).1 = S.take i ++ S.drop (i + 1) ∧ lookV S (gk S i).1 = some (gk S i).2 := by
  obtain ⟨e, h⟩ := split_at hd hi
  refine ⟨?_, ?_⟩
  · have := delK_yes h
    rw [← e] at this
    exact this
  · have := lookV_yes h
    rw [← e] at this
    exact this
theorem at_no {S : List KV} {k : ByteArray} (h : ∀ j, j < S.length → (gk S j).1 ≠ k) : delK S k = S ∧ lookV S k = none := by
  have h' : ∀ p ∈ S, p.1 ≠ k := fun p hp => by
    obtain ⟨j, hj, rfl⟩ := List.mem_iff_getElem.1 hp
    have := h j hj
    rwa [gk_eq hj] at this
  exact ⟨delK_no h', lookV_no h'⟩
/-- A row of one's own, just laid. -/
theorem own_new (w : World) (k : ByteArray) (x : Int) : (w.alloc (.cells #[.string k, .int .i64 x] 101)).ownsRow w.heap.size 101 2 (.slice (some ⟨w.heap.size, 0, none⟩) 1 1) 1 (kvCells [(k, x)]) :=
  ⟨rfl, .inr ⟨w.heap.size, 1, _, rfl, Nat.le_refl _, Array.getElem?_push_size, Nat.le_refl _, by unfold maxLen; omega, rfl, rfl⟩⟩
theorem gk_last (p : KV) {T : List KV} (h : 0 < T.length) : (T.getLast?).map (·.1) = some (gk (p :: T) T.length).1 := by
  obtain ⟨T', q, rfl⟩ : ∃ T' q, T = T' ++ [q] := by
    rcases List.eq_nil_or_concat T with rfl | ⟨T', q, rfl⟩
    · simp at h
    · exact ⟨T', q, List.concat_eq_append⟩
  rw [gk_eq (by simp)]
  simp
theorem RowK.shorter {w : World} {a : Option Addr} {n c : Nat} {S : List KV} (h : RowK w (.slice a n c) S) {m : Nat} (hm : m ≤ S.length) : RowK w (.slice a m c) (S.take m) := by
  obtain ⟨a', c', h1, h2, hc, hnn, h3⟩ := h
  cases h1
  obtain ⟨e1, e2⟩ := cut_rows (S := S) hm
  refine ⟨a, c, by rw [e1], by omega, hc, hnn, fun h0 => ?_⟩
  obtain ⟨b, off, e, hb, hcell⟩ := h3 (by omega)
  exact ⟨b, off, e, hb, fun j u hj => hcell j u (e2 j u hj)⟩
section
variable {w w' : World} {p : Nat} {v : Value} {S : List KV} {k : ByteArray}
set_option maxRecDepth 100000 in
set_option maxHeartbeats 4000000 in
theorem RPut_any {most : Nat} (h : RefK w p (most : Int) v S) (hd : DistK S) (hm0 : S.length ≤ most) (hm1 : 1 ≤ most) (hm2 : most ≤ 100000) (k : ByteArray) (x : Int) :
    Calls Try.prog 19 #[.pointer (some ⟨p, 0, none⟩), .string k, .int .i64 x] w fun e w' => e = .returned (.tuple #[.string ((putG most S k).getD ⟨#[]⟩), .bool (putG most S k).isSome]) ∧ ∃ v', RefK w' p (most : Int) v' (putK most S k x) ∧ (∀ g, v'.ownBlock = some g → w.heap.size ≤ g) ∧ Kept (fun y => y = p) w w' := by
  have hfind := Lib.hid (find_any h (by omega) k)
  have hH := Lib.hid h
  have c1 := h.c1
  have f1 := h.fr 1
  clear h
  go_enter Try.func19, Try.ntmps19
  go_wp2_with fail
  refine hfind.out.mono ?_
  rintro e w1 ⟨rfl, ⟨rfl, hno⟩ | ⟨i, rfl, hi, hgk, hno⟩⟩
  · obtain ⟨e1, e2⟩ := at_no hno
    have h2 := hH.out
    have hTe : Hid (delK S k = S) := Lib.hid e1
    have hTy : Hid (most < S.length + 1 → S = S) := Lib.hid (fun _ => rfl)
    have hTl : S.length ≤ most := hm0
    have hk2 : Hid (Kept (fun y => y = p) w1 w1) := Lib.hid (Kept.refl _ _)
    clear e1 e2 hno hfind hd
    have hlt2 := h2.lt
    have hs2 := hk2.out.size
    obtain ⟨a2, c2, hv2e, hlc2, hcm2, hnn2, hrest2⟩ := h2.row
    have hb3 : Below w1.heap.size w1 (w1.alloc (.cells #[.string k, .int .i64 x] 101)) := (Below.refl _ _).alloc (Nat.le_refl _) _
    have h3 := h2.below hb3
    have hn3 := own_new w1 k x
    obtain ⟨W3, hW3⟩ : ∃ W, w1.alloc (.cells #[.string k, .int .i64 x] 101) = W := ⟨_, rfl⟩
    obtain ⟨g3, hg3⟩ : ∃ g, w1.heap.size = g := ⟨_, rfl⟩
    rw [hW3] at hb3 h3 hn3
    have hs3 : w1.heap.size + 1 = W3.heap.size := by rw [← hW3]; simp
    rw [hg3] at hn3
    have hW3H := Lib.hid hW3
    have hg3H := Lib.hid hg3
    obtain ⟨n, hn⟩ : ∃ n, S.length = n := ⟨_, rfl⟩
    rw [hn] at hTl hlc2 hv2e
    subst hv2e
    have c3 := h3.c1
    have f3 := h3.fr 1
    have h3H := Lib.hid h3
    have hnH := Lib.hid hn
    have hb3H := Lib.hid hb3
    have h2H := Lib.hid h2
    have hcel : Hid (0 < n → ∃ b off, a2 = some ⟨b, off, none⟩ ∧ ∀ j u, (kvCells S)[j]? = some u → W3.cell? ⟨b, off + j, none⟩ = some u) := Lib.hid (fun h0 => by
      obtain ⟨b, off, e, hb, hc⟩ := hrest2 (by rw [hn]; exact h0)
      exact ⟨b, off, e, fun j u hj => (hb3.cell (p := ⟨b, off + j, none⟩) hb).trans (hc j u hj)⟩)
    have hmx : n ≤ 100000 := by omega
    have hgb : g3 ≤ W3.heap.size := by omega
    clear hW3 hg3 h3 hn hrest2 hb3 h2
    go_upto_region 5 with (fail)
    rw [hW3H.out, hg3H.out]
    go_wp2_with (at_builtin; refine wpList_app_kv rfl (.tmp 27) (.tmp 31) rfl rfl hn3 hgb (T := S) rfl hnH.out.symm (fun e => ⟨hnn2 e, by have := hnn2 e; omega⟩) (fun h0 => hcel.out (by rw [← hnH.out]; exact h0)) (by rw [hnH.out]; omega) ?_; intro v4 w4 hown4 hgrow4 hat4; have hb4 : Below w1.heap.size w1 w4 := hb3H.out.grown hgrow4 (by omega) (fun y hy => by cases hy; rw [hg3H.out]; exact Nat.le_refl _); have hc4 := (hb4.cell (p := ⟨p, 1, none⟩) hlt2).trans h2H.out.c1; have hf4 := (hb4.frozen (p := ⟨p, 1, none⟩) hlt2).trans (h2H.out.fr 1); rw [← kvCells_append] at hown4; rw [hnH.out] at hown4; obtain ⟨g4, cap4, rfl⟩ : ∃ g4 cap4, v4 = .slice (some ⟨g4, 0, none⟩) (1 + n) cap4 := (by rw [Nat.add_comm] at hown4 ⊢; exact ownsRow_succ hown4); clear hgrow4 hat4)
    have hsep4 : (Value.slice (some ⟨g4, 0, none⟩) (1 + n) cap4).ownBlock ≠ some p := fun e => by have := (hown4.lt p e).1; have := hg3H.out; omega
    obtain ⟨r5, r6⟩ := h2H.out.put hb4 (RowK.of_row (S := [(k, x)] ++ S) hown4 (by simp [hnH.out]; omega) rfl) hsep4
    have hg4 : Hid (g3 ≤ g4) := Lib.hid (hown4.lt g4 rfl).1
    obtain ⟨W5, hW5⟩ : ∃ W, w4.setCell ⟨p, 1, none⟩ (.slice (some ⟨g4, 0, none⟩) (1 + n) cap4) = W := ⟨_, rfl⟩
    have hk5 : Kept (fun y => y = p) w1 W5 := hW5 ▸ r6
    have h5 : RefK W5 p (most : Int) (.slice (some ⟨g4, 0, none⟩) (1 + n) cap4) ((k, x) :: S) := hW5 ▸ r5
    have hW5H := Lib.hid hW5
    have h5H := Lib.hid h5
    have k1 := h5.c1
    have k0 := h5.c0
    have kf := h5.fr 1
    have hk05 := Lib.hid (hk2.out.trans hk5)
    have hw14 : Hid (w1.heap.size ≤ g4) := Lib.hid (by have := hg4.out; have := hg3H.out; omega)
    clear r5 r6 hb4 hown4 hc4 hf4 hsep4 hn3 hgb c3 f3 h5 hW5 hk5
    go_upto_region 6 with (fail)
    rw [hW5H.out]
    by_cases hfit : 1 + n ≤ most
    · have hfit' : (1 : Int) + (n : Int) ≤ (most : Int) := by omega
      have hfit2 : ((1 + n : Nat) : Int) ≤ (most : Int) := by omega
      refine Rt.wp_region_text [0, 0, 0, 1, 0, 0, 0, 0, 1, 0] (by kernel_rfl) (by kernel_rfl) ?_
      apply txt_move rfl rfl; (· (simp only [Act.put, Act.eval, List.setIfInBounds_toArray, List.set_cons_zero, List.set_cons_succ, Array.getD_eq_getD_getElem?, List.getElem?_toArray, List.getElem?_cons_zero, List.getElem?_cons_succ, Option.getD_some, List.getElem_toArray, List.getElem_cons_succ, List.getElem_cons_zero]; with_reducible rfl))
      apply txt_pure rfl rfl rfl; (· (intro w; go_simp; with_reducible rfl)); (· (simp only [Act.put, Act.eval, List.setIfInBounds_toArray, List.set_cons_zero, List.set_cons_succ, Array.getD_eq_getD_getElem?, List.getElem?_toArray, List.getElem?_cons_zero, List.getElem?_cons_succ, Option.getD_some, List.getElem_toArray, List.getElem_cons_succ, List.getElem_cons_zero]; with_reducible rfl))
      apply txt_pure rfl rfl rfl; (· (intro w; go_simp; with_reducible rfl)); (· (simp only [Act.put, Act.eval, List.setIfInBounds_toArray, List.set_cons_zero, List.set_cons_succ, Array.getD_eq_getD_getElem?, List.getElem?_toArray, List.getElem?_cons_zero, List.getElem?_cons_succ, Option.getD_some, List.getElem_toArray, List.getElem_cons_succ, List.getElem_cons_zero]; with_reducible rfl))
      apply txt_read rfl rfl rfl; (· (go_simp; with_reducible rfl)); (· (simp only [Act.put, Act.eval, List.setIfInBounds_toArray, List.set_cons_zero, List.set_cons_succ, Array.getD_eq_getD_getElem?, List.getElem?_toArray, List.getElem?_cons_zero, List.getElem?_cons_succ, Option.getD_some, List.getElem_toArray, List.getElem_cons_succ, List.getElem_cons_zero]; with_reducible rfl))
      apply txt_pure rfl rfl rfl; (· (intro w; go_simp; with_reducible rfl)); (· (simp only [Act.put, Act.eval, List.setIfInBounds_toArray, List.set_cons_zero, List.set_cons_succ, Array.getD_eq_getD_getElem?, List.getElem?_toArray, List.getElem?_cons_zero, List.getElem?_cons_succ, Option.getD_some, List.getElem_toArray, List.getElem_cons_succ, List.getElem_cons_zero]; with_reducible rfl))
      apply txt_move rfl rfl; (· (simp only [Act.put, Act.eval, List.setIfInBounds_toArray, List.set_cons_zero, List.set_cons_succ, Array.getD_eq_getD_getElem?, List.getElem?_toArray, List.getElem?_cons_zero, List.getElem?_cons_succ, Option.getD_some, List.getElem_toArray, List.getElem_cons_succ, List.getElem_cons_zero]; with_reducible rfl))
      apply txt_pure rfl rfl rfl; (· (intro w; go_simp; with_reducible rfl)); (· (simp only [Act.put, Act.eval, List.setIfInBounds_toArray, List.set_cons_zero, List.set_cons_succ, Array.getD_eq_getD_getElem?, List.getElem?_toArray, List.getElem?_cons_zero, List.getElem?_cons_succ, Option.getD_some, List.getElem_toArray, List.getElem_cons_succ, List.getElem_cons_zero]; with_reducible rfl))
      apply txt_pure rfl rfl rfl; (· (intro w; go_simp; with_reducible rfl)); (· (simp only [Act.put, Act.eval, List.setIfInBounds_toArray, List.set_cons_zero, List.set_cons_succ, Array.getD_eq_getD_getElem?, List.getElem?_toArray, List.getElem?_cons_zero, List.getElem?_cons_succ, Option.getD_some, List.getElem_toArray, List.getElem_cons_succ, List.getElem_cons_zero]; with_reducible rfl))
      apply txt_read rfl rfl rfl; (· (go_simp; with_reducible rfl)); (· (simp only [Act.put, Act.eval, List.setIfInBounds_toArray, List.set_cons_zero, List.set_cons_succ, Array.getD_eq_getD_getElem?, List.getElem?_toArray, List.getElem?_cons_zero, List.getElem?_cons_succ, Option.getD_some, List.getElem_toArray, List.getElem_cons_succ, List.getElem_cons_zero]; with_reducible rfl))
      apply txt_pure rfl rfl rfl; (· (intro w; go_simp; with_reducible rfl)); (· (simp only [Act.put, Act.eval, List.setIfInBounds_toArray, List.set_cons_zero, List.set_cons_succ, Array.getD_eq_getD_getElem?, List.getElem?_toArray, List.getElem?_cons_zero, List.getElem?_cons_succ, Option.getD_some, List.getElem_toArray, List.getElem_cons_succ, List.getElem_cons_zero]; with_reducible rfl))
      with_reducible refine txt_nil ?_
      go_wp2
      refine bodyPost_ret (v := .tuple #[.string ⟨#[]⟩, .bool false]) (by simp [results, Try.results19, go_sem]) rfl ⟨?_, ?_⟩
      · unfold putG; rw [hTe.out, hnH.out, if_neg (by omega)]; rfl
      · have hpk : putK most S k x = (k, x) :: S := by unfold putK; rw [hTe.out, List.take_of_length_le (by rw [List.length_cons, hnH.out]; omega)]
        exact ⟨_, by rw [hpk]; exact h5H.out.drew, fun g hg => by cases hg; exact hw14.out, hk05.out.drew⟩
    · have hfit' : ¬ (1 : Int) + (n : Int) ≤ (most : Int) := by omega
      have hfit2 : ¬ ((1 + n : Nat) : Int) ≤ (most : Int) := by omega
      have hnm : Hid (n = most) := Lib.hid (by omega)
      have hST : Hid (S = S) := Lib.hid (by first | rfl | exact hTy.out (by rw [hnH.out]; omega))
      refine Rt.wp_region_text [0, 0, 0, 1, 0, 0, 0, 0, 1, 0] (by kernel_rfl) (by kernel_rfl) ?_
      apply txt_move rfl rfl; (· (simp only [Act.put, Act.eval, List.setIfInBounds_toArray, List.set_cons_zero, List.set_cons_succ, Array.getD_eq_getD_getElem?, List.getElem?_toArray, List.getElem?_cons_zero, List.getElem?_cons_succ, Option.getD_some, List.getElem_toArray, List.getElem_cons_succ, List.getElem_cons_zero]; with_reducible rfl))
      apply txt_pure rfl rfl rfl; (· (intro w; go_simp; with_reducible rfl)); (· (simp only [Act.put, Act.eval, List.setIfInBounds_toArray, List.set_cons_zero, List.set_cons_succ, Array.getD_eq_getD_getElem?, List.getElem?_toArray, List.getElem?_cons_zero, List.getElem?_cons_succ, Option.getD_some, List.getElem_toArray, List.getElem_cons_succ, List.getElem_cons_zero]; with_reducible rfl))
      apply txt_pure rfl rfl rfl; (· (intro w; go_simp; with_reducible rfl)); (· (simp only [Act.put, Act.eval, List.setIfInBounds_toArray, List.set_cons_zero, List.set_cons_succ, Array.getD_eq_getD_getElem?, List.getElem?_toArray, List.getElem?_cons_zero, List.getElem?_cons_succ, Option.getD_some, List.getElem_toArray, List.getElem_cons_succ, List.getElem_cons_zero]; with_reducible rfl))
      apply txt_read rfl rfl rfl; (· (go_simp; with_reducible rfl)); (· (simp only [Act.put, Act.eval, List.setIfInBounds_toArray, List.set_cons_zero, List.set_cons_succ, Array.getD_eq_getD_getElem?, List.getElem?_toArray, List.getElem?_cons_zero, List.getElem?_cons_succ, Option.getD_some, List.getElem_toArray, List.getElem_cons_succ, List.getElem_cons_zero]; with_reducible rfl))
      apply txt_pure rfl rfl rfl; (· (intro w; go_simp; with_reducible rfl)); (· (simp only [Act.put, Act.eval, List.setIfInBounds_toArray, List.set_cons_zero, List.set_cons_succ, Array.getD_eq_getD_getElem?, List.getElem?_toArray, List.getElem?_cons_zero, List.getElem?_cons_succ, Option.getD_some, List.getElem_toArray, List.getElem_cons_succ, List.getElem_cons_zero]; with_reducible rfl))
      apply txt_move rfl rfl; (· (simp only [Act.put, Act.eval, List.setIfInBounds_toArray, List.set_cons_zero, List.set_cons_succ, Array.getD_eq_getD_getElem?, List.getElem?_toArray, List.getElem?_cons_zero, List.getElem?_cons_succ, Option.getD_some, List.getElem_toArray, List.getElem_cons_succ, List.getElem_cons_zero]; with_reducible rfl))
      apply txt_pure rfl rfl rfl; (· (intro w; go_simp; with_reducible rfl)); (· (simp only [Act.put, Act.eval, List.setIfInBounds_toArray, List.set_cons_zero, List.set_cons_succ, Array.getD_eq_getD_getElem?, List.getElem?_toArray, List.getElem?_cons_zero, List.getElem?_cons_succ, Option.getD_some, List.getElem_toArray, List.getElem_cons_succ, List.getElem_cons_zero]; with_reducible rfl))
      apply txt_pure rfl rfl rfl; (· (intro w; go_simp; with_reducible rfl)); (· (simp only [Act.put, Act.eval, List.setIfInBounds_toArray, List.set_cons_zero, List.set_cons_succ, Array.getD_eq_getD_getElem?, List.getElem?_toArray, List.getElem?_cons_zero, List.getElem?_cons_succ, Option.getD_some, List.getElem_toArray, List.getElem_cons_succ, List.getElem_cons_zero]; with_reducible rfl))
      apply txt_read rfl rfl rfl; (· (go_simp; with_reducible rfl)); (· (simp only [Act.put, Act.eval, List.setIfInBounds_toArray, List.set_cons_zero, List.set_cons_succ, Array.getD_eq_getD_getElem?, List.getElem?_toArray, List.getElem?_cons_zero, List.getElem?_cons_succ, Option.getD_some, List.getElem_toArray, List.getElem_cons_succ, List.getElem_cons_zero]; with_reducible rfl))
      apply txt_pure rfl rfl rfl; (· (intro w; go_simp; with_reducible rfl)); (· (simp only [Act.put, Act.eval, List.setIfInBounds_toArray, List.set_cons_zero, List.set_cons_succ, Array.getD_eq_getD_getElem?, List.getElem?_toArray, List.getElem?_cons_zero, List.getElem?_cons_succ, Option.getD_some, List.getElem_toArray, List.getElem_cons_succ, List.getElem_cons_zero]; with_reducible rfl))
      with_reducible refine txt_nil ?_
      obtain ⟨b9, off9, e9, q1, q2⟩ := h5H.out.row.at n (by simp [hnH.out])
      cases e9
      rw [Nat.zero_add] at q1
      have hcp : 1 + n ≤ cap4 := by obtain ⟨a', c', hv', hl', _⟩ := h5H.out.row; injection hv' with z1 z2 z3; simp [hnH.out] at hl'; omega
      have hcp' : (n : Int) ≤ cap4 := by omega
      have hcp2 : (n : Int) < 1 + n := by omega
      have e10 : (1 : Int) + (n : Int) - 1 = (n : Int) := by omega
      have e11 : (((1 + n : Nat) : Int)) - 1 = (n : Int) := by omega
      have hw10 := Tb.wr (show -9223372036854775808 ≤ (n : Int) by omega) (by omega)
      obtain ⟨y, hy⟩ : ∃ y, (gk ((k, x) :: S) n).1 = y := ⟨_, rfl⟩
      rw [hy] at q1
      have hyH := Lib.hid hy
      clear q2 hy
      go_upto_region 8 with (fail)
      refine Rt.wp_region_text [0, 0, 0, 1, 0, 0, 0, 1, 0, 0, 0, 0, 1, 0] (by kernel_rfl) (by kernel_rfl) ?_
      apply txt_move rfl rfl; (· (simp only [Act.put, Act.eval, List.setIfInBounds_toArray, List.set_cons_zero, List.set_cons_succ, Array.getD_eq_getD_getElem?, List.getElem?_toArray, List.getElem?_cons_zero, List.getElem?_cons_succ, Option.getD_some, List.getElem_toArray, List.getElem_cons_succ, List.getElem_cons_zero]; with_reducible rfl))
      apply txt_pure rfl rfl rfl; (· (intro w; go_simp; with_reducible rfl)); (· (simp only [Act.put, Act.eval, List.setIfInBounds_toArray, List.set_cons_zero, List.set_cons_succ, Array.getD_eq_getD_getElem?, List.getElem?_toArray, List.getElem?_cons_zero, List.getElem?_cons_succ, Option.getD_some, List.getElem_toArray, List.getElem_cons_succ, List.getElem_cons_zero]; with_reducible rfl))
      apply txt_pure rfl rfl rfl; (· (intro w; go_simp; with_reducible rfl)); (· (simp only [Act.put, Act.eval, List.setIfInBounds_toArray, List.set_cons_zero, List.set_cons_succ, Array.getD_eq_getD_getElem?, List.getElem?_toArray, List.getElem?_cons_zero, List.getElem?_cons_succ, Option.getD_some, List.getElem_toArray, List.getElem_cons_succ, List.getElem_cons_zero]; with_reducible rfl))
      apply txt_read rfl rfl rfl; (· (go_simp; with_reducible rfl)); (· (simp only [Act.put, Act.eval, List.setIfInBounds_toArray, List.set_cons_zero, List.set_cons_succ, Array.getD_eq_getD_getElem?, List.getElem?_toArray, List.getElem?_cons_zero, List.getElem?_cons_succ, Option.getD_some, List.getElem_toArray, List.getElem_cons_succ, List.getElem_cons_zero]; with_reducible rfl))
      apply txt_move rfl rfl; (· (simp only [Act.put, Act.eval, List.setIfInBounds_toArray, List.set_cons_zero, List.set_cons_succ, Array.getD_eq_getD_getElem?, List.getElem?_toArray, List.getElem?_cons_zero, List.getElem?_cons_succ, Option.getD_some, List.getElem_toArray, List.getElem_cons_succ, List.getElem_cons_zero]; with_reducible rfl))
      apply txt_pure rfl rfl rfl; (· (intro w; go_simp; with_reducible rfl)); (· (simp only [Act.put, Act.eval, List.setIfInBounds_toArray, List.set_cons_zero, List.set_cons_succ, Array.getD_eq_getD_getElem?, List.getElem?_toArray, List.getElem?_cons_zero, List.getElem?_cons_succ, Option.getD_some, List.getElem_toArray, List.getElem_cons_succ, List.getElem_cons_zero]; with_reducible rfl))
      apply txt_pure rfl rfl rfl; (· (intro w; go_simp; with_reducible rfl)); (· (simp only [Act.put, Act.eval, List.setIfInBounds_toArray, List.set_cons_zero, List.set_cons_succ, Array.getD_eq_getD_getElem?, List.getElem?_toArray, List.getElem?_cons_zero, List.getElem?_cons_succ, Option.getD_some, List.getElem_toArray, List.getElem_cons_succ, List.getElem_cons_zero]; with_reducible rfl))
      apply txt_read rfl rfl rfl; (· (go_simp; with_reducible rfl)); (· (simp only [Act.put, Act.eval, List.setIfInBounds_toArray, List.set_cons_zero, List.set_cons_succ, Array.getD_eq_getD_getElem?, List.getElem?_toArray, List.getElem?_cons_zero, List.getElem?_cons_succ, Option.getD_some, List.getElem_toArray, List.getElem_cons_succ, List.getElem_cons_zero]; with_reducible rfl))
      apply txt_pure rfl rfl rfl; (· (intro w; go_simp; with_reducible rfl)); (· (simp only [Act.put, Act.eval, List.setIfInBounds_toArray, List.set_cons_zero, List.set_cons_succ, Array.getD_eq_getD_getElem?, List.getElem?_toArray, List.getElem?_cons_zero, List.getElem?_cons_succ, Option.getD_some, List.getElem_toArray, List.getElem_cons_succ, List.getElem_cons_zero]; with_reducible rfl))
      apply txt_pure rfl rfl rfl; (· (intro w; go_simp; with_reducible rfl)); (· (simp only [Act.put, Act.eval, List.setIfInBounds_toArray, List.set_cons_zero, List.set_cons_succ, Array.getD_eq_getD_getElem?, List.getElem?_toArray, List.getElem?_cons_zero, List.getElem?_cons_succ, Option.getD_some, List.getElem_toArray, List.getElem_cons_succ, List.getElem_cons_zero]; with_reducible rfl))
      apply txt_pure rfl rfl rfl; (· (intro w; go_simp; with_reducible rfl)); (· (simp only [Act.put, Act.eval, List.setIfInBounds_toArray, List.set_cons_zero, List.set_cons_succ, Array.getD_eq_getD_getElem?, List.getElem?_toArray, List.getElem?_cons_zero, List.getElem?_cons_succ, Option.getD_some, List.getElem_toArray, List.getElem_cons_succ, List.getElem_cons_zero]; with_reducible rfl))
      apply txt_pure rfl rfl rfl; (· (intro w; go_simp; with_reducible rfl)); (· (simp only [Act.put, Act.eval, List.setIfInBounds_toArray, List.set_cons_zero, List.set_cons_succ, Array.getD_eq_getD_getElem?, List.getElem?_toArray, List.getElem?_cons_zero, List.getElem?_cons_succ, Option.getD_some, List.getElem_toArray, List.getElem_cons_succ, List.getElem_cons_zero]; with_reducible rfl))
      apply txt_read rfl rfl rfl; (· (go_simp; with_reducible rfl)); (· (simp only [Act.put, Act.eval, List.setIfInBounds_toArray, List.set_cons_zero, List.set_cons_succ, Array.getD_eq_getD_getElem?, List.getElem?_toArray, List.getElem?_cons_zero, List.getElem?_cons_succ, Option.getD_some, List.getElem_toArray, List.getElem_cons_succ, List.getElem_cons_zero]; with_reducible rfl))
      apply txt_assign rfl rfl; (· (simp only [Act.put, Act.eval, List.setIfInBounds_toArray, List.set_cons_zero, List.set_cons_succ, Array.getD_eq_getD_getElem?, List.getElem?_toArray, List.getElem?_cons_zero, List.getElem?_cons_succ, Option.getD_some, List.getElem_toArray, List.getElem_cons_succ, List.getElem_cons_zero]; with_reducible rfl))
      with_reducible refine txt_nil ?_
      go_upto_region 9 with (fail)
      refine Rt.wp_region_text [0, 0, 0, 0, 1, 0, 0, 0, 1, 0, 0, 0, 0, 0, 2] (by kernel_rfl) (by kernel_rfl) ?_
      apply txt_move rfl rfl; (· (simp only [Act.put, Act.eval, List.setIfInBounds_toArray, List.set_cons_zero, List.set_cons_succ, Array.getD_eq_getD_getElem?, List.getElem?_toArray, List.getElem?_cons_zero, List.getElem?_cons_succ, Option.getD_some, List.getElem_toArray, List.getElem_cons_succ, List.getElem_cons_zero]; with_reducible rfl))
      apply txt_move rfl rfl; (· (simp only [Act.put, Act.eval, List.setIfInBounds_toArray, List.set_cons_zero, List.set_cons_succ, Array.getD_eq_getD_getElem?, List.getElem?_toArray, List.getElem?_cons_zero, List.getElem?_cons_succ, Option.getD_some, List.getElem_toArray, List.getElem_cons_succ, List.getElem_cons_zero]; with_reducible rfl))
      apply txt_pure rfl rfl rfl; (· (intro w; go_simp; with_reducible rfl)); (· (simp only [Act.put, Act.eval, List.setIfInBounds_toArray, List.set_cons_zero, List.set_cons_succ, Array.getD_eq_getD_getElem?, List.getElem?_toArray, List.getElem?_cons_zero, List.getElem?_cons_succ, Option.getD_some, List.getElem_toArray, List.getElem_cons_succ, List.getElem_cons_zero]; with_reducible rfl))
      apply txt_pure rfl rfl rfl; (· (intro w; go_simp; with_reducible rfl)); (· (simp only [Act.put, Act.eval, List.setIfInBounds_toArray, List.set_cons_zero, List.set_cons_succ, Array.getD_eq_getD_getElem?, List.getElem?_toArray, List.getElem?_cons_zero, List.getElem?_cons_succ, Option.getD_some, List.getElem_toArray, List.getElem_cons_succ, List.getElem_cons_zero]; with_reducible rfl))
      apply txt_read rfl rfl rfl; (· (go_simp; with_reducible rfl)); (· (simp only [Act.put, Act.eval, List.setIfInBounds_toArray, List.set_cons_zero, List.set_cons_succ, Array.getD_eq_getD_getElem?, List.getElem?_toArray, List.getElem?_cons_zero, List.getElem?_cons_succ, Option.getD_some, List.getElem_toArray, List.getElem_cons_succ, List.getElem_cons_zero]; with_reducible rfl))
      apply txt_move rfl rfl; (· (simp only [Act.put, Act.eval, List.setIfInBounds_toArray, List.set_cons_zero, List.set_cons_succ, Array.getD_eq_getD_getElem?, List.getElem?_toArray, List.getElem?_cons_zero, List.getElem?_cons_succ, Option.getD_some, List.getElem_toArray, List.getElem_cons_succ, List.getElem_cons_zero]; with_reducible rfl))
      apply txt_pure rfl rfl rfl; (· (intro w; go_simp; with_reducible rfl)); (· (simp only [Act.put, Act.eval, List.setIfInBounds_toArray, List.set_cons_zero, List.set_cons_succ, Array.getD_eq_getD_getElem?, List.getElem?_toArray, List.getElem?_cons_zero, List.getElem?_cons_succ, Option.getD_some, List.getElem_toArray, List.getElem_cons_succ, List.getElem_cons_zero]; with_reducible rfl))
      apply txt_pure rfl rfl rfl; (· (intro w; go_simp; with_reducible rfl)); (· (simp only [Act.put, Act.eval, List.setIfInBounds_toArray, List.set_cons_zero, List.set_cons_succ, Array.getD_eq_getD_getElem?, List.getElem?_toArray, List.getElem?_cons_zero, List.getElem?_cons_succ, Option.getD_some, List.getElem_toArray, List.getElem_cons_succ, List.getElem_cons_zero]; with_reducible rfl))
      apply txt_read rfl rfl rfl; (· (go_simp; with_reducible rfl)); (· (simp only [Act.put, Act.eval, List.setIfInBounds_toArray, List.set_cons_zero, List.set_cons_succ, Array.getD_eq_getD_getElem?, List.getElem?_toArray, List.getElem?_cons_zero, List.getElem?_cons_succ, Option.getD_some, List.getElem_toArray, List.getElem_cons_succ, List.getElem_cons_zero]; with_reducible rfl))
      apply txt_pure rfl rfl rfl; (· (intro w; go_simp; with_reducible rfl)); (· (simp only [Act.put, Act.eval, List.setIfInBounds_toArray, List.set_cons_zero, List.set_cons_succ, Array.getD_eq_getD_getElem?, List.getElem?_toArray, List.getElem?_cons_zero, List.getElem?_cons_succ, Option.getD_some, List.getElem_toArray, List.getElem_cons_succ, List.getElem_cons_zero]; with_reducible rfl))
      apply txt_pure rfl rfl rfl; (· (intro w; go_simp; with_reducible rfl)); (· (simp only [Act.put, Act.eval, List.setIfInBounds_toArray, List.set_cons_zero, List.set_cons_succ, Array.getD_eq_getD_getElem?, List.getElem?_toArray, List.getElem?_cons_zero, List.getElem?_cons_succ, Option.getD_some, List.getElem_toArray, List.getElem_cons_succ, List.getElem_cons_zero]; with_reducible rfl))
      apply txt_pure rfl rfl rfl; (· (intro w; go_simp; with_reducible rfl)); (· (simp only [Act.put, Act.eval, List.setIfInBounds_toArray, List.set_cons_zero, List.set_cons_succ, Array.getD_eq_getD_getElem?, List.getElem?_toArray, List.getElem?_cons_zero, List.getElem?_cons_succ, Option.getD_some, List.getElem_toArray, List.getElem_cons_succ, List.getElem_cons_zero]; with_reducible rfl))
      apply txt_pure rfl rfl rfl; (· (intro w; go_simp; with_reducible rfl)); (· (simp only [Act.put, Act.eval, List.setIfInBounds_toArray, List.set_cons_zero, List.set_cons_succ, Array.getD_eq_getD_getElem?, List.getElem?_toArray, List.getElem?_cons_zero, List.getElem?_cons_succ, Option.getD_some, List.getElem_toArray, List.getElem_cons_succ, List.getElem_cons_zero]; with_reducible rfl))
      apply txt_pure rfl rfl rfl; (· (intro w; go_simp; with_reducible rfl)); (· (simp only [Act.put, Act.eval, List.setIfInBounds_toArray, List.set_cons_zero, List.set_cons_succ, Array.getD_eq_getD_getElem?, List.getElem?_toArray, List.getElem?_cons_zero, List.getElem?_cons_succ, Option.getD_some, List.getElem_toArray, List.getElem_cons_succ, List.getElem_cons_zero]; with_reducible rfl))
      apply txt_do rfl rfl rfl; (· (go_simp; with_reducible rfl)); (· (simp only [Act.put, Act.eval, List.setIfInBounds_toArray, List.set_cons_zero, List.set_cons_succ, Array.getD_eq_getD_getElem?, List.getElem?_toArray, List.getElem?_cons_zero, List.getElem?_cons_succ, Option.getD_some, List.getElem_toArray, List.getElem_cons_succ, List.getElem_cons_zero]; with_reducible rfl))
      with_reducible refine txt_nil ?_
      go_wp2
      have hpk : putK most S k x = ((k, x) :: S).take n := by unfold putK; rw [hTe.out, hnm.out]
      have hpg : putG most S k = some y := by
        unfold putG
        have hSTe : S = S := by first | rfl | exact hST.out
        rw [hTe.out, hnH.out, if_pos (by omega), hSTe, ← hyH.out, ← hnH.out]
        exact gk_last (k, x) (by rw [hnH.out]; omega)
      obtain ⟨r7, r8⟩ := (h5H.out).put (Below.refl _ _) (v' := .slice (some ⟨g4, 0, none⟩) n cap4) (RowK.shorter h5H.out.row (m := n) (by simp [hnH.out])) h5H.out.sep
      refine bodyPost_ret (v := .tuple #[.string y, .bool true]) (by simp [results, Try.results19, go_sem]) rfl ⟨by rw [hpg]; rfl, ?_⟩
      exact ⟨_, by rw [hpk]; exact r7.drew.drew.drew, fun g hg => by cases hg; exact hw14.out, (hk05.out.trans r8).drew.drew.drew⟩
  · obtain ⟨e1, e2⟩ := at_yes hd hi
    have hi' : (0 : Int) ≤ (i : Int) := by omega
    rw [hgk] at e1
    have hTe : Hid (delK S k = S.take i ++ S.drop (i + 1)) := Lib.hid e1
    have hTl : (S.take i ++ S.drop (i + 1)).length + 1 ≤ most := by simp; omega
    have hwo := Lib.hid (without_any hH.out (by omega) hi)
    obtain ⟨T, hT⟩ : ∃ T, S.take i ++ S.drop (i + 1) = T := ⟨_, rfl⟩
    rw [hT] at hTe hTl hwo
    have hTy : Hid (most < T.length + 1 → S = T) := Lib.hid (fun h => by omega)
    have hib : (i : Int) < 1099511627776 := by omega
    clear e1 e2 hno hfind hd hT hgk
    go_wp2_with fail
    refine hwo.out.mono ?_
    rintro e w2 ⟨v2, rfl, hr2, hb2, hv2⟩
    have hsep2 : v2.ownBlock ≠ some p := fun e => by have := hv2 p e; have := hH.out.lt; omega
    obtain ⟨r1, r2⟩ := hH.out.put hb2 hr2 hsep2
    have c2 := (hb2.cell (p := ⟨p, 1, none⟩) hH.out.lt).trans c1
    have f2 := (hb2.frozen (p := ⟨p, 1, none⟩) hH.out.lt).trans f1
    obtain ⟨a9, c9, hv9, _⟩ := hr2
    subst hv9
    obtain ⟨n9, hn9⟩ : ∃ n, T.length = n := ⟨_, rfl⟩
    rw [hn9] at r1 r2
    have hn9H := Lib.hid hn9
    rw [hn9]
    clear hn9
    obtain ⟨w3, hw3⟩ : ∃ W, w2.setCell ⟨p, 1, none⟩ (.slice a9 n9 c9) = W := ⟨_, rfl⟩
    rw [hw3] at r1 r2
    have hw3H := Lib.hid hw3
    have h2 := r1
    have hk2 := Lib.hid r2
    replace hTl : T.length ≤ most := by omega
    clear hwo hb2 hv2 r1 r2 c1 f1 hw3
    go_upto_region 4 with (fail)
    rw [hw3H.out]
    obtain ⟨v3, hv3⟩ : ∃ v, Value.slice a9 n9 c9 = v := ⟨_, rfl⟩
    rw [hv3] at h2
    clear hv3 c2 f2
    have hlt2 := h2.lt
    have hs2 := hk2.out.size
    obtain ⟨a2, c2, hv2e, hlc2, hcm2, hnn2, hrest2⟩ := h2.row
    have hb3 : Below w3.heap.size w3 (w3.alloc (.cells #[.string k, .int .i64 x] 101)) := (Below.refl _ _).alloc (Nat.le_refl _) _
    have h3 := h2.below hb3
    have hn3 := own_new w3 k x
    obtain ⟨W3, hW3⟩ : ∃ W, w3.alloc (.cells #[.string k, .int .i64 x] 101) = W := ⟨_, rfl⟩
    obtain ⟨g3, hg3⟩ : ∃ g, w3.heap.size = g := ⟨_, rfl⟩
    rw [hW3] at hb3 h3 hn3
    have hs3 : w3.heap.size + 1 = W3.heap.size := by rw [← hW3]; simp
    rw [hg3] at hn3
    have hW3H := Lib.hid hW3
    have hg3H := Lib.hid hg3
    obtain ⟨n, hn⟩ : ∃ n, T.length = n := ⟨_, rfl⟩
    rw [hn] at hTl hlc2 hv2e
    subst hv2e
    have c3 := h3.c1
    have f3 := h3.fr 1
    have h3H := Lib.hid h3
    have hnH := Lib.hid hn
    have hb3H := Lib.hid hb3
    have h2H := Lib.hid h2
    have hcel : Hid (0 < n → ∃ b off, a2 = some ⟨b, off, none⟩ ∧ ∀ j u, (kvCells T)[j]? = some u → W3.cell? ⟨b, off + j, none⟩ = some u) := Lib.hid (fun h0 => by
      obtain ⟨b, off, e, hb, hc⟩ := hrest2 (by rw [hn]; exact h0)
      exact ⟨b, off, e, fun j u hj => (hb3.cell (p := ⟨b, off + j, none⟩) hb).trans (hc j u hj)⟩)
    have hmx : n ≤ 100000 := by omega
    have hgb : g3 ≤ W3.heap.size := by omega
    clear hW3 hg3 h3 hn hrest2 hb3 h2
    go_upto_region 5 with (fail)
    rw [hW3H.out, hg3H.out]
    go_wp2_with (at_builtin; refine wpList_app_kv rfl (.tmp 27) (.tmp 31) rfl rfl hn3 hgb (T := T) rfl hnH.out.symm (fun e => ⟨hnn2 e, by have := hnn2 e; omega⟩) (fun h0 => hcel.out (by rw [← hnH.out]; exact h0)) (by rw [hnH.out]; omega) ?_; intro v4 w4 hown4 hgrow4 hat4; have hb4 : Below w3.heap.size w3 w4 := hb3H.out.grown hgrow4 (by omega) (fun y hy => by cases hy; rw [hg3H.out]; exact Nat.le_refl _); have hc4 := (hb4.cell (p := ⟨p, 1, none⟩) hlt2).trans h2H.out.c1; have hf4 := (hb4.frozen (p := ⟨p, 1, none⟩) hlt2).trans (h2H.out.fr 1); rw [← kvCells_append] at hown4; rw [hnH.out] at hown4; obtain ⟨g4, cap4, rfl⟩ : ∃ g4 cap4, v4 = .slice (some ⟨g4, 0, none⟩) (1 + n) cap4 := (by rw [Nat.add_comm] at hown4 ⊢; exact ownsRow_succ hown4); clear hgrow4 hat4)
    have hsep4 : (Value.slice (some ⟨g4, 0, none⟩) (1 + n) cap4).ownBlock ≠ some p := fun e => by have := (hown4.lt p e).1; have := hg3H.out; omega
    obtain ⟨r5, r6⟩ := h2H.out.put hb4 (RowK.of_row (S := [(k, x)] ++ T) hown4 (by simp [hnH.out]; omega) rfl) hsep4
    have hg4 : Hid (g3 ≤ g4) := Lib.hid (hown4.lt g4 rfl).1
    obtain ⟨W5, hW5⟩ : ∃ W, w4.setCell ⟨p, 1, none⟩ (.slice (some ⟨g4, 0, none⟩) (1 + n) cap4) = W := ⟨_, rfl⟩
    have hk5 : Kept (fun y => y = p) w3 W5 := hW5 ▸ r6
    have h5 : RefK W5 p (most : Int) (.slice (some ⟨g4, 0, none⟩) (1 + n) cap4) ((k, x) :: T) := hW5 ▸ r5
    have hW5H := Lib.hid hW5
    have h5H := Lib.hid h5
    have k1 := h5.c1
    have k0 := h5.c0
    have kf := h5.fr 1
    have hk05 := Lib.hid (hk2.out.trans hk5)
    have hw14 : Hid (w1.heap.size ≤ g4) := Lib.hid (by have := hg4.out; have := hg3H.out; omega)
    clear r5 r6 hb4 hown4 hc4 hf4 hsep4 hn3 hgb c3 f3 h5 hW5 hk5
    go_upto_region 6 with (fail)
    rw [hW5H.out]
    by_cases hfit : 1 + n ≤ most
    · have hfit' : (1 : Int) + (n : Int) ≤ (most : Int) := by omega
      have hfit2 : ((1 + n : Nat) : Int) ≤ (most : Int) := by omega
      refine Rt.wp_region_text [0, 0, 0, 1, 0, 0, 0, 0, 1, 0] (by kernel_rfl) (by kernel_rfl) ?_
      apply txt_move rfl rfl; (· (simp only [Act.put, Act.eval, List.setIfInBounds_toArray, List.set_cons_zero, List.set_cons_succ, Array.getD_eq_getD_getElem?, List.getElem?_toArray, List.getElem?_cons_zero, List.getElem?_cons_succ, Option.getD_some, List.getElem_toArray, List.getElem_cons_succ, List.getElem_cons_zero]; with_reducible rfl))
      apply txt_pure rfl rfl rfl; (· (intro w; go_simp; with_reducible rfl)); (· (simp only [Act.put, Act.eval, List.setIfInBounds_toArray, List.set_cons_zero, List.set_cons_succ, Array.getD_eq_getD_getElem?, List.getElem?_toArray, List.getElem?_cons_zero, List.getElem?_cons_succ, Option.getD_some, List.getElem_toArray, List.getElem_cons_succ, List.getElem_cons_zero]; with_reducible rfl))
      apply txt_pure rfl rfl rfl; (· (intro w; go_simp; with_reducible rfl)); (· (simp only [Act.put, Act.eval, List.setIfInBounds_toArray, List.set_cons_zero, List.set_cons_succ, Array.getD_eq_getD_getElem?, List.getElem?_toArray, List.getElem?_cons_zero, List.getElem?_cons_succ, Option.getD_some, List.getElem_toArray, List.getElem_cons_succ, List.getElem_cons_zero]; with_reducible rfl))
      apply txt_read rfl rfl rfl; (· (go_simp; with_reducible rfl)); (· (simp only [Act.put, Act.eval, List.setIfInBounds_toArray, List.set_cons_zero, List.set_cons_succ, Array.getD_eq_getD_getElem?, List.getElem?_toArray, List.getElem?_cons_zero, List.getElem?_cons_succ, Option.getD_some, List.getElem_toArray, List.getElem_cons_succ, List.getElem_cons_zero]; with_reducible rfl))
      apply txt_pure rfl rfl rfl; (· (intro w; go_simp; with_reducible rfl)); (· (simp only [Act.put, Act.eval, List.setIfInBounds_toArray, List.set_cons_zero, List.set_cons_succ, Array.getD_eq_getD_getElem?, List.getElem?_toArray, List.getElem?_cons_zero, List.getElem?_cons_succ, Option.getD_some, List.getElem_toArray, List.getElem_cons_succ, List.getElem_cons_zero]; with_reducible rfl))
      apply txt_move rfl rfl; (· (simp only [Act.put, Act.eval, List.setIfInBounds_toArray, List.set_cons_zero, List.set_cons_succ, Array.getD_eq_getD_getElem?, List.getElem?_toArray, List.getElem?_cons_zero, List.getElem?_cons_succ, Option.getD_some, List.getElem_toArray, List.getElem_cons_succ, List.getElem_cons_zero]; with_reducible rfl))
      apply txt_pure rfl rfl rfl; (· (intro w; go_simp; with_reducible rfl)); (· (simp only [Act.put, Act.eval, List.setIfInBounds_toArray, List.set_cons_zero, List.set_cons_succ, Array.getD_eq_getD_getElem?, List.getElem?_toArray, List.getElem?_cons_zero, List.getElem?_cons_succ, Option.getD_some, List.getElem_toArray, List.getElem_cons_succ, List.getElem_cons_zero]; with_reducible rfl))
      apply txt_pure rfl rfl rfl; (· (intro w; go_simp; with_reducible rfl)); (· (simp only [Act.put, Act.eval, List.setIfInBounds_toArray, List.set_cons_zero, List.set_cons_succ, Array.getD_eq_getD_getElem?, List.getElem?_toArray, List.getElem?_cons_zero, List.getElem?_cons_succ, Option.getD_some, List.getElem_toArray, List.getElem_cons_succ, List.getElem_cons_zero]; with_reducible rfl))
      apply txt_read rfl rfl rfl; (· (go_simp; with_reducible rfl)); (· (simp only [Act.put, Act.eval, List.setIfInBounds_toArray, List.set_cons_zero, List.set_cons_succ, Array.getD_eq_getD_getElem?, List.getElem?_toArray, List.getElem?_cons_zero, List.getElem?_cons_succ, Option.getD_some, List.getElem_toArray, List.getElem_cons_succ, List.getElem_cons_zero]; with_reducible rfl))
      apply txt_pure rfl rfl rfl; (· (intro w; go_simp; with_reducible rfl)); (· (simp only [Act.put, Act.eval, List.setIfInBounds_toArray, List.set_cons_zero, List.set_cons_succ, Array.getD_eq_getD_getElem?, List.getElem?_toArray, List.getElem?_cons_zero, List.getElem?_cons_succ, Option.getD_some, List.getElem_toArray, List.getElem_cons_succ, List.getElem_cons_zero]; with_reducible rfl))
      with_reducible refine txt_nil ?_
      go_wp2
      refine bodyPost_ret (v := .tuple #[.string ⟨#[]⟩, .bool false]) (by simp [results, Try.results19, go_sem]) rfl ⟨?_, ?_⟩
      · unfold putG; rw [hTe.out, hnH.out, if_neg (by omega)]; rfl
      · have hpk : putK most S k x = (k, x) :: T := by unfold putK; rw [hTe.out, List.take_of_length_le (by rw [List.length_cons, hnH.out]; omega)]
        exact ⟨_, by rw [hpk]; exact h5H.out.drew, fun g hg => by cases hg; exact hw14.out, hk05.out.drew⟩
    · have hfit' : ¬ (1 : Int) + (n : Int) ≤ (most : Int) := by omega
      have hfit2 : ¬ ((1 + n : Nat) : Int) ≤ (most : Int) := by omega
      have hnm : Hid (n = most) := Lib.hid (by omega)
      have hST : Hid (S = T) := Lib.hid (by first | rfl | exact hTy.out (by rw [hnH.out]; omega))
      refine Rt.wp_region_text [0, 0, 0, 1, 0, 0, 0, 0, 1, 0] (by kernel_rfl) (by kernel_rfl) ?_
      apply txt_move rfl rfl; (· (simp only [Act.put, Act.eval, List.setIfInBounds_toArray, List.set_cons_zero, List.set_cons_succ, Array.getD_eq_getD_getElem?, List.getElem?_toArray, List.getElem?_cons_zero, List.getElem?_cons_succ, Option.getD_some, List.getElem_toArray, List.getElem_cons_succ, List.getElem_cons_zero]; with_reducible rfl))
      apply txt_pure rfl rfl rfl; (· (intro w; go_simp; with_reducible rfl)); (· (simp only [Act.put, Act.eval, List.setIfInBounds_toArray, List.set_cons_zero, List.set_cons_succ, Array.getD_eq_getD_getElem?, List.getElem?_toArray, List.getElem?_cons_zero, List.getElem?_cons_succ, Option.getD_some, List.getElem_toArray, List.getElem_cons_succ, List.getElem_cons_zero]; with_reducible rfl))
      apply txt_pure rfl rfl rfl; (· (intro w; go_simp; with_reducible rfl)); (· (simp only [Act.put, Act.eval, List.setIfInBounds_toArray, List.set_cons_zero, List.set_cons_succ, Array.getD_eq_getD_getElem?, List.getElem?_toArray, List.getElem?_cons_zero, List.getElem?_cons_succ, Option.getD_some, List.getElem_toArray, List.getElem_cons_succ, List.getElem_cons_zero]; with_reducible rfl))
      apply txt_read rfl rfl rfl; (· (go_simp; with_reducible rfl)); (· (simp only [Act.put, Act.eval, List.setIfInBounds_toArray, List.set_cons_zero, List.set_cons_succ, Array.getD_eq_getD_getElem?, List.getElem?_toArray, List.getElem?_cons_zero, List.getElem?_cons_succ, Option.getD_some, List.getElem_toArray, List.getElem_cons_succ, List.getElem_cons_zero]; with_reducible rfl))
      apply txt_pure rfl rfl rfl; (· (intro w; go_simp; with_reducible rfl)); (· (simp only [Act.put, Act.eval, List.setIfInBounds_toArray, List.set_cons_zero, List.set_cons_succ, Array.getD_eq_getD_getElem?, List.getElem?_toArray, List.getElem?_cons_zero, List.getElem?_cons_succ, Option.getD_some, List.getElem_toArray, List.getElem_cons_succ, List.getElem_cons_zero]; with_reducible rfl))
      apply txt_move rfl rfl; (· (simp only [Act.put, Act.eval, List.setIfInBounds_toArray, List.set_cons_zero, List.set_cons_succ, Array.getD_eq_getD_getElem?, List.getElem?_toArray, List.getElem?_cons_zero, List.getElem?_cons_succ, Option.getD_some, List.getElem_toArray, List.getElem_cons_succ, List.getElem_cons_zero]; with_reducible rfl))
      apply txt_pure rfl rfl rfl; (· (intro w; go_simp; with_reducible rfl)); (· (simp only [Act.put, Act.eval, List.setIfInBounds_toArray, List.set_cons_zero, List.set_cons_succ, Array.getD_eq_getD_getElem?, List.getElem?_toArray, List.getElem?_cons_zero, List.getElem?_cons_succ, Option.getD_some, List.getElem_toArray, List.getElem_cons_succ, List.getElem_cons_zero]; with_reducible rfl))
      apply txt_pure rfl rfl rfl; (· (intro w; go_simp; with_reducible rfl)); (· (simp only [Act.put, Act.eval, List.setIfInBounds_toArray, List.set_cons_zero, List.set_cons_succ, Array.getD_eq_getD_getElem?, List.getElem?_toArray, List.getElem?_cons_zero, List.getElem?_cons_succ, Option.getD_some, List.getElem_toArray, List.getElem_cons_succ, List.getElem_cons_zero]; with_reducible rfl))
      apply txt_read rfl rfl rfl; (· (go_simp; with_reducible rfl)); (· (simp only [Act.put, Act.eval, List.setIfInBounds_toArray, List.set_cons_zero, List.set_cons_succ, Array.getD_eq_getD_getElem?, List.getElem?_toArray, List.getElem?_cons_zero, List.getElem?_cons_succ, Option.getD_some, List.getElem_toArray, List.getElem_cons_succ, List.getElem_cons_zero]; with_reducible rfl))
      apply txt_pure rfl rfl rfl; (· (intro w; go_simp; with_reducible rfl)); (· (simp only [Act.put, Act.eval, List.setIfInBounds_toArray, List.set_cons_zero, List.set_cons_succ, Array.getD_eq_getD_getElem?, List.getElem?_toArray, List.getElem?_cons_zero, List.getElem?_cons_succ, Option.getD_some, List.getElem_toArray, List.getElem_cons_succ, List.getElem_cons_zero]; with_reducible rfl))
      with_reducible refine txt_nil ?_
      obtain ⟨b9, off9, e9, q1, q2⟩ := h5H.out.row.at n (by simp [hnH.out])
      cases e9
      rw [Nat.zero_add] at q1
      have hcp : 1 + n ≤ cap4 := by obtain ⟨a', c', hv', hl', _⟩ := h5H.out.row; injection hv' with z1 z2 z3; simp [hnH.out] at hl'; omega
      have hcp' : (n : Int) ≤ cap4 := by omega
      have hcp2 : (n : Int) < 1 + n := by omega
      have e10 : (1 : Int) + (n : Int) - 1 = (n : Int) := by omega
      have e11 : (((1 + n : Nat) : Int)) - 1 = (n : Int) := by omega
      have hw10 := Tb.wr (show -9223372036854775808 ≤ (n : Int) by omega) (by omega)
      obtain ⟨y, hy⟩ : ∃ y, (gk ((k, x) :: T) n).1 = y := ⟨_, rfl⟩
      rw [hy] at q1
      have hyH := Lib.hid hy
      clear q2 hy
      go_upto_region 8 with (fail)
      refine Rt.wp_region_text [0, 0, 0, 1, 0, 0, 0, 1, 0, 0, 0, 0, 1, 0] (by kernel_rfl) (by kernel_rfl) ?_
      apply txt_move rfl rfl; (· (simp only [Act.put, Act.eval, List.setIfInBounds_toArray, List.set_cons_zero, List.set_cons_succ, Array.getD_eq_getD_getElem?, List.getElem?_toArray, List.getElem?_cons_zero, List.getElem?_cons_succ, Option.getD_some, List.getElem_toArray, List.getElem_cons_succ, List.getElem_cons_zero]; with_reducible rfl))
      apply txt_pure rfl rfl rfl; (· (intro w; go_simp; with_reducible rfl)); (· (simp only [Act.put, Act.eval, List.setIfInBounds_toArray, List.set_cons_zero, List.set_cons_succ, Array.getD_eq_getD_getElem?, List.getElem?_toArray, List.getElem?_cons_zero, List.getElem?_cons_succ, Option.getD_some, List.getElem_toArray, List.getElem_cons_succ, List.getElem_cons_zero]; with_reducible rfl))
      apply txt_pure rfl rfl rfl; (· (intro w; go_simp; with_reducible rfl)); (· (simp only [Act.put, Act.eval, List.setIfInBounds_toArray, List.set_cons_zero, List.set_cons_succ, Array.getD_eq_getD_getElem?, List.getElem?_toArray, List.getElem?_cons_zero, List.getElem?_cons_succ, Option.getD_some, List.getElem_toArray, List.getElem_cons_succ, List.getElem_cons_zero]; with_reducible rfl))
      apply txt_read rfl rfl rfl; (· (go_simp; with_reducible rfl)); (· (simp only [Act.put, Act.eval, List.setIfInBounds_toArray, List.set_cons_zero, List.set_cons_succ, Array.getD_eq_getD_getElem?, List.getElem?_toArray, List.getElem?_cons_zero, List.getElem?_cons_succ, Option.getD_some, List.getElem_toArray, List.getElem_cons_succ, List.getElem_cons_zero]; with_reducible rfl))
      apply txt_move rfl rfl; (· (simp only [Act.put, Act.eval, List.setIfInBounds_toArray, List.set_cons_zero, List.set_cons_succ, Array.getD_eq_getD_getElem?, List.getElem?_toArray, List.getElem?_cons_zero, List.getElem?_cons_succ, Option.getD_some, List.getElem_toArray, List.getElem_cons_succ, List.getElem_cons_zero]; with_reducible rfl))
      apply txt_pure rfl rfl rfl; (· (intro w; go_simp; with_reducible rfl)); (· (simp only [Act.put, Act.eval, List.setIfInBounds_toArray, List.set_cons_zero, List.set_cons_succ, Array.getD_eq_getD_getElem?, List.getElem?_toArray, List.getElem?_cons_zero, List.getElem?_cons_succ, Option.getD_some, List.getElem_toArray, List.getElem_cons_succ, List.getElem_cons_zero]; with_reducible rfl))
      apply txt_pure rfl rfl rfl; (· (intro w; go_simp; with_reducible rfl)); (· (simp only [Act.put, Act.eval, List.setIfInBounds_toArray, List.set_cons_zero, List.set_cons_succ, Array.getD_eq_getD_getElem?, List.getElem?_toArray, List.getElem?_cons_zero, List.getElem?_cons_succ, Option.getD_some, List.getElem_toArray, List.getElem_cons_succ, List.getElem_cons_zero]; with_reducible rfl))
      apply txt_read rfl rfl rfl; (· (go_simp; with_reducible rfl)); (· (simp only [Act.put, Act.eval, List.setIfInBounds_toArray, List.set_cons_zero, List.set_cons_succ, Array.getD_eq_getD_getElem?, List.getElem?_toArray, List.getElem?_cons_zero, List.getElem?_cons_succ, Option.getD_some, List.getElem_toArray, List.getElem_cons_succ, List.getElem_cons_zero]; with_reducible rfl))
      apply txt_pure rfl rfl rfl; (· (intro w; go_simp; with_reducible rfl)); (· (simp only [Act.put, Act.eval, List.setIfInBounds_toArray, List.set_cons_zero, List.set_cons_succ, Array.getD_eq_getD_getElem?, List.getElem?_toArray, List.getElem?_cons_zero, List.getElem?_cons_succ, Option.getD_some, List.getElem_toArray, List.getElem_cons_succ, List.getElem_cons_zero]; with_reducible rfl))
      apply txt_pure rfl rfl rfl; (· (intro w; go_simp; with_reducible rfl)); (· (simp only [Act.put, Act.eval, List.setIfInBounds_toArray, List.set_cons_zero, List.set_cons_succ, Array.getD_eq_getD_getElem?, List.getElem?_toArray, List.getElem?_cons_zero, List.getElem?_cons_succ, Option.getD_some, List.getElem_toArray, List.getElem_cons_succ, List.getElem_cons_zero]; with_reducible rfl))
      apply txt_pure rfl rfl rfl; (· (intro w; go_simp; with_reducible rfl)); (· (simp only [Act.put, Act.eval, List.setIfInBounds_toArray, List.set_cons_zero, List.set_cons_succ, Array.getD_eq_getD_getElem?, List.getElem?_toArray, List.getElem?_cons_zero, List.getElem?_cons_succ, Option.getD_some, List.getElem_toArray, List.getElem_cons_succ, List.getElem_cons_zero]; with_reducible rfl))
      apply txt_pure rfl rfl rfl; (· (intro w; go_simp; with_reducible rfl)); (· (simp only [Act.put, Act.eval, List.setIfInBounds_toArray, List.set_cons_zero, List.set_cons_succ, Array.getD_eq_getD_getElem?, List.getElem?_toArray, List.getElem?_cons_zero, List.getElem?_cons_succ, Option.getD_some, List.getElem_toArray, List.getElem_cons_succ, List.getElem_cons_zero]; with_reducible rfl))
      apply txt_read rfl rfl rfl; (· (go_simp; with_reducible rfl)); (· (simp only [Act.put, Act.eval, List.setIfInBounds_toArray, List.set_cons_zero, List.set_cons_succ, Array.getD_eq_getD_getElem?, List.getElem?_toArray, List.getElem?_cons_zero, List.getElem?_cons_succ, Option.getD_some, List.getElem_toArray, List.getElem_cons_succ, List.getElem_cons_zero]; with_reducible rfl))
      apply txt_assign rfl rfl; (· (simp only [Act.put, Act.eval, List.setIfInBounds_toArray, List.set_cons_zero, List.set_cons_succ, Array.getD_eq_getD_getElem?, List.getElem?_toArray, List.getElem?_cons_zero, List.getElem?_cons_succ, Option.getD_some, List.getElem_toArray, List.getElem_cons_succ, List.getElem_cons_zero]; with_reducible rfl))
      with_reducible refine txt_nil ?_
      go_upto_region 9 with (fail)
      refine Rt.wp_region_text [0, 0, 0, 0, 1, 0, 0, 0, 1, 0, 0, 0, 0, 0, 2] (by kernel_rfl) (by kernel_rfl) ?_
      apply txt_move rfl rfl; (· (simp only [Act.put, Act.eval, List.setIfInBounds_toArray, List.set_cons_zero, List.set_cons_succ, Array.getD_eq_getD_getElem?, List.getElem?_toArray, List.getElem?_cons_zero, List.getElem?_cons_succ, Option.getD_some, List.getElem_toArray, List.getElem_cons_succ, List.getElem_cons_zero]; with_reducible rfl))
      apply txt_move rfl rfl; (· (simp only [Act.put, Act.eval, List.setIfInBounds_toArray, List.set_cons_zero, List.set_cons_succ, Array.getD_eq_getD_getElem?, List.getElem?_toArray, List.getElem?_cons_zero, List.getElem?_cons_succ, Option.getD_some, List.getElem_toArray, List.getElem_cons_succ, List.getElem_cons_zero]; with_reducible rfl))
      apply txt_pure rfl rfl rfl; (· (intro w; go_simp; with_reducible rfl)); (· (simp only [Act.put, Act.eval, List.setIfInBounds_toArray, List.set_cons_zero, List.set_cons_succ, Array.getD_eq_getD_getElem?, List.getElem?_toArray, List.getElem?_cons_zero, List.getElem?_cons_succ, Option.getD_some, List.getElem_toArray, List.getElem_cons_succ, List.getElem_cons_zero]; with_reducible rfl))
      apply txt_pure rfl rfl rfl; (· (intro w; go_simp; with_reducible rfl)); (· (simp only [Act.put, Act.eval, List.setIfInBounds_toArray, List.set_cons_zero, List.set_cons_succ, Array.getD_eq_getD_getElem?, List.getElem?_toArray, List.getElem?_cons_zero, List.getElem?_cons_succ, Option.getD_some, List.getElem_toArray, List.getElem_cons_succ, List.getElem_cons_zero]; with_reducible rfl))
      apply txt_read rfl rfl rfl; (· (go_simp; with_reducible rfl)); (· (simp only [Act.put, Act.eval, List.setIfInBounds_toArray, List.set_cons_zero, List.set_cons_succ, Array.getD_eq_getD_getElem?, List.getElem?_toArray, List.getElem?_cons_zero, List.getElem?_cons_succ, Option.getD_some, List.getElem_toArray, List.getElem_cons_succ, List.getElem_cons_zero]; with_reducible rfl))
      apply txt_move rfl rfl; (· (simp only [Act.put, Act.eval, List.setIfInBounds_toArray, List.set_cons_zero, List.set_cons_succ, Array.getD_eq_getD_getElem?, List.getElem?_toArray, List.getElem?_cons_zero, List.getElem?_cons_succ, Option.getD_some, List.getElem_toArray, List.getElem_cons_succ, List.getElem_cons_zero]; with_reducible rfl))
      apply txt_pure rfl rfl rfl; (· (intro w; go_simp; with_reducible rfl)); (· (simp only [Act.put, Act.eval, List.setIfInBounds_toArray, List.set_cons_zero, List.set_cons_succ, Array.getD_eq_getD_getElem?, List.getElem?_toArray, List.getElem?_cons_zero, List.getElem?_cons_succ, Option.getD_some, List.getElem_toArray, List.getElem_cons_succ, List.getElem_cons_zero]; with_reducible rfl))
      apply txt_pure rfl rfl rfl; (· (intro w; go_simp; with_reducible rfl)); (· (simp only [Act.put, Act.eval, List.setIfInBounds_toArray, List.set_cons_zero, List.set_cons_succ, Array.getD_eq_getD_getElem?, List.getElem?_toArray, List.getElem?_cons_zero, List.getElem?_cons_succ, Option.getD_some, List.getElem_toArray, List.getElem_cons_succ, List.getElem_cons_zero]; with_reducible rfl))
      apply txt_read rfl rfl rfl; (· (go_simp; with_reducible rfl)); (· (simp only [Act.put, Act.eval, List.setIfInBounds_toArray, List.set_cons_zero, List.set_cons_succ, Array.getD_eq_getD_getElem?, List.getElem?_toArray, List.getElem?_cons_zero, List.getElem?_cons_succ, Option.getD_some, List.getElem_toArray, List.getElem_cons_succ, List.getElem_cons_zero]; with_reducible rfl))
      apply txt_pure rfl rfl rfl; (· (intro w; go_simp; with_reducible rfl)); (· (simp only [Act.put, Act.eval, List.setIfInBounds_toArray, List.set_cons_zero, List.set_cons_succ, Array.getD_eq_getD_getElem?, List.getElem?_toArray, List.getElem?_cons_zero, List.getElem?_cons_succ, Option.getD_some, List.getElem_toArray, List.getElem_cons_succ, List.getElem_cons_zero]; with_reducible rfl))
      apply txt_pure rfl rfl rfl; (· (intro w; go_simp; with_reducible rfl)); (· (simp only [Act.put, Act.eval, List.setIfInBounds_toArray, List.set_cons_zero, List.set_cons_succ, Array.getD_eq_getD_getElem?, List.getElem?_toArray, List.getElem?_cons_zero, List.getElem?_cons_succ, Option.getD_some, List.getElem_toArray, List.getElem_cons_succ, List.getElem_cons_zero]; with_reducible rfl))
      apply txt_pure rfl rfl rfl; (· (intro w; go_simp; with_reducible rfl)); (· (simp only [Act.put, Act.eval, List.setIfInBounds_toArray, List.set_cons_zero, List.set_cons_succ, Array.getD_eq_getD_getElem?, List.getElem?_toArray, List.getElem?_cons_zero, List.getElem?_cons_succ, Option.getD_some, List.getElem_toArray, List.getElem_cons_succ, List.getElem_cons_zero]; with_reducible rfl))
      apply txt_pure rfl rfl rfl; (· (intro w; go_simp; with_reducible rfl)); (· (simp only [Act.put, Act.eval, List.setIfInBounds_toArray, List.set_cons_zero, List.set_cons_succ, Array.getD_eq_getD_getElem?, List.getElem?_toArray, List.getElem?_cons_zero, List.getElem?_cons_succ, Option.getD_some, List.getElem_toArray, List.getElem_cons_succ, List.getElem_cons_zero]; with_reducible rfl))
      apply txt_pure rfl rfl rfl; (· (intro w; go_simp; with_reducible rfl)); (· (simp only [Act.put, Act.eval, List.setIfInBounds_toArray, List.set_cons_zero, List.set_cons_succ, Array.getD_eq_getD_getElem?, List.getElem?_toArray, List.getElem?_cons_zero, List.getElem?_cons_succ, Option.getD_some, List.getElem_toArray, List.getElem_cons_succ, List.getElem_cons_zero]; with_reducible rfl))
      apply txt_do rfl rfl rfl; (· (go_simp; with_reducible rfl)); (· (simp only [Act.put, Act.eval, List.setIfInBounds_toArray, List.set_cons_zero, List.set_cons_succ, Array.getD_eq_getD_getElem?, List.getElem?_toArray, List.getElem?_cons_zero, List.getElem?_cons_succ, Option.getD_some, List.getElem_toArray, List.getElem_cons_succ, List.getElem_cons_zero]; with_reducible rfl))
      with_reducible refine txt_nil ?_
      go_wp2
      have hpk : putK most S k x = ((k, x) :: T).take n := by unfold putK; rw [hTe.out, hnm.out]
      have hpg : putG most S k = some y := by
        unfold putG
        have hSTe : S = T := by first | rfl | exact hST.out
        rw [hTe.out, hnH.out, if_pos (by omega), hSTe, ← hyH.out, ← hnH.out]
        exact gk_last (k, x) (by rw [hnH.out]; omega)
      obtain ⟨r7, r8⟩ := (h5H.out).put (Below.refl _ _) (v' := .slice (some ⟨g4, 0, none⟩) n cap4) (RowK.shorter h5H.out.row (m := n) (by simp [hnH.out])) h5H.out.sep
      refine bodyPost_ret (v := .tuple #[.string y, .bool true]) (by simp [results, Try.results19, go_sem]) rfl ⟨by rw [hpg]; rfl, ?_⟩
      exact ⟨_, by rw [hpk]; exact r7.drew.drew.drew, fun g hg => by cases hg; exact hw14.out, (hk05.out.trans r8).drew.drew.drew⟩
set_option maxRecDepth 100000 in
theorem RDrop_any {most : Nat} (h : RefK w p (most : Int) v S) (hd : DistK S) (hn : S.length < 1099511627776) (k : ByteArray) :
    Calls Try.prog 24 #[.pointer (some ⟨p, 0, none⟩), .string k] w fun e w' => e = .returned (.bool (lookV S k).isSome) ∧ ∃ v', RefK w' p (most : Int) v' (delK S k) ∧ (v' = v ∨ ∀ g, v'.ownBlock = some g → w.heap.size ≤ g) ∧ Kept (fun y => y = p) w w' := by
  have hfind := Lib.hid (find_any h (by omega) k)
  have hH := Lib.hid h
  have c1 := h.c1
  have f1 := h.fr 1
  clear h
  go_enter Try.func24, Try.ntmps24
  go_wp2_with fail
  refine hfind.out.mono ?_
  rintro e w1 ⟨rfl, ⟨rfl, hno⟩ | ⟨i, rfl, hi, hgk, hno⟩⟩
  · obtain ⟨e1, e2⟩ := at_no hno
    have e1H := Lib.hid e1
    have e2H := Lib.hid e2
    clear e1 e2 hno hfind hd
    go_wp2
    go_ret
    exact ⟨by rw [e2H.out]; rfl, v, by rw [e1H.out]; exact hH.out, .inl rfl, Kept.refl _ _⟩
  · obtain ⟨e1, e2⟩ := at_yes hd hi
    rw [hgk] at e1 e2
    have e1H := Lib.hid e1
    have e2H := Lib.hid e2
    have hi' : (0 : Int) ≤ (i : Int) := by omega
    have hi2 : ¬ (i : Int) < 0 := by omega
    have hwo := Lib.hid (without_any hH.out hn hi)
    obtain ⟨T, hT⟩ : ∃ T, S.take i ++ S.drop (i + 1) = T := ⟨_, rfl⟩
    rw [hT] at hwo e1H
    clear e1 e2 hno hfind hd hgk hT
    go_wp2_with fail
    refine hwo.out.mono ?_
    rintro e w2 ⟨v2, rfl, hr2, hb2, hv2⟩
    have hsep2 : v2.ownBlock ≠ some p := fun e => by have := hv2 p e; have := hH.out.lt; omega
    obtain ⟨r1, r2⟩ := hH.out.put hb2 hr2 hsep2
    have c2 := (hb2.cell (p := ⟨p, 1, none⟩) hH.out.lt).trans c1
    have f2 := (hb2.frozen (p := ⟨p, 1, none⟩) hH.out.lt).trans f1
    obtain ⟨a9, c9, hv9, _⟩ := hr2
    subst hv9
    obtain ⟨n9, hn9⟩ : ∃ n, T.length = n := ⟨_, rfl⟩
    rw [hn9] at r1 r2 hv2 ⊢
    clear hn9
    have r1H := Lib.hid r1
    clear hwo hb2 r1 c1 f1 hsep2
    go_wp2
    go_ret
    exact ⟨by rw [e2H.out]; rfl, _, by rw [e1H.out]; exact r1H.out, .inr hv2, r2⟩
set_option maxRecDepth 100000 in
theorem RLook_any {most : Nat} (h : RefK w p (most : Int) v S) (hd : DistK S) (hn : S.length < 1099511627776) (k : ByteArray) :
    Calls Try.prog 22 #[.pointer (some ⟨p, 0, none⟩), .string k] w fun e w' => e = .returned (.tuple #[.int .i64 ((lookV S k).getD 0), .bool (lookV S k).isSome]) ∧ w' = w := by
  have hfind := Lib.hid (find_any h (by omega) k)
  have hH := Lib.hid h
  have c1 := h.c1
  clear h
  go_enter Try.func22, Try.ntmps22
  go_wp2_with fail
  refine hfind.out.mono ?_
  rintro e w1 ⟨rfl, ⟨rfl, hno⟩ | ⟨i, rfl, hi, hgk, hno⟩⟩
  · obtain ⟨e1, e2⟩ := at_no hno
    have e2H := Lib.hid e2
    clear e1 e2 hno hfind hd
    go_wp2
    refine bodyPost_ret (v := .tuple #[.int .i64 0, .bool false]) (by simp [results, Try.results22, go_sem]) rfl ⟨by rw [e2H.out]; rfl, rfl⟩
  · obtain ⟨e1, e2⟩ := at_yes hd hi
    rw [hgk] at e1 e2
    have e2H := Lib.hid e2
    have hi' : (0 : Int) ≤ (i : Int) := by omega
    have hi2 : ¬ (i : Int) < 0 := by omega
    obtain ⟨a, c, hv, hlc, hcm, _⟩ := hH.out.row
    obtain ⟨b, off, hba, q1, q2⟩ := (hv ▸ hH.out.row : RowK w1 (.slice a S.length c) S).at i hi
    subst hba
    subst hv
    have hil : (i : Int) < S.length := by omega
    clear e1 e2 hno hfind hd hgk q1
    go_wp2
    refine bodyPost_ret (v := .tuple #[.int .i64 (gk S i).2, .bool true]) (by simp [results, Try.results22, go_sem]) rfl ⟨by rw [e2H.out]; rfl, rfl⟩
set_option maxRecDepth 100000 in
theorem RGet_any {most : Nat} (h : RefK w p (most : Int) v S) (hd : DistK S) (hm0 : S.length ≤ most) (hm1 : 1 ≤ most) (hm2 : most ≤ 100000) (k : ByteArray) :
    Calls Try.prog 21 #[.pointer (some ⟨p, 0, none⟩), .string k] w fun e w' => e = .returned (.tuple #[.int .i64 ((lookV S k).getD 0), .bool (lookV S k).isSome]) ∧ ∃ v', RefK w' p (most : Int) v' (getK S k) ∧ (v' = v ∨ ∀ g, v'.ownBlock = some g → w.heap.size ≤ g) ∧ Kept (fun y => y = p) w w' := by
  have hfind := Lib.hid (find_any h (by omega) k)
  have hH := Lib.hid h
  have c1 := h.c1
  clear h
  go_enter Try.func21, Try.ntmps21
  go_wp2_with fail
  refine hfind.out.mono ?_
  rintro e w1 ⟨rfl, ⟨rfl, hno⟩ | ⟨i, rfl, hi, hgk, hno⟩⟩
  · obtain ⟨e1, e2⟩ := at_no hno
    have e2H := Lib.hid e2
    clear e1 e2 hno hfind hd
    go_wp2
    refine bodyPost_ret (v := .tuple #[.int .i64 0, .bool false]) (by simp [results, Try.results21, go_sem]) rfl ⟨by rw [e2H.out]; rfl, v, by unfold getK; rw [e2H.out]; exact hH.out, .inl rfl, Kept.refl _ _⟩
  · obtain ⟨e1, e2⟩ := at_yes hd hi
    rw [hgk] at e1 e2
    have e2H := Lib.hid e2
    have e1l : (delK S k).length + 1 ≤ most := by rw [e1]; simp; omega
    have hi' : (0 : Int) ≤ (i : Int) := by omega
    have hi2 : ¬ (i : Int) < 0 := by omega
    obtain ⟨a, c, hv, hlc, hcm, _⟩ := hH.out.row
    obtain ⟨b, off, hba, q1, q2⟩ := (hv ▸ hH.out.row : RowK w1 (.slice a S.length c) S).at i hi
    subst hba
    subst hv
    have hil : (i : Int) < S.length := by omega
    have hpk : Hid (putK most S k (gk S i).2 = getK S k) := Lib.hid (by
      unfold putK getK
      rw [e2, List.take_of_length_le (by rw [List.length_cons]; exact e1l)])
    have hput := Lib.hid (RPut_any hH.out hd hm0 hm1 hm2 k (gk S i).2)
    clear e1 e2 e1l hno hfind hd hgk q1
    go_wp2_with fail
    refine hput.out.mono ?_
    rintro e w2 ⟨rfl, v2, h2, hv2, hk2⟩
    clear hput q2 c1
    go_wp2
    refine bodyPost_ret (v := .tuple #[.int .i64 (gk S i).2, .bool true]) (by simp [results, Try.results21, go_sem]) rfl ⟨by rw [e2H.out]; rfl, v2, by rw [← hpk.out]; exact h2, .inr hv2, hk2⟩
end
end Go.Proofs.Ytmgapdbfaoflmaa.Tb
