/- DeleteFunc over any row, Delete. -/
import Derived.Test.YticijejnemnmlaaInX
namespace Go.Proofs.Yticijejnemnmlaa.If
open Go.RowKit Rt
set_option linter.unusedSimpArgs false
set_option linter.unusedVariables false
theorem row_below {w w' : World} {base n e size : Nat} {v : Value} {xs : List Value} (h : w.ownsRow base e size v n xs) (hb : Below w.heap.size w w') : w'.ownsRow base e size v n xs := by
  obtain ⟨h1, h2 | ⟨g, cap, cur, hv, hg, hh, r⟩⟩ := h
  · exact ⟨h1, .inl h2⟩
  · exact ⟨h1, .inr ⟨g, cap, cur, hv, hg, (hb.block g (Array.getElem?_eq_some_iff.1 hh).1).trans hh, r⟩⟩
theorem OwnL.drew1 {w : World} {b c : Nat} {L : List Lm} (h : OwnL w b c L) : OwnL w.drew b c L := h.keep rfl
theorem DelF_any {w : World} {zb base : Nat} {z : ByteArray} {v : Value} {L : List Lm} (hz : w.cell? ⟨zb, 0, none⟩ = some (.string z)) (h : w.ownsRow base 72 2 v L.length (lmC L)) (hzb : zb < base) (hbase : base ≤ w.heap.size) (hl : L.length < 1099511627776) :
    Calls Try.prog 32 #[v, .func (.func 34) #[] #[.pointer (some ⟨zb, 0, none⟩)]] w fun e w' => ∃ v', e = .returned v' ∧ w'.ownsRow base 72 2 v' (keepZ z L).length (lmC (keepZ z L)) ∧ Below base w w' := by
  rcases idxZ_cases z L with ⟨hix, hno⟩ | ⟨k, hk, hix, hy, hno⟩
  · obtain ⟨a, c, rfl⟩ := own_slice h
    have hI := Lib.hid (Index_any hz (fun h0 => RowL.of_row h rfl rfl h0) rfl hl)
    rw [hix] at hI
    rw [keepZ_all hno]
    have hH := Lib.hid h
    obtain ⟨n, hn⟩ : ∃ n, L.length = n := ⟨_, rfl⟩
    rw [hn] at hI hH ⊢
    clear h hz hno hn hix
    go_enter Try.func32, Try.ntmps32
    go_wp2_with (go_at_call 49; refine hI.out.mono ?_; rintro e w1 ⟨rfl, hb1⟩)
    go_ret
    refine ⟨_, rfl, ?_, hb1.mono hbase⟩
    exact row_below hH.out hb1
  · rcases h.2 with ⟨rfl, e⟩ | ⟨g, cap, cur, rfl, hg, _⟩
    · omega
    · obtain ⟨hO, _⟩ := OwnL.of h rfl
      refine (DelF_row hz hO (by omega) hl hk hy hno).mono ?_
      rintro e w' ⟨rfl, hO', hK⟩
      exact ⟨_, rfl, hO'.row hg, hK.below hbase (fun x hx e => by omega)⟩
/-! ### Delete -/
section
variable {w w' : World} {base n b c k : Nat} {v : Value} {L M : List Lm}
theorem lmC_drop (l : List Lm) (k : Nat) : (lmC l).drop (k * 2) = lmC (l.drop k) := by
  by_cases hk : k ≤ l.length
  · have e : lmC l = lmC (l.take k) ++ lmC (l.drop k) := by rw [← lmC_append, List.take_append_drop]
    rw [e]
    exact List.drop_left' (by rw [lmC_length, List.length_take, Nat.min_eq_left hk])
  · rw [List.drop_of_length_le (by rw [lmC_length]; omega), List.drop_of_length_le (by omega)]; rfl
theorem OwnL.shift (h : OwnL w b c L) (hk : k < L.length) : OwnL (w.setCells b (k * 2) (lmC (L.drop (k + 1)))) b c (L.take k ++ L.drop (k + 1) ++ L.drop (L.length - 1)) := by
  obtain ⟨h1, h2 | ⟨g, cap, cur, hv, hg, hh, r1, r2, r3, r4⟩⟩ := h
  · cases h2.1
  · cases hv
    have hl : (L.drop (k + 1)).length = L.length - (k + 1) := List.length_drop
    obtain ⟨cur', q1, q2, q3⟩ := Nm.setCells_row (lmC (L.drop (k + 1))) (k * 2) w cur hh (by rw [lmC_length]; omega)
    have hlen : (L.take k ++ L.drop (k + 1) ++ L.drop (L.length - 1)).length = L.length := by simp; omega
    unfold OwnL
    rw [hlen]
    refine ⟨by rw [lmC_length, hlen], .inr ⟨b, _, cur', rfl, Nat.zero_le _, q1, r1, r2, q2.trans r3, ?_⟩⟩
    have e1 : cur.toList.take (k * 2) = lmC (L.take k) := by rw [← lmC_take, ← r4, List.take_take]; congr 1; omega
    have e2 : (cur.toList.drop (k * 2 + (lmC (L.drop (k + 1))).length)).take 2 = lmC (L.drop (L.length - 1)) := by
      rw [lmC_length, hl, ← lmC_drop L (L.length - 1), ← r4, List.drop_take]
      congr 1
      · omega
      · congr 1; omega
    rw [q3, e1, lmC_append, lmC_append, List.take_append, List.take_of_length_le (by simp [lmC_length]; omega), ← e2]
    congr 2
    simp [lmC_length]; omega
theorem OwnL.append_self (h : OwnL w b c L) (hk : k < L.length) {b' off cc : Nat} (hs : 0 < L.length - (k + 1) → b' = b ∧ off = (k + 1) * 2) :
    (Builtin.append_ #[57, 57] 57 #[.slice (some ⟨b, 0, none⟩) k c, .slice (some ⟨b', off, none⟩) (L.length - (k + 1)) cc]).run Try.prog w = .ok (.slice (some ⟨b, 0, none⟩) (k + (L.length - (k + 1))) c) (w.setCells b (k * 2) (lmC (L.drop (k + 1)))) := by
  obtain ⟨i0, hi, hz0, hz1, hz2⟩ := info_parts info72
  have hfr := h.fr
  have hO := h
  obtain ⟨h1, h2 | ⟨g, cap, cur, hv, hg, hh, r1, r2, r3, r4⟩⟩ := h
  · cases h2.1
  · cases hv
    have hl : (L.drop (k + 1)).length = L.length - (k + 1) := List.length_drop
    have hr := run_append_room_cells (P := Try.prog) w 57 57 72 i0 Try.underlying57 hi b 0 k c ⟨b', off, none⟩ (L.length - (k + 1)) cc (lmC (L.drop (k + 1))) (by rw [lmC_length, hl, hz1])
      (fun j u hj => by
        have hjl := (List.getElem?_eq_some_iff.1 hj).1
        rw [lmC_length, hl] at hjl
        obtain ⟨rfl, rfl⟩ := hs (by omega)
        rw [Addr.add_lit]
        have := World.ownsRow.cellAt hO ((k + 1) * 2 + j) (by omega)
        rw [this, ← hj, ← lmC_drop, List.getElem?_drop]) (lmC_one _) (by omega)
      (fun j hj => by rw [lmC_length, hl] at hj; rw [hz1]; simp [World.cell?, hh]; omega) (fun j _ => hfr _)
    rw [hz1, Nat.zero_add] at hr
    exact hr
end
theorem exec_append {P : Program} {o : Oper} {a : Act} {w w' : World} {s x : Operand} {t t' : TypeId} {u v r : Value} (ho : o.op = .call { callee := .builtin .append, args := #[s, x], argTypes := #[t, t'] }) (hs : a.eval s = u) (hx : a.eval x = v)
    (hr : (Builtin.append_ #[t, t'] o.type #[u, v]).run P w = .ok r w') : (execOp a.eval o).run P w = .ok (.value r) w' := by
  unfold execOp
  simp only [ho, resolve, invoke, builtin, Sem.run_bind, Sem.run_pure, Result.andThen_ok, List.map_toArray, List.map_cons, List.map_nil, hs, hx, hr]
set_option maxHeartbeats 2000000 in
set_option maxRecDepth 100000 in
theorem Delete_any {w : World} {b c k : Nat} {L : List Lm} (h : OwnL w b c L) (hk : k < L.length) (hl : L.length < 1099511627776) :
    Calls Try.prog 35 #[.slice (some ⟨b, 0, none⟩) L.length c, .int .i64 k, .int .i64 ((k : Int) + 1)] w fun e w' => e = .returned (.slice (some ⟨b, 0, none⟩) (L.length - 1) c) ∧ OwnL w' b c (L.take k ++ L.drop (k + 1)) ∧ Kept (fun x => x = b) w w' := by
  obtain ⟨hcl, hcm⟩ := h.cap
  have hcm' : (c : Int) ≤ 9223372036854775807 := by unfold maxLen at hcm; omega
  have hsh := h.drew1.shift (k := k) hk
  have hM1 : (L.take k ++ L.drop (k + 1)).length = L.length - 1 := by simp; omega
  have hM2 : (L.take k ++ L.drop (k + 1) ++ L.drop (L.length - 1)).length = L.length := by simp; omega
  have hM3 : (L.take k ++ L.drop (k + 1) ++ L.drop (L.length - 1)).take (L.length - 1) = L.take k ++ L.drop (k + 1) := List.take_left' hM1
  have hKs : Hid (Kept (fun x => x = b) w (w.drew.setCells b (k * 2) (lmC (L.drop (k + 1))))) := Lib.hid (by
    obtain ⟨s1, s2, s3, s4⟩ := Nm.setCells_same b (lmC (L.drop (k + 1))) (k * 2) w.drew
    exact ⟨s1, s2, s3, Nat.le_of_eq s4.symm, fun x hx hne => Nm.setCells_far _ _ x hne⟩)
  have hap : ∀ (b' off cc : Nat), (0 < L.length - (k + 1) → b' = b ∧ off = (k + 1) * 2) → (Builtin.append_ #[57, 57] 57 #[.slice (some ⟨b, 0, none⟩) k c, .slice (some ⟨b', off, none⟩) (L.length - (k + 1)) cc]).run Try.prog w.drew = .ok (.slice (some ⟨b, 0, none⟩) (k + (L.length - (k + 1))) c) (w.drew.setCells b (k * 2) (lmC (L.drop (k + 1)))) := fun b' off cc hs => h.drew1.append_self hk hs
  obtain ⟨W, hW⟩ : ∃ W, w.drew.setCells b (k * 2) (lmC (L.drop (k + 1))) = W := ⟨_, rfl⟩
  rw [hW] at hap hKs hsh
  obtain ⟨M, hMM⟩ : ∃ M, L.take k ++ L.drop (k + 1) ++ L.drop (L.length - 1) = M := ⟨_, rfl⟩
  rw [hMM] at hsh hM2 hM3
  have hcle := fun cc => (hsh).clear (k := L.length - 1) (by omega) cc
  rw [hM2, hM3] at hcle
  obtain ⟨zs, hzs⟩ : ∃ zs, (Builtin.zeroCells (Value.agg #[.string ⟨#[]⟩, .int .i64 0]).cells (L.length - (L.length - 1))).toList = zs := ⟨_, rfl⟩
  rw [hzs] at hcle
  have hFO := Lib.hid (hcle 0).2
  have hFK : Hid (Kept (fun x => x = b) w (W.setCells b ((L.length - 1) * 2) zs)) := Lib.hid (by
    obtain ⟨s1, s2, s3, s4⟩ := Nm.setCells_same b zs ((L.length - 1) * 2) W
    exact hKs.out.trans ⟨s1, s2, s3, Nat.le_of_eq s4.symm, fun x hx hne => Nm.setCells_far zs _ x hne⟩)
  have hcl1 := fun cc => (hcle cc).1
  obtain ⟨n, hn⟩ : ∃ n, L.length = n := ⟨_, rfl⟩
  rw [hn] at hap hcl1 hFO hFK hcl hk hl ⊢
  obtain ⟨F, hF⟩ : ∃ F, W.setCells b ((n - 1) * 2) zs = F := ⟨_, rfl⟩
  rw [hF] at hFO hFK hcl1
  obtain ⟨R, hR⟩ : ∃ R, L.take k ++ L.drop (k + 1) = R := ⟨_, rfl⟩
  rw [hR] at hFO ⊢
  have e1 : k + (n - (k + 1)) = n - 1 := by omega
  have e2 : n - (n - 1) = 1 := by omega
  rw [e1] at hap
  rw [e2] at hcl1
  have hkn : (k : Int) + 1 ≤ n := by omega
  have hkk : ((k : Int) == k + 1) = false := by simp; omega
  have hnc : (n : Int) ≤ c := by omega
  have hw1 := wr (show -9223372036854775808 ≤ (k : Int) + 1 by omega) (by omega)
  clear hcle hM1 hM2 hM3 hKs hsh hMM hzs hF hR hn hW h hcm
  have hnk : ¬ n - k = 0 := by omega
  have hck : ¬ c - k = 0 := by omega
  have hcn1 : ¬ c - (n - 1) = 0 := by omega
  have hn1 : ((n - 1 : Nat) : Int) ≤ n := by omega
  go_enter Try.func35, Try.ntmps35
  go_upto_region 5 with (fail)
  have hkc0 : k ≤ c := by omega
  have hk0 : 0 ≤ (k : Int) + 1 := by omega
  have hkc1 : (k : Int) ≤ c := by omega
  have hkc2 : (k : Int) + 1 ≤ c := by omega
  have hA : (Builtin.append_ #[57, 57] 57 #[.slice (some ⟨b, 0, none⟩) k c, .slice (if c = k + 1 then some ⟨b, 0, none⟩ else some ⟨b, (k + 1) * 2, none⟩) (n - (k + 1)) (c - (k + 1))]).run Try.prog w.drew = .ok (.slice (some ⟨b, 0, none⟩) (n - 1) c) W := by
    split
    · exact hap b 0 _ (fun h => by omega)
    · exact hap b ((k + 1) * 2) _ (fun _ => ⟨rfl, rfl⟩)
  clear hap
  refine Rt.wp_region_text [0, 0, 0, 0, 0, 0, 2, 0] (by kernel_rfl) (by kernel_rfl) ?_
  apply txt_move rfl rfl; (· (simp only [Act.put, Act.eval, List.setIfInBounds_toArray, List.set_cons_zero, List.set_cons_succ, Array.getD_eq_getD_getElem?, List.getElem?_toArray, List.getElem?_cons_zero, List.getElem?_cons_succ, Option.getD_some]; with_reducible rfl))
  apply txt_move rfl rfl; (· (simp only [Act.put, Act.eval, List.setIfInBounds_toArray, List.set_cons_zero, List.set_cons_succ, Array.getD_eq_getD_getElem?, List.getElem?_toArray, List.getElem?_cons_zero, List.getElem?_cons_succ, Option.getD_some]; with_reducible rfl))
  apply txt_pure rfl rfl rfl; (· (intro w; go_simp; with_reducible rfl)); (· (simp only [Act.put, Act.eval, List.setIfInBounds_toArray, List.set_cons_zero, List.set_cons_succ, Array.getD_eq_getD_getElem?, List.getElem?_toArray, List.getElem?_cons_zero, List.getElem?_cons_succ, Option.getD_some]; with_reducible rfl))
  apply txt_move rfl rfl; (· (simp only [Act.put, Act.eval, List.setIfInBounds_toArray, List.set_cons_zero, List.set_cons_succ, Array.getD_eq_getD_getElem?, List.getElem?_toArray, List.getElem?_cons_zero, List.getElem?_cons_succ, Option.getD_some]; with_reducible rfl))
  apply txt_move rfl rfl; (· (simp only [Act.put, Act.eval, List.setIfInBounds_toArray, List.set_cons_zero, List.set_cons_succ, Array.getD_eq_getD_getElem?, List.getElem?_toArray, List.getElem?_cons_zero, List.getElem?_cons_succ, Option.getD_some]; with_reducible rfl))
  apply txt_pure rfl rfl rfl; (· (intro w; go_simp; with_reducible rfl)); (· (simp only [Act.put, Act.eval, List.setIfInBounds_toArray, List.set_cons_zero, List.set_cons_succ, Array.getD_eq_getD_getElem?, List.getElem?_toArray, List.getElem?_cons_zero, List.getElem?_cons_succ, Option.getD_some]; with_reducible rfl))
  apply txt_value rfl rfl rfl; (· (exact exec_append rfl rfl rfl hA)); (· (simp only [Act.put, Act.eval, List.setIfInBounds_toArray, List.set_cons_zero, List.set_cons_succ, Array.getD_eq_getD_getElem?, List.getElem?_toArray, List.getElem?_cons_zero, List.getElem?_cons_succ, Option.getD_some]; with_reducible rfl))
  apply txt_assign rfl rfl; (· (simp only [Act.put, Act.eval, List.setIfInBounds_toArray, List.set_cons_zero, List.set_cons_succ, Array.getD_eq_getD_getElem?, List.getElem?_toArray, List.getElem?_cons_zero, List.getElem?_cons_succ, Option.getD_some]; with_reducible rfl))
  with_reducible refine txt_nil ?_
  generalize (if c = k + 1 then some (⟨b, 0, none⟩ : Addr) else some ⟨b, (k + 1) * 2, none⟩) = q
  go_wp2
  go_ret
  exact ⟨rfl, hFO.out, hFK.out⟩
end Go.Proofs.Yticijejnemnmlaa.If
