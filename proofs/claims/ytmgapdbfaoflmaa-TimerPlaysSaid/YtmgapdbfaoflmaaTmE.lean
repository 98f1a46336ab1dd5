/- Set of the timer; Set, Cancel, Next, Len against the list in its order. -/
import Derived.Test.YtmgapdbfaoflmaaTmD
namespace Go.Proofs.Ytmgapdbfaoflmaa.Tm
open Go.RowKit Rt
set_option linter.unusedSimpArgs false
set_option linter.unusedVariables false

/-- The timer, against the list in its order. -/
def TimerS (w : World) (tb bm : Nat) (v : Value) (S : List It) : Prop := ∃ l, TimerAt w tb bm v l ∧ Rel l S
def hasS (S : List It) (id : Int) : Bool := S.any (fun p => p.1 == id)
section
variable {w w' : World} {tb bm : Nat} {v : Value} {S : List It}
theorem TimerS.lt (h : TimerS w tb bm v S) : tb < w.heap.size := by obtain ⟨l, h, _⟩ := h; exact h.lt
theorem TimerS.below (h : TimerS w tb bm v S) (hb : Below w.heap.size w w') : TimerS w' tb bm v S := by obtain ⟨l, h, r⟩ := h; exact ⟨l, h.below hb, r⟩
theorem TimerS.kept (h : TimerS w tb bm v S) {P : Nat → Prop} (hb : Kept P w w') (hs : ∀ k, Mine tb bm v k → ¬ P k) : TimerS w' tb bm v S := by obtain ⟨l, h, r⟩ := h; exact ⟨l, h.kept hb hs, r⟩
theorem TimerS.drew (h : TimerS w tb bm v S) : TimerS w.drew tb bm v S := h.below ((Below.refl _ _).drew)
theorem TimerS.srt (h : TimerS w tb bm v S) : Srt S := by obtain ⟨l, _, r⟩ := h; exact r.srt
theorem TimerS.wfs (h : TimerS w tb bm v S) (p : It) (hp : p ∈ S) : wf p.1 ∧ wf p.2 := by obtain ⟨l, h, r⟩ := h; exact h.wfs p (r.perm.mem_iff.2 hp)
theorem TimerS.distinct (h : TimerS w tb bm v S) : S.Pairwise (fun a b => a.1 ≠ b.1) := by obtain ⟨l, h, r⟩ := h; obtain ⟨f, _, hp⟩ := h.map; exact distinct_perm r.perm hp.distinct
theorem Cancel_S (h : TimerS w tb bm v S) (id : Int) (hid : wf id) (hn : S.length < 1099511627776) :
    Calls Try.prog 34 #[.pointer (some ⟨tb, 0, none⟩), .int .i64 id] w fun e w' => e = .returned (.bool (hasS S id)) ∧ ∃ v', TimerS w' tb bm v' (eraseS S id) ∧ v'.ownBlock = v.ownBlock ∧ Kept (Mine tb bm v) w w' := by
  obtain ⟨l, h, r⟩ := h
  obtain ⟨f, hm, hpl⟩ := h.map
  cases hf : f id with
  | none =>
    have h1 := (hpl.none_iff id).1 hf
    have h2 : hasS S id = false := by
      unfold hasS
      rw [List.any_eq_false]
      intro p hp
      have := h1 p (r.perm.mem_iff.2 hp)
      simpa using this
    refine (Cancel_no h id hid h1).mono fun e w' ⟨he, hw⟩ => ?_
    subst hw
    exact ⟨by rw [he, h2], v, ⟨l, h, by rw [r.cancel_none hpl hf]; exact r⟩, rfl, Kept.refl _ _⟩
  | some i =>
    have h2 : hasS S id = true := by
      unfold hasS
      rw [List.any_eq_true]
      obtain ⟨hi, he⟩ := (hpl id i).1 hf
      exact ⟨g l i, r.perm.mem_iff.1 (g_mem hi), by simpa using he⟩
    refine (Cancel_yes h id hid (by rw [r.length]; exact hn) hm hpl hf).mono fun e w' ⟨he, v', h3, h4, h5⟩ => ?_
    exact ⟨by rw [he, h2], v', ⟨_, h3, r.cancel hpl hf⟩, h4, h5⟩
theorem Len_S (h : TimerS w tb bm v S) : Calls Try.prog 39 #[.pointer (some ⟨tb, 0, none⟩)] w fun e w' => e = .returned (.int .i64 (S.length : Int)) ∧ w' = w := by
  obtain ⟨l, h, r⟩ := h
  rw [← r.length]
  exact Len_any h
theorem Next_nil (h : TimerS w tb bm v []) : Calls Try.prog 36 #[.pointer (some ⟨tb, 0, none⟩)] w fun e w' => e = .returned (.tuple #[.int .i64 0, .int .i64 0, .bool false]) ∧ Below w.heap.size w w' := by
  obtain ⟨l, h, r⟩ := h
  obtain rfl := List.length_eq_zero_iff.1 r.length
  exact (Next_none h).mono fun e w' ⟨he, hw⟩ => ⟨he, by subst hw; exact Below.refl _ _⟩
theorem Next_cons {p : It} {T : List It} (h : TimerS w tb bm v (p :: T)) (hn : T.length < 1099511627775) : Calls Try.prog 36 #[.pointer (some ⟨tb, 0, none⟩)] w fun e w' => e = .returned (.tuple #[.int .i64 p.1, .int .i64 p.2, .bool true]) ∧ Below w.heap.size w w' := by
  obtain ⟨l, h, r⟩ := h
  have hl := r.length
  simp only [List.length_cons] at hl
  obtain ⟨T', hT⟩ := r.head (by omega)
  have := Next_some h (by omega) (by omega)
  rw [← (List.cons.inj hT).1] at this
  exact this
theorem Set_neg (w : World) (tb : Nat) (id at' : Int) (h : at' < 0) : Calls Try.prog 32 #[.pointer (some ⟨tb, 0, none⟩), .int .i64 id, .int .i64 at'] w fun e w' => e = .returned (.int .i64 1) ∧ w' = w := by
  go_enter Try.func32, Try.ntmps32
  go_wp2
  go_ret
  exact ⟨rfl, rfl⟩
end
theorem Kept.thenAt {S T : Nat → Prop} {a b c : World} (h : Kept S a b) (k : Kept T b c) (hs : ∀ x, x < a.heap.size → T x → S x) : Kept S a c :=
  ⟨k.os.trans h.os, k.tape.trans h.tape, k.output.trans h.output, Nat.le_trans h.size k.size, fun i hi ns => (k.block i (Nat.lt_of_lt_of_le hi h.size) (fun e => ns (hs i hi e))).trans (h.block i hi ns)⟩
/-- What the append leaves. -/
structure Mid (w1 w3 : World) (tb bm g3 cap3 : Nat) (v1 : Value) (l1 : List It) (f1 : Int → Option Nat) (x : It) : Prop where
  kept : Kept (fun k => v1.ownBlock = some k) w1 w3
  top : w3.heap[tb]? = some (.cells #[v1, .map (some bm)] 108 (0, 0))
  row : w3.ownsRow 0 110 2 (.slice (some ⟨g3, 0, none⟩) (l1.length + 1) cap3) (l1 ++ [x]).length (itCells (l1 ++ [x]))
  map : MapII w3 bm l1.length f1
  ne : g3 ≠ tb
  new : v1.ownBlock = some g3 ∨ w1.heap.size ≤ g3
theorem set_mid {w1 w3 : World} {tb bm : Nat} {v1 v3 : Value} {l1 : List It} {f1 : Int → Option Nat} {id at' : Int} (h1 : TimerAt w1 tb bm v1 l1) (hm1 : MapII w1 bm l1.length f1)
    (hown3 : w3.ownsRow 0 110 2 v3 (l1.length + 1) (itCells l1 ++ [Value.int IntKind.i64 id, Value.int IntKind.i64 at']))
    (hgrow3 : (w1.alloc (Obj.cells #[Value.int IntKind.i64 id, Value.int IntKind.i64 at'] 110)).grownBy w3 v1.ownBlock)
    (hat3 : v3.ownBlock = v1.ownBlock ∨ v3.ownBlock = some (w1.alloc (Obj.cells #[Value.int IntKind.i64 id, Value.int IntKind.i64 at'] 110)).heap.size) :
    ∃ g3 cap3, v3 = .slice (some ⟨g3, 0, none⟩) (l1.length + 1) cap3 ∧ w3.cell? ⟨tb, 0, none⟩ = some v1 ∧ w3.frozen? ⟨tb, 0, none⟩ = false ∧ Mid w1 w3 tb bm g3 cap3 v1 l1 f1 (id, at') := by
  have hk3 : Kept (fun x => v1.ownBlock = some x) w1 w3 := ⟨hgrow3.os, hgrow3.tape, hgrow3.output, Nat.le_trans (by simp) hgrow3.size, fun k hk hs => (hgrow3.block k (by simp; omega) (fun e => hs e.symm)).trans (Below.heap_alloc _ _ _ hk)⟩
  have htop3 : w3.heap[tb]? = some (.cells #[v1, .map (some bm)] 108 (0, 0)) := (hk3.block tb h1.lt h1.own_tb).trans h1.top
  obtain ⟨g3, cap3, rfl⟩ : ∃ g3 cap3, v3 = .slice (some ⟨g3, 0, none⟩) (l1.length + 1) cap3 := by
    rcases hown3.2 with ⟨_, e⟩ | ⟨g, cap, cur, hv, _⟩
    · omega
    · exact ⟨g, cap, hv⟩
  have hrow3 : w3.ownsRow 0 110 2 (.slice (some ⟨g3, 0, none⟩) (l1.length + 1) cap3) (l1 ++ [(id, at')]).length (itCells (l1 ++ [(id, at')])) := by
    rw [List.length_append, itCells_append]; exact hown3
  refine ⟨g3, cap3, rfl, by simp [World.cell?, htop3], by simp [World.frozen?, htop3], ⟨hk3, htop3, hrow3, hm1.keep (hk3.block bm hm1.lt h1.own_bm), ?_, ?_⟩⟩
  · rintro rfl
    rcases hown3.2 with ⟨e, _⟩ | ⟨g, cap, cur, hv, _, hh, _⟩
    · cases e
    · cases hv; rw [htop3] at hh; cases hh
  · rcases hat3 with e | e
    · exact .inl (by rw [← e]; rfl)
    · refine .inr ?_
      have e := Option.some.inj e
      simp at e
      have e : g3 = w1.heap.size + 1 := e
      omega
theorem info110 : (Try.prog.info? 110).map (fun i => (i.zero, i.size, i.bytes)) = some (some (.agg #[.int .i64 0, .int .i64 0]), 2, 16) := by kernel_rfl
set_option maxRecDepth 100000 in
set_option maxHeartbeats 2000000 in
theorem Set_S {w : World} {tb bm : Nat} {v : Value} {S : List It} (h : TimerS w tb bm v S) (id at' : Int) (hid : wf id) (hat : wf at') (h0 : 0 ≤ at') (hn : S.length < 1099511627775) :
    Calls Try.prog 32 #[.pointer (some ⟨tb, 0, none⟩), .int .i64 id, .int .i64 at'] w fun e w' => e = .returned (.int .i64 0) ∧ ∃ v', TimerS w' tb bm v' (insS (eraseS S id) (id, at')) ∧ (v'.ownBlock = v.ownBlock ∨ ∃ g, v'.ownBlock = some g ∧ w.heap.size ≤ g) ∧ Kept (Mine tb bm v) w w' := by
  obtain ⟨i0, hi, hz0, hz1, hz2⟩ := info_parts info110
  go_enter Try.func32, Try.ntmps32
  go_wp2_with fail
  refine (Cancel_S h id hid (by omega)).mono ?_
  rintro e w1 ⟨rfl, v1, hT1, hv1, hk1⟩
  have hno : ∀ p ∈ eraseS S id, p.1 ≠ id := eraseS_gone h.distinct id
  have hle := eraseS_length_le S id
  have hss := Lib.hid hk1.size
  clear h
  obtain ⟨l1, h1, r1⟩ := hT1
  obtain ⟨f1, hm1, hpl1⟩ := h1.map
  have hf1 : f1 id = none := (hpl1.none_iff id).2 fun p hp => hno p (r1.perm.mem_iff.1 hp)
  have hl1 := r1.length
  have hlb : l1.length < 1099511627775 := by omega
  have c0 := h1.c0
  have hf1H := Lib.hid hf1
  have hv1H := Lib.hid hv1
  clear hno hle hl1 hf1 hv1
  go_wp2_with (at_builtin; refine wpList_append_own_at _ rfl (.tmp 16) (.tmp 20) 106 rfl 0 110 i0 (.agg #[.int .i64 0, .int .i64 0]) 2 16 Try.underlying106 hi hz0 hz1 hz2 rfl (by decide) v1 l1.length (itCells l1) rfl (h1.row.alloc _) ⟨w1.heap.size, 0, none⟩ 1 1 [.int .i64 id, .int .i64 at'] rfl rfl (cell_two_new _ _ _ _) (by intro u hu; simp at hu; rcases hu with rfl | rfl <;> rfl) (by unfold maxLen; omega) (by omega) (Nat.zero_le _) ?_; intro v3 w3 hown3 hgrow3 hnil3 hat3; obtain ⟨g3, cap3, rfl, c03, f03, hM⟩ := set_mid h1 hm1 hown3 hgrow3 hat3; clear hown3 hgrow3 hnil3 hat3)
  obtain ⟨n1, hn1⟩ : ∃ n, l1.length + 1 = n := ⟨_, rfl⟩
  rw [hn1]
  obtain ⟨W4, hW4⟩ : ∃ W, w3.setCell ⟨tb, 0, none⟩ (.slice (some ⟨g3, 0, none⟩) n1 cap3) = W := ⟨_, rfl⟩
  have hkM : Kept (fun x => x = tb ∨ v1.ownBlock = some x) w1 W4 := hW4 ▸ Kept.setCell (S := fun x => x = tb ∨ v1.ownBlock = some x) (p := ⟨tb, 0, none⟩) (hM.kept.mono fun x _ e => Or.inr e) (.inl (.inl rfl)) _
  have htop4 : W4.heap[tb]? = some (.cells #[.slice (some ⟨g3, 0, none⟩) n1 cap3, .map (some bm)] 108 (0, 0)) := hW4 ▸ top_set hM.top _
  have hrow4 : W4.ownsRow 0 110 2 (.slice (some ⟨g3, 0, none⟩) n1 cap3) n1 (itCells (l1 ++ [(id, at')])) := by
    have h5 := hM.row
    rw [List.length_append, List.length_singleton, hn1] at h5
    rw [← hW4]
    exact row_kept h5 (Kept.setCell (S := fun x => x = tb) (p := ⟨tb, 0, none⟩) (Kept.refl _ w3) (.inl rfl) _) hM.ne
  have hm4 : MapII W4 bm l1.length f1 := by rw [← hW4]; exact hM.map.keep (Below.heap_setCell _ _ _ _ (Ne.symm h1.tb_bm))
  have hnew := hM.new
  rw [hW4]
  clear hW4 hM c03 f03 c0
  have c0 : W4.cell? ⟨tb, 0, none⟩ = some (.slice (some ⟨g3, 0, none⟩) n1 cap3) := by simp [World.cell?, htop4]
  have c1 : W4.cell? ⟨tb, 1, none⟩ = some (.map (some bm)) := by simp [World.cell?, htop4]
  have e1 : (n1 : Int) - 1 = (l1.length : Int) := by omega
  have e2 : IntKind.i64.wrap (l1.length : Int) = (l1.length : Int) := by simp [IntKind.wrap, IntKind.bits, IntKind.signed]; omega
  obtain ⟨W5, hput, hm5, ht5⟩ := MapII.put1 (w := W4.drew) hm4 hid (j := l1.length) (by unfold wf; omega) (by unfold maxLen; omega)
  have hn1H := Lib.hid hn1
  have hm5 : MapII W5 bm n1 (upd f1 id (some l1.length)) := by rw [hf1H.out] at hm5; rw [← hn1]; exact hm5
  have hpl5 := hpl1.snoc (at' := at') hf1H.out
  clear hn1 hm4
  go_upto_region 5 with (fail)
  refine Rt.wp_region_text [0, 0, 0, 1, 0, 0, 0, 0, 1, 0, 0, 2] (by kernel_rfl) (by kernel_rfl) ?_
  apply txt_move rfl rfl; (· (simp only [Act.put, Act.eval, List.setIfInBounds_toArray, List.set_cons_zero, List.set_cons_succ, Array.getD_eq_getD_getElem?, List.getElem?_toArray, List.getElem?_cons_zero, List.getElem?_cons_succ, Option.getD_some]; with_reducible rfl))
  apply txt_pure rfl rfl rfl; (· (intro w; go_simp; with_reducible rfl)); (· (simp only [Act.put, Act.eval, List.setIfInBounds_toArray, List.set_cons_zero, List.set_cons_succ, Array.getD_eq_getD_getElem?, List.getElem?_toArray, List.getElem?_cons_zero, List.getElem?_cons_succ, Option.getD_some]; with_reducible rfl))
  apply txt_pure rfl rfl rfl; (· (intro w; go_simp; with_reducible rfl)); (· (simp only [Act.put, Act.eval, List.setIfInBounds_toArray, List.set_cons_zero, List.set_cons_succ, Array.getD_eq_getD_getElem?, List.getElem?_toArray, List.getElem?_cons_zero, List.getElem?_cons_succ, Option.getD_some]; with_reducible rfl))
  apply txt_read rfl rfl rfl; (· (go_simp; with_reducible rfl)); (· (simp only [Act.put, Act.eval, List.setIfInBounds_toArray, List.set_cons_zero, List.set_cons_succ, Array.getD_eq_getD_getElem?, List.getElem?_toArray, List.getElem?_cons_zero, List.getElem?_cons_succ, Option.getD_some]; with_reducible rfl))
  apply txt_move rfl rfl; (· (simp only [Act.put, Act.eval, List.setIfInBounds_toArray, List.set_cons_zero, List.set_cons_succ, Array.getD_eq_getD_getElem?, List.getElem?_toArray, List.getElem?_cons_zero, List.getElem?_cons_succ, Option.getD_some]; with_reducible rfl))
  apply txt_move rfl rfl; (· (simp only [Act.put, Act.eval, List.setIfInBounds_toArray, List.set_cons_zero, List.set_cons_succ, Array.getD_eq_getD_getElem?, List.getElem?_toArray, List.getElem?_cons_zero, List.getElem?_cons_succ, Option.getD_some]; with_reducible rfl))
  apply txt_pure rfl rfl rfl; (· (intro w; go_simp; with_reducible rfl)); (· (simp only [Act.put, Act.eval, List.setIfInBounds_toArray, List.set_cons_zero, List.set_cons_succ, Array.getD_eq_getD_getElem?, List.getElem?_toArray, List.getElem?_cons_zero, List.getElem?_cons_succ, Option.getD_some]; with_reducible rfl))
  apply txt_pure rfl rfl rfl; (· (intro w; go_simp; with_reducible rfl)); (· (simp only [Act.put, Act.eval, List.setIfInBounds_toArray, List.set_cons_zero, List.set_cons_succ, Array.getD_eq_getD_getElem?, List.getElem?_toArray, List.getElem?_cons_zero, List.getElem?_cons_succ, Option.getD_some]; with_reducible rfl))
  apply txt_read rfl rfl rfl; (· (go_simp; with_reducible rfl)); (· (simp only [Act.put, Act.eval, List.setIfInBounds_toArray, List.set_cons_zero, List.set_cons_succ, Array.getD_eq_getD_getElem?, List.getElem?_toArray, List.getElem?_cons_zero, List.getElem?_cons_succ, Option.getD_some]; with_reducible rfl))
  apply txt_pure rfl rfl rfl; (· (intro w; go_simp; with_reducible rfl)); (· (simp only [Act.put, Act.eval, List.setIfInBounds_toArray, List.set_cons_zero, List.set_cons_succ, Array.getD_eq_getD_getElem?, List.getElem?_toArray, List.getElem?_cons_zero, List.getElem?_cons_succ, Option.getD_some]; with_reducible rfl))
  apply txt_pure rfl rfl rfl; (· (intro w; go_simp; with_reducible rfl)); (· (simp only [Act.put, Act.eval, List.setIfInBounds_toArray, List.set_cons_zero, List.set_cons_succ, Array.getD_eq_getD_getElem?, List.getElem?_toArray, List.getElem?_cons_zero, List.getElem?_cons_succ, Option.getD_some]; with_reducible rfl))
  apply txt_do rfl rfl rfl; (· (go_simp; with_reducible rfl)); (· (simp only [Act.put, Act.eval, List.setIfInBounds_toArray, List.set_cons_zero, List.set_cons_succ, Array.getD_eq_getD_getElem?, List.getElem?_toArray, List.getElem?_cons_zero, List.getElem?_cons_succ, Option.getD_some]; with_reducible rfl))
  with_reducible refine txt_nil ?_
  have hF : TimerAt W5 tb bm (.slice (some ⟨g3, 0, none⟩) n1 cap3) (l1 ++ [(id, at')]) := by
    have hln : (l1 ++ [(id, at')]).length = n1 := by rw [List.length_append, List.length_singleton]; exact hn1H.out
    have hk : Kept (fun x => x = bm) W4 W5 := Kept.turned (S := fun x => x = bm) ((Kept.refl _ W4).drew) ht5 (.inl rfl)
    refine ⟨(hk.block tb (Array.getElem?_eq_some_iff.1 htop4).1 h1.tb_bm).trans htop4, ?_, ⟨_, by rw [hln]; exact hm5, hpl5⟩, ?_⟩
    · rw [hln]
      refine row_kept hrow4 hk ?_
      rcases hnew with e | e
      · exact fun e2 => h1.own_bm (by rw [e, e2])
      · have := hm1.lt; exact fun e2 => by omega
    · intro p hp
      rcases List.mem_append.1 hp with hp | hp
      · exact h1.wfs p hp
      · obtain rfl := List.mem_singleton.1 hp; exact ⟨hid, hat⟩
  have hk5 : Kept (Mine tb bm v) w W5 := by
    refine hk1.trans (Kept.turned (Kept.drew (hkM.mono fun x _ e => ?_)) ht5 (.inl (.inr (.inl rfl))))
    rcases e with e | e
    · exact .inl e
    · exact .inr (.inr (by rw [← hv1H.out]; exact e))
  have hnew2 : Hid ((Value.slice (some ⟨g3, 0, none⟩) n1 cap3).ownBlock = v.ownBlock ∨ ∃ q, (Value.slice (some ⟨g3, 0, none⟩) n1 cap3).ownBlock = some q ∧ w.heap.size ≤ q) := Lib.hid (by
    rcases hnew with e | e
    · exact .inl (by rw [← hv1H.out, e]; rfl)
    · exact .inr ⟨g3, rfl, Nat.le_trans hss.out e⟩)
  have hr5 := r1.push hpl1 (at' := at') hf1H.out
  have c0 := hF.c0
  clear hm5 ht5 hpl5 hrow4 htop4 hkM hnew hput c1
  go_wp2_with fail
  refine (up_any hF l1.length (by simp) (by simp; omega)).mono ?_
  rintro e w6 ⟨rfl, h6, hk6⟩
  go_wp2
  go_ret
  refine ⟨rfl, .slice (some ⟨g3, 0, none⟩) n1 cap3, ⟨_, h6, hr5⟩, hnew2.out, ?_⟩
  exact hk5.thenAt hk6 fun x hx e => by
    rcases e with e | e
    · exact .inr (.inl e)
    · rcases hnew2.out with h | ⟨q, h, hq⟩
      · exact .inr (.inr (by rw [← h]; exact e))
      · rw [h] at e; have := Option.some.inj e; omega
end Go.Proofs.Ytmgapdbfaoflmaa.Tm
