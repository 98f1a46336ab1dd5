/- Due of the timer. -/
import Derived.Test.YtmgapdbfaoflmaaTmE
import Derived.Deep.LoopGhost
namespace Go.Proofs.Ytmgapdbfaoflmaa.Tm
open Go.RowKit Rt
set_option linter.unusedSimpArgs false
set_option linter.unusedVariables false

def idsC (A : List It) : List Value := A.map fun p => .int .i64 p.1
theorem info3 : (Try.prog.info? 3).map (fun i => (i.zero, i.size, i.bytes)) = some (some (.int .i64 0), 1, 8) := by kernel_rfl
theorem due_split {A T : List It} {now : Int} (hA : ∀ p ∈ A, p.2 ≤ now) (hT : ∀ p T', T = p :: T' → now < p.2) : dueS (A ++ T) now = A ∧ restS (A ++ T) now = T := by
  unfold dueS restS
  induction A with
  | nil =>
    cases T with
    | nil => simp
    | cons p T' =>
      have := hT p T' rfl
      simp only [List.nil_append]
      rw [List.takeWhile_cons_of_neg (by simp; omega), List.dropWhile_cons_of_neg (by simp; omega)]
      exact ⟨rfl, rfl⟩
  | cons a A ih =>
    have ha := hA a (by simp)
    have := ih fun p hp => hA p (by simp [hp])
    rw [List.cons_append, List.takeWhile_cons_of_pos (by simpa using ha), List.dropWhile_cons_of_pos (by simpa using ha), this.1, this.2]
    exact ⟨rfl, rfl⟩
theorem TimerAt.mine_lt {w : World} {tb bm : Nat} {v : Value} {l : List It} (h : TimerAt w tb bm v l) {k : Nat} (hk : Mine tb bm v k) : k < w.heap.size := by
  rcases hk with rfl | rfl | e
  · exact h.lt
  · exact h.mlt
  · exact (h.row.lt k e).2
theorem TimerS.mine_lt {w : World} {tb bm : Nat} {v : Value} {S : List It} (h : TimerS w tb bm v S) {k : Nat} (hk : Mine tb bm v k) : k < w.heap.size := by obtain ⟨l, h, _⟩ := h; exact h.mine_lt hk
theorem TimerS.keep {w w' : World} {tb bm : Nat} {v : Value} {S : List It} (h : TimerS w tb bm v S) (hb : ∀ k, k < w.heap.size → Mine tb bm v k → w'.heap[k]? = w.heap[k]?) : TimerS w' tb bm v S := by obtain ⟨l, h, r⟩ := h; exact ⟨l, h.keep hb, r⟩
/-- A row of one's own stays while other blocks are written. -/
theorem own_kept {w w' : World} {base : Nat} {e : TypeId} {size n : Nat} {v : Value} {xs : List Value} (h : w.ownsRow base e size v n xs) {S : Nat → Prop} (hk : Kept S w w') (hs : ∀ k, base ≤ k → v.ownBlock = some k → ¬ S k) : w'.ownsRow base e size v n xs := by
  obtain ⟨h1, h2⟩ := h
  refine ⟨h1, ?_⟩
  rcases h2 with h2 | ⟨g, cap, cur, hv, hg, hh, r⟩
  · exact .inl h2
  · exact .inr ⟨g, cap, cur, hv, hg, (hk.block g (Array.getElem?_eq_some_iff.1 hh).1 (hs g hg (by rw [hv]; rfl))).trans hh, r⟩
theorem mine_eq {tb bm : Nat} {v v' : Value} (h : v'.ownBlock = v.ownBlock) : Mine tb bm v' = Mine tb bm v := by funext k; simp [Mine, h]

/-- The state of Due ahead of a round. -/
structure DueI (w : World) (tb bm : Nat) (v : Value) (S : List It) (now : Int) (n : Nat) (out : Value) (wr : World) (A T : List It) (v' : Value) : Prop where
  split : S = A ++ T
  due : ∀ p ∈ A, p.2 ≤ now
  len : T.length = n
  tm : TimerS wr tb bm v' T
  own : v'.ownBlock = v.ownBlock
  row : wr.ownsRow w.heap.size 3 1 out A.length (idsC A)
  kept : Kept (Mine tb bm v) w wr
section
variable {w : World} {tb bm : Nat} {v : Value} {S : List It} {now : Int} {n : Nat} {out : Value} {wr : World} {A T : List It} {v' : Value}
theorem DueI.out_new (h : DueI w tb bm v S now n out wr A T v') (hm : ∀ k, Mine tb bm v k → k < w.heap.size) (k : Nat) (h1 : w.heap.size ≤ k) (h2 : out.ownBlock = some k) : ¬ Mine tb bm v k := fun e => by have := hm k e; omega
theorem DueI.done (h : DueI w tb bm v S now n out wr A T v') {w2 : World} (hb : Below wr.heap.size wr w2) (hT : ∀ p T', T = p :: T' → now < p.2) (hm : ∀ k, Mine tb bm v k → k < w.heap.size) :
    w2.ownsRow w.heap.size 3 1 out (dueS S now).length (idsC (dueS S now)) ∧ TimerS w2 tb bm v' (restS S now) ∧ v'.ownBlock = v.ownBlock ∧ Kept (Mine tb bm v) w w2 := by
  obtain ⟨d1, d2⟩ := due_split h.due hT
  rw [h.split, d1, d2]
  exact ⟨own_kept h.row (Kept.of_below (S := fun _ => False) hb) (fun _ _ _ h => h), h.tm.below hb, h.own, h.kept.trans (Kept.of_below hb)⟩
end
/-- The state of Due behind a Cancel. -/
structure DueJ (w : World) (tb bm : Nat) (v : Value) (S : List It) (now : Int) (n : Nat) (out : Value) (wr : World) (A : List It) (p : It) (T : List It) (v' : Value) : Prop where
  split : S = A ++ p :: T
  due : ∀ p ∈ A, p.2 ≤ now
  len : T.length + 1 = n
  tm : TimerS wr tb bm v' T
  own : v'.ownBlock = v.ownBlock
  row : wr.ownsRow w.heap.size 3 1 out A.length (idsC A)
  kept : Kept (Mine tb bm v) w wr
theorem DueI.cut {w : World} {tb bm : Nat} {v : Value} {S : List It} {now : Int} {n : Nat} {out : Value} {wr : World} {A T : List It} {v' : Value} {p : It} (h : DueI w tb bm v S now n out wr A (p :: T) v') {w2 w3 : World} {v3 : Value} (hb : Below wr.heap.size wr w2) (ht3 : TimerS w3 tb bm v3 T) (hv3 : v3.ownBlock = v'.ownBlock) (hk3 : Kept (Mine tb bm v') w2 w3) (hm : ∀ k, Mine tb bm v k → k < w.heap.size) :
    DueJ w tb bm v S now n out w3 A p T v3 := by
  rw [mine_eq h.own] at hk3
  refine ⟨h.split, h.due, h.len, ht3, hv3.trans h.own, ?_, (h.kept.trans (Kept.of_below hb)).trans hk3⟩
  exact own_kept (own_kept h.row (Kept.of_below (S := fun _ => False) hb) (fun _ _ _ h => h)) hk3 (h.out_new hm)
theorem DueJ.push {w : World} {tb bm : Nat} {v : Value} {S : List It} {now : Int} {n : Nat} {out : Value} {wr : World} {A T : List It} {v' : Value} {p : It} (h : DueJ w tb bm v S now n out wr A p T v') {v4 : Value} {w4 : World} {c : Value} {t : TypeId}
    (hown : w4.ownsRow w.heap.size 3 1 v4 (A.length + 1) (idsC A ++ [.int .i64 p.1])) (hg : (wr.alloc (.cells #[c] t)).grownBy w4 out.ownBlock) (hp : p.2 ≤ now) (hm : ∀ k, Mine tb bm v k → k < w.heap.size) :
    DueI w tb bm v S now T.length v4 w4 (A ++ [p]) T v' := by
  have hk : Kept (fun k => w.heap.size ≤ k) wr w4 := ⟨hg.os, hg.tape, hg.output, Nat.le_trans (by simp) hg.size, fun k hk hs => (hg.block k (by simp; omega) (fun e => hs (by
    have := h.row.lt k e.symm; exact this.1))).trans (Below.heap_alloc _ _ _ hk)⟩
  refine ⟨by rw [h.split]; simp, fun q hq => ?_, rfl, h.tm.keep fun k hk' hmk => hk.block k hk' (fun e => ?_), h.own, ?_, h.kept.thenAt hk fun x hx e => by omega⟩
  · rcases List.mem_append.1 hq with hq | hq
    · exact h.due q hq
    · obtain rfl := List.mem_singleton.1 hq; exact hp
  · rw [mine_eq h.own] at hmk
    have := hm k hmk; omega
  · rw [List.length_append, idsC, List.map_append]; exact hown
set_option maxRecDepth 100000 in
set_option maxHeartbeats 2000000 in
theorem Due_S {w : World} {tb bm : Nat} {v : Value} {S : List It} (h : TimerS w tb bm v S) (now : Int) (hnow : wf now) (hn : S.length < 1099511627775) :
    Calls Try.prog 37 #[.pointer (some ⟨tb, 0, none⟩), .int .i64 now] w fun e w' => ∃ out v', e = .returned out ∧ w'.ownsRow w.heap.size 3 1 out (dueS S now).length (idsC (dueS S now)) ∧ TimerS w' tb bm v' (restS S now) ∧ v'.ownBlock = v.ownBlock ∧ Kept (Mine tb bm v) w w' := by
  obtain ⟨i0, hi, hz0, hz1, hz2⟩ := info_parts info3
  have hml := fun k hk => h.mine_lt (k := k) hk
  have hmlH := Lib.hid hml
  clear hml
  go_enter Try.func37, Try.ntmps37
  go_wp2
  go_loopg [5] S.length (fun n out wr => ∃ A T v', DueI w tb bm v S now n out wr A T v')
  case atStart => exact ⟨[], S, v, rfl, by simp, rfl, h, rfl, World.ownsRow_nil _ _ _ _, Kept.refl _ _⟩
  case round =>
    clear h
    obtain ⟨A, T, v', hI⟩ := hrel
    cases T with
    | nil =>
      have ht := hI.tm
      go_wp2_with fail
      refine (Next_nil ht).mono ?_
      rintro e w2 ⟨rfl, hb2⟩
      have hend := hI.done hb2 (fun p T' e => by cases e) hmlH.out
      go_wp2
      go_ret
      exact ⟨_, v', rfl, hend⟩
    | cons p T =>
      have ht := hI.tm
      have hlen : S.length = A.length + (T.length + 1) := by rw [hI.split]; simp
      have hwp := ht.wfs p (by simp)
      have hlenH := Lib.hid hlen
      have hTn : T.length < 1099511627775 := by omega
      clear hlen
      go_wp2_with fail
      refine (Next_cons ht hTn).mono ?_
      rintro e w2 ⟨rfl, hb2⟩
      by_cases hdue : now < p.2
      · have hend := hI.done hb2 (fun q T' e => by cases e; exact hdue) hmlH.out
        clear hI ht
        go_wp2
        go_ret
        exact ⟨_, v', rfl, hend⟩
      · have hdue' : p.2 ≤ now := by omega
        have ht2 := ht.below hb2
        clear ht
        go_wp2_with fail
        refine (Cancel_S ht2 p.1 hwp.1 (by simp; omega)).mono ?_
        rintro e w3 ⟨rfl, v3, ht3, hv3, hk3⟩
        rw [eraseS_head] at ht3
        have hJ := hI.cut hb2 ht3 hv3 hk3 hmlH.out
        have hAn : A.length < 1099511627775 := by have := hlenH.out; omega
        have hw3 := hJ.kept.size
        have hrow := hJ.row
        clear ht3 hv3 hk3 hI ht2 hb2
        go_wp2_with (at_builtin; refine wpList_append_own_at _ rfl (.tmp 26) (.tmp 28) 68 rfl w.heap.size 3 i0 (.int .i64 0) 1 8 Try.underlying68 hi hz0 hz1 hz2 rfl (by decide) u5 A.length (idsC A) rfl (hrow.alloc _) ⟨w3.heap.size, 0, none⟩ 1 1 [.int .i64 p.1] rfl rfl (cell_one_new _ _ _) (by intro u hu; simp at hu; rw [hu]; rfl) (by unfold maxLen; omega) (by omega) (by simp; omega) ?_; intro v4 w4 hown4 hgrow4 hnil4 hat4; clear hnil4)
        go_roundg T.length
        case rel => exact ⟨A ++ [p], T, v3, hJ.push hown4 hgrow4 hdue' hmlH.out⟩
        case measure => have := hJ.len; omega
end Go.Proofs.Ytmgapdbfaoflmaa.Tm
