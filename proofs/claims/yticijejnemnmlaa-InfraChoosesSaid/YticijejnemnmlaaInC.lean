/- Who may be asked; what is known of all servers; change. -/
import Derived.Test.YticijejnemnmlaaInB
import Derived.Test.YticijejnemnmlaaRs
import Derived.Deep.CutRange
namespace Go.Proofs.Yticijejnemnmlaa.If
open Go.RowKit Rt
set_option linter.unusedSimpArgs false
set_option linter.unusedVariables false
theorem box5_new (w : World) (s : Sv) : Box5 (w.alloc (.cells #[.int .i64 s.x0, .int .i64 s.x1, .int .i64 s.x2, .slice s.la s.ln s.lc, .int .i64 s.pl] 59)) w.heap.size s := World.alloc_heap_new w _
theorem box5_put {w : World} {b : Nat} (s : Sv) (h0 : w.heap[b]? = some (.cells #[.int .i64 0, .int .i64 0, .int .i64 0, .slice none 0 0, .int .i64 0] 59 (0, 0))) : Box5 (((((w.setCell ⟨b, 0, none⟩ (.int .i64 s.x0)).setCell ⟨b, 1, none⟩ (.int .i64 s.x1)).setCell ⟨b, 2, none⟩ (.int .i64 s.x2)).setCell ⟨b, 3, none⟩ (.slice s.la s.ln s.lc)).setCell ⟨b, 4, none⟩ (.int .i64 s.pl)) b s :=
  Nm.blk_put (Nm.blk_put (Nm.blk_put (Nm.blk_put (Nm.blk_put h0 0 (.int .i64 s.x0)) 1 (.int .i64 s.x1)) 2 (.int .i64 s.x2)) 3 (.slice s.la s.ln s.lc)) 4 (.int .i64 s.pl)
theorem below_put {w w1 : World} {b B : Nat} (s : Sv) (h : Below B w1 w) (hb : B ≤ b) : Below B w1 (((((w.setCell ⟨b, 0, none⟩ (.int .i64 s.x0)).setCell ⟨b, 1, none⟩ (.int .i64 s.x1)).setCell ⟨b, 2, none⟩ (.int .i64 s.x2)).setCell ⟨b, 3, none⟩ (.slice s.la s.ln s.lc)).setCell ⟨b, 4, none⟩ (.int .i64 s.pl)) :=
  ((((h.setCell (p := ⟨b, 0, none⟩) hb _).setCell (p := ⟨b, 1, none⟩) hb _).setCell (p := ⟨b, 2, none⟩) hb _).setCell (p := ⟨b, 3, none⟩) hb _).setCell (p := ⟨b, 4, none⟩) hb _
/-! ### who may be asked -/
def rightA (a : Ad) : Bool := a.v6 || (decide (a.hi = 0) && decide (a.lo / 4294967296 = 0))
set_option maxHeartbeats 1000000 in
theorem RightA_any (w : World) (a : Ad) (ha : a.ok) : Calls Try.prog 14 #[a.val] w fun e w' => e = .returned (.bool (rightA a)) ∧ Below w.heap.size w w' := by
  obtain ⟨v6, hi, lo⟩ := a
  obtain ⟨⟨h1, h2⟩, h3, h4⟩ := ha
  simp only at h1 h2 h3 h4
  unfold Ad.val
  simp only
  cases v6 with
  | true =>
    go_enter Try.func14, Try.ntmps14
    go_wp2
    go_ret
    exact ⟨rfl, (Below.refl _ _).alloc (Nat.le_refl _) _⟩
  | false =>
    by_cases hh : hi = 0
    · subst hh
      by_cases hl : lo / 4294967296 = 0
      · have hR : Hid (rightA ⟨false, 0, lo⟩ = true) := Lib.hid (by simp [rightA, hl])
        go_enter Try.func14, Try.ntmps14
        go_wp2
        go_ret
        exact ⟨by rw [hR.out]; first | rfl | simp [hl], (Below.refl _ _).alloc (Nat.le_refl _) _⟩
      · have hR : Hid (rightA ⟨false, 0, lo⟩ = false) := Lib.hid (by simp [rightA, hl])
        go_enter Try.func14, Try.ntmps14
        go_wp2
        go_ret
        exact ⟨by rw [hR.out]; first | rfl | simp [hl], (Below.refl _ _).alloc (Nat.le_refl _) _⟩
    · have hR : Hid (rightA ⟨false, hi, lo⟩ = false) := Lib.hid (by simp [rightA, hh])
      have hh2 : (hi == 0) = false := by simpa using hh
      go_enter Try.func14, Try.ntmps14
      go_wp2
      go_ret
      exact ⟨by rw [hR.out]; first | rfl | simp [hh], (Below.refl _ _).alloc (Nat.le_refl _) _⟩
def isT (now : Int) : Bool := decide (0 ≤ now) && decide (now ≤ 4503599627370496)
theorem isTime_any (w : World) (now : Int) : Calls Try.prog 29 #[.int .i64 now] w fun e w' => e = .returned (.bool (isT now)) ∧ w' = w := by
  by_cases h1 : 0 ≤ now
  · by_cases h2 : now ≤ 4503599627370496
    · have hR : Hid (isT now = true) := Lib.hid (by simp [isT, h1, h2])
      go_enter Try.func29, Try.ntmps29
      go_wp2
      go_ret
      exact ⟨by rw [hR.out]; first | rfl | simp [h1, h2], rfl⟩
    · have hR : Hid (isT now = false) := Lib.hid (by simp [isT, h2])
      go_enter Try.func29, Try.ntmps29
      go_wp2
      go_ret
      exact ⟨by rw [hR.out]; first | rfl | simp [h1, h2], rfl⟩
  · have hR : Hid (isT now = false) := Lib.hid (by simp [isT, h1])
    go_enter Try.func29, Try.ntmps29
    go_wp2
    go_ret
    exact ⟨by rw [hR.out]; first | rfl | simp [h1], rfl⟩
/-! ### what is known -/
def RelO (w : World) (P : Nat → Prop) : Option Sv → Option Sp → Prop
  | none, none => True
  | some s, some p => Rel w s p ∧ ∀ k, s.sl.ownBlock = some k → P k
  | _, _ => False
theorem RelO.keep {w w' : World} {P P' : Nat → Prop} {a : Option Sv} {b : Option Sp} (h : RelO w P a b) (hk : ∀ k, P k → w'.heap[k]? = w.heap[k]? ∧ P' k) (hs : w.heap.size ≤ w'.heap.size) : RelO w' P' a b := by
  cases a with
  | none => cases b with | none => trivial | some p => exact h.elim
  | some s =>
    cases b with
    | none => exact h.elim
    | some p => exact ⟨h.1.keep (fun k _ e => (hk k (h.2 k e)).1) hs, fun k e => (hk k (h.2 k e)).2⟩
theorem RelO.some? {w : World} {P : Nat → Prop} {a : Option Sv} {b : Option Sp} (h : RelO w P a b) : a.isSome = b.isSome ∧ Rel w (a.getD zeroS) (b.getD zeroP) ∧ ∀ k, (a.getD zeroS).sl.ownBlock = some k → P k := by
  cases a with
  | none => cases b with | none => exact ⟨rfl, Rel.zero w, fun k e => by cases e⟩ | some p => exact h.elim
  | some s =>
    cases b with
    | none => exact h.elim
    | some p => exact ⟨rfl, h.1, h.2⟩
/-- What is known of servers: of each address what. -/
structure InfS (w : World) (U : Nat → Prop) (xb : Nat) (most : Nat) (st : Ad → Option Sp) (n : Nat) : Prop where
  ex : ∃ (S : Nat → Prop) (tb bm : Nat) (l : List KV), TabS w S tb bm most l ∧ (∀ x, S x → U x) ∧ U xb ∧ ¬ S xb ∧ w.cell? ⟨xb, 0, none⟩ = some (.pointer (some ⟨tb, 0, none⟩)) ∧ l.length = n ∧ ∀ k, RelO w (fun x => U x ∧ ¬ S x) (lookV l k) (st k)
  lt : ∀ x, U x → x < w.heap.size
section
variable {w w' : World} {U : Nat → Prop} {xb most n : Nat} {st : Ad → Option Sp} {a : Ad}
theorem InfS.keep (h : InfS w U xb most st n) (hb : ∀ x, U x → w'.heap[x]? = w.heap[x]?) (hs : w.heap.size ≤ w'.heap.size) : InfS w' U xb most st n := by
  obtain ⟨S, tb, bm, l, h1, h2, h3, h4, h5, h6, h7⟩ := h.ex
  exact ⟨⟨S, tb, bm, l, h1.keep (fun x hx => hb x (h2 x hx)) hs, h2, h3, h4, (World.cell?_of_block (hb xb h3)).trans h5, h6, fun k => (h7 k).keep (fun x hx => ⟨hb x hx.1, hx⟩) hs⟩, fun x hx => Nat.lt_of_lt_of_le (h.lt x hx) hs⟩
theorem InfS.below (h : InfS w U xb most st n) (hb : Below w.heap.size w w') : InfS w' U xb most st n := h.keep (fun x hx => hb.block x (h.lt x hx)) hb.size
theorem InfS.kept (h : InfS w U xb most st n) {R : Nat → Prop} (hb : Kept R w w') (hs : ∀ x, U x → ¬ R x) : InfS w' U xb most st n := h.keep (fun x hx => hb.block x (h.lt x hx) (hs x hx)) hb.size
theorem InfS.drew (h : InfS w U xb most st n) : InfS w.drew U xb most st n := h.keep (fun _ _ => rfl) (Nat.le_refl _)
/-- Look at what is known of one. -/
theorem InfS.look (h : InfS w U xb most st n) (ha : a.ok) : ∃ (tb : Nat) (s : Sv), w.cell? ⟨xb, 0, none⟩ = some (.pointer (some ⟨tb, 0, none⟩)) ∧ Rel w s ((st a).getD zeroP) ∧ (∀ k, s.sl.ownBlock = some k → U k) ∧
    ∀ w1, Below w.heap.size w w1 → Calls Try.prog 38 #[.pointer (some ⟨tb, 0, none⟩), .agg #[.bool a.v6, .int .u64 a.hi, .int .u64 a.lo]] w1 fun e w' => e = .returned (.tuple #[.agg #[.int .i64 s.x0, .int .i64 s.x1, .int .i64 s.x2, .slice s.la s.ln s.lc, .int .i64 s.pl], .bool (st a).isSome]) ∧ Below w1.heap.size w1 w' := by
  obtain ⟨S, tb, bm, l, h1, h2, h3, h4, h5, h6, h7⟩ := h.ex
  obtain ⟨e1, e2, e3⟩ := (h7 a).some?
  refine ⟨tb, _, h5, e2, fun k hk => (e3 k hk).1, fun w1 hb => ?_⟩
  rw [← e1]
  exact Look_S (h1.below hb) ha
end
theorem lookV_same (l : List KV) (k : Ad) (v : Sv) : lookV ((k, v) :: delK l k) k = some v := by simp [lookV]
theorem lookV_other (l : List KV) {k j : Ad} (v : Sv) (h : j ≠ k) : lookV ((k, v) :: delK l k) j = lookV l j := by
  unfold lookV delK
  rw [List.find?_cons]
  have e : decide (k = j) = false := by simpa using fun e : k = j => h e.symm
  rw [e]
  simp only
  rw [List.find?_filter]
  congr 1
  congr 1
  funext p
  by_cases hp : p.1 = j
  · subst hp; simp [h]
  · simp [hp]
theorem TabS.del_len {w : World} {S : Nat → Prop} {tb bm most : Nat} {l : List KV} (h : TabS w S tb bm most l) (k : Ad) : (delK l k).length + 1 = if (lookV l k).isSome then l.length else l.length + 1 := by
  obtain ⟨L, rfl, h2, h3⟩ := h.ex
  rcases h2.cases k with hno | ⟨A, p, B, rfl, rfl, hno⟩
  · have hno' : ∀ q ∈ L.map (·.2), q.1 ≠ k := fun q hq => by obtain ⟨p, hp, rfl⟩ := List.mem_map.1 hq; exact hno p hp
    rw [lookV_no hno', delK_no hno']
    rfl
  · have hno' : ∀ q ∈ A.map (·.2) ++ B.map (·.2), q.1 ≠ p.2.1 := fun q hq => by
      rw [← List.map_append] at hq; obtain ⟨r, hr, rfl⟩ := List.mem_map.1 hq; exact hno r hr
    rw [List.map_append, List.map_cons, lookV_yes hno', delK_yes hno']
    simp; omega
/-- What is known when it was changed of one. -/
def upd (st : Ad → Option Sp) (a : Ad) (f : Sp → Sp) : Ad → Option Sp := fun k => if k = a then some (f ((st a).getD zeroP)) else st k
set_option maxHeartbeats 4000000 in
set_option maxRecDepth 100000 in
theorem change_any {w : World} {U : Nat → Prop} {xb most n : Nat} {st : Ad → Option Sp} {a : Ad} {g : FuncId} {caps : Array Value} {f : Sp → Sp} (h : InfS w U xb most st n) (ha : a.ok) (hroom : n < most) (hg : Does w g caps f) (hen : ∀ args w, (callFunc g args).run Try.prog w = .ok (.enter g args) w) :
    Calls Try.prog 23 #[.pointer (some ⟨xb, 0, none⟩), a.val, .func (.func g) #[] caps] w fun e w' =>
      (rightA a = false ∧ e = .returned (.int .i64 1) ∧ Below w.heap.size w w') ∨ (rightA a = true ∧ e = .returned (.int .i64 0) ∧ ∃ U', InfS w' U' xb most (upd st a f) (if (st a).isSome then n else n + 1) ∧ Later U U' w w' ∧ Kept U w w') := by
  obtain ⟨S, tb, bm, l, h1, h2, h3, h4, h5, h6, h7⟩ := h.ex
  obtain ⟨e1, e2, e3⟩ := (h7 a).some?
  have hlook := Lib.hid (fun w1 (hb : Below w.heap.size w w1) => Look_S (h1.below hb) ha)
  rw [e1] at hlook
  obtain ⟨s, hs⟩ : ∃ s, (lookV l a).getD zeroS = s := ⟨_, rfl⟩
  rw [hs] at hlook e2 e3
  obtain ⟨ok, hok⟩ : ∃ b, (st a).isSome = b := ⟨_, rfl⟩
  rw [hok] at hlook
  unfold Sv.val Ad.val at hlook
  have hRight := Lib.hid (fun w1 => RightA_any w1 a ha)
  have h1H := Lib.hid h1
  have haH := Lib.hid ha
  have h7H := Lib.hid h7
  have e1H := Lib.hid e1
  have e2H := Lib.hid e2
  have e3H := Lib.hid e3
  have h5H := Lib.hid h5
  have hxl := h.lt xb h3
  have hltH := Lib.hid h.lt
  have h2H := Lib.hid h2
  have h4H := Lib.hid h4
  have h3H := Lib.hid h3
  have hgH := Lib.hid hg
  have hsH := Lib.hid hs
  have hokH := Lib.hid hok
  have h6H := Lib.hid h6
  have hroomH := Lib.hid hroom
  clear h h1 h2 h3 h4 h5 h6 h7 e1 e2 e3 hg hs hok hroom ha
  obtain ⟨n2, hn2⟩ : ∃ m, (if (st a).isSome then n else n + 1) = m := ⟨_, rfl⟩
  rw [hn2]
  have hn2H := Lib.hid hn2
  clear hn2
  unfold Ad.val
  cases hR : rightA a with
  | false =>
    go_enter Try.func23, Try.ntmps23
    go_wp2_with (go_at_call 14; refine (hRight.out _).mono ?_; rintro e w1 ⟨rfl, hb1⟩; rw [hR])
    go_ret
    exact .inl ⟨trivial, rfl, ((Below.refl _ _).alloc (Nat.le_refl _) _).trans (hb1.mono (by simp))⟩
  | true =>
    obtain ⟨w0, hw0⟩ : ∃ w0, w.alloc (.cells #[.bool a.v6, .int .u64 a.hi, .int .u64 a.lo] 31) = w0 := ⟨_, rfl⟩
    have hw0b : Below w.heap.size w w0 := by rw [← hw0]; exact (Below.refl _ _).alloc (Nat.le_refl _) _
    have hw0s : w0.heap.size = w.heap.size + 1 := by rw [← hw0]; simp
    obtain ⟨k0, k1, k2⟩ := (cellsNew w a.cs 31 hw0).1.three
    simp only [Nat.zero_add] at k1 k2
    obtain ⟨ab, hab⟩ : ∃ x, w.heap.size = x := ⟨_, rfl⟩
    have habH := Lib.hid hab
    have hw0H := Lib.hid hw0
    rw [hab] at k0 k1 k2 hw0s hxl
    clear hw0 hab
    go_enter Try.func23, Try.ntmps23
    go_upto_region 3 with (rw [hw0H.out]; go_at_call 14; refine (hRight.out _).mono ?_; rintro e w1 ⟨rfl, hb1⟩; rw [hR])
    rw [habH.out]
    have hbA : Below ab w w1 := by rw [← habH.out]; exact hw0b.trans (hb1.mono (by rw [hw0s, habH.out]; omega))
    have q0 := (hb1.cell (p := ⟨ab, 0, none⟩) (by show ab < _; omega)).trans k0
    have q1 := (hb1.cell (p := ⟨ab, 1, none⟩) (by show ab < _; omega)).trans k1
    have q2 := (hb1.cell (p := ⟨ab, 2, none⟩) (by show ab < _; omega)).trans k2
    have cx := (hbA.cell (p := ⟨xb, 0, none⟩) hxl).trans h5H.out
    have hLook := Lib.hid (hlook.out w1.drew (habH.out ▸ hbA.drew))
    have hs1 := hb1.size
    have hbAH := Lib.hid hbA
    clear k0 k1 k2 hbA hb1
    have hL2 := Lib.hid (hlook.out (w1.alloc (.cells #[.int .i64 0, .int .i64 0, .int .i64 0, .slice none 0 0, .int .i64 0] 59)).drew (habH.out ▸ (hbAH.out.alloc (by omega) _).drew))
    rw [hw0s] at hs1
    clear hlook
    have hz0 := Lib.hid (World.alloc_heap_new w1 (.cells #[.int .i64 0, .int .i64 0, .int .i64 0, .slice none 0 0, .int .i64 0] 59))
    go_cut [7, 8] from 12 to 20 (fun p q wx => ∃ kb, p = .pointer (some ⟨kb, 0, none⟩) ∧ q = .bool ok ∧ (ab + 1) ≤ kb ∧ Box5 wx kb s ∧ Below (ab + 1) w1 wx)
    case first =>
      refine Rt.wp_region_split [0, 0, 0, 1, 1, 2, 0, 0, 0, 2, 3, 0] [0, 1, 2, 3, 4] [5, 6, 7, 8, 9, 10, 11] [9, 5, 6, 7, 8, 10, 11] (by kernel_rfl) (by kernel_rfl) ?_
      apply ord_move rfl rfl rfl rfl; (· (simp only [Act.put, Act.eval, List.setIfInBounds_toArray, List.set_cons_zero, List.set_cons_succ, Array.getD_eq_getD_getElem?, List.getElem?_toArray, List.getElem?_cons_zero, List.getElem?_cons_succ, Option.getD_some, List.getElem_toArray, List.getElem_cons_succ, List.getElem_cons_zero]; with_reducible rfl))
      apply ord_pure rfl rfl rfl; (· (intro w; go_simp; with_reducible rfl)); (· (simp only [Act.put, Act.eval, List.setIfInBounds_toArray, List.set_cons_zero, List.set_cons_succ, Array.getD_eq_getD_getElem?, List.getElem?_toArray, List.getElem?_cons_zero, List.getElem?_cons_succ, Option.getD_some, List.getElem_toArray, List.getElem_cons_succ, List.getElem_cons_zero]; with_reducible rfl))
      apply ord_pure rfl rfl rfl; (· (intro w; go_simp; with_reducible rfl)); (· (simp only [Act.put, Act.eval, List.setIfInBounds_toArray, List.set_cons_zero, List.set_cons_succ, Array.getD_eq_getD_getElem?, List.getElem?_toArray, List.getElem?_cons_zero, List.getElem?_cons_succ, Option.getD_some, List.getElem_toArray, List.getElem_cons_succ, List.getElem_cons_zero]; with_reducible rfl))
      apply ord_read rfl rfl rfl; (· (intro W hW; have g0 := cell_up hW cx; have g1 := cell_up hW q0; have g2 := cell_up hW q1; have g3 := cell_up hW q2; go_simp; with_reducible rfl)); (· (simp only [Act.put, Act.eval, List.setIfInBounds_toArray, List.set_cons_zero, List.set_cons_succ, Array.getD_eq_getD_getElem?, List.getElem?_toArray, List.getElem?_cons_zero, List.getElem?_cons_succ, Option.getD_some, List.getElem_toArray, List.getElem_cons_succ, List.getElem_cons_zero]; with_reducible rfl))
      apply ord_read rfl rfl rfl; (· (intro W hW; have g0 := cell_up hW cx; have g1 := cell_up hW q0; have g2 := cell_up hW q1; have g3 := cell_up hW q2; go_simp; with_reducible rfl)); (· (simp only [Act.put, Act.eval, List.setIfInBounds_toArray, List.set_cons_zero, List.set_cons_succ, Array.getD_eq_getD_getElem?, List.getElem?_toArray, List.getElem?_cons_zero, List.getElem?_cons_succ, Option.getD_some, List.getElem_toArray, List.getElem_cons_succ, List.getElem_cons_zero]; with_reducible rfl))
      with_reducible refine ord_nil ?_
      refine ⟨?_, ?_⟩
      · skip
        refine ord_call rfl rfl rfl (by go_simp; first | exact ⟨rfl, rfl⟩ | exact ⟨⟨rfl, rfl⟩, rfl⟩ | (refine ⟨?_, ?_⟩; rfl; rfl)) ?_
        refine hLook.out.mono ?_
        rintro e w2 ⟨rfl, hb2⟩
        refine ⟨_, rfl, hb2, ?_⟩
        simp only [Act.put, Act.eval, List.setIfInBounds_toArray, List.set_cons_zero, List.set_cons_succ, Array.getD_eq_getD_getElem?, List.getElem?_toArray, List.getElem?_cons_zero, List.getElem?_cons_succ, Option.getD_some, List.getElem_toArray, List.getElem_cons_succ, List.getElem_cons_zero]
        apply ord_move rfl rfl rfl rfl; (· (simp only [Act.put, Act.eval, List.setIfInBounds_toArray, List.set_cons_zero, List.set_cons_succ, Array.getD_eq_getD_getElem?, List.getElem?_toArray, List.getElem?_cons_zero, List.getElem?_cons_succ, Option.getD_some, List.getElem_toArray, List.getElem_cons_succ, List.getElem_cons_zero]; with_reducible rfl))
        apply ord_pure rfl rfl rfl; (· (intro w; go_simp; with_reducible rfl)); (· (simp only [Act.put, Act.eval, List.setIfInBounds_toArray, List.set_cons_zero, List.set_cons_succ, Array.getD_eq_getD_getElem?, List.getElem?_toArray, List.getElem?_cons_zero, List.getElem?_cons_succ, Option.getD_some, List.getElem_toArray, List.getElem_cons_succ, List.getElem_cons_zero]; with_reducible rfl))
        apply ord_pure rfl rfl rfl; (· (intro w; go_simp; with_reducible rfl)); (· (simp only [Act.put, Act.eval, List.setIfInBounds_toArray, List.set_cons_zero, List.set_cons_succ, Array.getD_eq_getD_getElem?, List.getElem?_toArray, List.getElem?_cons_zero, List.getElem?_cons_succ, Option.getD_some, List.getElem_toArray, List.getElem_cons_succ, List.getElem_cons_zero]; with_reducible rfl))
        apply ord_new rfl rfl rfl; (· (go_simp; exact ⟨rfl, rfl⟩)); (· (exact (Below.refl _ _).alloc (Nat.le_refl _) _)); (· (simp only [Act.put, Act.eval, List.setIfInBounds_toArray, List.set_cons_zero, List.set_cons_succ, Array.getD_eq_getD_getElem?, List.getElem?_toArray, List.getElem?_cons_zero, List.getElem?_cons_succ, Option.getD_some, List.getElem_toArray, List.getElem_cons_succ, List.getElem_cons_zero]; with_reducible rfl))
        apply ord_do rfl rfl rfl; (· (go_simp; with_reducible rfl)); (· (simp only [Act.put, Act.eval, List.setIfInBounds_toArray, List.set_cons_zero, List.set_cons_succ, Array.getD_eq_getD_getElem?, List.getElem?_toArray, List.getElem?_cons_zero, List.getElem?_cons_succ, Option.getD_some, List.getElem_toArray, List.getElem_cons_succ, List.getElem_cons_zero]; with_reducible rfl))
        apply ord_pure rfl rfl rfl; (· (intro w; go_simp; with_reducible rfl)); (· (simp only [Act.put, Act.eval, List.setIfInBounds_toArray, List.set_cons_zero, List.set_cons_succ, Array.getD_eq_getD_getElem?, List.getElem?_toArray, List.getElem?_cons_zero, List.getElem?_cons_succ, Option.getD_some, List.getElem_toArray, List.getElem_cons_succ, List.getElem_cons_zero]; with_reducible rfl))
        with_reducible refine ord_nil ?_
        go_wp2_with fail
        go_meet
        case rel => exact ⟨_, rfl, rfl, by have := hb2.size; have h9 : w1.heap.size ≤ w2.heap.size := this; omega, box5_new w2 s, ((Below.refl _ w1).drew.trans (hb2.mono (by show _ ≤ w1.heap.size; omega))).alloc (by have := hb2.size; have h9 : w1.heap.size ≤ w2.heap.size := this; omega) _⟩
      · skip
        apply ord_new rfl rfl rfl; (· (go_simp; exact ⟨rfl, rfl⟩)); (· (exact (Below.refl _ _).alloc (Nat.le_refl _) _)); (· (simp only [Act.put, Act.eval, List.setIfInBounds_toArray, List.set_cons_zero, List.set_cons_succ, Array.getD_eq_getD_getElem?, List.getElem?_toArray, List.getElem?_cons_zero, List.getElem?_cons_succ, Option.getD_some, List.getElem_toArray, List.getElem_cons_succ, List.getElem_cons_zero]; with_reducible rfl))
        refine ord_call rfl rfl rfl (by go_simp; first | exact ⟨rfl, rfl⟩ | exact ⟨⟨rfl, rfl⟩, rfl⟩ | (refine ⟨?_, ?_⟩; rfl; rfl)) ?_
        refine hL2.out.mono ?_
        rintro e w2 ⟨rfl, hb2⟩
        refine ⟨_, rfl, hb2, ?_⟩
        have hz1 := (hb2.block w1.heap.size (by simp)).trans hz0.out
        have z0 : w2.cell? ⟨w1.heap.size, 0, none⟩ = some (.int .i64 0) := by { unfold World.cell?; simp only [hz1]; rfl }
        have z1 : w2.cell? ⟨w1.heap.size, 1, none⟩ = some (.int .i64 0) := by { unfold World.cell?; simp only [hz1]; rfl }
        have z2 : w2.cell? ⟨w1.heap.size, 2, none⟩ = some (.int .i64 0) := by { unfold World.cell?; simp only [hz1]; rfl }
        have z3 : w2.cell? ⟨w1.heap.size, 3, none⟩ = some (.slice none 0 0) := by { unfold World.cell?; simp only [hz1]; rfl }
        have z4 : w2.cell? ⟨w1.heap.size, 4, none⟩ = some (.int .i64 0) := by { unfold World.cell?; simp only [hz1]; rfl }
        have y : ∀ j, w2.frozen? ⟨w1.heap.size, j, none⟩ = false := fun j => by { unfold World.frozen?; simp only [hz1]; simp }
        have hz1H := Lib.hid hz1
        clear hz1
        simp only [Act.put, Act.eval, List.setIfInBounds_toArray, List.set_cons_zero, List.set_cons_succ, Array.getD_eq_getD_getElem?, List.getElem?_toArray, List.getElem?_cons_zero, List.getElem?_cons_succ, Option.getD_some, List.getElem_toArray, List.getElem_cons_succ, List.getElem_cons_zero]
        apply ord_move rfl rfl rfl rfl; (· (simp only [Act.put, Act.eval, List.setIfInBounds_toArray, List.set_cons_zero, List.set_cons_succ, Array.getD_eq_getD_getElem?, List.getElem?_toArray, List.getElem?_cons_zero, List.getElem?_cons_succ, Option.getD_some, List.getElem_toArray, List.getElem_cons_succ, List.getElem_cons_zero]; with_reducible rfl))
        apply ord_pure rfl rfl rfl; (· (intro w; go_simp; with_reducible rfl)); (· (simp only [Act.put, Act.eval, List.setIfInBounds_toArray, List.set_cons_zero, List.set_cons_succ, Array.getD_eq_getD_getElem?, List.getElem?_toArray, List.getElem?_cons_zero, List.getElem?_cons_succ, Option.getD_some, List.getElem_toArray, List.getElem_cons_succ, List.getElem_cons_zero]; with_reducible rfl))
        apply ord_pure rfl rfl rfl; (· (intro w; go_simp; with_reducible rfl)); (· (simp only [Act.put, Act.eval, List.setIfInBounds_toArray, List.set_cons_zero, List.set_cons_succ, Array.getD_eq_getD_getElem?, List.getElem?_toArray, List.getElem?_cons_zero, List.getElem?_cons_succ, Option.getD_some, List.getElem_toArray, List.getElem_cons_succ, List.getElem_cons_zero]; with_reducible rfl))
        apply ord_do rfl rfl rfl; (· (go_simp; with_reducible rfl)); (· (simp only [Act.put, Act.eval, List.setIfInBounds_toArray, List.set_cons_zero, List.set_cons_succ, Array.getD_eq_getD_getElem?, List.getElem?_toArray, List.getElem?_cons_zero, List.getElem?_cons_succ, Option.getD_some, List.getElem_toArray, List.getElem_cons_succ, List.getElem_cons_zero]; with_reducible rfl))
        apply ord_pure rfl rfl rfl; (· (intro w; go_simp; with_reducible rfl)); (· (simp only [Act.put, Act.eval, List.setIfInBounds_toArray, List.set_cons_zero, List.set_cons_succ, Array.getD_eq_getD_getElem?, List.getElem?_toArray, List.getElem?_cons_zero, List.getElem?_cons_succ, Option.getD_some, List.getElem_toArray, List.getElem_cons_succ, List.getElem_cons_zero]; with_reducible rfl))
        with_reducible refine ord_nil ?_
        go_wp2_with fail
        go_meet
        case rel => exact ⟨_, rfl, rfl, by omega, box5_put s hz1H.out, below_put s ((((Below.refl _ w1).alloc (by omega) _).drew).trans (hb2.mono (by show _ ≤ (w1.alloc _).heap.size; rw [World.size_alloc]; omega))) (by omega)⟩
    case rest =>
      obtain ⟨kb, rfl, rfl, hkge, hBx, hbAW1⟩ := hcut
      have hbAW := Lib.hid hbAW1
      have hbW : Below w.heap.size w wc := by rw [habH.out]; exact hbAH.out.trans (hbAW.out.mono (Nat.le_succ _))
      have hRelW : Rel wc s ((st a).getD zeroP) := e2H.out.below hbW
      have hcl := Lib.hid (hgH.out wc kb s _ hbW (by rw [habH.out]; omega) hBx hRelW (fun k hk e => by have := hltH.out k (e3H.out k hk).1; rw [habH.out] at this; omega))
      have q0' := (hbAW.out.cell (p := ⟨ab, 0, none⟩) (Nat.lt_succ_self _)).trans q0
      have q1' := (hbAW.out.cell (p := ⟨ab, 1, none⟩) (Nat.lt_succ_self _)).trans q1
      have q2' := (hbAW.out.cell (p := ⟨ab, 2, none⟩) (Nat.lt_succ_self _)).trans q2
      have cx' := (hbAW.out.cell (p := ⟨xb, 0, none⟩) (show xb < _ by omega)).trans cx
      have hbWH := Lib.hid hbW
      have hBxlt := hBx.lt
      have hsW : ab + 1 ≤ wc.heap.size := Nat.le_trans hs1 hbAW.out.size
      clear hBx q0 q1 q2 cx hLook hL2 hbW hRelW hbAW1
      have hen2 := hen (#[.pointer (some ⟨kb, 0, none⟩)] ++ caps) wc
      go_wp2_with fail
      refine hcl.out.mono ?_
      rintro e w3 ⟨⟨rr, rfl⟩, s3, hB3, hRel3, hK3, hO3⟩
      go_upto_region 5 with (fail)
      have p0 := (hK3.cell (p := ⟨ab, 0, none⟩) (show ab < _ by omega) (by show ¬ ab = kb; omega)).trans q0'
      have p1 := (hK3.cell (p := ⟨ab, 1, none⟩) (show ab < _ by omega) (by show ¬ ab = kb; omega)).trans q1'
      have p2 := (hK3.cell (p := ⟨ab, 2, none⟩) (show ab < _ by omega) (by show ¬ ab = kb; omega)).trans q2'
      have px := (hK3.cell (p := ⟨xb, 0, none⟩) (show xb < _ by omega) (by show ¬ xb = kb; omega)).trans cx'
      obtain ⟨b0, b1, b2, b3, b4⟩ := hB3.cells
      have hKw : Hid (Kept (fun _ => False) w w3) := Lib.hid (((Kept.of_below hbWH.out).trans (hK3.mono (T := fun x => ab ≤ x) (fun k _ e => by omega))).mono (T := fun _ => False) (fun k hk e => by rw [habH.out] at hk; omega))
      have hTab : TabS w3.drew S tb bm most l := (h1H.out.kept hKw.out (fun _ _ e => e)).drew
      have hPut := Lib.hid (Put_S hTab haH.out s3 (.inr (by rw [h6H.out]; exact hroomH.out)))
      unfold Ad.val Sv.val at hPut
      have hRel3H := Lib.hid hRel3
      have hKsz := Lib.hid hK3.size
      have hO3H := Lib.hid hO3
      clear q0' q1' q2' cx' hTab hB3 hRel3 hO3 hK3
      refine Rt.wp_region_text [0, 0, 0, 1, 1, 1, 2] (by kernel_rfl) (by kernel_rfl) ?_
      apply txt_move rfl rfl; (· (simp only [Act.put, Act.eval, List.setIfInBounds_toArray, List.set_cons_zero, List.set_cons_succ, Array.getD_eq_getD_getElem?, List.getElem?_toArray, List.getElem?_cons_zero, List.getElem?_cons_succ, Option.getD_some, List.getElem_toArray, List.getElem_cons_succ, List.getElem_cons_zero]; with_reducible rfl))
      apply txt_pure rfl rfl rfl; (· (intro w; go_simp; with_reducible rfl)); (· (simp only [Act.put, Act.eval, List.setIfInBounds_toArray, List.set_cons_zero, List.set_cons_succ, Array.getD_eq_getD_getElem?, List.getElem?_toArray, List.getElem?_cons_zero, List.getElem?_cons_succ, Option.getD_some, List.getElem_toArray, List.getElem_cons_succ, List.getElem_cons_zero]; with_reducible rfl))
      apply txt_pure rfl rfl rfl; (· (intro w; go_simp; with_reducible rfl)); (· (simp only [Act.put, Act.eval, List.setIfInBounds_toArray, List.set_cons_zero, List.set_cons_succ, Array.getD_eq_getD_getElem?, List.getElem?_toArray, List.getElem?_cons_zero, List.getElem?_cons_succ, Option.getD_some, List.getElem_toArray, List.getElem_cons_succ, List.getElem_cons_zero]; with_reducible rfl))
      apply txt_read rfl rfl rfl; (· (go_simp; with_reducible rfl)); (· (simp only [Act.put, Act.eval, List.setIfInBounds_toArray, List.set_cons_zero, List.set_cons_succ, Array.getD_eq_getD_getElem?, List.getElem?_toArray, List.getElem?_cons_zero, List.getElem?_cons_succ, Option.getD_some, List.getElem_toArray, List.getElem_cons_succ, List.getElem_cons_zero]; with_reducible rfl))
      apply txt_read rfl rfl rfl; (· (go_simp; with_reducible rfl)); (· (simp only [Act.put, Act.eval, List.setIfInBounds_toArray, List.set_cons_zero, List.set_cons_succ, Array.getD_eq_getD_getElem?, List.getElem?_toArray, List.getElem?_cons_zero, List.getElem?_cons_succ, Option.getD_some, List.getElem_toArray, List.getElem_cons_succ, List.getElem_cons_zero]; with_reducible rfl))
      apply txt_read rfl rfl rfl; (· (go_simp; with_reducible rfl)); (· (simp only [Act.put, Act.eval, List.setIfInBounds_toArray, List.set_cons_zero, List.set_cons_succ, Array.getD_eq_getD_getElem?, List.getElem?_toArray, List.getElem?_cons_zero, List.getElem?_cons_succ, Option.getD_some, List.getElem_toArray, List.getElem_cons_succ, List.getElem_cons_zero]; with_reducible rfl))
      apply txt_call rfl rfl rfl
      · (go_simp; first | exact ⟨rfl, rfl⟩ | exact ⟨⟨rfl, rfl⟩, rfl⟩ | (refine ⟨?_, ?_⟩; rfl; rfl))
      refine hPut.out.mono ?_
      rintro e w4 ⟨⟨r4, rfl⟩, S4, hT4, hL4, hK4⟩
      refine ⟨_, rfl, ?_⟩
      simp only [Act.put, Act.eval, List.setIfInBounds_toArray, List.set_cons_zero, List.set_cons_succ, Array.getD_eq_getD_getElem?, List.getElem?_toArray, List.getElem?_cons_zero, List.getElem?_cons_succ, Option.getD_some, List.getElem_toArray, List.getElem_cons_succ, List.getElem_cons_zero]
      with_reducible refine txt_nil ?_
      go_wp2
      go_ret
      have hs3 : wc.heap.size ≤ w3.heap.size := hKsz.out
      have hs4 : w3.heap.size ≤ w4.heap.size := hK4.size
      have hrow3 := fun k (e : s3.sl.ownBlock = some k) => hRel3H.out.row.lt e
      have hsW3 : w.heap.size ≤ w3.heap.size := by rw [habH.out]; omega
      have hS3 : ∀ k, s3.sl.ownBlock = some k → ¬ S k := fun k e => by
        rcases hO3H.out k e with e2 | e2
        · exact (e3H.out k e2).2
        · exact fun hk => by have h1 := hltH.out k (h2H.out k hk); rw [habH.out] at h1; omega
      have hKall : Kept U w w4 := ((hKw.out.mono (fun _ _ e => e.elim)).drew.trans (hK4.mono (fun k _ hk => h2H.out k hk)))
      refine .inr ⟨by trivial, rfl, fun x => U x ∨ (w.heap.size ≤ x ∧ x < w4.heap.size), ⟨⟨S4, tb, bm, _, hT4, fun x hx => ?_, .inl h3H.out, fun hx => ?_, ?_, ?_, fun k => ?_⟩, fun x hx => ?_⟩, fun x hx => hx.imp id (·.1), hKall⟩
      · rcases hL4 x hx with e | e
        · exact .inl (h2H.out x e)
        · exact .inr ⟨Nat.le_trans hsW3 e, hT4.slt x hx⟩
      · rcases hL4 xb hx with e | e
        · exact h4H.out e
        · have e' : w3.heap.size ≤ xb := e
          omega
      · exact (hK4.cell (p := ⟨xb, 0, none⟩) (show xb < w3.heap.size by omega) h4H.out).trans px
      · have hd := h1H.out.del_len a
        rw [e1H.out, h6H.out, hn2H.out] at hd
        simpa using hd
      · by_cases hka : k = a
        · subst hka
          rw [lookV_same]
          have e : upd st k f k = some (f ((st k).getD zeroP)) := if_pos rfl
          rw [e]
          refine ⟨hRel3H.out.keep (fun j hj e => hK4.block j hj (hS3 j e)) hs4, fun j e => ⟨?_, fun hj => ?_⟩⟩
          · rcases hO3H.out j e with e2 | e2
            · exact .inl (e3H.out j e2).1
            · exact .inr ⟨by rw [habH.out]; omega, Nat.lt_of_lt_of_le (hrow3 j e) hs4⟩
          · rcases hL4 j hj with e2 | e2
            · exact hS3 j e e2
            · have := hrow3 j e
              have e2' : w3.heap.size ≤ j := e2
              omega
        · rw [lookV_other l s3 hka]
          have e : upd st a f k = st k := if_neg hka
          rw [e]
          refine (h7H.out k).keep (fun j hj => ⟨?_, .inl hj.1, fun hj4 => ?_⟩) (Nat.le_trans hsW3 hs4)
          · exact (hK4.block j (Nat.lt_of_lt_of_le (hltH.out j hj.1) hsW3) hj.2).trans (hKw.out.block j (hltH.out j hj.1) (fun e => e))
          · rcases hL4 j hj4 with e2 | e2
            · exact hj.2 e2
            · have := hltH.out j hj.1
              have e2' : w3.heap.size ≤ j := e2
              omega
      · rcases hx with e | e
        · exact Nat.lt_of_lt_of_le (hltH.out x e) (Nat.le_trans hsW3 hs4)
        · exact e.2
end Go.Proofs.Yticijejnemnmlaa.If
