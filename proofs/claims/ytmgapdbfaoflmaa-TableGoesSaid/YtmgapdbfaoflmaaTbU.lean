/- TableGoes walked. -/
import Derived.Test.YtmgapdbfaoflmaaTbQ
namespace Go.Proofs.Ytmgapdbfaoflmaa.Tb
open Go.RowKit Go.Shelf Rt Tm
set_option linter.unusedSimpArgs false
set_option linter.unusedVariables false
/-- While the keys are put. -/
structure PG (w1 wr : World) (S : Nat → Prop) (tb bm Bt : Nat) (l : List KV) : Prop where
  tab : TabS wr S tb bm 1000 l
  own : ∀ x, S x → w1.heap.size ≤ x ∧ x ≠ Bt
  box : Boxed wr Bt 25 (.pointer (some ⟨tb, 0, none⟩))
  below : Below w1.heap.size w1 wr
section
variable {w1 wr w' : World} {S : Nat → Prop} {tb bm Bt : Nat} {l l' : List KV} {k : ByteArray}
theorem PG.later (h : PG w1 wr S tb bm Bt l) (hb : Below wr.heap.size wr w') : PG w1 w' S tb bm Bt l :=
  ⟨h.tab.below hb, h.own, (hb.block Bt h.box.lt).trans h.box, h.below.trans (hb.mono h.below.size)⟩
theorem PG.put (h : PG w1 wr S tb bm Bt l) (hk : k.size ≤ maxLen) (v : Int) : Calls Try.prog 16 #[.pointer (some ⟨tb, 0, none⟩), .string k, .int .i64 v] wr fun e w' => (∃ u, e = .returned u) ∧ ∃ S', PG w1 w' S' tb bm Bt (putK 1000 l k v) := by
  refine (Put_S h.tab hk v).mono ?_
  rintro e w' ⟨rfl, S', h1, h2, h3⟩
  have hlt := h.box.lt
  refine ⟨⟨_, rfl⟩, S', h1, fun x hx => ?_, (h3.block Bt hlt (fun e => (h.own Bt e).2 rfl)).trans h.box, h.below.trans (h3.below h.below.size (fun x hx e => by have := (h.own x e).1; omega))⟩
  rcases h2 x hx with e | e
  · exact h.own x e
  · exact ⟨by have := h.below.size; omega, by omega⟩
theorem fn_nil (fn : Fn) (a c : Array Value) (w : World) : (binOp .eql 47 (.func fn a c) .nilFunc).run Try.prog w = .ok (.bool false) w := by
  have h : ∀ d : Nat, (Op.equalIn (d + 1) 47 (.func fn a c) .nilFunc).run Try.prog w = .ok false w := fun d => by
    simp [Op.equalIn, run_underlying Try.underlying47]
  simp only [binOp]
  simp [Op.equal, Op.maxDepth, h 9999]
theorem goes_told (nd : Nat) (fd : Nat → ByteArray) (m : Nat) (fb : Nat → ByteArray) : toldF nd fd m fb 0 = [] ∧ (∀ j, j ≤ j → m < (toldF nd fd m fb j).length → ∀ i, j ≤ i → toldF nd fd m fb i = toldF nd fd m fb j) ∧ (∀ j, Gone nd fd (toldF nd fd m fb j).length (fb j) → toldF nd fd m fb (j + 1) = toldF nd fd m fb j) ∧
    (∀ j, ¬ m < (toldF nd fd m fb j).length → ¬ Gone nd fd (toldF nd fd m fb j).length (fb j) → toldF nd fd m fb (j + 1) = toldF nd fd m fb j ++ [fb j]) ∧ (∀ i j, i ≤ j → toldF nd fd m fb i <+: toldF nd fd m fb j) ∧ ∀ j, (toldF nd fd m fb j).length ≤ j :=
  ⟨rfl, fun j _ h i hi => toldF_stop h hi, fun j h => stepT_gone h, fun j h1 h2 => stepT_told h1 h2, fun i j h => toldF_prefix h, fun j => (toldF_len j).2⟩
theorem TabS.szs (h : TabS wr S tb bm 1000 l) : ∀ p ∈ l, p.1.size ≤ maxLen := by
  obtain ⟨L, rfl, h2, _⟩ := h.ex
  intro p hp
  obtain ⟨r, hr, rfl⟩ := List.mem_map.1 hp
  exact h2.sz r hr
theorem goes_mid {w4 wA : World} {Bd : Nat} {vd : Value} {ab : Option Addr} {nb cb : Nat} {xs : List Value} {m : Int} (hP : PG w1 wr S tb bm Bt l) (bd : Boxed w1 Bd 22 vd) (hb4 : Below wr.heap.size wr w4) (hrow : w4.ownsRow wr.heap.size 9 1 (.slice ab nb cb) nb xs)
    (hwA : (((w4.alloc (.cells #[.slice ab nb cb] 22)).alloc (.cells #[.slice none 0 0] 22)).alloc (.cells #[.int .i64 m] 3)).alloc (.cells #[.pointer (some ⟨tb, 0, none⟩)] 25) = wA) :
    TabS wA S tb bm 1000 l ∧ Boxed wA Bd 22 vd ∧ Boxed wA Bt 25 (.pointer (some ⟨tb, 0, none⟩)) ∧ Boxed wA w4.heap.size 22 (.slice ab nb cb) ∧ Boxed wA (w4.heap.size + 1) 22 (.slice none 0 0) ∧ Boxed wA (w4.heap.size + 2) 3 (.int .i64 m) ∧ Boxed wA (w4.heap.size + 3) 25 (.pointer (some ⟨tb, 0, none⟩)) ∧
      wA.ownsRow wr.heap.size 9 1 (.slice ab nb cb) nb xs ∧ (∀ x, S x → x < wr.heap.size) ∧ Below w1.heap.size w1 wA ∧ wA.heap.size = w4.heap.size + 4 ∧ wr.heap.size ≤ w4.heap.size := by
  have hbA : Below w4.heap.size w4 wA := by
    rw [← hwA]
    exact ((((Below.refl _ w4).alloc (Nat.le_refl _) _).alloc (by simp) _).alloc (by simp; omega) _).alloc (by simp; omega) _
  have hb : Below wr.heap.size wr wA := hb4.trans (hbA.mono hb4.size)
  have hPA := hP.later hb
  have x1 := (((Boxed.new w4 22 (.slice ab nb cb)).alloc (.cells #[.slice none 0 0] 22)).alloc (.cells #[.int .i64 m] 3)).alloc (.cells #[.pointer (some ⟨tb, 0, none⟩)] 25)
  have x2 := ((Boxed.new (w4.alloc (.cells #[.slice ab nb cb] 22)) 22 (.slice none 0 0)).alloc (.cells #[.int .i64 m] 3)).alloc (.cells #[.pointer (some ⟨tb, 0, none⟩)] 25)
  have x3 := (Boxed.new ((w4.alloc (.cells #[.slice ab nb cb] 22)).alloc (.cells #[.slice none 0 0] 22)) 3 (.int .i64 m)).alloc (.cells #[.pointer (some ⟨tb, 0, none⟩)] 25)
  have x4 := Boxed.new (((w4.alloc (.cells #[.slice ab nb cb] 22)).alloc (.cells #[.slice none 0 0] 22)).alloc (.cells #[.int .i64 m] 3)) 25 (.pointer (some ⟨tb, 0, none⟩))
  simp only [World.size_alloc] at x1 x2 x3 x4
  rw [hwA] at x1 x2 x3 x4
  exact ⟨hPA.tab, (hPA.below.block Bd bd.lt).trans bd, hPA.box, x1, x2, x3, x4, own_keep hrow (fun x hx => hbA.block x (own_lt hrow hx)), hP.tab.slt, hPA.below, by rw [← hwA]; simp, hb4.size⟩
/-- All that the law says of them. -/
theorem goes_all {w wA : World} {Bd Bb Bo Bl Ba : Nat} {ad : Option Addr} {nd cd : Nat} {fd : Nat → ByteArray} {ab : Option Addr} {nb cb m : Nat} {n0 : Nat} (hT : TabS wA S tb bm 1000 l) (hbw : Below w.heap.size w w1) (hb1 : Below w1.heap.size w1 wA)
    (bd : Boxed wA Bd 22 (.slice ad nd cd)) (bt : Boxed wA Bt 25 (.pointer (some ⟨tb, 0, none⟩))) (bb : Boxed wA Bb 22 (.slice ab nb cb)) (bo : Boxed wA Bo 22 (.slice none 0 0)) (bl : Boxed wA Bl 3 (.int .i64 (m : Int))) (ba : Boxed wA Ba 25 (.pointer (some ⟨tb, 0, none⟩)))
    (hrow : wA.ownsRow n0 9 1 (.slice ab nb cb) nb (l.map fun p => Value.string p.1)) (hS : ∀ x, S x → w1.heap.size ≤ x ∧ x ≠ Bt ∧ x < n0) (hBd : Bd < w1.heap.size) (hBt : Bt < n0) (hn0 : n0 ≤ Bb) (hBo : Bb < Bo) (hBl : Bo < Bl) (hBa : Bl < Ba) (hBo1 : w1.heap.size ≤ Bo)
    (hlen : l.length = nb) (hnb : nb ≤ 60) (hm : m < 40) (hcb : nb ≤ cb ∧ cb ≤ maxLen) (hdc : nd ≤ cd ∧ cd ≤ maxLen) (hDd : RowB w ad nd fd) (hds : ∀ j, j < nd → (fd j).size ≤ 140737488351232) :
    Calls Try.prog 56 #[.func (.func 28) #[] #[.pointer (some ⟨Bo, 0, none⟩), .pointer (some ⟨Bd, 0, none⟩), .pointer (some ⟨Bt, 0, none⟩), .pointer (some ⟨Bb, 0, none⟩), .pointer (some ⟨Bl, 0, none⟩)], .pointer (some ⟨Ba, 0, none⟩)] wA fun e w' => e = .returned (.tuple #[]) ∧
      ∃ wF F l', St wF F Bd Bt Bb Bl tb m ad nd cd fd ab nb cb (fun i => (l.map (·.1)).getD i ⟨#[]⟩) ∧ GI w wF w' F tb Bo (toldF nd fd m (fun i => (l.map (·.1)).getD i ⟨#[]⟩) nb) l' := by
  obtain ⟨fb, hfb⟩ : ∃ fb : Nat → ByteArray, (fun i => (l.map (·.1)).getD i ⟨#[]⟩) = fb := ⟨_, rfl⟩
  rw [hfb]
  have hfbj : ∀ j (hj : j < l.length), l[j].1 = fb j := fun j hj => by
    rw [← hfb]
    simp [List.getD_eq_getElem?_getD, List.getElem?_map, List.getElem?_eq_getElem hj]
  have hBoA := bo.lt
  refine All1_any hT ba.cell (fun p hp => TabS.szs hT p hp) (enters_of Try.func28 (by kernel_rfl) rfl) fun w1' hb1' => ?_
  obtain ⟨F, hF⟩ : ∃ F : Nat → Prop, (fun x => x < w1'.heap.size ∧ ¬ S x ∧ x ≠ Bo) = F := ⟨_, rfl⟩
  have hFe : ∀ x, F x ↔ x < w1'.heap.size ∧ ¬ S x ∧ x ≠ Bo := fun x => by rw [← hF]
  have hsz' := hb1'.size
  have hwsz := hbw.size
  have hb1s := hb1.size
  have hbx : ∀ {B : Nat} {t : TypeId} {v : Value}, Boxed wA B t v → Boxed w1' B t v := fun h => (hb1'.block _ h.lt).trans h
  have hSt : St w1' F Bd Bt Bb Bl tb m ad nd cd fd ab nb cb fb := by
    refine ⟨fun x hx => ((hFe x).1 hx).1, ⟨(hFe Bd).2 ⟨by have := bd.lt; omega, fun e => by have := (hS Bd e).1; omega, by omega⟩, (hbx bd).cell⟩, ⟨(hFe Bt).2 ⟨by have := bt.lt; omega, fun e => (hS Bt e).2.1 rfl, by omega⟩, (hbx bt).cell⟩,
      ⟨(hFe Bb).2 ⟨by have := bb.lt; omega, fun e => by have := (hS Bb e).2.2; omega, by omega⟩, (hbx bb).cell⟩, ⟨(hFe Bl).2 ⟨by have := bl.lt; omega, fun e => by have := (hS Bl e).2.2; omega, by omega⟩, (hbx bl).cell⟩, ?_, ?_, hdc, ⟨hcb.1, hcb.2, by omega⟩⟩
    · intro j hj
      obtain ⟨h1, b, off, e, hc⟩ := hDd j hj
      have hbl := block_lt (hc w (Below.refl _ _))
      refine ⟨hds j hj, b, off, e, (hFe b).2 ⟨by omega, fun e => by have := (hS b e).1; omega, by omega⟩, hc w1' ?_⟩
      exact hbw.trans ((hb1.trans (hb1'.mono hb1s)).mono hwsz)
    · intro j hj
      rcases hrow.2 with ⟨_, e⟩ | ⟨g, cap, cur, hv, hg, hh, r⟩
      · omega
      · cases hv
        have hgl := (Array.getElem?_eq_some_iff.1 hh).1
        have hc := hrow.cellAt j (by rw [Nat.mul_one]; exact hj)
        have hcur := hh
        refine ⟨g, 0, rfl, (hFe g).2 ⟨by omega, fun e => by have := (hS g e).2.2; omega, ?_⟩, ?_⟩
        · rintro rfl
          rw [show wA.heap[g]? = some _ from bo] at hh
          injection hh with hh
          injection hh with e1 e2 e3
          cases e2
        · rw [Nat.zero_add]
          refine ((hb1'.cell (p := ⟨g, j, none⟩) hgl).trans hc).trans ?_
          have hjl : j < l.length := by omega
          rw [← hfbj j hjl]
          simp [List.getD_eq_getElem?_getD, List.getElem?_map, List.getElem?_eq_getElem hjl]
  have hG0 : GI w w1' w1' F tb Bo [] l := by
    refine ⟨fun _ _ => rfl, Nat.le_refl _, hbw.trans ((hb1.trans (hb1'.mono hb1s)).mono hwsz), ⟨by omega, fun e => ((hFe Bo).1 e).2.2 rfl⟩, S, bm, .slice none 0 0, hT.below hb1', hbx bo, World.ownsRow_nil _ _ _ _, fun x hx => ⟨by have := (hS x hx).1; omega, fun e => ((hFe x).1 e).2.1 hx, fun e => by have := (hS x hx).2.2; omega, by simp [Value.ownBlock]⟩, fun x hx => by cases hx⟩
  have hstop : ∀ j, j ≤ nb → m < (toldF nd fd m fb j).length → toldF nd fd m fb nb = toldF nd fd m fb j := fun j hj h => toldF_stop h hj
  refine ⟨fun j w' => ∃ l', GI w w1' w' F tb Bo (toldF nd fd m fb j) l' ∧ Inv nd fd nb fb (toldF nd fd m fb j).length l' ∧ (toldF nd fd m fb j).length ≤ m, fun w' => ∃ l', GI w w1' w' F tb Bo (toldF nd fd m fb nb) l', ⟨l, hG0, ⟨fun i hi => ?_, by show _ ≤ nb + 0; omega⟩, Nat.zero_le _⟩, ?_, ?_, ?_⟩
  · refine ⟨fun _ ⟨j, _, h, _⟩ => (by cases h), fun _ => ?_⟩
    have hil : i < l.length := by omega
    unfold lookV
    rw [Option.isSome_map, List.find?_isSome]
    exact ⟨l[i], List.getElem_mem hil, by rw [decide_eq_true_iff]; exact hfbj i hil⟩
  · rintro j w' ⟨l', hG, hI, hlm⟩ hj
    have hjn : j < nb := by omega
    rw [hfbj j hj]
    refine ⟨hG.cell (p := ⟨Ba, 0, none⟩) ((hFe Ba).2 ⟨by have := ba.lt; omega, fun e => by have := (hS Ba e).2.2; omega, by omega⟩) (hbx ba).cell, ?_⟩
    obtain ⟨S', bm', v', h1, _⟩ := hG.ex
    refine ⟨S', bm', 1000, l', h1, fun hno => ?_, fun v hv => ?_⟩
    · have hg : Gone nd fd (toldF nd fd m fb j).length (fb j) := Classical.byContradiction fun h => by
        have := (hI.there j hjn).2 h
        rw [hno] at this; cases this
      have e : toldF nd fd m fb (j + 1) = toldF nd fd m fb j := stepT_gone hg
      show ∃ l', _
      rw [e]
      exact ⟨l', hG, hI, hlm⟩
    · have hg : ¬ Gone nd fd (toldF nd fd m fb j).length (fb j) := (hI.there j hjn).1 (by rw [hv]; rfl)
      have e : toldF nd fd m fb (j + 1) = toldF nd fd m fb j ++ [fb j] := stepT_told (by omega) hg
      have hle := (toldF_len (nd := nd) (fd := fd) (q := m) (fb := fb) j).2
      refine (Goes1_any hSt hG (by omega) (by omega) (fb j) v).mono ?_
      rintro e' w'' ⟨rfl, hG2, hk2⟩
      have hI2 := hI.step (by omega)
      rw [← e] at hG2
      have hl2 : (toldF nd fd m fb (j + 1)).length = (toldF nd fd m fb j).length + 1 := by rw [e]; simp
      refine ⟨?_, hk2.mono fun x hx hmo hr => hmo.2 ((hFe x).2 ⟨hr.2, fun e => by have := (hS x e).2.2; have := bo.lt; have := bb.lt; omega, by omega⟩)⟩
      by_cases hmm : (toldF nd fd m fb j).length + 1 ≤ m
      · left
        refine ⟨by rw [decide_eq_true hmm], _, hG2, by rw [hl2]; exact hI2, by omega⟩
      · right
        refine ⟨by rw [decide_eq_false hmm], ?_⟩
        rw [hstop (j + 1) (by omega) (by omega)]
        exact ⟨_, hG2⟩
  · rintro w' ⟨l', hG, _, _⟩
    rw [hlen] at hG
    exact ⟨w1', F, l', hSt, hG⟩
  · rintro w' ⟨l', hG⟩
    exact ⟨w1', F, l', hSt, hG⟩
end
set_option maxRecDepth 100000 in
set_option maxHeartbeats 8000000 in
theorem TableGoes_any {w : World} {a : Option Addr} {n c : Nat} (hnc : n ≤ c) (hcm : c ≤ maxLen) {f : Nat → ByteArray} (hD : RowB w a n f)
    {ad : Option Addr} {nd cd : Nat} (hnd : nd ≤ cd) (hcd : cd ≤ maxLen) {fd : Nat → ByteArray} (hDd : RowB w ad nd fd) (hds : ∀ j, j < nd → (fd j).size ≤ 140737488351232) {s0 : Int} (hs0 : wf s0) :
    Calls Try.prog 5 #[.slice a n c, .slice ad nd cd, .int .i64 s0] w fun e w' => e = .returned (.bool true) ∧ Below w.heap.size w w' := by
  have hcm' : (c : Int) ≤ 9223372036854775807 := by unfold maxLen at hcm; omega
  have hcd' : (cd : Int) ≤ 9223372036854775807 := by unfold maxLen at hcd; omega
  have hDH := Lib.hid hD
  have hDdH := Lib.hid hDd
  have hdsH := Lib.hid hds
  have hpk := pk_bd s0 40 (by omega)
  have hpick := fun w => pick_any s0 40 w hs0 (by omega) (by omega)
  obtain ⟨q, hq⟩ : ∃ q, pk s0 40 = q := ⟨_, rfl⟩
  rw [hq] at hpk hpick
  obtain ⟨m, hm⟩ : ∃ m : Nat, q = (m : Int) := ⟨q.toNat, by omega⟩
  subst hm
  have hm2 : m < 40 := by omega
  have hpH := Lib.hid hpick
  clear hD hDd hds hq hpick hpk
  go_enter Try.func5, Try.ntmps5
  go_wp2_with fail
  refine (examples_any _).mono ?_
  rintro e w1 ⟨rfl, hb1⟩
  have bd : Boxed w1 w.heap.size 22 (.slice ad nd cd) := (hb1.block w.heap.size (by simp)).trans (Boxed.new w 22 (.slice ad nd cd))
  have hbw := Lib.hid ((((Below.refl _ w).alloc (Nat.le_refl _) (.cells #[.slice ad nd cd] 22)).trans (hb1.mono (by simp))) : Below w.heap.size w w1)
  clear hb1
  go_wp2_with fail
  refine (New_S w1 1000 (by omega) (by omega)).mono ?_
  rintro e w2 ⟨tb, bm, S, rfl, hT2, hS2, hb2⟩
  have hP := Lib.hid ((⟨hT2.below ((Below.refl _ w2).alloc (Nat.le_refl _) (.cells #[.pointer (some ⟨tb, 0, none⟩)] 25)), fun x hx => ⟨hS2 x hx, by have := hT2.slt x hx; omega⟩, Boxed.new w2 25 _, hb2.alloc hb2.size _⟩ : PG w1 (w2.alloc (.cells #[.pointer (some ⟨tb, 0, none⟩)] 25)) S tb bm w2.heap.size []))
  clear hT2 hS2 hb2
  obtain ⟨Bt, hBt⟩ : ∃ B, w2.heap.size = B := ⟨_, rfl⟩
  obtain ⟨w3, hw3⟩ : ∃ W, w2.alloc (.cells #[.pointer (some ⟨tb, 0, none⟩)] 25) = W := ⟨_, rfl⟩
  rw [hBt, hw3] at hP
  have c3 := hP.out.box.cell
  have hw3H := Lib.hid hw3
  have hBtH := Lib.hid hBt
  clear hw3 hBt
  go_wp2
  rw [hw3H.out, hBtH.out]
  go_loopw [10] (fun i wr => ∃ (k : Nat) (S : Nat → Prop) (l : List KV), i = .int .i64 k ∧ k ≤ n ∧ k ≤ 60 ∧ l.length ≤ k ∧ Hid (PG w1 wr S tb bm Bt l)) (fun i _ => n - (intOf i).toNat)
  case atStart => exact ⟨0, S, [], rfl, Nat.zero_le _, by omega, Nat.le_refl _, hP⟩
  case round =>
    clear hP c3 hw3H hBtH
    obtain ⟨k, S, l, rfl, hk, hk60, hlk, hQ⟩ := hrel
    have cBx := hQ.out.box.cell
    by_cases hkn : k < n
    · have hkn' : (k : Int) < n := by omega
      by_cases h60 : k < 60
      · have h60' : (k : Int) < 60 := by omega
        obtain ⟨hsz, b, off, rfl, hcell⟩ := hDH.out k hkn
        have q0 := hcell wr (hbw.out.trans (hQ.out.below.mono hbw.out.size))
        have hput := Lib.hid ((hQ.out.later (Below.refl _ wr).drew).put hsz (k : Int))
        have hlp : Hid ((putK 1000 l (f k) (k : Int)).length ≤ k + 1) := Lib.hid (by
          unfold putK; rw [List.length_take, List.length_cons]; have := delK_length_le l (f k); omega)
        clear hcell
        go_upto_region 8 with (fail)
        refine Rt.wp_region_text [1, 0, 0, 0, 1, 0, 2] (by kernel_rfl) (by kernel_rfl) ?_
        apply txt_read rfl rfl rfl; (· (go_simp; with_reducible rfl)); (· (simp only [Act.put, Act.eval, List.setIfInBounds_toArray, List.set_cons_zero, List.set_cons_succ, Array.getD_eq_getD_getElem?, List.getElem?_toArray, List.getElem?_cons_zero, List.getElem?_cons_succ, Option.getD_some, List.getElem_toArray, List.getElem_cons_succ, List.getElem_cons_zero]; with_reducible rfl))
        apply txt_move rfl rfl; (· (simp only [Act.put, Act.eval, List.setIfInBounds_toArray, List.set_cons_zero, List.set_cons_succ, Array.getD_eq_getD_getElem?, List.getElem?_toArray, List.getElem?_cons_zero, List.getElem?_cons_succ, Option.getD_some, List.getElem_toArray, List.getElem_cons_succ, List.getElem_cons_zero]; with_reducible rfl))
        apply txt_move rfl rfl; (· (simp only [Act.put, Act.eval, List.setIfInBounds_toArray, List.set_cons_zero, List.set_cons_succ, Array.getD_eq_getD_getElem?, List.getElem?_toArray, List.getElem?_cons_zero, List.getElem?_cons_succ, Option.getD_some, List.getElem_toArray, List.getElem_cons_succ, List.getElem_cons_zero]; with_reducible rfl))
        apply txt_pure rfl rfl rfl; (· (intro w; go_simp; with_reducible rfl)); (· (simp only [Act.put, Act.eval, List.setIfInBounds_toArray, List.set_cons_zero, List.set_cons_succ, Array.getD_eq_getD_getElem?, List.getElem?_toArray, List.getElem?_cons_zero, List.getElem?_cons_succ, Option.getD_some, List.getElem_toArray, List.getElem_cons_succ, List.getElem_cons_zero]; with_reducible rfl))
        apply txt_read rfl rfl rfl; (· (go_simp; with_reducible rfl)); (· (simp only [Act.put, Act.eval, List.setIfInBounds_toArray, List.set_cons_zero, List.set_cons_succ, Array.getD_eq_getD_getElem?, List.getElem?_toArray, List.getElem?_cons_zero, List.getElem?_cons_succ, Option.getD_some, List.getElem_toArray, List.getElem_cons_succ, List.getElem_cons_zero]; with_reducible rfl))
        apply txt_move rfl rfl; (· (simp only [Act.put, Act.eval, List.setIfInBounds_toArray, List.set_cons_zero, List.set_cons_succ, Array.getD_eq_getD_getElem?, List.getElem?_toArray, List.getElem?_cons_zero, List.getElem?_cons_succ, Option.getD_some, List.getElem_toArray, List.getElem_cons_succ, List.getElem_cons_zero]; with_reducible rfl))
        refine txt_call rfl rfl rfl (by go_simp; exact ⟨⟨rfl, rfl⟩, rfl⟩) ?_
        refine hput.out.mono ?_
        rintro e w4 ⟨⟨u, rfl⟩, S', hQ'⟩
        refine ⟨_, rfl, ?_⟩
        simp only [Act.put, Act.eval, List.setIfInBounds_toArray, List.set_cons_zero, List.set_cons_succ, Array.getD_eq_getD_getElem?, List.getElem?_toArray, List.getElem?_cons_zero, List.getElem?_cons_succ, Option.getD_some, List.getElem_toArray, List.getElem_cons_succ, List.getElem_cons_zero]
        with_reducible refine txt_nil ?_
        have hQ2 := Lib.hid hQ'
        clear hQ' hput q0 cBx hQ
        go_wp2
        go_roundw
        case rel => exact ⟨k + 1, S', _, by go_num, by omega, by omega, hlp.out, hQ2⟩
        case measure => first | (simp [intOf]; done) | (simp [intOf]; omega)
      · have h60' : ¬ (k : Int) < 60 := by omega
        have hkle : k ≤ 60 := by omega
        have hkeys := Lib.hid (Keys_S hQ.out.tab)
        have cB := hQ.out.box.cell
        go_wp2_with fail
        refine hkeys.out.mono ?_
        rintro e w4 ⟨v4, rfl, hrow4, hb4⟩
        obtain ⟨nb, hnb⟩ : ∃ nb, l.length = nb := ⟨_, rfl⟩
        rw [hnb] at hrow4 hlk
        obtain ⟨ab, cb, rfl⟩ : ∃ ab cb, v4 = .slice ab nb cb := by
          rcases hrow4.2 with ⟨rfl, rfl⟩ | ⟨g, cap, cur, rfl, _⟩
          · exact ⟨_, _, rfl⟩
          · exact ⟨_, _, rfl⟩
        have hcb : nb ≤ cb ∧ cb ≤ maxLen := by
          rcases hrow4.2 with ⟨hv, e⟩ | ⟨g, cap, cur, hv, _, _, h1, h2, _⟩
          · cases hv; exact ⟨by omega, by unfold maxLen; omega⟩
          · cases hv; exact ⟨h1, h2⟩
        obtain ⟨wA, hwA⟩ : ∃ W, (((w4.alloc (.cells #[.slice ab nb cb] 22)).alloc (.cells #[.slice none 0 0] 22)).alloc (.cells #[.int .i64 (m : Int)] 3)).alloc (.cells #[.pointer (some ⟨tb, 0, none⟩)] 25) = W := ⟨_, rfl⟩
        obtain ⟨y1, y2, y3, y4, y5, y6, y7, y8, y9, y10, y11, y12⟩ := goes_mid hQ.out bd hb4 hrow4 hwA
        have hcall := goes_all (nd := nd) (fd := fd) y1 hbw.out y10 y2 y3 y4 y5 y6 y7 y8 (fun x hx => ⟨(hQ.out.own x hx).1, (hQ.out.own x hx).2, y9 x hx⟩) bd.lt hQ.out.box.lt y12 (by omega) (by omega) (by omega) (by have := hQ.out.below.size; omega) hnb (by omega) hm2 hcb ⟨hnd, hcd⟩ hDdH.out hdsH.out
        obtain ⟨fb, hfb⟩ : ∃ fb : Nat → ByteArray, (fun i => (l.map (·.1)).getD i ⟨#[]⟩) = fb := ⟨_, rfl⟩
        rw [hfb] at hcall
        have hcallH := Lib.hid hcall
        have hfsz : Hid (∀ i, i < nb → (fb i).size ≤ maxLen) := Lib.hid (fun i hi => by
          rw [← hfb]
          have hil : i < l.length := by omega
          simp only [List.getD_eq_getElem?_getD, List.getElem?_map, List.getElem?_eq_getElem hil, Option.map_some, Option.getD_some]
          exact TabS.szs y1 _ (List.getElem_mem hil))
        have c3A := hQ.out.box.cell
        have hQw := hQ.out.below
        have hBtl := hQ.out.box.lt
        have d1 := ((((hQ.out.later hb4).box.alloc (.cells #[.slice ab nb cb] 22)).alloc (.cells #[.slice none 0 0] 22)).alloc (.cells #[.int .i64 (m : Int)] 3)).cell
        clear hcall y1 y2 y3 y4 y5 y6 y7 y8 y9 y10 y12 hrow4 hb4 hfb hkeys cB c3A hQw
        go_wp2_with fail
        refine (hpH.out _).mono ?_
        rintro e w5 ⟨rfl, rfl⟩
        go_wp2_with fail
        refine (All_any _ tb).mono ?_
        rintro e w6 ⟨rfl, rfl⟩
        simp only [World.size_alloc, Nat.add_assoc, Nat.reduceAdd]
        rw [hwA]
        clear hwA d1
        have hfn := fn_nil (.func 56) #[] #[.pointer (some ⟨w4.heap.size + 3, 0, none⟩)] wA
        go_wp2_with fail
        refine hcallH.out.mono ?_
        rintro e w7 ⟨rfl, wF, F, l7, hSt, hG7⟩
        obtain ⟨S7, bm7, v7, h71, h72, h73, h74, h75⟩ := hG7.ex
        obtain ⟨g, hg⟩ : ∃ g : Nat → List ByteArray, toldF nd fd m fb = g := ⟨_, rfl⟩
        have hgs := Lib.hid (goes_told nd fd m fb)
        rw [hg] at hgs h73
        obtain ⟨nT, hnT⟩ : ∃ nT, (g nb).length = nT := ⟨_, rfl⟩
        rw [hnT] at h73
        obtain ⟨at7, ct, rfl⟩ : ∃ at7 ct, v7 = .slice at7 nT ct := by
          rcases h73.2 with ⟨rfl, rfl⟩ | ⟨g, cap, cur, rfl, _⟩
          · exact ⟨_, _, rfl⟩
          · exact ⟨_, _, rfl⟩
        have hrow7 := Lib.hid h73
        have hbox7 := Lib.hid h72
        have hStH := Lib.hid hSt
        have hG7H := Lib.hid hG7
        have hmm := @run_makeMap Try.prog
        have hnTH := Lib.hid hnT
        have hnTb : nT ≤ 60 := by rw [← hnT]; have := (hgs.out.2.2.2.2.2 nb); omega
        clear hSt hG7 h71 h72 h73 h74 h75 hcallH hfn hg hnT hQ
        have hm0 := Lib.hid (MapSI.made w7)
        have hb80 : Below w7.heap.size w7 (w7.alloc (.map #[] 0)) := (Below.refl _ w7).alloc (Nat.le_refl _) _
        obtain ⟨w8, hw8⟩ : ∃ W, w7.alloc (.map #[] 0) = W := ⟨_, rfl⟩
        rw [hw8] at hm0 hb80
        obtain ⟨gm, hgm⟩ : ∃ x, w7.heap.size = x := ⟨_, rfl⟩
        have hgmH := Lib.hid hgm
        have hw8H := Lib.hid hw8
        have hb8H := Lib.hid hb80
        clear hw8 hgm hb80
        go_wp2
        rw [hw8H.out, hgmH.out]
        rw [hgmH.out] at hm0
        go_loopw [16, 17] (fun a i wr => ∃ (j : Nat) (cn : Nat) (ct : ByteArray → Nat), i = .int .i64 j ∧ a = .int .i64 ((g j).length : Nat) ∧ j ≤ nb ∧ cn ≤ j ∧ Hid (Below w7.heap.size w7 wr ∧ MapSI wr gm cn ct ∧ ∀ b, 0 < ct b ↔ Gone nd fd (g j).length b)) (fun a i _ => nb - (intOf i).toNat)
        case atStart => exact ⟨0, 0, _, rfl, by rw [hgs.out.1]; rfl, Nat.zero_le _, Nat.le_refl _, Lib.hid ⟨hb8H.out, hm0.out, fun b => ⟨fun h => by simp at h, fun ⟨j, _, h, _⟩ => by rw [hgs.out.1] at h; simp at h⟩⟩⟩
        case round =>
          clear hm0 hb8H hw8H hmm
          obtain ⟨j, cn, ct2, rfl, rfl, hj, hcn, hR⟩ := hrel
          obtain ⟨hbr, hM, hMG⟩ := hR.out
          have hMH := Lib.hid hMG
          obtain ⟨t, ht⟩ : ∃ t, (g j).length = t := ⟨_, rfl⟩
          have htj : t ≤ j := by rw [← ht]; exact hgs.out.2.2.2.2.2 j
          rw [ht] at hMG ⊢
          have cd11 := (hbr.cell (p := ⟨w4.heap.size, 0, none⟩) (block_lt (hG7H.out.cell (p := ⟨w4.heap.size, 0, none⟩) hStH.out.b.1 hStH.out.b.2))).trans (hG7H.out.cell (p := ⟨w4.heap.size, 0, none⟩) hStH.out.b.1 hStH.out.b.2)
          have cd4 := (hbr.cell (p := ⟨w.heap.size, 0, none⟩) (block_lt (hG7H.out.cell (p := ⟨w.heap.size, 0, none⟩) hStH.out.d.1 hStH.out.d.2))).trans (hG7H.out.cell (p := ⟨w.heap.size, 0, none⟩) hStH.out.d.1 hStH.out.d.2)
          have cd13 := (hbr.cell (p := ⟨w4.heap.size + 2, 0, none⟩) (block_lt (hG7H.out.cell (p := ⟨w4.heap.size + 2, 0, none⟩) hStH.out.l.1 hStH.out.l.2))).trans (hG7H.out.cell (p := ⟨w4.heap.size + 2, 0, none⟩) hStH.out.l.1 hStH.out.l.2)
          have cd12 := (hbr.cell (p := ⟨w4.heap.size + 1, 0, none⟩) hbox7.out.lt).trans hbox7.out.cell
          by_cases hjn : j < nb
          · have hjn' : (j : Int) < nb := by omega
            by_cases hmt : m < t
            · have hmt' : (m : Int) < t := by omega
              have hfin : Hid (((t : Int) == (nT : Int)) = true) := Lib.hid (by
                have := hgs.out.2.1 j (Nat.le_refl _) (by rw [ht]; exact hmt) nb hj
                have h2 := hnTH.out
                rw [this, ht] at h2
                simp; omega)
              have hfin2 := hfin.out
              clear cd4
              go_wp2
              go_ret
              exact ⟨rfl, hG7H.out.below.trans (hbr.mono hG7H.out.below.size)⟩
            · have hmt' : ¬ (m : Int) < t := by omega
              obtain ⟨bb, offb, hab, hFb, hcb2⟩ := hStH.out.br j hjn
              have qj := (hbr.cell (p := ⟨bb, offb + j, none⟩) (block_lt (hG7H.out.cell (p := ⟨bb, offb + j, none⟩) hFb hcb2))).trans (hG7H.out.cell (p := ⟨bb, offb + j, none⟩) hFb hcb2)
              subst hab
              have hlook := hM.look (hfsz.out j hjn)
              have hjc : (j : Int) < cb := by omega
              have hjw := Tb.wr (show -9223372036854775808 ≤ (j : Int) + 1 by omega) (by omega)
              obtain ⟨cj, hcj⟩ : ∃ cj, ct2 (fb j) = cj := ⟨_, rfl⟩
              rw [hcj] at hlook
              have hMG2 := hMG (fb j)
              rw [hcj] at hMG2
              by_cases hgo : Gone nd fd t (fb j)
              · have hc0 : (0 : Int) < (cj : Int) := by have := hMG2.2 hgo; omega
                have hnx : Hid (g (j + 1) = g j) := Lib.hid (hgs.out.2.2.1 j (by rw [ht]; exact hgo))
                clear cd4 cd12 hMG2 hMG hcj hcb2
                go_wp2
                go_roundw
                case rel => exact ⟨j + 1, cn, ct2, by go_num, by rw [hnx.out, ht], by omega, by omega, Lib.hid ⟨hbr, hM, by rw [hnx.out]; exact hMH.out⟩⟩
                case measure => first | (simp [intOf]; done) | (simp [intOf]; omega)
              · have hc0 : ¬ (0 : Int) < (cj : Int) := fun h => hgo (hMG2.1 (by omega))
                have hnx : Hid (g (j + 1) = g j ++ [fb j]) := Lib.hid (hgs.out.2.2.2.1 j (by rw [ht]; exact hmt) (by rw [ht]; exact hgo))
                have hpre := hgs.out.2.2.2.2.1 (j + 1) nb (by omega)
                rw [hnx.out] at hpre
                have htn : t < nT := by
                  have h1 := hpre.length_le
                  rw [List.length_append, ht, hnTH.out, List.length_singleton] at h1; omega
                have hgt : (g nb)[t]? = some (fb j) := by
                  obtain ⟨r, hr⟩ := hpre
                  rw [← hr, List.append_assoc, List.getElem?_append_right (by omega), ht, Nat.sub_self]; rfl
                obtain ⟨gb, rfl, qt⟩ : ∃ gb, at7 = some ⟨gb, 0, none⟩ ∧ wr.cell? ⟨gb, t, none⟩ = some (.string (fb j)) := by
                  rcases hrow7.out.2 with ⟨_, e⟩ | ⟨g', cap, cur, hv, hgg, hh, r⟩
                  · omega
                  · cases hv
                    have hc := hrow7.out.cellAt t (by rw [Nat.mul_one]; exact htn)
                    refine ⟨g', rfl, ?_⟩
                    rw [hbr.cell (p := ⟨g', t, none⟩) (Array.getElem?_eq_some_iff.1 hh).1, hc]
                    simp [List.getD_eq_getElem?_getD, List.getElem?_map, hgt]
                have htT : (t : Int) < nT := by omega
                have htne : ((t : Int) == (nT : Int)) = false := by simp; omega
                have htl : Hid ((g (j + 1)).length = t + 1) := Lib.hid (by rw [hnx.out, List.length_append, ht]; rfl)
                have htw := Tb.wr (show -9223372036854775808 ≤ (t : Int) + 1 by omega) (by omega)
                have hse : ((fb j).toList == (fb j).toList) = true := by simp
                clear hpre hgt hMG2 hcb2
                go_upto_region 23 with (fail)
                refine Rt.wp_region_text [0, 1, 0, 0, 0, 1, 0, 0, 1, 1, 0, 0, 1, 0, 0] (by kernel_rfl) (by kernel_rfl) ?_
                apply txt_move rfl rfl; (· (simp only [Act.put, Act.eval, List.setIfInBounds_toArray, List.set_cons_zero, List.set_cons_succ, Array.getD_eq_getD_getElem?, List.getElem?_toArray, List.getElem?_cons_zero, List.getElem?_cons_succ, Option.getD_some, List.getElem_toArray, List.getElem_cons_succ, List.getElem_cons_zero]; with_reducible rfl))
                apply txt_read rfl rfl rfl; (· (go_simp; with_reducible rfl)); (· (simp only [Act.put, Act.eval, List.setIfInBounds_toArray, List.set_cons_zero, List.set_cons_succ, Array.getD_eq_getD_getElem?, List.getElem?_toArray, List.getElem?_cons_zero, List.getElem?_cons_succ, Option.getD_some, List.getElem_toArray, List.getElem_cons_succ, List.getElem_cons_zero]; with_reducible rfl))
                apply txt_pure rfl rfl rfl; (· (intro w; go_simp; with_reducible rfl)); (· (simp only [Act.put, Act.eval, List.setIfInBounds_toArray, List.set_cons_zero, List.set_cons_succ, Array.getD_eq_getD_getElem?, List.getElem?_toArray, List.getElem?_cons_zero, List.getElem?_cons_succ, Option.getD_some, List.getElem_toArray, List.getElem_cons_succ, List.getElem_cons_zero]; with_reducible rfl))
                apply txt_pure rfl rfl rfl; (· (intro w; go_simp; with_reducible rfl)); (· (simp only [Act.put, Act.eval, List.setIfInBounds_toArray, List.set_cons_zero, List.set_cons_succ, Array.getD_eq_getD_getElem?, List.getElem?_toArray, List.getElem?_cons_zero, List.getElem?_cons_succ, Option.getD_some, List.getElem_toArray, List.getElem_cons_succ, List.getElem_cons_zero]; with_reducible rfl))
                apply txt_move rfl rfl; (· (simp only [Act.put, Act.eval, List.setIfInBounds_toArray, List.set_cons_zero, List.set_cons_succ, Array.getD_eq_getD_getElem?, List.getElem?_toArray, List.getElem?_cons_zero, List.getElem?_cons_succ, Option.getD_some, List.getElem_toArray, List.getElem_cons_succ, List.getElem_cons_zero]; with_reducible rfl))
                apply txt_read rfl rfl rfl; (· (go_simp; with_reducible rfl)); (· (simp only [Act.put, Act.eval, List.setIfInBounds_toArray, List.set_cons_zero, List.set_cons_succ, Array.getD_eq_getD_getElem?, List.getElem?_toArray, List.getElem?_cons_zero, List.getElem?_cons_succ, Option.getD_some, List.getElem_toArray, List.getElem_cons_succ, List.getElem_cons_zero]; with_reducible rfl))
                apply txt_pure rfl rfl rfl; (· (intro w; go_simp; with_reducible rfl)); (· (simp only [Act.put, Act.eval, List.setIfInBounds_toArray, List.set_cons_zero, List.set_cons_succ, Array.getD_eq_getD_getElem?, List.getElem?_toArray, List.getElem?_cons_zero, List.getElem?_cons_succ, Option.getD_some, List.getElem_toArray, List.getElem_cons_succ, List.getElem_cons_zero]; with_reducible rfl))
                apply txt_pure rfl rfl rfl; (· (intro w; go_simp; with_reducible rfl)); (· (simp only [Act.put, Act.eval, List.setIfInBounds_toArray, List.set_cons_zero, List.set_cons_succ, Array.getD_eq_getD_getElem?, List.getElem?_toArray, List.getElem?_cons_zero, List.getElem?_cons_succ, Option.getD_some, List.getElem_toArray, List.getElem_cons_succ, List.getElem_cons_zero]; with_reducible rfl))
                apply txt_read rfl rfl rfl; (· (go_simp; with_reducible rfl)); (· (simp only [Act.put, Act.eval, List.setIfInBounds_toArray, List.set_cons_zero, List.set_cons_succ, Array.getD_eq_getD_getElem?, List.getElem?_toArray, List.getElem?_cons_zero, List.getElem?_cons_succ, Option.getD_some, List.getElem_toArray, List.getElem_cons_succ, List.getElem_cons_zero]; with_reducible rfl))
                apply txt_read rfl rfl rfl; (· (go_simp; with_reducible rfl)); (· (simp only [Act.put, Act.eval, List.setIfInBounds_toArray, List.set_cons_zero, List.set_cons_succ, Array.getD_eq_getD_getElem?, List.getElem?_toArray, List.getElem?_cons_zero, List.getElem?_cons_succ, Option.getD_some, List.getElem_toArray, List.getElem_cons_succ, List.getElem_cons_zero]; with_reducible rfl))
                apply txt_pure rfl rfl rfl; (· (intro w; go_simp; with_reducible rfl)); (· (simp only [Act.put, Act.eval, List.setIfInBounds_toArray, List.set_cons_zero, List.set_cons_succ, Array.getD_eq_getD_getElem?, List.getElem?_toArray, List.getElem?_cons_zero, List.getElem?_cons_succ, Option.getD_some, List.getElem_toArray, List.getElem_cons_succ, List.getElem_cons_zero]; with_reducible rfl))
                apply txt_pure rfl rfl rfl; (· (intro w; go_simp; with_reducible rfl)); (· (simp only [Act.put, Act.eval, List.setIfInBounds_toArray, List.set_cons_zero, List.set_cons_succ, Array.getD_eq_getD_getElem?, List.getElem?_toArray, List.getElem?_cons_zero, List.getElem?_cons_succ, Option.getD_some, List.getElem_toArray, List.getElem_cons_succ, List.getElem_cons_zero]; with_reducible rfl))
                apply txt_read rfl rfl rfl; (· (go_simp; with_reducible rfl)); (· (simp only [Act.put, Act.eval, List.setIfInBounds_toArray, List.set_cons_zero, List.set_cons_succ, Array.getD_eq_getD_getElem?, List.getElem?_toArray, List.getElem?_cons_zero, List.getElem?_cons_succ, Option.getD_some, List.getElem_toArray, List.getElem_cons_succ, List.getElem_cons_zero]; with_reducible rfl))
                apply txt_pure rfl rfl rfl; (· (intro w; go_simp; with_reducible rfl)); (· (simp only [Act.put, Act.eval, List.setIfInBounds_toArray, List.set_cons_zero, List.set_cons_succ, Array.getD_eq_getD_getElem?, List.getElem?_toArray, List.getElem?_cons_zero, List.getElem?_cons_succ, Option.getD_some, List.getElem_toArray, List.getElem_cons_succ, List.getElem_cons_zero]; with_reducible rfl))
                apply txt_pure rfl rfl rfl; (· (intro w; go_simp; with_reducible rfl)); (· (simp only [Act.put, Act.eval, List.setIfInBounds_toArray, List.set_cons_zero, List.set_cons_succ, Array.getD_eq_getD_getElem?, List.getElem?_toArray, List.getElem?_cons_zero, List.getElem?_cons_succ, Option.getD_some, List.getElem_toArray, List.getElem_cons_succ, List.getElem_cons_zero]; with_reducible rfl))
                with_reducible refine txt_nil ?_
                by_cases htd : t < nd
                · have htd' : (t : Int) < nd := by omega
                  obtain ⟨hdsz, b2, off2, had, hFd, hcd2⟩ := hStH.out.dr t htd
                  have qd := (hbr.cell (p := ⟨b2, off2 + t, none⟩) (block_lt (hG7H.out.cell (p := ⟨b2, off2 + t, none⟩) hFd hcd2))).trans (hG7H.out.cell (p := ⟨b2, off2 + t, none⟩) hFd hcd2)
                  subst had
                  have hMd := hM.keep (w' := wr.drew) rfl
                  have hk2 : (fd t).size ≤ maxLen := by unfold maxLen; omega
                  have hlook2 := hMd.look hk2
                  obtain ⟨w9, hput, hM9, ht9⟩ := hMd.put hk2 (by omega)
                  have hcdn : (cd : Int) ≥ nd := by omega
                  have hgm2 := hgmH.out
                  have hb9 : Hid (Below w7.heap.size w7 w9) := Lib.hid ((hbr.trans ((Below.refl _ wr).drew)).trans ((Below.refl _ wr.drew).grown ht9.grown (by have := hbr.size; exact this) (fun x hx => by cases hx; omega)))
                  obtain ⟨cx, hcx⟩ : ∃ cx, ct2 (fd t) = cx := ⟨_, rfl⟩
                  have hM9H := Lib.hid hM9
                  rw [hcx] at hlook2 hput
                  have hcxn : cx ≤ 1000 := by
                    obtain ⟨D, _, hD2⟩ := hM
                    have := (hD2 (fd t)).2; rw [hcx] at this; omega
                  have hcxw := Tb.wr (show -9223372036854775808 ≤ (cx : Int) + 1 by omega) (by omega)
                  have hcxH := Lib.hid hcx
                  have htT2 : (t : Int) ≤ cd := by omega
                  clear hcd2 hcx hM9 ht9
                  go_wp2
                  go_roundw
                  case rel => exact ⟨j + 1, cn + 1, _, by go_num, by rw [htl.out]; go_num, by omega, by omega, Lib.hid ⟨hb9.out, hM9H.out, by
                    intro b
                    rw [htl.out]
                    have hb0 := hMH.out b
                    rw [ht] at hb0
                    by_cases e : b = fd t
                    · rw [if_pos e]
                      exact ⟨fun _ => ⟨t, htd, by omega, e.symm⟩, fun _ => by omega⟩
                    · rw [if_neg e, hb0]
                      refine ⟨fun ⟨x, x1, x2, x3⟩ => ⟨x, x1, by omega, x3⟩, fun ⟨x, x1, x2, x3⟩ => ⟨x, x1, ?_, x3⟩⟩
                      by_cases ex : x = t
                      · subst ex; exact absurd x3.symm e
                      · omega⟩⟩
                  case measure => first | (simp [intOf]; done) | (simp [intOf]; omega)
                · have htd' : ¬ (t : Int) < nd := by omega
                  go_wp2
                  go_roundw
                  case rel => exact ⟨j + 1, cn, ct2, by go_num, by rw [htl.out]; go_num, by omega, by omega, Lib.hid ⟨hbr.trans ((Below.refl _ wr).drew), hM.keep rfl, by
                    intro b
                    rw [htl.out]
                    have hb0 := hMH.out b
                    rw [ht] at hb0
                    rw [hb0]
                    exact ⟨fun ⟨x, x1, x2, x3⟩ => ⟨x, x1, by omega, x3⟩, fun ⟨x, x1, x2, x3⟩ => ⟨x, x1, by omega, x3⟩⟩⟩⟩
                  case measure => first | (simp [intOf]; done) | (simp [intOf]; omega)
          · obtain rfl : j = nb := by omega
            have hjn' : ¬ (j : Int) < j := by omega
            have hfin : ((t : Int) == (nT : Int)) = true := by
              have h2 := hnTH.out
              simp; omega
            clear cd4
            go_wp2
            go_ret
            exact ⟨rfl, hG7H.out.below.trans (hbr.mono hG7H.out.below.size)⟩
    · have hkn' : ¬ (k : Int) < n := by omega
      have hkle : k ≤ 60 := hk60
      have hkeys := Lib.hid (Keys_S hQ.out.tab)
      have cB := hQ.out.box.cell
      go_wp2_with fail
      refine hkeys.out.mono ?_
      rintro e w4 ⟨v4, rfl, hrow4, hb4⟩
      obtain ⟨nb, hnb⟩ : ∃ nb, l.length = nb := ⟨_, rfl⟩
      rw [hnb] at hrow4 hlk
      obtain ⟨ab, cb, rfl⟩ : ∃ ab cb, v4 = .slice ab nb cb := by
        rcases hrow4.2 with ⟨rfl, rfl⟩ | ⟨g, cap, cur, rfl, _⟩
        · exact ⟨_, _, rfl⟩
        · exact ⟨_, _, rfl⟩
      have hcb : nb ≤ cb ∧ cb ≤ maxLen := by
        rcases hrow4.2 with ⟨hv, e⟩ | ⟨g, cap, cur, hv, _, _, h1, h2, _⟩
        · cases hv; exact ⟨by omega, by unfold maxLen; omega⟩
        · cases hv; exact ⟨h1, h2⟩
      obtain ⟨wA, hwA⟩ : ∃ W, (((w4.alloc (.cells #[.slice ab nb cb] 22)).alloc (.cells #[.slice none 0 0] 22)).alloc (.cells #[.int .i64 (m : Int)] 3)).alloc (.cells #[.pointer (some ⟨tb, 0, none⟩)] 25) = W := ⟨_, rfl⟩
      obtain ⟨y1, y2, y3, y4, y5, y6, y7, y8, y9, y10, y11, y12⟩ := goes_mid hQ.out bd hb4 hrow4 hwA
      have hcall := goes_all (nd := nd) (fd := fd) y1 hbw.out y10 y2 y3 y4 y5 y6 y7 y8 (fun x hx => ⟨(hQ.out.own x hx).1, (hQ.out.own x hx).2, y9 x hx⟩) bd.lt hQ.out.box.lt y12 (by omega) (by omega) (by omega) (by have := hQ.out.below.size; omega) hnb (by omega) hm2 hcb ⟨hnd, hcd⟩ hDdH.out hdsH.out
      obtain ⟨fb, hfb⟩ : ∃ fb : Nat → ByteArray, (fun i => (l.map (·.1)).getD i ⟨#[]⟩) = fb := ⟨_, rfl⟩
      rw [hfb] at hcall
      have hcallH := Lib.hid hcall
      have hfsz : Hid (∀ i, i < nb → (fb i).size ≤ maxLen) := Lib.hid (fun i hi => by
        rw [← hfb]
        have hil : i < l.length := by omega
        simp only [List.getD_eq_getElem?_getD, List.getElem?_map, List.getElem?_eq_getElem hil, Option.map_some, Option.getD_some]
        exact TabS.szs y1 _ (List.getElem_mem hil))
      have c3A := hQ.out.box.cell
      have hQw := hQ.out.below
      have hBtl := hQ.out.box.lt
      have d1 := ((((hQ.out.later hb4).box.alloc (.cells #[.slice ab nb cb] 22)).alloc (.cells #[.slice none 0 0] 22)).alloc (.cells #[.int .i64 (m : Int)] 3)).cell
      clear hcall y1 y2 y3 y4 y5 y6 y7 y8 y9 y10 y12 hrow4 hb4 hfb hkeys cB c3A hQw
      go_wp2_with fail
      refine (hpH.out _).mono ?_
      rintro e w5 ⟨rfl, rfl⟩
      go_wp2_with fail
      refine (All_any _ tb).mono ?_
      rintro e w6 ⟨rfl, rfl⟩
      simp only [World.size_alloc, Nat.add_assoc, Nat.reduceAdd]
      rw [hwA]
      clear hwA d1
      have hfn := fn_nil (.func 56) #[] #[.pointer (some ⟨w4.heap.size + 3, 0, none⟩)] wA
      go_wp2_with fail
      refine hcallH.out.mono ?_
      rintro e w7 ⟨rfl, wF, F, l7, hSt, hG7⟩
      obtain ⟨S7, bm7, v7, h71, h72, h73, h74, h75⟩ := hG7.ex
      obtain ⟨g, hg⟩ : ∃ g : Nat → List ByteArray, toldF nd fd m fb = g := ⟨_, rfl⟩
      have hgs := Lib.hid (goes_told nd fd m fb)
      rw [hg] at hgs h73
      obtain ⟨nT, hnT⟩ : ∃ nT, (g nb).length = nT := ⟨_, rfl⟩
      rw [hnT] at h73
      obtain ⟨at7, ct, rfl⟩ : ∃ at7 ct, v7 = .slice at7 nT ct := by
        rcases h73.2 with ⟨rfl, rfl⟩ | ⟨g, cap, cur, rfl, _⟩
        · exact ⟨_, _, rfl⟩
        · exact ⟨_, _, rfl⟩
      have hrow7 := Lib.hid h73
      have hbox7 := Lib.hid h72
      have hStH := Lib.hid hSt
      have hG7H := Lib.hid hG7
      have hmm := @run_makeMap Try.prog
      have hnTH := Lib.hid hnT
      have hnTb : nT ≤ 60 := by rw [← hnT]; have := (hgs.out.2.2.2.2.2 nb); omega
      clear hSt hG7 h71 h72 h73 h74 h75 hcallH hfn hg hnT hQ
      have hm0 := Lib.hid (MapSI.made w7)
      have hb80 : Below w7.heap.size w7 (w7.alloc (.map #[] 0)) := (Below.refl _ w7).alloc (Nat.le_refl _) _
      obtain ⟨w8, hw8⟩ : ∃ W, w7.alloc (.map #[] 0) = W := ⟨_, rfl⟩
      rw [hw8] at hm0 hb80
      obtain ⟨gm, hgm⟩ : ∃ x, w7.heap.size = x := ⟨_, rfl⟩
      have hgmH := Lib.hid hgm
      have hw8H := Lib.hid hw8
      have hb8H := Lib.hid hb80
      clear hw8 hgm hb80
      go_wp2
      rw [hw8H.out, hgmH.out]
      rw [hgmH.out] at hm0
      go_loopw [16, 17] (fun a i wr => ∃ (j : Nat) (cn : Nat) (ct : ByteArray → Nat), i = .int .i64 j ∧ a = .int .i64 ((g j).length : Nat) ∧ j ≤ nb ∧ cn ≤ j ∧ Hid (Below w7.heap.size w7 wr ∧ MapSI wr gm cn ct ∧ ∀ b, 0 < ct b ↔ Gone nd fd (g j).length b)) (fun a i _ => nb - (intOf i).toNat)
      case atStart => exact ⟨0, 0, _, rfl, by rw [hgs.out.1]; rfl, Nat.zero_le _, Nat.le_refl _, Lib.hid ⟨hb8H.out, hm0.out, fun b => ⟨fun h => by simp at h, fun ⟨j, _, h, _⟩ => by rw [hgs.out.1] at h; simp at h⟩⟩⟩
      case round =>
        clear hm0 hb8H hw8H hmm
        obtain ⟨j, cn, ct2, rfl, rfl, hj, hcn, hR⟩ := hrel
        obtain ⟨hbr, hM, hMG⟩ := hR.out
        have hMH := Lib.hid hMG
        obtain ⟨t, ht⟩ : ∃ t, (g j).length = t := ⟨_, rfl⟩
        have htj : t ≤ j := by rw [← ht]; exact hgs.out.2.2.2.2.2 j
        rw [ht] at hMG ⊢
        have cd11 := (hbr.cell (p := ⟨w4.heap.size, 0, none⟩) (block_lt (hG7H.out.cell (p := ⟨w4.heap.size, 0, none⟩) hStH.out.b.1 hStH.out.b.2))).trans (hG7H.out.cell (p := ⟨w4.heap.size, 0, none⟩) hStH.out.b.1 hStH.out.b.2)
        have cd4 := (hbr.cell (p := ⟨w.heap.size, 0, none⟩) (block_lt (hG7H.out.cell (p := ⟨w.heap.size, 0, none⟩) hStH.out.d.1 hStH.out.d.2))).trans (hG7H.out.cell (p := ⟨w.heap.size, 0, none⟩) hStH.out.d.1 hStH.out.d.2)
        have cd13 := (hbr.cell (p := ⟨w4.heap.size + 2, 0, none⟩) (block_lt (hG7H.out.cell (p := ⟨w4.heap.size + 2, 0, none⟩) hStH.out.l.1 hStH.out.l.2))).trans (hG7H.out.cell (p := ⟨w4.heap.size + 2, 0, none⟩) hStH.out.l.1 hStH.out.l.2)
        have cd12 := (hbr.cell (p := ⟨w4.heap.size + 1, 0, none⟩) hbox7.out.lt).trans hbox7.out.cell
        by_cases hjn : j < nb
        · have hjn' : (j : Int) < nb := by omega
          by_cases hmt : m < t
          · have hmt' : (m : Int) < t := by omega
            have hfin : Hid (((t : Int) == (nT : Int)) = true) := Lib.hid (by
              have := hgs.out.2.1 j (Nat.le_refl _) (by rw [ht]; exact hmt) nb hj
              have h2 := hnTH.out
              rw [this, ht] at h2
              simp; omega)
            have hfin2 := hfin.out
            clear cd4
            go_wp2
            go_ret
            exact ⟨rfl, hG7H.out.below.trans (hbr.mono hG7H.out.below.size)⟩
          · have hmt' : ¬ (m : Int) < t := by omega
            obtain ⟨bb, offb, hab, hFb, hcb2⟩ := hStH.out.br j hjn
            have qj := (hbr.cell (p := ⟨bb, offb + j, none⟩) (block_lt (hG7H.out.cell (p := ⟨bb, offb + j, none⟩) hFb hcb2))).trans (hG7H.out.cell (p := ⟨bb, offb + j, none⟩) hFb hcb2)
            subst hab
            have hlook := hM.look (hfsz.out j hjn)
            have hjc : (j : Int) < cb := by omega
            have hjw := Tb.wr (show -9223372036854775808 ≤ (j : Int) + 1 by omega) (by omega)
            obtain ⟨cj, hcj⟩ : ∃ cj, ct2 (fb j) = cj := ⟨_, rfl⟩
            rw [hcj] at hlook
            have hMG2 := hMG (fb j)
            rw [hcj] at hMG2
            by_cases hgo : Gone nd fd t (fb j)
            · have hc0 : (0 : Int) < (cj : Int) := by have := hMG2.2 hgo; omega
              have hnx : Hid (g (j + 1) = g j) := Lib.hid (hgs.out.2.2.1 j (by rw [ht]; exact hgo))
              clear cd4 cd12 hMG2 hMG hcj hcb2
              go_wp2
              go_roundw
              case rel => exact ⟨j + 1, cn, ct2, by go_num, by rw [hnx.out, ht], by omega, by omega, Lib.hid ⟨hbr, hM, by rw [hnx.out]; exact hMH.out⟩⟩
              case measure => first | (simp [intOf]; done) | (simp [intOf]; omega)
            · have hc0 : ¬ (0 : Int) < (cj : Int) := fun h => hgo (hMG2.1 (by omega))
              have hnx : Hid (g (j + 1) = g j ++ [fb j]) := Lib.hid (hgs.out.2.2.2.1 j (by rw [ht]; exact hmt) (by rw [ht]; exact hgo))
              have hpre := hgs.out.2.2.2.2.1 (j + 1) nb (by omega)
              rw [hnx.out] at hpre
              have htn : t < nT := by
                have h1 := hpre.length_le
                rw [List.length_append, ht, hnTH.out, List.length_singleton] at h1; omega
              have hgt : (g nb)[t]? = some (fb j) := by
                obtain ⟨r, hr⟩ := hpre
                rw [← hr, List.append_assoc, List.getElem?_append_right (by omega), ht, Nat.sub_self]; rfl
              obtain ⟨gb, rfl, qt⟩ : ∃ gb, at7 = some ⟨gb, 0, none⟩ ∧ wr.cell? ⟨gb, t, none⟩ = some (.string (fb j)) := by
                rcases hrow7.out.2 with ⟨_, e⟩ | ⟨g', cap, cur, hv, hgg, hh, r⟩
                · omega
                · cases hv
                  have hc := hrow7.out.cellAt t (by rw [Nat.mul_one]; exact htn)
                  refine ⟨g', rfl, ?_⟩
                  rw [hbr.cell (p := ⟨g', t, none⟩) (Array.getElem?_eq_some_iff.1 hh).1, hc]
                  simp [List.getD_eq_getElem?_getD, List.getElem?_map, hgt]
              have htT : (t : Int) < nT := by omega
              have htne : ((t : Int) == (nT : Int)) = false := by simp; omega
              have htl : Hid ((g (j + 1)).length = t + 1) := Lib.hid (by rw [hnx.out, List.length_append, ht]; rfl)
              have htw := Tb.wr (show -9223372036854775808 ≤ (t : Int) + 1 by omega) (by omega)
              have hse : ((fb j).toList == (fb j).toList) = true := by simp
              clear hpre hgt hMG2 hcb2
              go_upto_region 23 with (fail)
              refine Rt.wp_region_text [0, 1, 0, 0, 0, 1, 0, 0, 1, 1, 0, 0, 1, 0, 0] (by kernel_rfl) (by kernel_rfl) ?_
              apply txt_move rfl rfl; (· (simp only [Act.put, Act.eval, List.setIfInBounds_toArray, List.set_cons_zero, List.set_cons_succ, Array.getD_eq_getD_getElem?, List.getElem?_toArray, List.getElem?_cons_zero, List.getElem?_cons_succ, Option.getD_some, List.getElem_toArray, List.getElem_cons_succ, List.getElem_cons_zero]; with_reducible rfl))
              apply txt_read rfl rfl rfl; (· (go_simp; with_reducible rfl)); (· (simp only [Act.put, Act.eval, List.setIfInBounds_toArray, List.set_cons_zero, List.set_cons_succ, Array.getD_eq_getD_getElem?, List.getElem?_toArray, List.getElem?_cons_zero, List.getElem?_cons_succ, Option.getD_some, List.getElem_toArray, List.getElem_cons_succ, List.getElem_cons_zero]; with_reducible rfl))
              apply txt_pure rfl rfl rfl; (· (intro w; go_simp; with_reducible rfl)); (· (simp only [Act.put, Act.eval, List.setIfInBounds_toArray, List.set_cons_zero, List.set_cons_succ, Array.getD_eq_getD_getElem?, List.getElem?_toArray, List.getElem?_cons_zero, List.getElem?_cons_succ, Option.getD_some, List.getElem_toArray, List.getElem_cons_succ, List.getElem_cons_zero]; with_reducible rfl))
              apply txt_pure rfl rfl rfl; (· (intro w; go_simp; with_reducible rfl)); (· (simp only [Act.put, Act.eval, List.setIfInBounds_toArray, List.set_cons_zero, List.set_cons_succ, Array.getD_eq_getD_getElem?, List.getElem?_toArray, List.getElem?_cons_zero, List.getElem?_cons_succ, Option.getD_some, List.getElem_toArray, List.getElem_cons_succ, List.getElem_cons_zero]; with_reducible rfl))
              apply txt_move rfl rfl; (· (simp only [Act.put, Act.eval, List.setIfInBounds_toArray, List.set_cons_zero, List.set_cons_succ, Array.getD_eq_getD_getElem?, List.getElem?_toArray, List.getElem?_cons_zero, List.getElem?_cons_succ, Option.getD_some, List.getElem_toArray, List.getElem_cons_succ, List.getElem_cons_zero]; with_reducible rfl))
              apply txt_read rfl rfl rfl; (· (go_simp; with_reducible rfl)); (· (simp only [Act.put, Act.eval, List.setIfInBounds_toArray, List.set_cons_zero, List.set_cons_succ, Array.getD_eq_getD_getElem?, List.getElem?_toArray, List.getElem?_cons_zero, List.getElem?_cons_succ, Option.getD_some, List.getElem_toArray, List.getElem_cons_succ, List.getElem_cons_zero]; with_reducible rfl))
              apply txt_pure rfl rfl rfl; (· (intro w; go_simp; with_reducible rfl)); (· (simp only [Act.put, Act.eval, List.setIfInBounds_toArray, List.set_cons_zero, List.set_cons_succ, Array.getD_eq_getD_getElem?, List.getElem?_toArray, List.getElem?_cons_zero, List.getElem?_cons_succ, Option.getD_some, List.getElem_toArray, List.getElem_cons_succ, List.getElem_cons_zero]; with_reducible rfl))
              apply txt_pure rfl rfl rfl; (· (intro w; go_simp; with_reducible rfl)); (· (simp only [Act.put, Act.eval, List.setIfInBounds_toArray, List.set_cons_zero, List.set_cons_succ, Array.getD_eq_getD_getElem?, List.getElem?_toArray, List.getElem?_cons_zero, List.getElem?_cons_succ, Option.getD_some, List.getElem_toArray, List.getElem_cons_succ, List.getElem_cons_zero]; with_reducible rfl))
              apply txt_read rfl rfl rfl; (· (go_simp; with_reducible rfl)); (· (simp only [Act.put, Act.eval, List.setIfInBounds_toArray, List.set_cons_zero, List.set_cons_succ, Array.getD_eq_getD_getElem?, List.getElem?_toArray, List.getElem?_cons_zero, List.getElem?_cons_succ, Option.getD_some, List.getElem_toArray, List.getElem_cons_succ, List.getElem_cons_zero]; with_reducible rfl))
              apply txt_read rfl rfl rfl; (· (go_simp; with_reducible rfl)); (· (simp only [Act.put, Act.eval, List.setIfInBounds_toArray, List.set_cons_zero, List.set_cons_succ, Array.getD_eq_getD_getElem?, List.getElem?_toArray, List.getElem?_cons_zero, List.getElem?_cons_succ, Option.getD_some, List.getElem_toArray, List.getElem_cons_succ, List.getElem_cons_zero]; with_reducible rfl))
              apply txt_pure rfl rfl rfl; (· (intro w; go_simp; with_reducible rfl)); (· (simp only [Act.put, Act.eval, List.setIfInBounds_toArray, List.set_cons_zero, List.set_cons_succ, Array.getD_eq_getD_getElem?, List.getElem?_toArray, List.getElem?_cons_zero, List.getElem?_cons_succ, Option.getD_some, List.getElem_toArray, List.getElem_cons_succ, List.getElem_cons_zero]; with_reducible rfl))
              apply txt_pure rfl rfl rfl; (· (intro w; go_simp; with_reducible rfl)); (· (simp only [Act.put, Act.eval, List.setIfInBounds_toArray, List.set_cons_zero, List.set_cons_succ, Array.getD_eq_getD_getElem?, List.getElem?_toArray, List.getElem?_cons_zero, List.getElem?_cons_succ, Option.getD_some, List.getElem_toArray, List.getElem_cons_succ, List.getElem_cons_zero]; with_reducible rfl))
              apply txt_read rfl rfl rfl; (· (go_simp; with_reducible rfl)); (· (simp only [Act.put, Act.eval, List.setIfInBounds_toArray, List.set_cons_zero, List.set_cons_succ, Array.getD_eq_getD_getElem?, List.getElem?_toArray, List.getElem?_cons_zero, List.getElem?_cons_succ, Option.getD_some, List.getElem_toArray, List.getElem_cons_succ, List.getElem_cons_zero]; with_reducible rfl))
              apply txt_pure rfl rfl rfl; (· (intro w; go_simp; with_reducible rfl)); (· (simp only [Act.put, Act.eval, List.setIfInBounds_toArray, List.set_cons_zero, List.set_cons_succ, Array.getD_eq_getD_getElem?, List.getElem?_toArray, List.getElem?_cons_zero, List.getElem?_cons_succ, Option.getD_some, List.getElem_toArray, List.getElem_cons_succ, List.getElem_cons_zero]; with_reducible rfl))
              apply txt_pure rfl rfl rfl; (· (intro w; go_simp; with_reducible rfl)); (· (simp only [Act.put, Act.eval, List.setIfInBounds_toArray, List.set_cons_zero, List.set_cons_succ, Array.getD_eq_getD_getElem?, List.getElem?_toArray, List.getElem?_cons_zero, List.getElem?_cons_succ, Option.getD_some, List.getElem_toArray, List.getElem_cons_succ, List.getElem_cons_zero]; with_reducible rfl))
              with_reducible refine txt_nil ?_
              by_cases htd : t < nd
              · have htd' : (t : Int) < nd := by omega
                obtain ⟨hdsz, b2, off2, had, hFd, hcd2⟩ := hStH.out.dr t htd
                have qd := (hbr.cell (p := ⟨b2, off2 + t, none⟩) (block_lt (hG7H.out.cell (p := ⟨b2, off2 + t, none⟩) hFd hcd2))).trans (hG7H.out.cell (p := ⟨b2, off2 + t, none⟩) hFd hcd2)
                subst had
                have hMd := hM.keep (w' := wr.drew) rfl
                have hk2 : (fd t).size ≤ maxLen := by unfold maxLen; omega
                have hlook2 := hMd.look hk2
                obtain ⟨w9, hput, hM9, ht9⟩ := hMd.put hk2 (by omega)
                have hcdn : (cd : Int) ≥ nd := by omega
                have hgm2 := hgmH.out
                have hb9 : Hid (Below w7.heap.size w7 w9) := Lib.hid ((hbr.trans ((Below.refl _ wr).drew)).trans ((Below.refl _ wr.drew).grown ht9.grown (by have := hbr.size; exact this) (fun x hx => by cases hx; omega)))
                obtain ⟨cx, hcx⟩ : ∃ cx, ct2 (fd t) = cx := ⟨_, rfl⟩
                have hM9H := Lib.hid hM9
                rw [hcx] at hlook2 hput
                have hcxn : cx ≤ 1000 := by
                  obtain ⟨D, _, hD2⟩ := hM
                  have := (hD2 (fd t)).2; rw [hcx] at this; omega
                have hcxw := Tb.wr (show -9223372036854775808 ≤ (cx : Int) + 1 by omega) (by omega)
                have hcxH := Lib.hid hcx
                have htT2 : (t : Int) ≤ cd := by omega
                clear hcd2 hcx hM9 ht9
                go_wp2
                go_roundw
                case rel => exact ⟨j + 1, cn + 1, _, by go_num, by rw [htl.out]; go_num, by omega, by omega, Lib.hid ⟨hb9.out, hM9H.out, by
                  intro b
                  rw [htl.out]
                  have hb0 := hMH.out b
                  rw [ht] at hb0
                  by_cases e : b = fd t
                  · rw [if_pos e]
                    exact ⟨fun _ => ⟨t, htd, by omega, e.symm⟩, fun _ => by omega⟩
                  · rw [if_neg e, hb0]
                    refine ⟨fun ⟨x, x1, x2, x3⟩ => ⟨x, x1, by omega, x3⟩, fun ⟨x, x1, x2, x3⟩ => ⟨x, x1, ?_, x3⟩⟩
                    by_cases ex : x = t
                    · subst ex; exact absurd x3.symm e
                    · omega⟩⟩
                case measure => first | (simp [intOf]; done) | (simp [intOf]; omega)
              · have htd' : ¬ (t : Int) < nd := by omega
                go_wp2
                go_roundw
                case rel => exact ⟨j + 1, cn, ct2, by go_num, by rw [htl.out]; go_num, by omega, by omega, Lib.hid ⟨hbr.trans ((Below.refl _ wr).drew), hM.keep rfl, by
                  intro b
                  rw [htl.out]
                  have hb0 := hMH.out b
                  rw [ht] at hb0
                  rw [hb0]
                  exact ⟨fun ⟨x, x1, x2, x3⟩ => ⟨x, x1, by omega, x3⟩, fun ⟨x, x1, x2, x3⟩ => ⟨x, x1, by omega, x3⟩⟩⟩⟩
                case measure => first | (simp [intOf]; done) | (simp [intOf]; omega)
        · obtain rfl : j = nb := by omega
          have hjn' : ¬ (j : Int) < j := by omega
          have hfin : ((t : Int) == (nT : Int)) = true := by
            have h2 := hnTH.out
            simp; omega
          clear cd4
          go_wp2
          go_ret
          exact ⟨rfl, hG7H.out.below.trans (hbr.mono hG7H.out.below.size)⟩
end Go.Proofs.Ytmgapdbfaoflmaa.Tb
