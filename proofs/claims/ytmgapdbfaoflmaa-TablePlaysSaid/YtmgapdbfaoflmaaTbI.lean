/- What 'row' hands back goes over the nodes of the ring. -/
import Derived.RangeFuncNested
import Derived.RangeFuncBound
import Derived.RangeFuncBox
import Derived.RangeFuncCalls
import Derived.RangeFuncLeaves
import Derived.OwnWalkIn
import Derived.TacticsInMore
import Derived.LoopNIn
import Derived.LoopIn
import Derived.WalkSpells
import Derived.LaidEqlPtr
import Derived.Test.YtmgapdbfaoflmaaTbE
namespace Go.Proofs.Ytmgapdbfaoflmaa.Tb
open Go.RowKit Rt Tm
set_option linter.unusedSimpArgs false
set_option linter.unusedVariables false
attribute [local go_sem] Oper.semAt_some
/-- The cells of these blocks read as they read. -/
def KeepsT (T : Nat → Prop) (W W' : World) : Prop := ∀ b, T b → (∀ o v, W.cell? ⟨b, o, none⟩ = some v → W'.cell? ⟨b, o, none⟩ = some v) ∧ (Shp W b → Shp W' b)
theorem KeepsT.refl (T : Nat → Prop) (W : World) : KeepsT T W W := fun _ _ => ⟨fun _ _ h => h, id⟩
theorem KeepsT.trans {T : Nat → Prop} {W1 W2 W3 : World} (h : KeepsT T W1 W2) (k : KeepsT T W2 W3) : KeepsT T W1 W3 := fun b hb => ⟨fun o v hv => (k b hb).1 o v ((h b hb).1 o v hv), fun e => (k b hb).2 ((h b hb).2 e)⟩
theorem KeepsT.of_blocks {T : Nat → Prop} {W W' : World} (h : ∀ b, T b → b < W.heap.size → W'.heap[b]? = W.heap[b]?) : KeepsT T W W' := fun b hb =>
  ⟨fun o v hv => (World.cell?_of_block (h b hb (World.block_lt_of_cell? W _ hv))).trans hv, fun e => by obtain ⟨cs, t, e⟩ := e; exact ⟨cs, t, (h b hb (Array.getElem?_eq_some_iff.1 e).1).trans e⟩⟩
theorem KeepsT.of_size {T : Nat → Prop} {W W' : World} (h : Below W.heap.size W W') : KeepsT T W W' := KeepsT.of_blocks fun b _ hb => h.block b hb
theorem KeepsT.setCell {T : Nat → Prop} (W : World) (a : Addr) (v : Value) (h : ¬ T a.block) : KeepsT T W (W.setCell a v) := KeepsT.of_blocks fun b hb _ => Below.heap_setCell _ _ _ _ (fun e => h (e ▸ hb))
theorem KeepsT.putObj {w : World} {T : Nat → Prop} (W : World) (l : Nat) (o o' : Obj) (_ : w.heap.size ≤ l) (h : W.heap[l]? = some o) (hc : o.isCells = false) (_ : o.isWalk = false) : KeepsT T W (W.putObj l o') := fun b hb =>
  ⟨fun i v hv => cell_kept hv (grownBy_putObj' W l o') (fun r e => by cases e; exact ⟨o, h, hc⟩), fun e => by
    obtain ⟨cs, t, e⟩ := e
    have hlt := (Array.getElem?_eq_some_iff.1 e).1
    refine ⟨cs, t, ((grownBy_putObj' W l o').block b hlt (fun e2 => ?_)).trans e⟩
    obtain rfl := Option.some.inj e2
    rw [h] at e; cases e; cases hc⟩
theorem KeepsT.kept {T S : Nat → Prop} {W W' : World} (h : Kept S W W') (hs : ∀ b, T b → ¬ S b) : KeepsT T W W' := KeepsT.of_blocks fun b hb hl => h.block b hl (hs b hb)
/-- Where the k-th node is, behind the last the ends. -/
def nxP (tb : Nat) (L : List Nd) (k : Nat) : Addr := match L[k]? with
  | some p => ⟨p.1, 0, none⟩
  | none => ⟨tb, 2, none⟩
theorem nxP_some {tb : Nat} {L : List Nd} {k : Nat} (h : k < L.length) : nxP tb L k = ⟨L[k].1, 0, none⟩ := by unfold nxP; rw [List.getElem?_eq_getElem h]
theorem nxP_none {tb : Nat} {L : List Nd} {k : Nat} (h : L.length ≤ k) : nxP tb L k = ⟨tb, 2, none⟩ := by unfold nxP; rw [List.getElem?_eq_none h]
theorem size93 : (Try.prog.info? 93).map (·.size) = some 4 := by kernel_rfl
theorem ptr_same (a : Addr) (w : World) : (binOp .neq 91 (.pointer (some a)) (.pointer (some a))).run Try.prog w = .ok (.bool false) w := by
  have h : ∀ d : Nat, (Op.equalIn (d + 1) 91 (.pointer (some a)) (.pointer (some a))).run Try.prog w = .ok true w := fun d => by
    have h93 := size93
    cases hj : Try.prog.info? 93 with
    | none => rw [hj] at h93; cases h93
    | some j =>
    simp [Op.equalIn, run_underlying Try.underlying91, sizeOf, typeInfo, hj, run_sameAddr_same]
  simp only [binOp]
  simp [Op.equal, Op.maxDepth, h 9999]
theorem ptr_other {a b : Addr} {w : World} (hne : a ≠ b) (ha : Shp w a.block) (hb : Shp w b.block) : (binOp .neq 91 (.pointer (some a)) (.pointer (some b))).run Try.prog w = .ok (.bool true) w := by
  obtain ⟨ca, ta, ha⟩ := ha
  obtain ⟨cb, tb, hb⟩ := hb
  have h : ∀ d : Nat, (Op.equalIn (d + 1) 91 (.pointer (some a)) (.pointer (some b))).run Try.prog w = .ok false w := fun d => by
    have h93 := size93
    cases hj : Try.prog.info? 93 with
    | none => rw [hj] at h93; cases h93
    | some j =>
    rw [hj] at h93
    have h4 : j.size ≠ 0 := by simp at h93; omega
    simp [Op.equalIn, run_underlying Try.underlying91, sizeOf, typeInfo, hj, h4, run_sameAddr_other w hne ha hb]
  simp only [binOp]
  simp [Op.equal, Op.maxDepth, h 9999]
/-- The ring, as one goes over it. -/
structure RingC (w : World) (tb : Nat) (L : List Nd) : Prop where
  h0 : w.cell? ⟨tb, 5, none⟩ = some (.pointer (some (nxP tb L 0)))
  hk : ∀ k (h : k < L.length), w.cell? ⟨L[k].1, 3, none⟩ = some (.pointer (some (nxP tb L (k + 1))))
  shp : ∀ x, x = tb ∨ x ∈ L.map (·.1) → Shp w x
theorem Links.at {nx la : Nat → Nat} {tb : Nat} : ∀ {a : Nat} {L : List Nd}, Links nx la a (L.map (·.1)) tb → nx a = (match L[0]? with | some p => p.1 | none => tb) ∧ ∀ k (h : k < L.length), nx L[k].1 = (match L[k + 1]? with | some p => p.1 | none => tb)
  | a, [], h => ⟨h.1, fun k hk => by simp at hk⟩
  | a, p :: L, ⟨h1, h2, h3⟩ => by
    have ih := Links.at h3
    refine ⟨h1, fun k hk => ?_⟩
    cases k with
    | zero => exact ih.1
    | succ k => exact ih.2 k (by simpa using hk)
theorem TabAt.ringC {w : World} {tb bm : Nat} {most : Int} {L : List Nd} {nx la : Nat → Nat} (h : TabAt w tb bm most L nx la) : RingC w tb L := by
  obtain ⟨r0, r1⟩ := Links.at h.ring
  have hne : ∀ k (hk : k < L.length), L[k].1 ≠ tb := fun k hk e => (List.nodup_cons.1 h.nd).1 (e ▸ List.mem_map_of_mem (f := (·.1)) (List.getElem_mem hk))
  refine ⟨?_, fun k hk => ?_, h.shp⟩
  · have := h.nxt tb (.inl rfl)
    rw [off_same, r0] at this
    rw [this]
    unfold nxP ptr
    by_cases h0 : 0 < L.length
    · rw [List.getElem?_eq_getElem h0]; simp only []; rw [off_other (hne 0 h0)]
    · rw [List.getElem?_eq_none (by omega)]; simp only []; rw [off_same]
  · have := h.nxt L[k].1 (.inr (List.mem_map_of_mem (f := (·.1)) (List.getElem_mem hk)))
    rw [off_other (hne k hk), r1 k hk] at this
    rw [this]
    unfold nxP ptr
    by_cases h0 : k + 1 < L.length
    · rw [List.getElem?_eq_getElem h0]; simp only []; rw [off_other (hne _ h0)]
    · rw [List.getElem?_eq_none (by omega)]; simp only []; rw [off_same]
theorem RingC.keepsT {w w' : World} {tb : Nat} {L : List Nd} (h : RingC w tb L) {T : Nat → Prop} (hk : KeepsT T w w') (ht : T tb) (hl : ∀ p ∈ L, T p.1) : RingC w' tb L :=
  ⟨(hk tb ht).1 _ _ h.h0, fun k hkl => (hk _ (hl _ (List.getElem_mem hkl))).1 _ _ (h.hk k hkl), fun x hx => (hk x (by
    rcases hx with e | e
    · exact e ▸ ht
    · obtain ⟨p, hp, rfl⟩ := List.mem_map.1 e; exact hl p hp)).2 (h.shp x hx)⟩
/-- Which node a pointer is. -/
def posP (L : List Nd) : Value → Nat
  | .pointer (some a) => L.findIdx (fun p => a.block == p.1 && a.off == 0)
  | _ => 0
theorem posP_nx {tb : Nat} {L : List Nd} (hnd : (L.map (·.1)).Nodup) {k : Nat} (hk : k ≤ L.length) : posP L (.pointer (some (nxP tb L k))) = k := by
  by_cases h : k < L.length
  · rw [nxP_some h]
    unfold posP
    rw [List.findIdx_eq h]
    refine ⟨by simp, fun j hj => ?_⟩
    have hne : L[k].1 ≠ L[j].1 := fun e => by
      have hj' : j < L.length := by omega
      have h1 := (List.pairwise_iff_getElem.1 hnd) j k (by simpa using hj') (by simpa using h) hj
      simp at h1
      exact h1 e.symm
    simp [hne]
  · rw [nxP_none (by omega)]
    have : List.findIdx (fun p : Nd => (tb == p.1 && (2 : Nat) == 0)) L = L.length := List.findIdx_eq_length.2 (fun x _ => by simp)
    show List.findIdx (fun p : Nd => (tb == p.1 && (2 : Nat) == 0)) L = k
    omega
/-- The blocks that one reads on the way. -/
def Way (Bs tb : Nat) (L : List Nd) (b : Nat) : Prop := b = Bs ∨ b = tb ∨ b ∈ L.map (·.1)
abbrev Of (L : List Nd) := { p : Nd // p ∈ L }
set_option maxRecDepth 100000 in
set_option maxHeartbeats 1000000 in
theorem row1_in (F : Fence) (n : Nat) (h66 : F.fn 66) (hro : F.round = none) (hn : 1 ≤ n) (l Bs tb : Nat) (L : List Nd) (hnd : (L.map (·.1)).Nodup) (J Jx : List (Of L) → World → Prop)
    (hY : ∀ pre x W, J pre W → pre.length < L.length → YieldAt F (n - 1) Try.prog l #[.pointer (some ⟨x.1.1, 0, none⟩)] W fun e W' =>
      (e = .returned (.bool true) ∧ J (pre ++ [x]) W' ∧ KeepsT (Way Bs tb L) W W') ∨ (e = .returned (.bool false) ∧ Jx (pre ++ [x]) W'))
    (W : World) (hBs : W.cell? ⟨Bs, 0, none⟩ = some (.pointer (some ⟨tb, 0, none⟩))) (hR : RingC W tb L) (h0 : J [] W) :
    CallsIn F n Try.prog 66 #[.func (.yield l) #[] #[], .pointer (some ⟨Bs, 0, none⟩)] W fun e W' => (∃ v, e = .returned v) ∧
      ((∃ ys, ys.map (·.1) = L ∧ J ys W') ∨ (∃ pre, pre.map (·.1) <+: L ∧ Jx pre W')) := by
  refine callsIn_of_wp Try.func66 rfl h66 ?_ hro
  simp only [Try.ntmps66, List.size_toArray, List.length_cons, List.length_nil, Nat.reduceAdd, Nat.reduceSub, Array.replicate_succ, Array.replicate_zero, List.push_toArray, List.append_toArray, List.nil_append, List.cons_append]
  have r0 := hR.h0
  gi_wp2
  gi_loopw [3] (fun i wr => ∃ k : Nat, k ≤ L.length ∧ i = .pointer (some (nxP tb L k)) ∧ J (L.attach.take k) wr ∧ wr.cell? ⟨Bs, 0, none⟩ = some (.pointer (some ⟨tb, 0, none⟩)) ∧ RingC wr tb L)
    (fun i wr => L.length - posP L i)
  case atStart => exact ⟨0, Nat.zero_le _, rfl, h0, hBs, hR⟩
  case round =>
    obtain ⟨k, hk, rfl, hJ, hB, hRr⟩ := hrel
    have hms := posP_nx (tb := tb) hnd hk
    by_cases hkl : k < L.length
    · have hst := nxP_some (tb := tb) hkl
      have hnx := hRr.hk k hkl
      have hms2 := Lib.hid (posP_nx (tb := tb) hnd (k := k + 1) (by omega))
      have hmem : L[k] ∈ L := List.getElem_mem hkl
      have htk : Hid (L.attach.take k ++ [⟨L[k], hmem⟩] = L.attach.take (k + 1)) := Lib.hid (by rw [List.take_succ_eq_append_getElem (by simpa using hkl), List.getElem_attach])
      have htv : Hid ((L.attach.take k ++ [(⟨L[k], hmem⟩ : Of L)]).map (fun p : Of L => p.1) <+: L) := Lib.hid (by rw [htk.out, List.map_take, List.attach_map_subtype_val]; exact List.take_prefix _ _)
      obtain ⟨x, hx⟩ : ∃ x, L[k] = x := ⟨_, rfl⟩
      have hxw : Hid (Way Bs tb L x.1) := Lib.hid (.inr (.inr (hx ▸ List.mem_map_of_mem (f := (·.1)) hmem)))
      have hshp := hRr.shp x.1 (.inr (hx ▸ List.mem_map_of_mem (f := (·.1)) hmem))
      obtain ⟨fn, tmps, assign, body, hy, hYR⟩ := hY (L.attach.take k) ⟨L[k], hmem⟩ wr hJ (by rw [List.length_take, List.length_attach]; omega)
      obtain ⟨y, hyy⟩ : ∃ y : Of L, ⟨L[k], hmem⟩ = y := ⟨_, rfl⟩
      rw [hyy] at hYR htk htv
      simp only [hx] at hy hst hnx
      rw [hst] at hms ⊢
      have hmsH := Lib.hid hms
      have hne := ptr_other (w := wr) (a := ⟨x.1, 0, none⟩) (b := ⟨tb, 2, none⟩) (by simp) hshp (hRr.shp tb (.inl rfl))
      have hRH := Lib.hid hRr
      clear hst hx hyy hms hRr hmem
      gi_wp2
      refine hYR.mono ?_
      rintro e W3 (⟨rfl, hJ3, hk3⟩ | ⟨rfl, hJx3⟩)
      · have hnx3 := (hk3 _ hxw.out).1 _ _ hnx
        have hB3 := (hk3 _ (.inl rfl)).1 _ _ hB
        have hR3 := Lib.hid (hRH.out.keepsT hk3 (.inr (.inl rfl)) (fun p hp => .inr (.inr (List.mem_map_of_mem hp))))
        rw [htk.out] at hJ3
        clear hnx hB hRH
        gi_wp2
        go_roundw
        case rel => exact ⟨k + 1, by omega, rfl, hJ3, hB3, hR3.out⟩
        case measure => rw [hms2.out, hmsH.out]; omega
      · gi_wp2
        go_end0
        exact ⟨⟨_, rfl⟩, .inr ⟨_, htv.out, hJx3⟩⟩
    · have hst := nxP_none (tb := tb) (L := L) (k := k) (by omega)
      rw [hst]
      have htk : L.attach.take k = L.attach := List.take_of_length_le (by rw [List.length_attach]; omega)
      rw [htk] at hJ
      have hJH := Lib.hid hJ
      have hsm := ptr_same ⟨tb, 2, none⟩ wr
      clear hst htk hms hJ
      gi_wp2
      all_goals (refine ⟨fun _ h => (by cases h), ?_⟩; gi_wp2; go_end0; exact ⟨⟨_, rfl⟩, .inl ⟨L.attach, List.attach_map_subtype_val L, hJH.out⟩⟩)
theorem row_stops (F : Fence) (n : Nat) (h66 : F.fn 66) (hro : F.round = none) (hn : 1 ≤ n) (Bs tb : Nat) (L : List Nd) (hnd : (L.map (·.1)).Nodup) (w : World) (hBs : w.cell? ⟨Bs, 0, none⟩ = some (.pointer (some ⟨tb, 0, none⟩))) (hR : RingC w tb L) :
    SeqStopsK F n Try.prog 66 #[.pointer (some ⟨Bs, 0, none⟩)] (fun x : Of L => #[Value.pointer (some ⟨x.1.1, 0, none⟩)]) (KeepsT (Way Bs tb L)) (fun ys => ys.map (·.1) = L)
      (fun pre => pre.map (·.1) <+: L) L.length w := fun l J Jx W hW _ _ hY h0 => by
  have hc' := (hW.cell (p := ⟨Bs, 0, none⟩) (block_lt hBs)).trans hBs
  have hk : KeepsT (fun b => b = tb ∨ b ∈ L.map (·.1)) w W := KeepsT.of_size hW
  exact row1_in F n h66 hro hn l Bs tb L hnd J Jx hY W hc' (hR.keepsT hk (.inl rfl) (fun p hp => .inr (List.mem_map_of_mem hp))) h0
/-- row(): a function value that has the table in a box. -/
theorem row_any (tb : Nat) (w : World) :
    Calls Try.prog 55 #[.pointer (some ⟨tb, 0, none⟩)] w fun e w' => e = .returned (.func (.func 66) #[] #[.pointer (some ⟨w.heap.size, 0, none⟩)]) ∧ w' = w.alloc (.cells #[.pointer (some ⟨tb, 0, none⟩)] 25) := by
  go_enter Try.func55, Try.ntmps55
  go_wp2
  go_ret
  exact ⟨rfl, rfl⟩
end Go.Proofs.Ytmgapdbfaoflmaa.Tb
