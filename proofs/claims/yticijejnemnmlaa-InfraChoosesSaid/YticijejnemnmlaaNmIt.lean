/- What 'labels' hands back goes over the labels of its string. -/
import Derived.RangeFuncNested
import Derived.RangeFuncBound
import Derived.RangeFuncBox
import Derived.RangeFuncCalls
import Derived.RangeFuncLeaves
import Derived.Shelf.Abstract
import Derived.WalkKit
import Derived.OwnWalkIn
import Derived.TacticsInMore
import Derived.LoopNIn
import Derived.LoopIn
import Derived.Lib.Hide
import Derived.WalkSpells
import Derived.Test.YticijejnemnmlaaProg
import Derived.Test.YticijejnemnmlaaNmA
namespace Go.Proofs.Yticijejnemnmlaa.Nm
open Go.RowKit Go.Shelf
attribute [local go_sem] Oper.semAt_some

/-- A box reads as it read. -/
def KeepsCell (B : Nat) (W W' : World) : Prop := ∀ v, W.cell? ⟨B, 0, none⟩ = some v → W'.cell? ⟨B, 0, none⟩ = some v
theorem KeepsCell.refl (B : Nat) (W : World) : KeepsCell B W W := fun _ h => h
theorem KeepsCell.trans {B : Nat} {W1 W2 W3 : World} (h : KeepsCell B W1 W2) (k : KeepsCell B W2 W3) : KeepsCell B W1 W3 := fun v hv => k v (h v hv)
theorem KeepsCell.below {B n : Nat} {W W' : World} (h : Below n W W') (hn : B < n) : KeepsCell B W W' := fun _ hv => (h.cell (p := ⟨B, 0, none⟩) hn).trans hv
theorem KeepsCell.of_size {B : Nat} {W W' : World} (h : Below W.heap.size W W') : KeepsCell B W W' := fun _ hv => (h.cell (p := ⟨B, 0, none⟩) (World.block_lt_of_cell? W _ hv)).trans hv
theorem KeepsCell.setCell {B : Nat} (W : World) (a : Addr) (v : Value) (h : a.block ≠ B) : KeepsCell B W (W.setCell a v) := fun u hu => by
  rw [World.cell?_setCell_other _ _ _ _ (fun e => h (by rw [e]))]; exact hu
theorem KeepsCell.putObj {w : World} {B : Nat} (W : World) (l : Nat) (o o' : Obj) (_ : w.heap.size ≤ l) (h : W.heap[l]? = some o) (hc : o.isCells = false) (_ : o.isWalk = false) : KeepsCell B W (W.putObj l o') := fun v hv =>
  cell_kept hv (grownBy_putObj' W l o') (fun r e => by cases e; exact ⟨o, h, hc⟩)

/-- 'out = append(out, ..)' in a round of a loop over an iterator that has its own box. -/
theorem appendedK {W w1 : World} {n₀ B Bs : Nat} {t e : TypeId} {size : Nat} {v v' : Value} {k m : Nat} {xs ys : List Value} {tmp : Obj}
    (hv : Boxed W B t v) (hte : t ≠ e) (hrow : W.ownsRow n₀ e size v k xs) (hn₀ : n₀ ≤ W.heap.size) (hB : B ≠ Bs) (hBn : B < n₀) (hBs : Bs < n₀)
    (hown' : w1.ownsRow n₀ e size v' m ys) (hgrow : (W.alloc tmp).grownBy w1 v.ownBlock) :
    Boxed w1 B t v ∧ Boxed (w1.setCell ⟨B, 0, none⟩ v') B t v' ∧ (w1.setCell ⟨B, 0, none⟩ v').ownsRow n₀ e size v' m ys ∧ KeepsOthers W (w1.setCell ⟨B, 0, none⟩ v') ∧ KeepsCell Bs W (w1.setCell ⟨B, 0, none⟩ v') ∧ Below B W (w1.setCell ⟨B, 0, none⟩ v') := by
  have hv1 : Boxed w1 B t v := (hv.alloc tmp).kept hgrow (hv.not_row hte hrow)
  have hb : Below n₀ W w1 := ((Below.refl n₀ W).alloc hn₀ tmp).grown hgrow (by simp; omega) fun j ej => by
    rcases hrow.2 with ⟨rfl, _⟩ | ⟨g, cap, cur, rfl, hb, _, _⟩
    · simp [Value.ownBlock] at ej
    · obtain rfl : g = j := by simpa [Value.ownBlock] using ej
      exact hb
  refine ⟨hv1, hv1.set v', hown'.kept (grownBy_setCell' w1 B v') (.inr (hv1.not_row hte hown').symm), ?_, (KeepsCell.below hb hBs).trans (KeepsCell.setCell _ _ _ hB), (hb.mono (show B ≤ n₀ by omega)).setCell (p := ⟨B, 0, none⟩) (Nat.le_refl B) v'⟩
  refine ((KeepsOthers.alloc W tmp).trans (KeepsOthers.of_grownBy hgrow fun j o ej hj => ?_)).trans (KeepsOthers.setCell _ _ _)
  rcases (hrow.alloc tmp).2 with ⟨rfl, _⟩ | ⟨g, cap, cur, rfl, _, hgb, _⟩
  · simp [Value.ownBlock] at ej
  · obtain rfl : g = j := by simpa [Value.ownBlock] using ej
    rw [hgb] at hj; cases hj; rfl

set_option maxRecDepth 100000 in
set_option maxHeartbeats 1000000 in
theorem labels1_in (F : Fence) (n : Nat) (h51 : F.fn 51) (hro : F.round = none) (hn : 1 ≤ n) (l Bs : Nat) (s : ByteArray) (hs : s.size ≤ 140737488351232) (J Jx : List (Lb s) → World → Prop)
    (hY : ∀ pre x W, J pre W → pre.length < s.size → YieldAt F (n - 1) Try.prog l #[.int .i64 (x.1.1 : Int), .string x.1.2] W fun e W' =>
      (e = .returned (.bool true) ∧ J (pre ++ [x]) W' ∧ KeepsCell Bs W W') ∨ (e = .returned (.bool false) ∧ Jx (pre ++ [x]) W'))
    (W : World) (hBs : W.cell? ⟨Bs, 0, none⟩ = some (.string s)) (h0 : J [] W) :
    CallsIn F n Try.prog 51 #[.func (.yield l) #[] #[], .pointer (some ⟨Bs, 0, none⟩)] W fun e W' => (∃ v, e = .returned v) ∧
      ((∃ ys, ys.map (·.1) = labs s 0 ∧ J ys W') ∨ (∃ pre, pre.map (·.1) <+: labs s 0 ∧ Jx pre W')) := by
  refine callsIn_of_wp Try.func51 rfl h51 ?_ hro
  simp only [Try.ntmps51, List.size_toArray, List.length_cons, List.length_nil, Nat.reduceAdd, Nat.reduceSub, Array.replicate_succ, Array.replicate_zero, List.push_toArray, List.append_toArray, List.nil_append, List.cons_append]
  gi_wp2
  gi_loopw [3, 4] (fun i _ wr => ∃ (k : Nat) (pre : List (Lb s)), k ≤ s.size ∧ i = .int .i64 k ∧ labs s 0 = pre.map (·.1) ++ labs s k ∧ J pre wr ∧ wr.cell? ⟨Bs, 0, none⟩ = some (.string s))
    (fun i _ _ => s.size - (intOf i).toNat)
  case atStart => exact ⟨0, [], Nat.zero_le _, rfl, rfl, h0, hBs⟩
  case round =>
    obtain ⟨k, pre, hk, rfl, hpre, hJs, hcx⟩ := hrel
    by_cases hlt : k < s.size
    · by_cases hz : s[k].toNat = 0
      · have hz1 : ((s[k].toNat : Int) != 0) = false := by simp [hz]
        have hl1 : lab1 s k = none := by unfold lab1; rw [dif_pos hlt, if_pos hz]
        have hE : Hid (labs s 0 = pre.map (·.1)) := Lib.hid (by rw [hpre, labs_none hl1, List.append_nil])
        clear hz hpre hl1
        gi_wp2
        go_end0
        exact ⟨⟨_, rfl⟩, .inl ⟨pre, hE.out.symm, hJs⟩⟩
      · have hz1 : ((s[k].toNat : Int) != 0) = true := by simp [hz]
        have hb8 : (s[k].toNat : Int) ≤ 255 := by have := UInt8.toNat_lt s[k]; omega
        have hb0 : 0 ≤ (s[k].toNat : Int) := by omega
        by_cases hc1 : 63 < s[k].toNat
        · have hl1 : lab1 s k = none := by unfold lab1; rw [dif_pos hlt, if_neg hz, if_pos hc1]
          have hE : Hid (labs s 0 = pre.map (·.1)) := Lib.hid (by rw [hpre, labs_none hl1, List.append_nil])
          have hc1' : (63 : Int) < (s[k].toNat : Int) := by omega
          clear hz hpre hl1
          gi_wp2
          refine ⟨fun _ h => (by cases h), ?_⟩
          gi_wp2
          refine bodyPost_ret (results_none rfl _ _ _) rfl ?_
          exact ⟨⟨_, rfl⟩, .inl ⟨pre, hE.out.symm, hJs⟩⟩
        · by_cases hc2 : s.size < k + 1 + s[k].toNat
          · have hl1 : lab1 s k = none := by unfold lab1; rw [dif_pos hlt, if_neg hz, if_neg hc1, if_pos hc2]
            have hE : Hid (labs s 0 = pre.map (·.1)) := Lib.hid (by rw [hpre, labs_none hl1, List.append_nil])
            have hc1' : ¬ (63 : Int) < (s[k].toNat : Int) := by omega
            have hc2' : (s.size : Int) < (k : Int) + 1 + (s[k].toNat : Int) := by omega
            clear hz hpre hl1 hc1
            gi_wp2
            refine ⟨fun _ h => (by cases h), ?_⟩
            gi_wp2
            refine bodyPost_ret (results_none rfl _ _ _) rfl ?_
            exact ⟨⟨_, rfl⟩, .inl ⟨pre, hE.out.symm, hJs⟩⟩
          · have hl1 : lab1 s k = some (k + 1 + s[k].toNat) := by unfold lab1; rw [dif_pos hlt, if_neg hz, if_neg hc1, if_neg hc2]
            have hlen : pre.length < s.size := by
              have h1 := labs_length s (s.size - 0) 0 rfl
              rw [hpre, List.length_append, labs_some hl1, List.length_cons, List.length_map] at h1
              omega
            have hmem : isLab s (k, s.extract (k + 1) (k + 1 + s[k].toNat)) := by unfold isLab; rw [hpre, labs_some hl1]; simp
            have hE : Hid (labs s 0 = (pre ++ [(⟨(k, s.extract (k + 1) (k + 1 + s[k].toNat)), hmem⟩ : Lb s)]).map (·.1) ++ labs s (k + 1 + s[k].toNat)) := Lib.hid (by rw [hpre, labs_some hl1]; simp)
            have hc1' : ¬ (63 : Int) < (s[k].toNat : Int) := by omega
            have hc2' : ¬ (s.size : Int) < (k : Int) + 1 + (s[k].toNat : Int) := by omega
            obtain ⟨fn, tmps, assign, body, hy, hR⟩ := hY pre ⟨(k, s.extract (k + 1) (k + 1 + s[k].toNat)), hmem⟩ wr hJs hlen
            dsimp only at hy
            clear hpre hl1 hc1 hlen
            gi_wp2
            refine hR.mono ?_
            rintro e W3 (⟨rfl, hJ3, hk3⟩ | ⟨rfl, hJx3⟩)
            · gi_wp2
              go_roundw
              case rel => exact ⟨k + 1 + s[k].toNat, _, by omega, by go_num, hE.out, hJ3, hk3 _ hcx⟩
              case measure => simp [intOf]; omega
            · gi_wp2
              refine bodyPost_ret (results_none rfl _ _ _) rfl ?_
              exact ⟨⟨_, rfl⟩, .inr ⟨_, ⟨_, hE.out.symm⟩, hJx3⟩⟩
    · have hl1 : lab1 s k = none := by unfold lab1; rw [dif_neg hlt]
      have hE : Hid (labs s 0 = pre.map (·.1)) := Lib.hid (by rw [hpre, labs_none hl1, List.append_nil])
      clear hpre hl1
      gi_wp2
      go_end0
      exact ⟨⟨_, rfl⟩, .inl ⟨pre, hE.out.symm, hJs⟩⟩

/-- labels(n): a function value that has its string in a box. -/
theorem labels_in (F : Fence) (n : Nat) (h43 : F.fn 43) (hro : F.round = none) (s : ByteArray) (w : World) :
    CallsIn F n Try.prog 43 #[.string s] w fun e w' => e = .returned (.func (.func 51) #[] #[.pointer (some ⟨w.heap.size, 0, none⟩)]) ∧ w' = w.alloc (.cells #[.string s] 9) := by
  refine callsIn_of_wp Try.func43 rfl h43 ?_ hro
  simp only [Try.ntmps43, List.size_toArray, List.length_cons, List.length_nil, Nat.reduceAdd, Nat.reduceSub, Array.replicate_succ, Array.replicate_zero, List.push_toArray, List.append_toArray, List.nil_append, List.cons_append]
  gi_wp2
  go_ret
  exact ⟨rfl, rfl⟩

theorem labels_stops (F : Fence) (n : Nat) (h51 : F.fn 51) (hro : F.round = none) (hn : 1 ≤ n) (Bs : Nat) (s : ByteArray) (hs : s.size ≤ 140737488351232) (w : World) (hBs : Bs < w.heap.size)
    (hc : w.cell? ⟨Bs, 0, none⟩ = some (.string s)) :
    SeqStopsK F n Try.prog 51 #[.pointer (some ⟨Bs, 0, none⟩)] (fun x : Lb s => #[Value.int .i64 (x.1.1 : Int), Value.string x.1.2]) (KeepsCell Bs) (fun ys => ys.map (·.1) = labs s 0)
      (fun pre => pre.map (·.1) <+: labs s 0) s.size w := fun l J Jx W hW _ _ hY h0 => by
  have hc' := (hW.cell (p := ⟨Bs, 0, none⟩) hBs).trans hc
  exact labels1_in F n h51 hro hn l Bs s hs J Jx hY W hc' h0

end Go.Proofs.Yticijejnemnmlaa.Nm
