/- append of a row of strings, empty or not, to a row of one's own. -/
import Derived.Test.YtlikkpeaepankaaNmJ
import Derived.Laws.OwnMore
namespace Go.Proofs.Ytlikkpeaepankaa.Nm
open Go.RowKit Rt Go.Proofs.YtlikkpeaepankaaW.PrintWords
set_option linter.unusedSimpArgs false

theorem own_slice2 {w : World} {B : Nat} {v : Value} {l : List ByteArray} (h : w.ownsRow B 9 1 v l.length (l.map Value.string)) : ∃ A cap, v = .slice A l.length cap ∧ StrRow w A l ∧ (A = none → cap = 0 ∧ l = []) ∧ (∀ ad, A = some ad → B ≤ ad.block ∧ ad.block < w.heap.size ∧ ∀ k, (ad.add k).block = ad.block) := by
  rcases h.2 with ⟨rfl, h1⟩ | ⟨g, cap, cur, rfl, hg, hh, hle, _, hsz, htk⟩
  · have h0 := List.length_eq_zero_iff.1 h1
    subst h0
    exact ⟨none, 0, rfl, fun k hk => by simp at hk, fun _ => ⟨rfl, rfl⟩, fun ad h => by cases h⟩
  · refine ⟨some ⟨g, 0, none⟩, cap, rfl, fun k hk => ⟨(⟨g, 0, none⟩ : Addr), rfl, ?_⟩, ⟨fun h => by simp at h, fun ad h => ?_⟩⟩
    rotate_left
    · obtain rfl := Option.some.inj h
      exact ⟨hg, (Array.getElem?_eq_some_iff.1 hh).1, fun k => by rw [addr_add0]⟩
    by_cases h0 : l.length = 0
    · omega
    · obtain ⟨g', cap', hv, hgl, hcell⟩ := own_cell h h0
      cases hv
      have := hcell k (by simpa using hk)
      rw [addr_add0, this]; simp

theorem run_append_str {P : Program} {w : World} (base : Nat) (t ty e : TypeId) (i : TypeInfo) (ht : P.underlying t = some (.slice e)) (hi : P.info? e = some i) (hz : i.zero = some (.string ⟨#[]⟩)) (hsize : i.size = 1) (hby : i.bytes = 16)
    (v : Value) (n : Nat) (xs : List Value) (hown : w.ownsRow base e 1 v n xs) (A : Option Addr) (l : List ByteArray) (c : Nat) (hr : StrRow w A l) (hA : A = none → c = 0 ∧ l = []) (hbytes : (n + l.length) * 16 ≤ 140737488355328) (hbase : base ≤ w.heap.size) :
    ∃ v' w', (Builtin.append_ #[t, t] ty #[v, .slice A l.length c]).run P w = .ok v' w' ∧ w'.ownsRow base e 1 v' (n + l.length) (xs ++ l.map Value.string) ∧ w.grownBy w' v.ownBlock := by
  cases A with
  | none =>
    obtain ⟨rfl, rfl⟩ := hA rfl
    exact ⟨v, w, run_append_owned_none (w := w) base t ty e i 1 ht hi v n xs hown, by simpa using hown, World.grownBy.refl _ _⟩
  | some ad =>
    obtain ⟨v', w', h1, h2, h3, _⟩ := run_append_own (P := P) w base t ty e i (.string ⟨#[]⟩) 1 16 ht hi hz hsize hby rfl (by decide) v n xs hown ad l.length c (l.map Value.string) (by simp)
      (fun j u hu => by
        rw [List.getElem?_map] at hu
        obtain ⟨s, hs, rfl⟩ := Option.map_eq_some_iff.1 hu
        obtain ⟨hj, hs2⟩ := List.getElem?_eq_some_iff.1 hs
        obtain ⟨ad', he, hc⟩ := hr j hj
        cases he
        rw [hc, hs2])
      (fun u hu => by obtain ⟨s, _, rfl⟩ := List.mem_map.1 hu; rfl) (by unfold maxLen; omega) hbytes hbase
    exact ⟨v', w', h1, h2, h3⟩

theorem wp_append_str {P : Program} {w : World} {o : Oper} {a : Act} {K : Act → World → Prop} {Q : Exit → Act → World → Prop} (s x : Operand) (t : TypeId)
    (ho : o.op = .call { callee := .builtin .append, args := #[s, x], argTypes := #[t, t] })
    (base : Nat) (e : TypeId) (i : TypeInfo) (ht : P.underlying t = some (.slice e)) (hi : P.info? e = some i) (hz : i.zero = some (.string ⟨#[]⟩)) (hsize : i.size = 1) (hby : i.bytes = 16)
    (v : Value) (n : Nat) (xs : List Value) (hs : a.eval s = v) (hown : w.ownsRow base e 1 v n xs) (A : Option Addr) (l : List ByteArray) (c : Nat) (hx : a.eval x = .slice A l.length c) (hr : StrRow w A l) (hA : A = none → c = 0 ∧ l = []) (hbytes : (n + l.length) * 16 ≤ 140737488355328) (hbase : base ≤ w.heap.size)
    (h : ∀ v' w', w'.ownsRow base e 1 v' (n + l.length) (xs ++ l.map Value.string) → w.grownBy w' v.ownBlock → K (a.put o.dst v') w') : o.wp P a w K Q := by
  obtain ⟨v', w', h1, h2, h3⟩ := run_append_str (P := P) base t o.type e i ht hi hz hsize hby v n xs hown A l c hr hA hbytes hbase
  unfold Oper.wp execOp
  simp only [ho, resolve, invoke, builtin, Sem.run_bind, Sem.run_pure, Result.andThen_ok, List.map_toArray, List.map_cons, List.map_nil, hs, hx, h1]
  exact h v' w' h2 h3
theorem wpList_append_str {P : Program} {w : World} {ops : Array Oper} {rest : List Oper} {o : Oper} {a : Act} {Q : Exit → Act → World → Prop} (hgd : o.guard = none) (s x : Operand) (t : TypeId)
    (ho : o.op = .call { callee := .builtin .append, args := #[s, x], argTypes := #[t, t] })
    (base : Nat) (e : TypeId) (i : TypeInfo) (ht : P.underlying t = some (.slice e)) (hi : P.info? e = some i) (hz : i.zero = some (.string ⟨#[]⟩)) (hsize : i.size = 1) (hby : i.bytes = 16)
    (v : Value) (n : Nat) (xs : List Value) (hs : a.eval s = v) (hown : w.ownsRow base e 1 v n xs) (A : Option Addr) (l : List ByteArray) (c : Nat) (hx : a.eval x = .slice A l.length c) (hr : StrRow w A l) (hA : A = none → c = 0 ∧ l = []) (hbytes : (n + l.length) * 16 ≤ 140737488355328) (hbase : base ≤ w.heap.size)
    (h : ∀ v' w', w'.ownsRow base e 1 v' (n + l.length) (xs ++ l.map Value.string) → w.grownBy w' v.ownBlock → wpList P ops Q rest (a.put o.dst v') w') : wpList P ops Q (o :: rest) a w :=
  wpList_plain hgd fun _ hK => wp_append_str s x t ho base e i ht hi hz hsize hby v n xs hs hown A l c hx hr hA hbytes hbase fun v' w' h2 h3 => hK _ _ (h v' w' h2 h3)
theorem StrRow.below {w w' : World} {A : Option Addr} {l : List ByteArray} (h : StrRow w A l) (hb : Below w.heap.size w w') : StrRow w' A l := fun k hk => by
  obtain ⟨ad, h1, h2⟩ := h k hk
  exact ⟨ad, h1, by rw [hb.cell (World.block_lt_of_cell? w _ h2), h2]⟩
theorem Labels_any (s : ByteArray) (hs : s.size ≤ 140737488351232) (w : World) : Calls Try.prog 18 #[.string s] w fun e W' => ∃ v, e = .returned v ∧ W'.ownsRow w.heap.size 9 1 v (labelsL s).length ((labelsL s).map Value.string) ∧ Below w.heap.size w W' :=
  (callsIn_wide (n := 100)).1 (Labels_in Fence.wide 100 trivial trivial trivial trivial rfl (by omega) s hs w)

set_option maxRecDepth 100000 in
set_option maxHeartbeats 2000000 in
/-- texts of a list and itself. -/
theorem texts_same (A B : Option Addr) (c d : Nat) (l : List ByteArray) (w : World) (hr : StrRow w A l) (hs : StrRow w B l) (hn : l.length * 16 ≤ 140737488351232) :
    Calls Try.prog 17 #[.slice A l.length c, .slice B l.length d] w fun e w' => e = .returned (.bool true) ∧ Below w.heap.size w w' := by
  go_enter Try.func17, Try.ntmps17
  go_wp2
  go_loopw [5] (fun v wr => ∃ k : Nat, k ≤ l.length ∧ v = .int .i64 k ∧ Below w.heap.size w wr) (fun v _ => l.length - (intOf v).toNat)
  case atStart => exact ⟨0, Nat.zero_le _, rfl, Below.refl _ _⟩
  case round =>
    obtain ⟨k, hk, rfl, hb⟩ := hrel
    by_cases hlt : k < l.length
    · obtain ⟨a, rfl, hca0⟩ := hr k hlt
      obtain ⟨b, rfl, hcb0⟩ := hs k hlt
      have hca : wr.cell? (a.add k) = some (.string l[k]) := Lib.Below.cellOf hb hca0 (Nat.le_refl _)
      have hcb : wr.cell? (b.add k) = some (.string l[k]) := Lib.Below.cellOf hb hcb0 (Nat.le_refl _)
      have hlt' : (k : Int) < l.length := by omega
      obtain ⟨x, hx⟩ : ∃ x, l[k] = x := ⟨_, rfl⟩
      rw [hx] at hca hcb
      clear hx hr hs hca0 hcb0
      go_wp2
      go_region
      all_goals (
        go_wp2
        go_roundw
        case rel => exact ⟨k + 1, by omega, by go_num, by first | exact hb.drew | exact hb⟩
        case measure => simp [intOf]; omega)
    · obtain rfl : k = l.length := by omega
      go_wp2
      go_ret
      exact ⟨rfl, hb⟩
end Go.Proofs.Ytlikkpeaepankaa.Nm
