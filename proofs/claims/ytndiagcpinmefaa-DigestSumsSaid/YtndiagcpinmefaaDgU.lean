/- digest.Unhex. -/
import Derived.Test.YtndiagcpinmefaaDgP
namespace Go.Proofs.Ytndiagcpinmefaa.Dg
open Go.RowKit Rt Go.Proofs.YtndiagcpinmefaaW.PrintWords
set_option linter.unusedSimpArgs false

abbrev hexes : ByteArray := ⟨#[48, 49, 50, 51, 52, 53, 54, 55, 56, 57, 97, 98, 99, 100, 101, 102]⟩
def hexV (c : UInt8) : Int := placeW hexes c
def unhexL : List UInt8 → Option (List UInt8)
  | [] => some []
  | [_] => none
  | c :: d :: r => if hexV c < 0 ∨ hexV d < 0 then none else (unhexL r).map (fun M => UInt8.ofNat (16 * (hexV c).toNat + (hexV d).toNat) :: M)
def unhexW (s : ByteArray) : ByteArray × Int := match unhexL s.data.toList with | some M => (mk M, 0) | none => (⟨#[]⟩, 7)
theorem unhexL_odd : ∀ (n : Nat) (r : List UInt8), r.length ≤ n → r.length % 2 = 1 → unhexL r = none := by
  intro n
  induction n with
  | zero => intro r h h2; simp at h; subst h; simp at h2
  | succ n ih =>
    intro r h h2
    match r, h, h2 with
    | [c], _, _ => rfl
    | c :: d :: r, h, h2 =>
      unfold unhexL
      split
      · rfl
      · rw [ih r (by simp at h; omega) (by simp at h2; omega)]; rfl
theorem hexV_fin : ∀ c : Fin 256, -1 ≤ hexV (UInt8.ofNat c.val) ∧ hexV (UInt8.ofNat c.val) ≤ 15 := by decide +kernel
theorem hexV_rng (c : UInt8) : -1 ≤ hexV c ∧ hexV c ≤ 15 := by
  have := hexV_fin ⟨c.toNat, UInt8.toNat_lt c⟩; simpa using this
theorem orShl_fin : ∀ (a b : Fin 16), Go.bits .or .i64 ((a.val : Int) * 16) (b.val : Int) = ((16 * a.val + b.val : Nat) : Int) := by decide +kernel
theorem and1_i64 (k : Nat) (h : k < 2 ^ 63) : Go.bits BinOp.and IntKind.i64 (k : Int) 1 = ((k % 2 : Nat) : Int) := by
  unfold Go.bits
  have h1 : (BitVec.ofInt IntKind.i64.bits (k : Int) &&& BitVec.ofInt IntKind.i64.bits 1).toNat = k % 2 := by
    rw [BitVec.toNat_and, BitVec.ofInt_natCast, BitVec.toNat_ofNat]
    show (k % 2 ^ 64) &&& 1 = k % 2
    rw [Nat.mod_eq_of_lt (by omega)]
    exact Nat.and_two_pow_sub_one_eq_mod k 1
  simp only [h1]
  simp [IntKind.wrap, IntKind.bits, IntKind.signed]; omega

def szOf (v : Value) : Nat := match v with | .string q => q.size | _ => 0
theorem szOf_str (q : ByteArray) : szOf (.string q) = q.size := rfl
theorem empty_nil : (mk []).toList.isEmpty = true := by rw [ByteArray.toList_eq]; rfl
theorem empty_cons (c : UInt8) (r : List UInt8) : (mk (c :: r)).toList.isEmpty = false := by rw [ByteArray.toList_eq]; rfl

set_option maxRecDepth 100000 in
set_option maxHeartbeats 2000000 in
theorem Unhex_any (s : ByteArray) (hs : s.size ≤ 140737488351232) (w : World) :
    Calls Try.prog 13 #[.string s] w fun e W' => e = .returned (.tuple #[.string (unhexW s).1, .int .i64 (unhexW s).2]) ∧ Below w.heap.size w W' := by
  obtain ⟨i0, hi, hz0', hz1, hz2⟩ := info_parts info5
  have hbw := Below.refl w.heap.size w
  by_cases hodd : s.size % 2 = 1
  · have hU : Hid (unhexW s = (⟨#[]⟩, 7)) := Lib.hid (by
      unfold unhexW; rw [unhexL_odd _ _ (Nat.le_refl _) hodd])
    have e1 : Go.bits .and .i64 (s.size : Int) 1 = 1 := by rw [and1_i64 _ (by omega), hodd]; rfl
    go_enter Try.func13, Try.ntmps13
    go_wp2
    go_ret2
    exact ⟨by rw [hU.out]; rfl, hbw⟩
  · have e1 : Go.bits .and .i64 (s.size : Int) 1 = 0 := by rw [and1_i64 _ (by omega), show s.size % 2 = 0 by omega]; rfl
    obtain ⟨L, hL⟩ : ∃ L, s.data.toList = L := ⟨_, rfl⟩
    have hs0 : Hid (s = mk L) := Lib.hid (by rw [← hL, mk_toList])
    have hUW : Hid (unhexW s = match unhexL L with | some M => (mk M, 0) | none => (⟨#[]⟩, 7)) := Lib.hid (by unfold unhexW; rw [hL])
    have hLn : L.length = s.size := by rw [← hL]; rfl
    clear hL
    go_enter Try.func13, Try.ntmps13
    go_wp2
    go_loopw [0, 4] (fun x v wr => ∃ r M : List UInt8, x = .string (mk r) ∧ r.length % 2 = 0 ∧ 2 * M.length + r.length = L.length ∧ Hid (unhexL L = (unhexL r).map (M ++ ·)) ∧ wr.ownsRow w.heap.size 5 1 v M.length (cells M) ∧ Below w.heap.size w wr) (fun x _ _ => szOf x)
    case atStart => exact ⟨L, [], by rw [← hs0.out], by omega, by simp, Lib.hid (by simp), World.ownsRow_nil _ _ _ _, hbw⟩
    case round =>
      obtain ⟨r, M, rfl, hr2, hML, hU, hrow, hb⟩ := hrel
      cases r with
      | nil =>
        have hcv := conv_own hrow Try.underlying31 Try.underlying5 Try.underlying9
        have hres : Hid (unhexW s = (mk M, 0)) := Lib.hid (by rw [hUW.out, hU.out]; simp [unhexL])
        have hem := empty_nil
        clear hrow
        go_wp2
        go_ret2
        exact ⟨by rw [hres.out]; rfl, hb⟩
      | cons c r =>
        cases r with
        | nil => simp at hr2
        | cons d r =>
          have hem := empty_cons c (d :: r)
          have hp0 : 0 < (mk (c :: d :: r)).size := by rw [mk_size]; simp
          have hp1 : 1 < (mk (c :: d :: r)).size := by rw [mk_size]; simp
          have hp2 : (1 : Int) < ((mk (c :: d :: r)).size : Int) := by omega
          have hp3 : (0 : Int) < ((mk (c :: d :: r)).size : Int) := by omega
          have hz0 : (mk (c :: d :: r))[0]'(by rw [mk_size]; simp) = c := rfl
          have hz1' : (mk (c :: d :: r))[1]'(by rw [mk_size]; simp) = d := rfl
          obtain ⟨x, hx⟩ : ∃ x, hexV c = x := ⟨_, rfl⟩
          obtain ⟨y, hy⟩ : ∃ y, hexV d = y := ⟨_, rfl⟩
          have hxr := hexV_rng c
          have hyr := hexV_rng d
          rw [hx] at hxr
          rw [hy] at hyr
          go_wp2
          refine Rt.wp_region_text [0, 0, 1, 0, 0, 1, 0, 0] (by kernel_rfl) (by kernel_rfl) ?_
          repeat (first | (apply txt_move rfl rfl; (· (simp only [Act.put, Act.eval, List.setIfInBounds_toArray, List.set_cons_zero, List.set_cons_succ, Array.getD_eq_getD_getElem?, List.getElem?_toArray, List.getElem?_cons_zero, List.getElem?_cons_succ, Option.getD_some]; with_reducible rfl))) | (apply txt_assign rfl rfl; (· (simp only [Act.put, Act.eval, List.setIfInBounds_toArray, List.set_cons_zero, List.set_cons_succ, Array.getD_eq_getD_getElem?, List.getElem?_toArray, List.getElem?_cons_zero, List.getElem?_cons_succ, Option.getD_some]; with_reducible rfl))) | (apply txt_skip rfl rfl; (· (simp only [Act.put, Act.eval, List.setIfInBounds_toArray, List.set_cons_zero, List.set_cons_succ, Array.getD_eq_getD_getElem?, List.getElem?_toArray, List.getElem?_cons_zero, List.getElem?_cons_succ, Option.getD_some]; with_reducible rfl))) | (apply txt_pure rfl rfl rfl; (· (intro w; go_simp; (try go_bits); with_reducible rfl)); (· (simp only [Act.put, Act.eval, List.setIfInBounds_toArray, List.set_cons_zero, List.set_cons_succ, Array.getD_eq_getD_getElem?, List.getElem?_toArray, List.getElem?_cons_zero, List.getElem?_cons_succ, Option.getD_some]; with_reducible rfl))) | (apply txt_read rfl rfl rfl; (· (go_simp; with_reducible rfl)); (· (simp only [Act.put, Act.eval, List.setIfInBounds_toArray, List.set_cons_zero, List.set_cons_succ, Array.getD_eq_getD_getElem?, List.getElem?_toArray, List.getElem?_cons_zero, List.getElem?_cons_succ, Option.getD_some]; with_reducible rfl))) | (apply txt_do rfl rfl rfl; (· (go_simp; with_reducible rfl)); (· (simp only [Act.put, Act.eval, List.setIfInBounds_toArray, List.set_cons_zero, List.set_cons_succ, Array.getD_eq_getD_getElem?, List.getElem?_toArray, List.getElem?_cons_zero, List.getElem?_cons_succ, Option.getD_some]; with_reducible rfl))) | (apply txt_value rfl rfl rfl; (· (go_simp; exact ⟨rfl, rfl⟩)); (· (simp only [Act.put, Act.eval, List.setIfInBounds_toArray, List.set_cons_zero, List.set_cons_succ, Array.getD_eq_getD_getElem?, List.getElem?_toArray, List.getElem?_cons_zero, List.getElem?_cons_succ, Option.getD_some]; with_reducible rfl))))
          (apply txt_quiet rfl rfl rfl; (· (go_simp; exact ⟨rfl, rfl⟩)); (· (exact (place_any hexes c _).mono fun e w h => by rw [show placeW hexes c = x from hx] at h; exact h)); (· (simp only [Act.put, Act.eval, List.setIfInBounds_toArray, List.set_cons_zero, List.set_cons_succ, Array.getD_eq_getD_getElem?, List.getElem?_toArray, List.getElem?_cons_zero, List.getElem?_cons_succ, Option.getD_some]; with_reducible rfl)))
          repeat (first | (apply txt_move rfl rfl; (· (simp only [Act.put, Act.eval, List.setIfInBounds_toArray, List.set_cons_zero, List.set_cons_succ, Array.getD_eq_getD_getElem?, List.getElem?_toArray, List.getElem?_cons_zero, List.getElem?_cons_succ, Option.getD_some]; with_reducible rfl))) | (apply txt_assign rfl rfl; (· (simp only [Act.put, Act.eval, List.setIfInBounds_toArray, List.set_cons_zero, List.set_cons_succ, Array.getD_eq_getD_getElem?, List.getElem?_toArray, List.getElem?_cons_zero, List.getElem?_cons_succ, Option.getD_some]; with_reducible rfl))) | (apply txt_skip rfl rfl; (· (simp only [Act.put, Act.eval, List.setIfInBounds_toArray, List.set_cons_zero, List.set_cons_succ, Array.getD_eq_getD_getElem?, List.getElem?_toArray, List.getElem?_cons_zero, List.getElem?_cons_succ, Option.getD_some]; with_reducible rfl))) | (apply txt_pure rfl rfl rfl; (· (intro w; go_simp; (try go_bits); with_reducible rfl)); (· (simp only [Act.put, Act.eval, List.setIfInBounds_toArray, List.set_cons_zero, List.set_cons_succ, Array.getD_eq_getD_getElem?, List.getElem?_toArray, List.getElem?_cons_zero, List.getElem?_cons_succ, Option.getD_some]; with_reducible rfl))) | (apply txt_read rfl rfl rfl; (· (go_simp; with_reducible rfl)); (· (simp only [Act.put, Act.eval, List.setIfInBounds_toArray, List.set_cons_zero, List.set_cons_succ, Array.getD_eq_getD_getElem?, List.getElem?_toArray, List.getElem?_cons_zero, List.getElem?_cons_succ, Option.getD_some]; with_reducible rfl))) | (apply txt_do rfl rfl rfl; (· (go_simp; with_reducible rfl)); (· (simp only [Act.put, Act.eval, List.setIfInBounds_toArray, List.set_cons_zero, List.set_cons_succ, Array.getD_eq_getD_getElem?, List.getElem?_toArray, List.getElem?_cons_zero, List.getElem?_cons_succ, Option.getD_some]; with_reducible rfl))) | (apply txt_value rfl rfl rfl; (· (go_simp; exact ⟨rfl, rfl⟩)); (· (simp only [Act.put, Act.eval, List.setIfInBounds_toArray, List.set_cons_zero, List.set_cons_succ, Array.getD_eq_getD_getElem?, List.getElem?_toArray, List.getElem?_cons_zero, List.getElem?_cons_succ, Option.getD_some]; with_reducible rfl))))
          (apply txt_quiet rfl rfl rfl; (· (go_simp; exact ⟨rfl, rfl⟩)); (· (exact (place_any hexes d _).mono fun e w h => by rw [show placeW hexes d = y from hy] at h; exact h)); (· (simp only [Act.put, Act.eval, List.setIfInBounds_toArray, List.set_cons_zero, List.set_cons_succ, Array.getD_eq_getD_getElem?, List.getElem?_toArray, List.getElem?_cons_zero, List.getElem?_cons_succ, Option.getD_some]; with_reducible rfl)))
          repeat (first | (apply txt_move rfl rfl; (· (simp only [Act.put, Act.eval, List.setIfInBounds_toArray, List.set_cons_zero, List.set_cons_succ, Array.getD_eq_getD_getElem?, List.getElem?_toArray, List.getElem?_cons_zero, List.getElem?_cons_succ, Option.getD_some]; with_reducible rfl))) | (apply txt_assign rfl rfl; (· (simp only [Act.put, Act.eval, List.setIfInBounds_toArray, List.set_cons_zero, List.set_cons_succ, Array.getD_eq_getD_getElem?, List.getElem?_toArray, List.getElem?_cons_zero, List.getElem?_cons_succ, Option.getD_some]; with_reducible rfl))) | (apply txt_skip rfl rfl; (· (simp only [Act.put, Act.eval, List.setIfInBounds_toArray, List.set_cons_zero, List.set_cons_succ, Array.getD_eq_getD_getElem?, List.getElem?_toArray, List.getElem?_cons_zero, List.getElem?_cons_succ, Option.getD_some]; with_reducible rfl))) | (apply txt_pure rfl rfl rfl; (· (intro w; go_simp; (try go_bits); with_reducible rfl)); (· (simp only [Act.put, Act.eval, List.setIfInBounds_toArray, List.set_cons_zero, List.set_cons_succ, Array.getD_eq_getD_getElem?, List.getElem?_toArray, List.getElem?_cons_zero, List.getElem?_cons_succ, Option.getD_some]; with_reducible rfl))) | (apply txt_read rfl rfl rfl; (· (go_simp; with_reducible rfl)); (· (simp only [Act.put, Act.eval, List.setIfInBounds_toArray, List.set_cons_zero, List.set_cons_succ, Array.getD_eq_getD_getElem?, List.getElem?_toArray, List.getElem?_cons_zero, List.getElem?_cons_succ, Option.getD_some]; with_reducible rfl))) | (apply txt_do rfl rfl rfl; (· (go_simp; with_reducible rfl)); (· (simp only [Act.put, Act.eval, List.setIfInBounds_toArray, List.set_cons_zero, List.set_cons_succ, Array.getD_eq_getD_getElem?, List.getElem?_toArray, List.getElem?_cons_zero, List.getElem?_cons_succ, Option.getD_some]; with_reducible rfl))) | (apply txt_value rfl rfl rfl; (· (go_simp; exact ⟨rfl, rfl⟩)); (· (simp only [Act.put, Act.eval, List.setIfInBounds_toArray, List.set_cons_zero, List.set_cons_succ, Array.getD_eq_getD_getElem?, List.getElem?_toArray, List.getElem?_cons_zero, List.getElem?_cons_succ, Option.getD_some]; with_reducible rfl))))
          with_reducible refine txt_nil ?_
          by_cases hneg : x < 0 ∨ y < 0
          · have hres : Hid (unhexW s = (⟨#[]⟩, 7)) := Lib.hid (by
              rw [hUW.out, hU.out]; unfold unhexL; rw [if_pos (by rw [hx, hy]; exact hneg)]; rfl)
            clear hx hy hz0 hz1' hrow
            by_cases hx0 : x < 0
            · clear hneg
              go_wp2
              go_ret2
              exact ⟨by rw [hres.out]; rfl, hb.drew⟩
            · have hy0 : y < 0 := by omega
              clear hneg
              go_wp2
              go_ret2
              exact ⟨by rw [hres.out]; rfl, hb.drew⟩
          · obtain ⟨a, rfl⟩ : ∃ a : Nat, x = a := ⟨x.toNat, by omega⟩
            obtain ⟨b, rfl⟩ : ∃ b : Nat, y = b := ⟨y.toNat, by omega⟩
            have ha : a < 16 := by omega
            have hb16 : b < 16 := by omega
            have hor : Go.bits .or .i64 ((a : Int) * 16) (b : Int) = ((16 * a + b : Nat) : Int) := orShl_fin ⟨a, ha⟩ ⟨b, hb16⟩
            obtain ⟨q, hq⟩ : ∃ q, UInt8.ofNat (16 * a + b) = q := ⟨_, rfl⟩
            have hqn : ((16 * a + b : Nat) : Int) = (q.toNat : Int) := by rw [← hq]; simp; omega
            rw [hqn] at hor
            have hql := UInt8.toNat_lt q
            have hwr : IntKind.u8.wrap (q.toNat : Int) = (q.toNat : Int) := by simp [IntKind.wrap, IntKind.bits, IntKind.signed]; omega
            have hU2 : Hid (unhexL L = (unhexL r).map ((M ++ [q]) ++ ·)) := Lib.hid (by
              rw [hU.out]; conv => lhs; unfold unhexL
              rw [if_neg (by rw [hx, hy]; exact hneg), hx, hy, Int.toNat_natCast, Int.toNat_natCast, hq]
              simp [Option.map_map, Function.comp_def])
            have hext : (mk (c :: d :: r)).extract 2 (mk (c :: d :: r)).size = mk r := by rw [mk_extract]; simp [mk_size]
            have hML2 : 2 * (M ++ [q]).length + r.length = L.length := by simp at hML ⊢; omega
            have hr3 : r.length % 2 = 0 := by simp at hr2; omega
            have hMs : M.length ≤ 140737488351232 := by omega
            have hbs := hb.size
            have hx0 : ¬ ((a : Int) < 0) := by omega
            have hy0 : ¬ ((b : Int) < 0) := by omega
            clear hneg hx hy hz0 hz1' hqn hq hU hML hr2
            go_wp2_with (at_builtin; go_loud (refine wpList_append_own _ rfl _ _ 31 rfl w.heap.size 5 i0 (.int .u8 0) 1 1 Try.underlying31 hi hz0' hz1 hz2 rfl (by decide) _ _ _ rfl ((hrow.drew).alloc _) ⟨wr.heap.size, 0, none⟩ 1 1 [.int .u8 (q.toNat : Int)] rfl rfl (cell_one_new _ _ _) (by simp [Value.oneCell']) (by unfold maxLen; omega) (by omega) (by simp; omega) ?_); intro v' w3 hown' hgrow _; have hb2 : Below w.heap.size w w3 := ((hb.drew).alloc hbs _).grown hgrow (by simp; omega) (fun k hk => (hrow.lt k hk).1); clear hgrow hrow)
            go_roundw
            case rel => exact ⟨r, M ++ [q], by first | rfl | rw [hext], hr3, hML2, hU2, by rw [List.length_append, cells_append]; exact hown', hb2⟩
            case measure => first | (simp [szOf, mk_size]; done) | (simp [szOf, mk_size]; omega)
end Go.Proofs.Ytndiagcpinmefaa.Dg
