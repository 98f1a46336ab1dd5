/- name.Of. -/
import Derived.Test.YtlikkpeaepankaaNmB
import Derived.Test.YtlikkpeaepankaaWWords
import Derived.Test.YtlikkpeaepankaaShelf
import Derived.Lib.SlBuf
namespace Go.Proofs.Ytlikkpeaepankaa.Nm
open Go.RowKit Go.Shelf Rt Go.Proofs.YtlikkpeaepankaaW.PrintWords
set_option linter.unusedSimpArgs false

def labOk (s : ByteArray) : Bool := decide (1 ≤ s.size) && decide (s.size ≤ 63)
def ofSize (l : List ByteArray) : Nat := l.foldl (fun n s => n + (1 + s.size)) 1
def ofBytes (l : List ByteArray) : List UInt8 := l.flatMap (fun s => UInt8.ofNat s.size :: s.data.toList)
/-- What Of hands back. -/
def ofW (l : List ByteArray) : ByteArray × Int :=
  if l.all labOk then if ofSize l ≤ 255 then (⟨(ofBytes l ++ [0]).toArray⟩, 0) else (⟨#[]⟩, 3) else (⟨#[]⟩, 2)

theorem ofSize_snoc (l : List ByteArray) (s : ByteArray) : ofSize (l ++ [s]) = ofSize l + (1 + s.size) := by simp [ofSize]
theorem ofBytes_snoc (l : List ByteArray) (s : ByteArray) : ofBytes (l ++ [s]) = ofBytes l ++ (UInt8.ofNat s.size :: s.data.toList) := by simp [ofBytes]
theorem ofSize_len (l : List ByteArray) : (ofBytes l).length + 1 = ofSize l := by
  have : ∀ (l : List ByteArray) (a : Nat), List.foldl (fun n s => n + (1 + ByteArray.size s)) a l = a + (ofBytes l).length := by
    intro l
    induction l with
    | nil => simp [ofBytes]
    | cons x l ih => intro a; rw [List.foldl_cons, ih]; simp [ofBytes]; omega
  unfold ofSize; rw [this]; omega
theorem ofSize_le (l : List ByteArray) (m : List ByteArray) : ofSize l ≤ ofSize (l ++ m) := by
  unfold ofSize
  rw [List.foldl_append]
  generalize List.foldl (fun n s => n + (1 + ByteArray.size s)) 1 l = a
  induction m generalizing a with
  | nil => simp
  | cons x m ih => rw [List.foldl_cons]; exact Nat.le_trans (Nat.le_add_right _ _) (ih _)

/-- A row of strings that is read, cell by cell. -/
def StrRow (w : World) (A : Option Addr) (l : List ByteArray) : Prop := ∀ k (h : k < l.length), ∃ ad, A = some ad ∧ w.cell? (ad.add k) = some (.string l[k])

set_option maxRecDepth 100000 in
set_option maxHeartbeats 2000000 in
theorem Of_any (A : Option Addr) (c : Nat) (l : List ByteArray) (w : World) (hr : StrRow w A l) (hn : l.length * 16 ≤ 140737488351232) :
    Calls Try.prog 15 #[.slice A l.length c] w fun e W' => e = .returned (.tuple #[.string (ofW l).1, .int .i64 (ofW l).2]) ∧ Below w.heap.size w W' := by
  go_enter Try.func15, Try.ntmps15
  go_wp2
  go_loop [6, 14] (fun _ v => ∃ k : Nat, k ≤ l.length ∧ v = .int .i64 k ∧ (l.take k).all labOk = true) (fun _ v => l.length - (intOf v).toNat)
  case atStart => exact ⟨0, Nat.zero_le _, rfl, by simp⟩
  case round =>
    obtain ⟨k, hk, rfl, hg⟩ := hrel
    by_cases hlt : k < l.length
    · obtain ⟨ad, rfl, hc⟩ := hr k hlt
      have hG := Lib.hid hg
      have hR := Lib.hid hr
      clear hg hr
      by_cases h1 : l[k].size < 1
      · have hC : ofW l = (⟨#[]⟩, 2) := by
          unfold ofW; rw [if_neg]
          intro ha
          have := List.all_eq_true.1 ha l[k] (List.getElem_mem hlt)
          simp [labOk] at this; omega
        have hCH := Lib.hid hC
        have h1' : (l[k].size : Int) < 1 := by omega
        clear hC h1
        go_wp2
        go_ret2
        exact ⟨by rw [hCH.out]; rfl, Below.refl _ _⟩
      · have h1' : ¬ (l[k].size : Int) < 1 := by omega
        by_cases h2 : 63 < l[k].size
        · have hC : ofW l = (⟨#[]⟩, 2) := by
            unfold ofW; rw [if_neg]
            intro ha
            have := List.all_eq_true.1 ha l[k] (List.getElem_mem hlt)
            simp [labOk] at this; omega
          have hCH := Lib.hid hC
          have h2' : (63 : Int) < (l[k].size : Int) := by omega
          clear hC h1 h2
          go_wp2
          go_ret2
          exact ⟨by rw [hCH.out]; rfl, Below.refl _ _⟩
        · have h2' : ¬ (63 : Int) < (l[k].size : Int) := by omega
          have hG2 : Hid ((l.take (k + 1)).all labOk = true) := Lib.hid (by
            rw [List.take_succ_eq_append_getElem hlt, List.all_append, hG.out]
            simp [labOk]; omega)
          clear hG
          go_wp2
          go_round
          case rel => exact ⟨k + 1, by omega, by go_num, hG2.out⟩
          case measure => simp [intOf]; omega
    · have hall : l.all labOk = true := by rw [List.take_of_length_le (by omega)] at hg; exact hg
      obtain rfl : k = l.length := by omega
      have hA := Lib.hid hall
      clear hg hall hlt
      go_wp2
      go_loop [4, 8, 29] (fun z _ v => ∃ k : Nat, k ≤ l.length ∧ v = .int .i64 k ∧ z = .int .i64 (ofSize (l.take k)) ∧ ofSize (l.take k) ≤ 255) (fun _ _ v => l.length - (intOf v).toNat)
      case atStart => exact ⟨0, Nat.zero_le _, rfl, rfl, by simp [ofSize]⟩
      case round =>
        obtain ⟨k, hk, rfl, rfl, hz⟩ := hrel
        by_cases hlt : k < l.length
        · obtain ⟨ad, rfl, hc⟩ := hr k hlt
          have hR := Lib.hid hr
          have hS : Hid (ofSize (l.take (k + 1)) = ofSize (l.take k) + (1 + l[k].size)) := Lib.hid (by rw [List.take_succ_eq_append_getElem hlt, ofSize_snoc])
          have hok : l[k].size ≤ 63 := by
            have := List.all_eq_true.1 hA.out l[k] (List.getElem_mem hlt)
            simp [labOk] at this; omega
          have hle : Hid (ofSize (l.take (k + 1)) ≤ ofSize l) := Lib.hid (by
            have := ofSize_le (l.take (k + 1)) (l.drop (k + 1))
            rwa [List.take_append_drop] at this)
          obtain ⟨z, hzz⟩ : ∃ z, ofSize (l.take k) = z := ⟨_, rfl⟩
          rw [hzz] at hz hS ⊢
          clear hr hzz
          by_cases hbig : 255 < z + (1 + l[k].size)
          · have hC : ofW l = (⟨#[]⟩, 3) := by
              have h1 := hS.out; have h2 := hle.out
              unfold ofW; rw [if_pos hA.out, if_neg (by omega)]
            have hCH := Lib.hid hC
            have hb' : (255 : Int) < (z : Int) + (1 + (l[k].size : Int)) := by omega
            clear hC hbig
            go_wp2
            go_ret2
            exact ⟨by rw [hCH.out]; rfl, Below.refl _ _⟩
          · have hb' : ¬ (255 : Int) < (z : Int) + (1 + (l[k].size : Int)) := by omega
            have hbb : z + (1 + l[k].size) ≤ 255 := by omega
            clear hbig
            go_wp2
            go_round
            case rel => exact ⟨k + 1, by omega, by go_num, by rw [hS.out]; go_num, by rw [hS.out]; exact hbb⟩
            case measure => simp [intOf]; omega
        · have hsz : ofSize l ≤ 255 := by rw [List.take_of_length_le (by omega)] at hz; exact hz
          obtain rfl : k = l.length := by omega
          have hC : ofW l = (⟨(ofBytes l ++ [0]).toArray⟩, 0) := by unfold ofW; rw [if_pos hA.out, if_pos hsz]
          have hCH := Lib.hid hC
          have hZ := Lib.hid hsz
          clear hC hz hsz hlt
          go_wp2
          have hl63 : Hid (∀ s ∈ l, s.size ≤ 63 ∧ 1 ≤ s.size) := Lib.hid (fun s hs => by
            have := List.all_eq_true.1 hA.out s hs
            simp [labOk] at this; omega)
          have hRow := Lib.hid (fun k h => hr k h : StrRow w A l)
          have hLs : Hid (∀ k, k ≤ l.length → (ofBytes (l.take k)).length + 1 ≤ 255) := Lib.hid (fun k _ => by
            have h1 := ofSize_le (l.take k) (l.drop k)
            rw [List.take_append_drop] at h1
            have h2 := ofSize_len (l.take k)
            have := hZ.out
            omega)
          clear hr
          go_wp2
          go_loopw [11, 43] (fun _ v wr => ∃ k : Nat, k ≤ l.length ∧ v = .int .i64 k ∧ Lib.IsBuilder 55 5 w.heap.size w.heap.size (Lib.byteCells (ofBytes (l.take k))) wr ∧ Below w.heap.size w wr) (fun _ v _ => l.length - (intOf v).toNat)
          case atStart => exact ⟨0, Nat.zero_le _, rfl, Lib.fresh_isBuilder 55 5 w, (Below.refl _ _).alloc (Nat.le_refl _) _⟩
          case round =>
            obtain ⟨k, hk, rfl, hB, hb⟩ := hrel
            by_cases hlt : k < l.length
            · obtain ⟨ad, rfl, hc⟩ := hRow.out k hlt
              have hcw : wr.cell? (ad.add k) = some (.string l[k]) := Lib.Below.cellOf hb hc (Nat.le_refl _)
              have h63 := hl63.out l[k] (List.getElem_mem hlt)
              have hT : Hid (ofBytes (l.take (k + 1)) = ofBytes (l.take k) ++ (UInt8.ofNat l[k].size :: l[k].data.toList)) := Lib.hid (by rw [List.take_succ_eq_append_getElem hlt, ofBytes_snoc])
              have hL0 := Lib.hid (hLs.out k hk)
              have hL1 : (ofBytes (l.take k)).length + 1 + l[k].size + 1 ≤ 255 := by
                have h1 := hLs.out (k + 1) (by omega)
                rw [hT.out] at h1
                have : l[k].data.toList.length = l[k].size := rfl
                simp only [List.length_append, List.length_cons, this] at h1; omega
              have hg : (IntKind.u8.wrap (l[k].size : Int)) = (l[k].size : Int) := by simp [IntKind.wrap, IntKind.bits, IntKind.signed]; omega
              clear hc
              obtain ⟨h63a, h63b⟩ := h63
              go_wp2_with (first
                | (go_at_call 42; (with_reducible refine (WriteByte_any w.heap.size w.heap.size _ _ _ hB (by rw [Lib.byteCells_length]; omega) hb.size).mono ?_); rintro e w1 ⟨rfl, hB1, hb1, -⟩; clear hB; replace hB1 : Lib.IsBuilder 55 5 w.heap.size w.heap.size _ w1 := Or.inr hB1)
                | (go_at_call 43; (with_reducible refine (WriteString_any w.heap.size w.heap.size _ _ _ hB1 (by rw [List.length_append, Lib.byteCells_length, List.length_singleton]; omega) (Nat.le_trans hb.size hb1.size)).mono ?_); rintro e w2 ⟨rfl, hB2, hb2, -⟩; clear hB1))
              go_roundw
              case rel => exact ⟨k + 1, by omega, by go_num, Or.inr (by rw [hT.out, Lib.byteCells_append]; have := hB2; rw [List.append_assoc] at this; simpa [Lib.byteCells, Lib.strCells, Nat.mod_eq_of_lt (show l[k].size < 256 by omega)] using this), (hb.trans hb1).trans hb2⟩
              case measure => simp [intOf]; omega
            · obtain rfl : k = l.length := by omega
              have hz := hZ.out
              have hln := ofSize_len l
              have htk : l.take l.length = l := List.take_of_length_le (Nat.le_refl _)
              rw [htk] at hB
              clear hlt hLs
              go_wp2_with (first
                | (go_at_call 42; (with_reducible refine (WriteByte_any w.heap.size w.heap.size _ _ _ hB (by rw [Lib.byteCells_length]; omega) hb.size).mono ?_); rintro e w1 ⟨rfl, hB1, hb1, -⟩; clear hB; replace hB1 : Lib.IsBuilder 55 5 w.heap.size w.heap.size (Lib.byteCells (ofBytes l ++ [0])) w1 := by { rw [show Lib.byteCells (ofBytes l ++ [0]) = Lib.byteCells (ofBytes l) ++ [.int .u8 0] from Lib.byteCells_append _ _]; exact Or.inr hB1 })
                | (go_at_call 44; (with_reducible refine (Try.Builder_String_any w.heap.size w.heap.size (ofBytes l ++ [0]) _ hB1 (Nat.le_trans hb.size hb1.size)).mono ?_); rintro e w2 ⟨rfl, hb2⟩; clear hB1))
              go_ret2
              exact ⟨by rw [hCH.out]; rfl, (hb.trans hb1).trans hb2⟩
end Go.Proofs.Ytlikkpeaepankaa.Nm
