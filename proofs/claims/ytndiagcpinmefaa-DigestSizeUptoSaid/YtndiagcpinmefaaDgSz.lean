/- guidepostlaw04.DigestSize. -/
import Derived.Test.YtndiagcpinmefaaPDigestBackx1
import Derived.Test.YtndiagcpinmefaaDgPd
import Derived.Test.YtndiagcpinmefaaDgBu
namespace Go.Proofs.Ytndiagcpinmefaa.Dg
open Go.RowKit Rt Go.Proofs.YtndiagcpinmefaaW.PrintWords
set_option linter.unusedSimpArgs false
set_option linter.unusedVariables false

/-- The bytes L lie in block g, which may be written. -/
def BR (w : World) (g cap : Nat) (L : List UInt8) : Prop :=
  g < w.heap.size ∧ L.length ≤ cap ∧ cap ≤ maxLen ∧
    (∀ j, j < L.length → w.cell? ⟨g, j, none⟩ = some (.int .u8 ((L.getD j 0).toNat : Int))) ∧ (∀ j, j < cap → (w.cell? ⟨g, j, none⟩).isSome = true ∧ w.frozen? ⟨g, j, none⟩ = false)
theorem BR.row {w : World} {base g cap : Nat} {L : List UInt8} (h : BR w g cap L) (hg : base ≤ g) : BRow w base (.slice (some ⟨g, 0, none⟩) L.length cap) L :=
  ⟨g, cap, rfl, hg, h.1, h.2.1, h.2.2.1, h.2.2.2.1, h.2.2.2.2⟩
theorem BR.below {w w' : World} {g cap : Nat} {L : List UInt8} (h : BR w g cap L) (hb : Below w.heap.size w w') : BR w' g cap L := by
  obtain ⟨hlt, h1, h2, h3, h4⟩ := h
  refine ⟨Nat.lt_of_lt_of_le hlt hb.size, h1, h2, fun j hj => ?_, fun j hj => ?_⟩
  · rw [hb.cell (p := ⟨g, j, none⟩) hlt]; exact h3 j hj
  · rw [hb.cell (p := ⟨g, j, none⟩) hlt, hb.frozen (p := ⟨g, j, none⟩) hlt]; exact h4 j hj
theorem BR.bytes (w : World) (s : ByteArray) (hm : s.size ≤ maxLen) : BR (Lib.bytesWorld w 5 s) w.heap.size (grownCap w s.size 0 5) s.data.toList := by
  obtain ⟨g, cap, hv, _, h0, h1, h2, h3, h4⟩ := bytes_row w s hm
  injection hv with e1 e2 e3
  injection e1 with e1
  injection e1 with e1
  subst e1; subst e3
  exact ⟨h0, h1, h2, h3, h4⟩
theorem BR.set {w : World} {g cap : Nat} {L : List UInt8} (h : BR w g cap L) (i : Nat) (hi : i < L.length) (x : UInt8) : BR (w.setCells g i [.int .u8 (x.toNat : Int)]) g cap (L.set i x) := by
  obtain ⟨hlt, h1, h2, h3, h4⟩ := h
  refine ⟨by rw [setCells_size]; exact hlt, by simpa using h1, h2, fun j hj => ?_, fun j hj => ⟨?_, by rw [World.frozen?_setCells]; exact (h4 j hj).2⟩⟩
  · rw [List.length_set] at hj
    by_cases hji : j = i
    · subst hji
      have := World.cell?_setCells_in g [.int .u8 (x.toNat : Int)] j w (fun q hq => by simp at hq; subst hq; exact (h4 _ (by omega)).1) 0 (by simp)
      rw [Nat.add_zero] at this
      rw [this]
      simp [List.getD_eq_getElem?_getD, hj]
    · rw [World.cell?_setCells_out g _ i w ⟨g, j, none⟩ (fun _ _ => by simp; show j < i ∨ _; omega), h3 j hj]
      simp [List.getD_eq_getElem?_getD, List.getElem?_set, Ne.symm hji]
  · by_cases hji : j = i
    · subst hji
      have := World.cell?_setCells_in g [.int .u8 (x.toNat : Int)] j w (fun q hq => by simp at hq; subst hq; exact (h4 _ (by omega)).1) 0 (by simp)
      rw [Nat.add_zero] at this
      rw [this]; rfl
    · rw [World.cell?_setCells_out g _ i w ⟨g, j, none⟩ (fun _ _ => by simp; show j < i ∨ _; omega)]
      exact (h4 j hj).1
theorem BR.other {w : World} {g cap : Nat} {L : List UInt8} (h : BR w g cap L) (g2 : Nat) (hne : g ≠ g2) (i : Nat) (vs : List Value) : BR (w.setCells g2 i vs) g cap L := by
  obtain ⟨hlt, h1, h2, h3, h4⟩ := h
  refine ⟨by rw [setCells_size]; exact hlt, h1, h2, fun j hj => ?_, fun j hj => ⟨?_, by rw [World.frozen?_setCells]; exact (h4 j hj).2⟩⟩
  · rw [World.cell?_setCells_out g2 _ i w ⟨g, j, none⟩ (fun e _ => absurd e hne)]; exact h3 j hj
  · rw [World.cell?_setCells_out g2 _ i w ⟨g, j, none⟩ (fun e _ => absurd e hne)]; exact (h4 j hj).1
theorem BR.put {w : World} {g cap : Nat} {L : List UInt8} (h : BR w g cap L) (i : Nat) (hi : i < L.length) (x : UInt8) (n : Int) (hn : n = (x.toNat : Int)) : BR (w.setCell ⟨g, i, none⟩ (.int .u8 n)) g cap (L.set i x) := by
  subst hn; exact h.set i hi x
theorem BR.far {w : World} {g cap : Nat} {L : List UInt8} (h : BR w g cap L) (g2 : Nat) (hne : g ≠ g2) (i : Nat) (v : Value) : BR (w.setCell ⟨g2, i, none⟩ v) g cap L := h.other g2 hne i [v]
theorem below_put {B b : Nat} {w0 w : World} (h : Below B w0 w) (hb : B ≤ b) (v : Value) (o : Nat) : Below B w0 (w.setCell ⟨b, o, none⟩ v) := below_setCells h hb [v] o
/-- A letter made great. -/
def up (c : UInt8) : UInt8 := if 97 ≤ c.toNat then UInt8.ofNat (c.toNat - 32) else c
/-- The first letters made great. -/
def upTo (L : List UInt8) (i : Nat) : List UInt8 := (L.take i).map up ++ L.drop i
theorem upTo_length (L : List UInt8) (i : Nat) : (upTo L i).length = L.length := by simp [upTo]; omega
theorem upTo_succ (L : List UInt8) (i : Nat) (h : i < L.length) : upTo L (i + 1) = (upTo L i).set i (up L[i]) := by
  unfold upTo
  have hl : ((L.take i).map up).length = i := by simp; omega
  rw [List.set_append_right _ _ (by omega), hl, Nat.sub_self, List.drop_eq_getElem_cons h, List.set_cons_zero, List.take_succ_eq_append_getElem h, List.map_append, List.append_assoc]
  rfl
theorem upTo_get (L : List UInt8) (i : Nat) (h : i < L.length) : (upTo L i).getD i 0 = L[i] := by
  unfold upTo
  have hl : ((L.take i).map up).length = i := by simp; omega
  rw [List.getD_eq_getElem?_getD, List.getElem?_append_right (by omega), hl, Nat.sub_self, List.drop_eq_getElem_cons h]; rfl
theorem upTo_keep (L : List UInt8) (i : Nat) (h : i < L.length) (hu : up L[i] = L[i]) : upTo L (i + 1) = upTo L i := by
  rw [upTo_succ L i h, hu]
  apply List.ext_getElem
  · simp
  · intro j h1 h2
    rw [List.getElem_set]
    split
    · rename_i e; subst e
      have := upTo_get L i h
      rw [List.getD_eq_getElem?_getD, List.getElem?_eq_getElem h2] at this
      exact this.symm
    · rfl
theorem upTo_all (L : List UInt8) : upTo L L.length = L.map up := by simp [upTo]

theorem hexV_up_fin : ∀ k : Fin 16, hexV (up (hexD k.val)) = (k.val : Int) := by decide +kernel
theorem fiveV_up_fin : ∀ k : Fin 32, fiveV (up (hexD k.val)) = (k.val : Int) := by decide +kernel
theorem hexUp (L : List UInt8) : unhexL ((hexL L).map up) = some L := by
  induction L with
  | nil => rfl
  | cons c L ih =>
    have hc := c.toNat_lt
    show unhexL (up (hexD (c.toNat / 16)) :: up (hexD (c.toNat % 16)) :: (hexL L).map up) = _
    have e1 : hexV (up (hexD (c.toNat / 16))) = ((c.toNat / 16 : Nat) : Int) := hexV_up_fin ⟨c.toNat / 16, by omega⟩
    have e2 : hexV (up (hexD (c.toNat % 16))) = ((c.toNat % 16 : Nat) : Int) := hexV_up_fin ⟨c.toNat % 16, by omega⟩
    rw [unhexL_cons, e1, e2, if_neg (by omega), ih, Int.toNat_natCast, Int.toNat_natCast, show 16 * (c.toNat / 16) + c.toNat % 16 = c.toNat by omega]
    simp
theorem unhexW_up (L : List UInt8) : unhexW (mk ((hexL L).map up)) = (mk L, 0) := by
  unfold unhexW
  rw [mk_data, hexUp]
theorem bitsV_up : ∀ ks : List Nat, (∀ x ∈ ks, x < 32) → bitsV ((ks.map hexD).map up) = bits5 ks := by
  intro ks
  induction ks with
  | nil => intro _; rfl
  | cons k ks ih =>
    intro h
    have hk := h k List.mem_cons_self
    have e : five (up (hexD k)) = k := by unfold five; rw [fiveV_up_fin ⟨k, hk⟩]; simp
    have := ih (fun x hx => h x (List.mem_cons_of_mem _ hx))
    show Dg.bits 5 (five (up (hexD k))) ++ bitsV ((ks.map hexD).map up) = Dg.bits 5 k ++ bits5 ks
    rw [e, this]
theorem fiveUp (L : List UInt8) : ∃ h v, fiveL 0 0 [] ((fiveOut 0 0 L).map up) = some (h, v, L) ∧ h < 5 ∧ v % 2 ^ h = 0 := by
  rw [fiveOut_enc L 0 0 (2 * L.length + 1) (by omega) (by omega), bits_zero, List.nil_append]
  obtain ⟨ks, p, e1, e2, e3, e4⟩ := enc5_bits (2 * L.length + 1) (bits8 L) (by rw [bits8_length]; omega)
  rw [e1]
  obtain ⟨h, v, M, f1, f2, f3⟩ := fiveL_gen ((ks.map hexD).map up) 0 0 [] (by omega) (fun c hc => by
    obtain ⟨d, hd, rfl⟩ := List.mem_map.1 hc
    obtain ⟨k, hk, rfl⟩ := List.mem_map.1 hd
    rw [fiveV_up_fin ⟨k, e2 k hk⟩]; simp)
  rw [f1]
  rw [bitsV_up ks e2, e4, bits_zero] at f3
  have f3' : bits8 M ++ Dg.bits h v = bits8 L ++ List.replicate p false := f3
  have hl := congrArg List.length f3'
  rw [List.length_append, List.length_append, bits8_length, bits8_length, bits_length, List.length_replicate] at hl
  have hM : M.length = L.length := by omega
  obtain ⟨g1, g2⟩ := List.append_inj f3' (by rw [bits8_length, bits8_length, hM])
  refine ⟨h, v, by rw [bits8_inj M L g1], by omega, ?_⟩
  have := valB_bits h v
  rw [← this, g2]
  exact valB_zeros p
theorem unfiveW_up (s : ByteArray) : unfiveW (mk ((fiveW s).data.toList.map up)) = (s, 0) := by
  unfold unfiveW fiveW
  obtain ⟨h, v, e, h1, h2⟩ := fiveUp s.data.toList
  rw [mk_data, mk_data, e]
  show (if 5 ≤ h ∨ v % 2 ^ h ≠ 0 then _ else _) = _
  rw [if_neg (by omega), mk_toList]
theorem sum1_size (L : List UInt8) : (mk (sum1L L)).size = 20 := by rw [mk_size]; unfold sum1L; rw [tellL_length]; rfl
theorem sum2_size (L : List UInt8) : (mk (sum2L L)).size = 32 := by rw [mk_size]; unfold sum2L; rw [tellL_length]; rfl

set_option maxRecDepth 100000 in
set_option maxHeartbeats 4000000 in
theorem DigestSize_any (s : ByteArray) (hs : s.size ≤ 1048576) (w : World) :
    Calls Try.prog 7 #[.string s] w fun e W' => e = .returned (.bool true) ∧ Below w.heap.size w W' := by
  have hU1 : unhexW (mk ((hexL s.data.toList).map up)) = (s, 0) := by rw [unhexW_up, mk_toList]
  have hU2 := unfiveW_up s
  have hex := PDigestBack.guidepostlaw04_examples.calls true
  go_enter Try.func7, Try.ntmps7
  go_wp2_with fail
  refine (hex w (by decide +kernel)).mono ?_
  rintro e w1 ⟨rfl, hb1⟩
  have hs1 := hb1.size
  go_wp2_with fail
  refine (Hex_any s (by omega) w1).mono ?_
  rintro e w2 ⟨rfl, hb2⟩
  have hs2 := hb2.size
  go_wp2_with fail
  rw [Lib.run_convert_string_bytes _ 9 31 5 _ Try.underlying9 Try.underlying31 Try.underlying5]
  simp only [Result.andThen]
  rw [Oper.upon_value]
  obtain ⟨H, hH⟩ : ∃ H, hexL s.data.toList = H := ⟨_, rfl⟩
  have hHl : H.length = 2 * s.size := by rw [← hH, hexL_length, Array.length_toList]; rfl
  have hHb : H.length ≤ 4194304 := by omega
  clear hHl
  rw [hH] at hU1 ⊢
  have hr1 := BR.bytes w2 (mk H) (by rw [mk_size]; unfold maxLen; omega)
  have hbA := bytesWorld_below w2 5 (mk H)
  rw [mk_data] at hr1
  obtain ⟨c1, hc1⟩ : ∃ c, grownCap w2 (mk H).size 0 5 = c := ⟨_, rfl⟩
  rw [hc1] at hr1 ⊢
  obtain ⟨W1, hW1⟩ : ∃ W, Lib.bytesWorld w2 5 (mk H) = W := ⟨_, rfl⟩
  rw [hW1] at hr1 hbA ⊢
  obtain ⟨g1, hg1⟩ : ∃ g, w2.heap.size = g := ⟨_, rfl⟩
  rw [mk_size]
  rw [hg1] at hr1 ⊢
  have hbW : Below w.heap.size w W1 := hb1.trans ((hb2.mono hs1).trans (hbA.mono (by omega)))
  have hg1w : w.heap.size ≤ g1 := by omega
  have hg1W := hr1.1
  clear hW1 hc1 hbA hb1 hb2 hs1 hs2 hg1
  go_wp2_with fail
  refine (Base32_any s (by omega) W1).mono ?_
  rintro e w3 ⟨rfl, hb3⟩
  have hs3 := hb3.size
  have hr1 := hr1.below hb3
  have hbW := hbW.trans (hb3.mono hbW.size)
  go_wp2_with fail
  rw [Lib.run_convert_string_bytes _ 9 31 5 _ Try.underlying9 Try.underlying31 Try.underlying5]
  simp only [Result.andThen]
  rw [Oper.upon_value]
  have hFs := fiveW_size s
  obtain ⟨F, hF⟩ : ∃ F, fiveW s = mk F := ⟨(fiveW s).data.toList, (mk_toList _).symm⟩
  rw [hF] at hFs hU2 ⊢
  rw [mk_data] at hU2
  have hU1H := Lib.hid hU1
  have hU2H := Lib.hid hU2
  clear hU1 hU2
  rw [mk_size] at hFs
  have hFb : F.length ≤ 4194304 := by omega
  clear hFs
  have hr2 := BR.bytes w3 (mk F) (by rw [mk_size]; unfold maxLen; omega)
  have hbA := bytesWorld_below w3 5 (mk F)
  rw [mk_data] at hr2
  obtain ⟨c2, hc2⟩ : ∃ c, grownCap w3 (mk F).size 0 5 = c := ⟨_, rfl⟩
  rw [hc2] at hr2 ⊢
  obtain ⟨W2, hW2⟩ : ∃ W, Lib.bytesWorld w3 5 (mk F) = W := ⟨_, rfl⟩
  rw [hW2] at hr2 hbA ⊢
  obtain ⟨g2, hg2⟩ : ∃ g, w3.heap.size = g := ⟨_, rfl⟩
  have hr1 := hr1.below hbA
  have hbW := hbW.trans (hbA.mono hbW.size)
  have hg12 : g1 < g2 := by omega
  rw [mk_size]
  rw [hg2] at hr2 ⊢
  clear hW2 hc2 hbA hb3 hs3 hg2 hF hH
  have hr1 : BR W2 g1 c1 (upTo H 0) := by simpa [upTo] using hr1
  have hLH := upTo_length H
  have hLF := upTo_length F
  go_wp2_with fail
  go_loopw [6] (fun i wr => ∃ k : Nat, i = .int .i64 k ∧ k ≤ H.length ∧ BR wr g1 c1 (upTo H k) ∧ BR wr g2 c2 F ∧ Below w.heap.size w wr) (fun i _ => H.length - (intOf i).toNat)
  case atStart => exact ⟨0, rfl, Nat.zero_le _, hr1, hr2, hbW⟩
  case round =>
    clear hr1 hr2 hbW
    obtain ⟨k, rfl, hk, hr1, hr2, hb⟩ := hrel
    by_cases hlt : k < H.length
    · have hlt' : (k : Int) < H.length := by omega
      have hcell := hr1.2.2.2.1 k (by rw [hLH]; exact hlt)
      rw [upTo_get H k hlt] at hcell
      have hthere := hr1.2.2.2.2 k (by have := hr1.2.1; rw [hLH] at this; omega)
      obtain ⟨c, hc⟩ : ∃ c, H[k] = c := ⟨_, rfl⟩
      rw [hc] at hcell
      have hfr := hthere.2
      by_cases h97 : 97 ≤ c.toNat
      · have h97' : (97 : Int) ≤ (c.toNat : Int) := by omega
        go_wp2
        refine ⟨⟨k + 1, by go_num, by omega, ?_, hr2.far g1 (by omega) k _, below_put hb hg1w _ k⟩, by simp [intOf]; omega⟩
        rw [upTo_succ H k hlt, hc]
        refine hr1.put k (by rw [hLH]; exact hlt) (up c) _ ?_
        unfold up; rw [if_pos h97]; simp; have := UInt8.toNat_lt c; omega
      · have h97' : ¬ (97 : Int) ≤ (c.toNat : Int) := by omega
        go_wp2
        refine ⟨⟨k + 1, by go_num, by omega, ?_, hr2, hb⟩, by simp [intOf]; omega⟩
        rw [upTo_keep H k hlt (by rw [hc]; unfold up; rw [if_neg h97])]
        exact hr1
    · obtain rfl : k = H.length := by omega
      rw [upTo_all] at hr1
      have hr2 : BR wr g2 c2 (upTo F 0) := by simpa [upTo] using hr2
      have hlt' : ¬ (H.length : Int) < H.length := by omega
      go_wp2_with fail
      go_loopw [7] (fun i wr => ∃ k : Nat, i = .int .i64 k ∧ k ≤ F.length ∧ BR wr g1 c1 (H.map up) ∧ BR wr g2 c2 (upTo F k) ∧ Below w.heap.size w wr) (fun i _ => F.length - (intOf i).toNat)
      case atStart => exact ⟨0, rfl, Nat.zero_le _, hr1, hr2, hb⟩
      case round =>
        clear hr1 hr2 hb
        obtain ⟨k, rfl, hk, hr1, hr2, hb⟩ := hrel
        by_cases hlt : k < F.length
        · have hlt' : (k : Int) < F.length := by omega
          have hcell := hr2.2.2.2.1 k (by rw [hLF]; exact hlt)
          rw [upTo_get F k hlt] at hcell
          have hthere := hr2.2.2.2.2 k (by have := hr2.2.1; rw [hLF] at this; omega)
          obtain ⟨c, hc⟩ : ∃ c, F[k] = c := ⟨_, rfl⟩
          rw [hc] at hcell
          have hfr := hthere.2
          by_cases h97 : 97 ≤ c.toNat
          · have h97' : (97 : Int) ≤ (c.toNat : Int) := by omega
            go_wp2
            refine ⟨⟨k + 1, by go_num, by omega, hr1.far g2 (by omega) k _, ?_, below_put hb (by omega) _ k⟩, by simp [intOf]; omega⟩
            rw [upTo_succ F k hlt, hc]
            refine hr2.put k (by rw [hLF]; exact hlt) (up c) _ ?_
            unfold up; rw [if_pos h97]; simp; have := UInt8.toNat_lt c; omega
          · have h97' : ¬ (97 : Int) ≤ (c.toNat : Int) := by omega
            go_wp2
            refine ⟨⟨k + 1, by go_num, by omega, hr1, ?_, hb⟩, by simp [intOf]; omega⟩
            rw [upTo_keep F k hlt (by rw [hc]; unfold up; rw [if_neg h97])]
            exact hr2
        · obtain rfl : k = F.length := by omega
          rw [upTo_all] at hr2
          have hlt' : ¬ (F.length : Int) < F.length := by omega
          have hv1 := (hr1.row hg1w).conv Try.underlying31 Try.underlying5 Try.underlying9
          rw [List.length_map] at hv1
          go_wp2_with fail
          refine (Unhex_any _ (by rw [mk_size, List.length_map]; omega) wr).mono ?_
          rintro e w4 ⟨rfl, hb4⟩
          rw [hU1H.out]
          have hr2 := hr2.below hb4
          have hb := hb.trans (hb4.mono hb.size)
          have hv2 := (hr2.row (show w.heap.size ≤ g2 by omega)).conv Try.underlying31 Try.underlying5 Try.underlying9
          rw [List.length_map] at hv2
          clear hv1 hb4 hr1
          go_wp2_with fail
          refine (Unbase32_any _ (by rw [mk_size, List.length_map]; omega) w4).mono ?_
          rintro e w5 ⟨rfl, hb5⟩
          rw [hU2H.out]
          have hb := hb.trans (hb5.mono hb.size)
          have hs5 := hb.size
          clear hv2 hb5 hr2
          have hsl : s.data.toList.length = s.size := by rw [Array.length_toList]; rfl
          have k1 := Sum1_any s.data.toList (by omega) w5
          rw [mk_toList] at k1
          go_wp2_with fail
          refine k1.mono ?_
          rintro e w6 ⟨rfl, hb6⟩
          have hz := sum1_size s.data.toList
          obtain ⟨A, hA⟩ : ∃ A, mk (sum1L s.data.toList) = A := ⟨_, rfl⟩
          rw [hA] at hz ⊢
          have hb := hb.trans (hb6.mono hb.size)
          have k2 := Sum256_any s.data.toList (by omega) w6
          rw [mk_toList] at k2
          clear hA hb6 k1 hsl
          go_wp2_with fail
          refine k2.mono ?_
          rintro e w7 ⟨rfl, hb7⟩
          have hz2 := sum2_size s.data.toList
          obtain ⟨B, hB⟩ : ∃ B, mk (sum2L s.data.toList) = B := ⟨_, rfl⟩
          rw [hB] at hz2 ⊢
          have hb := hb.trans (hb7.mono hb.size)
          clear hB hb7 k2
          go_wp2
          go_ret
          exact ⟨rfl, hb⟩
end Go.Proofs.Ytndiagcpinmefaa.Dg
