/- name.Text. -/
import Derived.Test.YtlikkpeaepankaaNmC
import Derived.Shelf.Strings.BuilderK
import Derived.Test.YtlikkpeaepankaaNmO
import Derived.Test.YtlikkpeaepankaaNmE
namespace Go.Proofs.Ytlikkpeaepankaa.Nm
open Go.RowKit Rt Go.Proofs.YtlikkpeaepankaaW.PrintWords
set_option linter.unusedSimpArgs false
attribute [local go_sem] Oper.semAt_some

def textB (c : UInt8) : List UInt8 :=
  if c.toNat = 46 ∨ c.toNat = 92 then [92, c] else if c.toNat < 33 ∨ 126 < c.toNat then [92, UInt8.ofNat (48 + c.toNat / 100), UInt8.ofNat (48 + c.toNat / 10 % 10), UInt8.ofNat (48 + c.toNat % 10)] else [c]
def textBs (l : List UInt8) : List UInt8 := l.flatMap textB
def textL (s : ByteArray) : List UInt8 := textBs s.data.toList ++ [46]
def textAll (ls : List (Nat × ByteArray)) : List UInt8 := ls.flatMap (fun x => textL x.2)
/-- What Text hands back. -/
def textW (s : ByteArray) : ByteArray × Int :=
  if rightB s then if s.toList = [0] then (⟨#[46]⟩, 0) else (⟨(textAll (labs s 0)).toArray⟩, 0) else (⟨#[]⟩, 2)

theorem textB_len (c : UInt8) : (textB c).length ≤ 4 := by unfold textB; split <;> (try split) <;> simp
theorem textBs_len (l : List UInt8) : (textBs l).length ≤ 4 * l.length := by
  induction l with
  | nil => simp [textBs]
  | cons c l ih => have := textB_len c; simp only [textBs, List.flatMap_cons, List.length_append, List.length_cons] at *; omega
theorem textBs_snoc (l : List UInt8) (c : UInt8) : textBs (l ++ [c]) = textBs l ++ textB c := by simp [textBs]
theorem textAll_snoc (ls : List (Nat × ByteArray)) (x : Nat × ByteArray) : textAll (ls ++ [x]) = textAll ls ++ (textBs x.2.data.toList ++ [46]) := by simp [textAll, textL]

theorem isBuilder_kept {B b : Nat} {bs : List Value} {A W' : World} {row : Option Nat} (h : Lib.IsBuilder 55 5 B b bs A) (hg : A.grownBy W' row) (hr : ∀ r, row = some r → ∃ o : Obj, A.heap[r]? = some o ∧ o.isCells = false) : Lib.IsBuilder 55 5 B b bs W' := by
  have keep : ∀ k c t fz, A.heap[k]? = some (Obj.cells c t fz) → W'.heap[k]? = some (Obj.cells c t fz) := fun k c t fz hk =>
    (hg.block k (Array.getElem?_eq_some_iff.1 hk).1 (fun e => by obtain ⟨o, ho, hc⟩ := hr k (by first | exact e | exact e.symm); rw [hk] at ho; cases ho; cases hc)).trans hk
  rcases h with ⟨hB, v, hb, hown, hne⟩ | ⟨hB, v, hb, hown, hne⟩
  · refine Or.inl ⟨hB, v, keep _ _ _ _ hb, ⟨hown.1, ?_⟩, hne⟩
    rcases hown.2 with h | ⟨g, cap, cur, h1, h2, h3, h4⟩
    · exact .inl h
    · exact .inr ⟨g, cap, cur, h1, h2, keep _ _ _ _ h3, h4⟩
  · refine Or.inr ⟨hB, v, keep _ _ _ _ hb, ⟨hown.1, ?_⟩, hne⟩
    rcases hown.2 with h | ⟨g, cap, cur, h1, h2, h3, h4⟩
    · exact .inl h
    · exact .inr ⟨g, cap, cur, h1, h2, keep _ _ _ _ h3, h4⟩

theorem isBuilder_cells {B b : Nat} {bs : List Value} {A : World} (h : Lib.IsBuilder 55 5 B b bs A) : ∃ cs, A.heap[b]? = some (Obj.cells cs 55 (0, 0)) := by
  rcases h with ⟨_, v, hb, _⟩ | ⟨_, v, hb, _⟩ <;> exact ⟨_, hb⟩

theorem String_any (B b : Nat) (l : List UInt8) (w : World) (h : Lib.IsBuilder 55 5 B b (Lib.byteCells l) w) (hBw : B ≤ w.heap.size) :
    Calls Try.prog 44 #[.pointer (some ⟨b, 0, none⟩)] w fun e w' => e = .returned (.string ⟨l.toArray⟩) ∧ Below B w w' ∧ Lib.OthersKept 5 (some b) w w' := by
  have h1 : Calls Try.prog 44 #[.pointer (some ⟨b, 0, none⟩)] w fun e w' => e = .returned (.string ⟨l.toArray⟩) ∧ (Lib.IsBuilderF 55 5 B b (Lib.byteCells l) w' ∧ Below B w w' ∧ Lib.OthersKept 5 (some b) w w') :=
    Any.Builder_String_any_k Try.lays169 Try.Builder_Extra_169 B b l w (Lib.IsBuilderF.of h) hBw
  exact h1.mono fun e w' h => ⟨h.1, h.2.2.1, h.2.2.2⟩

/-- How the world stands in a round of Text. -/
structure St (w0 : World) (s : ByteArray) (g : Nat) (rc : Array Value) (fz : Nat × Nat) (L : List UInt8) (W wr : World) : Prop where
  bld : Lib.IsBuilder 55 5 w0.heap.size w0.heap.size (Lib.byteCells L) wr
  row : wr.heap[g]? = some (Obj.cells rc 5 fz)
  box : Boxed wr (w0.heap.size + 1) 9 (.string s)
  oth : KeepsOthers W wr
  bel : Below w0.heap.size w0 wr

theorem St.step {w0 W wr w' : World} {s : ByteArray} {g : Nat} {rc : Array Value} {fz : Nat × Nat} {L L' : List UInt8} (h : St w0 s g rc fz L W wr) (hfz : fz ≠ (0, 0))
    (h1 : Lib.BuilderAt 55 5 w0.heap.size w0.heap.size (.pointer (some ⟨w0.heap.size, 0, none⟩)) (Lib.byteCells L') w') (h2 : Below w0.heap.size wr w') (h3 : Lib.OthersKept 5 (some w0.heap.size) wr w') (h4 : FrozenKept wr w') : St w0 s g rc fz L' W w' where
  bld := Or.inr h1
  row := h4 g rc 5 fz hfz h.row
  box := h3 _ _ h.box (by simp) (by intro c fz h; cases h)
  oth := h.oth.trans ⟨h2.size, fun r o hr ho => h3 r o hr (fun e => by obtain ⟨cs, hcs⟩ := isBuilder_cells h.bld; cases e; rw [hr] at hcs; cases hcs; cases ho) (by intro c fz e; rw [e] at ho; cases ho)⟩
  bel := h.bel.trans h2

theorem St.alloc {w0 W wr : World} {s : ByteArray} {g : Nat} {rc : Array Value} {fz : Nat × Nat} {L : List UInt8} (h : St w0 s g rc fz L W wr) (o : Obj) : St w0 s g rc fz L W (wr.alloc o) where
  bld := isBuilder_kept h.bld (row := none) ⟨rfl, rfl, rfl, by simp, fun k hk _ => Below.heap_alloc wr o k hk⟩ (by simp)
  row := (Below.heap_alloc wr o g (Array.getElem?_eq_some_iff.1 h.row).1).trans h.row
  box := Boxed.alloc h.box o
  oth := h.oth.trans (KeepsOthers.alloc wr o)
  bel := h.bel.alloc h.bel.size o

theorem St.byte {w0 W wr : World} {s : ByteArray} {g : Nat} {rc : Array Value} {fz : Nat × Nat} {L : List UInt8} (h : St w0 s g rc fz L W wr) (hfz : fz ≠ (0, 0)) (c : UInt8) (ci : Int) (hci : ci = (c.toNat : Int)) (hl : L.length ≤ 2000000) :
    Calls Try.prog 42 #[.pointer (some ⟨w0.heap.size, 0, none⟩), .int .u8 ci] wr fun e w' => e = .returned .nilIface ∧ St w0 s g rc fz (L ++ [c]) W w' := by
  subst hci
  exact (WriteByte_any w0.heap.size w0.heap.size _ (c.toNat : Int) wr h.bld (by rw [Lib.byteCells_length]; omega) h.bel.size).mono fun e w' ⟨h1, h2, h3, h4, h5⟩ =>
    ⟨h1, h.step hfz (by rw [Lib.byteCells_append]; exact h2) h3 h4 h5⟩

theorem St.four {w0 W wr : World} {s : ByteArray} {g : Nat} {rc : Array Value} {fz : Nat × Nat} {L : List UInt8} (h : St w0 s g rc fz L W wr) (hfz : fz ≠ (0, 0)) (a b c d : UInt8) (vs : Array Value) (hvs : vs = #[.int .u8 (a.toNat : Int), .int .u8 (b.toNat : Int), .int .u8 (c.toNat : Int), .int .u8 (d.toNat : Int)]) (hl : L.length ≤ 2000000) :
    Calls Try.prog 54 #[.pointer (some ⟨w0.heap.size, 0, none⟩), .slice (some ⟨wr.heap.size, 0, none⟩) 4 4] (wr.alloc (.cells vs 5)) fun e w' => e = .returned (.tuple #[.int .i64 4, .nilIface]) ∧ St w0 s g rc fz (L ++ [a, b, c, d]) W w' := by
  subst hvs
  have hA := h.alloc (.cells #[.int .u8 (a.toNat : Int), .int .u8 (b.toNat : Int), .int .u8 (c.toNat : Int), .int .u8 (d.toNat : Int)] 5)
  have hn := World.alloc_heap_new wr (.cells #[.int .u8 (a.toNat : Int), .int .u8 (b.toNat : Int), .int .u8 (c.toNat : Int), .int .u8 (d.toNat : Int)] 5)
  obtain ⟨cs, hcs⟩ := isBuilder_cells h.bld
  refine (Write_any w0.heap.size w0.heap.size _ wr.heap.size 4 4 [.int .u8 (a.toNat : Int), .int .u8 (b.toNat : Int), .int .u8 (c.toNat : Int), .int .u8 (d.toNat : Int)] _ hA.bld rfl (by rw [Lib.byteCells_length]; omega) hA.bel.size (fun _ _ => trivial)
    (fun j u hj => by
      simp only [World.cell?, hn]
      match j, hj with
      | 0, hj => simpa using hj
      | 1, hj => simpa using hj
      | 2, hj => simpa using hj
      | 3, hj => simpa using hj)
    (fun u hu => by simp at hu; rcases hu with rfl | rfl | rfl | rfl <;> rfl) (by have := (Array.getElem?_eq_some_iff.1 hcs).1; omega)).mono fun e w' ⟨h1, h2, h3, h4, h5⟩ =>
    ⟨h1, hA.step hfz (by rw [Lib.byteCells_append]; exact h2) h3 h4 h5⟩

set_option maxRecDepth 100000 in
set_option maxHeartbeats 4000000 in
theorem Text_loop (s : ByteArray) (hs : s.size ≤ 140737488351232) (w : World) (hR : rightB s = true) (hZ : s.toList ≠ [0]) :
    Calls Try.prog 40 #[.string s] w fun e W' => e = .returned (.tuple #[.string ⟨(textAll (labs s 0)).toArray⟩, .int .i64 0]) ∧ Below w.heap.size w W' := by
  have hsz : s.size ≤ 255 := by unfold rightB at hR; simp at hR; omega
  have hz' : (s.toList == [0]) = false := by simpa using hZ
  refine (callsIn_wide (n := 100)).1 (callsIn_of_wp_marks Try.func40 rfl trivial (wpIn_wide.2 ?_) rfl)
  simp only [Try.ntmps40, List.size_toArray, List.length_cons, List.length_nil, Nat.reduceAdd, Nat.reduceSub, Array.replicate_succ, Array.replicate_zero, List.push_toArray, List.append_toArray, List.nil_append, List.cons_append]
  go_wp2_with (first | (go_at_call 19; refine (Right_any s hs _).mono ?_; rintro e w0 ⟨rfl, hb0⟩; rw [hR]) | (go_at_call 45; refine (labels_any s _).mono ?_; rintro e w' ⟨rfl, rfl⟩))
  have bN := Boxed.new (w0.alloc (.cells #[.pointer none, .slice none 0 0] 55)) 9 (.string s)
  simp only [World.size_alloc] at bN
  have hB0 : Below w0.heap.size w0 ((w0.alloc (.cells #[.pointer none, .slice none 0 0] 55)).alloc (.cells #[.string s] 9)) := ((Below.refl _ w0).alloc (Nat.le_refl _) _).alloc (by simp) _
  have hI0 : Lib.IsBuilder 55 5 w0.heap.size w0.heap.size (Lib.byteCells (textAll [])) ((w0.alloc (.cells #[.pointer none, .slice none 0 0] 55)).alloc (.cells #[.string s] 9)) :=
    isBuilder_kept (row := none) (Lib.fresh_isBuilder 55 5 w0) ⟨rfl, rfl, rfl, by simp, fun k hk _ => Below.heap_alloc _ _ k hk⟩ (by simp)
  refine wpIn_wide.1 (wpIn_rangeFunc_ownG (F := Fence.wide) (n := 100) rfl (by omega) (gf := 57) (lb := #[.pointer (some ⟨w0.heap.size + 1, 0, none⟩)]) rfl trivial (enters_of Try.func57 (by kernel_rfl) rfl)
    (labels_stops Fence.wide 99 trivial rfl (by omega) (w0.heap.size + 1) s hs _ (by simp) bN.cell) KeepsCell.trans KeepsCell.putObj (Below.refl _ _) (fun _ => rfl)
    (fun pre W => (((textAll (pre.map (·.1))).length ≤ 2000 * pre.length ∧ Lib.IsBuilder 55 5 w0.heap.size w0.heap.size (Lib.byteCells (textAll (pre.map (·.1)))) W) ∧ Boxed W (w0.heap.size + 1) 9 (.string s)) ∧ Below w0.heap.size w0 W)
    (fun _ _ _ => False)
    (OwnFrom.and (Own.from (fun pre A B row hs hg hr => ⟨⟨hs.1.1, isBuilder_kept hs.1.2 hg hr⟩, boxed_kept hs.2 hg hr⟩) _) (ownFrom_below (Nat.le_refl _) (by simp; omega)))
    (fun _ _ _ _ _ hs _ _ => hs)
    ⟨⟨⟨by simp [textAll], hI0⟩, bN⟩, hB0⟩
    (fun x => { tmps := #[.string s, undef, .string { data := #[] }, .int .i64 0, .pointer (some ⟨w0.heap.size, 0, none⟩), undef, .string x.1.2, undef, undef, .bool false, .string s, .bool true, .bool false, .bool false, .string s, .bool false, .string s, .func (.func 57) #[] #[.pointer (some ⟨w0.heap.size + 1, 0, none⟩)], .int .i64 (x.1.1 : Int), .string x.1.2, undef, undef, undef, undef, undef, undef, undef, undef, undef, undef, undef, undef, undef, undef, undef, undef, undef, undef, undef, undef, undef, undef, undef, undef, undef, undef, undef, undef, undef, undef, undef, undef, undef, undef, undef, undef, undef, undef, undef, undef, undef], defers := [] }) ?assign ?body ?done ?stop)
  case assign =>
    intro l x W K hK
    gi_wp2
    exact hK
  case body =>
    rintro l pre x W ⟨⟨⟨hle, hI⟩, hbx⟩, hB⟩ hlt
    obtain ⟨hx1, hx2, hx3, hxa, hxb⟩ := x.spec
    clear hxa hxb
    obtain ⟨lb, hlb⟩ : ∃ q, x.1.2 = q := ⟨_, rfl⟩
    obtain ⟨L, hL⟩ : ∃ L, textAll (pre.map (·.1)) = L := ⟨_, rfl⟩
    rw [hlb] at hx2 hx3
    rw [hL] at hI hle
    have hF : Hid (textAll ((pre ++ [x]).map (·.1)) = L ++ (textBs lb.data.toList ++ [46])) := Lib.hid (by rw [List.map_append, List.map_singleton, textAll_snoc, hL, hlb])
    have hleH := Lib.hid hle
    have hsl : lb.size ≤ 255 := by omega
    have hLl : L.length ≤ 600000 := by omega
    have hST : St w0 s W.heap.size (Lib.bytesCells W 5 lb) ((Lib.bytesCells W 5 lb).size, (Lib.bytesCells W 5 lb).size + 1) L W (Lib.bytesWorld W 5 lb) := by
      have hbw := bytesWorld_below W 5 lb
      exact { bld := isBuilder_kept (row := none) hI ⟨hbw.os, hbw.tape, hbw.output, hbw.size, fun k hk _ => hbw.block k hk⟩ (by simp), row := Lib.bytesWorld_at_new W 5 lb, box := boxed_below hbx hbw hbx.lt, oth := keepsOthers_below hbw, bel := hB.trans (hbw.mono hB.size) }
    have hcell : Hid (∀ wr : World, wr.heap[W.heap.size]? = some (Obj.cells (Lib.bytesCells W 5 lb) 5 ((Lib.bytesCells W 5 lb).size, (Lib.bytesCells W 5 lb).size + 1)) → ∀ k (h : k < lb.data.toList.length), wr.cell? ⟨W.heap.size, k, none⟩ = some (.int .u8 ((lb.data.toList[k]).toNat : Int))) := Lib.hid (fun wr hwr k hk => by
      have h1 := Lib.bytesWorld_cell W 5 lb k hk
      have h2 : wr.cell? ⟨W.heap.size, k, none⟩ = (Lib.bytesWorld W 5 lb).cell? ⟨W.heap.size, k, none⟩ := by simp only [World.cell?, hwr, Lib.bytesWorld_at_new]
      rw [h2, h1]; simp [List.getD_eq_getElem?_getD]
      have : k < lb.data.size := by simpa using hk
      rw [Array.getElem?_eq_getElem this]; rfl)
    have hfz : Hid (((Lib.bytesCells W 5 lb).size, (Lib.bytesCells W 5 lb).size + 1) ≠ ((0, 0) : Nat × Nat)) := Lib.hid (by simp)
    have hbxW := Lib.hid hbx
    rw [hlb]
    clear hlb hL hI hle hx3 hbx hB hI0 hB0 bN
    gi_wp2
    rw [Lib.run_convert_string_bytes _ 9 53 5 _ Try.underlying9 Try.underlying53 Try.underlying5]
    simp only [Result.andThen]
    rw [Oper.uponIn_value]
    obtain ⟨cp, hcp⟩ : ∃ cp, grownCap W lb.size 0 5 = cp := ⟨_, rfl⟩
    rw [hcp]
    obtain ⟨Wb, hWb⟩ : ∃ Wb, Lib.bytesWorld W 5 lb = Wb := ⟨_, rfl⟩
    rw [hWb] at hST ⊢
    obtain ⟨rc, hrc⟩ : ∃ rc, Lib.bytesCells W 5 lb = rc := ⟨_, rfl⟩
    rw [hrc] at hST hcell hfz
    obtain ⟨fz, hfzz⟩ : ∃ fz, (rc.size, rc.size + 1) = fz := ⟨_, rfl⟩
    rw [hfzz] at hST hcell hfz
    obtain ⟨cs, hcs⟩ : ∃ cs, lb.data.toList = cs := ⟨_, rfl⟩
    have hln : cs.length = lb.size := by rw [← hcs]; rfl
    rw [hcs] at hcell hF
    have hSH := Lib.hid hST
    clear hcp hWb hrc hfzz hcs hST
    gi_wp2
    gi_loopw [23] (fun v wr => ∃ k : Nat, k ≤ lb.size ∧ v = .int .i64 k ∧ Hid (St w0 s W.heap.size rc fz (L ++ textBs (cs.take k)) W wr))
      (fun v _ => lb.size - (intOf v).toNat)
    case atStart => exact ⟨0, Nat.zero_le _, rfl, by rw [List.take_zero]; simpa [textBs] using hSH⟩
    case round =>
      obtain ⟨k, hk, rfl, hS⟩ := hrel
      have hlen : (L ++ textBs (cs.take k)).length ≤ 1000000 := by
        have := textBs_len (cs.take k)
        rw [List.length_append]; simp only [List.length_take] at this; omega
      by_cases hlt2 : k < lb.size
      · have hT : Hid (L ++ textBs (cs.take (k + 1)) = (L ++ textBs (cs.take k)) ++ textB (cs[k]'(by omega))) := Lib.hid (by rw [List.take_succ_eq_append_getElem (by omega), textBs_snoc, List.append_assoc])
        have hc1 := hcell.out wr hS.out.row k (by omega)
        obtain ⟨c, hc⟩ : ∃ c, cs[k]'(by omega) = c := ⟨_, rfl⟩
        obtain ⟨M, hM⟩ : ∃ M, L ++ textBs (cs.take k) = M := ⟨_, rfl⟩
        rw [hc] at hc1 hT
        rw [hM] at hlen hS hT
        have hlM := Lib.hid hlen
        clear hc hM hlen
        by_cases h1 : c.toNat = 46
        · have hB : textB c = [92, c] := by unfold textB; rw [if_pos (.inl h1)]
          rw [hB] at hT
          have h1' : ((c.toNat : Int) == 46) = true := by simp; omega
          clear hB h1
          gi_wp2_with (first
            | (refine ⟨trivial, ?_⟩; gi_at_call 42; (with_reducible refine (CallsIn.inRound l (callsIn_wide.2 (hS.out.byte hfz.out 92 92 rfl (by have := hlM.out; omega)))).mono ?_); rintro e w1 ⟨rfl, hS1⟩; replace hS1 := Lib.hid hS1; clear hS)
            | (refine ⟨trivial, ?_⟩; gi_at_call 42; go_loud (with_reducible refine (CallsIn.inRound l (callsIn_wide.2 (hS1.out.byte hfz.out c _ rfl (by have := hlM.out; rw [List.length_append]; simp; omega)))).mono ?_); rintro e w2 ⟨rfl, hS2⟩; replace hS2 := Lib.hid hS2; clear hS1))
          exact ⟨⟨k + 1, by omega, by go_num, Lib.hid (by rw [hT.out]; have := hS2.out; rwa [List.append_assoc] at this)⟩, by simp [intOf]; omega⟩
        by_cases h2 : c.toNat = 92
        · have hB : textB c = [92, c] := by unfold textB; rw [if_pos (.inr h2)]
          rw [hB] at hT
          have h1' : ((c.toNat : Int) == 46) = false := by simp; omega
          have h2' : ((c.toNat : Int) == 92) = true := by simp; omega
          clear hB h1 h2
          gi_wp2_with (first
            | (refine ⟨trivial, ?_⟩; gi_at_call 42; (with_reducible refine (CallsIn.inRound l (callsIn_wide.2 (hS.out.byte hfz.out 92 92 rfl (by have := hlM.out; omega)))).mono ?_); rintro e w1 ⟨rfl, hS1⟩; replace hS1 := Lib.hid hS1; clear hS)
            | (refine ⟨trivial, ?_⟩; gi_at_call 42; go_loud (with_reducible refine (CallsIn.inRound l (callsIn_wide.2 (hS1.out.byte hfz.out c _ rfl (by have := hlM.out; rw [List.length_append]; simp; omega)))).mono ?_); rintro e w2 ⟨rfl, hS2⟩; replace hS2 := Lib.hid hS2; clear hS1))
          exact ⟨⟨k + 1, by omega, by go_num, Lib.hid (by rw [hT.out]; have := hS2.out; rwa [List.append_assoc] at this)⟩, by simp [intOf]; omega⟩
        have h1' : ((c.toNat : Int) == 46) = false := by simp; omega
        have h2' : ((c.toNat : Int) == 92) = false := by simp; omega
        by_cases h3 : c.toNat < 33 ∨ 126 < c.toNat
        · have hB : textB c = [92, UInt8.ofNat (48 + c.toNat / 100), UInt8.ofNat (48 + c.toNat / 10 % 10), UInt8.ofNat (48 + c.toNat % 10)] := by unfold textB; rw [if_neg (by omega), if_pos h3]
          rw [hB] at hT
          have hcl := UInt8.toNat_lt c
          rcases h3 with h3 | h3
          · have h3' : (c.toNat : Int) < 33 := by omega
            clear hB h1 h2 h3
            have q1 : Hid ((UInt8.ofNat (48 + c.toNat / 100)).toNat = 48 + c.toNat / 100) := Lib.hid (by have := UInt8.toNat_lt c; simp; omega)
            have q2 : Hid ((UInt8.ofNat (48 + c.toNat / 10 % 10)).toNat = 48 + c.toNat / 10 % 10) := Lib.hid (by have := UInt8.toNat_lt c; simp; omega)
            have q3 : Hid ((UInt8.ofNat (48 + c.toNat % 10)).toNat = 48 + c.toNat % 10) := Lib.hid (by have := UInt8.toNat_lt c; simp; omega)
            gi_wp2_with (first
              | (refine ⟨trivial, ?_⟩; gi_at_call 54; go_loud (with_reducible refine (CallsIn.inRound l (callsIn_wide.2 (hS.out.four hfz.out 92 (UInt8.ofNat (48 + c.toNat / 100)) (UInt8.ofNat (48 + c.toNat / 10 % 10)) (UInt8.ofNat (48 + c.toNat % 10)) _ (by rw [q1.out, q2.out, q3.out]; push_cast; rfl) (by have := hlM.out; omega)))).mono ?_); rintro e w1 ⟨rfl, hS1⟩; replace hS1 := Lib.hid hS1; clear hS))
            exact ⟨⟨k + 1, by omega, by go_num, Lib.hid (by rw [hT.out]; exact hS1.out)⟩, by simp [intOf]; omega⟩
          · have h3' : ¬ (c.toNat : Int) < 33 := by omega
            have h4' : 126 < (c.toNat : Int) := by omega
            clear hB h1 h2 h3
            have q1 : Hid ((UInt8.ofNat (48 + c.toNat / 100)).toNat = 48 + c.toNat / 100) := Lib.hid (by have := UInt8.toNat_lt c; simp; omega)
            have q2 : Hid ((UInt8.ofNat (48 + c.toNat / 10 % 10)).toNat = 48 + c.toNat / 10 % 10) := Lib.hid (by have := UInt8.toNat_lt c; simp; omega)
            have q3 : Hid ((UInt8.ofNat (48 + c.toNat % 10)).toNat = 48 + c.toNat % 10) := Lib.hid (by have := UInt8.toNat_lt c; simp; omega)
            gi_wp2_with (first
              | (refine ⟨trivial, ?_⟩; gi_at_call 54; go_loud (with_reducible refine (CallsIn.inRound l (callsIn_wide.2 (hS.out.four hfz.out 92 (UInt8.ofNat (48 + c.toNat / 100)) (UInt8.ofNat (48 + c.toNat / 10 % 10)) (UInt8.ofNat (48 + c.toNat % 10)) _ (by rw [q1.out, q2.out, q3.out]; push_cast; rfl) (by have := hlM.out; omega)))).mono ?_); rintro e w1 ⟨rfl, hS1⟩; replace hS1 := Lib.hid hS1; clear hS))
            exact ⟨⟨k + 1, by omega, by go_num, Lib.hid (by rw [hT.out]; exact hS1.out)⟩, by simp [intOf]; omega⟩
        · have hB : textB c = [c] := by unfold textB; rw [if_neg (by omega), if_neg h3]
          rw [hB] at hT
          have h3' : ¬ (c.toNat : Int) < 33 := by omega
          have h4' : ¬ 126 < (c.toNat : Int) := by omega
          clear hB h1 h2 h3
          gi_wp2_with (first
            | (refine ⟨trivial, ?_⟩; gi_at_call 42; (with_reducible refine (CallsIn.inRound l (callsIn_wide.2 (hS.out.byte hfz.out c _ rfl (by have := hlM.out; omega)))).mono ?_); rintro e w1 ⟨rfl, hS1⟩; replace hS1 := Lib.hid hS1; clear hS))
          exact ⟨⟨k + 1, by omega, by go_num, Lib.hid (by rw [hT.out]; exact hS1.out)⟩, by simp [intOf]; omega⟩
      · obtain rfl : k = lb.size := by omega
        have hlM := Lib.hid hlen
        have htk : cs.take lb.size = cs := List.take_of_length_le (by omega)
        rw [htk] at hS hlM
        clear hlen htk
        gi_wp2_with (first
          | (refine ⟨trivial, ?_⟩; gi_at_call 42; (with_reducible refine (CallsIn.inRound l (callsIn_wide.2 (hS.out.byte hfz.out 46 46 rfl (by have := hlM.out; omega)))).mono ?_); rintro e w1 ⟨rfl, hS1⟩; replace hS1 := Lib.hid hS1; clear hS))
        exact ⟨hS1.out.oth.from _, fun v hv => by { have h1 := hbxW.out.cell; rw [h1] at hv; cases hv; exact hS1.out.box.cell }, ⟨⟨by { rw [hF.out]; have h1 := textBs_len cs; have h2 := hleH.out; simp only [List.length_append, List.length_cons, List.length_nil]; omega }, by { rw [hF.out, ← List.append_assoc]; exact hS1.out.bld }⟩, hS1.out.box⟩, hS1.out.bel⟩
  case done =>
    rintro D ys W hD hys ⟨⟨⟨hle, hI⟩, hbx⟩, hB⟩ hK
    rw [hys] at hI
    clear hle hbx hI0 hB0 bN hys
    go_wp2_with (go_at_call 44; (with_reducible refine (String_any w0.heap.size w0.heap.size (textAll (labs s 0)) _ hI hB.size).mono ?_); rintro e w2 ⟨rfl, hb2, ho2⟩)
    have hK2 := ho2 D _ hK (by simp at hD; simp; omega) (by intro c fz h; cases h)
    refine ⟨by simp, .inl ⟨_, _, rfl, run_takeDeferred hK2, ?_⟩⟩
    exact ⟨_, results_tmp2 rfl _ _ _, rfl, hb0.trans (((hB.trans hb2).mono hb0.size).trans (belowK_b (w := w0) (hb0.size) w2 D _ _ (by simp at hD; omega) hK2 rfl rfl))⟩
  case stop =>
    rintro D c pre W _ _ h _
    exact h.elim

set_option maxRecDepth 100000 in
set_option maxHeartbeats 2000000 in
theorem Text_any (s : ByteArray) (hs : s.size ≤ 140737488351232) (w : World) :
    Calls Try.prog 40 #[.string s] w fun e W' => e = .returned (.tuple #[.string (textW s).1, .int .i64 (textW s).2]) ∧ Below w.heap.size w W' := by
  by_cases hR : rightB s = true
  · by_cases hZ : s.toList = [0]
    · have hL : textW s = (⟨#[46]⟩, 0) := by unfold textW; rw [if_pos hR, if_pos hZ]
      rw [hL]
      have hz' : (s.toList == [0]) = true := by simpa using hZ
      clear hL
      refine (callsIn_wide (n := 100)).1 (callsIn_of_wp_marks Try.func40 rfl trivial (wpIn_wide.2 ?_) rfl)
      simp only [Try.ntmps40, List.size_toArray, List.length_cons, List.length_nil, Nat.reduceAdd, Nat.reduceSub, Array.replicate_succ, Array.replicate_zero, List.push_toArray, List.append_toArray, List.nil_append, List.cons_append]
      go_wp2_with (first | (go_at_call 19; refine (Right_any s hs _).mono ?_; rintro e w0 ⟨rfl, hb0⟩; rw [hR]))
      exact ⟨_, results_tmp2 rfl _ _ _, rfl, hb0⟩
    · have hL : textW s = (⟨(textAll (labs s 0)).toArray⟩, 0) := by unfold textW; rw [if_pos hR, if_neg hZ]
      rw [hL]
      exact Text_loop s hs w hR hZ
  · have hRf : rightB s = false := by simpa using hR
    have hL : textW s = (⟨#[]⟩, 2) := by unfold textW; rw [if_neg hR]
    rw [hL]
    clear hL hR
    refine (callsIn_wide (n := 100)).1 (callsIn_of_wp_marks Try.func40 rfl trivial (wpIn_wide.2 ?_) rfl)
    simp only [Try.ntmps40, List.size_toArray, List.length_cons, List.length_nil, Nat.reduceAdd, Nat.reduceSub, Array.replicate_succ, Array.replicate_zero, List.push_toArray, List.append_toArray, List.nil_append, List.cons_append]
    go_wp2_with (first | (go_at_call 19; refine (Right_any s hs _).mono ?_; rintro e w0 ⟨rfl, hb0⟩; rw [hRf]) | fail)
    exact ⟨_, results_tmp2 rfl _ _ _, rfl, hb0⟩
end Go.Proofs.Ytlikkpeaepankaa.Nm
