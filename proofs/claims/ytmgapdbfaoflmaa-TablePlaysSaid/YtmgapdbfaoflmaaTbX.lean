/- A table of one's own; examples, pick. -/
import Derived.Test.YtmgapdbfaoflmaaTbF
namespace Go.Proofs.Ytmgapdbfaoflmaa.Tb
open Go.RowKit Go.Shelf Rt Tm
set_option linter.unusedSimpArgs false
set_option linter.unusedVariables false
/-- A table that was made since w. -/
def TS (w w' : World) (tb most : Nat) (l : List KV) : Prop := ∃ S bm, TabS w' S tb bm most l ∧ (∀ x, S x → w.heap.size ≤ x) ∧ Below w.heap.size w w'
section
variable {w w1 w2 : World} {tb most : Nat} {l : List KV} {k : ByteArray}
theorem TS.below (h : TS w w1 tb most l) : Below w.heap.size w w1 := by obtain ⟨S, bm, _, _, h⟩ := h; exact h
theorem TS.len (h : TS w w1 tb most l) : l.length ≤ most ∧ most ≤ 100000 := by obtain ⟨S, bm, h, _⟩ := h; exact ⟨h.len, h.m2⟩
theorem TS.later (h : TS w w1 tb most l) (hb : Below w1.heap.size w1 w2) : TS w w2 tb most l := by
  obtain ⟨S, bm, h1, h2, h3⟩ := h
  exact ⟨S, bm, h1.below hb, h2, h3.trans (hb.mono h3.size)⟩
theorem TS.drew (h : TS w w1 tb most l) : TS w w1.drew tb most l := h.later (Below.refl _ _).drew
theorem TS.step {S : Nat → Prop} {bm : Nat} {l' : List KV} (h1 : TabS w1 S tb bm most l) (h2 : ∀ x, S x → w.heap.size ≤ x) (h3 : Below w.heap.size w w1) (h : ∃ S', TabS w2 S' tb bm most l' ∧ Later S S' w1 w2 ∧ Kept S w1 w2) : TS w w2 tb most l' := by
  obtain ⟨S', k1, k2, k3⟩ := h
  exact ⟨S', bm, k1, fun x hx => (k2 x hx).elim (h2 x) (fun e => Nat.le_trans h3.size e), h3.trans (k3.below h3.size (fun k hk e => by have := h2 k e; omega))⟩
theorem New_T (w w0 : World) (hb : Below w0.heap.size w0 w) (most : Nat) (h1 : 1 ≤ most) (h2 : most ≤ 100000) : Calls Try.prog 15 #[.int .i64 (most : Int)] w fun e w' => ∃ tb, e = .returned (.tuple #[.pointer (some ⟨tb, 0, none⟩), .int .i64 0]) ∧ TS w0 w' tb most [] := by
  refine (New_S w most h1 h2).mono ?_
  rintro e w' ⟨tb, bm, S, rfl, hT, hS, hb'⟩
  exact ⟨tb, rfl, S, bm, hT, fun x hx => Nat.le_trans hb.size (hS x hx), hb.trans (hb'.mono hb.size)⟩
theorem Len_T (h : TS w w1 tb most l) : Calls Try.prog 17 #[.pointer (some ⟨tb, 0, none⟩)] w1 fun e w' => e = .returned (.int .i64 (l.length : Int)) ∧ w' = w1 := by obtain ⟨S, bm, h1, _⟩ := h; exact Len_S h1
theorem Look_T (h : TS w w1 tb most l) (hk : k.size ≤ maxLen) : Calls Try.prog 18 #[.pointer (some ⟨tb, 0, none⟩), .string k] w1 fun e w' => e = .returned (.tuple #[.int .i64 ((lookV l k).getD 0), .bool (lookV l k).isSome]) ∧ w' = w1 := by obtain ⟨S, bm, h1, _⟩ := h; exact Look_S h1 hk
theorem Drop_T (h : TS w w1 tb most l) (hk : k.size ≤ maxLen) : Calls Try.prog 23 #[.pointer (some ⟨tb, 0, none⟩), .string k] w1 fun e w' => e = .returned (.bool (lookV l k).isSome) ∧ TS w w' tb most (delK l k) := by
  obtain ⟨S, bm, h1, h2, h3⟩ := h; exact (Drop_S h1 hk).mono fun e w' ⟨he, h⟩ => ⟨he, TS.step h1 h2 h3 h⟩
theorem Get_T (h : TS w w1 tb most l) (hk : k.size ≤ maxLen) : Calls Try.prog 20 #[.pointer (some ⟨tb, 0, none⟩), .string k] w1 fun e w' => e = .returned (.tuple #[.int .i64 ((lookV l k).getD 0), .bool (lookV l k).isSome]) ∧ TS w w' tb most (getK l k) := by
  obtain ⟨S, bm, h1, h2, h3⟩ := h; exact (Get_S h1 hk).mono fun e w' ⟨he, h⟩ => ⟨he, TS.step h1 h2 h3 h⟩
theorem Put_T (h : TS w w1 tb most l) (hk : k.size ≤ maxLen) (v : Int) : Calls Try.prog 16 #[.pointer (some ⟨tb, 0, none⟩), .string k, .int .i64 v] w1 fun e w' => e = .returned (.tuple #[.string ((putG most l k).getD ⟨#[]⟩), .bool (putG most l k).isSome]) ∧ TS w w' tb most (putK most l k v) := by
  obtain ⟨S, bm, h1, h2, h3⟩ := h; exact (Put_S h1 hk v).mono fun e w' ⟨he, h⟩ => ⟨he, TS.step h1 h2 h3 h⟩
theorem Keys_T (h : TS w w1 tb most l) : Calls Try.prog 26 #[.pointer (some ⟨tb, 0, none⟩)] w1 fun e w' => ∃ v, e = .returned v ∧ w'.ownsRow w1.heap.size 9 1 v l.length (l.map fun p => .string p.1) ∧ TS w w' tb most l := by
  have h0 := h
  obtain ⟨S, bm, h1, h2, h3⟩ := h
  exact (Keys_S h1).mono fun e w' ⟨v, he, h4, h5⟩ => ⟨v, he, h4, h0.later h5⟩
end
def kA : ByteArray := ⟨#[97]⟩
def kB : ByteArray := ⟨#[98]⟩
def kC : ByteArray := ⟨#[99]⟩
theorem small {k : ByteArray} (h : k.size = 1) : k.size ≤ maxLen := by unfold maxLen; omega
set_option maxRecDepth 100000 in
set_option maxHeartbeats 4000000 in
theorem examples_any (w : World) : Calls Try.prog 13 #[] w fun e w' => e = .returned (.bool true) ∧ Below w.heap.size w w' := by
  go_enter Try.func13, Try.ntmps13
  go_wp2_with fail
  refine (New_T w w (Below.refl _ _) 2 (by omega) (by omega)).mono ?_
  rintro e w1 ⟨tb, rfl, h1⟩
  have hb1 := Lib.hid h1
  clear h1
  go_wp2_with fail
  refine (New_bad w1 0 (by omega)).mono ?_
  rintro e w2 ⟨rfl, rfl⟩
  go_wp2_with fail
  refine (Put_T hb1.out (k := kA) (small rfl) 1).mono ?_
  rintro e w3 ⟨rfl, h3⟩
  rw [show putK 2 [] kA 1 = [(kA, 1)] by decide +kernel] at h3
  have h3H := Lib.hid h3
  clear h3 hb1
  go_wp2_with fail
  refine (Put_T h3H.out (k := kB) (small rfl) 2).mono ?_
  rintro e w4 ⟨rfl, h4⟩
  rw [show putK 2 [(kA, 1)] kB 2 = [(kB, 2), (kA, 1)] by decide +kernel] at h4
  have h4H := Lib.hid h4
  clear h4 h3H
  go_wp2_with fail
  refine (Get_T h4H.out (k := kA) (small rfl)).mono ?_
  rintro e w5 ⟨rfl, h5⟩
  rw [show getK [(kB, 2), (kA, 1)] kA = [(kA, 1), (kB, 2)] by decide +kernel] at h5
  rw [show lookV [(kB, 2), (kA, 1)] kA = some 1 by decide +kernel]
  have h5H := Lib.hid h5
  clear h5 h4H
  simp only [Option.getD_some, Option.isSome_some]
  go_wp2_with fail
  refine (Put_T h5H.out (k := kC) (small rfl) 3).mono ?_
  rintro e w6 ⟨rfl, h6⟩
  rw [show putK 2 [(kA, 1), (kB, 2)] kC 3 = [(kC, 3), (kA, 1)] by decide +kernel] at h6
  rw [show putG 2 [(kA, 1), (kB, 2)] kC = some kB by decide +kernel]
  have h6H := Lib.hid h6
  clear h6 h5H
  simp only [Option.getD_some, Option.isSome_some]
  go_wp2_with fail
  refine (Keys_T h6H.out).mono ?_
  rintro e w7 ⟨v, rfl, hrow, h7⟩
  obtain ⟨g, cap, rfl⟩ := ownsRow_succ hrow
  have q0 : w7.cell? ⟨g, 0, none⟩ = some (.string kC) := hrow.cellAt 0 (by simp)
  have q1 : w7.cell? ⟨g, 1, none⟩ = some (.string kA) := hrow.cellAt 1 (by simp)
  have h7H := Lib.hid h7
  clear h7 h6H hrow
  have tA : kA.toList = [97] := by decide +kernel
  have tB : kB.toList = [98] := by decide +kernel
  have tC : kC.toList = [99] := by decide +kernel
  go_wp2_with fail
  refine (Drop_T h7H.out (k := kA) (small rfl)).mono ?_
  rintro e w8 ⟨rfl, h8⟩
  rw [show lookV [(kC, 3), (kA, 1)] kA = some 1 by decide +kernel]
  rw [show delK [(kC, 3), (kA, 1)] kA = [(kC, 3)] by decide +kernel] at h8
  have h8H := Lib.hid h8
  clear h8 h7H q0 q1
  simp only [Option.isSome_some]
  go_wp2_with fail
  refine (Drop_T h8H.out (k := kA) (small rfl)).mono ?_
  rintro e w9 ⟨rfl, h9⟩
  rw [show lookV [(kC, 3)] kA = none by decide +kernel]
  rw [show delK [(kC, 3)] kA = [(kC, 3)] by decide +kernel] at h9
  have h9H := Lib.hid h9
  clear h9 h8H
  simp only [Option.isSome_none]
  go_wp2_with fail
  refine (Len_T h9H.out).mono ?_
  rintro e w10 ⟨rfl, rfl⟩
  go_wp2
  go_ret
  exact ⟨rfl, h9H.out.below⟩
end Go.Proofs.Ytmgapdbfaoflmaa.Tb
