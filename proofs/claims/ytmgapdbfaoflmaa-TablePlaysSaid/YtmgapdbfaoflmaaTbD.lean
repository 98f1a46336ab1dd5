/- The table: Drop, Get, Put. -/
import Derived.Test.YtmgapdbfaoflmaaTbC
namespace Go.Proofs.Ytmgapdbfaoflmaa.Tb
open Go.RowKit Rt Tm
set_option linter.unusedSimpArgs false
set_option linter.unusedVariables false
/-- The blocks that the table may write. -/
def MineL (tb bm : Nat) (L : List Nd) (x : Nat) : Prop := x = tb ∨ x = bm ∨ x ∈ L.map (·.1)
section
variable {w w' : World} {tb bm n : Nat} {most v : Int} {k : ByteArray} {L A B : List Nd} {p : Nd} {f : ByteArray → Option Nat}
theorem TabL.find (h : TabL w tb bm most (A ++ p :: B)) : ∃ f, MapSP w bm (A ++ p :: B).length f ∧ PLt f (A ++ p :: B) ∧ f p.2.1 = some p.1 ∧ ∀ q ∈ A ++ B, q.2.1 ≠ p.2.1 := by
  obtain ⟨nx, la, h1⟩ := h.ring
  obtain ⟨f, h2, h3⟩ := h.map
  have hf : f p.2.1 = some p.1 := (h3 _ _).2 ⟨p.2.2, by simp⟩
  refine ⟨f, h2, h3, hf, ?_⟩
  rintro ⟨i, k', u⟩ hq hk
  have hk : k' = p.2.1 := hk
  have hi : f k' = some i := (h3 _ _).2 ⟨u, by simp only [List.mem_append, List.mem_cons] at hq ⊢; rcases hq with e | e; exact .inl e; exact .inr (.inr e)⟩
  rw [hk, hf] at hi
  have hi := Option.some.inj hi
  have hnd := (List.nodup_cons.1 h1.nd).2
  simp only [List.map_append, List.map_cons, List.nodup_append, List.nodup_cons] at hnd
  rcases List.mem_append.1 hq with e | e
  · exact hnd.2.2 _ (List.mem_map_of_mem e) _ (by simp) hi.symm
  · exact hnd.2.1.1 (hi ▸ List.mem_map_of_mem (f := (·.1)) e)
end
set_option maxRecDepth 100000 in
theorem Drop_no {w : World} {tb bm : Nat} {most : Int} {L : List Nd} (h : TabL w tb bm most L) {k : ByteArray} (hk : k.size ≤ maxLen) (hno : ∀ p ∈ L, p.2.1 ≠ k) :
    Calls Try.prog 23 #[.pointer (some ⟨tb, 0, none⟩), .string k] w fun e w' => e = .returned (.bool false) ∧ w' = w := by
  obtain ⟨nx, la, h1⟩ := h.ring
  obtain ⟨f, h2, h3⟩ := h.map
  have hf : f k = none := by
    cases hf : f k with
    | none => rfl
    | some j => obtain ⟨v, hv⟩ := (h3 k j).1 hf; exact absurd rfl (hno _ hv)
  have hl := h2.look hk
  rw [hf] at hl
  replace hl : (Instr.lookup 90 (.map (some bm)) (.string k) true).run Try.prog w = .ok (.tuple #[.pointer none, .bool false]) w := hl
  have c1 := h1.c1
  clear h h1 h2 hf
  go_enter Try.func23, Try.ntmps23
  go_wp2
  go_ret
  exact ⟨rfl, rfl⟩
set_option maxRecDepth 100000 in
theorem Drop_yes {w : World} {tb bm : Nat} {most : Int} {A B : List Nd} {p : Nd} (h : TabL w tb bm most (A ++ p :: B)) :
    Calls Try.prog 23 #[.pointer (some ⟨tb, 0, none⟩), .string p.2.1] w fun e w' => e = .returned (.bool true) ∧ TabL w' tb bm most (A ++ B) ∧ NodeAt w' p.1 p.2.1 p.2.2 ∧ Kept (MineL tb bm (A ++ p :: B)) w w' := by
  obtain ⟨f, hm, hp, hf, hno⟩ := h.find
  obtain ⟨nx, la, h1⟩ := h.ring
  have hsz := h.sz p (by simp)
  have hl := hm.look hsz
  rw [hf] at hl
  replace hl : (Instr.lookup 90 (.map (some bm)) (.string p.2.1) true).run Try.prog w = .ok (.tuple #[.pointer (some ⟨p.1, 0, none⟩), .bool true]) w := hl
  have c1 := h1.c1
  have hbm := h.bmn
  have hbmk : ¬ (bm = tb ∨ bm ∈ (A ++ p :: B).map (·.1)) := fun e => hbm bm e rfl
  have hszH := Lib.hid h.sz
  have hout := Lib.hid (out_T h1)
  have hfH := Lib.hid hf
  clear h hf
  go_enter Try.func23, Try.ntmps23
  go_wp2_with fail
  refine hout.out.mono ?_
  rintro e w1 ⟨rfl, nx', la', h1', hn', hk1⟩
  have c1' := h1'.c1
  have hm1 := hm.keep (hk1.block bm hm.lt hbmk)
  obtain ⟨w2, hd, hm2, ht⟩ := hm1.del hsz (by rw [hfH.out]; rfl) 0
  clear hl c1 h1 hm
  go_wp2
  go_ret
  have hlt1 := hm1.lt
  have hbA : ∀ x, x = tb ∨ x ∈ (A ++ B).map (·.1) → x ≠ bm := fun x hx => hbm x (hx.imp id (fun e => by simp only [List.map_append, List.mem_append, List.map_cons, List.mem_cons] at e ⊢; rcases e with e | e; exact .inl e; exact .inr (.inr e)))
  have hg := ht.grown
  refine ⟨rfl, ⟨⟨nx', la', h1'.keep fun x hx => hg.block x (h1'.lt x hx) (fun e => hbA x hx (Option.some.inj e))⟩, ⟨_, ?_, hp.drop hno⟩, fun q hq => hszH.out q ?_⟩, hn'.keep (hg.block _ hn'.lt (fun e => hbm p.1 (.inr (by simp)) (Option.some.inj e))), ?_⟩
  · have e : (A ++ p :: B).length - 1 = (A ++ B).length := by simp
    rw [e] at hm2; exact hm2
  · simp only [List.mem_append, List.mem_cons] at hq ⊢
    rcases hq with e | e
    · exact .inl e
    · exact .inr (.inr e)
  · exact Kept.turned (hk1.mono fun x _ e => e.imp id .inr) ht (.inl (.inr (.inl rfl)))
set_option maxRecDepth 100000 in
theorem Get_no {w : World} {tb bm : Nat} {most : Int} {L : List Nd} (h : TabL w tb bm most L) {k : ByteArray} (hk : k.size ≤ maxLen) (hno : ∀ p ∈ L, p.2.1 ≠ k) :
    Calls Try.prog 20 #[.pointer (some ⟨tb, 0, none⟩), .string k] w fun e w' => e = .returned (.tuple #[.int .i64 0, .bool false]) ∧ w' = w := by
  obtain ⟨nx, la, h1⟩ := h.ring
  obtain ⟨f, h2, h3⟩ := h.map
  have hf : f k = none := by
    cases hf : f k with
    | none => rfl
    | some j => obtain ⟨v, hv⟩ := (h3 k j).1 hf; exact absurd rfl (hno _ hv)
  have hl := h2.look hk
  rw [hf] at hl
  replace hl : (Instr.lookup 90 (.map (some bm)) (.string k) true).run Try.prog w = .ok (.tuple #[.pointer none, .bool false]) w := hl
  have c1 := h1.c1
  have hlook := Lib.hid (Look_no h hk hno)
  clear h h1 h2 hf
  go_enter Try.func20, Try.ntmps20
  go_wp2_with fail
  refine hlook.out.mono ?_
  rintro e w1 ⟨rfl, rfl⟩
  go_wp2
  refine bodyPost_ret (v := .tuple #[.int .i64 0, .bool false]) (by simp [results, Try.results20, go_sem]) rfl ⟨rfl, rfl⟩
set_option maxRecDepth 100000 in
theorem Get_yes {w : World} {tb bm : Nat} {most : Int} {A B : List Nd} {p : Nd} (h : TabL w tb bm most (A ++ p :: B)) :
    Calls Try.prog 20 #[.pointer (some ⟨tb, 0, none⟩), .string p.2.1] w fun e w' => e = .returned (.tuple #[.int .i64 p.2.2, .bool true]) ∧ TabL w' tb bm most (p :: (A ++ B)) ∧ Kept (MineL tb bm (A ++ p :: B)) w w' := by
  obtain ⟨f, hm, hp, hf, hno⟩ := h.find
  obtain ⟨nx, la, h1⟩ := h.ring
  have hsz := h.sz p (by simp)
  have hl := hm.look hsz
  rw [hf] at hl
  replace hl : (Instr.lookup 90 (.map (some bm)) (.string p.2.1) true).run Try.prog w = .ok (.tuple #[.pointer (some ⟨p.1, 0, none⟩), .bool true]) w := hl
  have c1 := h1.c1
  have hbm := h.bmn
  have hbmk : ¬ (bm = tb ∨ bm ∈ (A ++ p :: B).map (·.1)) := fun e => hbm bm e rfl
  have hszH := Lib.hid h.sz
  have hout := Lib.hid (out_T h1)
  have hnd := Lib.hid h1.nd
  have hH := Lib.hid h
  clear h hf
  go_enter Try.func20, Try.ntmps20
  go_wp2_with fail
  refine hout.out.mono ?_
  rintro e w1 ⟨rfl, nx', la', h1', hn', hk1⟩
  have hpn : p.1 ∉ tb :: (A ++ B).map (·.1) := by
    have h5 := hnd.out
    simp only [List.nodup_cons, List.map_append, List.map_cons, List.nodup_append, List.mem_append, List.mem_cons, not_or] at h5 ⊢
    exact ⟨fun e => h5.1.2.1 e.symm, fun e => h5.2.2.2 _ e _ (.inl rfl) rfl, h5.2.2.1.1⟩
  have hfr := Lib.hid (front_T h1' hn' hpn)
  clear hl c1 h1 hout h1' hn'
  go_wp2_with fail
  refine hfr.out.mono ?_
  rintro e w2 ⟨rfl, nx2, la2, h2, hk2⟩
  have hsub : ∀ x, x = tb ∨ x = p.1 ∨ x ∈ (A ++ B).map (·.1) → x = tb ∨ x ∈ (A ++ p :: B).map (·.1) := by
    intro x hx
    simp only [List.map_append, List.map_cons, List.mem_append, List.mem_cons] at hx ⊢
    rcases hx with e | e | e | e
    · exact .inl e
    · exact .inr (.inr (.inl e))
    · exact .inr (.inl e)
    · exact .inr (.inr (.inr e))
  have hk12 : Kept (fun x => x = tb ∨ x ∈ (A ++ p :: B).map (·.1)) w w2 := hk1.trans (hk2.mono fun x _ e => hsub x e)
  have hT : TabL w2 tb bm most (p :: (A ++ B)) := by
    refine ⟨⟨nx2, la2, h2⟩, ⟨f, ?_, hp.swap p.2.2⟩, fun q hq => hszH.out q ?_⟩
    · have e : (p :: (A ++ B)).length = (A ++ p :: B).length := by simp; omega
      rw [e]; exact hm.keep (hk12.block bm hm.lt hbmk)
    · simp only [List.mem_append, List.mem_cons] at hq ⊢
      rcases hq with e | e | e
      · exact .inr (.inl e)
      · exact .inl e
      · exact .inr (.inr e)
  have hlook := Lib.hid (Look_yes hT (p := p) (by simp))
  clear hfr h2 hm
  go_wp2_with fail
  refine hlook.out.mono ?_
  rintro e w3 ⟨rfl, rfl⟩
  go_wp2
  refine bodyPost_ret (v := .tuple #[.int .i64 p.2.2, .bool true]) (by simp [results, Try.results20, go_sem]) rfl ⟨rfl, hT, hk12.mono fun x _ e => e.imp id .inr⟩
end Go.Proofs.Ytmgapdbfaoflmaa.Tb
