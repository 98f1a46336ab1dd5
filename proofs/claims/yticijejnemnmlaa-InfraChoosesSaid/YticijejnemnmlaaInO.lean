/- The table in memory: its ring of nodes. -/
import Derived.Test.YticijejnemnmlaaInN
namespace Go.Proofs.Yticijejnemnmlaa.If
open Go.RowKit Rt
set_option linter.unusedSimpArgs false
set_option linter.unusedVariables false
def off (tb x : Nat) : Nat := if x = tb then 2 else 0
/-- What a node has: five cells. -/
structure Sv where
  x0 : Int
  x1 : Int
  x2 : Int
  la : Option Addr
  ln : Nat
  lc : Nat
  pl : Int
def Sv.cs (s : Sv) : List Value := [.int .i64 s.x0, .int .i64 s.x1, .int .i64 s.x2, .slice s.la s.ln s.lc, .int .i64 s.pl]
def Sv.val (s : Sv) : Value := .agg #[.int .i64 s.x0, .int .i64 s.x1, .int .i64 s.x2, .slice s.la s.ln s.lc, .int .i64 s.pl]
abbrev Nd := Nat × Ad × Sv
theorem klt {k : Ad} {j : Nat} {u : Value} (h : k.cs[j]? = some u) : 0 + j < 8 := by
  have := (List.getElem?_eq_some_iff.1 h).1
  simp [Ad.cs] at this; omega
theorem vlt {v : Sv} {j : Nat} {u : Value} (h : v.cs[j]? = some u) : 3 + j < 8 := by
  have := (List.getElem?_eq_some_iff.1 h).1
  simp [Sv.cs] at this; omega
/-- These cells, one behind the other. -/
def CellsAt (w : World) (b o : Nat) (vs : List Value) : Prop := ∀ j u, vs[j]? = some u → w.cell? ⟨b, o + j, none⟩ = some u
theorem off_same (tb : Nat) : off tb tb = 2 := if_pos rfl
theorem off_other {tb x : Nat} (h : x ≠ tb) : off tb x = 0 := if_neg h
theorem ane {tb a b i j : Nat} (h : i ≠ j ∨ a ≠ b) : (⟨a, off tb a + i, none⟩ : Addr) ≠ ⟨b, off tb b + j, none⟩ := by
  intro e
  have e1 := congrArg Addr.block e
  have e2 := congrArg Addr.off e
  simp only at e1 e2
  subst e1
  rcases h with h | h
  · omega
  · exact h rfl
theorem ane0 {tb a i j : Nat} (hi : 8 ≤ i) (hj : j < 8) (b : Nat) : (⟨a, off tb a + i, none⟩ : Addr) ≠ ⟨b, j, none⟩ := by
  intro e
  have e2 := congrArg Addr.off e
  simp only at e2
  omega
/-- A plain block of cells. -/
def Shp (w : World) (x : Nat) : Prop := ∃ cs t, w.heap[x]? = some (.cells cs t (0, 0))
theorem Shp.frz {w : World} {x : Nat} (h : Shp w x) (j : Nat) : w.frozen? ⟨x, j, none⟩ = false := by
  obtain ⟨cs, t, h⟩ := h
  simp [World.frozen?, h]
theorem Shp.set {w : World} {x : Nat} (h : Shp w x) (a : Addr) (u : Value) : Shp (w.setCell a u) x := by
  obtain ⟨cs, t, h⟩ := h
  by_cases e : x = a.block
  · obtain ⟨hl, hk⟩ := Array.getElem?_eq_some_iff.1 h
    refine ⟨if a.spot.isSome = true then cs else cs.setIfInBounds a.off u, t, ?_⟩
    show (w.heap.modify a.block _)[x]? = _
    subst e
    rw [Array.getElem?_eq_getElem (by rw [Array.size_modify]; exact hl), Array.getElem_modify_self, hk]
  · exact ⟨cs, t, (Below.heap_setCell _ _ _ _ e).trans h⟩
theorem Shp.keep {w w' : World} {x : Nat} (h : Shp w x) (hb : w'.heap[x]? = w.heap[x]?) : Shp w' x := by obtain ⟨cs, t, h⟩ := h; exact ⟨cs, t, hb.trans h⟩
theorem Shp.drew {w : World} {x : Nat} (h : Shp w x) : Shp w.drew x := h
/-- The ring of the nodes of L, from the ends on. -/
structure TabAt (w : World) (tb bm : Nat) (most : Int) (L : List Nd) (nx la : Nat → Nat) : Prop where
  c0 : w.cell? ⟨tb, 0, none⟩ = some (.int .i64 most)
  c1 : w.cell? ⟨tb, 1, none⟩ = some (.map (some bm))
  key : ∀ p ∈ L, CellsAt w p.1 0 p.2.1.cs
  val : ∀ p ∈ L, CellsAt w p.1 3 p.2.2.cs
  lst : ∀ x, x = tb ∨ x ∈ L.map (·.1) → w.cell? ⟨x, off tb x + 8, none⟩ = some (ptr (la x) (off tb (la x)))
  nxt : ∀ x, x = tb ∨ x ∈ L.map (·.1) → w.cell? ⟨x, off tb x + 9, none⟩ = some (ptr (nx x) (off tb (nx x)))
  shp : ∀ x, x = tb ∨ x ∈ L.map (·.1) → Shp w x
  ring : Links nx la tb (L.map (·.1)) tb
  nd : (tb :: L.map (·.1)).Nodup
/-- A node that stands alone. -/
structure NodeAt (w : World) (n : Nat) (k : Ad) (v : Sv) : Prop where
  key : CellsAt w n 0 k.cs
  val : CellsAt w n 3 v.cs
  lst : ∃ u, w.cell? ⟨n, 8, none⟩ = some u
  nxt : ∃ u, w.cell? ⟨n, 9, none⟩ = some u
  shp : Shp w n
section
variable {w w' : World} {tb bm n : Nat} {most : Int} {v : Sv} {k : Ad} {L A B : List Nd} {p : Nd} {nx la : Nat → Nat}
theorem block_lt {b o : Nat} {u : Value} (h : w.cell? ⟨b, o, none⟩ = some u) : b < w.heap.size := World.block_lt_of_cell? w _ h
theorem TabAt.fr (h : TabAt w tb bm most L nx la) (x : Nat) (hx : x = tb ∨ x ∈ L.map (·.1)) (j : Nat) : w.frozen? ⟨x, j, none⟩ = false := (h.shp x hx).frz j
theorem NodeAt.fr (h : NodeAt w n k v) (j : Nat) : w.frozen? ⟨n, j, none⟩ = false := h.shp.frz j
theorem TabAt.lt (h : TabAt w tb bm most L nx la) (x : Nat) (hx : x = tb ∨ x ∈ L.map (·.1)) : x < w.heap.size := block_lt (h.lst x hx)
theorem NodeAt.lt (h : NodeAt w n k v) : n < w.heap.size := block_lt (h.key 0 _ rfl)
theorem TabAt.keep (h : TabAt w tb bm most L nx la) (hb : ∀ x, x = tb ∨ x ∈ L.map (·.1) → w'.heap[x]? = w.heap[x]?) : TabAt w' tb bm most L nx la := by
  have hc : ∀ x, x = tb ∨ x ∈ L.map (·.1) → ∀ j, w'.cell? ⟨x, j, none⟩ = w.cell? ⟨x, j, none⟩ := fun x hx j => World.cell?_of_block (hb x hx)
  have hf : ∀ x, x = tb ∨ x ∈ L.map (·.1) → ∀ j, w'.frozen? ⟨x, j, none⟩ = w.frozen? ⟨x, j, none⟩ := fun x hx j => World.frozen?_of_block (hb x hx)
  exact ⟨(hc _ (.inl rfl) _).trans h.c0, (hc _ (.inl rfl) _).trans h.c1, fun p hp j u hj => (hc _ (.inr (List.mem_map_of_mem hp)) _).trans (h.key p hp j u hj), fun p hp j u hj => (hc _ (.inr (List.mem_map_of_mem hp)) _).trans (h.val p hp j u hj), fun x hx => (hc x hx _).trans (h.lst x hx), fun x hx => (hc x hx _).trans (h.nxt x hx), fun x hx => (h.shp x hx).keep (hb x hx), h.ring, h.nd⟩
theorem NodeAt.keep (h : NodeAt w n k v) (hb : w'.heap[n]? = w.heap[n]?) : NodeAt w' n k v := by
  have hc : ∀ j, w'.cell? ⟨n, j, none⟩ = w.cell? ⟨n, j, none⟩ := fun j => World.cell?_of_block hb
  obtain ⟨u, hu⟩ := h.lst
  obtain ⟨u', hu'⟩ := h.nxt
  exact ⟨fun j u hj => (hc _).trans (h.key j u hj), fun j u hj => (hc _).trans (h.val j u hj), ⟨u, (hc _).trans hu⟩, ⟨u', (hc _).trans hu'⟩, h.shp.keep hb⟩
theorem TabAt.c01 (h : TabAt w tb bm most L nx la) (x : Nat) (hx : x = tb ∨ x ∈ L.map (·.1)) : x < w.heap.size := h.lt x hx
theorem out_T (h : TabAt w tb bm most (A ++ p :: B) nx la) :
    Calls Try.prog 52 #[nod p.1] w fun e w' => e = .returned (.tuple #[]) ∧ ∃ nx' la', TabAt w' tb bm most (A ++ B) nx' la' ∧ NodeAt w' p.1 p.2.1 p.2.2 ∧ Kept (fun x => x = tb ∨ x ∈ (A ++ p :: B).map (·.1)) w w' := by
  have hmp : p ∈ A ++ p :: B := by simp
  have hm : p.1 ∈ (A ++ p :: B).map (·.1) := List.mem_map_of_mem hmp
  have hnt : p.1 ≠ tb := fun e => (List.nodup_cons.1 h.nd).1 (e ▸ hm)
  have h2 := h.lst p.1 (.inr hm)
  have h3 := h.nxt p.1 (.inr hm)
  rw [off_other hnt] at h2 h3
  have hring := h.ring
  have hnd := h.nd
  rw [List.map_append, List.map_cons] at hring hnd
  obtain ⟨r1, r2⟩ := Links.app.1 hring
  have hla : la p.1 = tb ∨ la p.1 ∈ (A ++ B).map (·.1) := r1.la_mem.imp id (fun e => by rw [List.map_append]; exact List.mem_append_left _ e)
  have hnx : nx p.1 = tb ∨ nx p.1 ∈ (A ++ B).map (·.1) := r2.nx_mem.imp id (fun e => by rw [List.map_append]; exact List.mem_append_right _ e)
  have hin : ∀ x, x = tb ∨ x ∈ (A ++ B).map (·.1) → x = tb ∨ x ∈ (A ++ p :: B).map (·.1) := fun x hx => hx.imp id (fun e => by simp only [List.map_append, List.mem_append, List.map_cons, List.mem_cons] at e ⊢; rcases e with e | e; exact .inl e; exact .inr (.inr e))
  have hne : ∀ x, x = tb ∨ x ∈ (A ++ B).map (·.1) → x ≠ p.1 := by
    rintro x hx rfl
    rcases hx with e | e
    · exact hnt e
    · simp only [List.nodup_cons, List.nodup_append, List.map_append, List.mem_append, List.mem_cons] at hnd e
      rcases e with e | e
      · exact hnd.2.2.2 _ e _ (.inl rfl) rfl
      · exact hnd.2.2.1.1 e
  have hlp := hne _ hla
  have hnp := hne _ hnx
  refine (out_run h2 h3 (h.nxt _ (hin _ hla)) (h.lst _ (hin _ hnx)) (h.fr _ (hin _ hla) _) (h.fr _ (hin _ hnx) _)).mono ?_
  rintro e w' ⟨rfl, rfl⟩
  refine ⟨rfl, up nx (la p.1) (nx p.1), up la (nx p.1) (la p.1), ⟨?_, ?_, ?_, ?_, ?_, ?_, ?_, ?_, ?_⟩, ⟨?_, ?_, ?_, ?_, ?_⟩, ?_⟩
  · exact (cell_set (cell_set h.c0)).trans (by rw [if_neg (ane0 (by omega) (by omega) _), if_neg (ane0 (by omega) (by omega) _)])
  · exact (cell_set (cell_set h.c1)).trans (by rw [if_neg (ane0 (by omega) (by omega) _), if_neg (ane0 (by omega) (by omega) _)])
  · intro q hq
    have hq' : q ∈ A ++ p :: B := by simp only [List.mem_append, List.mem_cons] at hq ⊢; rcases hq with e | e; exact .inl e; exact .inr (.inr e)
    exact fun j u hj => (cell_set (cell_set (h.key q hq' j u hj))).trans (by rw [if_neg (ane0 (by omega) (klt hj) _), if_neg (ane0 (by omega) (klt hj) _)])
  · intro q hq
    have hq' : q ∈ A ++ p :: B := by simp only [List.mem_append, List.mem_cons] at hq ⊢; rcases hq with e | e; exact .inl e; exact .inr (.inr e)
    exact fun j u hj => (cell_set (cell_set (h.val q hq' j u hj))).trans (by rw [if_neg (ane0 (by omega) (vlt hj) _), if_neg (ane0 (by omega) (vlt hj) _)])
  · intro x hx
    refine (cell_set (cell_set (h.lst x (hin x hx)))).trans ?_
    by_cases e : x = nx p.1
    · subst e; rw [if_pos rfl, up_same]
    · rw [if_neg (ane (.inr (Ne.symm e))), if_neg (ane (.inl (by omega))), up_other _ e]
  · intro x hx
    refine (cell_set (cell_set (h.nxt x (hin x hx)))).trans ?_
    rw [if_neg (ane (.inl (by omega)))]
    by_cases e : x = la p.1
    · subst e; rw [if_pos rfl, up_same]
    · rw [if_neg (ane (.inr (Ne.symm e))), up_other _ e]
  · exact fun x hx => (((h.shp x (hin x hx)).set _ _).set _ _).drew
  · rw [List.map_append]; exact Links.out hring hnd
  · rw [List.map_append]
    simp only [List.nodup_cons, List.nodup_append, List.mem_append, List.mem_cons, not_or] at hnd ⊢
    exact ⟨⟨hnd.1.1, hnd.1.2.2⟩, hnd.2.1, hnd.2.2.1.2, fun a ha b hb => hnd.2.2.2 a ha b (.inr hb)⟩
  · exact fun j u hj => (cell_set (cell_set (h.key p hmp j u hj))).trans (by rw [if_neg (ane0 (by omega) (klt hj) _), if_neg (ane0 (by omega) (klt hj) _)])
  · exact fun j u hj => (cell_set (cell_set (h.val p hmp j u hj))).trans (by rw [if_neg (ane0 (by omega) (vlt hj) _), if_neg (ane0 (by omega) (vlt hj) _)])
  · exact ⟨_, cell_set (cell_set h2)⟩
  · exact ⟨_, cell_set (cell_set h3)⟩
  · exact (((h.shp _ (.inr hm)).set _ _).set _ _).drew
  · exact (((Kept.refl _ _).setCell (.inl (hin _ hla)) _).setCell (.inl (hin _ hnx)) _).drew
set_option maxHeartbeats 4000000 in
theorem front_T (h : TabAt w tb bm most L nx la) (hn : NodeAt w n k v) (hnm : n ∉ tb :: L.map (·.1)) :
    Calls Try.prog 53 #[.pointer (some ⟨tb, 0, none⟩), nod n] w fun e w' => e = .returned (.tuple #[]) ∧ ∃ nx' la', TabAt w' tb bm most ((n, k, v) :: L) nx' la' ∧ Kept (fun x => x = tb ∨ x = n ∨ x ∈ L.map (·.1)) w w' := by
  have hnt : n ≠ tb := fun e => hnm (by simp [e])
  have hnL : n ∉ L.map (·.1) := fun e => hnm (List.mem_cons_of_mem _ e)
  have h5 := h.nxt tb (.inl rfl)
  rw [off_same] at h5
  obtain ⟨u2, hu2⟩ := hn.lst
  obtain ⟨u3, hu3⟩ := hn.nxt
  have hnx : nx tb = tb ∨ nx tb ∈ L.map (·.1) := h.ring.nx_mem
  have hxn : ∀ x, x = tb ∨ x ∈ L.map (·.1) → x ≠ n := by
    rintro x hx rfl
    rcases hx with e | e
    · exact hnt e
    · exact hnL e
  refine (front_run h5 hu2 hu3 (h.lst _ hnx) (hn.fr _) (hn.fr _) (h.fr _ hnx _) (h.fr _ (.inl rfl) _) hnt (v1 := undef) (v5 := undef)).mono ?_
  rintro e w' ⟨rfl, rfl⟩
  have e2 : (⟨n, 8, none⟩ : Addr) = ⟨n, off tb n + 8, none⟩ := by rw [off_other hnt]
  have e3 : (⟨n, 9, none⟩ : Addr) = ⟨n, off tb n + 9, none⟩ := by rw [off_other hnt]
  have e5 : (⟨tb, 11, none⟩ : Addr) = ⟨tb, off tb tb + 9, none⟩ := by rw [off_same]
  have eo : ptr n 0 = ptr n (off tb n) := by rw [off_other hnt]
  have et : ptr tb 2 = ptr tb (off tb tb) := by rw [off_same]
  rw [e2, e3, e5, eo, et]
  rw [e2] at hu2
  rw [e3] at hu3
  have hold : ∀ a u, w.cell? a = some u → ∃ u', ((((w.setCell ⟨n, off tb n + 8, none⟩ (ptr tb (off tb tb))).setCell ⟨n, off tb n + 9, none⟩ (ptr (nx tb) (off tb (nx tb)))).setCell ⟨nx tb, off tb (nx tb) + 8, none⟩ (ptr n (off tb n))).setCell ⟨tb, off tb tb + 9, none⟩ (ptr n (off tb n))).drew.cell? a = some u' ∧
      u' = if (⟨tb, off tb tb + 9, none⟩ : Addr) = a then ptr n (off tb n) else if (⟨nx tb, off tb (nx tb) + 8, none⟩ : Addr) = a then ptr n (off tb n) else if (⟨n, off tb n + 9, none⟩ : Addr) = a then ptr (nx tb) (off tb (nx tb)) else if (⟨n, off tb n + 8, none⟩ : Addr) = a then ptr tb (off tb tb) else u :=
    fun a u hu => ⟨_, cell_set (cell_set (cell_set (cell_set hu))), rfl⟩
  have hlow : ∀ b j u, j < 8 → w.cell? ⟨b, j, none⟩ = some u → ((((w.setCell ⟨n, off tb n + 8, none⟩ (ptr tb (off tb tb))).setCell ⟨n, off tb n + 9, none⟩ (ptr (nx tb) (off tb (nx tb)))).setCell ⟨nx tb, off tb (nx tb) + 8, none⟩ (ptr n (off tb n))).setCell ⟨tb, off tb tb + 9, none⟩ (ptr n (off tb n))).drew.cell? ⟨b, j, none⟩ = some u := by
    intro b j u hj hu
    obtain ⟨u', h1, h2⟩ := hold _ _ hu
    rw [if_neg (ane0 (by omega) hj _), if_neg (ane0 (by omega) hj _), if_neg (ane0 (by omega) hj _), if_neg (ane0 (by omega) hj _)] at h2
    rw [h1, h2]
  have hnxn : nx tb ≠ n := hxn _ hnx
  refine ⟨rfl, up (up nx n (nx tb)) tb n, up (up la n tb) (nx tb) n, ⟨hlow _ _ _ (by omega) h.c0, hlow _ _ _ (by omega) h.c1, ?_, ?_, ?_, ?_, ?_, Links.front h.ring hnm h.nd, ?_⟩, ?_⟩
  · intro q hq
    rcases List.mem_cons.1 hq with rfl | hq
    · exact fun j u hj => hlow _ _ _ (klt hj) (hn.key j u hj)
    · exact fun j u hj => hlow _ _ _ (klt hj) (h.key q hq j u hj)
  · intro q hq
    rcases List.mem_cons.1 hq with rfl | hq
    · exact fun j u hj => hlow _ _ _ (vlt hj) (hn.val j u hj)
    · exact fun j u hj => hlow _ _ _ (vlt hj) (h.val q hq j u hj)
  · intro x hx
    by_cases e : x = n
    · subst e
      obtain ⟨u', h1, h2⟩ := hold _ _ hu2
      rw [if_neg (ane (.inl (by omega))), if_neg (ane (.inr hnxn)), if_neg (ane (.inl (by omega))), if_pos rfl] at h2
      rw [h1, h2, up_other _ (Ne.symm hnxn), up_same]
    · have hx' : x = tb ∨ x ∈ L.map (·.1) := hx.imp id (fun h => by simpa [e] using h)
      obtain ⟨u', h1, h2⟩ := hold _ _ (h.lst x hx')
      by_cases e2 : x = nx tb
      · subst e2
        rw [if_neg (ane (.inl (by omega))), if_pos rfl] at h2
        rw [h1, h2, up_same]
      · rw [if_neg (ane (.inl (by omega))), if_neg (ane (.inr (Ne.symm e2))), if_neg (ane (.inl (by omega))), if_neg (ane (.inr (Ne.symm e)))] at h2
        rw [h1, h2, up_other _ e2, up_other _ e]
  · intro x hx
    by_cases e : x = n
    · subst e
      obtain ⟨u', h1, h2⟩ := hold _ _ hu3
      rw [if_neg (ane (.inr (Ne.symm hnt))), if_neg (ane (.inl (by omega))), if_pos rfl] at h2
      rw [h1, h2, up_other _ hnt, up_same]
    · have hx' : x = tb ∨ x ∈ L.map (·.1) := hx.imp id (fun h => by simpa [e] using h)
      obtain ⟨u', h1, h2⟩ := hold _ _ (h.nxt x hx')
      by_cases e2 : x = tb
      · subst e2
        rw [if_pos rfl] at h2
        rw [h1, h2, up_same]
      · rw [if_neg (ane (.inr (Ne.symm e2))), if_neg (ane (.inl (by omega))), if_neg (ane (.inr (Ne.symm e))), if_neg (ane (.inl (by omega)))] at h2
        rw [h1, h2, up_other _ e2, up_other _ e]
  · intro x hx
    have h0 : Shp w x := by
      by_cases e : x = n
      · subst e; exact hn.shp
      · exact h.shp x (hx.imp id (fun h => by simpa [e] using h))
    exact ((((h0.set _ _).set _ _).set _ _).set _ _).drew
  · show (tb :: n :: L.map (·.1)).Nodup
    have := h.nd
    simp only [List.nodup_cons, List.mem_cons, not_or] at this ⊢
    exact ⟨⟨Ne.symm hnt, this.1⟩, hnL, this.2⟩
  · refine (((((Kept.refl _ _).setCell (.inl (.inr (.inl rfl))) _).setCell (.inl (.inr (.inl rfl))) _).setCell (.inl ?_) _).setCell (.inl (.inl rfl)) _).drew
    exact hnx.imp id .inr
end
end Go.Proofs.Yticijejnemnmlaa.If
