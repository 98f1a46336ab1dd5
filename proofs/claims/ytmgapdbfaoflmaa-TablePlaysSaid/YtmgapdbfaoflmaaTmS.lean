/- A heap of what is due, against the list in its order: plain law. -/
import Derived.Test.YtmgapdbfaoflmaaTmH
namespace Go.Proofs.Ytmgapdbfaoflmaa.Tm
set_option linter.unusedSimpArgs false
set_option linter.unusedVariables false

/-- What Cancel leaves of the heap, the item at i taken away. -/
def cancelL (l : List It) (i : Nat) : List It :=
  let l1 := (swapL l i (l.length - 1)).dropLast
  if i < l.length - 1 then downF (upF l1 i) i else l1
theorem g_cut {l : List It} {i : Nat} (hi : i < l.length) {j : Nat} (hj : j < l.length - 1) : g (swapL l i (l.length - 1)).dropLast j = if j = i then g l (l.length - 1) else g l j := by
  rw [g_dropLast (by simpa using hj), g_swapL hi (by omega), if_neg (by omega)]
theorem snoc_g {l : List It} (h : 0 < l.length) : l = l.dropLast ++ [g l (l.length - 1)] := by
  have hne : l ≠ [] := fun e => by subst e; simp at h
  rw [g_eq (by omega)]
  have := (List.dropLast_concat_getLast hne).symm
  rw [List.getLast_eq_getElem] at this
  exact this
theorem cut_perm {l : List It} {i : Nat} (hi : i < l.length) : (g l i :: (swapL l i (l.length - 1)).dropLast).Perm l := by
  have h1 := snoc_g (l := swapL l i (l.length - 1)) (by simp; omega)
  rw [swapL_length, g_swapL hi (by omega), if_pos rfl] at h1
  have h2 := swapL_perm (k := l.length - 1) hi (by omega)
  rw [h1] at h2
  exact (List.perm_append_singleton _ _).symm.trans h2
theorem cancelL_spec {l : List It} {i : Nat} (hH : Heap l) (hi : i < l.length) : Heap (cancelL l i) ∧ (g l i :: cancelL l i).Perm l := by
  unfold cancelL
  simp only []
  by_cases hlast : i < l.length - 1
  · rw [if_pos hlast]
    obtain ⟨l1, hl1⟩ : ∃ l1, (swapL l i (l.length - 1)).dropLast = l1 := ⟨_, rfl⟩
    have hg : ∀ j, j < l.length - 1 → g l1 j = if j = i then g l (l.length - 1) else g l j := fun j hj => by rw [← hl1]; exact g_cut hi hj
    have hlen : l1.length = l.length - 1 := by rw [← hl1]; simp
    have hp := cut_perm hi
    rw [hl1] at hp ⊢
    have hjp : ∀ j, 0 < j → j < l1.length → (j - 1) / 2 ≠ i → j ≠ i → ¬ lt (g l1 j) (g l1 ((j - 1) / 2)) := by
      intro j h0 hj hp hne
      rw [hg j (by omega), hg _ (by omega), if_neg hne, if_neg hp]
      exact hH j h0 (by omega)
    have hkid : ∀ j, 0 < j → j < l1.length → (j - 1) / 2 = i → 0 < i → ¬ lt (g l1 j) (g l1 ((i - 1) / 2)) := by
      intro j h0 hj hp hi0
      rw [hg j (by omega), hg _ (by omega), if_neg (by omega), if_neg (by omega)]
      have h1 := hH j h0 (by omega)
      rw [hp] at h1
      exact le_trans' (hH i hi0 (by omega)) h1
    by_cases hup : 0 < i ∧ lt (g l1 i) (g l1 ((i - 1) / 2))
    · have hu : UpInv l1 i := by
        refine ⟨fun j h0 hj hne => ?_, hkid⟩
        by_cases e : (j - 1) / 2 = i
        · rw [e]
          have h1 := hkid j h0 hj e hup.1
          exact fun hh => h1 (lt_trans hh hup.2)
        · exact hjp j h0 hj e hne
      obtain ⟨h1, h2⟩ := upF_spec i l1 (by omega) hu
      obtain ⟨h3, h4⟩ := downF_spec _ (upF l1 i) i (Nat.le_refl _) (by rw [upF_length _ _ (by omega)]; omega) (h1.down i)
      exact ⟨h3, ((h4.trans h2).cons _).trans hp⟩
    · have hu : upF l1 i = l1 := by rw [upF, if_neg hup]
      rw [hu]
      obtain ⟨h3, h4⟩ := downF_spec _ l1 i (Nat.le_refl _) (by omega) ⟨fun j h0 hj hne => by
        by_cases e : j = i
        · subst e; exact fun hh => hup ⟨h0, hh⟩
        · exact hjp j h0 hj hne e, hkid⟩
      exact ⟨h3, (h4.cons _).trans hp⟩
  · rw [if_neg hlast]
    refine ⟨fun j h0 hj => ?_, cut_perm hi⟩
    simp at hj
    rw [g_cut hi (by omega), g_cut hi (by omega), if_neg (by omega), if_neg (by omega)]
    exact hH j h0 (by omega)
theorem pushL_spec {l : List It} (x : It) (hH : Heap l) : Heap (upF (l ++ [x]) l.length) ∧ (upF (l ++ [x]) l.length).Perm (x :: l) := by
  obtain ⟨h1, h2⟩ := upF_spec l.length (l ++ [x]) (by simp) ⟨fun j h0 hj hne => by
    simp at hj
    rw [g_append, g_append, if_pos (by omega), if_pos (by omega)]
    exact hH j h0 (by omega), fun j h0 hj hp _ => by simp at hj; omega⟩
  exact ⟨h1, h2.trans (List.perm_append_singleton _ _)⟩

/-! ### the list in its order -/
def Srt (S : List It) : Prop := S.Pairwise lt
theorem Srt.ext {S T : List It} (h : Srt S) (k : Srt T) (hp : S.Perm T) : S = T :=
  hp.eq_of_pairwise (fun a b _ _ h1 h2 => (lt_asymm h1 h2).elim) h k
/-- l is a heap that holds just what S does, S in its order. -/
structure Rel (l S : List It) : Prop where
  perm : l.Perm S
  srt : Srt S
  heap : Heap l
def eraseS (S : List It) (id : Int) : List It := S.eraseP (fun p => p.1 == id)
def insS (S : List It) (x : It) : List It := S.takeWhile (fun p => decide (lt p x)) ++ x :: S.dropWhile (fun p => decide (lt p x))
def dueS (S : List It) (now : Int) : List It := S.takeWhile (fun p => decide (p.2 ≤ now))
def restS (S : List It) (now : Int) : List It := S.dropWhile (fun p => decide (p.2 ≤ now))

theorem eraseS_split {S : List It} {id : Int} {p : It} (hp : p ∈ S) (he : p.1 = id) (ha : S.Pairwise (fun a b => a.1 ≠ b.1)) : ∃ A B, S = A ++ p :: B ∧ eraseS S id = A ++ B := by
  obtain ⟨a, A, B, h1, h2, h3, h4⟩ := List.exists_of_eraseP (p := fun p : It => p.1 == id) hp (by simpa using he)
  have h2' : a.1 = id := by simpa using h2
  refine ⟨A, B, ?_, h4⟩
  have : a = p := by
    rw [h3] at hp ha
    rw [List.pairwise_append] at ha
    rcases List.mem_append.1 hp with h5 | h5
    · exact (ha.2.2 p h5 a (by simp) (by rw [he, h2'])).elim
    · rcases List.mem_cons.1 h5 with h6 | h6
      · exact h6.symm
      · exact ((List.pairwise_cons.1 ha.2.1).1 p h6 (by rw [he, h2'])).elim
  rw [h3, this]
theorem eraseS_none {S : List It} {id : Int} (h : ∀ p ∈ S, p.1 ≠ id) : eraseS S id = S := by
  unfold eraseS
  exact List.eraseP_of_forall_not (fun a ha => by simpa using h a ha)
theorem eraseS_gone {S : List It} (h : S.Pairwise (fun a b => a.1 ≠ b.1)) (id : Int) : ∀ p ∈ eraseS S id, p.1 ≠ id := by
  intro p hp e
  by_cases hx : ∃ q ∈ S, q.1 = id
  · obtain ⟨q, hq, he⟩ := hx
    obtain ⟨A, B, hS, hE⟩ := eraseS_split hq he h
    rw [hE] at hp
    rw [hS, List.pairwise_append] at h
    rcases List.mem_append.1 hp with h1 | h1
    · exact h.2.2 p h1 q (by simp) (by rw [e, he])
    · exact (List.pairwise_cons.1 h.2.1).1 p h1 (by rw [e, he])
  · exact hx ⟨p, (List.eraseP_sublist).mem hp, e⟩
theorem Srt.erase {S : List It} (h : Srt S) (id : Int) : Srt (eraseS S id) := h.sublist (List.eraseP_sublist)
theorem PL.distinct {f : Int → Option Nat} {l : List It} (h : PL f l) : l.Pairwise (fun a b => a.1 ≠ b.1) := by
  rw [List.pairwise_iff_getElem]
  intro i j hi hj hij e
  have := h.apart hi hj (by rw [g_eq hi, g_eq hj]; exact e)
  omega
theorem distinct_perm {l S : List It} (hp : l.Perm S) (h : l.Pairwise (fun a b => a.1 ≠ b.1)) : S.Pairwise (fun a b => a.1 ≠ b.1) :=
  (hp.pairwise_iff (fun {_ _} hne => Ne.symm hne)).1 h
theorem PL.none_iff {f : Int → Option Nat} {l : List It} (h : PL f l) (id : Int) : f id = none ↔ ∀ p ∈ l, p.1 ≠ id := by
  constructor
  · intro hn p hp e
    obtain ⟨k, hk, rfl⟩ := List.getElem_of_mem hp
    have := (h id k).2 ⟨hk, by rw [g_eq hk]; exact e⟩
    rw [hn] at this; cases this
  · intro hn
    cases hf : f id with
    | none => rfl
    | some k =>
      obtain ⟨hk, e⟩ := (h id k).1 hf
      rw [g_eq hk] at e
      exact (hn _ (List.getElem_mem hk) e).elim
theorem Rel.cancel {f : Int → Option Nat} {l S : List It} (h : Rel l S) (hf : PL f l) {id : Int} {i : Nat} (hi : f id = some i) : Rel (cancelL l i) (eraseS S id) := by
  obtain ⟨hil, he⟩ := (hf id i).1 hi
  obtain ⟨h1, h2⟩ := cancelL_spec h.heap hil
  have hm : g l i ∈ S := h.perm.mem_iff.1 (by rw [g_eq hil]; exact List.getElem_mem hil)
  obtain ⟨A, B, hS, hE⟩ := eraseS_split hm he (distinct_perm h.perm hf.distinct)
  refine ⟨?_, h.srt.erase id, h1⟩
  have h3 := h2.trans h.perm
  rw [hS] at h3
  rw [hE]
  exact (h3.trans List.perm_middle).cons_inv
theorem Rel.cancel_none {f : Int → Option Nat} {l S : List It} (h : Rel l S) (hf : PL f l) {id : Int} (hi : f id = none) : eraseS S id = S :=
  eraseS_none fun p hp => (hf.none_iff id).1 hi p (h.perm.mem_iff.2 hp)

theorem insS_perm (S : List It) (x : It) : (insS S x).Perm (x :: S) := by
  unfold insS
  refine List.perm_middle.trans ?_
  rw [List.takeWhile_append_dropWhile]
theorem takeW {S : List It} (h : Srt S) (x : It) : (∀ p ∈ S.takeWhile (fun p => decide (lt p x)), lt p x) ∧ (∀ p ∈ S.dropWhile (fun p => decide (lt p x)), ¬ lt p x) := by
  induction S with
  | nil => simp
  | cons a S ih =>
    have h1 := List.pairwise_cons.1 h
    have ih := ih h1.2
    by_cases ha : lt a x
    · rw [List.takeWhile_cons_of_pos (by simpa using ha), List.dropWhile_cons_of_pos (by simpa using ha)]
      exact ⟨fun p hp => by rcases List.mem_cons.1 hp with rfl | hp; exact ha; exact ih.1 p hp, ih.2⟩
    · rw [List.takeWhile_cons_of_neg (by simpa using ha), List.dropWhile_cons_of_neg (by simpa using ha)]
      refine ⟨by simp, fun p hp => ?_⟩
      rcases List.mem_cons.1 hp with rfl | hp
      · exact ha
      · exact fun hh => ha (lt_trans (h1.1 p hp) hh)
theorem insS_srt {S : List It} (h : Srt S) (x : It) (hx : ∀ p ∈ S, p.1 ≠ x.1) : Srt (insS S x) := by
  obtain ⟨h1, h2⟩ := takeW h x
  have hd := h
  unfold Srt at hd
  rw [← List.takeWhile_append_dropWhile (p := fun p => decide (lt p x)) (l := S), List.pairwise_append] at hd
  unfold Srt insS
  rw [List.pairwise_append, List.pairwise_cons]
  have hgt : ∀ p ∈ S.dropWhile (fun p => decide (lt p x)), lt x p := fun p hp => lt_tri (h2 p hp) (hx p ((List.dropWhile_sublist _).mem hp))
  refine ⟨hd.1, ⟨hgt, hd.2.1⟩, fun p hp q hq => ?_⟩
  rcases List.mem_cons.1 hq with rfl | hq
  · exact h1 p hp
  · exact hd.2.2 p hp q hq
theorem Rel.push {f : Int → Option Nat} {l S : List It} (h : Rel l S) (hf : PL f l) {id at' : Int} (hn : f id = none) : Rel (upF (l ++ [(id, at')]) l.length) (insS S (id, at')) := by
  obtain ⟨h1, h2⟩ := pushL_spec (id, at') h.heap
  refine ⟨h2.trans ((h.perm.cons _).trans (insS_perm _ _).symm), insS_srt h.srt _ fun p hp => ?_, h1⟩
  exact (hf.none_iff id).1 hn p (h.perm.mem_iff.2 hp)
theorem Rel.head {l S : List It} (h : Rel l S) (h0 : 0 < l.length) : ∃ T, S = g l 0 :: T := by
  cases S with
  | nil => have := h.perm.length_eq; simp only [List.length_nil] at this; omega
  | cons a T =>
    refine ⟨T, ?_⟩
    have hm : g l 0 ∈ a :: T := h.perm.mem_iff.1 (by rw [g_eq h0]; exact List.getElem_mem h0)
    have ha : a ∈ l := h.perm.mem_iff.2 (by simp)
    obtain ⟨k, hk, hka⟩ := List.getElem_of_mem ha
    have hmin := h.heap.min k hk
    rw [g_eq hk, hka] at hmin
    rcases List.mem_cons.1 hm with h1 | h1
    · rw [h1]
    · exact (hmin ((List.pairwise_cons.1 h.srt).1 _ h1)).elim
theorem Rel.nil : Rel [] [] := ⟨List.Perm.refl _, List.Pairwise.nil, fun j h0 hj => by simp at hj⟩
theorem eraseS_head (a : It) (T : List It) : eraseS (a :: T) a.1 = T := by simp [eraseS]
theorem Rel.length {l S : List It} (h : Rel l S) : l.length = S.length := h.perm.length_eq
theorem eraseS_length_le (S : List It) (id : Int) : (eraseS S id).length ≤ S.length := (List.eraseP_sublist).length_le
theorem insS_length (S : List It) (x : It) : (insS S x).length = S.length + 1 := by have := (insS_perm S x).length_eq; simpa using this
end Go.Proofs.Ytmgapdbfaoflmaa.Tm
