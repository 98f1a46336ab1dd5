/- A ring of links, plainly. -/
namespace Go.Proofs.Yticijejnemnmlaa.If
set_option linter.unusedSimpArgs false
set_option linter.unusedVariables false
def up (f : Nat → Nat) (i j : Nat) (x : Nat) : Nat := if x = i then j else f x
theorem up_same (f : Nat → Nat) (i j : Nat) : up f i j i = j := if_pos rfl
theorem up_other (f : Nat → Nat) {i j x : Nat} (h : x ≠ i) : up f i j x = f x := if_neg h
/-- From a over these to b: next one way, last the other. -/
def Links (nx la : Nat → Nat) : Nat → List Nat → Nat → Prop
  | a, [], b => nx a = b ∧ la b = a
  | a, n :: ns, b => nx a = n ∧ la n = a ∧ Links nx la n ns b
section
variable {nx la nx' la' : Nat → Nat} {a b n t : Nat} {A B L : List Nat}
theorem Links.app : Links nx la a (A ++ n :: B) b ↔ Links nx la a A n ∧ Links nx la n B b := by
  induction A generalizing a with
  | nil => exact ⟨fun ⟨h1, h2, h3⟩ => ⟨⟨h1, h2⟩, h3⟩, fun ⟨⟨h1, h2⟩, h3⟩ => ⟨h1, h2, h3⟩⟩
  | cons c A ih => exact ⟨fun ⟨h1, h2, h3⟩ => ⟨⟨h1, h2, (ih.1 h3).1⟩, (ih.1 h3).2⟩, fun ⟨⟨h1, h2, h3⟩, h4⟩ => ⟨h1, h2, ih.2 ⟨h3, h4⟩⟩⟩
theorem Links.congr (h : Links nx la a L b) (h1 : ∀ x, x = a ∨ x ∈ L → nx' x = nx x) (h2 : ∀ x, x ∈ L ∨ x = b → la' x = la x) : Links nx' la' a L b := by
  induction L generalizing a with
  | nil => exact ⟨(h1 a (.inl rfl)).trans h.1, (h2 b (.inr rfl)).trans h.2⟩
  | cons c L ih =>
    obtain ⟨k1, k2, k3⟩ := h
    exact ⟨(h1 a (.inl rfl)).trans k1, (h2 c (.inl (by simp))).trans k2, ih k3 (fun x hx => h1 x (.inr (by simpa using hx))) (fun x hx => h2 x (hx.imp (fun h => List.mem_cons_of_mem _ h) id))⟩
/-- The last of the chain. -/
theorem Links.la_mem (h : Links nx la a L b) : la b = a ∨ la b ∈ L := by
  induction L generalizing a with
  | nil => exact .inl h.2
  | cons c L ih => rcases ih h.2.2 with e | e
                   · exact .inr (by simp [e])
                   · exact .inr (by simp [e])
theorem Links.nx_mem (h : Links nx la a L b) : nx a = b ∨ nx a ∈ L := by
  cases L with
  | nil => exact .inl h.1
  | cons c L => exact .inr (by simp [h.1])
theorem Links.out (h : Links nx la t (A ++ n :: B) t) (hd : (t :: (A ++ n :: B)).Nodup) : Links (up nx (la n) (nx n)) (up la (nx n) (la n)) t (A ++ B) t := by
  obtain ⟨h1, h2⟩ := Links.app.1 h
  have hn : ∀ x, x ∈ A → x ∉ B ∧ x ≠ t ∧ x ≠ n := by
    intro x hx
    simp only [List.nodup_cons, List.nodup_append, List.mem_append, List.mem_cons] at hd
    obtain ⟨d1, d2, d3, d4⟩ := hd
    exact ⟨fun e => d4 x hx x (.inr e) rfl, fun e => d1 (.inl (e ▸ hx)), fun e => d4 x hx n (.inl rfl) e⟩
  have hm : ∀ x, x ∈ B → x ≠ t ∧ x ≠ n := by
    intro x hx
    simp only [List.nodup_cons, List.nodup_append, List.mem_append, List.mem_cons] at hd
    obtain ⟨d1, d2, ⟨d3, d5⟩, d4⟩ := hd
    exact ⟨fun e => d1 (.inr (.inr (e ▸ hx))), fun e => d3 (e ▸ hx)⟩
  have hnd : A.Nodup ∧ B.Nodup := by
    simp only [List.nodup_cons, List.nodup_append] at hd
    exact ⟨hd.2.1, hd.2.2.1.2⟩
  -- the part before, the part behind
  rcases List.eq_nil_or_concat A with rfl | ⟨A', p, rfl⟩
  · obtain ⟨e1, e2⟩ := h1
    rw [e2]
    cases B with
    | nil =>
      obtain ⟨f1, f2⟩ := h2
      exact ⟨by rw [up_same, f1], by rw [f1, up_same]⟩
    | cons s B' =>
      obtain ⟨f1, f2, f3⟩ := h2
      rw [f1]
      refine ⟨up_same _ _ _, up_same _ _ _, f3.congr (fun x hx => up_other _ ?_) (fun x hx => up_other _ ?_)⟩
      · exact (hm x (by simpa using hx)).1
      · rintro rfl
        rcases hx with hx | hx
        · exact (List.nodup_cons.1 hnd.2).1 hx
        · exact (hm x (by simp)).1 hx
  · simp only [List.concat_eq_append] at *
    obtain ⟨g1, g2⟩ := (Links.app (B := [])).1 h1
    obtain ⟨e1, e2⟩ := g2
    rw [e2]
    have hp := hn p (by simp)
    have hA' : p ∉ A' := by
      have := hnd.1
      simp only [List.nodup_append, List.mem_cons] at this
      intro e
      exact this.2.2 p e p (.inl rfl) rfl
    cases B with
    | nil =>
      obtain ⟨f1, f2⟩ := h2
      rw [f1, List.append_nil]
      refine Links.app.2 ⟨g1.congr (fun x hx => up_other _ ?_) (fun x hx => up_other _ ?_), up_same _ _ _, up_same _ _ _⟩
      · rintro rfl
        rcases hx with e | e
        · exact hp.2.1 e
        · exact hA' e
      · rintro rfl
        rcases hx with e | e
        · exact (hn x (by simp [e])).2.1 rfl
        · exact hp.2.1 e.symm
    | cons s B' =>
      obtain ⟨f1, f2, f3⟩ := h2
      rw [f1, List.append_assoc]
      have hs := hm s (by simp)
      refine Links.app.2 ⟨g1.congr (fun x hx => up_other _ ?_) (fun x hx => up_other _ ?_), up_same _ _ _, up_same _ _ _, f3.congr (fun x hx => up_other _ ?_) (fun x hx => up_other _ ?_)⟩
      · rintro rfl
        rcases hx with e | e
        · exact hp.2.1 e
        · exact hA' e
      · rintro rfl
        rcases hx with e | e
        · exact (hn x (by simp [e])).1 (by simp)
        · exact hp.1 (by simp [← e])
      · rintro rfl
        exact hp.1 (by simpa using hx)
      · rintro rfl
        rcases hx with e | e
        · exact (List.nodup_cons.1 hnd.2).1 e
        · exact hs.1 e
theorem Links.front (h : Links nx la t L t) (hn : n ∉ t :: L) (hd : (t :: L).Nodup) : Links (up (up nx n (nx t)) t n) (up (up la n t) (nx t) n) t (n :: L) t := by
  simp only [List.mem_cons, not_or] at hn
  have hnt : nx t ≠ n := by
    rcases h.nx_mem with e | e
    · rw [e]; exact Ne.symm hn.1
    · intro e2; rw [e2] at e; exact hn.2 e
  refine ⟨up_same _ _ _, by rw [up_other _ (Ne.symm hnt), up_same], ?_⟩
  cases L with
  | nil =>
    obtain ⟨e1, e2⟩ := h
    rw [e1]
    exact ⟨by rw [up_other _ hn.1, up_same], up_same _ _ _⟩
  | cons s L' =>
    obtain ⟨e1, e2, e3⟩ := h
    rw [e1]
    have hs : s ≠ t := fun e => (List.nodup_cons.1 hd).1 (by simp [e])
    have ht : t ∉ L' := fun e => (List.nodup_cons.1 hd).1 (by simp [e])
    have hs2 : s ∉ L' := (List.nodup_cons.1 (List.nodup_cons.1 hd).2).1
    refine ⟨by rw [up_other _ hn.1, up_same], up_same _ _ _, e3.congr (fun x hx => ?_) (fun x hx => ?_)⟩
    · have hx1 : x ≠ t := by rcases hx with e | e; exact e ▸ hs; exact fun e2 => ht (e2 ▸ e)
      have hx2 : x ≠ n := by rintro rfl; exact hn.2 (by simpa using hx)
      rw [up_other _ hx1, up_other _ hx2]
    · have hx1 : x ≠ s := by rcases hx with e | e; exact fun e2 => hs2 (e2 ▸ e); exact fun e2 => hs (e2.symm.trans e)
      have hx2 : x ≠ n := by
        rintro rfl
        rcases hx with e | e
        · exact hn.2 (by simp [e])
        · exact hn.1 e
      rw [up_other _ hx1, up_other _ hx2]
end
end Go.Proofs.Yticijejnemnmlaa.If
