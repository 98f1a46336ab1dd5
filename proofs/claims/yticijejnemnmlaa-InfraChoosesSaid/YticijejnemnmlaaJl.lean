/- Slices of deeds and of addresses that came in; InfraApart for its row. -/
import Derived.Test.YticijejnemnmlaaJi
namespace Go.Proofs.Yticijejnemnmlaa.If
open Go.RowKit Rt
set_option linter.unusedSimpArgs false
set_option linter.unusedVariables false
section
variable {H : Type} {enc : TypeId × Value → H} {W : World} {d : DataW H} {ps : List MemPlace}
open Go.ChangeShapes Go.WideShapes Go.ChangeAt
theorem mem_weightsAll {P : Program} {e : TypeId} {x : DataW H} {m : Nat} (hm : m ∈ x.weights P e) : ∀ {l : List (DataW H)}, x ∈ l → m ∈ DataW.weightsAll P e l
  | y :: l, h => by
    unfold DataW.weightsAll
    rcases List.mem_cons.1 h with rfl | h
    · exact List.mem_append_left _ hm
    · exact List.mem_append_right _ (mem_weightsAll hm h)
/-- A row's address has no spot. -/
theorem spot_none {A : Addr} {v : Value} {w : World} (h : w.cell? A = some v) : A.spot = none := by
  unfold World.cell? at h
  split at h
  · obtain ⟨b, off, spot⟩ := A
    cases spot with
    | none => rfl
    | some s => simp at h
  · simp at h
set_option maxRecDepth 100000 in
theorem open_deeds {a : Option Addr} {n c : Nat} (h : DataW.Trod enc Try.prog W 0 (fun _ => true) true 22 (.slice a n c) d ps) (hw : ∀ m, m ∈ d.weights Try.prog 22 → m ≤ reachBytes) :
    n ≤ c ∧ c ≤ maxLen ∧ ∃ f, RowDe W a n f := by
  obtain ⟨fuel, hf⟩ := h
  have ce : Try.prog.cellsOf 33 = 8 := by kernel_rfl
  have c3 : Try.prog.cellsOf 3 = 1 := by kernel_rfl
  have c9 : Try.prog.cellsOf 9 = 1 := by kernel_rfl
  have c31 : Try.prog.cellsOf 31 = 3 := by kernel_rfl
  have c23 : Try.prog.cellsOf 23 = 1 := by kernel_rfl
  have hr : reachBytes = 140737488351232 := by decide
  rcases Go.Deep.open_slice Try.underlying22 hf with ⟨hcs, _⟩ | ⟨A, len, cap, m, n', D, Pl, hcs, hb, hl, hm, hmm, hx, hel⟩
  · simp [Value.cells] at hcs
    obtain ⟨rfl, rfl, rfl⟩ := hcs
    exact ⟨Nat.le_refl _, by unfold maxLen; omega, fun _ => ⟨0, ⟨false, 0, 0⟩, ⟨#[]⟩, 0, 0⟩, fun j hj => by omega⟩
  · simp [Value.cells] at hcs
    obtain ⟨rfl, rfl, rfl⟩ := hcs
    simp at hmm
    subst hmm
    refine ⟨hl, hm, ?_⟩
    have hd : d = .slice ((List.range n).map D) ((List.range (m - n)).map fun j => D (n + j)) := congrArg Prod.fst hx
    have hone : ∀ j, ∃ e : De, j < n → e.a.ok ∧ wf e.k ∧ wf e.n ∧ wf e.now ∧ e.z.size ≤ 140737488351232 ∧ ∃ b off la ln lc, (some A : Option Addr) = some ⟨b, off, none⟩ ∧ b < W.heap.size ∧
        W.cell? ⟨b, off + j * 8, none⟩ = some (.int .i64 e.k) ∧ W.cell? ⟨b, off + j * 8 + 1, none⟩ = some (.bool e.a.v6) ∧ W.cell? ⟨b, off + j * 8 + 2, none⟩ = some (.int .u64 e.a.hi) ∧ W.cell? ⟨b, off + j * 8 + 3, none⟩ = some (.int .u64 e.a.lo) ∧
        W.cell? ⟨b, off + j * 8 + 4, none⟩ = some (.string e.z) ∧ W.cell? ⟨b, off + j * 8 + 5, none⟩ = some (.int .i64 e.n) ∧ W.cell? ⟨b, off + j * 8 + 6, none⟩ = some (.int .i64 e.now) ∧ W.cell? ⟨b, off + j * 8 + 7, none⟩ = some (.slice la ln lc) := by
      intro j
      by_cases hj : j < n
      · obtain ⟨cs', h1, h2⟩ := hel j (by omega)
        rw [ce] at h1
        obtain ⟨_, hlen, hcell⟩ := World.cells?_some h1
        obtain ⟨xs, k, hk, hxy, _, hxl, hf'⟩ := DataW.trod_struct Try.underlying33 h2
        match xs, hxl, cs', hlen with
        | [y0, y1, y2, y3, y4, y5], _, [v0, v1, v2, v3, v4, v5, v6, v7], _ =>
          have g0 := hf' 0 _ rfl
          have g1 := hf' 1 _ rfl
          have g2 := hf' 2 _ rfl
          have g3 := hf' 3 _ rfl
          have g4 := hf' 4 _ rfl
          have g5 := hf' 5 _ rfl
          simp [c3, c9, c31, c23] at g0 g1 g2 g3 g4 g5
          obtain ⟨x0, q0, _, w0⟩ := DataW.trod_int Try.underlying3 g0
          obtain ⟨ad, rfl, rfl, rfl, hok⟩ := cells31 g1
          obtain ⟨s, q4, hDs, _⟩ := DataW.trod_string Try.underlying9 g2
          obtain ⟨x5, q5, _, w5⟩ := DataW.trod_int Try.underlying3 g3
          obtain ⟨x6, q6, _, w6⟩ := DataW.trod_int Try.underlying3 g4
          have q7 : ∃ la ln lc, v7 = .slice la ln lc := by
            rcases Go.Deep.open_slice Try.underlying23 g5 with ⟨h, _⟩ | ⟨A', l', c', _, _, _, _, h, _⟩
            · simp at h; exact ⟨_, _, _, h⟩
            · simp at h; exact ⟨_, _, _, h⟩
          obtain ⟨la, ln, lc, rfl⟩ := q7
          simp at q0 q4 q5 q6
          subst q0 q4 q5 q6
          have hDj : D j = .agg [y0.1, y1.1, y2.1, y3.1, y4.1, y5.1] := congrArg Prod.fst hxy
          have hDs' : y2.1 = .lit (.string s.data.toList) := congrArg Prod.fst hDs
          have hmw : s.data.toList.length ∈ (D j).weights Try.prog 33 := by
            rw [hDj, hDs']
            unfold DataW.weights
            rw [Try.underlying33]
            simp only [List.map_cons, List.map_nil, DataW.weightsEach, List.mem_append]
            exact .inr (.inr (.inl (List.mem_singleton.2 rfl)))
          have hin : (D j) ∈ (List.range n).map D := List.mem_map_of_mem (List.mem_range.2 hj)
          have hsz := hw s.data.toList.length (by
            rw [hd]
            unfold DataW.weights
            rw [Try.underlying22]
            exact List.mem_cons_of_mem _ (List.mem_append_left _ (mem_weightsAll hmw hin)))
          rw [hr] at hsz
          have e2 : s.data.toList.length = s.size := Array.length_toList
          rw [e2] at hsz
          have k0 := hcell 0 (by simp)
          obtain ⟨b, off, spot⟩ := A
          have hsp : spot = none := by
            obtain ⟨cs0, m1, _⟩ := hel 0 (by omega)
            rw [ce] at m1
            obtain ⟨_, hl0, mc⟩ := World.cells?_some m1
            have m0 := mc 0 (by omega)
            have e : (Addr.add (Addr.add ⟨b, off, spot⟩ (0 * 8)) 0) = ⟨b, off, spot⟩ := by simp [Addr.add]
            rw [e] at m0
            match cs0, hl0 with
            | [a0, a1, a2, a3, a4, a5, a6, a7], _ => exact spot_none m0
          subst hsp
          have k1 := hcell 1 (by simp)
          have k2 := hcell 2 (by simp)
          have k3 := hcell 3 (by simp)
          have k4 := hcell 4 (by simp)
          have k5 := hcell 5 (by simp)
          have k6 := hcell 6 (by simp)
          have k7 := hcell 7 (by simp)
          simp only [Addr.add_lit] at k0 k1 k2 k3 k4 k5 k6 k7
          exact ⟨⟨x0, ad, s, x5, x6⟩, fun _ => ⟨hok, wf_of w0, wf_of w5, wf_of w6, hsz, b, off, la, ln, lc, rfl, World.block_lt_of_cell? W _ k0, k0, k1, k2, k3, k4, k5, k6, k7⟩⟩
      · exact ⟨⟨0, ⟨false, 0, 0⟩, ⟨#[]⟩, 0, 0⟩, fun h => absurd h hj⟩
    exact ⟨fun j => Classical.choose (hone j), fun j hj => Classical.choose_spec (hone j) hj⟩
set_option maxRecDepth 100000 in
theorem open_addrs {a : Option Addr} {n c : Nat} (h : DataW.Trod enc Try.prog W 0 (fun _ => true) true 23 (.slice a n c) d ps) (hw : ∀ m, m ∈ d.weights Try.prog 23 → m ≤ reachBytes) :
    n ≤ c ∧ c ≤ maxLen ∧ ∃ l, ArgA W (.slice a n c) l ∧ (∀ x ∈ l, x.ok) ∧ l.length < 5864062014720 := by
  obtain ⟨fuel, hf⟩ := h
  have ce : Try.prog.cellsOf 31 = 3 := by kernel_rfl
  have hr : reachBytes = 140737488351232 := by decide
  rcases Go.Deep.open_slice Try.underlying23 hf with ⟨hcs, _⟩ | ⟨A, len, cap, m, n', D, Pl, hcs, hb, hl, hm, hmm, hx, hel⟩
  · simp [Value.cells] at hcs
    obtain ⟨rfl, rfl, rfl⟩ := hcs
    exact ⟨Nat.le_refl _, by unfold maxLen; omega, [], ⟨none, 0, rfl, fun h => absurd h (Nat.lt_irrefl _)⟩, ⟨fun x hx => (by cases hx), by decide⟩⟩
  · simp [Value.cells] at hcs
    obtain ⟨rfl, rfl, rfl⟩ := hcs
    simp at hmm
    subst hmm
    refine ⟨hl, hm, ?_⟩
    have hd : d = .slice ((List.range n).map D) ((List.range (m - n)).map fun j => D (n + j)) := congrArg Prod.fst hx
    have hone : ∀ j, ∃ e : Ad, j < n → e.ok ∧ ∃ b off, (some A : Option Addr) = some ⟨b, off, none⟩ ∧ b < W.heap.size ∧
        W.cell? ⟨b, off + j * 3, none⟩ = some (.bool e.v6) ∧ W.cell? ⟨b, off + j * 3 + 1, none⟩ = some (.int .u64 e.hi) ∧ W.cell? ⟨b, off + j * 3 + 2, none⟩ = some (.int .u64 e.lo) := by
      intro j
      by_cases hj : j < n
      · obtain ⟨cs', h1, h2⟩ := hel j (by omega)
        rw [ce] at h1
        obtain ⟨_, hlen, hcell⟩ := World.cells?_some h1
        match cs', hlen with
        | [v0, v1, v2], _ =>
          obtain ⟨ad, rfl, rfl, rfl, hok⟩ := cells31 h2
          have k0 := hcell 0 (by simp)
          obtain ⟨b, off, spot⟩ := A
          have hsp : spot = none := by
            obtain ⟨cs0, m1, _⟩ := hel 0 (by omega)
            rw [ce] at m1
            obtain ⟨_, hl0, mc⟩ := World.cells?_some m1
            have m0 := mc 0 (by omega)
            have e : (Addr.add (Addr.add ⟨b, off, spot⟩ (0 * 3)) 0) = ⟨b, off, spot⟩ := by simp [Addr.add]
            rw [e] at m0
            match cs0, hl0 with
            | [a0, a1, a2], _ => exact spot_none m0
          subst hsp
          have k1 := hcell 1 (by simp)
          have k2 := hcell 2 (by simp)
          simp only [Addr.add_lit] at k0 k1 k2
          exact ⟨ad, fun _ => ⟨hok, b, off, rfl, World.block_lt_of_cell? W _ k0, k0, k1, k2⟩⟩
      · exact ⟨⟨false, 0, 0⟩, fun h => absurd h hj⟩
    obtain ⟨g, hg⟩ : ∃ g : Nat → Ad, ∀ j, j < n → (g j).ok ∧ ∃ b off, (some A : Option Addr) = some ⟨b, off, none⟩ ∧ b < W.heap.size ∧
        W.cell? ⟨b, off + j * 3, none⟩ = some (.bool (g j).v6) ∧ W.cell? ⟨b, off + j * 3 + 1, none⟩ = some (.int .u64 (g j).hi) ∧ W.cell? ⟨b, off + j * 3 + 2, none⟩ = some (.int .u64 (g j).lo) := ⟨fun j => Classical.choose (hone j), fun j hj => Classical.choose_spec (hone j) hj⟩
    have hlen : ((List.range n).map g).length = n := by simp
    refine ⟨(List.range n).map g, ⟨some A, m, by rw [hlen], fun h0 => ?_⟩, fun x hx => ?_, ?_⟩
    · rw [hlen] at h0
      obtain ⟨_, b, off, hA, hbl, _⟩ := hg 0 h0
      refine ⟨b, off, hA, hbl, fun j u hju => ?_⟩
      have hjl : j < n * 3 := by have := (List.getElem?_eq_some_iff.1 hju).1; rw [adC_length, hlen] at this; exact this
      have hq : j / 3 < n := by omega
      obtain ⟨_, b', off', hA', _, k0, k1, k2⟩ := hg (j / 3) hq
      rw [hA] at hA'
      cases hA'
      have hg3 := adC_get ((List.range n).map g) (j / 3) (by rw [hlen]; exact hq)
      have hga : ga ((List.range n).map g) (j / 3) = g (j / 3) := by rw [ga_eq (by rw [hlen]; exact hq)]; simp
      rw [hga] at hg3
      have h3 : j % 3 = 0 ∨ j % 3 = 1 ∨ j % 3 = 2 := by omega
      rcases h3 with h3 | h3 | h3
      · have e : 3 * (j / 3) = j := by omega
        have e2 : off + j / 3 * 3 = off + j := by omega
        rw [e, hju] at hg3
        rw [e2] at k0
        rw [k0]; exact hg3.1.symm
      · have e : 3 * (j / 3) + 1 = j := by omega
        have e2 : off + j / 3 * 3 + 1 = off + j := by omega
        have h := hg3.2.1
        rw [e, hju] at h
        rw [e2] at k1
        rw [k1]; exact h.symm
      · have e : 3 * (j / 3) + 2 = j := by omega
        have e2 : off + j / 3 * 3 + 2 = off + j := by omega
        have h := hg3.2.2
        rw [e, hju] at h
        rw [e2] at k2
        rw [k2]; exact h.symm
    · obtain ⟨j, hj, rfl⟩ := List.mem_map.1 hx
      exact (hg j (List.mem_range.1 hj)).1
    · rw [hlen]
      have hB : Try.prog.bytesOf 31 = 24 := by kernel_rfl
      have z := hw ((((List.range n).map D).length + ((List.range (m - n)).map fun j => D (n + j)).length) * Try.prog.bytesOf 31) (by
        rw [hd]
        unfold DataW.weights
        rw [Try.underlying23]
        exact List.mem_cons_self)
      rw [hB, hr] at z
      simp only [List.length_map, List.length_range] at z
      omega
end
theorem Apart_ex {w : World} {a : Option Addr} {n c : Nat} (hnc : n ≤ c) (hcm : c ≤ maxLen) (hD : ∃ f, RowDe w a n f) (o : Ad) (ho : o.ok) {zone : ByteArray} (hz : zone.size ≤ 140737488351232) (now : Int) :
    Calls Try.prog 4 #[.slice a n c, .agg #[.bool o.v6, .int .u64 o.hi, .int .u64 o.lo], .string zone, .int .i64 now] w fun e w' => e = .returned (.bool true) ∧ Below w.heap.size w w' := by
  obtain ⟨f, hf⟩ := hD
  exact Apart_any hnc hcm hf o ho hz now
end Go.Proofs.Yticijejnemnmlaa.If
