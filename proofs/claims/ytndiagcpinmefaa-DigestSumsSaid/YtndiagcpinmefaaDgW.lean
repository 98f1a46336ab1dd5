/- digest.Sum1, digest.keys, digest.Sum256. -/
import Derived.Test.YtndiagcpinmefaaDgPd
import Derived.Test.YtndiagcpinmefaaDgK
namespace Go.Proofs.Ytndiagcpinmefaa.Dg
open Go.RowKit Rt Go.Proofs.YtndiagcpinmefaaW.PrintWords
set_option linter.unusedSimpArgs false
set_option linter.unusedVariables false

def h1 : S5 := ⟨1732584193, 4023233417, 2562383102, 271733878, 3285377520⟩
def h2 : S8 := ⟨1779033703, 3144134277, 1013904242, 2773480762, 1359893119, 2600822924, 528734635, 1541459225⟩
def ks2 : List UInt32 := [1116352408, 1899447441, 3049323471, 3921009573, 961987163, 1508970993, 2453635748, 2870763221, 3624381080, 310598401, 607225278, 1426881987, 1925078388, 2162078206, 2614888103, 3248222580, 3835390401, 4022224774, 264347078, 604807628, 770255983, 1249150122, 1555081692, 1996064986, 2554220882, 2821834349, 2952996808, 3210313671, 3336571891, 3584528711, 113926993, 338241895, 666307205, 773529912, 1294757372, 1396182291, 1695183700, 1986661051, 2177026350, 2456956037, 2730485921, 2820302411, 3259730800, 3345764771, 3516065817, 3600352804, 4094571909, 275423344, 430227734, 506948616, 659060556, 883997877, 958139571, 1322822218, 1537002063, 1747873779, 1955562222, 2024104815, 2227730452, 2361852424, 2428436474, 2756734187, 3204031479, 3329325298]
/-- The blocks of a text, made up. -/
def blocksL (L : List UInt8) : List (List UInt32) := chunks ((padL L).length / 64) (padL L)
def sum1L (L : List UInt8) : List UInt8 := tellL ((blocksL L).foldl comp1 h1).l
def sum2L (L : List UInt8) : List UInt8 := tellL ((blocksL L).foldl (comp2 ks2) h2).l

theorem h1_block (w : World) : C32 (w.alloc (.cells #[.int .u32 1732584193, .int .u32 4023233417, .int .u32 2562383102, .int .u32 271733878, .int .u32 3285377520] 33)) w.heap.size 33 h1.l := heap_new w _
theorem h2_block (w : World) : C32 (w.alloc (.cells #[.int .u32 1779033703, .int .u32 3144134277, .int .u32 1013904242, .int .u32 2773480762, .int .u32 1359893119, .int .u32 2600822924, .int .u32 528734635, .int .u32 1541459225] 43)) w.heap.size 43 h2.l := heap_new w _

set_option maxRecDepth 100000 in
theorem Sum1_any (L : List UInt8) (hsL : L.length ≤ 140737488351232) (w : World) :
    Calls Try.prog 9 #[.string (mk L)] w fun e W' => e = .returned (.string (mk (sum1L L))) ∧ Below w.heap.size w W' := by
  go_enter Try.func9, Try.ntmps9
  go_wp2_with fail
  refine (blocks1 L hsL h1 w.heap.size _ (h1_block w)).mono ?_
  rintro e w2 ⟨rfl, hG, hk⟩
  have hb : Below w.heap.size w w2 := ((Below.refl w.heap.size w).alloc (Nat.le_refl _) _).trans (hk.below (by simp) (fun k hk e => by omega))
  have hlt := hG.lt
  go_wp2_with fail
  refine (tell_any ((blocksL L).foldl comp1 h1).l (show 5 ≤ 1048576 by omega) 33 w.heap.size w2 hG).mono ?_
  rintro e w3 ⟨rfl, hb3⟩
  go_wp2
  go_ret
  exact ⟨rfl, hb.trans (hb3.mono hb.size)⟩
section
variable {ops : Array Oper} {fl : Nat → Nat} {Q : Act → World → Prop} {k : Nat} {rest : List Oper} {a : Act} {w : World}
theorem txt_build {o : Oper} (hk : ops[k]? = some o) (hf : fl k = 2) (hw : Region.wanted o (yielded ops a.tmps) = true) (t : TypeId) (parts : Array (Nat × Operand)) (ho : o.op = .build t parts)
    (vs : Array Value) (hv : Try.prog.built t (parts.map fun (i, x) => (i, a.eval x)).toList = some vs)
    (h : wpTxt Try.prog ops fl Q (k + 1) rest (a.put o.dst (.agg vs)) w) : wpTxt Try.prog ops fl Q k (o :: rest) a w :=
  txt_act hk hf hw fun K hK => wp_build t parts ho (by rw [hv]; rfl) (by rw [hv]; exact hK _ _ h)
end
set_option maxRecDepth 100000 in
set_option maxHeartbeats 4000000 in
theorem keys_any (w : World) : Calls Try.prog 29 #[] w fun e W' => e = .returned (.agg (ks2.map W32).toArray) ∧ Below w.heap.size w W' := by
  go_enter Try.func29, Try.ntmps29
  go_upto_region 1 with (fail)
  have hold := heap_new w (.cells (List.replicate 64 (.int .u32 0)).toArray 44)
  refine Rt.wp_region_seq [2, 2] ?_
  refine txt_build rfl rfl rfl 44 _ rfl (ks2.map W32).toArray (by kernel_rfl) ?_
  simp only [Act.put, Act.eval, List.setIfInBounds_toArray, List.set_cons_zero, List.set_cons_succ]
  refine txt_act rfl rfl rfl fun K hK => wp_store_row 44 (.tmp 0) (.tmp 1) rfl w.heap.size (ks2.map W32).toArray rfl rfl 44 _ hold (by kernel_rfl) (by simp [ks2]) (oneCell_words _) (hK _ _ ?_)
  clear K hK
  with_reducible refine txt_nil ?_
  have hg : C32 ((w.alloc (.cells (List.replicate 64 (.int .u32 0)).toArray 44)).setRow w.heap.size (ks2.map W32).toArray) w.heap.size 44 ks2 := setRow_heap _ _ _ _ _ _ hold
  have hb : Below w.heap.size w ((w.alloc (.cells (List.replicate 64 (.int .u32 0)).toArray 44)).setRow w.heap.size (ks2.map W32).toArray) := below_setRow ((Below.refl _ _).alloc (Nat.le_refl _) _) (Nat.le_refl _) _
  obtain ⟨w1, hw1⟩ : ∃ w1, (w.alloc (.cells (List.replicate 64 (.int .u32 0)).toArray 44)).setRow w.heap.size (ks2.map W32).toArray = w1 := ⟨_, rfl⟩
  rw [hw1] at hg hb
  simp only [List.replicate_succ, List.replicate_zero] at hw1
  rw [hw1]
  clear hold hw1
  go_wp2
  exact bodyPost_ret (results_cell_row Try.results29 _ _ w.heap.size 44 _ _ _ rfl hg Try.underlying44 rfl (by kernel_rfl)) rfl ⟨rfl, hb⟩

set_option maxRecDepth 100000 in
set_option maxHeartbeats 4000000 in
theorem Sum256_any (L : List UInt8) (hsL : L.length ≤ 140737488351232) (w : World) :
    Calls Try.prog 11 #[.string (mk L)] w fun e W' => e = .returned (.string (mk (sum2L L))) ∧ Below w.heap.size w W' := by
  go_enter Try.func11, Try.ntmps11
  go_upto_region 2 with (fail)
  refine Rt.wp_region_seq [2, 2, 2] ?_
  refine txt_call rfl rfl rfl (by go_simp; exact ⟨⟨rfl, rfl⟩, rfl⟩) ?_
  refine (keys_any _).mono ?_
  rintro e w1 ⟨rfl, hb1⟩
  refine ⟨_, rfl, ?_⟩
  have hG0 := h2_block w
  have hG1 := hG0.keep (hb1.block w.heap.size (by simp))
  have hb0 : Below w.heap.size w w1 := ((Below.refl w.heap.size w).alloc (Nat.le_refl _) _).trans (hb1.mono (by simp))
  have hs1 := hb1.size
  rw [World.size_alloc] at hs1
  clear hG0 hb1
  obtain ⟨kv, hkv⟩ : ∃ kv, (ks2.map W32).toArray = kv := ⟨_, rfl⟩
  have hk64 : (List.replicate 64 (Value.int .u32 0)).toArray.size = kv.size := by rw [← hkv]; rfl
  have hks : (Try.prog.info? 44).map (·.size) = some kv.size := by rw [← hkv]; kernel_rfl
  have hko : kv.all (·.oneCell') = true := by rw [← hkv]; exact oneCell_words _
  rw [hkv]
  simp only [Act.put, Act.eval, List.setIfInBounds_toArray, List.set_cons_zero, List.set_cons_succ, Array.getD_eq_getD_getElem?, List.getElem?_toArray, List.getElem?_cons_zero, List.getElem?_cons_succ, Option.getD_some]
  apply txt_value rfl rfl rfl; (· (go_simp; exact ⟨rfl, rfl⟩)); (· (simp only [Act.put, Act.eval, List.setIfInBounds_toArray, List.set_cons_zero, List.set_cons_succ, Array.getD_eq_getD_getElem?, List.getElem?_toArray, List.getElem?_cons_zero, List.getElem?_cons_succ, Option.getD_some]; with_reducible rfl))
  have hold := heap_new w1 (.cells (List.replicate 64 (.int .u32 0)).toArray 44)
  refine txt_act rfl rfl rfl fun K hK => wp_store_row 44 (.tmp 4) (.tmp 6) rfl w1.heap.size kv rfl rfl 44 _ hold hks hk64 hko (hK _ _ ?_)
  clear K hK
  with_reducible refine txt_nil ?_
  have hK : C32 ((w1.alloc (.cells (List.replicate 64 (.int .u32 0)).toArray 44)).setRow w1.heap.size kv) w1.heap.size 44 ks2 := by
    rw [← hkv]; exact setRow_heap _ _ _ _ _ _ hold
  have hb2 : Below w.heap.size w ((w1.alloc (.cells (List.replicate 64 (.int .u32 0)).toArray 44)).setRow w1.heap.size kv) := below_setRow (hb0.alloc hb0.size _) hb0.size _
  have hG2 : C32 ((w1.alloc (.cells (List.replicate 64 (.int .u32 0)).toArray 44)).setRow w1.heap.size kv) w.heap.size 43 h2.l := (hG1.alloc _).keep (setRow_other _ _ _ _ (by omega))
  obtain ⟨w2, hw2⟩ : ∃ w2, (w1.alloc (.cells (List.replicate 64 (.int .u32 0)).toArray 44)).setRow w1.heap.size kv = w2 := ⟨_, rfl⟩
  rw [hw2] at hK hb2 hG2
  simp only [List.replicate_succ, List.replicate_zero] at hw2
  rw [hw2]
  have hne : w1.heap.size ≠ w.heap.size := by omega
  clear hold hw2 hG1 hb0 hkv hk64 hks hko
  go_wp2_with fail
  refine (blocks2 L hsL ks2 rfl h2 w.heap.size w1.heap.size hne w2 hG2 hK).mono ?_
  rintro e w3 ⟨rfl, hG3, hk⟩
  have hb3 : Below w.heap.size w w3 := hb2.trans (hk.below hb2.size (fun k hk e => by omega))
  have hlt := hG3.lt
  go_wp2_with fail
  refine (tell_any ((blocksL L).foldl (comp2 ks2) h2).l (show 8 ≤ 1048576 by omega) 43 w.heap.size w3 hG3).mono ?_
  rintro e w4 ⟨rfl, hb4⟩
  go_wp2
  go_ret
  exact ⟨rfl, hb3.trans (hb4.mono hb3.size)⟩
end Go.Proofs.Ytndiagcpinmefaa.Dg
