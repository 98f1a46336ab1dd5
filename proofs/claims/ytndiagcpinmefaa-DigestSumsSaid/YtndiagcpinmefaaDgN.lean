/- digest.blocks with the closure of Sum1, with that of Sum256. -/
import Derived.Test.YtndiagcpinmefaaDgX
import Derived.Test.YtndiagcpinmefaaDgZ
import Derived.Test.YtndiagcpinmefaaDgU
namespace Go.Proofs.Ytndiagcpinmefaa.Dg
open Go.RowKit Rt Go.Proofs.YtndiagcpinmefaaW.PrintWords
set_option linter.unusedSimpArgs false
set_option linter.unusedVariables false

/-- The length's byte at a shift. -/
def lenB (n s : Nat) : UInt8 := UInt8.ofNat (n / 2 ^ s)
/-- What is put behind a text. -/
def tailL (len : Nat) : List UInt8 := 128 :: (List.replicate ((119 - len % 64) % 64) 0 ++ [lenB (8 * len) 56, lenB (8 * len) 48, lenB (8 * len) 40, lenB (8 * len) 32, lenB (8 * len) 24, lenB (8 * len) 16, lenB (8 * len) 8, lenB (8 * len) 0])
def wordOf (a b c d : UInt8) : UInt32 := ((a.toUInt32 <<< 24) ||| (b.toUInt32 <<< 16) ||| (c.toUInt32 <<< 8)) ||| d.toUInt32
/-- The words of a text, the first ones. -/
def wordsN (r : List UInt8) : Nat → List UInt32
  | 0 => []
  | n + 1 => wordsN r n ++ [wordOf (r.getD (4 * n) 0) (r.getD (4 * n + 1) 0) (r.getD (4 * n + 2) 0) (r.getD (4 * n + 3) 0)]
theorem wordsN_length (r : List UInt8) (n : Nat) : (wordsN r n).length = n := by
  induction n with
  | zero => rfl
  | succ n ih => simp [wordsN, ih]
/-- The blocks of a text. -/
def chunks : Nat → List UInt8 → List (List UInt32)
  | 0, _ => []
  | n + 1, r => wordsN r 16 :: chunks n (r.drop 64)
theorem chunks_succ (n : Nat) (r : List UInt8) : chunks (n + 1) r = wordsN r 16 :: chunks n (r.drop 64) := rfl
def padL (L : List UInt8) : List UInt8 := L ++ tailL L.length
theorem tailL_length (n : Nat) : (n + (tailL n).length) % 64 = 0 := by
  simp [tailL]; omega
theorem repeatL_zero (n : Nat) : Lib.repeatL [(0 : UInt8)] n = List.replicate n 0 := by
  induction n with
  | zero => rfl
  | succ n ih => simp [Lib.repeatL, List.replicate_succ] at ih ⊢; try exact ih
theorem mk_add (a b : List UInt8) : mk a ++ mk b = mk (a ++ b) := by
  rw [← mk_toList (mk a ++ mk b)]; simp [mk]

theorem by_u (c : UInt8) : (c.toNat : Int) = u c.toUInt32 := by simp [u]
theorem shl24 (x : UInt32) : (u x * (16777216 : Int)) % (4294967296 : Int) = u (x <<< 24) := by
  have := shl_wrap x 24 (by omega); simpa [IntKind.wrap, IntKind.bits, IntKind.signed] using this
theorem shl16 (x : UInt32) : (u x * (65536 : Int)) % (4294967296 : Int) = u (x <<< 16) := by
  have := shl_wrap x 16 (by omega); simpa [IntKind.wrap, IntKind.bits, IntKind.signed] using this
theorem shl8 (x : UInt32) : (u x * (256 : Int)) % (4294967296 : Int) = u (x <<< 8) := by
  have := shl_wrap x 8 (by omega); simpa [IntKind.wrap, IntKind.bits, IntKind.signed] using this
theorem shl24w (x : UInt32) : IntKind.u32.wrap (u x * (16777216 : Int)) = u (x <<< 24) := shl_wrap x 24 (by omega)
theorem shl16w (x : UInt32) : IntKind.u32.wrap (u x * (65536 : Int)) = u (x <<< 16) := shl_wrap x 16 (by omega)
theorem shl8w (x : UInt32) : IntKind.u32.wrap (u x * (256 : Int)) = u (x <<< 8) := shl_wrap x 8 (by omega)

theorem mk_at (r : List UInt8) (j : Nat) (h : j < (mk r).size) : (mk r)[j] = r.getD j 0 := by
  have h2 : j < r.length := h
  rw [List.getD_eq_getElem?_getD, List.getElem?_eq_getElem h2]; rfl
theorem wordsN_set (r : List UInt8) (k : Nat) (hk : k < 16) : (wordsN r k ++ List.replicate (16 - k) 0).set k (wordOf (r.getD (4 * k) 0) (r.getD (4 * k + 1) 0) (r.getD (4 * k + 2) 0) (r.getD (4 * k + 3) 0)) = wordsN r (k + 1) ++ List.replicate (16 - (k + 1)) 0 := by
  obtain ⟨q, hq⟩ : ∃ q, 16 - k = q + 1 := ⟨15 - k, by omega⟩
  rw [hq, show 16 - (k + 1) = q by omega, List.replicate_succ, List.set_append_right _ _ (by rw [wordsN_length]; omega), wordsN_length]
  simp [wordsN]
theorem conv_one (w : World) (b : UInt8) : (convert 31 9 (.slice (some ⟨w.heap.size, 0, none⟩) 1 1)).run Try.prog (w.alloc (.cells #[.int .u8 (b.toNat : Int)] 5)) = .ok (.string (mk [b])) (w.alloc (.cells #[.int .u8 (b.toNat : Int)] 5)) := by
  have h1 := run_convert_bytes_arg (P := Try.prog) (w.alloc (.cells #[.int .u8 (b.toNat : Int)] 5)) 31 5 Try.underlying31 Try.underlying5 w.heap.size 0 1 1 [(b.toNat : Int)] (by simp)
      (fun i hi => by obtain rfl : i = 0 := by omega
                      show (match (w.alloc (.cells #[.int .u8 (b.toNat : Int)] 5)).heap[w.heap.size]? with | some (.cells c _ _) => c[0]? | _ => none) = _
                      rw [heap_new w (.cells #[.int .u8 (b.toNat : Int)] 5)]; rfl) 9 Try.underlying9
  rw [h1]
  congr 2
  simp [strOfNums]; rfl

theorem u_mod (x : UInt32) : u x % (4294967296 : Int) = u x := by have := u_rng x; omega
theorem u_wrap (x : UInt32) : IntKind.u32.wrap (u x) = u x := by have := u_mod x; simpa [IntKind.wrap, IntKind.bits, IntKind.signed] using this
attribute [local go_sem] u_mod u_wrap u32_or shl24 shl16 shl8 shl24w shl16w shl8w
set_option maxRecDepth 100000 in
set_option maxHeartbeats 4000000 in
theorem blocks1 (L : List UInt8) (hsL : L.length ≤ 140737488351232) (h : S5) (g : Nat) (w : World) (hh : C32 w g 33 h.l) :
    Calls Try.prog 21 #[.string (mk L), .func (.func 22) #[] #[.pointer (some ⟨g, 0, none⟩)]] w fun e W' => e = .returned (.tuple #[]) ∧ C32 W' g 33 ((chunks ((padL L).length / 64) (padL L)).foldl comp1 h).l ∧ Kept (· = g) w W' := by
  obtain ⟨s, hs0⟩ : ∃ s, mk L = s := ⟨_, rfl⟩
  have hsz : s.size = L.length := by rw [← hs0]; rfl
  have hs : s.size ≤ 140737488351232 := by omega
  have hpad : Hid (padL L = L ++ tailL s.size) := Lib.hid (by rw [hsz]; rfl)
  have hmod : (L.length + (tailL s.size).length) % 64 = 0 := by rw [hsz]; exact tailL_length _
  have htl2 : (tailL s.size).length ≤ 200 := by simp [tailL]; omega
  have hadd0 : Hid (s ++ mk (tailL s.size) = mk (L ++ tailL s.size)) := Lib.hid (by rw [← hs0]; exact mk_add _ _)
  rw [hs0]
  have hszL := Lib.hid hsz
  clear hs0 hsz
  have h0 : 0 ≤ (119 - (s.size : Int) % 64) := by omega
  have e1 : IntKind.u64.wrap ((s.size : Int) * 8) = ((8 * s.size : Nat) : Int) := by simp [IntKind.wrap, IntKind.bits, IntKind.signed]; omega
  obtain ⟨n, hn⟩ : ∃ n, 8 * s.size = n := ⟨_, rfl⟩
  rw [hn] at e1
  obtain ⟨c, hc⟩ : ∃ c, (119 - s.size % 64) % 64 = c := ⟨_, rfl⟩
  have e2 : (119 - (s.size : Int) % 64) % 64 = (c : Int) := by omega
  have hc64 : c < 64 := by omega
  have hnb : n < 2 ^ 51 := by omega
  have hT : Hid (tailL s.size = 128 :: (List.replicate c 0 ++ [lenB n 56, lenB n 48, lenB n 40, lenB n 32, lenB n 24, lenB n 16, lenB n 8, lenB n 0])) := Lib.hid (by unfold tailL; rw [hc, hn])
  clear hn hc
  have hb0 := Below.refl w.heap.size w
  go_enter Try.func21, Try.ntmps21
  go_wp2_with fail
  refine (Try.strings_Repeat (mk [0]) c _ (by omega) (by rw [mk_size]; simp; omega)).mono ?_
  rintro e w1 ⟨rfl, hb1⟩
  rw [mk_data, repeatL_zero]
  have hR : Hid (⟨#[128]⟩ ++ mk (List.replicate c 0) = mk (128 :: List.replicate c 0)) := Lib.hid (mk_add [128] _)
  have hRs : (mk (List.replicate c 0)).size = c := by rw [mk_size]; simp
  obtain ⟨z, hz⟩ : ∃ z, mk (List.replicate c (0 : UInt8)) = z := ⟨_, rfl⟩
  rw [show (⟨(List.replicate c (0 : UInt8)).toArray⟩ : ByteArray) = z from hz]
  rw [hz] at hR hRs
  clear hz
  have hR2 := hR.out
  go_wp2_with fail
  clear hR2 hR hRs h0 e1 e2
  obtain ⟨P0, hP0⟩ : ∃ P0, 128 :: List.replicate c (0 : UInt8) = P0 := ⟨_, rfl⟩
  have hT2 : Hid (tailL s.size = P0 ++ [lenB n 56, lenB n 48, lenB n 40, lenB n 32, lenB n 24, lenB n 16, lenB n 8, lenB n 0]) := Lib.hid (by rw [hT.out, ← hP0]; rfl)
  have hP0l : P0.length < 65 := by rw [← hP0]; simp; omega
  rw [hP0]
  clear hP0 hT
  go_loopw [6, 5] (fun i t wr => ∃ (j : Nat) (sh : Int), i = .int .i64 sh ∧ sh = 56 - 8 * (j : Int) ∧ j ≤ 8 ∧ t = .string (mk (P0 ++ ([lenB n 56, lenB n 48, lenB n 40, lenB n 32, lenB n 24, lenB n 16, lenB n 8, lenB n 0]).take j)) ∧ Below w.heap.size w wr) (fun i _ _ => (intOf i + 8).toNat)
  case atStart => exact ⟨0, 56, rfl, by omega, by omega, by simp, hb1⟩
  case round =>
    obtain ⟨j, sh, rfl, hsh, hj, rfl, hb⟩ := hrel
    have hbs := hb.size
    by_cases hj8 : j < 8
    · rcases (show j = 0 ∨ j = 1 ∨ j = 2 ∨ j = 3 ∨ j = 4 ∨ j = 5 ∨ j = 6 ∨ j = 7 by omega) with rfl | rfl | rfl | rfl | rfl | rfl | rfl | rfl
      · obtain rfl : sh = 56 := by omega
        clear hsh hj hj8
        obtain ⟨b, hb8⟩ : ∃ b, lenB n 56 = b := ⟨_, rfl⟩
        have hbv : ((n : Int) / (72057594037927936 : Int)) % (256 : Int) = (b.toNat : Int) := by rw [← hb8]; unfold lenB; simp
        have hbw : IntKind.u8.wrap ((n : Int) / (72057594037927936 : Int)) = (b.toNat : Int) := by rw [← hbv]; simp [IntKind.wrap, IntKind.bits, IntKind.signed]
        obtain ⟨T, hT0⟩ : ∃ T, P0 ++ ([lenB n 56, lenB n 48, lenB n 40, lenB n 32, lenB n 24, lenB n 16, lenB n 8, lenB n 0]).take 0 = T := ⟨_, rfl⟩
        have hT1 : Hid (P0 ++ ([lenB n 56, lenB n 48, lenB n 40, lenB n 32, lenB n 24, lenB n 16, lenB n 8, lenB n 0]).take (0 + 1) = T ++ [b]) := Lib.hid (by rw [← hT0, ← hb8, List.append_assoc]; rfl)
        have hTs : (mk T).size < 100 := by rw [← hT0, mk_size]; simp; omega
        rw [hT0]
        clear hT0 hb8
        have hbsz : (mk [b]).size = 1 := rfl
        have hadd : mk T ++ mk [b] = mk (T ++ [b]) := mk_add _ _
        have hcv := conv_one wr b
        go_wp2
        go_roundw
        case rel => exact ⟨1, 48, rfl, by omega, by omega, by rw [hT1.out], hb.alloc hbs _⟩
        case measure => simp [intOf]
      · obtain rfl : sh = 48 := by omega
        clear hsh hj hj8
        obtain ⟨b, hb8⟩ : ∃ b, lenB n 48 = b := ⟨_, rfl⟩
        have hbv : ((n : Int) / (281474976710656 : Int)) % (256 : Int) = (b.toNat : Int) := by rw [← hb8]; unfold lenB; simp
        have hbw : IntKind.u8.wrap ((n : Int) / (281474976710656 : Int)) = (b.toNat : Int) := by rw [← hbv]; simp [IntKind.wrap, IntKind.bits, IntKind.signed]
        obtain ⟨T, hT0⟩ : ∃ T, P0 ++ ([lenB n 56, lenB n 48, lenB n 40, lenB n 32, lenB n 24, lenB n 16, lenB n 8, lenB n 0]).take 1 = T := ⟨_, rfl⟩
        have hT1 : Hid (P0 ++ ([lenB n 56, lenB n 48, lenB n 40, lenB n 32, lenB n 24, lenB n 16, lenB n 8, lenB n 0]).take (1 + 1) = T ++ [b]) := Lib.hid (by rw [← hT0, ← hb8, List.append_assoc]; rfl)
        have hTs : (mk T).size < 100 := by rw [← hT0, mk_size]; simp; omega
        rw [hT0]
        clear hT0 hb8
        have hbsz : (mk [b]).size = 1 := rfl
        have hadd : mk T ++ mk [b] = mk (T ++ [b]) := mk_add _ _
        have hcv := conv_one wr b
        go_wp2
        go_roundw
        case rel => exact ⟨2, 40, rfl, by omega, by omega, by rw [hT1.out], hb.alloc hbs _⟩
        case measure => simp [intOf]
      · obtain rfl : sh = 40 := by omega
        clear hsh hj hj8
        obtain ⟨b, hb8⟩ : ∃ b, lenB n 40 = b := ⟨_, rfl⟩
        have hbv : ((n : Int) / (1099511627776 : Int)) % (256 : Int) = (b.toNat : Int) := by rw [← hb8]; unfold lenB; simp
        have hbw : IntKind.u8.wrap ((n : Int) / (1099511627776 : Int)) = (b.toNat : Int) := by rw [← hbv]; simp [IntKind.wrap, IntKind.bits, IntKind.signed]
        obtain ⟨T, hT0⟩ : ∃ T, P0 ++ ([lenB n 56, lenB n 48, lenB n 40, lenB n 32, lenB n 24, lenB n 16, lenB n 8, lenB n 0]).take 2 = T := ⟨_, rfl⟩
        have hT1 : Hid (P0 ++ ([lenB n 56, lenB n 48, lenB n 40, lenB n 32, lenB n 24, lenB n 16, lenB n 8, lenB n 0]).take (2 + 1) = T ++ [b]) := Lib.hid (by rw [← hT0, ← hb8, List.append_assoc]; rfl)
        have hTs : (mk T).size < 100 := by rw [← hT0, mk_size]; simp; omega
        rw [hT0]
        clear hT0 hb8
        have hbsz : (mk [b]).size = 1 := rfl
        have hadd : mk T ++ mk [b] = mk (T ++ [b]) := mk_add _ _
        have hcv := conv_one wr b
        go_wp2
        go_roundw
        case rel => exact ⟨3, 32, rfl, by omega, by omega, by rw [hT1.out], hb.alloc hbs _⟩
        case measure => simp [intOf]
      · obtain rfl : sh = 32 := by omega
        clear hsh hj hj8
        obtain ⟨b, hb8⟩ : ∃ b, lenB n 32 = b := ⟨_, rfl⟩
        have hbv : ((n : Int) / (4294967296 : Int)) % (256 : Int) = (b.toNat : Int) := by rw [← hb8]; unfold lenB; simp
        have hbw : IntKind.u8.wrap ((n : Int) / (4294967296 : Int)) = (b.toNat : Int) := by rw [← hbv]; simp [IntKind.wrap, IntKind.bits, IntKind.signed]
        obtain ⟨T, hT0⟩ : ∃ T, P0 ++ ([lenB n 56, lenB n 48, lenB n 40, lenB n 32, lenB n 24, lenB n 16, lenB n 8, lenB n 0]).take 3 = T := ⟨_, rfl⟩
        have hT1 : Hid (P0 ++ ([lenB n 56, lenB n 48, lenB n 40, lenB n 32, lenB n 24, lenB n 16, lenB n 8, lenB n 0]).take (3 + 1) = T ++ [b]) := Lib.hid (by rw [← hT0, ← hb8, List.append_assoc]; rfl)
        have hTs : (mk T).size < 100 := by rw [← hT0, mk_size]; simp; omega
        rw [hT0]
        clear hT0 hb8
        have hbsz : (mk [b]).size = 1 := rfl
        have hadd : mk T ++ mk [b] = mk (T ++ [b]) := mk_add _ _
        have hcv := conv_one wr b
        go_wp2
        go_roundw
        case rel => exact ⟨4, 24, rfl, by omega, by omega, by rw [hT1.out], hb.alloc hbs _⟩
        case measure => simp [intOf]
      · obtain rfl : sh = 24 := by omega
        clear hsh hj hj8
        obtain ⟨b, hb8⟩ : ∃ b, lenB n 24 = b := ⟨_, rfl⟩
        have hbv : ((n : Int) / (16777216 : Int)) % (256 : Int) = (b.toNat : Int) := by rw [← hb8]; unfold lenB; simp
        have hbw : IntKind.u8.wrap ((n : Int) / (16777216 : Int)) = (b.toNat : Int) := by rw [← hbv]; simp [IntKind.wrap, IntKind.bits, IntKind.signed]
        obtain ⟨T, hT0⟩ : ∃ T, P0 ++ ([lenB n 56, lenB n 48, lenB n 40, lenB n 32, lenB n 24, lenB n 16, lenB n 8, lenB n 0]).take 4 = T := ⟨_, rfl⟩
        have hT1 : Hid (P0 ++ ([lenB n 56, lenB n 48, lenB n 40, lenB n 32, lenB n 24, lenB n 16, lenB n 8, lenB n 0]).take (4 + 1) = T ++ [b]) := Lib.hid (by rw [← hT0, ← hb8, List.append_assoc]; rfl)
        have hTs : (mk T).size < 100 := by rw [← hT0, mk_size]; simp; omega
        rw [hT0]
        clear hT0 hb8
        have hbsz : (mk [b]).size = 1 := rfl
        have hadd : mk T ++ mk [b] = mk (T ++ [b]) := mk_add _ _
        have hcv := conv_one wr b
        go_wp2
        go_roundw
        case rel => exact ⟨5, 16, rfl, by omega, by omega, by rw [hT1.out], hb.alloc hbs _⟩
        case measure => simp [intOf]
      · obtain rfl : sh = 16 := by omega
        clear hsh hj hj8
        obtain ⟨b, hb8⟩ : ∃ b, lenB n 16 = b := ⟨_, rfl⟩
        have hbv : ((n : Int) / (65536 : Int)) % (256 : Int) = (b.toNat : Int) := by rw [← hb8]; unfold lenB; simp
        have hbw : IntKind.u8.wrap ((n : Int) / (65536 : Int)) = (b.toNat : Int) := by rw [← hbv]; simp [IntKind.wrap, IntKind.bits, IntKind.signed]
        obtain ⟨T, hT0⟩ : ∃ T, P0 ++ ([lenB n 56, lenB n 48, lenB n 40, lenB n 32, lenB n 24, lenB n 16, lenB n 8, lenB n 0]).take 5 = T := ⟨_, rfl⟩
        have hT1 : Hid (P0 ++ ([lenB n 56, lenB n 48, lenB n 40, lenB n 32, lenB n 24, lenB n 16, lenB n 8, lenB n 0]).take (5 + 1) = T ++ [b]) := Lib.hid (by rw [← hT0, ← hb8, List.append_assoc]; rfl)
        have hTs : (mk T).size < 100 := by rw [← hT0, mk_size]; simp; omega
        rw [hT0]
        clear hT0 hb8
        have hbsz : (mk [b]).size = 1 := rfl
        have hadd : mk T ++ mk [b] = mk (T ++ [b]) := mk_add _ _
        have hcv := conv_one wr b
        go_wp2
        go_roundw
        case rel => exact ⟨6, 8, rfl, by omega, by omega, by rw [hT1.out], hb.alloc hbs _⟩
        case measure => simp [intOf]
      · obtain rfl : sh = 8 := by omega
        clear hsh hj hj8
        obtain ⟨b, hb8⟩ : ∃ b, lenB n 8 = b := ⟨_, rfl⟩
        have hbv : ((n : Int) / (256 : Int)) % (256 : Int) = (b.toNat : Int) := by rw [← hb8]; unfold lenB; simp
        have hbw : IntKind.u8.wrap ((n : Int) / (256 : Int)) = (b.toNat : Int) := by rw [← hbv]; simp [IntKind.wrap, IntKind.bits, IntKind.signed]
        obtain ⟨T, hT0⟩ : ∃ T, P0 ++ ([lenB n 56, lenB n 48, lenB n 40, lenB n 32, lenB n 24, lenB n 16, lenB n 8, lenB n 0]).take 6 = T := ⟨_, rfl⟩
        have hT1 : Hid (P0 ++ ([lenB n 56, lenB n 48, lenB n 40, lenB n 32, lenB n 24, lenB n 16, lenB n 8, lenB n 0]).take (6 + 1) = T ++ [b]) := Lib.hid (by rw [← hT0, ← hb8, List.append_assoc]; rfl)
        have hTs : (mk T).size < 100 := by rw [← hT0, mk_size]; simp; omega
        rw [hT0]
        clear hT0 hb8
        have hbsz : (mk [b]).size = 1 := rfl
        have hadd : mk T ++ mk [b] = mk (T ++ [b]) := mk_add _ _
        have hcv := conv_one wr b
        go_wp2
        go_roundw
        case rel => exact ⟨7, 0, rfl, by omega, by omega, by rw [hT1.out], hb.alloc hbs _⟩
        case measure => simp [intOf]
      · obtain rfl : sh = 0 := by omega
        clear hsh hj hj8
        obtain ⟨b, hb8⟩ : ∃ b, lenB n 0 = b := ⟨_, rfl⟩
        have hbv : ((n : Int) / (1 : Int)) % (256 : Int) = (b.toNat : Int) := by rw [← hb8]; unfold lenB; simp
        have hbw : IntKind.u8.wrap ((n : Int) / (1 : Int)) = (b.toNat : Int) := by rw [← hbv]; simp [IntKind.wrap, IntKind.bits, IntKind.signed]
        have hbv0 : (n : Int) % (256 : Int) = (b.toNat : Int) := by simpa using hbv
        have hbw0 : IntKind.u8.wrap (n : Int) = (b.toNat : Int) := by simpa using hbw
        obtain ⟨T, hT0⟩ : ∃ T, P0 ++ ([lenB n 56, lenB n 48, lenB n 40, lenB n 32, lenB n 24, lenB n 16, lenB n 8, lenB n 0]).take 7 = T := ⟨_, rfl⟩
        have hT1 : Hid (P0 ++ ([lenB n 56, lenB n 48, lenB n 40, lenB n 32, lenB n 24, lenB n 16, lenB n 8, lenB n 0]).take (7 + 1) = T ++ [b]) := Lib.hid (by rw [← hT0, ← hb8, List.append_assoc]; rfl)
        have hTs : (mk T).size < 100 := by rw [← hT0, mk_size]; simp; omega
        rw [hT0]
        clear hT0 hb8
        have hbsz : (mk [b]).size = 1 := rfl
        have hadd : mk T ++ mk [b] = mk (T ++ [b]) := mk_add _ _
        have hcv := conv_one wr b
        go_wp2
        go_roundw
        case rel => exact ⟨8, -8, rfl, by omega, by omega, by rw [hT1.out], hb.alloc hbs _⟩
        case measure => simp [intOf]
    · obtain rfl : j = 8 := by omega
      obtain rfl : sh = -8 := by omega
      clear hsh hj hj8
      rw [show P0 ++ ([lenB n 56, lenB n 48, lenB n 40, lenB n 32, lenB n 24, lenB n 16, lenB n 8, lenB n 0]).take 8 = tailL s.size by rw [hT2.out]; rfl]
      obtain ⟨t, ht⟩ : ∃ t, tailL s.size = t := ⟨_, rfl⟩
      rw [ht] at hpad hmod htl2 hadd0 ⊢
      have hadd := hadd0.out
      have hs2 : (mk t).size = t.length := mk_size t
      clear ht hT2 hadd0
      go_wp2_with fail
      obtain ⟨R, hRe⟩ : ∃ R, L ++ t = R := ⟨_, rfl⟩
      have hRm : R.length % 64 = 0 := by rw [← hRe, List.length_append]; exact hmod
      have hRl : R.length ≤ 140737488351432 := by rw [← hRe, List.length_append]; omega
      have hpadR : Hid (padL L = R) := Lib.hid (hpad.out.trans hRe)
      rw [hRe]
      clear hadd hs2 hRe hpad hmod htl2 hP0l hnb hc64 hs hb0 hb1
      have hszR : R.length = 64 * (R.length / 64) := by omega
      go_loopw [0] (fun x wr2 => ∃ (r : List UInt8) (m : Nat) (st : S5), x = .string (mk r) ∧ r.length = 64 * m ∧ m ≤ R.length / 64 ∧ Hid ((chunks (R.length / 64) R).foldl comp1 h = (chunks m r).foldl comp1 st) ∧ C32 wr2 g 33 st.l ∧ Kept (· = g) w wr2) (fun x _ => szOf x)
      case atStart => exact ⟨R, R.length / 64, h, rfl, hszR, Nat.le_refl _, Lib.hid rfl, hh.keep (hb.block g hh.lt), Kept.of_below hb⟩
      case round =>
        obtain ⟨r, m, st, rfl, hrl, hm, hf, hG, hb⟩ := hrel
        have hbs := hb.size
        cases m with
        | zero =>
          obtain rfl : r = [] := List.length_eq_zero_iff.1 (by omega)
          have hem := empty_nil
          have hres : Hid (((chunks ((padL L).length / 64) (padL L)).foldl comp1 h) = st) := Lib.hid (by rw [hpadR.out]; exact hf.out)
          go_wp2
          go_end0
          exact ⟨rfl, by rw [hres.out]; exact hG, hb⟩
        | succ m =>
          have hem : (mk r).toList.isEmpty = false := by
            rw [ByteArray.toList_eq]
            cases r with
            | nil => simp at hrl
            | cons c r => rfl
          have hrs : (mk r).size = r.length := mk_size r
          have hr64 : 64 ≤ r.length := by omega
          have hr64' : 64 ≤ (r.length : Int) := by omega
          go_wp2_with fail
          have hg0 := hG.lt
          obtain ⟨wo, hwo⟩ : ∃ wo, wo = wr := ⟨_, rfl⟩
          rw [← hwo] at hG hb hbs hg0 ⊢
          clear hwo
          go_loopw [39] (fun i wi => ∃ k : Nat, i = .int .i64 k ∧ k ≤ 16 ∧ C32 wi wo.heap.size 36 (wordsN r k ++ List.replicate (16 - k) 0) ∧ Below wo.heap.size wo wi) (fun i _ => 16 - (intOf i).toNat)
          case atStart =>
            refine ⟨0, rfl, by omega, ?_, (Below.refl _ _).alloc (Nat.le_refl _) _⟩
            exact heap_new wo (.cells (List.replicate 16 (W32 0)).toArray 36)
          case round =>
            obtain ⟨k, rfl, hk, hB, hbi⟩ := hrel
            have hbis := hbi.size
            by_cases hk16 : k < 16
            · have hk16' : (k : Int) < 16 := by omega
              have f0 := hB.frozen k
              have cB := hB.cell k (by rw [List.length_append, wordsN_length, List.length_replicate]; omega)
              have i0 : 4 * k < (mk r).size := by omega
              have i1 : 4 * k + 1 < (mk r).size := by omega
              have i2 : 4 * k + 2 < (mk r).size := by omega
              have i3 : 4 * k + 3 < (mk r).size := by omega
              have p0 : 0 ≤ 4 * (k : Int) := by omega
              have p1 : 0 ≤ 4 * (k : Int) + 1 := by omega
              have p2 : 0 ≤ 4 * (k : Int) + 2 := by omega
              have p3 : 0 ≤ 4 * (k : Int) + 3 := by omega
              have j0 : 4 * (k : Int) < ((mk r).size : Int) := by omega
              have j1 : 4 * (k : Int) + 1 < ((mk r).size : Int) := by omega
              have j2 : 4 * (k : Int) + 2 < ((mk r).size : Int) := by omega
              have j3 : 4 * (k : Int) + 3 < ((mk r).size : Int) := by omega
              have v0 : ((((mk r)[4 * k]'i0).toNat : Nat) : Int) = u (r.getD (4 * k) 0).toUInt32 := by rw [← by_u, mk_at]
              have v1 : ((((mk r)[4 * k + 1]'i1).toNat : Nat) : Int) = u (r.getD (4 * k + 1) 0).toUInt32 := by rw [← by_u, mk_at]
              have v2 : ((((mk r)[4 * k + 2]'i2).toNat : Nat) : Int) = u (r.getD (4 * k + 2) 0).toUInt32 := by rw [← by_u, mk_at]
              have v3 : ((((mk r)[4 * k + 3]'i3).toNat : Nat) : Int) = u (r.getD (4 * k + 3) 0).toUInt32 := by rw [← by_u, mk_at]
              have hW : Hid ((wordsN r k ++ List.replicate (16 - k) 0).set k (wordOf (r.getD (4 * k) 0) (r.getD (4 * k + 1) 0) (r.getD (4 * k + 2) 0) (r.getD (4 * k + 3) 0)) = wordsN r (k + 1) ++ List.replicate (16 - (k + 1)) 0) := Lib.hid (wordsN_set r k hk16)
              unfold wordOf at hW
              have hrlH := Lib.hid hrl
              have hrsH := Lib.hid hrs
              clear hrl hrs
              obtain ⟨x0, hx0⟩ : ∃ x, (r.getD (4 * k) 0).toUInt32 = x := ⟨_, rfl⟩
              obtain ⟨x1, hx1⟩ : ∃ x, (r.getD (4 * k + 1) 0).toUInt32 = x := ⟨_, rfl⟩
              obtain ⟨x2, hx2⟩ : ∃ x, (r.getD (4 * k + 2) 0).toUInt32 = x := ⟨_, rfl⟩
              obtain ⟨x3, hx3⟩ : ∃ x, (r.getD (4 * k + 3) 0).toUInt32 = x := ⟨_, rfl⟩
              rw [hx0] at v0 hW
              rw [hx1] at v1 hW
              rw [hx2] at v2 hW
              rw [hx3] at v3 hW
              clear hx0 hx1 hx2 hx3
              go_wp2_with fail
              refine Rt.wp_region_text [0, 0, 0, 0, 0, 0, 0, 0, 0, 0, 0, 0, 0, 0, 0, 0, 0, 0, 0, 0, 0, 0, 0, 0, 0, 0, 0, 0, 0, 0, 0, 2] (by kernel_rfl) (by kernel_rfl) ?_
              apply txt_move rfl rfl; (· (simp only [Act.put, Act.eval, List.setIfInBounds_toArray, List.set_cons_zero, List.set_cons_succ, Array.getD_eq_getD_getElem?, List.getElem?_toArray, List.getElem?_cons_zero, List.getElem?_cons_succ, Option.getD_some]; with_reducible rfl))
              apply txt_move rfl rfl; (· (simp only [Act.put, Act.eval, List.setIfInBounds_toArray, List.set_cons_zero, List.set_cons_succ, Array.getD_eq_getD_getElem?, List.getElem?_toArray, List.getElem?_cons_zero, List.getElem?_cons_succ, Option.getD_some]; with_reducible rfl))
              apply txt_move rfl rfl; (· (simp only [Act.put, Act.eval, List.setIfInBounds_toArray, List.set_cons_zero, List.set_cons_succ, Array.getD_eq_getD_getElem?, List.getElem?_toArray, List.getElem?_cons_zero, List.getElem?_cons_succ, Option.getD_some]; with_reducible rfl))
              apply txt_pure rfl rfl rfl; (· (intro w; go_simp; (try go_bits); with_reducible rfl)); (· (simp only [Act.put, Act.eval, List.setIfInBounds_toArray, List.set_cons_zero, List.set_cons_succ, Array.getD_eq_getD_getElem?, List.getElem?_toArray, List.getElem?_cons_zero, List.getElem?_cons_succ, Option.getD_some]; with_reducible rfl))
              apply txt_pure rfl rfl rfl; (· (intro w; go_simp; (try go_bits); with_reducible rfl)); (· (simp only [Act.put, Act.eval, List.setIfInBounds_toArray, List.set_cons_zero, List.set_cons_succ, Array.getD_eq_getD_getElem?, List.getElem?_toArray, List.getElem?_cons_zero, List.getElem?_cons_succ, Option.getD_some]; with_reducible rfl))
              apply txt_pure rfl rfl rfl; (· (intro w; go_simp; (try go_bits); with_reducible rfl)); (· (simp only [Act.put, Act.eval, List.setIfInBounds_toArray, List.set_cons_zero, List.set_cons_succ, Array.getD_eq_getD_getElem?, List.getElem?_toArray, List.getElem?_cons_zero, List.getElem?_cons_succ, Option.getD_some]; with_reducible rfl))
              apply txt_pure rfl rfl rfl; (· (intro w; go_simp; (try go_bits); with_reducible rfl)); (· (simp only [Act.put, Act.eval, List.setIfInBounds_toArray, List.set_cons_zero, List.set_cons_succ, Array.getD_eq_getD_getElem?, List.getElem?_toArray, List.getElem?_cons_zero, List.getElem?_cons_succ, Option.getD_some]; with_reducible rfl))
              apply txt_move rfl rfl; (· (simp only [Act.put, Act.eval, List.setIfInBounds_toArray, List.set_cons_zero, List.set_cons_succ, Array.getD_eq_getD_getElem?, List.getElem?_toArray, List.getElem?_cons_zero, List.getElem?_cons_succ, Option.getD_some]; with_reducible rfl))
              apply txt_move rfl rfl; (· (simp only [Act.put, Act.eval, List.setIfInBounds_toArray, List.set_cons_zero, List.set_cons_succ, Array.getD_eq_getD_getElem?, List.getElem?_toArray, List.getElem?_cons_zero, List.getElem?_cons_succ, Option.getD_some]; with_reducible rfl))
              apply txt_pure rfl rfl rfl; (· (intro w; go_simp; (try go_bits); with_reducible rfl)); (· (simp only [Act.put, Act.eval, List.setIfInBounds_toArray, List.set_cons_zero, List.set_cons_succ, Array.getD_eq_getD_getElem?, List.getElem?_toArray, List.getElem?_cons_zero, List.getElem?_cons_succ, Option.getD_some]; with_reducible rfl))
              apply txt_pure rfl rfl rfl; (· (intro w; go_simp; (try go_bits); with_reducible rfl)); (· (simp only [Act.put, Act.eval, List.setIfInBounds_toArray, List.set_cons_zero, List.set_cons_succ, Array.getD_eq_getD_getElem?, List.getElem?_toArray, List.getElem?_cons_zero, List.getElem?_cons_succ, Option.getD_some]; with_reducible rfl))
              apply txt_pure rfl rfl rfl; (· (intro w; go_simp; (try go_bits); with_reducible rfl)); (· (simp only [Act.put, Act.eval, List.setIfInBounds_toArray, List.set_cons_zero, List.set_cons_succ, Array.getD_eq_getD_getElem?, List.getElem?_toArray, List.getElem?_cons_zero, List.getElem?_cons_succ, Option.getD_some]; with_reducible rfl))
              apply txt_pure rfl rfl rfl; (· (intro w; go_simp; (try go_bits); with_reducible rfl)); (· (simp only [Act.put, Act.eval, List.setIfInBounds_toArray, List.set_cons_zero, List.set_cons_succ, Array.getD_eq_getD_getElem?, List.getElem?_toArray, List.getElem?_cons_zero, List.getElem?_cons_succ, Option.getD_some]; with_reducible rfl))
              apply txt_pure rfl rfl rfl; (· (intro w; go_simp; (try go_bits); with_reducible rfl)); (· (simp only [Act.put, Act.eval, List.setIfInBounds_toArray, List.set_cons_zero, List.set_cons_succ, Array.getD_eq_getD_getElem?, List.getElem?_toArray, List.getElem?_cons_zero, List.getElem?_cons_succ, Option.getD_some]; with_reducible rfl))
              apply txt_pure rfl rfl rfl; (· (intro w; go_simp; (try go_bits); with_reducible rfl)); (· (simp only [Act.put, Act.eval, List.setIfInBounds_toArray, List.set_cons_zero, List.set_cons_succ, Array.getD_eq_getD_getElem?, List.getElem?_toArray, List.getElem?_cons_zero, List.getElem?_cons_succ, Option.getD_some]; with_reducible rfl))
              apply txt_move rfl rfl; (· (simp only [Act.put, Act.eval, List.setIfInBounds_toArray, List.set_cons_zero, List.set_cons_succ, Array.getD_eq_getD_getElem?, List.getElem?_toArray, List.getElem?_cons_zero, List.getElem?_cons_succ, Option.getD_some]; with_reducible rfl))
              apply txt_move rfl rfl; (· (simp only [Act.put, Act.eval, List.setIfInBounds_toArray, List.set_cons_zero, List.set_cons_succ, Array.getD_eq_getD_getElem?, List.getElem?_toArray, List.getElem?_cons_zero, List.getElem?_cons_succ, Option.getD_some]; with_reducible rfl))
              apply txt_pure rfl rfl rfl; (· (intro w; go_simp; (try go_bits); with_reducible rfl)); (· (simp only [Act.put, Act.eval, List.setIfInBounds_toArray, List.set_cons_zero, List.set_cons_succ, Array.getD_eq_getD_getElem?, List.getElem?_toArray, List.getElem?_cons_zero, List.getElem?_cons_succ, Option.getD_some]; with_reducible rfl))
              apply txt_pure rfl rfl rfl; (· (intro w; go_simp; (try go_bits); with_reducible rfl)); (· (simp only [Act.put, Act.eval, List.setIfInBounds_toArray, List.set_cons_zero, List.set_cons_succ, Array.getD_eq_getD_getElem?, List.getElem?_toArray, List.getElem?_cons_zero, List.getElem?_cons_succ, Option.getD_some]; with_reducible rfl))
              apply txt_pure rfl rfl rfl; (· (intro w; go_simp; (try go_bits); with_reducible rfl)); (· (simp only [Act.put, Act.eval, List.setIfInBounds_toArray, List.set_cons_zero, List.set_cons_succ, Array.getD_eq_getD_getElem?, List.getElem?_toArray, List.getElem?_cons_zero, List.getElem?_cons_succ, Option.getD_some]; with_reducible rfl))
              apply txt_pure rfl rfl rfl; (· (intro w; go_simp; (try go_bits); with_reducible rfl)); (· (simp only [Act.put, Act.eval, List.setIfInBounds_toArray, List.set_cons_zero, List.set_cons_succ, Array.getD_eq_getD_getElem?, List.getElem?_toArray, List.getElem?_cons_zero, List.getElem?_cons_succ, Option.getD_some]; with_reducible rfl))
              apply txt_pure rfl rfl rfl; (· (intro w; go_simp; (try go_bits); with_reducible rfl)); (· (simp only [Act.put, Act.eval, List.setIfInBounds_toArray, List.set_cons_zero, List.set_cons_succ, Array.getD_eq_getD_getElem?, List.getElem?_toArray, List.getElem?_cons_zero, List.getElem?_cons_succ, Option.getD_some]; with_reducible rfl))
              apply txt_pure rfl rfl rfl; (· (intro w; go_simp; (try go_bits); with_reducible rfl)); (· (simp only [Act.put, Act.eval, List.setIfInBounds_toArray, List.set_cons_zero, List.set_cons_succ, Array.getD_eq_getD_getElem?, List.getElem?_toArray, List.getElem?_cons_zero, List.getElem?_cons_succ, Option.getD_some]; with_reducible rfl))
              apply txt_move rfl rfl; (· (simp only [Act.put, Act.eval, List.setIfInBounds_toArray, List.set_cons_zero, List.set_cons_succ, Array.getD_eq_getD_getElem?, List.getElem?_toArray, List.getElem?_cons_zero, List.getElem?_cons_succ, Option.getD_some]; with_reducible rfl))
              apply txt_move rfl rfl; (· (simp only [Act.put, Act.eval, List.setIfInBounds_toArray, List.set_cons_zero, List.set_cons_succ, Array.getD_eq_getD_getElem?, List.getElem?_toArray, List.getElem?_cons_zero, List.getElem?_cons_succ, Option.getD_some]; with_reducible rfl))
              apply txt_pure rfl rfl rfl; (· (intro w; go_simp; (try go_bits); with_reducible rfl)); (· (simp only [Act.put, Act.eval, List.setIfInBounds_toArray, List.set_cons_zero, List.set_cons_succ, Array.getD_eq_getD_getElem?, List.getElem?_toArray, List.getElem?_cons_zero, List.getElem?_cons_succ, Option.getD_some]; with_reducible rfl))
              apply txt_pure rfl rfl rfl; (· (intro w; go_simp; (try go_bits); with_reducible rfl)); (· (simp only [Act.put, Act.eval, List.setIfInBounds_toArray, List.set_cons_zero, List.set_cons_succ, Array.getD_eq_getD_getElem?, List.getElem?_toArray, List.getElem?_cons_zero, List.getElem?_cons_succ, Option.getD_some]; with_reducible rfl))
              apply txt_pure rfl rfl rfl; (· (intro w; go_simp; (try go_bits); with_reducible rfl)); (· (simp only [Act.put, Act.eval, List.setIfInBounds_toArray, List.set_cons_zero, List.set_cons_succ, Array.getD_eq_getD_getElem?, List.getElem?_toArray, List.getElem?_cons_zero, List.getElem?_cons_succ, Option.getD_some]; with_reducible rfl))
              apply txt_pure rfl rfl rfl; (· (intro w; go_simp; (try go_bits); with_reducible rfl)); (· (simp only [Act.put, Act.eval, List.setIfInBounds_toArray, List.set_cons_zero, List.set_cons_succ, Array.getD_eq_getD_getElem?, List.getElem?_toArray, List.getElem?_cons_zero, List.getElem?_cons_succ, Option.getD_some]; with_reducible rfl))
              apply txt_pure rfl rfl rfl; (· (intro w; go_simp; (try go_bits); with_reducible rfl)); (· (simp only [Act.put, Act.eval, List.setIfInBounds_toArray, List.set_cons_zero, List.set_cons_succ, Array.getD_eq_getD_getElem?, List.getElem?_toArray, List.getElem?_cons_zero, List.getElem?_cons_succ, Option.getD_some]; with_reducible rfl))
              apply txt_pure rfl rfl rfl; (· (intro w; go_simp; (try go_bits); with_reducible rfl)); (· (simp only [Act.put, Act.eval, List.setIfInBounds_toArray, List.set_cons_zero, List.set_cons_succ, Array.getD_eq_getD_getElem?, List.getElem?_toArray, List.getElem?_cons_zero, List.getElem?_cons_succ, Option.getD_some]; with_reducible rfl))
              apply txt_do rfl rfl rfl; (· (go_simp; with_reducible rfl)); (· (simp only [Act.put, Act.eval, List.setIfInBounds_toArray, List.set_cons_zero, List.set_cons_succ, Array.getD_eq_getD_getElem?, List.getElem?_toArray, List.getElem?_cons_zero, List.getElem?_cons_succ, Option.getD_some]; with_reducible rfl))
              with_reducible refine txt_nil ?_
              go_wp2_with fail
              go_roundw
              case rel =>
                refine ⟨k + 1, by go_num, by omega, ?_, (hbi.setCell (by simp) _).drew⟩
                have := (hB.set k (by rw [List.length_append, wordsN_length, List.length_replicate]; omega) (((x0 <<< 24) ||| (x1 <<< 16) ||| (x2 <<< 8)) ||| x3)).drew
                rw [hW.out] at this
                exact this
              case measure => simp [intOf]; omega
            · obtain rfl : k = 16 := by omega
              clear hk hk16
              rw [show List.replicate (16 - 16) (0 : UInt32) = [] by rfl, List.append_nil] at hB
              have hG2 := hG.keep (hbi.block g hg0)
              have hb2 : Kept (· = g) w wr := hb.trans (Kept.of_below hbi)
              go_upto_region 15 with (fail)
              refine Rt.wp_region_seq [0, 2, 2] ?_
              apply txt_move rfl rfl; (· (simp only [Act.put, Act.eval, List.setIfInBounds_toArray, List.set_cons_zero, List.set_cons_succ, Array.getD_eq_getD_getElem?, List.getElem?_toArray, List.getElem?_cons_zero, List.getElem?_cons_succ, Option.getD_some]; with_reducible rfl))
              refine txt_act rfl rfl rfl fun K hK => wp_load_row 36 (.tmp 7) rfl wo.heap.size rfl 36 _ (0, 0) _ hB Try.underlying36 rfl (by kernel_rfl) (hK _ _ ?_)
              clear K hK
              simp only [Act.put, Act.eval, List.setIfInBounds_toArray, List.set_cons_zero, List.set_cons_succ, Array.getD_eq_getD_getElem?, List.getElem?_toArray, List.getElem?_cons_zero, List.getElem?_cons_succ, Option.getD_some]
              refine txt_call rfl rfl rfl (by go_simp; exact ⟨⟨rfl, rfl⟩, rfl⟩) ?_
              refine (c22 st (wordsN r 16) (wordsN_length _ _) g wr hG2).mono ?_
              rintro e w3 ⟨rfl, hG3, hk3⟩
              refine ⟨_, rfl, ?_⟩
              simp only [Act.put, Act.eval, List.setIfInBounds_toArray, List.set_cons_zero, List.set_cons_succ, Array.getD_eq_getD_getElem?, List.getElem?_toArray, List.getElem?_cons_zero, List.getElem?_cons_succ, Option.getD_some]
              with_reducible refine txt_nil ?_
              have hext : (mk r).extract 64 r.length = mk (r.drop 64) := by rw [mk_extract]; congr 1; rw [List.take_of_length_le (by simp)]
              have hrl64 : (r.drop 64).length = 64 * m := by rw [List.length_drop]; omega
              have hf2 : Hid ((chunks (R.length / 64) R).foldl comp1 h = (chunks m (r.drop 64)).foldl comp1 (comp1 st (wordsN r 16))) := Lib.hid (by rw [hf.out, chunks_succ, List.foldl_cons])
              have hk4 : Kept (· = g) w w3 := hb2.trans hk3
              have hszd : szOf (.string (mk (r.drop 64))) = (r.drop 64).length := rfl
              clear hrl
              go_wp2
              go_roundw
              case rel => exact ⟨r.drop 64, m, comp1 st (wordsN r 16), rfl, hrl64, by omega, hf2, hG3, hk4⟩
              case measure => rw [hszd, szOf_str, mk_size, List.length_drop]; omega
set_option maxRecDepth 100000 in
set_option maxHeartbeats 4000000 in
theorem blocks2 (L : List UInt8) (hsL : L.length ≤ 140737488351232) (ks : List UInt32) (kl : ks.length = 64) (h : S8) (g kb : Nat) (hgk : kb ≠ g) (w : World) (hh : C32 w g 43 h.l) (hK : C32 w kb 44 ks) :
    Calls Try.prog 21 #[.string (mk L), .func (.func 30) #[] #[.pointer (some ⟨g, 0, none⟩), .pointer (some ⟨kb, 0, none⟩)]] w fun e W' => e = .returned (.tuple #[]) ∧ C32 W' g 43 ((chunks ((padL L).length / 64) (padL L)).foldl (comp2 ks) h).l ∧ Kept (· = g) w W' := by
  obtain ⟨s, hs0⟩ : ∃ s, mk L = s := ⟨_, rfl⟩
  have hsz : s.size = L.length := by rw [← hs0]; rfl
  have hs : s.size ≤ 140737488351232 := by omega
  have hpad : Hid (padL L = L ++ tailL s.size) := Lib.hid (by rw [hsz]; rfl)
  have hmod : (L.length + (tailL s.size).length) % 64 = 0 := by rw [hsz]; exact tailL_length _
  have htl2 : (tailL s.size).length ≤ 200 := by simp [tailL]; omega
  have hadd0 : Hid (s ++ mk (tailL s.size) = mk (L ++ tailL s.size)) := Lib.hid (by rw [← hs0]; exact mk_add _ _)
  rw [hs0]
  have hszL := Lib.hid hsz
  clear hs0 hsz
  have h0 : 0 ≤ (119 - (s.size : Int) % 64) := by omega
  have e1 : IntKind.u64.wrap ((s.size : Int) * 8) = ((8 * s.size : Nat) : Int) := by simp [IntKind.wrap, IntKind.bits, IntKind.signed]; omega
  obtain ⟨n, hn⟩ : ∃ n, 8 * s.size = n := ⟨_, rfl⟩
  rw [hn] at e1
  obtain ⟨c, hc⟩ : ∃ c, (119 - s.size % 64) % 64 = c := ⟨_, rfl⟩
  have e2 : (119 - (s.size : Int) % 64) % 64 = (c : Int) := by omega
  have hc64 : c < 64 := by omega
  have hnb : n < 2 ^ 51 := by omega
  have hT : Hid (tailL s.size = 128 :: (List.replicate c 0 ++ [lenB n 56, lenB n 48, lenB n 40, lenB n 32, lenB n 24, lenB n 16, lenB n 8, lenB n 0])) := Lib.hid (by unfold tailL; rw [hc, hn])
  clear hn hc
  have hb0 := Below.refl w.heap.size w
  go_enter Try.func21, Try.ntmps21
  go_wp2_with fail
  refine (Try.strings_Repeat (mk [0]) c _ (by omega) (by rw [mk_size]; simp; omega)).mono ?_
  rintro e w1 ⟨rfl, hb1⟩
  rw [mk_data, repeatL_zero]
  have hR : Hid (⟨#[128]⟩ ++ mk (List.replicate c 0) = mk (128 :: List.replicate c 0)) := Lib.hid (mk_add [128] _)
  have hRs : (mk (List.replicate c 0)).size = c := by rw [mk_size]; simp
  obtain ⟨z, hz⟩ : ∃ z, mk (List.replicate c (0 : UInt8)) = z := ⟨_, rfl⟩
  rw [show (⟨(List.replicate c (0 : UInt8)).toArray⟩ : ByteArray) = z from hz]
  rw [hz] at hR hRs
  clear hz
  have hR2 := hR.out
  go_wp2_with fail
  clear hR2 hR hRs h0 e1 e2
  obtain ⟨P0, hP0⟩ : ∃ P0, 128 :: List.replicate c (0 : UInt8) = P0 := ⟨_, rfl⟩
  have hT2 : Hid (tailL s.size = P0 ++ [lenB n 56, lenB n 48, lenB n 40, lenB n 32, lenB n 24, lenB n 16, lenB n 8, lenB n 0]) := Lib.hid (by rw [hT.out, ← hP0]; rfl)
  have hP0l : P0.length < 65 := by rw [← hP0]; simp; omega
  rw [hP0]
  clear hP0 hT
  go_loopw [6, 5] (fun i t wr => ∃ (j : Nat) (sh : Int), i = .int .i64 sh ∧ sh = 56 - 8 * (j : Int) ∧ j ≤ 8 ∧ t = .string (mk (P0 ++ ([lenB n 56, lenB n 48, lenB n 40, lenB n 32, lenB n 24, lenB n 16, lenB n 8, lenB n 0]).take j)) ∧ Below w.heap.size w wr) (fun i _ _ => (intOf i + 8).toNat)
  case atStart => exact ⟨0, 56, rfl, by omega, by omega, by simp, hb1⟩
  case round =>
    obtain ⟨j, sh, rfl, hsh, hj, rfl, hb⟩ := hrel
    have hbs := hb.size
    by_cases hj8 : j < 8
    · rcases (show j = 0 ∨ j = 1 ∨ j = 2 ∨ j = 3 ∨ j = 4 ∨ j = 5 ∨ j = 6 ∨ j = 7 by omega) with rfl | rfl | rfl | rfl | rfl | rfl | rfl | rfl
      · obtain rfl : sh = 56 := by omega
        clear hsh hj hj8
        obtain ⟨b, hb8⟩ : ∃ b, lenB n 56 = b := ⟨_, rfl⟩
        have hbv : ((n : Int) / (72057594037927936 : Int)) % (256 : Int) = (b.toNat : Int) := by rw [← hb8]; unfold lenB; simp
        have hbw : IntKind.u8.wrap ((n : Int) / (72057594037927936 : Int)) = (b.toNat : Int) := by rw [← hbv]; simp [IntKind.wrap, IntKind.bits, IntKind.signed]
        obtain ⟨T, hT0⟩ : ∃ T, P0 ++ ([lenB n 56, lenB n 48, lenB n 40, lenB n 32, lenB n 24, lenB n 16, lenB n 8, lenB n 0]).take 0 = T := ⟨_, rfl⟩
        have hT1 : Hid (P0 ++ ([lenB n 56, lenB n 48, lenB n 40, lenB n 32, lenB n 24, lenB n 16, lenB n 8, lenB n 0]).take (0 + 1) = T ++ [b]) := Lib.hid (by rw [← hT0, ← hb8, List.append_assoc]; rfl)
        have hTs : (mk T).size < 100 := by rw [← hT0, mk_size]; simp; omega
        rw [hT0]
        clear hT0 hb8
        have hbsz : (mk [b]).size = 1 := rfl
        have hadd : mk T ++ mk [b] = mk (T ++ [b]) := mk_add _ _
        have hcv := conv_one wr b
        go_wp2
        go_roundw
        case rel => exact ⟨1, 48, rfl, by omega, by omega, by rw [hT1.out], hb.alloc hbs _⟩
        case measure => simp [intOf]
      · obtain rfl : sh = 48 := by omega
        clear hsh hj hj8
        obtain ⟨b, hb8⟩ : ∃ b, lenB n 48 = b := ⟨_, rfl⟩
        have hbv : ((n : Int) / (281474976710656 : Int)) % (256 : Int) = (b.toNat : Int) := by rw [← hb8]; unfold lenB; simp
        have hbw : IntKind.u8.wrap ((n : Int) / (281474976710656 : Int)) = (b.toNat : Int) := by rw [← hbv]; simp [IntKind.wrap, IntKind.bits, IntKind.signed]
        obtain ⟨T, hT0⟩ : ∃ T, P0 ++ ([lenB n 56, lenB n 48, lenB n 40, lenB n 32, lenB n 24, lenB n 16, lenB n 8, lenB n 0]).take 1 = T := ⟨_, rfl⟩
        have hT1 : Hid (P0 ++ ([lenB n 56, lenB n 48, lenB n 40, lenB n 32, lenB n 24, lenB n 16, lenB n 8, lenB n 0]).take (1 + 1) = T ++ [b]) := Lib.hid (by rw [← hT0, ← hb8, List.append_assoc]; rfl)
        have hTs : (mk T).size < 100 := by rw [← hT0, mk_size]; simp; omega
        rw [hT0]
        clear hT0 hb8
        have hbsz : (mk [b]).size = 1 := rfl
        have hadd : mk T ++ mk [b] = mk (T ++ [b]) := mk_add _ _
        have hcv := conv_one wr b
        go_wp2
        go_roundw
        case rel => exact ⟨2, 40, rfl, by omega, by omega, by rw [hT1.out], hb.alloc hbs _⟩
        case measure => simp [intOf]
      · obtain rfl : sh = 40 := by omega
        clear hsh hj hj8
        obtain ⟨b, hb8⟩ : ∃ b, lenB n 40 = b := ⟨_, rfl⟩
        have hbv : ((n : Int) / (1099511627776 : Int)) % (256 : Int) = (b.toNat : Int) := by rw [← hb8]; unfold lenB; simp
        have hbw : IntKind.u8.wrap ((n : Int) / (1099511627776 : Int)) = (b.toNat : Int) := by rw [← hbv]; simp [IntKind.wrap, IntKind.bits, IntKind.signed]
        obtain ⟨T, hT0⟩ : ∃ T, P0 ++ ([lenB n 56, lenB n 48, lenB n 40, lenB n 32, lenB n 24, lenB n 16, lenB n 8, lenB n 0]).take 2 = T := ⟨_, rfl⟩
        have hT1 : Hid (P0 ++ ([lenB n 56, lenB n 48, lenB n 40, lenB n 32, lenB n 24, lenB n 16, lenB n 8, lenB n 0]).take (2 + 1) = T ++ [b]) := Lib.hid (by rw [← hT0, ← hb8, List.append_assoc]; rfl)
        have hTs : (mk T).size < 100 := by rw [← hT0, mk_size]; simp; omega
        rw [hT0]
        clear hT0 hb8
        have hbsz : (mk [b]).size = 1 := rfl
        have hadd : mk T ++ mk [b] = mk (T ++ [b]) := mk_add _ _
        have hcv := conv_one wr b
        go_wp2
        go_roundw
        case rel => exact ⟨3, 32, rfl, by omega, by omega, by rw [hT1.out], hb.alloc hbs _⟩
        case measure => simp [intOf]
      · obtain rfl : sh = 32 := by omega
        clear hsh hj hj8
        obtain ⟨b, hb8⟩ : ∃ b, lenB n 32 = b := ⟨_, rfl⟩
        have hbv : ((n : Int) / (4294967296 : Int)) % (256 : Int) = (b.toNat : Int) := by rw [← hb8]; unfold lenB; simp
        have hbw : IntKind.u8.wrap ((n : Int) / (4294967296 : Int)) = (b.toNat : Int) := by rw [← hbv]; simp [IntKind.wrap, IntKind.bits, IntKind.signed]
        obtain ⟨T, hT0⟩ : ∃ T, P0 ++ ([lenB n 56, lenB n 48, lenB n 40, lenB n 32, lenB n 24, lenB n 16, lenB n 8, lenB n 0]).take 3 = T := ⟨_, rfl⟩
        have hT1 : Hid (P0 ++ ([lenB n 56, lenB n 48, lenB n 40, lenB n 32, lenB n 24, lenB n 16, lenB n 8, lenB n 0]).take (3 + 1) = T ++ [b]) := Lib.hid (by rw [← hT0, ← hb8, List.append_assoc]; rfl)
        have hTs : (mk T).size < 100 := by rw [← hT0, mk_size]; simp; omega
        rw [hT0]
        clear hT0 hb8
        have hbsz : (mk [b]).size = 1 := rfl
        have hadd : mk T ++ mk [b] = mk (T ++ [b]) := mk_add _ _
        have hcv := conv_one wr b
        go_wp2
        go_roundw
        case rel => exact ⟨4, 24, rfl, by omega, by omega, by rw [hT1.out], hb.alloc hbs _⟩
        case measure => simp [intOf]
      · obtain rfl : sh = 24 := by omega
        clear hsh hj hj8
        obtain ⟨b, hb8⟩ : ∃ b, lenB n 24 = b := ⟨_, rfl⟩
        have hbv : ((n : Int) / (16777216 : Int)) % (256 : Int) = (b.toNat : Int) := by rw [← hb8]; unfold lenB; simp
        have hbw : IntKind.u8.wrap ((n : Int) / (16777216 : Int)) = (b.toNat : Int) := by rw [← hbv]; simp [IntKind.wrap, IntKind.bits, IntKind.signed]
        obtain ⟨T, hT0⟩ : ∃ T, P0 ++ ([lenB n 56, lenB n 48, lenB n 40, lenB n 32, lenB n 24, lenB n 16, lenB n 8, lenB n 0]).take 4 = T := ⟨_, rfl⟩
        have hT1 : Hid (P0 ++ ([lenB n 56, lenB n 48, lenB n 40, lenB n 32, lenB n 24, lenB n 16, lenB n 8, lenB n 0]).take (4 + 1) = T ++ [b]) := Lib.hid (by rw [← hT0, ← hb8, List.append_assoc]; rfl)
        have hTs : (mk T).size < 100 := by rw [← hT0, mk_size]; simp; omega
        rw [hT0]
        clear hT0 hb8
        have hbsz : (mk [b]).size = 1 := rfl
        have hadd : mk T ++ mk [b] = mk (T ++ [b]) := mk_add _ _
        have hcv := conv_one wr b
        go_wp2
        go_roundw
        case rel => exact ⟨5, 16, rfl, by omega, by omega, by rw [hT1.out], hb.alloc hbs _⟩
        case measure => simp [intOf]
      · obtain rfl : sh = 16 := by omega
        clear hsh hj hj8
        obtain ⟨b, hb8⟩ : ∃ b, lenB n 16 = b := ⟨_, rfl⟩
        have hbv : ((n : Int) / (65536 : Int)) % (256 : Int) = (b.toNat : Int) := by rw [← hb8]; unfold lenB; simp
        have hbw : IntKind.u8.wrap ((n : Int) / (65536 : Int)) = (b.toNat : Int) := by rw [← hbv]; simp [IntKind.wrap, IntKind.bits, IntKind.signed]
        obtain ⟨T, hT0⟩ : ∃ T, P0 ++ ([lenB n 56, lenB n 48, lenB n 40, lenB n 32, lenB n 24, lenB n 16, lenB n 8, lenB n 0]).take 5 = T := ⟨_, rfl⟩
        have hT1 : Hid (P0 ++ ([lenB n 56, lenB n 48, lenB n 40, lenB n 32, lenB n 24, lenB n 16, lenB n 8, lenB n 0]).take (5 + 1) = T ++ [b]) := Lib.hid (by rw [← hT0, ← hb8, List.append_assoc]; rfl)
        have hTs : (mk T).size < 100 := by rw [← hT0, mk_size]; simp; omega
        rw [hT0]
        clear hT0 hb8
        have hbsz : (mk [b]).size = 1 := rfl
        have hadd : mk T ++ mk [b] = mk (T ++ [b]) := mk_add _ _
        have hcv := conv_one wr b
        go_wp2
        go_roundw
        case rel => exact ⟨6, 8, rfl, by omega, by omega, by rw [hT1.out], hb.alloc hbs _⟩
        case measure => simp [intOf]
      · obtain rfl : sh = 8 := by omega
        clear hsh hj hj8
        obtain ⟨b, hb8⟩ : ∃ b, lenB n 8 = b := ⟨_, rfl⟩
        have hbv : ((n : Int) / (256 : Int)) % (256 : Int) = (b.toNat : Int) := by rw [← hb8]; unfold lenB; simp
        have hbw : IntKind.u8.wrap ((n : Int) / (256 : Int)) = (b.toNat : Int) := by rw [← hbv]; simp [IntKind.wrap, IntKind.bits, IntKind.signed]
        obtain ⟨T, hT0⟩ : ∃ T, P0 ++ ([lenB n 56, lenB n 48, lenB n 40, lenB n 32, lenB n 24, lenB n 16, lenB n 8, lenB n 0]).take 6 = T := ⟨_, rfl⟩
        have hT1 : Hid (P0 ++ ([lenB n 56, lenB n 48, lenB n 40, lenB n 32, lenB n 24, lenB n 16, lenB n 8, lenB n 0]).take (6 + 1) = T ++ [b]) := Lib.hid (by rw [← hT0, ← hb8, List.append_assoc]; rfl)
        have hTs : (mk T).size < 100 := by rw [← hT0, mk_size]; simp; omega
        rw [hT0]
        clear hT0 hb8
        have hbsz : (mk [b]).size = 1 := rfl
        have hadd : mk T ++ mk [b] = mk (T ++ [b]) := mk_add _ _
        have hcv := conv_one wr b
        go_wp2
        go_roundw
        case rel => exact ⟨7, 0, rfl, by omega, by omega, by rw [hT1.out], hb.alloc hbs _⟩
        case measure => simp [intOf]
      · obtain rfl : sh = 0 := by omega
        clear hsh hj hj8
        obtain ⟨b, hb8⟩ : ∃ b, lenB n 0 = b := ⟨_, rfl⟩
        have hbv : ((n : Int) / (1 : Int)) % (256 : Int) = (b.toNat : Int) := by rw [← hb8]; unfold lenB; simp
        have hbw : IntKind.u8.wrap ((n : Int) / (1 : Int)) = (b.toNat : Int) := by rw [← hbv]; simp [IntKind.wrap, IntKind.bits, IntKind.signed]
        have hbv0 : (n : Int) % (256 : Int) = (b.toNat : Int) := by simpa using hbv
        have hbw0 : IntKind.u8.wrap (n : Int) = (b.toNat : Int) := by simpa using hbw
        obtain ⟨T, hT0⟩ : ∃ T, P0 ++ ([lenB n 56, lenB n 48, lenB n 40, lenB n 32, lenB n 24, lenB n 16, lenB n 8, lenB n 0]).take 7 = T := ⟨_, rfl⟩
        have hT1 : Hid (P0 ++ ([lenB n 56, lenB n 48, lenB n 40, lenB n 32, lenB n 24, lenB n 16, lenB n 8, lenB n 0]).take (7 + 1) = T ++ [b]) := Lib.hid (by rw [← hT0, ← hb8, List.append_assoc]; rfl)
        have hTs : (mk T).size < 100 := by rw [← hT0, mk_size]; simp; omega
        rw [hT0]
        clear hT0 hb8
        have hbsz : (mk [b]).size = 1 := rfl
        have hadd : mk T ++ mk [b] = mk (T ++ [b]) := mk_add _ _
        have hcv := conv_one wr b
        go_wp2
        go_roundw
        case rel => exact ⟨8, -8, rfl, by omega, by omega, by rw [hT1.out], hb.alloc hbs _⟩
        case measure => simp [intOf]
    · obtain rfl : j = 8 := by omega
      obtain rfl : sh = -8 := by omega
      clear hsh hj hj8
      rw [show P0 ++ ([lenB n 56, lenB n 48, lenB n 40, lenB n 32, lenB n 24, lenB n 16, lenB n 8, lenB n 0]).take 8 = tailL s.size by rw [hT2.out]; rfl]
      obtain ⟨t, ht⟩ : ∃ t, tailL s.size = t := ⟨_, rfl⟩
      rw [ht] at hpad hmod htl2 hadd0 ⊢
      have hadd := hadd0.out
      have hs2 : (mk t).size = t.length := mk_size t
      clear ht hT2 hadd0
      go_wp2_with fail
      obtain ⟨R, hRe⟩ : ∃ R, L ++ t = R := ⟨_, rfl⟩
      have hRm : R.length % 64 = 0 := by rw [← hRe, List.length_append]; exact hmod
      have hRl : R.length ≤ 140737488351432 := by rw [← hRe, List.length_append]; omega
      have hpadR : Hid (padL L = R) := Lib.hid (hpad.out.trans hRe)
      rw [hRe]
      clear hadd hs2 hRe hpad hmod htl2 hP0l hnb hc64 hs hb0 hb1
      have hszR : R.length = 64 * (R.length / 64) := by omega
      go_loopw [0] (fun x wr2 => ∃ (r : List UInt8) (m : Nat) (st : S8), x = .string (mk r) ∧ r.length = 64 * m ∧ m ≤ R.length / 64 ∧ Hid ((chunks (R.length / 64) R).foldl (comp2 ks) h = (chunks m r).foldl (comp2 ks) st) ∧ C32 wr2 g 43 st.l ∧ Kept (· = g) w wr2) (fun x _ => szOf x)
      case atStart => exact ⟨R, R.length / 64, h, rfl, hszR, Nat.le_refl _, Lib.hid rfl, hh.keep (hb.block g hh.lt), Kept.of_below hb⟩
      case round =>
        obtain ⟨r, m, st, rfl, hrl, hm, hf, hG, hb⟩ := hrel
        have hbs := hb.size
        cases m with
        | zero =>
          obtain rfl : r = [] := List.length_eq_zero_iff.1 (by omega)
          have hem := empty_nil
          have hres : Hid (((chunks ((padL L).length / 64) (padL L)).foldl (comp2 ks) h) = st) := Lib.hid (by rw [hpadR.out]; exact hf.out)
          go_wp2
          go_end0
          exact ⟨rfl, by rw [hres.out]; exact hG, hb⟩
        | succ m =>
          have hem : (mk r).toList.isEmpty = false := by
            rw [ByteArray.toList_eq]
            cases r with
            | nil => simp at hrl
            | cons c r => rfl
          have hrs : (mk r).size = r.length := mk_size r
          have hr64 : 64 ≤ r.length := by omega
          have hr64' : 64 ≤ (r.length : Int) := by omega
          go_wp2_with fail
          have hg0 := hG.lt
          obtain ⟨wo, hwo⟩ : ∃ wo, wo = wr := ⟨_, rfl⟩
          rw [← hwo] at hG hb hbs hg0 ⊢
          clear hwo
          go_loopw [39] (fun i wi => ∃ k : Nat, i = .int .i64 k ∧ k ≤ 16 ∧ C32 wi wo.heap.size 36 (wordsN r k ++ List.replicate (16 - k) 0) ∧ Below wo.heap.size wo wi) (fun i _ => 16 - (intOf i).toNat)
          case atStart =>
            refine ⟨0, rfl, by omega, ?_, (Below.refl _ _).alloc (Nat.le_refl _) _⟩
            exact heap_new wo (.cells (List.replicate 16 (W32 0)).toArray 36)
          case round =>
            obtain ⟨k, rfl, hk, hB, hbi⟩ := hrel
            have hbis := hbi.size
            by_cases hk16 : k < 16
            · have hk16' : (k : Int) < 16 := by omega
              have f0 := hB.frozen k
              have cB := hB.cell k (by rw [List.length_append, wordsN_length, List.length_replicate]; omega)
              have i0 : 4 * k < (mk r).size := by omega
              have i1 : 4 * k + 1 < (mk r).size := by omega
              have i2 : 4 * k + 2 < (mk r).size := by omega
              have i3 : 4 * k + 3 < (mk r).size := by omega
              have p0 : 0 ≤ 4 * (k : Int) := by omega
              have p1 : 0 ≤ 4 * (k : Int) + 1 := by omega
              have p2 : 0 ≤ 4 * (k : Int) + 2 := by omega
              have p3 : 0 ≤ 4 * (k : Int) + 3 := by omega
              have j0 : 4 * (k : Int) < ((mk r).size : Int) := by omega
              have j1 : 4 * (k : Int) + 1 < ((mk r).size : Int) := by omega
              have j2 : 4 * (k : Int) + 2 < ((mk r).size : Int) := by omega
              have j3 : 4 * (k : Int) + 3 < ((mk r).size : Int) := by omega
              have v0 : ((((mk r)[4 * k]'i0).toNat : Nat) : Int) = u (r.getD (4 * k) 0).toUInt32 := by rw [← by_u, mk_at]
              have v1 : ((((mk r)[4 * k + 1]'i1).toNat : Nat) : Int) = u (r.getD (4 * k + 1) 0).toUInt32 := by rw [← by_u, mk_at]
              have v2 : ((((mk r)[4 * k + 2]'i2).toNat : Nat) : Int) = u (r.getD (4 * k + 2) 0).toUInt32 := by rw [← by_u, mk_at]
              have v3 : ((((mk r)[4 * k + 3]'i3).toNat : Nat) : Int) = u (r.getD (4 * k + 3) 0).toUInt32 := by rw [← by_u, mk_at]
              have hW : Hid ((wordsN r k ++ List.replicate (16 - k) 0).set k (wordOf (r.getD (4 * k) 0) (r.getD (4 * k + 1) 0) (r.getD (4 * k + 2) 0) (r.getD (4 * k + 3) 0)) = wordsN r (k + 1) ++ List.replicate (16 - (k + 1)) 0) := Lib.hid (wordsN_set r k hk16)
              unfold wordOf at hW
              have hrlH := Lib.hid hrl
              have hrsH := Lib.hid hrs
              clear hrl hrs
              obtain ⟨x0, hx0⟩ : ∃ x, (r.getD (4 * k) 0).toUInt32 = x := ⟨_, rfl⟩
              obtain ⟨x1, hx1⟩ : ∃ x, (r.getD (4 * k + 1) 0).toUInt32 = x := ⟨_, rfl⟩
              obtain ⟨x2, hx2⟩ : ∃ x, (r.getD (4 * k + 2) 0).toUInt32 = x := ⟨_, rfl⟩
              obtain ⟨x3, hx3⟩ : ∃ x, (r.getD (4 * k + 3) 0).toUInt32 = x := ⟨_, rfl⟩
              rw [hx0] at v0 hW
              rw [hx1] at v1 hW
              rw [hx2] at v2 hW
              rw [hx3] at v3 hW
              clear hx0 hx1 hx2 hx3
              go_wp2_with fail
              refine Rt.wp_region_text [0, 0, 0, 0, 0, 0, 0, 0, 0, 0, 0, 0, 0, 0, 0, 0, 0, 0, 0, 0, 0, 0, 0, 0, 0, 0, 0, 0, 0, 0, 0, 2] (by kernel_rfl) (by kernel_rfl) ?_
              apply txt_move rfl rfl; (· (simp only [Act.put, Act.eval, List.setIfInBounds_toArray, List.set_cons_zero, List.set_cons_succ, Array.getD_eq_getD_getElem?, List.getElem?_toArray, List.getElem?_cons_zero, List.getElem?_cons_succ, Option.getD_some]; with_reducible rfl))
              apply txt_move rfl rfl; (· (simp only [Act.put, Act.eval, List.setIfInBounds_toArray, List.set_cons_zero, List.set_cons_succ, Array.getD_eq_getD_getElem?, List.getElem?_toArray, List.getElem?_cons_zero, List.getElem?_cons_succ, Option.getD_some]; with_reducible rfl))
              apply txt_move rfl rfl; (· (simp only [Act.put, Act.eval, List.setIfInBounds_toArray, List.set_cons_zero, List.set_cons_succ, Array.getD_eq_getD_getElem?, List.getElem?_toArray, List.getElem?_cons_zero, List.getElem?_cons_succ, Option.getD_some]; with_reducible rfl))
              apply txt_pure rfl rfl rfl; (· (intro w; go_simp; (try go_bits); with_reducible rfl)); (· (simp only [Act.put, Act.eval, List.setIfInBounds_toArray, List.set_cons_zero, List.set_cons_succ, Array.getD_eq_getD_getElem?, List.getElem?_toArray, List.getElem?_cons_zero, List.getElem?_cons_succ, Option.getD_some]; with_reducible rfl))
              apply txt_pure rfl rfl rfl; (· (intro w; go_simp; (try go_bits); with_reducible rfl)); (· (simp only [Act.put, Act.eval, List.setIfInBounds_toArray, List.set_cons_zero, List.set_cons_succ, Array.getD_eq_getD_getElem?, List.getElem?_toArray, List.getElem?_cons_zero, List.getElem?_cons_succ, Option.getD_some]; with_reducible rfl))
              apply txt_pure rfl rfl rfl; (· (intro w; go_simp; (try go_bits); with_reducible rfl)); (· (simp only [Act.put, Act.eval, List.setIfInBounds_toArray, List.set_cons_zero, List.set_cons_succ, Array.getD_eq_getD_getElem?, List.getElem?_toArray, List.getElem?_cons_zero, List.getElem?_cons_succ, Option.getD_some]; with_reducible rfl))
              apply txt_pure rfl rfl rfl; (· (intro w; go_simp; (try go_bits); with_reducible rfl)); (· (simp only [Act.put, Act.eval, List.setIfInBounds_toArray, List.set_cons_zero, List.set_cons_succ, Array.getD_eq_getD_getElem?, List.getElem?_toArray, List.getElem?_cons_zero, List.getElem?_cons_succ, Option.getD_some]; with_reducible rfl))
              apply txt_move rfl rfl; (· (simp only [Act.put, Act.eval, List.setIfInBounds_toArray, List.set_cons_zero, List.set_cons_succ, Array.getD_eq_getD_getElem?, List.getElem?_toArray, List.getElem?_cons_zero, List.getElem?_cons_succ, Option.getD_some]; with_reducible rfl))
              apply txt_move rfl rfl; (· (simp only [Act.put, Act.eval, List.setIfInBounds_toArray, List.set_cons_zero, List.set_cons_succ, Array.getD_eq_getD_getElem?, List.getElem?_toArray, List.getElem?_cons_zero, List.getElem?_cons_succ, Option.getD_some]; with_reducible rfl))
              apply txt_pure rfl rfl rfl; (· (intro w; go_simp; (try go_bits); with_reducible rfl)); (· (simp only [Act.put, Act.eval, List.setIfInBounds_toArray, List.set_cons_zero, List.set_cons_succ, Array.getD_eq_getD_getElem?, List.getElem?_toArray, List.getElem?_cons_zero, List.getElem?_cons_succ, Option.getD_some]; with_reducible rfl))
              apply txt_pure rfl rfl rfl; (· (intro w; go_simp; (try go_bits); with_reducible rfl)); (· (simp only [Act.put, Act.eval, List.setIfInBounds_toArray, List.set_cons_zero, List.set_cons_succ, Array.getD_eq_getD_getElem?, List.getElem?_toArray, List.getElem?_cons_zero, List.getElem?_cons_succ, Option.getD_some]; with_reducible rfl))
              apply txt_pure rfl rfl rfl; (· (intro w; go_simp; (try go_bits); with_reducible rfl)); (· (simp only [Act.put, Act.eval, List.setIfInBounds_toArray, List.set_cons_zero, List.set_cons_succ, Array.getD_eq_getD_getElem?, List.getElem?_toArray, List.getElem?_cons_zero, List.getElem?_cons_succ, Option.getD_some]; with_reducible rfl))
              apply txt_pure rfl rfl rfl; (· (intro w; go_simp; (try go_bits); with_reducible rfl)); (· (simp only [Act.put, Act.eval, List.setIfInBounds_toArray, List.set_cons_zero, List.set_cons_succ, Array.getD_eq_getD_getElem?, List.getElem?_toArray, List.getElem?_cons_zero, List.getElem?_cons_succ, Option.getD_some]; with_reducible rfl))
              apply txt_pure rfl rfl rfl; (· (intro w; go_simp; (try go_bits); with_reducible rfl)); (· (simp only [Act.put, Act.eval, List.setIfInBounds_toArray, List.set_cons_zero, List.set_cons_succ, Array.getD_eq_getD_getElem?, List.getElem?_toArray, List.getElem?_cons_zero, List.getElem?_cons_succ, Option.getD_some]; with_reducible rfl))
              apply txt_pure rfl rfl rfl; (· (intro w; go_simp; (try go_bits); with_reducible rfl)); (· (simp only [Act.put, Act.eval, List.setIfInBounds_toArray, List.set_cons_zero, List.set_cons_succ, Array.getD_eq_getD_getElem?, List.getElem?_toArray, List.getElem?_cons_zero, List.getElem?_cons_succ, Option.getD_some]; with_reducible rfl))
              apply txt_move rfl rfl; (· (simp only [Act.put, Act.eval, List.setIfInBounds_toArray, List.set_cons_zero, List.set_cons_succ, Array.getD_eq_getD_getElem?, List.getElem?_toArray, List.getElem?_cons_zero, List.getElem?_cons_succ, Option.getD_some]; with_reducible rfl))
              apply txt_move rfl rfl; (· (simp only [Act.put, Act.eval, List.setIfInBounds_toArray, List.set_cons_zero, List.set_cons_succ, Array.getD_eq_getD_getElem?, List.getElem?_toArray, List.getElem?_cons_zero, List.getElem?_cons_succ, Option.getD_some]; with_reducible rfl))
              apply txt_pure rfl rfl rfl; (· (intro w; go_simp; (try go_bits); with_reducible rfl)); (· (simp only [Act.put, Act.eval, List.setIfInBounds_toArray, List.set_cons_zero, List.set_cons_succ, Array.getD_eq_getD_getElem?, List.getElem?_toArray, List.getElem?_cons_zero, List.getElem?_cons_succ, Option.getD_some]; with_reducible rfl))
              apply txt_pure rfl rfl rfl; (· (intro w; go_simp; (try go_bits); with_reducible rfl)); (· (simp only [Act.put, Act.eval, List.setIfInBounds_toArray, List.set_cons_zero, List.set_cons_succ, Array.getD_eq_getD_getElem?, List.getElem?_toArray, List.getElem?_cons_zero, List.getElem?_cons_succ, Option.getD_some]; with_reducible rfl))
              apply txt_pure rfl rfl rfl; (· (intro w; go_simp; (try go_bits); with_reducible rfl)); (· (simp only [Act.put, Act.eval, List.setIfInBounds_toArray, List.set_cons_zero, List.set_cons_succ, Array.getD_eq_getD_getElem?, List.getElem?_toArray, List.getElem?_cons_zero, List.getElem?_cons_succ, Option.getD_some]; with_reducible rfl))
              apply txt_pure rfl rfl rfl; (· (intro w; go_simp; (try go_bits); with_reducible rfl)); (· (simp only [Act.put, Act.eval, List.setIfInBounds_toArray, List.set_cons_zero, List.set_cons_succ, Array.getD_eq_getD_getElem?, List.getElem?_toArray, List.getElem?_cons_zero, List.getElem?_cons_succ, Option.getD_some]; with_reducible rfl))
              apply txt_pure rfl rfl rfl; (· (intro w; go_simp; (try go_bits); with_reducible rfl)); (· (simp only [Act.put, Act.eval, List.setIfInBounds_toArray, List.set_cons_zero, List.set_cons_succ, Array.getD_eq_getD_getElem?, List.getElem?_toArray, List.getElem?_cons_zero, List.getElem?_cons_succ, Option.getD_some]; with_reducible rfl))
              apply txt_pure rfl rfl rfl; (· (intro w; go_simp; (try go_bits); with_reducible rfl)); (· (simp only [Act.put, Act.eval, List.setIfInBounds_toArray, List.set_cons_zero, List.set_cons_succ, Array.getD_eq_getD_getElem?, List.getElem?_toArray, List.getElem?_cons_zero, List.getElem?_cons_succ, Option.getD_some]; with_reducible rfl))
              apply txt_move rfl rfl; (· (simp only [Act.put, Act.eval, List.setIfInBounds_toArray, List.set_cons_zero, List.set_cons_succ, Array.getD_eq_getD_getElem?, List.getElem?_toArray, List.getElem?_cons_zero, List.getElem?_cons_succ, Option.getD_some]; with_reducible rfl))
              apply txt_move rfl rfl; (· (simp only [Act.put, Act.eval, List.setIfInBounds_toArray, List.set_cons_zero, List.set_cons_succ, Array.getD_eq_getD_getElem?, List.getElem?_toArray, List.getElem?_cons_zero, List.getElem?_cons_succ, Option.getD_some]; with_reducible rfl))
              apply txt_pure rfl rfl rfl; (· (intro w; go_simp; (try go_bits); with_reducible rfl)); (· (simp only [Act.put, Act.eval, List.setIfInBounds_toArray, List.set_cons_zero, List.set_cons_succ, Array.getD_eq_getD_getElem?, List.getElem?_toArray, List.getElem?_cons_zero, List.getElem?_cons_succ, Option.getD_some]; with_reducible rfl))
              apply txt_pure rfl rfl rfl; (· (intro w; go_simp; (try go_bits); with_reducible rfl)); (· (simp only [Act.put, Act.eval, List.setIfInBounds_toArray, List.set_cons_zero, List.set_cons_succ, Array.getD_eq_getD_getElem?, List.getElem?_toArray, List.getElem?_cons_zero, List.getElem?_cons_succ, Option.getD_some]; with_reducible rfl))
              apply txt_pure rfl rfl rfl; (· (intro w; go_simp; (try go_bits); with_reducible rfl)); (· (simp only [Act.put, Act.eval, List.setIfInBounds_toArray, List.set_cons_zero, List.set_cons_succ, Array.getD_eq_getD_getElem?, List.getElem?_toArray, List.getElem?_cons_zero, List.getElem?_cons_succ, Option.getD_some]; with_reducible rfl))
              apply txt_pure rfl rfl rfl; (· (intro w; go_simp; (try go_bits); with_reducible rfl)); (· (simp only [Act.put, Act.eval, List.setIfInBounds_toArray, List.set_cons_zero, List.set_cons_succ, Array.getD_eq_getD_getElem?, List.getElem?_toArray, List.getElem?_cons_zero, List.getElem?_cons_succ, Option.getD_some]; with_reducible rfl))
              apply txt_pure rfl rfl rfl; (· (intro w; go_simp; (try go_bits); with_reducible rfl)); (· (simp only [Act.put, Act.eval, List.setIfInBounds_toArray, List.set_cons_zero, List.set_cons_succ, Array.getD_eq_getD_getElem?, List.getElem?_toArray, List.getElem?_cons_zero, List.getElem?_cons_succ, Option.getD_some]; with_reducible rfl))
              apply txt_pure rfl rfl rfl; (· (intro w; go_simp; (try go_bits); with_reducible rfl)); (· (simp only [Act.put, Act.eval, List.setIfInBounds_toArray, List.set_cons_zero, List.set_cons_succ, Array.getD_eq_getD_getElem?, List.getElem?_toArray, List.getElem?_cons_zero, List.getElem?_cons_succ, Option.getD_some]; with_reducible rfl))
              apply txt_do rfl rfl rfl; (· (go_simp; with_reducible rfl)); (· (simp only [Act.put, Act.eval, List.setIfInBounds_toArray, List.set_cons_zero, List.set_cons_succ, Array.getD_eq_getD_getElem?, List.getElem?_toArray, List.getElem?_cons_zero, List.getElem?_cons_succ, Option.getD_some]; with_reducible rfl))
              with_reducible refine txt_nil ?_
              go_wp2_with fail
              go_roundw
              case rel =>
                refine ⟨k + 1, by go_num, by omega, ?_, (hbi.setCell (by simp) _).drew⟩
                have := (hB.set k (by rw [List.length_append, wordsN_length, List.length_replicate]; omega) (((x0 <<< 24) ||| (x1 <<< 16) ||| (x2 <<< 8)) ||| x3)).drew
                rw [hW.out] at this
                exact this
              case measure => simp [intOf]; omega
            · obtain rfl : k = 16 := by omega
              clear hk hk16
              rw [show List.replicate (16 - 16) (0 : UInt32) = [] by rfl, List.append_nil] at hB
              have hG2 := hG.keep (hbi.block g hg0)
              have hb2 : Kept (· = g) w wr := hb.trans (Kept.of_below hbi)
              go_upto_region 15 with (fail)
              refine Rt.wp_region_seq [0, 2, 2] ?_
              apply txt_move rfl rfl; (· (simp only [Act.put, Act.eval, List.setIfInBounds_toArray, List.set_cons_zero, List.set_cons_succ, Array.getD_eq_getD_getElem?, List.getElem?_toArray, List.getElem?_cons_zero, List.getElem?_cons_succ, Option.getD_some]; with_reducible rfl))
              refine txt_act rfl rfl rfl fun K hK => wp_load_row 36 (.tmp 7) rfl wo.heap.size rfl 36 _ (0, 0) _ hB Try.underlying36 rfl (by kernel_rfl) (hK _ _ ?_)
              clear K hK
              simp only [Act.put, Act.eval, List.setIfInBounds_toArray, List.set_cons_zero, List.set_cons_succ, Array.getD_eq_getD_getElem?, List.getElem?_toArray, List.getElem?_cons_zero, List.getElem?_cons_succ, Option.getD_some]
              refine txt_call rfl rfl rfl (by go_simp; exact ⟨⟨rfl, rfl⟩, rfl⟩) ?_
              refine (c30 ks kl st (wordsN r 16) (wordsN_length _ _) g kb wr hgk hG2 (hK.kept hb2 hgk)).mono ?_
              rintro e w3 ⟨rfl, hG3, hk3⟩
              refine ⟨_, rfl, ?_⟩
              simp only [Act.put, Act.eval, List.setIfInBounds_toArray, List.set_cons_zero, List.set_cons_succ, Array.getD_eq_getD_getElem?, List.getElem?_toArray, List.getElem?_cons_zero, List.getElem?_cons_succ, Option.getD_some]
              with_reducible refine txt_nil ?_
              have hext : (mk r).extract 64 r.length = mk (r.drop 64) := by rw [mk_extract]; congr 1; rw [List.take_of_length_le (by simp)]
              have hrl64 : (r.drop 64).length = 64 * m := by rw [List.length_drop]; omega
              have hf2 : Hid ((chunks (R.length / 64) R).foldl (comp2 ks) h = (chunks m (r.drop 64)).foldl (comp2 ks) ((comp2 ks) st (wordsN r 16))) := Lib.hid (by rw [hf.out, chunks_succ, List.foldl_cons])
              have hk4 : Kept (· = g) w w3 := hb2.trans hk3
              have hszd : szOf (.string (mk (r.drop 64))) = (r.drop 64).length := rfl
              clear hrl
              go_wp2
              go_roundw
              case rel => exact ⟨r.drop 64, m, (comp2 ks) st (wordsN r 16), rfl, hrl64, by omega, hf2, hG3, hk4⟩
              case measure => rw [hszd, szOf_str, mk_size, List.length_drop]; omega
end Go.Proofs.Ytndiagcpinmefaa.Dg
