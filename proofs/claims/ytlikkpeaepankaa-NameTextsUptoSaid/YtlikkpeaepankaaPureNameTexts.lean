/- The plain law of NameTexts: no program in sight. -/
import Derived.Test.YtlikkpeaepankaaPNameTextsx4
import Derived.Test.YtlikkpeaepankaaNmZ
namespace Go.Proofs.Ytlikkpeaepankaa.Pure
open Go.RowKit Go.Proofs.Ytlikkpeaepankaa.PNameTexts Go.Proofs.YtlikkpeaepankaaW.PrintWords Go.Proofs.YtlikkpeaepankaaW.PrintLast Go.Proofs.YtlikkpeaepankaaW.PrintMore Go.Proofs.Ytlikkpeaepankaa.Nm
set_option linter.unusedSimpArgs false
set_option linter.unusedVariables false

theorem w64 (n : Int) (h0 : -9223372036854775808 ≤ n) (h1 : n < 9223372036854775808) : wrap64 n = n := by unfold wrap64; omega
theorem right_f {s : ByteArray} (h : s.size ≤ 140737488351232) : name_Right.f s = some (rightB s) := if_pos h
theorem lower_f {s : ByteArray} (h : s.size ≤ 140737488351232) : name_Lower.f s = some (lowerW s) := if_pos h
theorem labels_f {s : ByteArray} (h : s.size ≤ 140737488351232) : name_Labels.f s = some (labelsL s) := if_pos h
theorem under_f {s t : ByteArray} (h : s.size ≤ 140737488351232) (h2 : t.size ≤ 140737488351232) : name_Under.f s t = some (underW s t) := if_pos ⟨h, h2⟩

theorem cmp_l0 : ∀ (n : Nat) (X Y : List ByteArray) (k : Nat), X.length = n → 2 * n + 2 ≤ k → n < 4611686018427387904 → Y.length < 4611686018427387904 → name_Compare.l0 k X Y = some (cmpR X.reverse Y.reverse) := by
  intro n
  induction n with
  | zero =>
    intro X Y k hX hk _ hY
    obtain rfl := List.length_eq_zero_iff.1 hX
    obtain ⟨k, rfl⟩ : ∃ j, k = j + 2 := ⟨k - 2, by omega⟩
    rw [name_Compare.l0, if_neg (by simp), name_Compare.j2, if_neg (by simp)]
    rcases List.eq_nil_or_concat Y with rfl | ⟨Y', y, rfl⟩
    · rfl
    · have : ((Y'.concat y).length : Int) ≥ 1 := by simp; omega
      rw [List.concat_eq_append, List.reverse_append]
      simp [cmpR, mn]
      omega
  | succ n ih =>
    intro X Y k hX hk hn hY
    rcases List.eq_nil_or_concat X with rfl | ⟨X', x, rfl⟩
    · cases hX
    rw [List.concat_eq_append] at hX ⊢
    have hX' : X'.length = n := by simpa using hX
    obtain ⟨k, rfl⟩ : ∃ j, k = j + 2 := ⟨k - 2, by omega⟩
    rw [name_Compare.l0, if_pos (by simp), name_Compare.j2]
    rcases List.eq_nil_or_concat Y with rfl | ⟨Y', y, rfl⟩
    · rw [if_neg (by simp), List.reverse_append]
      simp [cmpR, mn]
      omega
    rw [List.concat_eq_append] at hY ⊢
    have e1 : ((X' ++ [x]).length : Int) = X'.length + 1 := by simp
    have e2 : ((Y' ++ [y]).length : Int) = Y'.length + 1 := by simp
    have hY' : Y'.length < 4611686018427387904 := by simp at hY; omega
    rw [if_pos (by rw [decide_eq_true_eq, e2]; omega), e1, e2, w64 _ (by omega) (by omega), w64 _ (by omega) (by omega),
      show (X'.length : Int) + 1 - 1 = X'.length by omega, show (Y'.length : Int) + 1 - 1 = Y'.length by omega,
      if_pos (by omega), if_pos (by omega), if_pos (by omega), if_pos (by omega)]
    have g1 : rdOf ByteArray.empty (X' ++ [x]) (X'.length : Int) = x := by simp [rdOf]
    have g2 : rdOf ByteArray.empty (Y' ++ [y]) (Y'.length : Int) = y := by simp [rdOf]
    rw [g1, g2, Int.toNat_natCast, Int.toNat_natCast, List.take_left, List.take_left, List.reverse_append, List.reverse_append]
    show (if cB x.data.toList y.data.toList = 0 then _ else _) = _
    simp only [List.reverse_cons, List.reverse_nil, List.nil_append, List.cons_append, cmpR]
    by_cases hc : cB x.data.toList y.data.toList = 0
    · rw [if_pos hc, if_pos hc, if_pos (by omega), if_pos (by omega)]
      exact ih X' Y' k hX' (by omega) (by omega) hY'
    · rw [if_neg hc, if_neg hc]

theorem labelsL_len (s : ByteArray) : (labelsL s).length ≤ 128 := by
  unfold labelsL
  split
  · rename_i h
    have h1 := labs_length s _ 0 rfl
    have h2 : s.size ≤ 255 := by unfold rightB at h; simp at h; omega
    rw [List.length_map]; omega
  · simp

theorem cmp_f (k : Nat) (hk : 300 ≤ k) (s t : ByteArray) (hs : s.size ≤ 140737488351232) (ht : t.size ≤ 140737488351232) : name_Compare.f k s t = some (cmpN s t) := by
  unfold name_Compare.f cmpN
  rw [right_f hs, right_f ht]
  obtain ⟨k, rfl⟩ : ∃ j, k = j + 1 := ⟨k - 1, by omega⟩
  have hls : (lowerW s).size ≤ 140737488351232 := by rw [lowerW_size]; exact hs
  have hlt : (lowerW t).size ≤ 140737488351232 := by rw [lowerW_size]; exact ht
  have n1 := labelsL_len (lowerW s)
  have n2 := labelsL_len (lowerW t)
  have hl := cmp_l0 _ (labelsL (lowerW s)) (labelsL (lowerW t)) k rfl (by omega) (by omega) (by omega)
  cases h1 : rightB s <;> cases h2 : rightB t <;> simp [name_Compare.j0, strings_Compare.f, lower_f hs, lower_f ht, labels_f hls, labels_f hlt, hl, cB]

theorem examples_f (k : Nat) (hk : 40 ≤ k) : guidepostlaw01_examples.f k = some true := by
  obtain ⟨j, rfl⟩ : ∃ j, k = 40 + j := ⟨k - 40, by omega⟩
  have h : guidepostlaw01_examples.f 40 = some true := by decide +kernel
  clear hk
  induction j with
  | zero => exact h
  | succ j ih => exact guidepostlaw01_examples.mono _ _ ih

theorem bt_mid (p r : List UInt8) (d : UInt8) : bt (mk (p ++ d :: r)) (p.length : Int) = (d.toNat : Int) := by
  unfold bt
  have h : ((p.length : Int)).toNat < (mk (p ++ d :: r)).size := by rw [Int.toNat_natCast]; show p.length < (p ++ d :: r).length; simp
  rw [dif_pos h]
  have h1 : (mk (p ++ d :: r))[((p.length : Int)).toNat]'h = d := by
    show (p ++ d :: r)[((p.length : Int)).toNat]'h = d
    simp
  rw [h1]
theorem ext_mid (p r : List UInt8) (d : UInt8) : (mk (p ++ d :: r)).extract (p.length + 1) (mk (p ++ d :: r)).size = mk r := by
  rw [mk_extract]
  have e : p ++ d :: r = (p ++ [d]) ++ r := by simp
  have e2 : (p ++ [d]).length = p.length + 1 := by simp
  rw [e, ← e2, List.drop_left, mk_size, List.length_append, Nat.add_sub_cancel_left, List.take_length]
theorem byteN_zero (c : UInt8) (r : List UInt8) : byteN (mk (c :: r)) 0 = c.toNat := rfl
theorem byteN_one (c d : UInt8) (r : List UInt8) : byteN (mk (c :: d :: r)) 1 = d.toNat := rfl
theorem byteN_two (c d e : UInt8) (r : List UInt8) : byteN (mk (c :: d :: e :: r)) 2 = e.toNat := rfl
theorem esc_one (c : UInt8) (r : List UInt8) (h : isDig c.toNat = false) : escW (mk (c :: r)) = (c.toNat, 1, true) := by
  unfold escW
  rw [if_neg (by rw [mk_size]; simp), byteN_zero, if_pos h]
theorem esc_three (c d e : UInt8) (r : List UInt8) (hc : isDig c.toNat = true) (hd : isDig d.toNat = true) (he : isDig e.toNat = true) : escW (mk (c :: d :: e :: r)) = ((100 * (c.toNat - 48) + 10 * (d.toNat - 48) + (e.toNat - 48)) % 256, 3, decide (100 * (c.toNat - 48) + 10 * (d.toNat - 48) + (e.toNat - 48) < 256)) := by
  have hn : num3 (mk (c :: d :: e :: r)) 3 = 100 * (c.toNat - 48) + 10 * (d.toNat - 48) + (e.toNat - 48) := by
    show 10 * (10 * (10 * 0 + (byteN (mk (c :: d :: e :: r)) 0 - 48)) + (byteN (mk (c :: d :: e :: r)) 1 - 48)) + (byteN (mk (c :: d :: e :: r)) 2 - 48) = _
    rw [byteN_zero, byteN_one, byteN_two]; omega
  unfold escW
  rw [if_neg (by rw [mk_size]; simp), byteN_zero, byteN_one, byteN_two, hc, hd, he, hn, if_neg (by simp), if_neg (by rw [mk_size]; simp)]
  rfl

/-- A byte that is told by a backslash. -/
theorem parse_esc (k : Nat) (p r : List UInt8) (acc : List ByteArray) (lab : List Int) (v n : Nat) (hsz : (p ++ 92 :: r).length ≤ 140737488351232) (hlab : lab.length < 140737488355328) (he : escW (mk r) = (v, n, true)) (hn : n ≤ 3) :
    name_Parse.l0 (k + 1) (mk (p ++ 92 :: r)) acc lab (p.length : Int) = name_Parse.l0 k (mk (p ++ 92 :: r)) acc (lab ++ [(v : Int)]) ((p.length + 1 + n : Nat) : Int) := by
  have hlen : (p ++ 92 :: r).length = p.length + 1 + r.length := by simp; omega
  have hs : ((mk (p ++ 92 :: r)).size : Int) = (p.length : Int) + 1 + r.length := by rw [mk_size', hlen]; omega
  have hb := bt_mid p r 92
  rw [name_Parse.l0, if_pos (by rw [hs]; omega), if_pos (by omega), hb, if_neg (by decide), if_pos (by decide), w64 ((p.length : Int) + 1) (by omega) (by omega), if_pos (by omega), if_pos (by rw [hs]; omega),
    show ((p.length : Int) + 1).toNat = p.length + 1 by omega, ext_mid]
  simp only [name_escaped.f, he, Option.bind_some, if_true]
  rw [if_pos hlab, w64 ((p.length : Int) + (n : Int)) (by omega) (by omega), w64 _ (by omega) (by omega)]
  congr 1
  omega

theorem parse_plain (k : Nat) (p r : List UInt8) (c : UInt8) (acc : List ByteArray) (lab : List Int) (hsz : (p ++ c :: r).length ≤ 140737488351232) (hlab : lab.length < 140737488355328) (h1 : c.toNat ≠ 46) (h2 : c.toNat ≠ 92) (h3 : 33 ≤ c.toNat) (h4 : c.toNat ≤ 126) :
    name_Parse.l0 (k + 1) (mk (p ++ c :: r)) acc lab (p.length : Int) = name_Parse.l0 k (mk (p ++ c :: r)) acc (lab ++ [(c.toNat : Int)]) ((p.length + 1 : Nat) : Int) := by
  have hlen : (p ++ c :: r).length = p.length + 1 + r.length := by simp; omega
  have hs : ((mk (p ++ c :: r)).size : Int) = (p.length : Int) + 1 + r.length := by rw [mk_size', hlen]; omega
  have hb := bt_mid p r c
  rw [name_Parse.l0, if_pos (by rw [hs]; omega), if_pos (by omega), hb, if_neg (by omega), if_neg (by omega), if_neg (by omega), if_neg (by omega), if_pos hlab, w64 ((p.length : Int) + 1) (by omega) (by omega)]
  congr 1

theorem parse_byte (k : Nat) (p r : List UInt8) (c : UInt8) (acc : List ByteArray) (lab : List Int) (hsz : (p ++ (textB c ++ r)).length ≤ 140737488351232) (hlab : lab.length < 140737488355328) :
    name_Parse.l0 (k + 1) (mk (p ++ (textB c ++ r))) acc lab (p.length : Int) = name_Parse.l0 k (mk (p ++ (textB c ++ r))) acc (lab ++ [(c.toNat : Int)]) ((p.length + (textB c).length : Nat) : Int) := by
  have hc := UInt8.toNat_lt c
  by_cases h1 : c.toNat = 46 ∨ c.toNat = 92
  · have hB : textB c = [92, c] := by unfold textB; rw [if_pos h1]
    rw [hB] at hsz ⊢
    have h2 := parse_esc k p (c :: r) acc lab c.toNat 1 hsz hlab (esc_one c r (by rcases h1 with e | e <;> simp [isDig, e])) (by omega)
    exact h2
  · by_cases h3 : c.toNat < 33 ∨ 126 < c.toNat
    · have hB : textB c = [92, UInt8.ofNat (48 + c.toNat / 100), UInt8.ofNat (48 + c.toNat / 10 % 10), UInt8.ofNat (48 + c.toNat % 10)] := by unfold textB; rw [if_neg h1, if_pos h3]
      rw [hB] at hsz ⊢
      have q1 : (UInt8.ofNat (48 + c.toNat / 100)).toNat = 48 + c.toNat / 100 := by simp; omega
      have q2 : (UInt8.ofNat (48 + c.toNat / 10 % 10)).toNat = 48 + c.toNat / 10 % 10 := by simp; omega
      have q3 : (UInt8.ofNat (48 + c.toNat % 10)).toNat = 48 + c.toNat % 10 := by simp; omega
      have he := esc_three (UInt8.ofNat (48 + c.toNat / 100)) (UInt8.ofNat (48 + c.toNat / 10 % 10)) (UInt8.ofNat (48 + c.toNat % 10)) r (by rw [q1]; simp [isDig]; omega) (by rw [q2]; simp [isDig]; omega) (by rw [q3]; simp [isDig]; omega)
      rw [q1, q2, q3] at he
      have e1 : 100 * (48 + c.toNat / 100 - 48) + 10 * (48 + c.toNat / 10 % 10 - 48) + (48 + c.toNat % 10 - 48) = c.toNat := by omega
      rw [e1, Nat.mod_eq_of_lt hc, decide_eq_true (by omega : c.toNat < 256)] at he
      exact parse_esc k p _ acc lab c.toNat 3 hsz hlab he (by omega)
    · have hB : textB c = [c] := by unfold textB; rw [if_neg h1, if_neg h3]
      rw [hB] at hsz ⊢
      exact parse_plain k p r c acc lab hsz hlab (by omega) (by omega) (by omega) (by omega)

theorem parse_bytes (x : List UInt8) : ∀ (k : Nat) (p r : List UInt8) (acc : List ByteArray) (lab : List Int), (p ++ (textBs x ++ r)).length ≤ 140737488351232 → lab.length + x.length < 140737488355328 →
    name_Parse.l0 (k + x.length) (mk (p ++ (textBs x ++ r))) acc lab (p.length : Int) = name_Parse.l0 k (mk (p ++ (textBs x ++ r))) acc (lab ++ x.map (fun c => (c.toNat : Int))) ((p.length + (textBs x).length : Nat) : Int) := by
  induction x with
  | nil => intro k p r acc lab _ _; simp [textBs]
  | cons c x ih =>
    intro k p r acc lab hsz hlab
    have e : textBs (c :: x) = textB c ++ textBs x := rfl
    rw [e, List.append_assoc] at hsz ⊢
    rw [List.length_cons, ← Nat.add_assoc, parse_byte (k + x.length) p (textBs x ++ r) c acc lab hsz (by simp at hlab; omega)]
    have h := ih k (p ++ textB c) r acc (lab ++ [(c.toNat : Int)]) (by rw [List.append_assoc]; exact hsz) (by simp at hlab ⊢; omega)
    rw [List.append_assoc, List.length_append] at h
    rw [h, List.length_append, List.append_assoc]
    congr 1
    omega

theorem parse_dot (k : Nat) (p r : List UInt8) (acc : List ByteArray) (lab : List Int) (hsz : (p ++ 46 :: r).length ≤ 140737488351232) (hlab : lab ≠ []) (hacc : acc.length < 8796093022208) :
    name_Parse.l0 (k + 1) (mk (p ++ 46 :: r)) acc lab (p.length : Int) = name_Parse.l0 k (mk (p ++ 46 :: r)) (acc ++ [strOfNums lab]) [] ((p.length + 1 : Nat) : Int) := by
  have hlen : (p ++ 46 :: r).length = p.length + 1 + r.length := by simp; omega
  have hs : ((mk (p ++ 46 :: r)).size : Int) = (p.length : Int) + 1 + r.length := by rw [mk_size', hlen]; omega
  have hb := bt_mid p r 46
  have hl : lab.length ≠ 0 := fun e => hlab (List.length_eq_zero_iff.1 e)
  rw [name_Parse.l0, if_pos (by rw [hs]; omega), if_pos (by omega), hb, if_pos (by decide), if_neg (by omega), if_pos hacc, w64 ((p.length : Int) + 1) (by omega) (by omega)]
  congr 1

theorem strOf_mk (x : List UInt8) : strOfNums (x.map (fun c => (c.toNat : Int))) = mk x := by
  apply bytes_eq
  rw [strOfNums_data, List.map_map, mk_data]
  have : ∀ c : UInt8, ((fun (n : Int) => UInt8.ofNat n.toNat) ∘ fun c : UInt8 => (c.toNat : Int)) c = c := fun c => by simp
  rw [List.map_congr_left (fun c _ => this c)]; simp

def textOf (a : List (List UInt8)) : List UInt8 := a.flatMap (fun x => textBs x ++ [46])
theorem textOf_cons (x : List UInt8) (a : List (List UInt8)) : textOf (x :: a) = textBs x ++ (46 :: textOf a) := by simp [textOf]

theorem parse_all : ∀ (a : List (List UInt8)) (k : Nat) (p : List UInt8) (acc : List ByteArray), (∀ x ∈ a, okL x) → (p ++ textOf a).length ≤ 140737488351232 → acc.length + a.length < 8796093021952 → 64 * a.length + 1 ≤ k →
    name_Parse.l0 k (mk (p ++ textOf a)) acc [] (p.length : Int) = if acc.length + a.length = 0 then some (⟨#[]⟩, 7) else some (ofW (acc ++ a.map mk)) := by
  intro a
  induction a with
  | nil =>
    intro k p acc _ _ hacc hk
    obtain ⟨k, rfl⟩ : ∃ j, k = j + 1 := ⟨k - 1, by simp at hk; omega⟩
    have e : p ++ textOf [] = p := by simp [textOf]
    rw [e, name_Parse.l0, if_neg (by rw [mk_size']; omega), if_neg (by simp)]
    by_cases h0 : acc.length = 0
    · rw [if_pos (by simp [h0]), if_pos (by simpa using h0)]
    · rw [if_neg (by omega), if_neg (by simpa using h0)]
      have : name_Of.f acc = some (ofW acc) := if_pos (by simp at hacc; omega)
      rw [this]; simp
  | cons x a ih =>
    intro k p acc hok hsz hacc hk
    have hx := hok x (by simp)
    have hx2 := hx.2
    have hx1 := hx.1
    rw [textOf_cons] at hsz ⊢
    obtain ⟨k, rfl⟩ : ∃ j, k = j + 1 + x.length := ⟨k - 1 - x.length, by simp at hk; omega⟩
    rw [parse_bytes x (k + 1) p (46 :: textOf a) acc [] hsz (by simp; omega), List.nil_append]
    have e : p ++ (textBs x ++ 46 :: textOf a) = (p ++ textBs x) ++ 46 :: textOf a := by simp
    have e2 : p.length + (textBs x).length = (p ++ textBs x).length := by simp
    rw [e] at hsz ⊢
    rw [e2, parse_dot k (p ++ textBs x) (textOf a) acc _ hsz (by intro h; have := congrArg List.length h; simp at this; rw [this] at hx1; simp at hx1) (by simp at hacc; omega), strOf_mk]
    have e3 : (p ++ textBs x) ++ 46 :: textOf a = (p ++ textBs x ++ [46]) ++ textOf a := by simp
    have e4 : (p ++ textBs x).length + 1 = (p ++ textBs x ++ [46]).length := by simp; omega
    rw [e3] at hsz ⊢
    rw [e4, ih k (p ++ textBs x ++ [46]) (acc ++ [mk x]) (fun y hy => hok y (by simp [hy])) hsz (by simp at hacc ⊢; omega) (by simp at hk; omega)]
    simp

theorem reflabels_f {s : ByteArray} (h : s.size ≤ 140737488351232) : guidepostref01_Labels.f s = some (labelsL s, rightB s) := if_pos h

theorem rd_at {l : List ByteArray} (i : Nat) (h : i < l.length) : rdOf ByteArray.empty l (i : Int) = l[i] := by
  simp [rdOf, h]

theorem refof_f (l : List ByteArray) (hlen : l.length ≤ 8796093021952) : guidepostref01_Of.f l = some (ofW l) := if_pos (by omega)

theorem ext_from (p r : List UInt8) : (mk (p ++ r)).extract p.length (mk (p ++ r)).size = mk r := by
  rw [mk_extract, List.drop_left, mk_size, List.length_append, Nat.add_sub_cancel_left, List.take_length]
theorem bt_one (a c : UInt8) (r : List UInt8) : bt (mk (a :: c :: r)) 1 = (c.toNat : Int) := bt_mid [a] r c
theorem bt_two (a b c : UInt8) (r : List UInt8) : bt (mk (a :: b :: c :: r)) 2 = (c.toNat : Int) := bt_mid [a, b] r c
theorem bt_three (a b d c : UInt8) (r : List UInt8) : bt (mk (a :: b :: d :: c :: r)) 3 = (c.toNat : Int) := bt_mid [a, b, d] r c
theorem refdigit_f (n : Nat) : guidepostref01_digit.f (n : Int) = some (isDig n) := by
  unfold guidepostref01_digit.f isDig
  by_cases h : 48 ≤ n
  · rw [if_pos (by omega), decide_eq_true h, Bool.true_and]
    congr 1
    rw [decide_eq_decide]; omega
  · rw [if_neg (by omega), decide_eq_false h, Bool.false_and]
theorem isDig_range {n : Nat} (h : isDig n = true) : 48 ≤ n ∧ n ≤ 57 := by simpa [isDig] using h
theorem refescape_f (k : Nat) (hk : 1 ≤ k) (r : List UInt8) (hr : r.length ≤ 140737488351232) :
    guidepostref01_escape.f k (mk (92 :: r)) = some (if (escW (mk r)).2.2 = true then (((escW (mk r)).1 : Int), ((escW (mk r)).2.1 : Int) + 1) else (0, 0)) := by
  obtain ⟨k, rfl⟩ : ∃ j, k = j + 1 := ⟨k - 1, by omega⟩
  unfold guidepostref01_escape.f
  cases r with
  | nil => rw [if_pos (by rw [mk_size']; decide)]; rfl
  | cons c r =>
    have hs : ((mk (92 :: c :: r)).size : Int) = (r.length : Int) + 2 := by rw [mk_size']; simp; omega
    rw [if_neg (by rw [hs]; omega), if_pos (by rw [hs]; omega), bt_one, refdigit_f]
    simp only [Option.bind_some]
    cases hc : isDig c.toNat
    · rw [if_neg (by simp), esc_one c r hc]; rfl
    · rw [if_pos rfl]
      have hcr := isDig_range hc
      by_cases h4 : r.length < 2
      · have he : escW (mk (c :: r)) = (0, 0, false) := by
          unfold escW
          rw [if_neg (by rw [mk_size]; simp), byteN_zero, hc, if_neg (by simp), if_pos (by rw [mk_size]; simp; omega)]
        rw [if_pos (by rw [hs]; omega), guidepostref01_escape.j0, he]; rfl
      · rw [if_neg (by rw [hs]; omega), if_pos (by rw [hs]; omega)]
        obtain ⟨d, r, rfl⟩ := List.exists_cons_of_ne_nil (l := r) (by rintro rfl; simp at h4)
        obtain ⟨e, r, rfl⟩ := List.exists_cons_of_ne_nil (l := r) (by rintro rfl; simp at h4)
        rw [bt_two, bt_three, refdigit_f, refdigit_f]
        simp only [Option.bind_some]
        have hs4 : ((mk (92 :: c :: d :: e :: r)).size : Int) = (r.length : Int) + 4 := by rw [mk_size']; simp; omega
        have hbad : (isDig d.toNat && isDig e.toNat) = false → escW (mk (c :: d :: e :: r)) = (0, 0, false) := fun h => by
          unfold escW
          rw [if_neg (by rw [mk_size]; simp), byteN_zero, hc, if_neg (by simp), if_neg (by rw [mk_size]; simp), byteN_one, byteN_two, h, if_neg (by simp)]
        cases hd : isDig d.toNat
        · rw [if_neg (by simp), guidepostref01_escape.j0, hbad (by rw [hd]; rfl)]; rfl
        · rw [if_pos rfl, if_pos (by rw [hs4]; omega)]
          have hdr := isDig_range hd
          cases he : isDig e.toNat
          · rw [guidepostref01_escape.j0, hbad (by rw [hd, he]; rfl)]; rfl
          · have her := isDig_range he
            rw [guidepostref01_escape.j0, if_neg (by simp), if_pos (by rw [hs4]; omega), if_pos (by rw [hs4]; omega), if_pos (by rw [hs4]; omega), bt_one, bt_two, bt_three, esc_three c d e r hc hd he]
            by_cases hv : 100 * (c.toNat - 48) + 10 * (d.toNat - 48) + (e.toNat - 48) < 256
            · rw [if_neg (by omega), decide_eq_true hv, if_pos rfl]
              simp only [Option.some.injEq, Prod.mk.injEq]
              omega
            · rw [if_pos (by omega), decide_eq_false hv, if_neg (by simp)]

theorem escW_len (r : List UInt8) (h : (escW (mk r)).2.2 = true) : 1 ≤ (escW (mk r)).2.1 ∧ (escW (mk r)).2.1 ≤ r.length ∧ (escW (mk r)).2.1 ≤ 3 ∧ (escW (mk r)).1 < 256 := by
  unfold escW at h ⊢
  split at h
  · cases h
  · rename_i h0
    rw [mk_size] at h0
    rw [if_neg (by rw [mk_size]; exact h0)]
    split at h
    · rename_i h1
      rw [if_pos h1]
      have := byteN_lt (mk r) 0
      exact ⟨Nat.le_refl _, by show 1 ≤ _; omega, by show 1 ≤ 3; omega, this⟩
    · rename_i h1
      rw [if_neg h1]
      split at h
      · cases h
      · rename_i h2
        rw [mk_size] at h2
        rw [if_neg (by rw [mk_size]; exact h2)]
        split at h
        · rename_i h3
          rw [if_pos h3]
          exact ⟨by show 1 ≤ 3; omega, by show 3 ≤ _; omega, Nat.le_refl _, Nat.mod_lt _ (by omega)⟩
        · cases h

theorem of_same (l : List ByteArray) (h : l.length ≤ 8796093021952) : name_Of.f l = some (ofW l) := if_pos (by omega)

theorem parse_same : ∀ (d : Nat) (r p : List UInt8) (acc : List ByteArray) (lab : List Int) (k : Nat), r.length ≤ d → (p ++ r).length ≤ 1048576 → acc.length ≤ p.length → lab.length ≤ p.length → d + 2 ≤ k →
    ∃ res, name_Parse.l0 k (mk (p ++ r)) acc lab (p.length : Int) = some res ∧ guidepostref01_Parse.l0 k (mk (p ++ r)) acc lab (p.length : Int) (decide (lab ≠ [])) = some res := by
  intro d
  induction d with
  | zero =>
    intro r p acc lab k hd hsz hacc hlab hk
    obtain rfl : r = [] := List.length_eq_zero_iff.1 (by omega)
    obtain ⟨k, rfl⟩ : ∃ j, k = j + 1 := ⟨k - 1, by omega⟩
    rw [List.append_nil] at hsz ⊢
    by_cases hl : lab = []
    · subst hl
      by_cases h0 : (acc.length : Int) = 0
      · refine ⟨(⟨#[]⟩, 7), ?_, ?_⟩
        · rw [name_Parse.l0, if_neg (by rw [mk_size']; omega), if_neg (by simp), if_pos h0]
        · rw [guidepostref01_Parse.l0, if_neg (by rw [mk_size']; omega), if_neg (by simp), if_pos h0]
      · refine ⟨ofW acc, ?_, ?_⟩
        · rw [name_Parse.l0, if_neg (by rw [mk_size']; omega), if_neg (by simp), if_neg h0, of_same _ (by omega)]; rfl
        · rw [guidepostref01_Parse.l0, if_neg (by rw [mk_size']; omega), if_neg (by simp), if_neg h0, refof_f _ (by omega)]; rfl
    · have hl0 : lab.length ≠ 0 := fun e => hl (List.length_eq_zero_iff.1 e)
      refine ⟨ofW (acc ++ [strOfNums lab]), ?_, ?_⟩
      · rw [name_Parse.l0, if_neg (by rw [mk_size']; omega), if_pos (by omega), if_pos (by omega)]
        simp only [Option.bind_some]
        rw [if_neg (by simp; omega), of_same _ (by simp; omega)]; rfl
      · rw [guidepostref01_Parse.l0, if_neg (by rw [mk_size']; omega), if_pos (by simpa using hl), if_pos (by omega)]
        simp only [Option.bind_some]
        rw [if_neg (by simp; omega), refof_f _ (by simp; omega)]; rfl
  | succ d ih =>
    intro r p acc lab k hd hsz hacc hlab hk
    cases r with
    | nil => exact ih [] p acc lab k (by simp) hsz hacc hlab (by omega)
    | cons c r =>
    obtain ⟨k, rfl⟩ : ∃ j, k = j + 1 := ⟨k - 1, by omega⟩
    have hlen : (p ++ c :: r).length = p.length + 1 + r.length := by simp; omega
    have hs : ((mk (p ++ c :: r)).size : Int) = (p.length : Int) + 1 + r.length := by rw [mk_size', hlen]; omega
    have hb := Lib.hid (bt_mid p r c)
    have hc := UInt8.toNat_lt c
    have e1 : p ++ c :: r = (p ++ [c]) ++ r := by simp
    have e2 : (p ++ [c]).length = p.length + 1 := by simp
    rw [List.length_cons] at hd
    have hsz1 : (p ++ [c] ++ r).length ≤ 1048576 := by rw [← e1]; exact hsz
    have hw : Hid (wrap64 ((p.length : Int) + 1) = ((p ++ [c]).length : Int)) := Lib.hid (by rw [w64 _ (by omega) (by omega), e2]; omega)
    obtain ⟨b, hbb⟩ : ∃ b, decide (lab ≠ []) = b := ⟨_, rfl⟩
    rw [hbb]
    obtain ⟨X, hX⟩ : ∃ X, name_Parse.l0 (k + 1) (mk (p ++ c :: r)) acc lab (p.length : Int) = X := ⟨_, rfl⟩
    obtain ⟨Y, hY⟩ : ∃ Y, guidepostref01_Parse.l0 (k + 1) (mk (p ++ c :: r)) acc lab (p.length : Int) b = Y := ⟨_, rfl⟩
    rw [hX, hY]
    rw [name_Parse.l0, if_pos (by rw [hs]; omega)] at hX
    rw [if_pos (by omega)] at hX
    rw [hb.out, hw.out] at hX
    rw [guidepostref01_Parse.l0, if_pos (by rw [hs]; omega)] at hY
    rw [if_pos (by omega)] at hY
    rw [hb.out, hw.out] at hY
    subst hX hY hbb
    by_cases h1 : c.toNat = 46
    · have h1' : (c.toNat : Int) = 46 := by omega
      simp only [h1', if_true]
      by_cases hl : lab = []
      · subst hl
        exact ⟨(⟨#[]⟩, 7), by simp, by simp⟩
      · have hl0 : lab.length ≠ 0 := fun e => hl (List.length_eq_zero_iff.1 e)
        obtain ⟨res, i1, i2⟩ := ih r (p ++ [c]) (acc ++ [strOfNums lab]) [] k (by omega) hsz1 (by rw [e2]; simp; omega) (by simp) (by omega)
        rw [← e1] at i1 i2
        refine ⟨res, ?_, ?_⟩
        · rw [if_neg (by omega), if_pos (by omega)]; exact i1
        · rw [if_pos (by simpa using hl), if_pos (by omega)]; exact i2
    · have h1' : ¬ (c.toNat : Int) = 46 := by omega
      simp only [h1', if_false]
      by_cases h2 : c.toNat = 92
      · obtain rfl : c = 92 := UInt8.toNat_inj.1 h2
        have h2' : (((92 : UInt8).toNat : Nat) : Int) = 92 := rfl
        have hx1 : (mk (p ++ 92 :: r)).extract (p ++ [(92 : UInt8)]).length (mk (p ++ 92 :: r)).size = mk r := by rw [e1]; exact ext_from (p ++ [92]) r
        simp only [h2', if_true, Int.toNat_natCast, hx1, ext_from p (92 :: r), refescape_f k (by omega) r (by omega), name_escaped.f, Option.bind_some]
        cases hok : (escW (mk r)).2.2
        · refine ⟨(⟨#[]⟩, 7), ?_, ?_⟩
          · rw [if_pos (by omega), if_pos (by rw [hs, e2]; omega)]; simp
          · rw [if_pos (by rw [hs]; omega)]; simp
        · obtain ⟨n1, n2, n3, n4⟩ := escW_len r hok
          obtain ⟨n, hn⟩ : ∃ n, (escW (mk r)).2.1 = n := ⟨_, rfl⟩
          obtain ⟨v, hv⟩ : ∃ v, (escW (mk r)).1 = v := ⟨_, rfl⟩
          rw [hn] at n1 n2 n3 ⊢
          rw [hv] at n4 ⊢
          have e3 : p ++ 92 :: r = (p ++ 92 :: r.take n) ++ r.drop n := by simp
          have e4 : (p ++ 92 :: r.take n).length = p.length + 1 + n := by simp; omega
          obtain ⟨res, i1, i2⟩ := ih (r.drop n) (p ++ 92 :: r.take n) acc (lab ++ [(v : Int)]) k (by rw [List.length_drop]; omega) (by rw [← e3]; exact hsz) (by rw [e4]; omega) (by rw [e4]; simp; omega) (by omega)
          rw [← e3, e4] at i1 i2
          have e5 : Hid (wrap64 (wrap64 ((p.length : Int) + (n : Int)) + 1) = ((p.length + 1 + n : Nat) : Int)) := Lib.hid (by
            rw [w64 ((p.length : Int) + (n : Int)) (by omega) (by omega), w64 _ (by omega) (by omega)]; omega)
          have e6 : Hid (wrap64 ((p.length : Int) + ((n : Int) + 1)) = ((p.length + 1 + n : Nat) : Int)) := Lib.hid (by
            rw [w64 _ (by omega) (by omega)]; omega)
          have e7 : decide (lab ++ [(v : Int)] ≠ []) = true := by simp
          rw [e7] at i2
          have z1 : (0 : Int) ≤ ((p ++ [(92 : UInt8)]).length : Int) := by omega
          have z2 : ((p ++ [(92 : UInt8)]).length : Int) ≤ ((mk (p ++ 92 :: r)).size : Int) := by rw [hs, e2]; omega
          have z3 : (p.length : Int) ≤ ((mk (p ++ 92 :: r)).size : Int) := by rw [hs]; omega
          have z4 : lab.length < 140737488355328 := by omega
          have z5 : ¬ ((n : Int) + 1 = 0) := by omega
          refine ⟨res, ?_, ?_⟩
          · rw [if_pos z1, if_pos z2, if_pos (Eq.refl true), if_pos z4, e5.out]; exact i1
          · rw [if_pos z3, if_pos (Eq.refl true), if_neg z5, if_pos z4, e6.out]; exact i2
      · have h2' : ¬ (c.toNat : Int) = 92 := by omega
        simp only [h2', if_false]
        by_cases h3 : c.toNat < 33
        · have h3' : (c.toNat : Int) < 33 := by omega
          simp only [h3', if_true]
          exact ⟨(⟨#[]⟩, 7), rfl, rfl⟩
        · have h3' : ¬ (c.toNat : Int) < 33 := by omega
          simp only [h3', if_false]
          by_cases h4 : 126 < c.toNat
          · have h4' : (c.toNat : Int) > 126 := by omega
            simp only [h4', if_true]
            exact ⟨(⟨#[]⟩, 7), rfl, rfl⟩
          · have h4' : ¬ (c.toNat : Int) > 126 := by omega
            simp only [h4', if_false]
            obtain ⟨res, i1, i2⟩ := ih r (p ++ [c]) acc (lab ++ [(c.toNat : Int)]) k (by omega) hsz1 (by rw [e2]; omega) (by rw [e2]; simp; omega) (by omega)
            have e7 : decide (lab ++ [(c.toNat : Int)] ≠ []) = true := by simp
            rw [e7] at i2
            rw [← e1] at i1 i2
            refine ⟨res, ?_, ?_⟩
            · rw [if_pos (by omega)]; exact i1
            · rw [if_pos (by omega)]; exact i2

theorem parse_eq (s : ByteArray) (hs : s.size ≤ 1048576) (k : Nat) (hk : 1048579 ≤ k) : ∃ res, name_Parse.f k s = some res ∧ guidepostref01_Parse.f k s = some res := by
  unfold name_Parse.f guidepostref01_Parse.f
  by_cases h : s.toList = ([46] : List UInt8)
  · rw [if_pos h, if_pos h]; exact ⟨_, rfl, rfl⟩
  · rw [if_neg h, if_neg h]
    have hl : s.data.toList.length = s.size := rfl
    have h1 := parse_same s.data.toList.length s.data.toList [] [] [] k (Nat.le_refl _) (by rw [List.nil_append]; omega) (Nat.le_refl _) (Nat.le_refl _) (by omega)
    rw [List.nil_append, mk_toList, show ((([] : List UInt8).length : Nat) : Int) = 0 from rfl, show decide (([] : List Int) ≠ []) = false from rfl] at h1
    exact h1

theorem dig3 (n a : Nat) (h : n < 256) (ha : a = 48 + n / 100) : (48 + ((Int.tdiv (n : Int) 100) % 256)) % 256 = (a : Int) := by
  rw [Int.tdiv_eq_ediv_of_nonneg (by omega)]; omega
theorem dig2 (n a : Nat) (h : n < 256) (ha : a = 48 + n / 10 % 10) : 48 + (((Int.tdiv (n : Int) 10) % 256) % 10) = (a : Int) := by
  rw [Int.tdiv_eq_ediv_of_nonneg (by omega)]; omega
theorem dig1 (n a : Nat) (h : n < 256) (ha : a = 48 + n % 10) : (48 + (Int.tmod (n : Int) 10)) % 256 = (a : Int) := by
  rw [Int.tmod_eq_emod_of_nonneg (by omega)]; omega
theorem mk_three (a b c : Nat) (ha : a < 256) (hb : b < 256) (hc : c < 256) : strOfNums [(a : Int), (b : Int), (c : Int)] = mk [UInt8.ofNat a, UInt8.ofNat b, UInt8.ofNat c] := by
  apply bytes_eq
  rw [strOfNums_data]
  simp
theorem shown_l0 : ∀ (r p : List UInt8) (z : List UInt8) (k : Nat), (p ++ r).length ≤ 1000 → z.length + 4 * r.length ≤ 10000 → 2 * r.length + 1 ≤ k →
    guidepostref01_Shown.l0 k (mk (p ++ r)) (mk z) (p.length : Int) = some (mk (z ++ textBs r)) := by
  intro r
  induction r with
  | nil =>
    intro p z k hsz hz hk
    obtain ⟨k, rfl⟩ : ∃ j, k = j + 1 := ⟨k - 1, by simp at hk; omega⟩
    rw [List.append_nil, guidepostref01_Shown.l0, if_neg (by rw [mk_size']; omega)]
    simp [textBs]
  | cons c r ih =>
    intro p z k hsz hz hk
    rw [List.length_cons] at hz hk
    obtain ⟨k, rfl⟩ : ∃ j, k = j + 2 := ⟨k - 2, by omega⟩
    have hlen : (p ++ c :: r).length = p.length + 1 + r.length := by simp; omega
    have hs : ((mk (p ++ c :: r)).size : Int) = (p.length : Int) + 1 + r.length := by rw [mk_size', hlen]; omega
    have hb := bt_mid p r c
    have hc := UInt8.toNat_lt c
    have e1 : p ++ c :: r = (p ++ [c]) ++ r := by simp
    have e2 : (p ++ [c]).length = p.length + 1 := by simp
    have ht : textBs (c :: r) = textB c ++ textBs r := rfl
    have hx : (mk (p ++ c :: r)).extract p.length (p.length + 1) = mk [c] := by
      rw [mk_extract, List.drop_left, Nat.add_sub_cancel_left]; rfl
    have hwrap : wrap64 ((p.length : Int) + 1) = ((p ++ [c]).length : Int) := by rw [w64 _ (by omega) (by omega), e2]; omega
    have hdot : (if c.toNat = 46 ∨ c.toNat = 92 then true else false) = true ∨ (if c.toNat = 46 ∨ c.toNat = 92 then true else false) = false := by split <;> simp
    have hnext : ∀ z', z'.length + 4 * r.length ≤ 10000 → guidepostref01_Shown.l0 k (mk (p ++ c :: r)) (mk z') ((p ++ [c]).length : Int) = some (mk (z' ++ textBs r)) := fun z' hz' => by
      rw [e1]; exact ih (p ++ [c]) z' k (by rw [← e1]; exact hsz) hz' (by omega)
    have hj : ∀ b : Bool, b = decide (c.toNat = 46 ∨ c.toNat = 92) → guidepostref01_Shown.j1 (k + 1) (mk (p ++ c :: r)) (mk z) (p.length : Int) (c.toNat : Int) b = some (mk (z ++ textBs (c :: r))) := fun b hb' => by
      rw [guidepostref01_Shown.j1, hwrap, Int.toNat_natCast, Int.toNat_natCast, e2, hx]
      by_cases h1 : c.toNat = 46 ∨ c.toNat = 92
      · have hB : textB c = [92, c] := by unfold textB; rw [if_pos h1]
        rw [hb', decide_eq_true h1, if_pos rfl, if_pos (by rw [mk_size]; omega), if_pos (by omega), if_pos (by omega), if_pos (by rw [hs]; omega)]
        rw [show (mk z ++ (⟨#[92]⟩ : ByteArray)) = mk (z ++ [92]) from mk_append z [92], if_pos (by rw [mk_size, mk_size]; simp; omega), mk_append, ← e2, hnext _ (by simp; omega), ht, hB]
        simp
      · rw [hb', decide_eq_false h1, if_neg (by simp)]
        have h96 : ∀ a b d : Nat, a = 48 + c.toNat / 100 → b = 48 + c.toNat / 10 % 10 → d = 48 + c.toNat % 10 → textB c = [92, UInt8.ofNat a, UInt8.ofNat b, UInt8.ofNat d] →
            ((some (([(48 + ((Int.tdiv (c.toNat : Int) 100) % 256)) % 256, 48 + (((Int.tdiv (c.toNat : Int) 10) % 256) % 10), (48 + (Int.tmod (c.toNat : Int) 10)) % 256] : List Int) : List Int)).bind fun y179 => (if (mk z ++ (⟨#[92]⟩ : ByteArray)).size + (strOfNums y179).size ≤ 9223372036854775807 then (guidepostref01_Shown.l0 k (mk (p ++ c :: r)) ((mk z ++ (⟨#[92]⟩ : ByteArray)) ++ (strOfNums y179)) ((p.length + 1 : Nat) : Int)) else (none))) = some (mk (z ++ textBs (c :: r))) := fun a b d ha hb2 hd hT => by
          rw [dig3 c.toNat a hc ha, dig2 c.toNat b hc hb2, dig1 c.toNat d hc hd]
          simp only [Option.bind_some]
          rw [mk_three a b d (by omega) (by omega) (by omega), show (mk z ++ (⟨#[92]⟩ : ByteArray)) = mk (z ++ [92]) from mk_append z [92], if_pos (by rw [mk_size, mk_size]; simp; omega), mk_append, ← e2, hnext _ (by simp; omega), ht, hT]
          simp
        by_cases h3 : c.toNat < 33
        · have hB : textB c = [92, UInt8.ofNat (48 + c.toNat / 100), UInt8.ofNat (48 + c.toNat / 10 % 10), UInt8.ofNat (48 + c.toNat % 10)] := by unfold textB; rw [if_neg h1, if_pos (.inl h3)]
          rw [if_pos (by omega), if_pos (by rw [mk_size]; omega)]
          exact h96 _ _ _ rfl rfl rfl hB
        · rw [if_neg (by omega)]
          by_cases h4 : 126 < c.toNat
          · have hB : textB c = [92, UInt8.ofNat (48 + c.toNat / 100), UInt8.ofNat (48 + c.toNat / 10 % 10), UInt8.ofNat (48 + c.toNat % 10)] := by unfold textB; rw [if_neg h1, if_pos (.inr h4)]
            rw [if_pos (by omega), if_pos (by rw [mk_size]; omega)]
            exact h96 _ _ _ rfl rfl rfl hB
          · have hB : textB c = [c] := by unfold textB; rw [if_neg h1, if_neg (by omega)]
            rw [if_neg (by omega), if_pos (by omega), if_pos (by omega), if_pos (by rw [hs]; omega), if_pos (by rw [mk_size, mk_size]; simp; omega), mk_append, ← e2, hnext _ (by simp; omega), ht, hB]
            simp
    rw [guidepostref01_Shown.l0, if_pos (by rw [hs]; omega), if_pos (by omega), hb]
    by_cases h46 : c.toNat = 46
    · rw [if_pos (by omega)]
      exact hj true (by simp [h46])
    · rw [if_neg (by omega)]
      refine hj _ ?_
      apply Bool.eq_iff_iff.2
      rw [beq_iff_eq, decide_eq_true_eq]; omega

theorem shown_f (x : List UInt8) (k : Nat) (hx : x.length ≤ 100) (hk : 201 ≤ k) : guidepostref01_Shown.f k (mk x) = some (mk (textBs x)) := by
  have h := shown_l0 x [] [] k (by rw [List.nil_append]; omega) (by rw [List.length_nil]; omega) (by omega)
  rw [List.nil_append, List.nil_append, show ((([] : List UInt8).length : Nat) : Int) = 0 from rfl, show mk [] = (⟨#[]⟩ : ByteArray) from rfl] at h
  unfold guidepostref01_Shown.f
  exact h
set_option maxRecDepth 20000 in
theorem textfrom_l0 : ∀ (d : Nat) (a : List (List UInt8)) (i k : Nat) (z : List UInt8), a.length - i = d → i ≤ a.length → (∀ x ∈ a, okL x) → a.length ≤ 300 → z.length + 260 * d ≤ 200000 → d + 300 ≤ k →
    guidepostref01_Text.l0 k (a.map mk) (mk z) (i : Int) = some (mk (z ++ (a.drop i).flatMap (fun x => textBs x ++ [46])), true) := by
  intro d
  induction d with
  | zero =>
    intro a i k z hd hi hok ha hz hk
    obtain rfl : i = a.length := by omega
    obtain ⟨k, rfl⟩ : ∃ j, k = j + 1 := ⟨k - 1, by omega⟩
    rw [guidepostref01_Text.l0, if_neg (by rw [List.length_map]; omega), List.drop_length]; simp
  | succ d ih =>
    intro a i k z hd hi hok ha hz hk
    obtain ⟨k, rfl⟩ : ∃ j, k = j + 1 := ⟨k - 1, by omega⟩
    have hlt : i < a.length := by omega
    have hx := hok a[i] (List.getElem_mem hlt)
    obtain ⟨hx1, hx2⟩ := hx
    have hxt := textBs_len a[i]
    have hr : rdOf ByteArray.empty (a.map mk) (i : Int) = mk a[i] := by
      rw [rd_at i (by rw [List.length_map]; exact hlt)]; simp
    have hsh : guidepostref01_Shown.f k (mk a[i]) = some (mk (textBs a[i])) := shown_f a[i] k (by omega) (by omega)
    rw [guidepostref01_Text.l0, if_pos (by rw [List.length_map]; omega), if_pos (by omega), hr, hsh]
    simp only [Option.bind_some]
    obtain ⟨y, hy⟩ : ∃ y, z ++ textBs a[i] ++ [46] = y := ⟨_, rfl⟩
    have hyl : y.length = z.length + (textBs a[i]).length + 1 := by rw [← hy, List.length_append, List.length_append, List.length_singleton]
    have hz2 : y.length + 260 * d ≤ 200000 := by omega
    have hi1 : a.length - (i + 1) = d := by omega
    have hi2 : i + 1 ≤ a.length := by omega
    have hk2 : d + 300 ≤ k := by omega
    have hnx := ih a (i + 1) k y hi1 hi2 hok ha hz2 hk2
    rw [← hy] at hnx
    have q1 : (mk z).size + (mk (textBs a[i])).size ≤ 9223372036854775807 := by rw [mk_size, mk_size]; omega
    have q2 : (mk (z ++ textBs a[i])).size + 1 ≤ 9223372036854775807 := by rw [mk_size, List.length_append]; omega
    have q3 : wrap64 ((i : Int) + 1) = ((i + 1 : Nat) : Int) := by rw [w64 _ (by omega) (by omega)]; omega
    rw [if_pos q1, mk_append, if_pos q2, q3]
    rw [show mk (z ++ textBs a[i]) ++ (⟨#[46]⟩ : ByteArray) = mk (z ++ textBs a[i] ++ [46]) from mk_append _ [46]]
    rw [hnx, List.drop_eq_getElem_cons hlt, List.flatMap_cons]
    simp only [List.append_assoc]

theorem reftext_f (n : ByteArray) (hn : n.size ≤ 140737488351232) (k : Nat) (hk : 700 ≤ k) : guidepostref01_Text.f k n = some ((textW n).1, rightB n) ∧ (textW n).2 = if rightB n then 0 else 2 := by
  unfold guidepostref01_Text.f
  rw [reflabels_f hn]
  simp only [Option.bind_some]
  by_cases h1 : rightB n = true
  · obtain ⟨a, ha, rfl⟩ := right_isN h1
    have n1 := labelsL_len (mk (enc a))
    rw [ha.labels, List.length_map] at n1
    rw [h1, if_pos rfl, ha.labels, ha.text]
    by_cases h0 : a = []
    · subst h0; simp
    · have hl : a.length ≠ 0 := fun e => h0 (List.length_eq_zero_iff.1 e)
      have ht := textfrom_l0 a.length a 0 k [] (by omega) (Nat.zero_le _) ha.ok (by omega) (by rw [List.length_nil]; omega) (by omega)
      rw [List.nil_append, List.drop_zero, show ((0 : Nat) : Int) = 0 from rfl, show mk [] = (⟨#[]⟩ : ByteArray) from rfl] at ht
      have hne : ¬ (((a.map mk).length : Nat) : Int) = 0 := by rw [List.length_map]; omega
      rw [if_neg hne, if_neg h0, ht]
      exact ⟨rfl, rfl⟩
  · have h1' : rightB n = false := by simpa using h1
    rw [h1']
    have : textW n = (⟨#[]⟩, 2) := by unfold textW; rw [if_neg h1]
    rw [this]; simp

/-- The plain law, where the text has at most 2^20 bytes. -/
theorem NameTexts_upto (t n : ByteArray) (ht : t.size ≤ 1048576) (hn : n.size ≤ 140737488351232) : ∃ k, guidepostlaw01_NameTexts.f k t n = some true := by
  obtain ⟨K, hK⟩ : ∃ K, 1048600 ≤ K := ⟨1048600, Nat.le_refl _⟩
  refine ⟨K, ?_⟩
  obtain ⟨r, p1, p2⟩ := parse_eq t ht K (by omega)
  obtain ⟨t1, t2⟩ := reftext_f n hn K (by omega)
  have t3 : name_Text.f n = some (textW n) := if_pos hn
  unfold guidepostlaw01_NameTexts.f
  rw [examples_f K (by omega), p1, p2, t3, t1]
  simp only [Option.bind_some, if_true]
  rw [t2]
  cases rightB n <;> simp

end Go.Proofs.Ytlikkpeaepankaa.Pure
