/- The plain law of NameBack: no program in sight. -/
import Derived.Test.YtlikkpeaepankaaPNameBackx3
import Derived.Test.YtlikkpeaepankaaNmZ
namespace Go.Proofs.Ytlikkpeaepankaa.Pure
open Go.RowKit Go.Proofs.Ytlikkpeaepankaa.PNameBack Go.Proofs.YtlikkpeaepankaaW.PrintWords Go.Proofs.YtlikkpeaepankaaW.PrintLast Go.Proofs.YtlikkpeaepankaaW.PrintMore Go.Proofs.Ytlikkpeaepankaa.Nm
set_option linter.unusedSimpArgs false
set_option linter.unusedVariables false

theorem w64 (n : Int) (h0 : -9223372036854775808 ≤ n) (h1 : n < 9223372036854775808) : wrap64 n = n := by unfold wrap64; omega
theorem right_f {s : ByteArray} (h : s.size ≤ 140737488351232) : name_Right.f s = some (rightB s) := if_pos h
theorem lower_f {s : ByteArray} (h : s.size ≤ 140737488351232) : name_Lower.f s = some (lowerW s) := if_pos h
theorem labels_f {s : ByteArray} (h : s.size ≤ 140737488351232) : name_Labels.f s = some (labelsL s) := if_pos h
theorem under_f {s t : ByteArray} (h : s.size ≤ 140737488351232) (h2 : t.size ≤ 140737488351232) : name_Under.f s t = some (underW s t) := if_pos ⟨h, h2⟩

theorem cmp_l0 : ∀ (n : Nat) (X Y : List ByteArray) (k : Nat), X.length = n → 2 * n + 2 ≤ k → n < 4611686018427387904 → Y.length < 4611686018427387904 → name_Compare.l0 k X Y = some (cmpR X.reverse Y.reverse) := by
  intro n
  induction n with
  | zero =>
    intro X Y k hX hk _ hY
    obtain rfl := List.length_eq_zero_iff.1 hX
    obtain ⟨k, rfl⟩ : ∃ j, k = j + 2 := ⟨k - 2, by omega⟩
    rw [name_Compare.l0, if_neg (by simp), name_Compare.j2, if_neg (by simp)]
    rcases List.eq_nil_or_concat Y with rfl | ⟨Y', y, rfl⟩
    · rfl
    · have : ((Y'.concat y).length : Int) ≥ 1 := by simp; omega
      rw [List.concat_eq_append, List.reverse_append]
      simp [cmpR, mn]
      omega
  | succ n ih =>
    intro X Y k hX hk hn hY
    rcases List.eq_nil_or_concat X with rfl | ⟨X', x, rfl⟩
    · cases hX
    rw [List.concat_eq_append] at hX ⊢
    have hX' : X'.length = n := by simpa using hX
    obtain ⟨k, rfl⟩ : ∃ j, k = j + 2 := ⟨k - 2, by omega⟩
    rw [name_Compare.l0, if_pos (by simp), name_Compare.j2]
    rcases List.eq_nil_or_concat Y with rfl | ⟨Y', y, rfl⟩
    · rw [if_neg (by simp), List.reverse_append]
      simp [cmpR, mn]
      omega
    rw [List.concat_eq_append] at hY ⊢
    have e1 : ((X' ++ [x]).length : Int) = X'.length + 1 := by simp
    have e2 : ((Y' ++ [y]).length : Int) = Y'.length + 1 := by simp
    have hY' : Y'.length < 4611686018427387904 := by simp at hY; omega
    rw [if_pos (by rw [decide_eq_true_eq, e2]; omega), e1, e2, w64 _ (by omega) (by omega), w64 _ (by omega) (by omega),
      show (X'.length : Int) + 1 - 1 = X'.length by omega, show (Y'.length : Int) + 1 - 1 = Y'.length by omega,
      if_pos (by omega), if_pos (by omega), if_pos (by omega), if_pos (by omega)]
    have g1 : rdOf ByteArray.empty (X' ++ [x]) (X'.length : Int) = x := by simp [rdOf]
    have g2 : rdOf ByteArray.empty (Y' ++ [y]) (Y'.length : Int) = y := by simp [rdOf]
    rw [g1, g2, Int.toNat_natCast, Int.toNat_natCast, List.take_left, List.take_left, List.reverse_append, List.reverse_append]
    show (if cB x.data.toList y.data.toList = 0 then _ else _) = _
    simp only [List.reverse_cons, List.reverse_nil, List.nil_append, List.cons_append, cmpR]
    by_cases hc : cB x.data.toList y.data.toList = 0
    · rw [if_pos hc, if_pos hc, if_pos (by omega), if_pos (by omega)]
      exact ih X' Y' k hX' (by omega) (by omega) hY'
    · rw [if_neg hc, if_neg hc]

theorem labelsL_len (s : ByteArray) : (labelsL s).length ≤ 128 := by
  unfold labelsL
  split
  · rename_i h
    have h1 := labs_length s _ 0 rfl
    have h2 : s.size ≤ 255 := by unfold rightB at h; simp at h; omega
    rw [List.length_map]; omega
  · simp

theorem cmp_f (k : Nat) (hk : 300 ≤ k) (s t : ByteArray) (hs : s.size ≤ 140737488351232) (ht : t.size ≤ 140737488351232) : name_Compare.f k s t = some (cmpN s t) := by
  unfold name_Compare.f cmpN
  rw [right_f hs, right_f ht]
  obtain ⟨k, rfl⟩ : ∃ j, k = j + 1 := ⟨k - 1, by omega⟩
  have hls : (lowerW s).size ≤ 140737488351232 := by rw [lowerW_size]; exact hs
  have hlt : (lowerW t).size ≤ 140737488351232 := by rw [lowerW_size]; exact ht
  have n1 := labelsL_len (lowerW s)
  have n2 := labelsL_len (lowerW t)
  have hl := cmp_l0 _ (labelsL (lowerW s)) (labelsL (lowerW t)) k rfl (by omega) (by omega) (by omega)
  cases h1 : rightB s <;> cases h2 : rightB t <;> simp [name_Compare.j0, strings_Compare.f, lower_f hs, lower_f ht, labels_f hls, labels_f hlt, hl, cB]

theorem equal_f (s t : ByteArray) (hs : s.size ≤ 140737488351232) (ht : t.size ≤ 140737488351232) : name_Equal.f s t = some (eqN s t) := by
  unfold name_Equal.f eqN
  rw [right_f hs, right_f ht, lower_f hs, lower_f ht]
  cases h1 : rightB s <;> cases h2 : rightB t <;> simp

theorem examples_f (k : Nat) (hk : 40 ≤ k) : guidepostlaw01_examples.f k = some true := by
  obtain ⟨j, rfl⟩ : ∃ j, k = 40 + j := ⟨k - 40, by omega⟩
  have h : guidepostlaw01_examples.f 40 = some true := by decide +kernel
  clear hk
  induction j with
  | zero => exact h
  | succ j ih => exact guidepostlaw01_examples.mono _ _ ih

theorem bt_mid (p r : List UInt8) (d : UInt8) : bt (mk (p ++ d :: r)) (p.length : Int) = (d.toNat : Int) := by
  unfold bt
  have h : ((p.length : Int)).toNat < (mk (p ++ d :: r)).size := by rw [Int.toNat_natCast]; show p.length < (p ++ d :: r).length; simp
  rw [dif_pos h]
  have h1 : (mk (p ++ d :: r))[((p.length : Int)).toNat]'h = d := by
    show (p ++ d :: r)[((p.length : Int)).toNat]'h = d
    simp
  rw [h1]
theorem ext_mid (p r : List UInt8) (d : UInt8) : (mk (p ++ d :: r)).extract (p.length + 1) (mk (p ++ d :: r)).size = mk r := by
  rw [mk_extract]
  have e : p ++ d :: r = (p ++ [d]) ++ r := by simp
  have e2 : (p ++ [d]).length = p.length + 1 := by simp
  rw [e, ← e2, List.drop_left, mk_size, List.length_append, Nat.add_sub_cancel_left, List.take_length]
theorem byteN_zero (c : UInt8) (r : List UInt8) : byteN (mk (c :: r)) 0 = c.toNat := rfl
theorem byteN_one (c d : UInt8) (r : List UInt8) : byteN (mk (c :: d :: r)) 1 = d.toNat := rfl
theorem byteN_two (c d e : UInt8) (r : List UInt8) : byteN (mk (c :: d :: e :: r)) 2 = e.toNat := rfl
theorem esc_one (c : UInt8) (r : List UInt8) (h : isDig c.toNat = false) : escW (mk (c :: r)) = (c.toNat, 1, true) := by
  unfold escW
  rw [if_neg (by rw [mk_size]; simp), byteN_zero, if_pos h]
theorem esc_three (c d e : UInt8) (r : List UInt8) (hc : isDig c.toNat = true) (hd : isDig d.toNat = true) (he : isDig e.toNat = true) : escW (mk (c :: d :: e :: r)) = ((100 * (c.toNat - 48) + 10 * (d.toNat - 48) + (e.toNat - 48)) % 256, 3, decide (100 * (c.toNat - 48) + 10 * (d.toNat - 48) + (e.toNat - 48) < 256)) := by
  have hn : num3 (mk (c :: d :: e :: r)) 3 = 100 * (c.toNat - 48) + 10 * (d.toNat - 48) + (e.toNat - 48) := by
    show 10 * (10 * (10 * 0 + (byteN (mk (c :: d :: e :: r)) 0 - 48)) + (byteN (mk (c :: d :: e :: r)) 1 - 48)) + (byteN (mk (c :: d :: e :: r)) 2 - 48) = _
    rw [byteN_zero, byteN_one, byteN_two]; omega
  unfold escW
  rw [if_neg (by rw [mk_size]; simp), byteN_zero, byteN_one, byteN_two, hc, hd, he, hn, if_neg (by simp), if_neg (by rw [mk_size]; simp)]
  rfl

/-- A byte that is told by a backslash. -/
theorem parse_esc (k : Nat) (p r : List UInt8) (acc : List ByteArray) (lab : List Int) (v n : Nat) (hsz : (p ++ 92 :: r).length ≤ 140737488351232) (hlab : lab.length < 140737488355328) (he : escW (mk r) = (v, n, true)) (hn : n ≤ 3) :
    name_Parse.l0 (k + 1) (mk (p ++ 92 :: r)) acc lab (p.length : Int) = name_Parse.l0 k (mk (p ++ 92 :: r)) acc (lab ++ [(v : Int)]) ((p.length + 1 + n : Nat) : Int) := by
  have hlen : (p ++ 92 :: r).length = p.length + 1 + r.length := by simp; omega
  have hs : ((mk (p ++ 92 :: r)).size : Int) = (p.length : Int) + 1 + r.length := by rw [mk_size', hlen]; omega
  have hb := bt_mid p r 92
  rw [name_Parse.l0, if_pos (by rw [hs]; omega), if_pos (by omega), hb, if_neg (by decide), if_pos (by decide), w64 ((p.length : Int) + 1) (by omega) (by omega), if_pos (by omega), if_pos (by rw [hs]; omega),
    show ((p.length : Int) + 1).toNat = p.length + 1 by omega, ext_mid]
  simp only [name_escaped.f, he, Option.bind_some, if_true]
  rw [if_pos hlab, w64 ((p.length : Int) + (n : Int)) (by omega) (by omega), w64 _ (by omega) (by omega)]
  congr 1
  omega

theorem parse_plain (k : Nat) (p r : List UInt8) (c : UInt8) (acc : List ByteArray) (lab : List Int) (hsz : (p ++ c :: r).length ≤ 140737488351232) (hlab : lab.length < 140737488355328) (h1 : c.toNat ≠ 46) (h2 : c.toNat ≠ 92) (h3 : 33 ≤ c.toNat) (h4 : c.toNat ≤ 126) :
    name_Parse.l0 (k + 1) (mk (p ++ c :: r)) acc lab (p.length : Int) = name_Parse.l0 k (mk (p ++ c :: r)) acc (lab ++ [(c.toNat : Int)]) ((p.length + 1 : Nat) : Int) := by
  have hlen : (p ++ c :: r).length = p.length + 1 + r.length := by simp; omega
  have hs : ((mk (p ++ c :: r)).size : Int) = (p.length : Int) + 1 + r.length := by rw [mk_size', hlen]; omega
  have hb := bt_mid p r c
  rw [name_Parse.l0, if_pos (by rw [hs]; omega), if_pos (by omega), hb, if_neg (by omega), if_neg (by omega), if_neg (by omega), if_neg (by omega), if_pos hlab, w64 ((p.length : Int) + 1) (by omega) (by omega)]
  congr 1

theorem parse_byte (k : Nat) (p r : List UInt8) (c : UInt8) (acc : List ByteArray) (lab : List Int) (hsz : (p ++ (textB c ++ r)).length ≤ 140737488351232) (hlab : lab.length < 140737488355328) :
    name_Parse.l0 (k + 1) (mk (p ++ (textB c ++ r))) acc lab (p.length : Int) = name_Parse.l0 k (mk (p ++ (textB c ++ r))) acc (lab ++ [(c.toNat : Int)]) ((p.length + (textB c).length : Nat) : Int) := by
  have hc := UInt8.toNat_lt c
  by_cases h1 : c.toNat = 46 ∨ c.toNat = 92
  · have hB : textB c = [92, c] := by unfold textB; rw [if_pos h1]
    rw [hB] at hsz ⊢
    have h2 := parse_esc k p (c :: r) acc lab c.toNat 1 hsz hlab (esc_one c r (by rcases h1 with e | e <;> simp [isDig, e])) (by omega)
    exact h2
  · by_cases h3 : c.toNat < 33 ∨ 126 < c.toNat
    · have hB : textB c = [92, UInt8.ofNat (48 + c.toNat / 100), UInt8.ofNat (48 + c.toNat / 10 % 10), UInt8.ofNat (48 + c.toNat % 10)] := by unfold textB; rw [if_neg h1, if_pos h3]
      rw [hB] at hsz ⊢
      have q1 : (UInt8.ofNat (48 + c.toNat / 100)).toNat = 48 + c.toNat / 100 := by simp; omega
      have q2 : (UInt8.ofNat (48 + c.toNat / 10 % 10)).toNat = 48 + c.toNat / 10 % 10 := by simp; omega
      have q3 : (UInt8.ofNat (48 + c.toNat % 10)).toNat = 48 + c.toNat % 10 := by simp; omega
      have he := esc_three (UInt8.ofNat (48 + c.toNat / 100)) (UInt8.ofNat (48 + c.toNat / 10 % 10)) (UInt8.ofNat (48 + c.toNat % 10)) r (by rw [q1]; simp [isDig]; omega) (by rw [q2]; simp [isDig]; omega) (by rw [q3]; simp [isDig]; omega)
      rw [q1, q2, q3] at he
      have e1 : 100 * (48 + c.toNat / 100 - 48) + 10 * (48 + c.toNat / 10 % 10 - 48) + (48 + c.toNat % 10 - 48) = c.toNat := by omega
      rw [e1, Nat.mod_eq_of_lt hc, decide_eq_true (by omega : c.toNat < 256)] at he
      exact parse_esc k p _ acc lab c.toNat 3 hsz hlab he (by omega)
    · have hB : textB c = [c] := by unfold textB; rw [if_neg h1, if_neg h3]
      rw [hB] at hsz ⊢
      exact parse_plain k p r c acc lab hsz hlab (by omega) (by omega) (by omega) (by omega)

theorem parse_bytes (x : List UInt8) : ∀ (k : Nat) (p r : List UInt8) (acc : List ByteArray) (lab : List Int), (p ++ (textBs x ++ r)).length ≤ 140737488351232 → lab.length + x.length < 140737488355328 →
    name_Parse.l0 (k + x.length) (mk (p ++ (textBs x ++ r))) acc lab (p.length : Int) = name_Parse.l0 k (mk (p ++ (textBs x ++ r))) acc (lab ++ x.map (fun c => (c.toNat : Int))) ((p.length + (textBs x).length : Nat) : Int) := by
  induction x with
  | nil => intro k p r acc lab _ _; simp [textBs]
  | cons c x ih =>
    intro k p r acc lab hsz hlab
    have e : textBs (c :: x) = textB c ++ textBs x := rfl
    rw [e, List.append_assoc] at hsz ⊢
    rw [List.length_cons, ← Nat.add_assoc, parse_byte (k + x.length) p (textBs x ++ r) c acc lab hsz (by simp at hlab; omega)]
    have h := ih k (p ++ textB c) r acc (lab ++ [(c.toNat : Int)]) (by rw [List.append_assoc]; exact hsz) (by simp at hlab ⊢; omega)
    rw [List.append_assoc, List.length_append] at h
    rw [h, List.length_append, List.append_assoc]
    congr 1
    omega

theorem parse_dot (k : Nat) (p r : List UInt8) (acc : List ByteArray) (lab : List Int) (hsz : (p ++ 46 :: r).length ≤ 140737488351232) (hlab : lab ≠ []) (hacc : acc.length < 8796093022208) :
    name_Parse.l0 (k + 1) (mk (p ++ 46 :: r)) acc lab (p.length : Int) = name_Parse.l0 k (mk (p ++ 46 :: r)) (acc ++ [strOfNums lab]) [] ((p.length + 1 : Nat) : Int) := by
  have hlen : (p ++ 46 :: r).length = p.length + 1 + r.length := by simp; omega
  have hs : ((mk (p ++ 46 :: r)).size : Int) = (p.length : Int) + 1 + r.length := by rw [mk_size', hlen]; omega
  have hb := bt_mid p r 46
  have hl : lab.length ≠ 0 := fun e => hlab (List.length_eq_zero_iff.1 e)
  rw [name_Parse.l0, if_pos (by rw [hs]; omega), if_pos (by omega), hb, if_pos (by decide), if_neg (by omega), if_pos hacc, w64 ((p.length : Int) + 1) (by omega) (by omega)]
  congr 1

theorem strOf_mk (x : List UInt8) : strOfNums (x.map (fun c => (c.toNat : Int))) = mk x := by
  apply bytes_eq
  rw [strOfNums_data, List.map_map, mk_data]
  have : ∀ c : UInt8, ((fun (n : Int) => UInt8.ofNat n.toNat) ∘ fun c : UInt8 => (c.toNat : Int)) c = c := fun c => by simp
  rw [List.map_congr_left (fun c _ => this c)]; simp

def textOf (a : List (List UInt8)) : List UInt8 := a.flatMap (fun x => textBs x ++ [46])
theorem textOf_cons (x : List UInt8) (a : List (List UInt8)) : textOf (x :: a) = textBs x ++ (46 :: textOf a) := by simp [textOf]

theorem parse_all : ∀ (a : List (List UInt8)) (k : Nat) (p : List UInt8) (acc : List ByteArray), (∀ x ∈ a, okL x) → (p ++ textOf a).length ≤ 140737488351232 → acc.length + a.length < 8796093021952 → 64 * a.length + 1 ≤ k →
    name_Parse.l0 k (mk (p ++ textOf a)) acc [] (p.length : Int) = if acc.length + a.length = 0 then some (⟨#[]⟩, 7) else some (ofW (acc ++ a.map mk)) := by
  intro a
  induction a with
  | nil =>
    intro k p acc _ _ hacc hk
    obtain ⟨k, rfl⟩ : ∃ j, k = j + 1 := ⟨k - 1, by simp at hk; omega⟩
    have e : p ++ textOf [] = p := by simp [textOf]
    rw [e, name_Parse.l0, if_neg (by rw [mk_size']; omega), if_neg (by simp)]
    by_cases h0 : acc.length = 0
    · rw [if_pos (by simp [h0]), if_pos (by simpa using h0)]
    · rw [if_neg (by omega), if_neg (by simpa using h0)]
      have : name_Of.f acc = some (ofW acc) := if_pos (by simp at hacc; omega)
      rw [this]; simp
  | cons x a ih =>
    intro k p acc hok hsz hacc hk
    have hx := hok x (by simp)
    have hx2 := hx.2
    have hx1 := hx.1
    rw [textOf_cons] at hsz ⊢
    obtain ⟨k, rfl⟩ : ∃ j, k = j + 1 + x.length := ⟨k - 1 - x.length, by simp at hk; omega⟩
    rw [parse_bytes x (k + 1) p (46 :: textOf a) acc [] hsz (by simp; omega), List.nil_append]
    have e : p ++ (textBs x ++ 46 :: textOf a) = (p ++ textBs x) ++ 46 :: textOf a := by simp
    have e2 : p.length + (textBs x).length = (p ++ textBs x).length := by simp
    rw [e] at hsz ⊢
    rw [e2, parse_dot k (p ++ textBs x) (textOf a) acc _ hsz (by intro h; have := congrArg List.length h; simp at this; rw [this] at hx1; simp at hx1) (by simp at hacc; omega), strOf_mk]
    have e3 : (p ++ textBs x) ++ 46 :: textOf a = (p ++ textBs x ++ [46]) ++ textOf a := by simp
    have e4 : (p ++ textBs x).length + 1 = (p ++ textBs x ++ [46]).length := by simp; omega
    rw [e3] at hsz ⊢
    rw [e4, ih k (p ++ textBs x ++ [46]) (acc ++ [mk x]) (fun y hy => hok y (by simp [hy])) hsz (by simp at hacc ⊢; omega) (by simp at hk; omega)]
    simp

theorem of_f {a : List (List UInt8)} (ha : IsN a) : name_Of.f (a.map mk) = some (mk (enc a), 0) := by
  have hl := labelsL_len (mk (enc a))
  rw [ha.labels, List.length_map] at hl
  have : name_Of.f (a.map mk) = some (ofW (a.map mk)) := if_pos (by rw [List.length_map]; omega)
  rw [this, ofW_mk a ha.ok, if_pos ha.le]

theorem textOf_len (a : List (List UInt8)) : (textOf a).length ≤ 4 * (flat a).length := by
  induction a with
  | nil => simp [textOf]
  | cons x a ih =>
    rw [textOf_cons, flat_cons]
    have := textBs_len x
    simp only [List.length_append, List.length_cons] at *
    omega
theorem textOf_ne (x : List UInt8) (a : List (List UInt8)) (hx : okL x) : textOf (x :: a) ≠ [46] := by
  intro h
  rw [textOf_cons] at h
  obtain ⟨h1, _⟩ := hx
  cases x with
  | nil => simp at h1
  | cons c x =>
    have e : textBs (c :: x) = textB c ++ textBs x := rfl
    rw [e] at h
    have h2 := congrArg List.length h
    have h3 : 1 ≤ (textB c).length := by unfold textB; split <;> (try split) <;> simp
    simp at h2; omega

theorem parse_back {a : List (List UInt8)} (ha : IsN a) (k : Nat) (hk : 9000 ≤ k) : name_Parse.f k (textW (mk (enc a))).1 = some (mk (enc a), 0) := by
  rw [ha.text]
  by_cases h0 : a = []
  · subst h0; rw [if_pos rfl]
    unfold name_Parse.f
    rw [if_pos (by rw [ByteArray.toList_eq])]; rfl
  · rw [if_neg h0]
    show name_Parse.f k (mk (textOf a)) = _
    obtain ⟨x, b, rfl⟩ := List.exists_cons_of_ne_nil h0
    unfold name_Parse.f
    rw [mk_list, if_neg (textOf_ne x b (ha.ok x (by simp)))]
    have hl := labelsL_len (mk (enc (x :: b)))
    rw [ha.labels, List.length_map] at hl
    have h1 := textOf_len (x :: b)
    have h2 := ha.le
    rw [enc_length] at h2
    have h := parse_all (x :: b) k [] [] ha.ok (by rw [List.nil_append]; omega) (by simp at hl ⊢; omega) (by omega)
    rw [List.nil_append, List.nil_append] at h
    show name_Parse.l0 k (mk (textOf (x :: b))) [] [] ((0 : Nat) : Int) = _
    rw [show (0 : Nat) = ([] : List UInt8).length from rfl, h, if_neg (by simp), ofW_mk _ ha.ok, if_pos ha.le]

theorem NameBack : guidepostlaw01_NameBack.Pure := by
  intro n bits hn hb
  refine ⟨9000, ?_⟩
  have hb2 : 0 ≤ bits ∧ bits < 2 ^ 64 := by
    simp [Lit.wf, IntKind.min, IntKind.max, IntKind.bits, IntKind.signed] at hb
    omega
  unfold guidepostlaw01_NameBack.f
  rw [examples_f 9000 (by omega), right_f hn]
  simp only [Option.bind_some]
  by_cases h1 : rightB n = true
  · rw [if_pos h1]
    obtain ⟨a, ha, rfl⟩ := right_isN h1
    have ht : name_Text.f (mk (enc a)) = some (textW (mk (enc a))) := if_pos hn
    have ht2 : (textW (mk (enc a))).2 = 0 := by rw [ha.text]; split <;> rfl
    have hcs : name_Cased.f (mk (enc a)) bits = some (casedW (mk (enc a)) bits.toNat) := if_pos ⟨hn, hb2⟩
    obtain ⟨hc, hlow⟩ := ha.cas bits.toNat
    have sc : (mk (enc (casL bits.toNat 0 (a.map lowL)))).size ≤ 140737488351232 := Nat.le_trans hc.size (by decide)
    rw [ht, labels_f hn, hcs, ha.casd]
    simp only [Option.bind_some]
    rw [parse_back ha 9000 (by omega), ha.labels, of_f ha]
    simp only [Option.bind_some, if_true]
    rw [ht2, equal_f _ _ sc hn, hc.eqn ha, decide_eq_true hlow, lower_f sc, lower_f hn, hc.lower, ha.lower, hlow, cmp_f 9000 (by omega) _ _ sc hn, hc.cmp ha, hlow]
    simp [(cmpR_zero _ _).2]
  · rw [if_neg h1, labels_f hn]
    have : labelsL n = [] := by unfold labelsL; rw [if_neg h1]
    rw [this]; simp

end Go.Proofs.Ytlikkpeaepankaa.Pure
