/-
  Dates: numbers, times, zones and months as the program and the document read them; the laws Parse and Text. Plain.
-/
import Derived.Test.YtlopnlagpdchiaaGreatDoorDv
import Derived.Test.YtlopnlagpdchiaaGreatDoorDw
import Derived.Test.YtlopnlagpdchiaaGreatDoorSp
set_option linter.unusedVariables false
set_option linter.unusedSimpArgs false
namespace Go.Ph.Pf
open Go.Ph.Pl
abbrev dg (c : UInt8) : Bool := decide (48 ≤ c.toNat ∧ c.toNat ≤ 57)
abbrev digs (s : List UInt8) : Bool := s.all dg
/-- the number of digits, behind n -/
@[irreducible] def dgt (c : UInt8) : Nat := c.toNat - 48
theorem dgt_eq (c : UInt8) : dgt c = c.toNat - 48 := by unfold dgt; rfl
@[irreducible] def mad (n d : Nat) : Nat := n * 10 + d
theorem mad_eq (n d : Nat) : mad n d = n * 10 + d := by unfold mad; rfl
def dvA : Nat → List UInt8 → Nat
  | n, [] => n
  | n, c :: r => dvA (mad n (dgt c)) r
theorem dvA_nil (n : Nat) : dvA n [] = n := by rw [dvA]
theorem dvA_cons (n : Nat) (c : UInt8) (r : List UInt8) : dvA n (c :: r) = dvA (n * 10 + (c.toNat - 48)) r := by rw [dvA, mad_eq, dgt_eq]
abbrev dv (s : List UInt8) : Int := (dvA 0 s : Nat)
theorem dvA_lt : ∀ (s : List UInt8) (n : Nat), digs s = true → dvA n s < (n + 1) * 10 ^ s.length
  | [], n, h => by simp [dvA_nil]
  | c :: r, n, h => by
    simp only [digs, List.all_cons, Bool.and_eq_true, dg, decide_eq_true_eq] at h
    have := dvA_lt r (n * 10 + (c.toNat - 48)) h.2
    rw [dvA_cons, List.length_cons, Nat.pow_succ]
    refine Nat.lt_of_lt_of_le this ?_
    rw [Nat.mul_comm (10 ^ r.length) 10, ← Nat.mul_assoc]
    exact Nat.mul_le_mul_right _ (by omega)
theorem parse_dig : ∀ (s : List UInt8) (n k : Nat), digs s = true → n < 10 ^ k → k + s.length ≤ 9 → Lib.parseUint10 n s = .ok (dvA n s)
  | [], n, k, h, hn, hk => by rw [dvA_nil]; rfl
  | c :: r, n, k, h, hn, hk => by
    simp only [digs, List.all_cons, Bool.and_eq_true, dg, decide_eq_true_eq] at h
    simp only [List.length_cons] at hk
    have hp : (10 : Nat) ^ k ≤ 10 ^ 8 := Nat.pow_le_pow_right (by omega) (by omega)
    have h8 : (10 : Nat) ^ 8 = 100000000 := rfl
    rw [Lib.parseUint10, if_pos h.1, if_neg (by omega), if_neg (by omega), dvA_cons]
    exact parse_dig r _ (k + 1) h.2 (by rw [Nat.pow_succ]; omega) (by omega)
theorem atoi_dig {s : List UInt8} (h : digs s = true) (h0 : s ≠ []) (h9 : s.length ≤ 9) : atoiP s = (dv s, true) := by
  obtain ⟨c, r, rfl⟩ : ∃ c r, s = c :: r := by cases s with | nil => exact absurd rfl h0 | cons c r => exact ⟨c, r, rfl⟩
  have hc : 48 ≤ c.toNat ∧ c.toNat ≤ 57 := by
    simp only [digs, List.all_cons, Bool.and_eq_true, dg, decide_eq_true_eq] at h; exact h.1
  have hlt := dvA_lt (c :: r) 0 h
  have hp : (10 : Nat) ^ (c :: r).length ≤ 10 ^ 9 := Nat.pow_le_pow_right (by omega) h9
  have h10 : (10 : Nat) ^ 9 = 1000000000 := rfl
  have h1 : Lib.parseMag (c :: r) = .ok (dvA 0 (c :: r)) := by
    unfold Lib.parseMag
    rw [if_neg (by simp), parse_dig (c :: r) 0 0 h (by simp) (by simpa using h9)]
  have h2 : Lib.atoiAll (c :: r) = .ok (dv (c :: r)) := by
    simp only [Lib.atoiAll]
    rw [if_neg (by omega), h1]
    simp only
    rw [if_neg (by omega), if_neg (by omega), if_neg (by omega)]
  unfold atoiP
  rw [h2]
theorem Digits_ok (s : List UInt8) (hs : s.length ≤ 9223372036854775806) : basic_Digits s = some (digs s && !decide (s = [])) := by
  have h := scan0 (L := fun m n => basic_Digits_L1 s m n) (l := s) (p := fun c => !dg c) (stop := (.inl () : Unit ⊕ Bool)) (r := .inr false) (m := FU) (FU_gt (by omega))
    (fun m => by rw [basic_Digits_L1, if_neg (by omega)])
    (fun m i hi => by
      rw [basic_Digits_L1, if_pos (by omega), idx_nat, List.getElem?_eq_getElem hi, bsome]
      by_cases h1 : s[i].toNat < 48
      · rw [if_pos h1, bsome, if_pos rfl, if_pos (by simp [dg]; omega)]
      · rw [if_neg h1, bsome, bsome]
        by_cases h2 : 57 < s[i].toNat
        · rw [if_pos (by simpa using h2), if_pos (by simp [dg]; omega)]
        · rw [if_neg (by simpa using h2), if_neg (by simp [dg]; omega), chk_succ (by omega), bsome])
  unfold basic_Digits
  rw [h, bsome]
  by_cases ha : (s.any fun c => !dg c) = true
  · rw [if_pos ha]
    have : digs s = false := by
      rw [← Bool.not_eq_true]
      intro hd
      obtain ⟨c, h1, h2⟩ := List.any_eq_true.1 ha
      have := List.all_eq_true.1 hd c h1
      rw [this] at h2; simp at h2
    rw [this]; rfl
  · rw [if_neg ha]
    have : digs s = true := by
      refine List.all_eq_true.2 fun c hc => ?_
      by_cases h : dg c = true
      · exact h
      · exact absurd (List.any_eq_true.2 ⟨c, hc, by rw [Bool.not_eq_true] at h; rw [h]; rfl⟩) ha
    rw [this]; simp
theorem number_ok {s : List UInt8} {d : Int} (h : digs s = true) (h1 : 1 ≤ s.length) (h9 : s.length ≤ 9) (hd : (s.length : Int) = d) : dates_number s d = some (dv s, true) := by
  have h0 : s ≠ [] := by rintro rfl; simp at h1
  unfold dates_number strconv_Atoi
  rw [if_pos (by omega), bsome, atoi_dig h h0 h9]
  simp only [if_true]
  rw [if_pos hd, Digits_ok s (by omega), h, bsome]
  simp [h0]
/-- no number -/
def badM : Lib.NumEnd Nat := Lib.parseMag []
def badA : Lib.NumEnd Int := Lib.atoiAll []
theorem atoi_two {s : List UInt8} (h : s.length = 2) : -99 ≤ (atoiP s).1 ∧ (atoiP s).1 ≤ 99 := by
  obtain ⟨a, b, rfl⟩ : ∃ a b, s = [a, b] := by
    match s, h with | [a, b], _ => exact ⟨a, b, rfl⟩
  have two : ∀ (l : List UInt8), l.length ≤ 2 → (∃ u, Lib.parseMag l = .ok u ∧ u ≤ 99) ∨ Lib.parseMag l = badM := fun l hl => by
    match l, hl with
    | [], _ => right; rfl
    | [x], _ =>
      unfold Lib.parseMag
      rw [if_neg (by simp), Lib.parseUint10]
      split
      · left
        rw [if_neg (by omega), if_neg (by omega)]
        exact ⟨_, rfl, by omega⟩
      · right; rfl
    | [x, y], _ =>
      unfold Lib.parseMag
      rw [if_neg (by simp), Lib.parseUint10]
      split
      · rw [if_neg (by omega), if_neg (by omega), Lib.parseUint10]
        split
        · left
          rw [if_neg (by omega), if_neg (by omega)]
          exact ⟨_, rfl, by omega⟩
        · right; rfl
      · right; rfl
  unfold atoiP
  have h2 : (∃ v, Lib.atoiAll [a, b] = .ok v ∧ -99 ≤ v ∧ v ≤ 99) ∨ Lib.atoiAll [a, b] = badA := by
    simp only [Lib.atoiAll]
    have hl : (if a.toNat = 43 ∨ a.toNat = 45 then [b] else [a, b]).length ≤ 2 := by split <;> simp
    rcases two _ hl with ⟨u, h1, h2⟩ | h1
    · rw [h1]
      simp only
      rw [if_neg (by omega), if_neg (by omega)]
      left
      exact ⟨_, rfl, by split <;> omega⟩
    · rw [h1]; right; rfl
  rcases h2 with ⟨v, h3, h4⟩ | h3
  · rw [h3]; exact h4
  · rw [h3]; show (-99 : Int) ≤ 0 ∧ (0 : Int) ≤ 99; omega
theorem number_no {s : List UInt8} {d : Int} (hs : s.length ≤ 4000) (h : ¬ (digs s = true ∧ 1 ≤ s.length ∧ (s.length : Int) = d)) : dates_number s d = some ((atoiP s).1, false) := by
  unfold dates_number strconv_Atoi
  rw [if_pos (by omega), bsome]
  generalize hp : atoiP s = p
  obtain ⟨v, b⟩ := p
  simp only
  cases b with
  | false => rw [if_neg Bool.false_ne_true, bsome]
  | true =>
    rw [if_pos rfl]
    by_cases hd : (s.length : Int) = d
    · rw [if_pos hd, Digits_ok s (by omega), bsome, bsome]
      have : (digs s && !decide (s = [])) = false := by
        cases hg : digs s with
        | false => rfl
        | true =>
          have : s = [] := by
            cases s with
            | nil => rfl
            | cons c r => exact absurd ⟨hg, by simp, hd⟩ h
          simp [this]
      rw [this]
    · rw [if_neg hd, bsome]
/-- digits as the document reads them -/
theorem digitsOf_L1 (s : List UInt8) : ∀ (k i m : Nat) (n : Nat), s.length - i ≤ k → k < m → i ≤ s.length → n < 10 ^ i → i ≤ 9 →
    R_digitsOf_L1 s m (n : Int) (i : Int) = some (if digs (s.drop i) = true ∧ s.length ≤ 9 then .inl (dvA n (s.drop i) : Nat) else .inr (-1))
  | k, i, m, n, hk, hm, hi, hn, h9 => by
    obtain ⟨m, rfl⟩ : ∃ k, m = k + 1 := ⟨m - 1, by omega⟩
    by_cases hlt : i < s.length
    · obtain ⟨k, rfl⟩ : ∃ j, k = j + 1 := ⟨k - 1, by omega⟩
      have hp : (10 : Nat) ^ i ≤ 10 ^ 9 := Nat.pow_le_pow_right (by omega) h9
      have h10 : (10 : Nat) ^ 9 = 1000000000 := rfl
      rw [R_digitsOf_L1, if_pos (by omega), idx_nat, List.getElem?_eq_getElem hlt, bsome, In_eq, bsome, List.drop_eq_getElem_cons hlt]
      have hall : digs (s[i] :: s.drop (i + 1)) = (dg s[i] && digs (s.drop (i + 1))) := rfl
      by_cases hd : 48 ≤ s[i].toNat ∧ s[i].toNat ≤ 57
      · rw [if_pos (by simp; omega), bsome]
        by_cases h2 : 9 ≤ i
        · rw [if_pos (by simp; omega), if_neg (by omega)]
        · have hs48 : (s[i] - 48).toNat = s[i].toNat - 48 := by
            rw [UInt8.toNat_sub_of_le _ _ (UInt8.le_iff_toNat_le.2 (by simpa using hd.1))]; rfl
          rw [if_neg (by simp; omega), chk_ok (by omega) (by omega), bsome, bsome, hs48, chk_ok (by omega) (by omega), bsome, chk_succ (by omega), bsome]
          have e : (10 : Int) * (n : Int) + ((s[i].toNat - 48 : Nat) : Int) = ((n * 10 + (s[i].toNat - 48) : Nat) : Int) := by omega
          rw [e, digitsOf_L1 s k (i + 1) m _ (by omega) (by omega) (by omega) (by rw [Nat.pow_succ]; omega) (by omega), hall, dvA_cons]
          have : dg s[i] = true := decide_eq_true hd
          rw [this, Bool.true_and]
      · rw [if_neg (by simp; omega), bsome, if_pos rfl, hall]
        have : dg s[i] = false := decide_eq_false hd
        rw [this, Bool.false_and, if_neg (by simp)]
    · obtain rfl : i = s.length := by omega
      rw [R_digitsOf_L1, if_neg (by omega), List.drop_length]
      rw [if_pos ⟨rfl, h9⟩, dvA_nil]
theorem digitsOf_eq (s : List UInt8) (lo hi : Int) (hs : s.length ≤ 4000000) (h9 : hi ≤ 9) : R_digitsOf s lo hi = some (if digs s = true ∧ lo ≤ (s.length : Int) ∧ (s.length : Int) ≤ hi then dv s else -1) := by
  unfold R_digitsOf
  have h := digitsOf_L1 s s.length 0 FU 0 (by omega) (FU_gt (by omega)) (by omega) (by simp) (by omega)
  rw [show (0 : Int) = ((0 : Nat) : Int) from rfl, h, bsome, List.drop_zero]
  by_cases hc : digs s = true ∧ s.length ≤ 9
  · rw [if_pos hc]
    simp only [In_eq, bsome, ifs]
    by_cases hl : lo ≤ (s.length : Int) ∧ (s.length : Int) ≤ hi
    · rw [if_pos hl, if_pos ⟨hc.1, hl⟩]
    · rw [if_neg hl, if_neg (fun h => hl h.2)]
  · rw [if_neg hc]
    simp only
    rw [if_neg (fun h => hc ⟨h.1, by omega⟩)]
/-- a time -/
inductive CK : List UInt8 → Int → Int → Int → Prop
  | two {a b : List UInt8} (ha : digs a = true) (la : a.length = 2) (hb : digs b = true) (lb : b.length = 2) : CK (a ++ 58 :: b) (dv a) (dv b) 0
  | three {a b c : List UInt8} (ha : digs a = true) (la : a.length = 2) (hb : digs b = true) (lb : b.length = 2) (hc : digs c = true) (lc : c.length = 2) : CK (a ++ 58 :: (b ++ 58 :: c)) (dv a) (dv b) (dv c)
theorem dg_ne {s : List UInt8} (h : digs s = true) : ∀ c ∈ s, c ≠ 58 := fun c hc e => by
  have := List.all_eq_true.1 h c hc
  subst e; simp [dg] at this
/-- what the document reads of a time -/
def refCk (t : List UInt8) : Option (Int × Int × Int) :=
  if (t.length = 5 ∨ t.length = 8) ∧ t[2]? = some 58 ∧ (t.length = 8 → t[5]? = some 58) then
    let h := if digs (t.take 2) = true then dv (t.take 2) else -1
    let m := if digs ((t.take 5).drop 3) = true then dv ((t.take 5).drop 3) else -1
    let s := if t.length = 8 then (if digs (t.drop 6) = true then dv (t.drop 6) else -1) else 0
    some (h, m, s)
  else none
theorem dv_nn (s : List UInt8) : 0 ≤ dv s := Int.natCast_nonneg _
theorem len2 {s : List UInt8} (h : s.length = 2) : ∃ a b, s = [a, b] := by
  match s, h with | [a, b], _ => exact ⟨a, b, rfl⟩
theorem refCk_of {t : List UInt8} {h m s : Int} (hc : CK t h m s) : refCk t = some (h, m, s) := by
  cases hc with
  | two ha la hb lb =>
    obtain ⟨a1, a2, rfl⟩ := len2 la
    obtain ⟨b1, b2, rfl⟩ := len2 lb
    simp [refCk, ha, hb]
  | three ha la hb lb hc lc =>
    obtain ⟨a1, a2, rfl⟩ := len2 la
    obtain ⟨b1, b2, rfl⟩ := len2 lb
    obtain ⟨c1, c2, rfl⟩ := len2 lc
    simp [refCk, ha, hb, hc]
theorem CK_of {t : List UInt8} {h m s : Int} (hr : refCk t = some (h, m, s)) (h0 : 0 ≤ h) (m0 : 0 ≤ m) (s0 : 0 ≤ s) : CK t h m s := by
  unfold refCk at hr
  split at hr
  · rename_i hc
    obtain ⟨h58, h2, h5⟩ := hc
    simp only [Option.some.injEq, Prod.mk.injEq] at hr
    obtain ⟨e1, e2, e3⟩ := hr
    rcases h58 with hl | hl
    · match t, hl with
      | [a, b, c, d, e], _ =>
        change some c = some 58 at h2
        change (if digs [a, b] = true then dv [a, b] else -1) = h at e1
        change (if digs [d, e] = true then dv [d, e] else -1) = m at e2
        change 0 = s at e3
        obtain rfl := Option.some.inj h2
        have ha : digs [a, b] = true := Decidable.byContradiction fun hd => by rw [if_neg hd] at e1; omega
        have hb : digs [d, e] = true := Decidable.byContradiction fun hd => by rw [if_neg hd] at e2; omega
        rw [if_pos ha] at e1
        rw [if_pos hb] at e2
        subst e1 e2 e3
        exact CK.two (a := [a, b]) (b := [d, e]) ha rfl hb rfl
    · match t, hl with
      | [a, b, c, d, e, f, g, i], _ =>
        replace h5 := h5 rfl
        change some c = some 58 at h2
        change some f = some 58 at h5
        change (if digs [a, b] = true then dv [a, b] else -1) = h at e1
        change (if digs [d, e] = true then dv [d, e] else -1) = m at e2
        change (if digs [g, i] = true then dv [g, i] else -1) = s at e3
        obtain rfl := Option.some.inj h2
        obtain rfl := Option.some.inj h5
        have ha : digs [a, b] = true := Decidable.byContradiction fun hd => by rw [if_neg hd] at e1; omega
        have hb : digs [d, e] = true := Decidable.byContradiction fun hd => by rw [if_neg hd] at e2; omega
        have hc : digs [g, i] = true := Decidable.byContradiction fun hd => by rw [if_neg hd] at e3; omega
        rw [if_pos ha] at e1
        rw [if_pos hb] at e2
        rw [if_pos hc] at e3
        subst e1 e2 e3
        exact CK.three (a := [a, b]) (b := [d, e]) (c := [g, i]) ha rfl hb rfl hc rfl
  · cases hr
/-- a number, whatever the text is -/
theorem number_two (s : List UInt8) (hs : s.length ≤ 4000) : (digs s = true ∧ s.length = 2 ∧ dates_number s 2 = some (dv s, true)) ∨ (¬ (digs s = true ∧ s.length = 2) ∧ dates_number s 2 = some ((atoiP s).1, false)) := by
  by_cases h : digs s = true ∧ s.length = 2
  · exact .inl ⟨h.1, h.2, number_ok h.1 (by omega) (by omega) (by omega)⟩
  · exact .inr ⟨h, number_no hs (fun h' => h ⟨h'.1, by omega⟩)⟩
theorem clock_ok {t : List UInt8} {h m s : Int} (hc : CK t h m s) : dates_clock t = some (h, m, s, true) := by
  cases hc with
  | @two a b ha la hb lb =>
    have hsp : Lib.split (a ++ 58 :: b) [58] = [a, b] := by rw [split1_app 58 a b (dg_ne ha), split1_one 58 b (dg_ne hb)]
    unfold dates_clock strings_Split
    rw [if_pos (by simp; omega), hsp, bsome]
    simp only [List.length_cons, List.length_nil]
    rw [if_neg (by omega), bsome, if_neg (by simp), show idx [a, b] 0 = some a from rfl, bsome, number_ok ha (by omega) (by omega) (by omega), bsome]
    simp only
    rw [show idx [a, b] 1 = some b from rfl, bsome, number_ok hb (by omega) (by omega) (by omega), bsome]
    simp only
    simp only [bsome, if_true]
    rw [if_neg (by omega)]
    simp only [bsome, if_true]
  | @three a b c ha la hb lb hc lc =>
    have hsp : Lib.split (a ++ 58 :: (b ++ 58 :: c)) [58] = [a, b, c] := by rw [split1_app 58 a _ (dg_ne ha), split1_app 58 b _ (dg_ne hb), split1_one 58 c (dg_ne hc)]
    unfold dates_clock strings_Split
    rw [if_pos (by simp; omega), hsp, bsome]
    simp only [List.length_cons, List.length_nil]
    rw [if_neg (by omega), bsome, if_neg (by simp), show idx [a, b, c] 0 = some a from rfl, bsome, number_ok ha (by omega) (by omega) (by omega), bsome]
    simp only
    rw [show idx [a, b, c] 1 = some b from rfl, bsome, number_ok hb (by omega) (by omega) (by omega), bsome]
    simp only
    rw [if_pos (by omega), show idx [a, b, c] 2 = some c from rfl, bsome, number_ok hc (by omega) (by omega) (by omega), bsome]
    simp only
    simp only [bsome, if_true]
theorem clock_no {t : List UInt8} (ht : t.length ≤ 4000) (hc : ¬ ∃ h m s, CK t h m s) : ∃ h m s, dates_clock t = some (h, m, s, false) := by
  have hj := split1_join 58 t
  unfold dates_clock strings_Split
  rw [if_pos (by simp; omega), bsome]
  match hsp : Lib.split t [58], hj with
  | [], hj => exact ⟨_, _, _, by simp only [List.length_nil]; rw [if_pos (by decide), bsome, if_pos rfl]⟩
  | [x], hj => exact ⟨_, _, _, by simp only [List.length_cons, List.length_nil]; rw [if_pos (by decide), bsome, if_pos rfl]⟩
  | [x, y], hj =>
    have e : t = x ++ 58 :: y := by rw [← hj]; rfl
    have hx : x.length ≤ 4000 := by rw [e] at ht; simp at ht; omega
    have hy : y.length ≤ 4000 := by rw [e] at ht; simp at ht; omega
    simp only [List.length_cons, List.length_nil]
    rw [if_neg (by omega), bsome, if_neg (by simp), show idx [x, y] 0 = some x from rfl, bsome]
    rcases number_two x hx with ⟨x1, x2, x3⟩ | ⟨x1, x2⟩
    · rcases number_two y hy with ⟨y1, y2, y3⟩ | ⟨y1, y2⟩
      · exact absurd ⟨_, _, _, e ▸ CK.two x1 x2 y1 y2⟩ hc
      · rw [x3, bsome]
        simp only
        rw [show idx [x, y] 1 = some y from rfl, bsome, y2, bsome]
        simp only
        rw [if_neg (by omega)]
        simp only [bsome, if_true, if_false, Bool.false_eq_true]
        exact ⟨_, _, _, rfl⟩
    · rw [x2, bsome]
      simp only
      rw [show idx [x, y] 1 = some y from rfl, bsome]
      rcases number_two y hy with ⟨y1, y2, y3⟩ | ⟨y1, y3⟩ <;>
      · rw [y3, bsome]
        simp only
        rw [if_neg (by omega)]
        simp only [bsome, if_true, if_false, Bool.false_eq_true]
        exact ⟨_, _, _, rfl⟩
  | [x, y, z], hj =>
    have e : t = x ++ 58 :: (y ++ 58 :: z) := by rw [← hj]; rfl
    have hx : x.length ≤ 4000 := by rw [e] at ht; simp at ht; omega
    have hy : y.length ≤ 4000 := by rw [e] at ht; simp at ht; omega
    have hz : z.length ≤ 4000 := by rw [e] at ht; simp at ht; omega
    simp only [List.length_cons, List.length_nil]
    rw [if_neg (by omega), bsome, if_neg (by simp), show idx [x, y, z] 0 = some x from rfl, bsome]
    have zz : ∃ v b, dates_number z 2 = some (v, b) ∧ (b = true → digs z = true ∧ z.length = 2 ∧ v = dv z) := by
      rcases number_two z hz with ⟨z1, z2, z3⟩ | ⟨z1, z3⟩
      · exact ⟨_, _, z3, fun _ => ⟨z1, z2, rfl⟩⟩
      · exact ⟨_, _, z3, fun h => by cases h⟩
    obtain ⟨v, b, hv, hb⟩ := zz
    rcases number_two x hx with ⟨x1, x2, x3⟩ | ⟨x1, x2⟩
    · rw [x3, bsome]
      simp only
      rw [show idx [x, y, z] 1 = some y from rfl, bsome]
      rcases number_two y hy with ⟨y1, y2, y3⟩ | ⟨y1, y2⟩
      · rw [y3, bsome]
        simp only
        rw [if_pos (by omega), show idx [x, y, z] 2 = some z from rfl, bsome, hv, bsome]
        simp only
        simp only [bsome, if_true, if_false, Bool.false_eq_true]
        cases b with
        | true =>
          obtain ⟨z1, z2, z3⟩ := hb rfl
          exact absurd ⟨_, _, _, e ▸ CK.three x1 x2 y1 y2 z1 z2⟩ hc
        | false => exact ⟨_, _, _, rfl⟩
      · rw [y2, bsome]
        simp only
        rw [if_pos (by omega), show idx [x, y, z] 2 = some z from rfl, bsome, hv, bsome]
        simp only
        simp only [bsome, if_true, if_false, Bool.false_eq_true]
        exact ⟨_, _, _, rfl⟩
    · rw [x2, bsome]
      simp only
      rw [show idx [x, y, z] 1 = some y from rfl, bsome]
      rcases number_two y hy with ⟨y1, y2, y3⟩ | ⟨y1, y3⟩ <;>
      · rw [y3, bsome]
        simp only
        rw [if_pos (by omega), show idx [x, y, z] 2 = some z from rfl, bsome, hv, bsome]
        simp only
        simp only [bsome, if_true, if_false, Bool.false_eq_true]
        exact ⟨_, _, _, rfl⟩
  | x :: y :: z :: u :: r, hj =>
    refine ⟨0, 0, 0, ?_⟩
    simp only [List.length_cons]
    rw [if_neg (by omega), bsome, if_pos (by simp; omega)]
/-- a zone -/
def refZn (z : List UInt8) : Option Int :=
  if z = [71, 77, 84] ∨ z = [85, 84] ∨ z = [90] then some 0
  else if z.length = 5 ∧ (z[0]? = some 43 ∨ z[0]? = some 45) ∧ digs ((z.take 3).drop 1) = true ∧ digs (z.drop 3) = true ∧ dv (z.drop 3) < 60 then
    some (if z[0]? = some 45 then -(60 * dv ((z.take 3).drop 1) + dv (z.drop 3)) else 60 * dv ((z.take 3).drop 1) + dv (z.drop 3))
  else none
theorem dv_two {s : List UInt8} (h : digs s = true) (h2 : s.length = 2) : dv s ≤ 99 := by
  have := dvA_lt s 0 h
  rw [h2] at this
  have h3 : (0 + 1) * 10 ^ 2 = 100 := rfl
  show ((dvA 0 s : Nat) : Int) ≤ 99
  omega
theorem zone_ok (z : List UInt8) : ∃ v, dates_zone z = some (v, (refZn z).isSome) ∧ ∀ w, refZn z = some w → v = w := by
  have r0 : z = [71, 77, 84] ∨ z = [85, 84] ∨ z = [90] → refZn z = some 0 := fun h => by unfold refZn; rw [if_pos h]
  by_cases h1 : z = [71, 77, 84]
  · rw [r0 (.inl h1)]
    unfold dates_zone
    rw [if_pos h1, bsome, if_pos rfl]; exact ⟨_, rfl, fun w hw => Option.some.inj hw⟩
  by_cases h2 : z = [85, 84]
  · rw [r0 (.inr (.inl h2))]
    unfold dates_zone
    rw [if_neg h1, if_pos h2, bsome, if_pos rfl]; exact ⟨_, rfl, fun w hw => Option.some.inj hw⟩
  by_cases h3 : z = [90]
  · rw [r0 (.inr (.inr h3))]
    unfold dates_zone
    rw [if_neg h1, if_neg h2, bsome, if_pos (by simpa using h3)]; exact ⟨_, rfl, fun w hw => Option.some.inj hw⟩
  unfold dates_zone refZn
  rw [if_neg (show ¬ (z = [71, 77, 84] ∨ z = [85, 84] ∨ z = [90]) by simp [h1, h2, h3]), if_neg h1, if_neg h2, bsome, if_neg (show ¬ decide (z = [90]) = true by simpa using h3)]
  by_cases hl : z.length = 5
  rotate_left
  · rw [if_neg (show ¬ (z.length : Int) = 5 by omega), bsome, if_pos rfl, if_neg (fun h => hl h.1)]
    exact ⟨_, rfl, fun w hw => by cases hw⟩
  match z, hl with
  | [a, b, c, d, e], _ =>
    rw [if_pos (show (([a, b, c, d, e].length : Nat) : Int) = 5 from rfl), show idx [a, b, c, d, e] 0 = some a from rfl, bsome]
    have hs : ∀ v : Bool, ((if a = 43 then some false else (some a).bind fun c14 => some (!decide (c14 = 45))) : Option Bool) = some (!decide (a = 43 ∨ a = 45)) := fun _ => by
      by_cases h : a = 43
      · rw [if_pos h]; simp [h]
      · rw [if_neg h, bsome]; simp [h]
    rw [hs true, bsome]
    by_cases ha : a = 43 ∨ a = 45
    rotate_left
    · rw [if_pos (by simpa using ha), if_neg (by rintro ⟨_, h, _⟩; simp at h; exact ha h)]
      exact ⟨_, rfl, fun w hw => by cases hw⟩
    rw [if_neg (by rw [decide_eq_true ha]; decide), show cut [a, b, c, d, e] 1 3 = some [b, c] from rfl, bsome]
    have e2 : cut [a, b, c, d, e] 3 (([a, b, c, d, e].length : Nat) : Int) = some [d, e] := rfl
    have nb : ∃ v ok, dates_number [b, c] 2 = some (v, ok) ∧ -99 ≤ v ∧ v ≤ 99 ∧ ok = digs [b, c] ∧ (ok = true → v = dv [b, c]) := by
      rcases number_two [b, c] (by simp) with ⟨h1, h2, h3⟩ | ⟨h1, h3⟩
      · exact ⟨_, _, h3, by have := dv_nn [b, c]; omega, dv_two h1 rfl, h1.symm, fun _ => rfl⟩
      · exact ⟨_, _, h3, (atoi_two rfl).1, (atoi_two rfl).2, by cases hd : digs [b, c] with | false => rfl | true => exact absurd ⟨hd, rfl⟩ h1, fun h => by cases h⟩
    have nd : ∃ v ok, dates_number [d, e] 2 = some (v, ok) ∧ -99 ≤ v ∧ v ≤ 99 ∧ ok = digs [d, e] ∧ (ok = true → v = dv [d, e]) := by
      rcases number_two [d, e] (by simp) with ⟨h1, h2, h3⟩ | ⟨h1, h3⟩
      · exact ⟨_, _, h3, by have := dv_nn [d, e]; omega, dv_two h1 rfl, h1.symm, fun _ => rfl⟩
      · exact ⟨_, _, h3, (atoi_two rfl).1, (atoi_two rfl).2, by cases hd : digs [d, e] with | false => rfl | true => exact absurd ⟨hd, rfl⟩ h1, fun h => by cases h⟩
    obtain ⟨v1, k1, n1, b1, b2, b3, b4⟩ := nb
    obtain ⟨v2, k2, n2, c1, c2, c3, c4⟩ := nd
    rw [n1, bsome]
    simp only
    rw [e2, bsome, n2, bsome]
    simp only
    rw [ck (by omega) (by omega), ck (by omega) (by omega), bsome]
    have hneg : ((if a = 45 then (chk (-((60 : Int) * v1 + v2))).bind fun n32 => some n32 else some ((60 : Int) * v1 + v2)) : Option Int) = some (if a = 45 then -((60 : Int) * v1 + v2) else (60 : Int) * v1 + v2) := by
      by_cases h : a = 45
      · rw [if_pos h, if_pos h, ck (by omega) (by omega)]
      · rw [if_neg h, if_neg h]
    rw [hneg, bsome]
    have t1 : (List.take 3 [a, b, c, d, e]).drop 1 = [b, c] := rfl
    have t2 : [a, b, c, d, e].drop 3 = [d, e] := rfl
    have t3 : [a, b, c, d, e][0]? = some a := rfl
    rw [t1, t2, t3]
    simp only [Option.some.injEq]
    by_cases hP : [a, b, c, d, e].length = 5 ∧ (a = 43 ∨ a = 45) ∧ digs [b, c] = true ∧ digs [d, e] = true ∧ dv [d, e] < 60
    · rw [if_pos hP]
      obtain rfl : k1 = true := b3.trans hP.2.2.1
      obtain rfl : k2 = true := c3.trans hP.2.2.2.1
      rw [b4 rfl, c4 rfl]
      simp only [if_true, bsome, decide_eq_true hP.2.2.2.2]
      exact ⟨_, rfl, fun w hw => Option.some.inj hw⟩
    · rw [if_neg hP]
      cases k1 with
      | false =>
        simp only [if_false, Bool.false_eq_true, bsome]
        exact ⟨_, rfl, fun w hw => by cases hw⟩
      | true =>
        cases k2 with
        | false =>
          simp only [if_true, if_false, Bool.false_eq_true, bsome]
          exact ⟨_, rfl, fun w hw => by cases hw⟩
        | true =>
          have h60 : ¬ v2 < 60 := fun h => hP ⟨rfl, ha, b3.symm, c3.symm, by rw [← c4 rfl]; exact h⟩
          simp only [if_true, bsome, decide_eq_false h60]
          exact ⟨_, rfl, fun w hw => by cases hw⟩
/-- a month's number; 0: none -/
def mnth : List (List UInt8) := [[74, 97, 110], [70, 101, 98], [77, 97, 114], [65, 112, 114], [77, 97, 121], [74, 117, 110], [74, 117, 108], [65, 117, 103], [83, 101, 112], [79, 99, 116], [78, 111, 118], [68, 101, 99]]
def dayn : List (List UInt8) := [[83, 117, 110], [77, 111, 110], [84, 117, 101], [87, 101, 100], [84, 104, 117], [70, 114, 105], [83, 97, 116]]
def monOf (w : List UInt8) : Int := if w ∈ mnth then (mnth.idxOf w : Int) + 1 else 0
theorem Index_L1 (l : List (List UInt8)) (w : List UInt8) (hl : l.length ≤ 1000) : ∀ (k i m : Nat), l.length - i ≤ k → k < m → i ≤ l.length →
    slices_Index_string_string_L1 l w m (i : Int) = some (if w ∈ l.drop i then .inr ((i + (l.drop i).idxOf w : Nat) : Int) else .inl ())
  | k, i, m, hk, hm, hi => by
    obtain ⟨m, rfl⟩ : ∃ k, m = k + 1 := ⟨m - 1, by omega⟩
    by_cases hlt : i < l.length
    · obtain ⟨k, rfl⟩ : ∃ j, k = j + 1 := ⟨k - 1, by omega⟩
      rw [slices_Index_string_string_L1, if_pos (by omega), idx_nat, List.getElem?_eq_getElem hlt, bsome, List.drop_eq_getElem_cons hlt]
      by_cases h : w = l[i]
      · rw [if_pos h, if_pos (by rw [← h]; exact List.mem_cons_self), ← h, List.idxOf_cons_self]; rfl
      · have h' : ¬ (l[i] == w) = true := by simpa using fun e => h e.symm
        rw [if_neg h, chk_succ (by omega), bsome, Index_L1 l w hl k (i + 1) m (by omega) (by omega) (by omega)]
        have hm : w ∈ l[i] :: l.drop (i + 1) ↔ w ∈ l.drop (i + 1) := ⟨fun hx => (List.mem_cons.1 hx).resolve_left h, List.mem_cons_of_mem _⟩
        by_cases hw : w ∈ l.drop (i + 1)
        · rw [if_pos hw, if_pos (hm.2 hw), List.idxOf_cons]
          simp only [h', cond_false]
          congr 2
          have : (l[i] == w) = false := by simpa using h'
          omega
        · rw [if_neg hw, if_neg (fun h => hw (hm.1 h))]
    · obtain rfl : i = l.length := by omega
      rw [slices_Index_string_string_L1, if_neg (by omega), List.drop_length]; simp
theorem Index_ok (l : List (List UInt8)) (w : List UInt8) (hl : l.length ≤ 1000) : slices_Index_string_string l w = some (if w ∈ l then (l.idxOf w : Int) else -1) := by
  unfold slices_Index_string_string
  have h := Index_L1 l w hl l.length 0 FU (by omega) (FU_gt (by omega)) (by omega)
  rw [show (0 : Int) = ((0 : Nat) : Int) from rfl, h, bsome, List.drop_zero]
  by_cases hw : w ∈ l
  · rw [if_pos hw, if_pos hw]; simp
  · rw [if_neg hw, if_neg hw]
theorem Contains_ok (l : List (List UInt8)) (w : List UInt8) (hl : l.length ≤ 1000) : slices_Contains_string_string l w = some (decide (w ∈ l)) := by
  unfold slices_Contains_string_string
  rw [Index_ok l w hl, bsome]
  by_cases hw : w ∈ l
  · rw [if_pos hw]; simp [hw]
  · rw [if_neg hw]; simp [hw]
theorem MonthName_ok : ∀ k : Fin 12, R_MonthName ((k.val + 1 : Nat) : Int) = some (mnth.getD k.val []) := by decide +kernel
theorem DayName_ok : ∀ k : Fin 7, R_DayName ((k.val : Nat) : Int) = some (dayn.getD k.val []) := by decide +kernel
theorem weekdays_ok : dates_weekdays = some dayn := by decide +kernel
theorem months_ok : dates_months = some mnth := by decide +kernel
/-- what both do with five words -/
def tlP (l15 : List (List UInt8)) : Option ((Int × Int × Int × Int × Int × Int × Int) × Bool) := (if (l15.length : Int) = (5 : Int) then (idx l15 0).bind fun a37 => (idx l15 0).bind fun a38 => (dates_number a37 (min (max (a38.length : Int) 1) 2)).bind fun (n39, b40) => (idxA 4 (List.replicate 4 false : List Bool) 0).bind fun a42 => (putA 4 (List.replicate 4 false : List Bool) 0 b40).bind fun l43 => (dates_months).bind fun n44 => (chkA 12 (List.replicate 12 [] : List (List UInt8))).bind fun l46 => (chkA 12 n44).bind fun l47 => (chkA 12 n44).bind fun l49 => (idx l15 1).bind fun a50 => (slices_Index_string_string l49 a50).bind fun n51 => (chk ((1 : Int) + n51)).bind fun n53 => (idx l15 2).bind fun a54 => (dates_number a54 4).bind fun (n55, b56) => (idxA 4 l43 1).bind fun a58 => (putA 4 l43 1 b56).bind fun l59 => (idx l15 3).bind fun a60 => (dates_clock a60).bind fun (n61, n62, n63, b64) => (idxA 4 l59 2).bind fun a66 => (putA 4 l59 2 b64).bind fun l67 => (idx l15 4).bind fun a68 => (dates_zone a68).bind fun (n69, b70) => (idxA 4 l67 3).bind fun a72 => (putA 4 l67 3 b70).bind fun l73 => ((if (0 : Int) < n53 then (chkA 4 l73).bind fun l85 => (chkA 4 l85).bind fun l86 => (chkA 4 ([true, true, true, true] : List Bool)).bind fun l87 => some (n55, n53, n39, n61, n62, n63, n69, decide (l85 = ([true, true, true, true] : List Bool))) else some (n55, n53, n39, n61, n62, n63, n69, false))).bind fun (n76, n77, n78, n79, n80, n81, n82, b83) => some ((n76, n77, n78, n79, n80, n81, n82), b83) else some ((0, 0, 0, 0, 0, 0, 0), false))
def tlR (l12 : List (List UInt8)) : Option ((Int × Int × Int × Int × Int × Int × Int) × Bool) := (if (l12.length : Int) = (5 : Int) then (idx l12 0).bind fun a37 => (R_digitsOf a37 1 2).bind fun n38 => (idx l12 2).bind fun a40 => (R_digitsOf a40 4 4).bind fun n41 => (R_DateRead_L2 l12 FU n41 0 n38 0 0 0 0 1).bind fun (n46, n47, n48, n49, n50, n51, n52) => (idx l12 3).bind fun a70 => ((if (a70.length : Int) = (5 : Int) then (idx a70 2).bind fun c75 => (if c75 = 58 then (if (a70.length : Int) = (8 : Int) then (idx a70 5).bind fun c78 => some (!decide (c78 = 58)) else some false) else some true) else (if (a70.length : Int) = (8 : Int) then (idx a70 2).bind fun c80 => (if c80 = 58 then (if (a70.length : Int) = (8 : Int) then (idx a70 5).bind fun c83 => some (!decide (c83 = 58)) else some false) else some true) else some true))).bind fun b73 => (if b73 = true then some ((0, 0, 0, 0, 0, 0, 0), false) else (cut a70 0 2).bind fun s86 => (R_digitsOf s86 2 2).bind fun n87 => (cut a70 3 5).bind fun s89 => (R_digitsOf s89 2 2).bind fun n90 => ((if (a70.length : Int) = (8 : Int) then (cut a70 6 (a70.length : Int)).bind fun s102 => (R_digitsOf s102 2 2).bind fun n103 => some (n46, n47, n48, n87, n90, n103, n52) else some (n46, n47, n48, n87, n90, n51, n52))).bind fun (n94, n95, n96, n97, n98, n99, n100) => (idx l12 4).bind fun a106 => ((if a106 = [71, 77, 84] then some false else (if a106 = [85, 84] then some false else some (!decide (a106 = [90]))))).bind fun b109 => (((if b109 = true then ((if (a106.length : Int) = (5 : Int) then (idx a106 0).bind fun c134 => (if c134 = 43 then some false else (idx a106 0).bind fun c136 => some (!decide (c136 = 45))) else some true)).bind fun b132 => (if b132 = true then some (.inr ((0, 0, 0, 0, 0, 0, 0), false)) else (cut a106 1 3).bind fun s139 => (R_digitsOf s139 2 2).bind fun n140 => (cut a106 3 (a106.length : Int)).bind fun s142 => (R_digitsOf s142 2 2).bind fun n143 => ((if n140 < (0 : Int) then some true else (R_In n143 0 59).bind fun b149 => some (!b149))).bind fun b147 => (if b147 = true then some (.inr ((0, 0, 0, 0, 0, 0, 0), false)) else (chk ((60 : Int) * n140)).bind fun n153 => (chk (n153 + n143)).bind fun n154 => (idx a106 0).bind fun c155 => (if c155 = 45 then (chk (-n154)).bind fun n157 => some (.inl (0, 0, 0, 0, 0, 0, 0, n94, n95, n96, n97, n98, n99, n157)) else some (.inl (0, 0, 0, 0, 0, 0, 0, n94, n95, n96, n97, n98, n99, n154))))) else some (.inl (0, 0, 0, 0, 0, 0, 0, n94, n95, n96, n97, n98, n99, n100))) : Option ((Int × Int × Int × Int × Int × Int × Int × Int × Int × Int × Int × Int × Int × Int) ⊕ ((Int × Int × Int × Int × Int × Int × Int) × Bool)))).bind fun o176 => (match o176 with | .inl (n115, n116, n117, n118, n119, n120, n121, n122, n123, n124, n125, n126, n127, n128) => ((if (0 : Int) ≤ n124 then (if (0 : Int) ≤ n122 then (if (0 : Int) < n123 then (if (0 : Int) ≤ n125 then (if (0 : Int) ≤ n126 then some (n122, n123, n124, n125, n126, n127, n128, decide ((0 : Int) ≤ n127)) else some (n122, n123, n124, n125, n126, n127, n128, false)) else some (n122, n123, n124, n125, n126, n127, n128, false)) else some (n122, n123, n124, n125, n126, n127, n128, false)) else some (n122, n123, n124, n125, n126, n127, n128, false)) else some (n122, n123, n124, n125, n126, n127, n128, false))).bind fun (n161, n162, n163, n164, n165, n166, n167, b168) => some ((n161, n162, n163, n164, n165, n166, n167), b168) | .inr r175 => some r175)) else some ((0, 0, 0, 0, 0, 0, 0), false))
theorem HasSuffix_ok (w : List UInt8) (hw : w.length ≤ 4000) : strings_HasSuffix w [44] = some (decide (w.getLast? = some 44)) := by
  unfold strings_HasSuffix stringslite_HasSuffix
  rcases List.eq_nil_or_concat w with rfl | ⟨r, c, rfl⟩
  · rfl
  · have hr : r.length + 1 ≤ 4000 := by simpa using hw
    simp only [List.concat_eq_append, List.length_append, List.length_cons, List.length_nil]
    rw [if_pos (by omega), ck (by omega) (by omega)]
    have e : cut (r ++ [c]) (((r.length + (0 + 1) : Nat) : Int) - ((0 + 1 : Nat) : Int)) ((r.length + (0 + 1) : Nat) : Int) = some [c] := by
      have := cut_from (l := r ++ [c]) (i := ((r.length + (0 + 1) : Nat) : Int) - ((0 + 1 : Nat) : Int)) (a := r.length) (by omega) (by simp)
      rw [List.length_append] at this
      simpa using this
    rw [e, bsome, bsome, bsome]
    simp
theorem Trim_ok (r : List UInt8) (hw : r.length ≤ 4000) : strings_TrimSuffix (r ++ [44]) [44] = some r := by
  have h := HasSuffix_ok (r ++ [44]) 
  unfold strings_TrimSuffix stringslite_TrimSuffix
  have h1 : stringslite_HasSuffix (r ++ [44]) [44] = some true := by
    unfold stringslite_HasSuffix
    simp only [List.length_append, List.length_cons, List.length_nil]
    rw [if_pos (by omega), ck (by omega) (by omega)]
    have := cut_from (l := r ++ [44]) (i := ((r.length + (0 + 1) : Nat) : Int) - ((0 + 1 : Nat) : Int)) (a := r.length) (by omega) (by simp)
    rw [List.length_append] at this
    simp only [List.length_cons, List.length_nil] at this
    rw [this, bsome, bsome]
    simp
  rw [h1, bsome, if_pos rfl]
  simp only [List.length_append, List.length_cons, List.length_nil]
  rw [ck (by omega) (by omega), cut_to (b := r.length) (by omega) (by simp), bsome, bsome]
  simp
theorem DateRead_L1 (l : List (List UInt8)) (w : List UInt8) (h0 : l[0]? = some w) : R_DateRead_L1 l FU false 0 = some (decide (∃ d ∈ dayn, w = d ++ [44])) := by
  have hi : idx l 0 = some w := idx_of (n := 0) rfl h0
  have step : ∀ (k : Fin 7) (m : Nat) (b : Bool), R_DateRead_L1 l (m + 1) b ((k.val : Nat) : Int) = R_DateRead_L1 l m (b || decide (w = dayn.getD k.val [] ++ [44])) ((k.val + 1 : Nat) : Int) := fun k m b => by
    rw [R_DateRead_L1, if_pos (by omega), hi]
    have hlen : (dayn.getD k.val []).length ≤ 3 := by revert k; decide
    cases b with
    | true => rw [if_pos rfl, bsome, chk_succ (by omega), bsome]; simp
    | false => rw [if_neg Bool.false_ne_true, bsome, DayName_ok, bsome, cat_ok (by show _ + 1 ≤ _; omega), bsome, bsome, chk_succ (by omega), bsome]; simp
  rw [show FU = 18446744073709551609 + 1 + 1 + 1 + 1 + 1 + 1 + 1 from rfl]
  have s0 : ∀ (m : Nat) (b : Bool), R_DateRead_L1 l (m + 1) b ((0 : Nat) : Int) = R_DateRead_L1 l m (b || decide (w = dayn.getD 0 [] ++ [44])) ((1 : Nat) : Int) := step ⟨0, by omega⟩
  have s1 : ∀ (m : Nat) (b : Bool), R_DateRead_L1 l (m + 1) b ((1 : Nat) : Int) = R_DateRead_L1 l m (b || decide (w = dayn.getD 1 [] ++ [44])) ((2 : Nat) : Int) := step ⟨1, by omega⟩
  have s2 : ∀ (m : Nat) (b : Bool), R_DateRead_L1 l (m + 1) b ((2 : Nat) : Int) = R_DateRead_L1 l m (b || decide (w = dayn.getD 2 [] ++ [44])) ((3 : Nat) : Int) := step ⟨2, by omega⟩
  have s3 : ∀ (m : Nat) (b : Bool), R_DateRead_L1 l (m + 1) b ((3 : Nat) : Int) = R_DateRead_L1 l m (b || decide (w = dayn.getD 3 [] ++ [44])) ((4 : Nat) : Int) := step ⟨3, by omega⟩
  have s4 : ∀ (m : Nat) (b : Bool), R_DateRead_L1 l (m + 1) b ((4 : Nat) : Int) = R_DateRead_L1 l m (b || decide (w = dayn.getD 4 [] ++ [44])) ((5 : Nat) : Int) := step ⟨4, by omega⟩
  have s5 : ∀ (m : Nat) (b : Bool), R_DateRead_L1 l (m + 1) b ((5 : Nat) : Int) = R_DateRead_L1 l m (b || decide (w = dayn.getD 5 [] ++ [44])) ((6 : Nat) : Int) := step ⟨5, by omega⟩
  have s6 : ∀ (m : Nat) (b : Bool), R_DateRead_L1 l (m + 1) b ((6 : Nat) : Int) = R_DateRead_L1 l m (b || decide (w = dayn.getD 6 [] ++ [44])) ((7 : Nat) : Int) := step ⟨6, by omega⟩
  rw [show (0 : Int) = ((0 : Nat) : Int) from rfl, s0, s1, s2, s3, s4, s5, s6]
  rw [show (18446744073709551609 : Nat) = 18446744073709551608 + 1 from rfl, R_DateRead_L1, if_neg (by omega)]
  congr 1
  simp only [dayn, List.getD_cons_zero, List.getD_cons_succ, Bool.false_or, List.mem_cons, List.not_mem_nil, or_false, exists_eq_or_imp, exists_eq_left]
  simp only [Bool.decide_or, Bool.or_assoc]
theorem DateRead_L2 (l : List (List UInt8)) (b : List UInt8) (A B : Int) (h1 : idx l 1 = some b) : R_DateRead_L2 l FU A 0 B 0 0 0 0 1 = some (A, monOf b, B, 0, 0, 0, 0) := by
  have step : ∀ (k : Fin 12) (m : Nat) (v : Int), R_DateRead_L2 l (m + 1) A v B 0 0 0 0 ((k.val + 1 : Nat) : Int) = R_DateRead_L2 l m A (if mnth.getD k.val [] = b then ((k.val + 1 : Nat) : Int) else v) B 0 0 0 0 ((k.val + 1 + 1 : Nat) : Int) := fun k m v => by
    rw [R_DateRead_L2, if_pos (by omega), MonthName_ok, bsome, h1, bsome]
    by_cases h : mnth.getD k.val [] = b
    · rw [if_pos h, if_pos h, chk_succ (by omega), bsome]
    · rw [if_neg h, if_neg h, chk_succ (by omega), bsome]
  rw [show FU = 18446744073709551603 + 1 + 1 + 1 + 1 + 1 + 1 + 1 + 1 + 1 + 1 + 1 + 1 + 1 from rfl]
  have s1 : ∀ (m : Nat) (v : Int), R_DateRead_L2 l (m + 1) A v B 0 0 0 0 ((1 : Nat) : Int) = R_DateRead_L2 l m A (if mnth.getD 0 [] = b then 1 else v) B 0 0 0 0 ((2 : Nat) : Int) := step ⟨0, by omega⟩
  have s2 : ∀ (m : Nat) (v : Int), R_DateRead_L2 l (m + 1) A v B 0 0 0 0 ((2 : Nat) : Int) = R_DateRead_L2 l m A (if mnth.getD 1 [] = b then 2 else v) B 0 0 0 0 ((3 : Nat) : Int) := step ⟨1, by omega⟩
  have s3 : ∀ (m : Nat) (v : Int), R_DateRead_L2 l (m + 1) A v B 0 0 0 0 ((3 : Nat) : Int) = R_DateRead_L2 l m A (if mnth.getD 2 [] = b then 3 else v) B 0 0 0 0 ((4 : Nat) : Int) := step ⟨2, by omega⟩
  have s4 : ∀ (m : Nat) (v : Int), R_DateRead_L2 l (m + 1) A v B 0 0 0 0 ((4 : Nat) : Int) = R_DateRead_L2 l m A (if mnth.getD 3 [] = b then 4 else v) B 0 0 0 0 ((5 : Nat) : Int) := step ⟨3, by omega⟩
  have s5 : ∀ (m : Nat) (v : Int), R_DateRead_L2 l (m + 1) A v B 0 0 0 0 ((5 : Nat) : Int) = R_DateRead_L2 l m A (if mnth.getD 4 [] = b then 5 else v) B 0 0 0 0 ((6 : Nat) : Int) := step ⟨4, by omega⟩
  have s6 : ∀ (m : Nat) (v : Int), R_DateRead_L2 l (m + 1) A v B 0 0 0 0 ((6 : Nat) : Int) = R_DateRead_L2 l m A (if mnth.getD 5 [] = b then 6 else v) B 0 0 0 0 ((7 : Nat) : Int) := step ⟨5, by omega⟩
  have s7 : ∀ (m : Nat) (v : Int), R_DateRead_L2 l (m + 1) A v B 0 0 0 0 ((7 : Nat) : Int) = R_DateRead_L2 l m A (if mnth.getD 6 [] = b then 7 else v) B 0 0 0 0 ((8 : Nat) : Int) := step ⟨6, by omega⟩
  have s8 : ∀ (m : Nat) (v : Int), R_DateRead_L2 l (m + 1) A v B 0 0 0 0 ((8 : Nat) : Int) = R_DateRead_L2 l m A (if mnth.getD 7 [] = b then 8 else v) B 0 0 0 0 ((9 : Nat) : Int) := step ⟨7, by omega⟩
  have s9 : ∀ (m : Nat) (v : Int), R_DateRead_L2 l (m + 1) A v B 0 0 0 0 ((9 : Nat) : Int) = R_DateRead_L2 l m A (if mnth.getD 8 [] = b then 9 else v) B 0 0 0 0 ((10 : Nat) : Int) := step ⟨8, by omega⟩
  have s10 : ∀ (m : Nat) (v : Int), R_DateRead_L2 l (m + 1) A v B 0 0 0 0 ((10 : Nat) : Int) = R_DateRead_L2 l m A (if mnth.getD 9 [] = b then 10 else v) B 0 0 0 0 ((11 : Nat) : Int) := step ⟨9, by omega⟩
  have s11 : ∀ (m : Nat) (v : Int), R_DateRead_L2 l (m + 1) A v B 0 0 0 0 ((11 : Nat) : Int) = R_DateRead_L2 l m A (if mnth.getD 10 [] = b then 11 else v) B 0 0 0 0 ((12 : Nat) : Int) := step ⟨10, by omega⟩
  have s12 : ∀ (m : Nat) (v : Int), R_DateRead_L2 l (m + 1) A v B 0 0 0 0 ((12 : Nat) : Int) = R_DateRead_L2 l m A (if mnth.getD 11 [] = b then 12 else v) B 0 0 0 0 ((13 : Nat) : Int) := step ⟨11, by omega⟩
  rw [show (1 : Int) = ((1 : Nat) : Int) from rfl, s1, s2, s3, s4, s5, s6, s7, s8, s9, s10, s11, s12]
  rw [R_DateRead_L2, if_neg (by omega)]
  congr 3
  unfold monOf
  by_cases hb : b ∈ mnth
  · rw [if_pos hb]
    simp only [mnth, List.mem_cons, List.not_mem_nil, or_false] at hb
    rcases hb with rfl | rfl | rfl | rfl | rfl | rfl | rfl | rfl | rfl | rfl | rfl | rfl <;> decide
  · rw [if_neg hb]
    have ne : ∀ k : Fin 12, ¬ mnth.getD k.val [] = b := fun k h => hb (by rw [← h]; clear h; revert k; decide)
    rw [if_neg (ne ⟨11, by omega⟩), if_neg (ne ⟨10, by omega⟩), if_neg (ne ⟨9, by omega⟩), if_neg (ne ⟨8, by omega⟩), if_neg (ne ⟨7, by omega⟩), if_neg (ne ⟨6, by omega⟩), if_neg (ne ⟨5, by omega⟩), if_neg (ne ⟨4, by omega⟩), if_neg (ne ⟨3, by omega⟩), if_neg (ne ⟨2, by omega⟩), if_neg (ne ⟨1, by omega⟩), if_neg (ne ⟨0, by omega⟩)]
theorem mon_bd (b : List UInt8) : 0 ≤ monOf b ∧ monOf b ≤ 12 := by
  unfold monOf
  split
  · rename_i h
    have := List.idxOf_lt_length_iff.2 h
    have h2 : mnth.length = 12 := rfl
    omega
  · omega
theorem months_ix (b : List UInt8) : ((slices_Index_string_string mnth b).bind fun n => chk ((1 : Int) + n)) = some (monOf b) := by
  rw [Index_ok mnth b (by decide), bsome]
  have := mon_bd b
  unfold monOf at this ⊢
  by_cases h : b ∈ mnth
  · rw [if_pos h] at this ⊢; rw [if_pos h, chk_ok (by omega) (by omega)]; congr 1; omega
  · rw [if_neg h, if_neg h]; rfl
theorem tlP_eq {a b c d e : List UInt8} {n0 n1 h m s z : Int} {k0 k1 k2 k3 : Bool} (ha : dates_number a (min (max (a.length : Int) 1) 2) = some (n0, k0)) (hc : dates_number c 4 = some (n1, k1)) (hd : dates_clock d = some (h, m, s, k2)) (he : dates_zone e = some (z, k3)) :
    tlP [a, b, c, d, e] = some ((n1, monOf b, n0, h, m, s, z), decide (0 < monOf b ∧ k0 = true ∧ k1 = true ∧ k2 = true ∧ k3 = true)) := by
  unfold tlP
  have hm := months_ix b
  obtain ⟨n51, hn51, hn53⟩ := bnd hm
  rw [if_pos (show (([a, b, c, d, e].length : Nat) : Int) = 5 from rfl), show idx [a, b, c, d, e] 0 = some a from rfl, bsome, bsome, ha, bsome]
  simp only
  rw [show idxA 4 (List.replicate 4 false) 0 = some false from rfl, bsome, show putA 4 (List.replicate 4 false) 0 k0 = some [k0, false, false, false] from rfl, bsome, months_ok, bsome,
    show chkA 12 (List.replicate 12 ([] : List UInt8)) = some (List.replicate 12 []) from rfl, bsome, show chkA 12 mnth = some mnth from rfl, bsome, bsome, show idx [a, b, c, d, e] 1 = some b from rfl, bsome, hn51, bsome, hn53, bsome, show idx [a, b, c, d, e] 2 = some c from rfl, bsome, hc, bsome]
  simp only
  rw [show idxA 4 [k0, false, false, false] 1 = some false from rfl, bsome, show putA 4 [k0, false, false, false] 1 k1 = some [k0, k1, false, false] from rfl, bsome, show idx [a, b, c, d, e] 3 = some d from rfl, bsome, hd, bsome]
  simp only
  rw [show idxA 4 [k0, k1, false, false] 2 = some false from rfl, bsome, show putA 4 [k0, k1, false, false] 2 k2 = some [k0, k1, k2, false] from rfl, bsome, show idx [a, b, c, d, e] 4 = some e from rfl, bsome, he, bsome]
  simp only
  rw [show idxA 4 [k0, k1, k2, false] 3 = some false from rfl, bsome, show putA 4 [k0, k1, k2, false] 3 k3 = some [k0, k1, k2, k3] from rfl, bsome]
  by_cases h0 : 0 < monOf b
  · rw [if_pos h0, show chkA 4 [k0, k1, k2, k3] = some [k0, k1, k2, k3] from rfl, bsome, show chkA 4 [k0, k1, k2, k3] = some [k0, k1, k2, k3] from rfl, bsome, show chkA 4 [true, true, true, true] = some [true, true, true, true] from rfl, bsome, bsome]
    simp [h0]
  · rw [if_neg h0, bsome]
    simp [h0]
/-- whether a time has another form -/
def ckb (d : List UInt8) : Option Bool := (if (d.length : Int) = (5 : Int) then (idx d 2).bind fun c75 => (if c75 = 58 then (if (d.length : Int) = (8 : Int) then (idx d 5).bind fun c78 => some (!decide (c78 = 58)) else some false) else some true) else (if (d.length : Int) = (8 : Int) then (idx d 2).bind fun c80 => (if c80 = 58 then (if (d.length : Int) = (8 : Int) then (idx d 5).bind fun c83 => some (!decide (c83 = 58)) else some false) else some true) else some true))
theorem ckb_ok (d : List UInt8) : ckb d = some (refCk d).isNone := by
  have hr : (refCk d).isNone = !decide ((d.length = 5 ∨ d.length = 8) ∧ d[2]? = some 58 ∧ (d.length = 8 → d[5]? = some 58)) := by
    unfold refCk
    by_cases h : (d.length = 5 ∨ d.length = 8) ∧ d[2]? = some 58 ∧ (d.length = 8 → d[5]? = some 58)
    · rw [if_pos h, decide_eq_true h]; rfl
    · rw [if_neg h, decide_eq_false h]; rfl
  rw [hr]
  unfold ckb
  by_cases h5 : d.length = 5
  · match d, h5 with
    | [a, b, c, x, e], _ =>
      rw [if_pos (show (([a, b, c, x, e].length : Nat) : Int) = 5 from rfl), show idx [a, b, c, x, e] 2 = some c from rfl, bsome]
      by_cases hc : c = 58
      · rw [if_pos hc, if_neg (show ¬ (([a, b, c, x, e].length : Nat) : Int) = 8 by simp)]; simp [hc]
      · rw [if_neg hc]; simp [hc]
  · by_cases h8 : d.length = 8
    · match d, h8 with
      | [a, b, c, x, e, f, g, i], _ =>
        rw [if_neg (show ¬ (([a, b, c, x, e, f, g, i].length : Nat) : Int) = 5 by simp), if_pos (show (([a, b, c, x, e, f, g, i].length : Nat) : Int) = 8 from rfl), show idx [a, b, c, x, e, f, g, i] 2 = some c from rfl, bsome]
        by_cases hc : c = 58
        · rw [if_pos hc, if_pos (show (([a, b, c, x, e, f, g, i].length : Nat) : Int) = 8 from rfl), show idx [a, b, c, x, e, f, g, i] 5 = some f from rfl, bsome]; simp [hc]
        · rw [if_neg hc]; simp [hc]
    · rw [if_neg (by omega), if_neg (by omega)]; simp [h5, h8]
theorem tlR_no {a b c d e : List UInt8} {x0 x1 : Int} (ha : R_digitsOf a 1 2 = some x0) (hc : R_digitsOf c 4 4 = some x1) (hd : refCk d = none) : tlR [a, b, c, d, e] = some ((0, 0, 0, 0, 0, 0, 0), false) := by
  unfold tlR
  rw [if_pos (show (([a, b, c, d, e].length : Nat) : Int) = 5 from rfl), show idx [a, b, c, d, e] 0 = some a from rfl, bsome, ha, bsome, show idx [a, b, c, d, e] 2 = some c from rfl, bsome, hc, bsome, DateRead_L2 _ b _ _ rfl, bsome]
  simp only
  rw [show idx [a, b, c, d, e] 3 = some d from rfl, bsome]
  have hb := ckb_ok d
  unfold ckb at hb
  rw [hb, hd, bsome, if_pos (show (none : Option (Int × Int × Int)).isNone = true from rfl)]
theorem zn_R {α β : Type} (e : List UInt8) (hsp : ¬ (e = [71, 77, 84] ∨ e = [85, 84] ∨ e = [90])) (f : Int → α) (r : β) :
    ((((if (e.length : Int) = (5 : Int) then (idx e 0).bind fun c134 => (if c134 = 43 then some false else (idx e 0).bind fun c136 => some (!decide (c136 = 45))) else some true)).bind fun b132 => (if b132 = true then some (.inr r) else (cut e 1 3).bind fun s139 => (R_digitsOf s139 2 2).bind fun n140 => (cut e 3 (e.length : Int)).bind fun s142 => (R_digitsOf s142 2 2).bind fun n143 => ((if n140 < (0 : Int) then some true else (R_In n143 0 59).bind fun b149 => some (!b149))).bind fun b147 => (if b147 = true then some (.inr r) else (chk ((60 : Int) * n140)).bind fun n153 => (chk (n153 + n143)).bind fun n154 => (idx e 0).bind fun c155 => (if c155 = 45 then (chk (-n154)).bind fun n157 => some (.inl (f n157)) else some (.inl (f n154)))))) : Option (α ⊕ β)) = match refZn e with | some z => some (.inl (f z)) | none => some (.inr r) := by
  unfold refZn
  rw [if_neg hsp]
  by_cases hl : e.length = 5
  rotate_left
  · rw [if_neg (show ¬ (e.length : Int) = 5 by omega), bsome, if_pos rfl, if_neg (fun h => hl h.1)]
  match e, hl with
  | [p, q, x, u, v], _ =>
    rw [if_pos (show (([p, q, x, u, v].length : Nat) : Int) = 5 from rfl), show idx [p, q, x, u, v] 0 = some p from rfl, bsome]
    have hs : ((if p = 43 then some false else (some p).bind fun c14 => some (!decide (c14 = 45))) : Option Bool) = some (!decide (p = 43 ∨ p = 45)) := by
      by_cases h : p = 43
      · rw [if_pos h]; simp [h]
      · rw [if_neg h, bsome]; simp [h]
    rw [hs, bsome]
    have t1 : (List.take 3 [p, q, x, u, v]).drop 1 = [q, x] := rfl
    have t2 : [p, q, x, u, v].drop 3 = [u, v] := rfl
    have t3 : [p, q, x, u, v][0]? = some p := rfl
    rw [t1, t2, t3]
    simp only [Option.some.injEq]
    by_cases hp : p = 43 ∨ p = 45
    rotate_left
    · rw [if_pos (by rw [decide_eq_false hp]; rfl), if_neg (fun h => hp h.2.1)]
    rw [if_neg (by rw [decide_eq_true hp]; decide), show cut [p, q, x, u, v] 1 3 = some [q, x] from rfl, bsome, digitsOf_eq [q, x] 2 2 (by simp) (by omega), bsome, show cut [p, q, x, u, v] 3 (([p, q, x, u, v].length : Nat) : Int) = some [u, v] from rfl, bsome, digitsOf_eq [u, v] 2 2 (by simp) (by omega), bsome]
    have hq := dv_nn [q, x]
    have hu := dv_nn [u, v]
    by_cases h1 : digs [q, x] = true
    rotate_left
    · rw [if_neg (show ¬ (digs [q, x] = true ∧ (2 : Int) ≤ (([q, x].length : Nat) : Int) ∧ (([q, x].length : Nat) : Int) ≤ 2) from fun h => h1 h.1), if_pos (show (-1 : Int) < 0 by omega), bsome, if_pos rfl, if_neg (fun h => h1 h.2.2.1)]
    rw [if_pos (show (digs [q, x] = true ∧ (2 : Int) ≤ (([q, x].length : Nat) : Int) ∧ (([q, x].length : Nat) : Int) ≤ 2) from ⟨h1, by simp, by simp⟩), if_neg (show ¬ dv [q, x] < 0 by omega)]
    by_cases h2 : digs [u, v] = true
    rotate_left
    · rw [if_neg (show ¬ (digs [u, v] = true ∧ (2 : Int) ≤ (([u, v].length : Nat) : Int) ∧ (([u, v].length : Nat) : Int) ≤ 2) from fun h => h2 h.1), show R_In (-1) 0 59 = some false by rfl, bsome, bsome, if_pos (show (!false) = true from rfl), if_neg (fun h => h2 h.2.2.2.1)]
    rw [if_pos (show (digs [u, v] = true ∧ (2 : Int) ≤ (([u, v].length : Nat) : Int) ∧ (([u, v].length : Nat) : Int) ≤ 2) from ⟨h2, by simp, by simp⟩), In_eq, bsome, bsome]
    have hq2 := dv_two h1 rfl
    have hu2 := dv_two h2 rfl
    by_cases h60 : dv [u, v] < 60
    rotate_left
    · rw [if_pos (show (!decide (0 ≤ dv [u, v] ∧ dv [u, v] ≤ 59)) = true by rw [decide_eq_false (by omega)]; rfl), if_neg (fun h => h60 h.2.2.2.2)]
    rw [if_neg (show ¬ (!decide (0 ≤ dv [u, v] ∧ dv [u, v] ≤ 59)) = true by rw [decide_eq_true (by omega)]; decide), ck (by omega) (by omega), ck (by omega) (by omega), bsome, if_pos (show [p, q, x, u, v].length = 5 ∧ (p = 43 ∨ p = 45) ∧ digs [q, x] = true ∧ digs [u, v] = true ∧ dv [u, v] < 60 from ⟨rfl, hp, h1, h2, h60⟩)]
    by_cases h45 : p = 45
    · simp only [if_pos h45]
      rw [ck (by omega) (by omega)]
    · simp only [if_neg h45]
theorem cut_len {d : List UInt8} (h : d.length ≤ 8) (i j : Nat) : ((d.take j).drop i).length ≤ 4000000 := by simp; omega
theorem tlR_ck {a b c d e : List UInt8} {x0 x1 h m s : Int} (ha : R_digitsOf a 1 2 = some x0) (hc : R_digitsOf c 4 4 = some x1) (hd : refCk d = some (h, m, s)) :
    (∀ z, refZn e = some z → tlR [a, b, c, d, e] = some ((x1, monOf b, x0, h, m, s, z), decide (0 ≤ x0 ∧ 0 ≤ x1 ∧ 0 < monOf b ∧ 0 ≤ h ∧ 0 ≤ m ∧ 0 ≤ s))) ∧ (refZn e = none → tlR [a, b, c, d, e] = some ((0, 0, 0, 0, 0, 0, 0), false)) := by
  have hd' := hd
  unfold refCk at hd'
  split at hd'
  rotate_left
  · cases hd'
  rename_i hcond
  obtain ⟨h58, _, _⟩ := hcond
  simp only [Option.some.injEq, Prod.mk.injEq] at hd'
  obtain ⟨e1, e2, e3⟩ := hd'
  have g1 : cut d 0 2 = some (d.take 2) := cut_to (b := 2) rfl (by omega)
  have g2 : cut d 3 5 = some ((d.take 5).drop 3) := cut_of (a := 3) (b := 5) rfl rfl (by omega) (by omega)
  have l1 : (d.take 2).length = 2 := by simp; omega
  have l2 : ((d.take 5).drop 3).length = 2 := by simp; omega
  have k1 : R_digitsOf (d.take 2) 2 2 = some h := by
    rw [digitsOf_eq _ 2 2 (by omega) (by omega), ← e1]
    congr 1
    by_cases hx : digs (d.take 2) = true
    · rw [if_pos ⟨hx, by omega, by omega⟩, if_pos hx]
    · rw [if_neg (fun h => hx h.1), if_neg hx]
  have k2 : R_digitsOf ((d.take 5).drop 3) 2 2 = some m := by
    rw [digitsOf_eq _ 2 2 (by omega) (by omega), ← e2]
    congr 1
    by_cases hx : digs ((d.take 5).drop 3) = true
    · rw [if_pos ⟨hx, by omega, by omega⟩, if_pos hx]
    · rw [if_neg (fun h => hx h.1), if_neg hx]
  have k3 : ∀ A B C D : Int, ((if (d.length : Int) = (8 : Int) then (cut d 6 (d.length : Int)).bind fun s102 => (R_digitsOf s102 2 2).bind fun n103 => some (A, B, C, h, m, n103, D) else some (A, B, C, h, m, 0, D)) : Option (Int × Int × Int × Int × Int × Int × Int)) = some (A, B, C, h, m, s, D) := fun A B C D => by
    by_cases h8 : d.length = 8
    · rw [if_pos h8] at e3
      rw [if_pos (by omega), cut_from (l := d) (i := 6) (a := 6) rfl (by omega), bsome, digitsOf_eq _ 2 2 (by simp; omega) (by omega), bsome, ← e3]
      have l3 : (d.drop 6).length = 2 := by simp; omega
      by_cases hx : digs (d.drop 6) = true
      · rw [if_pos ⟨hx, by omega, by omega⟩, if_pos hx]
      · rw [if_neg (fun h => hx h.1), if_neg hx]
    · rw [if_neg h8] at e3
      rw [if_neg (by omega), e3]
  have hb := ckb_ok d
  unfold ckb at hb
  rw [hd] at hb
  have fin : ∀ z : Int, ((if (0 : Int) ≤ x0 then (if (0 : Int) ≤ x1 then (if (0 : Int) < monOf b then (if (0 : Int) ≤ h then (if (0 : Int) ≤ m then some (x1, monOf b, x0, h, m, s, z, decide ((0 : Int) ≤ s)) else some (x1, monOf b, x0, h, m, s, z, false)) else some (x1, monOf b, x0, h, m, s, z, false)) else some (x1, monOf b, x0, h, m, s, z, false)) else some (x1, monOf b, x0, h, m, s, z, false)) else some (x1, monOf b, x0, h, m, s, z, false)) : Option (Int × Int × Int × Int × Int × Int × Int × Bool)) = some (x1, monOf b, x0, h, m, s, z, decide (0 ≤ x0 ∧ 0 ≤ x1 ∧ 0 < monOf b ∧ 0 ≤ h ∧ 0 ≤ m ∧ 0 ≤ s)) := fun z => by
    by_cases q1 : 0 ≤ x0
    · by_cases q2 : 0 ≤ x1
      · by_cases q3 : 0 < monOf b
        · by_cases q4 : 0 ≤ h
          · by_cases q5 : 0 ≤ m
            · simp only [q1, q2, q3, q4, q5, if_true, true_and]
            · simp only [q1, q2, q3, q4, q5, if_true, if_false, false_and, and_false, decide_false]
          · simp only [q1, q2, q3, q4, if_true, if_false, false_and, and_false, decide_false]
        · simp only [q1, q2, q3, if_true, if_false, false_and, and_false, decide_false]
      · simp only [q1, q2, if_true, if_false, false_and, and_false, decide_false]
    · simp only [q1, if_true, if_false, false_and, and_false, decide_false]
  constructor
  · intro z hz
    unfold tlR
    rw [if_pos (show (([a, b, c, d, e].length : Nat) : Int) = 5 from rfl), show idx [a, b, c, d, e] 0 = some a from rfl, bsome, ha, bsome, show idx [a, b, c, d, e] 2 = some c from rfl, bsome, hc, bsome, DateRead_L2 _ b _ _ rfl, bsome]
    simp only
    rw [show idx [a, b, c, d, e] 3 = some d from rfl, bsome, hb, bsome, if_neg (by simp), g1, bsome, k1, bsome, g2, bsome, k2, bsome, k3, bsome]
    simp only
    rw [show idx [a, b, c, d, e] 4 = some e from rfl, bsome]
    have hz0 := hz
    unfold refZn at hz
    by_cases hsp : e = [71, 77, 84] ∨ e = [85, 84] ∨ e = [90]
    · rw [if_pos hsp] at hz
      obtain rfl := Option.some.inj hz
      have hb9 : ((if e = [71, 77, 84] then some false else (if e = [85, 84] then some false else some (!decide (e = [90])))) : Option Bool) = some false := by
        rcases hsp with rfl | rfl | rfl <;> rfl
      rw [hb9, bsome, if_neg Bool.false_ne_true, bsome]
      simp only
      rw [fin, bsome]
    · rw [if_neg hsp] at hz
      have hb9 : ((if e = [71, 77, 84] then some false else (if e = [85, 84] then some false else some (!decide (e = [90])))) : Option Bool) = some true := by
        rw [if_neg (fun h => hsp (.inl h)), if_neg (fun h => hsp (.inr (.inl h))), decide_eq_false (fun h => hsp (.inr (.inr h)))]; rfl
      have hz2 := zn_R e hsp (fun n => ((0 : Int), (0 : Int), (0 : Int), (0 : Int), (0 : Int), (0 : Int), (0 : Int), x1, monOf b, x0, h, m, s, n)) (((0 : Int), (0 : Int), (0 : Int), (0 : Int), (0 : Int), (0 : Int), (0 : Int)), false)
      simp only [hz0] at hz2
      rw [hb9, bsome, if_pos rfl, hz2, bsome]
      simp only
      rw [fin, bsome]
  · intro hz
    have hsp : ¬ (e = [71, 77, 84] ∨ e = [85, 84] ∨ e = [90]) := fun h => by unfold refZn at hz; rw [if_pos h] at hz; cases hz
    unfold tlR
    rw [if_pos (show (([a, b, c, d, e].length : Nat) : Int) = 5 from rfl), show idx [a, b, c, d, e] 0 = some a from rfl, bsome, ha, bsome, show idx [a, b, c, d, e] 2 = some c from rfl, bsome, hc, bsome, DateRead_L2 _ b _ _ rfl, bsome]
    simp only
    rw [show idx [a, b, c, d, e] 3 = some d from rfl, bsome, hb, bsome, if_neg (by simp), g1, bsome, k1, bsome, g2, bsome, k2, bsome, k3, bsome]
    simp only
    rw [show idx [a, b, c, d, e] 4 = some e from rfl, bsome]
    have hb9 : ((if e = [71, 77, 84] then some false else (if e = [85, 84] then some false else some (!decide (e = [90])))) : Option Bool) = some true := by
      rw [if_neg (fun h => hsp (.inl h)), if_neg (fun h => hsp (.inr (.inl h))), decide_eq_false (fun h => hsp (.inr (.inr h)))]; rfl
    have hz2 := zn_R e hsp (fun n => ((0 : Int), (0 : Int), (0 : Int), (0 : Int), (0 : Int), (0 : Int), (0 : Int), x1, monOf b, x0, h, m, s, n)) (((0 : Int), (0 : Int), (0 : Int), (0 : Int), (0 : Int), (0 : Int), (0 : Int)), false)
    simp only [hz] at hz2
    rw [hb9, bsome, if_pos rfl, hz2, bsome]
abbrev DT := Int × Int × Int × Int × Int × Int × Int
def Both (x y : Option (DT × Bool)) : Prop := (∃ D, x = some (D, true) ∧ y = some (D, true)) ∨ (∃ X Y, x = some (X, false) ∧ y = some (Y, false))
theorem CK_nn {t : List UInt8} {h m s : Int} (hc : CK t h m s) : 0 ≤ h ∧ 0 ≤ m ∧ 0 ≤ s := by
  cases hc with
  | two ha la hb lb => exact ⟨dv_nn _, dv_nn _, Int.le_refl _⟩
  | three ha la hb lb hc lc => exact ⟨dv_nn _, dv_nn _, dv_nn _⟩
theorem num_pair (a : List UInt8) (n lo hi : Int) (hl : a.length ≤ 4000) (h9 : hi ≤ 9) (hn : ∀ L : Int, L = (a.length : Int) → (lo ≤ L ∧ L ≤ hi ↔ 1 ≤ L ∧ L = n)) : ∃ v k x, dates_number a n = some (v, k) ∧ R_digitsOf a lo hi = some x ∧ (k = true ↔ 0 ≤ x) ∧ (k = true → v = x) := by
  rw [digitsOf_eq a lo hi (by omega) h9]
  have hn' := hn _ rfl
  by_cases h : digs a = true ∧ lo ≤ (a.length : Int) ∧ (a.length : Int) ≤ hi
  · have h2 := hn'.1 h.2
    rw [if_pos h]
    exact ⟨_, _, _, number_ok h.1 (by omega) (by omega) h2.2, rfl, ⟨fun _ => dv_nn _, fun _ => rfl⟩, fun _ => rfl⟩
  · rw [if_neg h]
    exact ⟨_, _, _, number_no hl (fun h' => h ⟨h'.1, hn'.2 ⟨by omega, h'.2.2⟩⟩), rfl, ⟨fun h => (by cases h), fun h => (by omega)⟩, fun h => (by cases h)⟩
theorem tail_both (a b c d e : List UInt8) (la : a.length ≤ 4000) (lc : c.length ≤ 4000) (ld : d.length ≤ 4000) : Both (tlP [a, b, c, d, e]) (tlR [a, b, c, d, e]) := by
  obtain ⟨n0, k0, x0, a1, a2, a3, a4⟩ := num_pair a (min (max (a.length : Int) 1) 2) 1 2 la (by omega) (fun L hL => by omega)
  obtain ⟨n1, k1, x1, c1, c2, c3, c4⟩ := num_pair c 4 4 4 lc (by omega) (fun L hL => by omega)
  obtain ⟨z, e1, e2⟩ := zone_ok e
  by_cases hck : ∃ h m s, CK d h m s
  · obtain ⟨h, m, s, hc⟩ := hck
    have hr := refCk_of hc
    obtain ⟨q1, q2, q3⟩ := CK_nn hc
    obtain ⟨r1, r2⟩ := tlR_ck (b := b) (e := e) a2 c2 hr
    rw [tlP_eq a1 c1 (clock_ok hc) e1]
    cases hz : refZn e with
    | none =>
      rw [r2 hz]
      right
      rw [decide_eq_false (by simp)]
      exact ⟨_, _, rfl, rfl⟩
    | some w =>
      rw [r1 w hz]
      have := e2 w hz
      subst this
      by_cases hall : 0 < monOf b ∧ k0 = true ∧ k1 = true
      · left
        obtain ⟨m1, m2, m3⟩ := hall
        rw [decide_eq_true ⟨m1, m2, m3, rfl, rfl⟩, decide_eq_true ⟨a3.1 m2, c3.1 m3, m1, q1, q2, q3⟩, a4 m2, c4 m3]
        exact ⟨_, rfl, rfl⟩
      · right
        rw [decide_eq_false (fun h => hall ⟨h.1, h.2.1, h.2.2.1⟩), decide_eq_false (fun h => hall ⟨h.2.2.1, a3.2 h.1, c3.2 h.2.1⟩)]
        exact ⟨_, _, rfl, rfl⟩
  · obtain ⟨h, m, s, hc⟩ := clock_no ld hck
    rw [tlP_eq a1 c1 hc e1]
    right
    rw [decide_eq_false (by simp)]
    cases hr : refCk d with
    | none => rw [tlR_no a2 c2 hr]; exact ⟨_, _, rfl, rfl⟩
    | some y =>
      obtain ⟨h', m', s'⟩ := y
      obtain ⟨r1, r2⟩ := tlR_ck (b := b) (e := e) a2 c2 hr
      cases hz : refZn e with
      | none => rw [r2 hz]; exact ⟨_, _, rfl, rfl⟩
      | some w =>
        rw [r1 w hz, decide_eq_false (fun h => hck ⟨_, _, _, CK_of hr h.2.2.2.1 h.2.2.2.2.1 h.2.2.2.2.2⟩)]
        exact ⟨_, _, rfl, rfl⟩
theorem tlP_short {l : List (List UInt8)} (h : l.length ≠ 5) : tlP l = some ((0, 0, 0, 0, 0, 0, 0), false) := by
  unfold tlP; rw [if_neg (by omega)]
theorem tlR_short {l : List (List UInt8)} (h : l.length ≠ 5) : tlR l = some ((0, 0, 0, 0, 0, 0, 0), false) := by
  unfold tlR; rw [if_neg (by omega)]
theorem read_nil : dates_read [] = some ((0, 0, 0, 0, 0, 0, 0), false) := by rfl
theorem read_plain {w : List UInt8} {r : List (List UInt8)} (hw : w.length ≤ 4000) (h : w.getLast? ≠ some 44) : dates_read (w :: r) = tlP (w :: r) := by
  unfold dates_read
  rw [weekdays_ok, bsome, show chkA 7 (List.replicate 7 ([] : List UInt8)) = some (List.replicate 7 []) from rfl, bsome, show chkA 7 dayn = some dayn from rfl, bsome, if_pos (by simp), show idx (w :: r) 0 = some w from rfl, bsome, HasSuffix_ok w hw, decide_eq_false h, bsome, bsome, if_neg Bool.false_ne_true, bsome]
  rfl
theorem read_day {w : List UInt8} {r : List (List UInt8)} (hw : w.length ≤ 4000) : dates_read ((w ++ [44]) :: r) = if w ∈ dayn then tlP r else some ((0, 0, 0, 0, 0, 0, 0), false) := by
  have hs : strings_HasSuffix (w ++ [44]) [44] = some true := by
    unfold strings_HasSuffix stringslite_HasSuffix
    simp only [List.length_append, List.length_cons, List.length_nil]
    rw [if_pos (by omega), ck (by omega) (by omega)]
    have := cut_from (l := w ++ [44]) (i := ((w.length + (0 + 1) : Nat) : Int) - ((0 + 1 : Nat) : Int)) (a := w.length) (by omega) (by simp)
    rw [List.length_append] at this
    simp only [List.length_cons, List.length_nil] at this
    rw [this, bsome, bsome]
    simp [bsome]
  unfold dates_read
  rw [weekdays_ok, bsome, show chkA 7 (List.replicate 7 ([] : List UInt8)) = some (List.replicate 7 []) from rfl, bsome, show chkA 7 dayn = some dayn from rfl, bsome, if_pos (by simp), show idx ((w ++ [44]) :: r) 0 = some (w ++ [44]) from rfl, bsome, hs, bsome, bsome, if_pos rfl, bsome, bsome, Trim_ok w hw, bsome, Contains_ok dayn w (by decide), bsome]
  by_cases hd : w ∈ dayn
  · rw [if_pos (decide_eq_true hd), if_pos hd, cut_from (l := (w ++ [44]) :: r) (i := 1) (a := 1) rfl (by simp), bsome, bsome]
    rfl
  · rw [if_neg (by simpa using hd), if_neg hd, bsome]
theorem ref_six {p : List UInt8} {w : List UInt8} {r : List (List UInt8)} (hs : R_Split3 p = some (w :: r)) (h6 : r.length = 5) : R_DateRead p = if (∃ d ∈ dayn, w = d ++ [44]) then tlR r else some ((0, 0, 0, 0, 0, 0, 0), false) := by
  unfold R_DateRead
  rw [hs, bsome, if_pos (by simp; omega), DateRead_L1 (w :: r) w rfl, bsome]
  by_cases hd : ∃ d ∈ dayn, w = d ++ [44]
  · rw [if_pos (decide_eq_true hd), if_pos hd, cut_from (l := w :: r) (i := 1) (a := 1) rfl (by simp), bsome, bsome]
    rfl
  · rw [if_neg (by simpa using hd), if_neg hd, bsome]
theorem ref_not6 {p : List UInt8} {l : List (List UInt8)} (hs : R_Split3 p = some l) (h6 : l.length ≠ 6) : R_DateRead p = tlR l := by
  unfold R_DateRead
  rw [hs, bsome, if_neg (by omega), bsome]
  rfl
theorem dig_44 {w : List UInt8} (h : w.getLast? = some 44) : digs w = false := by
  rw [← Bool.not_eq_true]
  intro hd
  have := List.all_eq_true.1 hd 44 (List.mem_of_getLast? h)
  simp [dg] at this
theorem read_both {p : List UInt8} {l : List (List UInt8)} (hs : R_Split3 p = some l) (hl : ∀ w ∈ l, w.length ≤ 4000) : Both (dates_read l) (R_DateRead p) := by
  cases l with
  | nil => rw [read_nil, ref_not6 hs (by simp), tlR_short (by simp)]; exact .inr ⟨_, _, rfl, rfl⟩
  | cons w r =>
    have hw := hl w List.mem_cons_self
    by_cases h44 : w.getLast? = some 44
    · obtain ⟨v, rfl⟩ : ∃ v, w = v ++ [44] := by
        rcases List.eq_nil_or_concat w with rfl | ⟨v, c, rfl⟩
        · cases h44
        · simp at h44; subst h44; exact ⟨v, by simp⟩
      have hv : v.length ≤ 4000 := by simp at hw; omega
      rw [read_day hv]
      by_cases h5 : r.length = 5
      · rw [ref_six hs h5]
        have hiff : (∃ d ∈ dayn, v ++ [44] = d ++ [44]) ↔ v ∈ dayn := ⟨fun ⟨d, h1, h2⟩ => by rw [List.append_cancel_right h2]; exact h1, fun h => ⟨v, h, rfl⟩⟩
        by_cases hd : v ∈ dayn
        · rw [if_pos hd, if_pos (hiff.2 hd)]
          match r, h5 with
          | [a, b, c, d, e], _ => exact tail_both a b c d e (hl a (by simp)) (hl c (by simp)) (hl d (by simp))
        · rw [if_neg hd, if_neg (fun h => hd (hiff.1 h))]
          exact .inr ⟨_, _, rfl, rfl⟩
      · have hP : (if v ∈ dayn then tlP r else some ((0, 0, 0, 0, 0, 0, 0), false)) = some ((0, 0, 0, 0, 0, 0, 0), false) := by
          split
          · exact tlP_short h5
          · rfl
        rw [hP, ref_not6 hs (by simp; omega)]
        by_cases h4 : r.length = 4
        · match r, h4 with
          | [b, c, d, e], _ =>
            right
            have a2 : R_digitsOf (v ++ [44]) 1 2 = some (-1) := by
              rw [digitsOf_eq _ 1 2 (by omega) (by omega), if_neg (fun h => by rw [dig_44 h44] at h; cases h.1)]
            obtain ⟨n1, k1, x1, c1, c2, c3, c4⟩ := num_pair c 4 4 4 (hl c (by simp)) (by omega) (fun L hL => by omega)
            cases hr : refCk d with
            | none => rw [tlR_no a2 c2 hr]; exact ⟨_, _, rfl, rfl⟩
            | some y =>
              obtain ⟨h', m', s'⟩ := y
              obtain ⟨r1, r2⟩ := tlR_ck (b := b) (e := e) a2 c2 hr
              cases hz : refZn e with
              | none => rw [r2 hz]; exact ⟨_, _, rfl, rfl⟩
              | some w =>
                rw [r1 w hz, decide_eq_false (fun h => by have := h.1; omega)]
                exact ⟨_, _, rfl, rfl⟩
        · rw [tlR_short (by simp; omega)]
          exact .inr ⟨_, _, rfl, rfl⟩
    · rw [read_plain hw h44]
      by_cases h5 : r.length = 5
      · rw [ref_six hs h5, tlP_short (by simp; omega), if_neg (fun ⟨d, _, h⟩ => h44 (by rw [h]; simp))]
        exact .inr ⟨_, _, rfl, rfl⟩
      · rw [ref_not6 hs (by simp; omega)]
        by_cases h4 : r.length = 4
        · match r, h4 with
          | [b, c, d, e], _ => exact tail_both w b c d e hw (hl c (by simp)) (hl d (by simp))
        · rw [tlR_short (by simp; omega), tlP_short (by simp; omega)]
          exact .inr ⟨_, _, rfl, rfl⟩
theorem law_Parse (p : List UInt8) : L_DatesParseMatchesSpec p = some true := by
  unfold L_DatesParseMatchesSpec
  rw [dates_example, bsome, if_pos rfl]
  by_cases h4 : 4000 < p.length
  · have h1 : dates_Parse p = some ((0, 0, 0, 0, 0, 0, 0), (1, -1)) := by
      unfold dates_Parse basic_Fault
      rw [if_pos (by omega)]; rfl
    rw [h1, bsome]
    simp only
    rw [if_pos (by omega)]
    rfl
  · have hs := Split3_ok p (by omega)
    have hf := Fields_ok p (by omega)
    have hl : ∀ w ∈ spW [] p, w.length ≤ 4000 := fun w hw => by have := spW_sub p [] w hw; simp at this; omega
    have hb := read_both hs hl
    unfold dates_Parse basic_Fault
    rw [if_neg (by omega), hf, bsome]
    rcases hb with ⟨⟨y, m, d, hh, mm, ss, z⟩, h1, h2⟩ | ⟨⟨y, m, d, hh, mm, ss, z⟩, ⟨y', m', d', hh', mm', ss', z'⟩, h1, h2⟩
    · rw [h1, bsome]
      simp only [if_true]
      rw [Validate_ok]
      by_cases hok : okD (y, m, d, hh, mm, ss, z)
      · rw [if_pos hok, bsome]
        simp only [show basic_Failed (0, 0) = some false from rfl, show basic_None = some (0, 0) from rfl, bsome, if_false, Bool.false_eq_true]
        rw [if_neg (by omega), h2, bsome]
        simp only [if_true]
        rw [DateFault_ok, if_pos hok, bsome]
        simp only [if_true, and_self, decide_true, bsome]
      · rw [if_neg hok, bsome]
        simp only [show basic_Failed (3, -3) = some true from rfl, bsome, if_true]
        rw [if_neg (by omega), h2, bsome]
        simp only [if_true]
        rw [DateFault_ok, if_neg hok, bsome]
        rfl
    · rw [h1, bsome]
      simp only [bsome, Bool.false_eq_true, if_false]
      rw [if_neg (by omega), h2, bsome]
      rfl
end Go.Ph.Pf
