/-
  Dates: the laws RoundTrip and Order. Plain.
-/
import Derived.Test.YtlopnlagpdchiaaDoorDpf
set_option linter.unusedVariables false
set_option linter.unusedSimpArgs false
namespace Go.Ph.Pf
open Go.Ph.Pl
theorem dates_example : L_datesExample = some true := by decide +kernel
theorem bs {α β : Type} {x : Option α} {a : α} {f : α → Option β} (h : x = some a) : x.bind f = f a := by rw [h]; rfl
theorem ck {x : Int} (h1 : -9223372036854775808 ≤ x) (h2 : x ≤ 9223372036854775807) {β : Type} {f : Int → Option β} : (chk x).bind f = f x := bs (chk_ok h1 h2)
theorem quo_nn {a b : Int} (h0 : 0 ≤ a) (h1 : a ≤ 9223372036854775807) (hb : 0 < b) : quo a b = some (a / b) := by
  unfold quo
  rw [if_neg (by omega), Int.tdiv_eq_ediv_of_nonneg h0]
  have h2 : 0 ≤ a / b := Int.ediv_nonneg h0 (by omega)
  have h3 : a / b ≤ a := Int.ediv_le_self _ h0
  exact chk_ok (by omega) (by omega)
theorem rem_nn {a b : Int} (h0 : 0 ≤ a) (hb : 0 < b) : rem a b = some (a % b) := by
  unfold rem
  rw [if_neg (by omega), Int.tmod_eq_emod_of_nonneg h0]
/-- days of the years before y -/
def bef (y : Int) : Int := 365 * (y - 1) + (y - 1) / 4 - (y - 1) / 100 + (y - 1) / 400
def lpB (y : Int) : Bool := decide (y % 4 = 0 ∧ (¬ y % 100 = 0 ∨ y % 400 = 0))
theorem bef_succ (y : Int) : bef (y + 1) = bef y + 365 + (if lpB y = true then 1 else 0) := by
  unfold bef lpB
  by_cases h : y % 4 = 0 ∧ (¬ y % 100 = 0 ∨ y % 400 = 0)
  · rw [if_pos (by simpa using h)]; omega
  · rw [if_neg (by simpa using h)]; omega
theorem leap_ok {y : Int} (h : 0 ≤ y) : dates_leap y = some (lpB y) := by
  unfold dates_leap lpB
  rw [rem_nn h (by omega), bsome]
  by_cases h4 : y % 4 = 0
  · rw [if_pos h4, rem_nn h (by omega), bsome]
    by_cases h100 : y % 100 = 0
    · rw [if_pos h100, rem_nn h (by omega), bsome, bsome]; simp [h4, h100]
    · rw [if_neg h100, bsome]; simp [h4, h100]
  · rw [if_neg h4, bsome]; simp [h4]
def mls : List Int := [31, 28, 31, 30, 31, 30, 31, 31, 30, 31, 30, 31]
/-- days of a month -/
def ml (y m : Int) : Int := if m = 2 ∧ lpB y = true then 29 else mls.getD (m - 1).toNat 0
theorem m12 {m : Int} (h1 : 1 ≤ m) (h2 : m ≤ 12) : m = 1 ∨ m = 2 ∨ m = 3 ∨ m = 4 ∨ m = 5 ∨ m = 6 ∨ m = 7 ∨ m = 8 ∨ m = 9 ∨ m = 10 ∨ m = 11 ∨ m = 12 := by omega
theorem ml_bd {y m : Int} (h1 : 1 ≤ m) (h2 : m ≤ 12) : 28 ≤ ml y m ∧ ml y m ≤ 31 := by
  unfold ml
  split
  · omega
  · rcases m12 h1 h2 with rfl | rfl | rfl | rfl | rfl | rfl | rfl | rfl | rfl | rfl | rfl | rfl <;> decide
theorem length_ok {y m : Int} (h : 0 ≤ y) (h1 : 1 ≤ m) (h2 : m ≤ 12) : dates_length y m = some (ml y m) := by
  unfold dates_length ml
  rw [leap_ok h]
  rcases m12 h1 h2 with rfl | rfl | rfl | rfl | rfl | rfl | rfl | rfl | rfl | rfl | rfl | rfl <;> cases lpB y <;> rfl
theorem before_ok {y : Int} (h1 : 1 ≤ y) (h2 : y ≤ 5000) : dates_before y = some (bef y) := by
  unfold dates_before bef
  rw [ck (by omega) (by omega), ck (by omega) (by omega), quo_nn (by omega) (by omega) (by omega), bsome, ck (by omega) (by omega), quo_nn (by omega) (by omega) (by omega), bsome, ck (by omega) (by omega), quo_nn (by omega) (by omega) (by omega), bsome, ck (by omega) (by omega)]
/-- days of the months before m -/
def cum (y : Int) : Nat → Int
  | 0 => 0
  | k + 1 => cum y k + ml y (k + 1)
theorem cum_bd (y : Int) : ∀ k : Nat, k ≤ 12 → 28 * k ≤ cum y k ∧ cum y k ≤ 31 * k
  | 0, _ => by simp [cum]
  | k + 1, h => by
    have := cum_bd y k (by omega)
    have := ml_bd (y := y) (m := (k : Int) + 1) (by omega) (by omega)
    rw [cum]; omega
theorem bef_bd {y : Int} (h1 : 1 ≤ y) (h2 : y ≤ 5000) : 0 ≤ bef y ∧ bef y ≤ 2000000 := by unfold bef; omega
theorem day_L1 {y : Int} (hy : 0 ≤ y) (p1 : Int) (h2 : p1 ≤ 12) : ∀ (j k : Nat) (a : Int) (m : Nat), (k : Int) + 1 + j = p1 → j < m → -100000000 ≤ a - cum y k → a - cum y k ≤ 100000000 → dates_day_L1 y p1 m a (k + 1 : Int) = some (a - cum y k + cum y (k + j))
  | 0, k, a, m + 1, hk, hm, ha, hb => by
    rw [dates_day_L1, if_neg (by omega)]
    congr 1; simp
  | j + 1, k, a, m + 1, hk, hm, ha, hb => by
    have hb2 := ml_bd (y := y) (m := (k : Int) + 1) (by omega) (by omega)
    have hc := cum_bd y k (by omega)
    have ec : cum y (k + 1) = cum y k + ml y ((k : Int) + 1) := rfl
    have ih := day_L1 hy p1 h2 j (k + 1) (a + ml y ((k : Int) + 1)) m (by omega) (by omega) (by omega) (by omega)
    rw [dates_day_L1, if_pos (by omega), length_ok hy (by omega) (by omega), bsome, ck (by omega) (by omega), ck (by omega) (by omega)]
    have e : ((k : Int) + 1 + 1) = ((k + 1 : Nat) : Int) + 1 := by omega
    rw [e, ih]
    have e2 : k + 1 + j = k + (j + 1) := by omega
    rw [e2, ec]
    congr 1; omega
  | 0, _, _, 0, _, h, _, _ => by omega
  | _ + 1, _, _, 0, _, h, _, _ => by omega
/-- the number of a day -/
def dn (y m d : Int) : Int := bef y - bef 1970 + d - 1 + cum y (m - 1).toNat
theorem fu_lt {j : Nat} (h : j ≤ 18446744073709551615) : j < FU := by unfold FU; omega
theorem day_ok {y m d : Int} (h1 : 1 ≤ y) (h2 : y ≤ 5000) (h3 : 1 ≤ m) (h4 : m ≤ 12) (h5 : -10000 ≤ d) (h6 : d ≤ 10000) : dates_day y m d = some (dn y m d) := by
  have hb := bef_bd h1 h2
  have hb' := bef_bd (y := 1970) (by omega) (by omega)
  unfold dates_day dn
  rw [before_ok h1 h2, bsome, before_ok (by omega) (by omega), bsome, ck (by omega) (by omega), ck (by omega) (by omega), ck (by omega) (by omega)]
  have := day_L1 (y := y) (by omega) m h4 (m - 1).toNat 0 (bef y - bef 1970 + d - 1) FU (by omega) (fu_lt (by omega)) (by simp [cum]; omega) (by simp [cum]; omega)
  rw [show ((0 : Nat) : Int) + 1 = 1 from rfl] at this
  rw [this, bsome]
  simp [cum]
theorem dn_bd {y m d : Int} (h1 : 1 ≤ y) (h2 : y ≤ 5000) (h3 : 1 ≤ m) (h4 : m ≤ 12) (h5 : -10000 ≤ d) (h6 : d ≤ 10000) : -3000000 ≤ dn y m d ∧ dn y m d ≤ 3000000 := by
  have hb := bef_bd h1 h2
  have hb' := bef_bd (y := 1970) (by omega) (by omega)
  have := cum_bd y (m - 1).toNat (by omega)
  unfold dn; omega
/-- a date that is right -/
abbrev okD (p : Int × Int × Int × Int × Int × Int × Int) : Prop :=
  (1 ≤ p.1 ∧ p.1 ≤ 4000) ∧ (1 ≤ p.2.1 ∧ p.2.1 ≤ 12) ∧ (1 ≤ p.2.2.1 ∧ p.2.2.1 ≤ ml p.1 p.2.1) ∧ (0 ≤ p.2.2.2.1 ∧ p.2.2.2.1 ≤ 23) ∧ (0 ≤ p.2.2.2.2.1 ∧ p.2.2.2.2.1 ≤ 59) ∧ (0 ≤ p.2.2.2.2.2.1 ∧ p.2.2.2.2.2.1 ≤ 59) ∧ (-900 ≤ p.2.2.2.2.2.2 ∧ p.2.2.2.2.2.2 ≤ 900)
theorem within_eq (a b c : Int) : dates_within a b c = some (decide (b ≤ a ∧ a ≤ c)) := by
  unfold dates_within
  by_cases h : b ≤ a
  · rw [if_pos h, bsome]; simp [h]
  · rw [if_neg h, bsome]; simp [h]
theorem In_eq (a b c : Int) : R_In a b c = some (decide (b ≤ a ∧ a ≤ c)) := by
  unfold R_In
  by_cases h : b ≤ a
  · rw [if_pos h, bsome]; simp [h]
  · rw [if_neg h, bsome]; simp [h]
theorem ifs {α : Type} {p : Prop} [Decidable p] {a b : α} : (if decide p = true then a else b) = if p then a else b := by by_cases h : p <;> simp [h]
theorem Validate_ok (p : Int × Int × Int × Int × Int × Int × Int) : dates_Validate p = some (if okD p then (0, 0) else (3, -3)) := by
  unfold dates_Validate okD basic_None basic_Fault
  simp only [within_eq, bsome, ifs]
  by_cases h1 : 1 ≤ p.1 ∧ p.1 ≤ 4000
  rotate_left
  · simp only [if_neg h1, bsome, h1, false_and, if_false, Bool.false_eq_true]
  by_cases h2 : 1 ≤ p.2.1 ∧ p.2.1 ≤ 12
  rotate_left
  · simp only [if_pos h1, if_neg h2, bsome, h2, false_and, and_false, if_false, Bool.false_eq_true]
  have e : min (max p.2.1 1) 12 = p.2.1 := by omega
  simp only [e, length_ok (y := p.1) (by omega) h2.1 h2.2, bsome, ifs]
  by_cases h3 : 1 ≤ p.2.2.1 ∧ p.2.2.1 ≤ ml p.1 p.2.1
  rotate_left
  · simp only [if_pos h1, if_pos h2, if_neg h3, bsome, h3, false_and, and_false, if_false, Bool.false_eq_true]
  by_cases h4 : 0 ≤ p.2.2.2.1 ∧ p.2.2.2.1 ≤ 23
  rotate_left
  · simp only [if_pos h1, if_pos h2, if_pos h3, if_neg h4, bsome, h4, false_and, and_false, if_false, Bool.false_eq_true]
  by_cases h5 : 0 ≤ p.2.2.2.2.1 ∧ p.2.2.2.2.1 ≤ 59
  rotate_left
  · simp only [if_pos h1, if_pos h2, if_pos h3, if_pos h4, if_neg h5, bsome, h5, false_and, and_false, if_false, Bool.false_eq_true]
  by_cases h6 : 0 ≤ p.2.2.2.2.2.1 ∧ p.2.2.2.2.2.1 ≤ 59
  rotate_left
  · simp only [if_pos h1, if_pos h2, if_pos h3, if_pos h4, if_pos h5, if_neg h6, bsome, h6, false_and, and_false, if_false, Bool.false_eq_true]
  simp only [if_pos h1, if_pos h2, if_pos h3, if_pos h4, if_pos h5, if_pos h6, bsome, ifs]
  by_cases h7 : -900 ≤ p.2.2.2.2.2.2 ∧ p.2.2.2.2.2.2 ≤ 900
  · rw [if_pos h7, if_pos ⟨h1, h2, h3, h4, h5, h6, h7⟩]
  · rw [if_neg h7, if_neg (fun h => h7 h.2.2.2.2.2.2)]
/-- the instant of a date -/
def inst (p : Int × Int × Int × Int × Int × Int × Int) : Int := dn p.1 p.2.1 p.2.2.1 * 86400 + p.2.2.2.1 * 3600 + (p.2.2.2.2.1 - p.2.2.2.2.2.2) * 60 + p.2.2.2.2.2.1
theorem Instant_ok (p : Int × Int × Int × Int × Int × Int × Int) : dates_Instant p = some (if okD p then (inst p, (0, 0)) else (0, (3, -3))) := by
  unfold dates_Instant basic_Failed basic_None
  rw [Validate_ok]
  by_cases h : okD p
  · obtain ⟨h1, h2, h3, h4, h5, h6, h7⟩ := id h
    have hm := ml_bd (y := p.1) h2.1 h2.2
    have hd := dn_bd (y := p.1) (m := p.2.1) (d := p.2.2.1) h1.1 (by omega) h2.1 h2.2 (by omega) (by omega)
    rw [if_pos h, if_pos h]
    simp only [bsome]
    rw [if_neg (by decide), day_ok h1.1 (by omega) h2.1 h2.2 (by omega) (by omega), bsome, ck (by omega) (by omega), ck (by omega) (by omega), ck (by omega) (by omega), ck (by omega) (by omega), ck (by omega) (by omega), ck (by omega) (by omega), ck (by omega) (by omega)]
    rfl
  · rw [if_neg h, if_neg h]; rfl
theorem split_ok {n b : Int} (h1 : -4000000000000000000 ≤ n) (h2 : n ≤ 4000000000000000000) (hb : 0 < b) (hb2 : b ≤ 1000000) : dates_split n b = some (n / b, n % b) := by
  have hr1 := Int.emod_nonneg n (by omega : b ≠ 0)
  have hr2 := Int.emod_lt_of_pos n hb
  have he : (n.tmod b + b) % b = n % b := by
    rw [Int.add_emod_right]
    rw [Int.tmod_eq_emod]
    split
    · simp
    · rw [show ((b.natAbs : Nat) : Int) = b by omega, show n % b - b = n % b + b * (-1) by omega, Int.add_mul_emod_self_left]
      exact Int.emod_emod_of_dvd n (Int.dvd_refl b)
  have hlt : -b < n.tmod b ∧ n.tmod b < b := by
    rw [Int.tmod_eq_emod]
    split <;> omega
  unfold dates_split rem
  rw [if_neg (by omega), bsome, ck (by omega) (by omega), if_neg (by omega), bsome, Int.tmod_eq_emod_of_nonneg (by omega), he, ck (by omega) (by omega)]
  have hq : n - n % b = b * (n / b) := by have := Int.emod_add_mul_ediv n b; omega
  have hq2 : (n - n % b).tdiv b = n / b := by rw [hq, Int.mul_tdiv_cancel_left _ (by omega)]
  unfold quo
  have hle : -4000000000000000001 ≤ n / b ∧ n / b ≤ 4000000000000000000 := by
    constructor
    · have : n / b ≥ n / b := Int.le_refl _
      rcases Int.lt_or_le n 0 with hn | hn
      · have := Int.le_ediv_of_mul_le hb (a := n) (b := n) (by
          have : n * b ≤ n * 1 := Int.mul_le_mul_of_nonpos_left (by omega) (by omega)
          omega)
        omega
      · have := Int.ediv_nonneg hn (by omega : 0 ≤ b); omega
    · rcases Int.lt_or_le n 0 with hn | hn
      · have := Int.ediv_neg_of_neg_of_pos hn hb; omega
      · have := Int.ediv_le_self b hn; omega
  rw [if_neg (by omega), hq2, chk_ok (by omega) (by omega), bsome]
theorem Weekday_ok (p : Int × Int × Int × Int × Int × Int × Int) : dates_Weekday p = some (if okD p then ((dn p.1 p.2.1 p.2.2.1 + 4) % 7, (0, 0)) else (0, (3, -3))) := by
  unfold dates_Weekday basic_Failed basic_None
  rw [Validate_ok]
  by_cases h : okD p
  · obtain ⟨h1, h2, h3, h4, h5, h6, h7⟩ := id h
    have hm := ml_bd (y := p.1) h2.1 h2.2
    have hd := dn_bd (y := p.1) (m := p.2.1) (d := p.2.2.1) h1.1 (by omega) h2.1 h2.2 (by omega) (by omega)
    rw [if_pos h, if_pos h]
    simp only [bsome]
    rw [if_neg (by decide), day_ok h1.1 (by omega) h2.1 h2.2 (by omega) (by omega), bsome, ck (by omega) (by omega), split_ok (by omega) (by omega) (by omega) (by omega)]
    rfl
  · rw [if_neg h, if_neg h]; rfl
/-- the first day of a year -/
def ys (y : Int) : Int := bef y - bef 1970
theorem dn_y (y d : Int) : dn y 1 d = ys y + d - 1 := by unfold dn ys; simp [cum]
theorem ys_succ (y : Int) : ys y + 365 ≤ ys (y + 1) ∧ ys (y + 1) ≤ ys y + 366 := by
  have := bef_succ y
  unfold ys
  split at this <;> omega
theorem ys_le {a b : Int} (h : a ≤ b) : ys a + 365 * (b - a) ≤ ys b := by
  obtain ⟨k, rfl⟩ : ∃ k : Nat, b = a + k := ⟨(b - a).toNat, by omega⟩
  clear h
  induction k with
  | zero => simp
  | succ k ih =>
    have := ys_succ (a + k)
    have e : a + ((k + 1 : Nat) : Int) = a + k + 1 := by omega
    rw [e]; omega
theorem ys_ge {a b : Int} (h : a ≤ b) : ys b ≤ ys a + 366 * (b - a) := by
  obtain ⟨k, rfl⟩ : ∃ k : Nat, b = a + k := ⟨(b - a).toNat, by omega⟩
  clear h
  induction k with
  | zero => simp
  | succ k ih =>
    have := ys_succ (a + k)
    have e : a + ((k + 1 : Nat) : Int) = a + k + 1 := by omega
    rw [e]; omega
theorem year_ex {n : Int} (h1 : ys 1 ≤ n) : ∀ k : Nat, n < ys (1 + k) → ∃ y, 1 ≤ y ∧ y < 1 + (k : Int) ∧ ys y ≤ n ∧ n < ys (y + 1)
  | 0, h => by simp at h; omega
  | k + 1, h => by
    by_cases hk : n < ys (1 + k)
    · obtain ⟨y, a, b, c, d⟩ := year_ex h1 k hk
      exact ⟨y, a, by omega, c, d⟩
    · exact ⟨1 + k, by omega, by omega, by omega, by have e : (1 : Int) + ((k + 1 : Nat) : Int) = 1 + k + 1 := by omega
                                                     rw [e] at h; exact h⟩
theorem Civil_L1 {n y0 : Int} (h1 : 1 ≤ y0) (h2 : y0 ≤ 4000) (h3 : ys y0 ≤ n) (h4 : n < ys (y0 + 1)) : ∀ (e m : Nat) (y : Int), e + 1 < m → e ≤ 11 → 1 ≤ y → y ≤ y0 → y0 < y + 2 ^ (e + 1) → dates_Civil_L1 n m y ((2 ^ e : Nat) : Int) = some y0
  | e, 0, y, hm, _, _, _, _ => by omega
  | e, m + 1, y, hm, he, hy, hy0, hlt => by
    have hp : 1 ≤ 2 ^ e := Nat.one_le_two_pow
    have hp2 : 2 ^ e ≤ 2 ^ 11 := Nat.pow_le_pow_right (by omega) he
    have hp3 : (2 : Int) ^ (e + 1) = 2 * ((2 ^ e : Nat) : Int) := by rw [Int.pow_succ]; push_cast; exact Int.mul_comm _ _
    rw [hp3] at hlt
    generalize hst : 2 ^ e = st at *
    have hnext : ∀ y', 1 ≤ y' → y' ≤ y0 → y0 < y' + (st : Int) → ((quo (st : Int) 2).bind fun n49 => dates_Civil_L1 n m y' n49) = some y0 := by
      intro y' a b c
      rw [quo_nn (by omega) (by omega) (by omega), bsome]
      cases e with
      | zero =>
        have : st = 1 := by rw [← hst]
        subst this
        obtain ⟨m', rfl⟩ : ∃ m', m = m' + 1 := ⟨m - 1, by omega⟩
        have : y' = y0 := by omega
        subst this
        rw [show ((1 : Nat) : Int) / 2 = 0 from rfl, dates_Civil_L1, if_neg (by omega)]
      | succ e =>
        have hst2 : (st : Int) / 2 = ((2 ^ e : Nat) : Int) := by rw [← hst, Nat.pow_succ]; omega
        rw [hst2]
        refine Civil_L1 h1 h2 h3 h4 e m y' (by omega) (by omega) a b ?_
        have : (2 : Int) ^ (e + 1) = (st : Int) := by rw [← hst]; push_cast; rfl
        rw [this]; exact c
    rw [dates_Civil_L1, if_pos (by omega), ck (by omega) (by omega)]
    by_cases hc : y + (st : Int) ≤ 4000
    · rw [if_pos hc, ck (by omega) (by omega), day_ok (by omega) (by omega) (by omega) (by omega) (by omega) (by omega), bsome, bsome, dn_y]
      by_cases hd : ys (y + st) + 1 - 1 ≤ n
      · rw [decide_eq_true hd, if_pos rfl, ck (by omega) (by omega)]
        refine hnext (y + st) (by omega) ?_ (by omega)
        rcases Int.lt_or_le y0 (y + st) with hx | hx
        · have := ys_le (a := y0 + 1) (b := y + st) (by omega); omega
        · exact hx
      · rw [decide_eq_false hd, if_neg Bool.false_ne_true]
        refine hnext y hy hy0 ?_
        rcases Int.lt_or_le y0 (y + st) with hx | hx
        · exact hx
        · have := ys_le (a := y + st) (b := y0) hx; omega
    · rw [if_neg hc, bsome, if_neg Bool.false_ne_true]
      exact hnext y hy hy0 (by omega)
theorem cum_le (y : Int) {a b : Nat} (h : a ≤ b) (hb : b ≤ 12) : cum y a ≤ cum y b := by
  obtain ⟨k, rfl⟩ : ∃ k : Nat, b = a + k := ⟨b - a, by omega⟩
  clear h
  induction k with
  | zero => exact Int.le_refl _
  | succ k ih =>
    have := ih (by omega)
    have h2 := ml_bd (y := y) (m := ((a + k : Nat) : Int) + 1) (by omega) (by omega)
    have e : cum y (a + (k + 1)) = cum y (a + k) + ml y (((a + k : Nat) : Int) + 1) := rfl
    rw [e]; omega
theorem month_ex {y r : Int} (h1 : 0 ≤ r) : ∀ k : Nat, r < cum y k → ∃ j : Nat, j < k ∧ cum y j ≤ r ∧ r < cum y (j + 1)
  | 0, h => by simp [cum] at h; omega
  | k + 1, h => by
    by_cases hk : r < cum y k
    · obtain ⟨j, a, b, c⟩ := month_ex h1 k hk
      exact ⟨j, by omega, b, c⟩
    · exact ⟨k, by omega, by omega, h⟩
theorem dn_m (y d : Int) (j : Nat) : dn y ((j : Int) + 1) d = ys y + cum y j + d - 1 := by
  unfold dn ys
  have : ((j : Int) + 1 - 1).toNat = j := by omega
  rw [this]; omega
theorem Civil_L2 {n y : Int} {j : Nat} (hy : 1 ≤ y) (hy2 : y ≤ 4000) (h1 : ys y + cum y j ≤ n) (h2 : n < ys y + cum y (j + 1)) : ∀ (i m : Nat), i < m → j + i ≤ 11 → dates_Civil_L2 n y m ((j + i : Nat) + 1 : Int) = some ((j : Int) + 1)
  | i, 0, h, _ => by omega
  | 0, m + 1, h, h3 => by
    rw [dates_Civil_L2, day_ok hy (by omega) (by omega) (by omega) (by omega) (by omega), bsome, dn_m, if_neg (by simp; omega)]
    simp
  | i + 1, m + 1, h, h3 => by
    have hc := cum_le y (a := j + 1) (b := j + (i + 1)) (by omega) (by omega)
    rw [dates_Civil_L2, day_ok hy (by omega) (by omega) (by omega) (by omega) (by omega), bsome, dn_m, if_pos (by omega), ck (by omega) (by omega)]
    have e : (((j + (i + 1) : Nat) : Int) + 1 - 1) = ((j + i : Nat) : Int) + 1 := by omega
    rw [e]
    exact Civil_L2 hy hy2 h1 h2 i m (by omega) (by omega)
theorem cum_12 (y : Int) : ys y + cum y 12 = ys (y + 1) := by
  have := bef_succ y
  unfold ys
  have e : cum y 12 = 365 + (if lpB y = true then 1 else 0) := by
    simp only [cum, ml, mls]
    cases lpB y <;> decide
  rw [e]; omega
theorem rem_pos {x b : Int} (hb : 0 < b) : rem x b = some (x.tmod b) := by unfold rem; rw [if_neg (by omega)]
theorem quo_mul {x b : Int} (hb : 0 < b) (h1 : -1000000000000 ≤ x) (h2 : x ≤ 1000000000000) : quo (b * x) b = some x := by
  unfold quo; rw [if_neg (by omega), Int.mul_tdiv_cancel_left _ (by omega)]; exact chk_ok (by omega) (by omega)
abbrev DT := Int × Int × Int × Int × Int × Int × Int
theorem civil_inst (p : DT) (h : okD p) (ht1 : -68719476736 ≤ inst p) (ht2 : inst p ≤ 68719476736) : dates_Civil (inst p) p.2.2.2.2.2.2 = some (p, (0, 0)) := by
  obtain ⟨y, m, d, hh, mm, ss, z⟩ := p
  obtain ⟨h1, h2, h3, h4, h5, h6, h7⟩ := h
  simp only at h1 h2 h3 h4 h5 h6 h7 ht1 ht2 ⊢
  have hm := ml_bd (y := y) h2.1 h2.2
  obtain ⟨j, hj⟩ : ∃ j : Nat, m = (j : Int) + 1 := ⟨(m - 1).toNat, by omega⟩
  subst hj
  have hT : basic_Time (inst (y, (j : Int) + 1, d, hh, mm, ss, z)) = some true := by
    unfold basic_Time
    rw [if_pos ht1, bsome, decide_eq_true ht2]
  have hW : dates_within z (-900) 900 = some true := by rw [within_eq, decide_eq_true ⟨h7.1, h7.2⟩]
  have hdn : dn y ((j : Int) + 1) d = ys y + cum y j + d - 1 := dn_m y d j
  have ec : cum y (j + 1) = cum y j + ml y ((j : Int) + 1) := rfl
  have hcb := cum_bd y j (by omega)
  have hcl := cum_le y (a := j + 1) (b := 12) (by omega) (by omega)
  have h12 := cum_12 y
  have hyb := bef_bd (y := y) (by omega) (by omega)
  have hyb' := bef_bd (y := 1970) (by omega) (by omega)
  have hys : bef y - bef 1970 = ys y := rfl
  have hx : inst (y, (j : Int) + 1, d, hh, mm, ss, z) + 60 * z = 86400 * (ys y + cum y j + d - 1) + (hh * 3600 + mm * 60 + ss) := by
    unfold inst; simp only; rw [hdn]; omega
  have hsp : dates_split (inst (y, (j : Int) + 1, d, hh, mm, ss, z) + 60 * z) 86400 = some (ys y + cum y j + d - 1, hh * 3600 + mm * 60 + ss) := by
    rw [split_ok (by omega) (by omega) (by omega) (by omega), hx]
    have e1 : (86400 * (ys y + cum y j + d - 1) + (hh * 3600 + mm * 60 + ss)) / 86400 = ys y + cum y j + d - 1 := by omega
    have e2 : (86400 * (ys y + cum y j + d - 1) + (hh * 3600 + mm * 60 + ss)) % 86400 = hh * 3600 + mm * 60 + ss := by omega
    rw [e1, e2]
  have d1 : dates_day 1 1 1 = some (ys 1) := by rw [day_ok (by omega) (by omega) (by omega) (by omega) (by omega) (by omega), dn_y]; congr 1
  have d2 : dates_day 4000 12 31 = some (ys 4001 - 1) := by
    rw [day_ok (by omega) (by omega) (by omega) (by omega) (by omega) (by omega)]; rfl
  have l1 := ys_le (a := 1) (b := y) h1.1
  have l2 := ys_le (a := y + 1) (b := 4001) (by omega)
  have c1 : dates_Civil_L1 (ys y + cum y j + d - 1) FU 1 2048 = some y := Civil_L1 h1.1 h1.2 (by omega) (by omega) 11 FU 1 (fu_lt (by omega)) (by omega) (by omega) h1.1 (by omega)
  have c2 : dates_Civil_L2 (ys y + cum y j + d - 1) y FU 12 = some ((j : Int) + 1) := by
    have := Civil_L2 (n := ys y + cum y j + d - 1) (y := y) (j := j) h1.1 h1.2 (by omega) (by omega) (11 - j) FU (fu_lt (by omega)) (by omega)
    rw [show ((j + (11 - j) : Nat) : Int) + 1 = 12 by omega] at this
    exact this
  unfold dates_Civil
  rw [hT, bsome, if_pos rfl, hW, bsome, if_pos rfl, ck (by omega) (by omega), ck (by omega) (by omega), hsp, bsome]
  simp only
  rw [d1, bsome, if_neg (by omega), d2, bsome, decide_eq_false (by omega), bsome, if_neg Bool.false_ne_true, c1, bsome, c2, bsome, day_ok h1.1 (by omega) (by omega) (by omega) (by omega) (by omega), bsome, dn_m, ck (by omega) (by omega), ck (by omega) (by omega), quo_nn (by omega) (by omega) (by omega), bsome, quo_nn (by omega) (by omega) (by omega), bsome, rem_nn (by omega) (by omega), bsome, rem_nn (by omega) (by omega), bsome, show basic_None = some (0, 0) from rfl, bsome]
  have q1 : ys y + cum y j + d - 1 - (ys y + cum y j + 1 - 1) + 1 = d := by omega
  have q2 : (hh * 3600 + mm * 60 + ss) / 3600 = hh := by omega
  have q3 : (hh * 3600 + mm * 60 + ss) / 60 % 60 = mm := by omega
  have q4 : (hh * 3600 + mm * 60 + ss) % 60 = ss := by omega
  rw [q1, q2, q3, q4]
theorem inR_eq (a b c : Int) : R_In a b c = some (decide (b ≤ a ∧ a ≤ c)) := by
  unfold R_In
  by_cases h : b ≤ a
  · rw [if_pos h, bsome]; simp [h]
  · rw [if_neg h, bsome]; simp [h]
theorem law_RoundTrip (p : DT) : L_DatesRoundTrip p = some true := by
  unfold L_DatesRoundTrip
  rw [dates_example, bsome, if_pos rfl, show ((p.1, p.2.1, p.2.2.1, p.2.2.2.1, p.2.2.2.2.1, p.2.2.2.2.2.1, p.2.2.2.2.2.2) : DT) = p from rfl, Instant_ok]
  by_cases h : okD p
  · rw [if_pos h, bsome]
    simp only [if_true]
    rw [inR_eq, bsome]
    by_cases ht : -68719476736 ≤ inst p ∧ inst p ≤ 68719476736
    · rw [if_pos (decide_eq_true ht), civil_inst p h ht.1 ht.2, bsome]
      simp only [if_true, and_self, decide_true, bsome]
    · rw [if_neg (by simpa using ht)]
  · rw [if_neg h]; rfl
theorem dn_lt {y y' m m' d d' : Int} (h1 : 1 ≤ y) (h1' : 1 ≤ y') (h2 : 1 ≤ m ∧ m ≤ 12) (h2' : 1 ≤ m' ∧ m' ≤ 12) (h3 : 1 ≤ d ∧ d ≤ ml y m) (h3' : 1 ≤ d' ∧ d' ≤ ml y' m') (h : y < y' ∨ (y = y' ∧ (m < m' ∨ (m = m' ∧ d < d')))) : dn y m d < dn y' m' d' := by
  obtain ⟨j, rfl⟩ : ∃ j : Nat, m = (j : Int) + 1 := ⟨(m - 1).toNat, by omega⟩
  obtain ⟨j', rfl⟩ : ∃ j : Nat, m' = (j : Int) + 1 := ⟨(m' - 1).toNat, by omega⟩
  rw [dn_m, dn_m]
  have ec : cum y (j + 1) = cum y j + ml y ((j : Int) + 1) := rfl
  have hcl := cum_le y (a := j + 1) (b := 12) (by omega) (by omega)
  have h12 := cum_12 y
  have hcb := cum_bd y' j' (by omega)
  rcases h with h | ⟨rfl, h | ⟨h, h'⟩⟩
  · have := ys_le (a := y + 1) (b := y') (by omega)
    omega
  · have := cum_le y (a := j + 1) (b := j') (by omega) (by omega)
    omega
  · obtain rfl : j = j' := by omega
    omega
/-- earlier -/
def bfr (a b : DT) : Prop := a.1 < b.1 ∨ a.1 = b.1 ∧ (a.2.1 < b.2.1 ∨ a.2.1 = b.2.1 ∧ (a.2.2.1 < b.2.2.1 ∨ a.2.2.1 = b.2.2.1 ∧ (a.2.2.2.1 < b.2.2.2.1 ∨ a.2.2.2.1 = b.2.2.2.1 ∧ (a.2.2.2.2.1 < b.2.2.2.2.1 ∨ a.2.2.2.2.1 = b.2.2.2.2.1 ∧ (a.2.2.2.2.2.1 < b.2.2.2.2.2.1)))))
instance (a b : DT) : Decidable (bfr a b) := by unfold bfr; infer_instance
theorem inst_bfr (a b : DT) (ha : okD a) (hb : okD b) (hz : a.2.2.2.2.2.2 = b.2.2.2.2.2.2) : bfr a b ↔ inst a < inst b := by
  obtain ⟨y, m, d, hh, mm, ss, z⟩ := a
  obtain ⟨y', m', d', hh', mm', ss', z'⟩ := b
  obtain ⟨h1, h2, h3, h4, h5, h6, h7⟩ := ha
  obtain ⟨k1, k2, k3, k4, k5, k6, k7⟩ := hb
  simp only at h1 h2 h3 h4 h5 h6 h7 k1 k2 k3 k4 k5 k6 k7 hz
  subst hz
  have L := dn_lt (y := y) (y' := y') (m := m) (m' := m') (d := d) (d' := d') h1.1 k1.1 h2 k2 h3 k3
  have R := dn_lt (y := y') (y' := y) (m := m') (m' := m) (d := d') (d' := d) k1.1 h1.1 k2 h2 k3 h3
  have E : y = y' → m = m' → d = d' → dn y m d = dn y' m' d' := fun a b c => by rw [a, b, c]
  unfold bfr inst
  simp only
  generalize dn y m d = A at *
  generalize dn y' m' d' = B at *
  clear h3 k3
  rcases Int.lt_trichotomy y y' with q | q | q
  · have := L (.inl q); omega
  · rcases Int.lt_trichotomy m m' with r | r | r
    · have := L (.inr ⟨q, .inl r⟩); omega
    · rcases Int.lt_trichotomy d d' with s | s | s
      · have := L (.inr ⟨q, .inr ⟨r, s⟩⟩); omega
      · have := E q r s; omega
      · have := R (.inr ⟨q.symm, .inr ⟨r.symm, s⟩⟩); omega
    · have := R (.inr ⟨q.symm, .inl r⟩); omega
  · have := R (.inl q); omega
theorem order_step (a b : DT) (i : Nat) (x y : Int) (hx : ([a.1, a.2.1, a.2.2.1, a.2.2.2.1, a.2.2.2.2.1, a.2.2.2.2.2.1] : List Int)[i]? = some x) (hy : ([b.1, b.2.1, b.2.2.1, b.2.2.2.1, b.2.2.2.2.1, b.2.2.2.2.2.1] : List Int)[i]? = some y) (hi : i ≤ 5) (m : Nat) (c : Bool) :
    L_DatesOrder_L1 a b (m + 1) c ((i : Nat) : Int) = L_DatesOrder_L1 a b m (decide (x < y ∨ x = y ∧ c = true)) ((i : Int) - 1) := by
  rw [L_DatesOrder_L1, if_pos (by omega), idx_nat, hx, bsome, idx_nat, hy, bsome]
  by_cases h : x < y
  · rw [if_pos h, bsome, ck (by omega) (by omega), decide_eq_true (.inl h)]
  · rw [if_neg h, bsome, bsome]
    by_cases h2 : x = y
    · rw [if_pos h2, bsome, ck (by omega) (by omega)]
      congr 1
      cases c <;> simp [h, h2]
    · rw [if_neg h2, bsome, ck (by omega) (by omega)]
      congr 1
      simp [h, h2]
theorem order_loop (a b : DT) : L_DatesOrder_L1 a b FU false 5 = some (decide (bfr a b)) := by
  rw [show FU = 18446744073709551609 + 1 + 1 + 1 + 1 + 1 + 1 + 1 from rfl]
  have s5 := order_step a b 5 _ _ rfl rfl (by omega)
  have s4 := order_step a b 4 _ _ rfl rfl (by omega)
  have s3 := order_step a b 3 _ _ rfl rfl (by omega)
  have s2 := order_step a b 2 _ _ rfl rfl (by omega)
  have s1 := order_step a b 1 _ _ rfl rfl (by omega)
  have s0 := order_step a b 0 _ _ rfl rfl (by omega)
  rw [show (5 : Int) = ((5 : Nat) : Int) from rfl, s5, show (((5 : Nat) : Int) - 1) = ((4 : Nat) : Int) from rfl, s4, show (((4 : Nat) : Int) - 1) = ((3 : Nat) : Int) from rfl, s3, show (((3 : Nat) : Int) - 1) = ((2 : Nat) : Int) from rfl, s2, show (((2 : Nat) : Int) - 1) = ((1 : Nat) : Int) from rfl, s1, show (((1 : Nat) : Int) - 1) = ((0 : Nat) : Int) from rfl, s0, L_DatesOrder_L1, if_neg (by omega)]
  congr 1
  unfold bfr
  apply decide_eq_decide.2
  simp only [decide_eq_true_eq, Bool.false_eq_true, and_false, or_false]
theorem law_Order (a b : DT) : L_DatesOrder a b = some true := by
  unfold L_DatesOrder
  rw [dates_example, bsome, if_pos rfl, show ((a.1, a.2.1, a.2.2.1, a.2.2.2.1, a.2.2.2.2.1, a.2.2.2.2.2.1, a.2.2.2.2.2.2) : DT) = a from rfl, show ((b.1, b.2.1, b.2.2.1, b.2.2.2.1, b.2.2.2.2.1, b.2.2.2.2.2.1, b.2.2.2.2.2.2) : DT) = b from rfl, Instant_ok, Instant_ok, order_loop]
  by_cases ha : okD a
  · rw [if_pos ha, bsome]
    by_cases hb : okD b
    · rw [if_pos hb]
      simp only [if_true, bsome, decide_true, Bool.not_true, Bool.false_eq_true, if_false]
      have hc : okD (b.1, b.2.1, b.2.2.1, b.2.2.2.1, b.2.2.2.2.1, b.2.2.2.2.2.1, a.2.2.2.2.2.2) := ⟨hb.1, hb.2.1, hb.2.2.1, hb.2.2.2.1, hb.2.2.2.2.1, hb.2.2.2.2.2.1, ha.2.2.2.2.2.2⟩
      rw [Instant_ok, if_pos hc, bsome]
      simp only [if_true]
      have e1 : bfr a b ↔ inst a < inst (b.1, b.2.1, b.2.2.1, b.2.2.2.1, b.2.2.2.2.1, b.2.2.2.2.2.1, a.2.2.2.2.2.2) := inst_bfr a (b.1, b.2.1, b.2.2.1, b.2.2.2.1, b.2.2.2.2.1, b.2.2.2.2.2.1, a.2.2.2.2.2.2) ha hc rfl
      rw [if_pos (decide_eq_decide.2 e1), bsome]
      congr 1
      apply decide_eq_true
      apply decide_eq_decide.2
      unfold inst
      simp only
      omega
    · rw [if_neg hb]; rfl
  · rw [if_neg ha, bsome]
    by_cases hb : okD b
    · rw [if_pos hb]; rfl
    · rw [if_neg hb]; rfl
end Go.Ph.Pf
