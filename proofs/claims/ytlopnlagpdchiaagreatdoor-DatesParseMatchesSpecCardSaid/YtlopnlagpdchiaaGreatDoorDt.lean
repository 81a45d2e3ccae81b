/-
  Dates: what the program and the document compute. Plain.
-/
import Derived.Test.YtlopnlagpdchiaaGreatDoorDpf
set_option linter.unusedVariables false
set_option linter.unusedSimpArgs false
namespace Go.Ph.Pf
open Go.Ph.Pl
theorem dates_example : L_datesExample = some true := by decide +kernel
theorem bs {α β : Type} {x : Option α} {a : α} {f : α → Option β} (h : x = some a) : x.bind f = f a := by rw [h]; rfl
theorem ck {x : Int} (h1 : -9223372036854775808 ≤ x) (h2 : x ≤ 9223372036854775807) {β : Type} {f : Int → Option β} : (chk x).bind f = f x := bs (chk_ok h1 h2)
theorem quo_nn {a b : Int} (h0 : 0 ≤ a) (h1 : a ≤ 9223372036854775807) (hb : 0 < b) : quo a b = some (a / b) := by
  unfold quo
  rw [if_neg (by omega), Int.tdiv_eq_ediv_of_nonneg h0]
  have h2 : 0 ≤ a / b := Int.ediv_nonneg h0 (by omega)
  have h3 : a / b ≤ a := Int.ediv_le_self _ h0
  exact chk_ok (by omega) (by omega)
theorem rem_nn {a b : Int} (h0 : 0 ≤ a) (hb : 0 < b) : rem a b = some (a % b) := by
  unfold rem
  rw [if_neg (by omega), Int.tmod_eq_emod_of_nonneg h0]
/-- days of the years before y -/
def bef (y : Int) : Int := 365 * (y - 1) + (y - 1) / 4 - (y - 1) / 100 + (y - 1) / 400
def lpB (y : Int) : Bool := decide (y % 4 = 0 ∧ (¬ y % 100 = 0 ∨ y % 400 = 0))
theorem bef_succ (y : Int) : bef (y + 1) = bef y + 365 + (if lpB y = true then 1 else 0) := by
  unfold bef lpB
  by_cases h : y % 4 = 0 ∧ (¬ y % 100 = 0 ∨ y % 400 = 0)
  · rw [if_pos (by simpa using h)]; omega
  · rw [if_neg (by simpa using h)]; omega
theorem leap_ok {y : Int} (h : 0 ≤ y) : dates_leap y = some (lpB y) := by
  unfold dates_leap lpB
  rw [rem_nn h (by omega), bsome]
  by_cases h4 : y % 4 = 0
  · rw [if_pos h4, rem_nn h (by omega), bsome]
    by_cases h100 : y % 100 = 0
    · rw [if_pos h100, rem_nn h (by omega), bsome, bsome]; simp [h4, h100]
    · rw [if_neg h100, bsome]; simp [h4, h100]
  · rw [if_neg h4, bsome]; simp [h4]
theorem Leap_ok {y : Int} (h : 0 ≤ y) : R_Leap y = some (lpB y) := by
  unfold R_Leap lpB
  rw [rem_nn h (by omega), bsome]
  by_cases h4 : y % 4 = 0
  · rw [if_pos h4, rem_nn h (by omega), bsome]
    by_cases h100 : y % 100 = 0
    · rw [if_pos h100, rem_nn h (by omega), bsome, bsome]; simp [h4, h100]
    · rw [if_neg h100, bsome]; simp [h4, h100]
  · rw [if_neg h4, rem_nn h (by omega), bsome, bsome]
    have : ¬ y % 400 = 0 := by omega
    simp [h4, this]
def mls : List Int := [31, 28, 31, 30, 31, 30, 31, 31, 30, 31, 30, 31]
/-- days of a month -/
def ml (y m : Int) : Int := if m = 2 ∧ lpB y = true then 29 else mls.getD (m - 1).toNat 0
theorem m12 {m : Int} (h1 : 1 ≤ m) (h2 : m ≤ 12) : m = 1 ∨ m = 2 ∨ m = 3 ∨ m = 4 ∨ m = 5 ∨ m = 6 ∨ m = 7 ∨ m = 8 ∨ m = 9 ∨ m = 10 ∨ m = 11 ∨ m = 12 := by omega
theorem ml_bd {y m : Int} (h1 : 1 ≤ m) (h2 : m ≤ 12) : 28 ≤ ml y m ∧ ml y m ≤ 31 := by
  unfold ml
  split
  · omega
  · rcases m12 h1 h2 with rfl | rfl | rfl | rfl | rfl | rfl | rfl | rfl | rfl | rfl | rfl | rfl <;> decide
theorem length_ok {y m : Int} (h : 0 ≤ y) (h1 : 1 ≤ m) (h2 : m ≤ 12) : dates_length y m = some (ml y m) := by
  unfold dates_length ml
  rw [leap_ok h]
  rcases m12 h1 h2 with rfl | rfl | rfl | rfl | rfl | rfl | rfl | rfl | rfl | rfl | rfl | rfl <;> cases lpB y <;> rfl
theorem MonthDays_ok {y m : Int} (h : 0 ≤ y) (h1 : 1 ≤ m) (h2 : m ≤ 12) : R_MonthDays y m = some (ml y m) := by
  unfold R_MonthDays ml
  rw [Leap_ok h]
  rcases m12 h1 h2 with rfl | rfl | rfl | rfl | rfl | rfl | rfl | rfl | rfl | rfl | rfl | rfl <;> cases lpB y <;> rfl
theorem before_ok {y : Int} (h1 : 1 ≤ y) (h2 : y ≤ 5000) : dates_before y = some (bef y) := by
  unfold dates_before bef
  rw [ck (by omega) (by omega), ck (by omega) (by omega), quo_nn (by omega) (by omega) (by omega), bsome, ck (by omega) (by omega), quo_nn (by omega) (by omega) (by omega), bsome, ck (by omega) (by omega), quo_nn (by omega) (by omega) (by omega), bsome, ck (by omega) (by omega)]
/-- days of the months before m -/
def cum (y : Int) : Nat → Int
  | 0 => 0
  | k + 1 => cum y k + ml y (k + 1)
theorem cum_bd (y : Int) : ∀ k : Nat, k ≤ 12 → 28 * k ≤ cum y k ∧ cum y k ≤ 31 * k
  | 0, _ => by simp [cum]
  | k + 1, h => by
    have := cum_bd y k (by omega)
    have := ml_bd (y := y) (m := (k : Int) + 1) (by omega) (by omega)
    rw [cum]; omega
theorem bef_bd {y : Int} (h1 : 1 ≤ y) (h2 : y ≤ 5000) : 0 ≤ bef y ∧ bef y ≤ 2000000 := by unfold bef; omega
theorem day_L1 {y : Int} (hy : 0 ≤ y) (p1 : Int) (h2 : p1 ≤ 12) : ∀ (j k : Nat) (a : Int) (m : Nat), (k : Int) + 1 + j = p1 → j < m → -100000000 ≤ a - cum y k → a - cum y k ≤ 100000000 → dates_day_L1 y p1 m a (k + 1 : Int) = some (a - cum y k + cum y (k + j))
  | 0, k, a, m + 1, hk, hm, ha, hb => by
    rw [dates_day_L1, if_neg (by omega)]
    congr 1; simp
  | j + 1, k, a, m + 1, hk, hm, ha, hb => by
    have hb2 := ml_bd (y := y) (m := (k : Int) + 1) (by omega) (by omega)
    have hc := cum_bd y k (by omega)
    have ec : cum y (k + 1) = cum y k + ml y ((k : Int) + 1) := rfl
    have ih := day_L1 hy p1 h2 j (k + 1) (a + ml y ((k : Int) + 1)) m (by omega) (by omega) (by omega) (by omega)
    rw [dates_day_L1, if_pos (by omega), length_ok hy (by omega) (by omega), bsome, ck (by omega) (by omega), ck (by omega) (by omega)]
    have e : ((k : Int) + 1 + 1) = ((k + 1 : Nat) : Int) + 1 := by omega
    rw [e, ih]
    have e2 : k + 1 + j = k + (j + 1) := by omega
    rw [e2, ec]
    congr 1; omega
  | 0, _, _, 0, _, h, _, _ => by omega
  | _ + 1, _, _, 0, _, h, _, _ => by omega
/-- the number of a day -/
def dn (y m d : Int) : Int := bef y - bef 1970 + d - 1 + cum y (m - 1).toNat
theorem fu_lt {j : Nat} (h : j ≤ 18446744073709551615) : j < FU := by unfold FU; omega
theorem day_ok {y m d : Int} (h1 : 1 ≤ y) (h2 : y ≤ 5000) (h3 : 1 ≤ m) (h4 : m ≤ 12) (h5 : -10000 ≤ d) (h6 : d ≤ 10000) : dates_day y m d = some (dn y m d) := by
  have hb := bef_bd h1 h2
  have hb' := bef_bd (y := 1970) (by omega) (by omega)
  unfold dates_day dn
  rw [before_ok h1 h2, bsome, before_ok (by omega) (by omega), bsome, ck (by omega) (by omega), ck (by omega) (by omega), ck (by omega) (by omega)]
  have := day_L1 (y := y) (by omega) m h4 (m - 1).toNat 0 (bef y - bef 1970 + d - 1) FU (by omega) (fu_lt (by omega)) (by simp [cum]; omega) (by simp [cum]; omega)
  rw [show ((0 : Nat) : Int) + 1 = 1 from rfl] at this
  rw [this, bsome]
  simp [cum]
theorem YS_L1 {y : Int} (hy : y ≤ 5000) : ∀ (j : Nat) (k a : Int) (m : Nat), k + j = y → j < m → 1 ≤ k → -1000000000 ≤ a - j → a + j ≤ 1000000000 → R_YearStart_L1 y m a k = some (a + (bef y - bef k) - 365 * j)
  | 0, k, a, m + 1, hk, hm, h0, ha, hb => by
    have : k = y := by omega
    subst this
    rw [R_YearStart_L1, if_neg (by omega)]
    congr 1; omega
  | j + 1, k, a, m + 1, hk, hm, h0, ha, hb => by
    have hs := bef_succ k
    rw [R_YearStart_L1, if_pos (by omega), Leap_ok (by omega), bsome]
    cases hl : lpB k with
    | true =>
      rw [hl, if_pos rfl] at hs
      rw [if_pos rfl, ck (by omega) (by omega), ck (by omega) (by omega), YS_L1 hy j (k + 1) (a + 1) m (by omega) (by omega) (by omega) (by omega) (by omega)]
      congr 1; omega
    | false =>
      rw [hl, if_neg Bool.false_ne_true] at hs
      rw [if_neg Bool.false_ne_true, ck (by omega) (by omega), YS_L1 hy j (k + 1) a m (by omega) (by omega) (by omega) (by omega) (by omega)]
      congr 1; omega
  | 0, _, _, 0, _, h, _, _, _ => by omega
  | _ + 1, _, _, 0, _, h, _, _, _ => by omega
theorem YS_L2 : ∀ (j : Nat) (k a : Int) (m : Nat), k + j = 1970 → j < m → 1 ≤ k → -1000000000 ≤ a - j → a + j ≤ 1000000000 → R_YearStart_L2 m a k = some (a - (bef 1970 - bef k) + 365 * j)
  | 0, k, a, m + 1, hk, hm, h0, ha, hb => by
    have : k = 1970 := by omega
    subst this
    rw [R_YearStart_L2, if_neg (by omega)]
    congr 1; omega
  | j + 1, k, a, m + 1, hk, hm, h0, ha, hb => by
    have hs := bef_succ k
    rw [R_YearStart_L2, if_pos (by omega), Leap_ok (by omega), bsome]
    cases hl : lpB k with
    | true =>
      rw [hl, if_pos rfl] at hs
      rw [if_pos rfl, ck (by omega) (by omega), ck (by omega) (by omega), YS_L2 j (k + 1) (a - 1) m (by omega) (by omega) (by omega) (by omega) (by omega)]
      congr 1; omega
    | false =>
      rw [hl, if_neg Bool.false_ne_true] at hs
      rw [if_neg Bool.false_ne_true, ck (by omega) (by omega), YS_L2 j (k + 1) a m (by omega) (by omega) (by omega) (by omega) (by omega)]
      congr 1; omega
  | 0, _, _, 0, _, h, _, _, _ => by omega
  | _ + 1, _, _, 0, _, h, _, _, _ => by omega
theorem YearStart_ok {y : Int} (h1 : 1 ≤ y) (h2 : y ≤ 5000) : R_YearStart y = some (bef y - bef 1970) := by
  have hfu : FU = 18446744073709551615 + 1 := rfl
  unfold R_YearStart
  rw [ck (by omega) (by omega), ck (by omega) (by omega)]
  by_cases h : y < 1970
  · have e1 : R_YearStart_L1 y FU (365 * (y - 1970)) 1970 = some (365 * (y - 1970)) := by rw [hfu, R_YearStart_L1, if_neg (by omega)]
    rw [e1, bsome, YS_L2 (1970 - y).toNat y (365 * (y - 1970)) FU (by omega) (fu_lt (by omega)) (by omega) (by omega) (by omega), bsome]
    congr 1; omega
  · rw [YS_L1 h2 (y - 1970).toNat 1970 (365 * (y - 1970)) FU (by omega) (fu_lt (by omega)) (by omega) (by omega) (by omega), bsome]
    have e2 : ∀ a, R_YearStart_L2 FU a y = some a := fun a => by rw [hfu, R_YearStart_L2, if_neg (by omega)]
    rw [e2, bsome]
    congr 1; omega
theorem DN_L1 {y : Int} (hy : 0 ≤ y) (p1 : Int) (h2 : p1 ≤ 12) : ∀ (j k : Nat) (a : Int) (m : Nat), (k : Int) + 1 + j = p1 → j < m → -100000000 ≤ a - cum y k → a - cum y k ≤ 100000000 → R_DayNumber_L1 y p1 m a (k + 1 : Int) = some (a - cum y k + cum y (k + j))
  | 0, k, a, m + 1, hk, hm, ha, hb => by
    rw [R_DayNumber_L1, if_neg (by omega)]
    congr 1; simp
  | j + 1, k, a, m + 1, hk, hm, ha, hb => by
    have hb2 := ml_bd (y := y) (m := (k : Int) + 1) (by omega) (by omega)
    have hc := cum_bd y k (by omega)
    have ec : cum y (k + 1) = cum y k + ml y ((k : Int) + 1) := rfl
    have ih := DN_L1 hy p1 h2 j (k + 1) (a + ml y ((k : Int) + 1)) m (by omega) (by omega) (by omega) (by omega)
    rw [R_DayNumber_L1, if_pos (by omega), MonthDays_ok hy (by omega) (by omega), bsome, ck (by omega) (by omega), ck (by omega) (by omega)]
    have e : ((k : Int) + 1 + 1) = ((k + 1 : Nat) : Int) + 1 := by omega
    rw [e, ih]
    have e2 : k + 1 + j = k + (j + 1) := by omega
    rw [e2, ec]
    congr 1; omega
  | 0, _, _, 0, _, h, _, _ => by omega
  | _ + 1, _, _, 0, _, h, _, _ => by omega
theorem DayNumber_ok {y m d : Int} (h1 : 1 ≤ y) (h2 : y ≤ 5000) (h3 : 1 ≤ m) (h4 : m ≤ 12) (h5 : -10000 ≤ d) (h6 : d ≤ 10000) : R_DayNumber y m d = some (dn y m d) := by
  have hb := bef_bd h1 h2
  have hb' := bef_bd (y := 1970) (by omega) (by omega)
  unfold R_DayNumber dn
  rw [YearStart_ok h1 h2, bsome, ck (by omega) (by omega), ck (by omega) (by omega)]
  have := DN_L1 (y := y) (by omega) m h4 (m - 1).toNat 0 (bef y - bef 1970 + d - 1) FU (by omega) (fu_lt (by omega)) (by simp [cum]; omega) (by simp [cum]; omega)
  rw [show ((0 : Nat) : Int) + 1 = 1 from rfl] at this
  rw [this, bsome]
  simp [cum]
theorem dn_bd {y m d : Int} (h1 : 1 ≤ y) (h2 : y ≤ 5000) (h3 : 1 ≤ m) (h4 : m ≤ 12) (h5 : -10000 ≤ d) (h6 : d ≤ 10000) : -3000000 ≤ dn y m d ∧ dn y m d ≤ 3000000 := by
  have hb := bef_bd h1 h2
  have hb' := bef_bd (y := 1970) (by omega) (by omega)
  have := cum_bd y (m - 1).toNat (by omega)
  unfold dn; omega
/-- a date that is right -/
abbrev okD (p : Int × Int × Int × Int × Int × Int × Int) : Prop :=
  (1 ≤ p.1 ∧ p.1 ≤ 4000) ∧ (1 ≤ p.2.1 ∧ p.2.1 ≤ 12) ∧ (1 ≤ p.2.2.1 ∧ p.2.2.1 ≤ ml p.1 p.2.1) ∧ (0 ≤ p.2.2.2.1 ∧ p.2.2.2.1 ≤ 23) ∧ (0 ≤ p.2.2.2.2.1 ∧ p.2.2.2.2.1 ≤ 59) ∧ (0 ≤ p.2.2.2.2.2.1 ∧ p.2.2.2.2.2.1 ≤ 59) ∧ (-900 ≤ p.2.2.2.2.2.2 ∧ p.2.2.2.2.2.2 ≤ 900)
theorem within_eq (a b c : Int) : dates_within a b c = some (decide (b ≤ a ∧ a ≤ c)) := by
  unfold dates_within
  by_cases h : b ≤ a
  · rw [if_pos h, bsome]; simp [h]
  · rw [if_neg h, bsome]; simp [h]
theorem In_eq (a b c : Int) : R_In a b c = some (decide (b ≤ a ∧ a ≤ c)) := by
  unfold R_In
  by_cases h : b ≤ a
  · rw [if_pos h, bsome]; simp [h]
  · rw [if_neg h, bsome]; simp [h]
theorem ifs {α : Type} {p : Prop} [Decidable p] {a b : α} : (if decide p = true then a else b) = if p then a else b := by by_cases h : p <;> simp [h]
theorem Validate_ok (p : Int × Int × Int × Int × Int × Int × Int) : dates_Validate p = some (if okD p then (0, 0) else (3, -3)) := by
  unfold dates_Validate okD basic_None basic_Fault
  simp only [within_eq, bsome, ifs]
  by_cases h1 : 1 ≤ p.1 ∧ p.1 ≤ 4000
  rotate_left
  · simp only [if_neg h1, bsome, h1, false_and, if_false, Bool.false_eq_true]
  by_cases h2 : 1 ≤ p.2.1 ∧ p.2.1 ≤ 12
  rotate_left
  · simp only [if_pos h1, if_neg h2, bsome, h2, false_and, and_false, if_false, Bool.false_eq_true]
  have e : min (max p.2.1 1) 12 = p.2.1 := by omega
  simp only [e, length_ok (y := p.1) (by omega) h2.1 h2.2, bsome, ifs]
  by_cases h3 : 1 ≤ p.2.2.1 ∧ p.2.2.1 ≤ ml p.1 p.2.1
  rotate_left
  · simp only [if_pos h1, if_pos h2, if_neg h3, bsome, h3, false_and, and_false, if_false, Bool.false_eq_true]
  by_cases h4 : 0 ≤ p.2.2.2.1 ∧ p.2.2.2.1 ≤ 23
  rotate_left
  · simp only [if_pos h1, if_pos h2, if_pos h3, if_neg h4, bsome, h4, false_and, and_false, if_false, Bool.false_eq_true]
  by_cases h5 : 0 ≤ p.2.2.2.2.1 ∧ p.2.2.2.2.1 ≤ 59
  rotate_left
  · simp only [if_pos h1, if_pos h2, if_pos h3, if_pos h4, if_neg h5, bsome, h5, false_and, and_false, if_false, Bool.false_eq_true]
  by_cases h6 : 0 ≤ p.2.2.2.2.2.1 ∧ p.2.2.2.2.2.1 ≤ 59
  rotate_left
  · simp only [if_pos h1, if_pos h2, if_pos h3, if_pos h4, if_pos h5, if_neg h6, bsome, h6, false_and, and_false, if_false, Bool.false_eq_true]
  simp only [if_pos h1, if_pos h2, if_pos h3, if_pos h4, if_pos h5, if_pos h6, bsome, ifs]
  by_cases h7 : -900 ≤ p.2.2.2.2.2.2 ∧ p.2.2.2.2.2.2 ≤ 900
  · rw [if_pos h7, if_pos ⟨h1, h2, h3, h4, h5, h6, h7⟩]
  · rw [if_neg h7, if_neg (fun h => h7 h.2.2.2.2.2.2)]
theorem DateFault_ok (p : Int × Int × Int × Int × Int × Int × Int) : R_DateFault p = some (if okD p then (0, 0) else (3, -3)) := by
  unfold R_DateFault okD R_At
  simp only [In_eq, bsome, ifs]
  by_cases h1 : 1 ≤ p.1 ∧ p.1 ≤ 4000
  rotate_left
  · simp only [if_neg h1, bsome, h1, false_and, if_false, if_true]
  by_cases h2 : 1 ≤ p.2.1 ∧ p.2.1 ≤ 12
  rotate_left
  · simp only [if_pos h1, if_neg h2, bsome, h2, false_and, and_false, if_false, if_true]
  simp only [MonthDays_ok (y := p.1) (by omega) h2.1 h2.2, bsome, ifs]
  by_cases h3 : 1 ≤ p.2.2.1 ∧ p.2.2.1 ≤ ml p.1 p.2.1
  rotate_left
  · simp only [if_pos h1, if_pos h2, if_neg h3, bsome, h3, false_and, and_false, if_false, if_true]
  by_cases h4 : 0 ≤ p.2.2.2.1 ∧ p.2.2.2.1 ≤ 23
  rotate_left
  · simp only [if_pos h1, if_pos h2, if_pos h3, if_neg h4, bsome, h4, false_and, and_false, if_false, if_true]
  by_cases h5 : 0 ≤ p.2.2.2.2.1 ∧ p.2.2.2.2.1 ≤ 59
  rotate_left
  · simp only [if_pos h1, if_pos h2, if_pos h3, if_pos h4, if_neg h5, bsome, h5, false_and, and_false, if_false, if_true]
  by_cases h6 : 0 ≤ p.2.2.2.2.2.1 ∧ p.2.2.2.2.2.1 ≤ 59
  rotate_left
  · simp only [if_pos h1, if_pos h2, if_pos h3, if_pos h4, if_pos h5, if_neg h6, bsome, h6, false_and, and_false, if_false, if_true]
  simp only [if_pos h1, if_pos h2, if_pos h3, if_pos h4, if_pos h5, if_pos h6, bsome]
  by_cases h7 : -900 ≤ p.2.2.2.2.2.2 ∧ p.2.2.2.2.2.2 ≤ 900
  · simp only [decide_eq_true h7, Bool.not_true, Bool.false_eq_true, if_false]
    rw [if_pos ⟨h1, h2, h3, h4, h5, h6, h7⟩]
  · simp only [decide_eq_false h7, Bool.not_false, if_true]
    rw [if_neg (fun h => h7 h.2.2.2.2.2.2)]
/-- the instant of a date -/
def inst (p : Int × Int × Int × Int × Int × Int × Int) : Int := dn p.1 p.2.1 p.2.2.1 * 86400 + p.2.2.2.1 * 3600 + (p.2.2.2.2.1 - p.2.2.2.2.2.2) * 60 + p.2.2.2.2.2.1
theorem Instant_ok (p : Int × Int × Int × Int × Int × Int × Int) : dates_Instant p = some (if okD p then (inst p, (0, 0)) else (0, (3, -3))) := by
  unfold dates_Instant basic_Failed basic_None
  rw [Validate_ok]
  by_cases h : okD p
  · obtain ⟨h1, h2, h3, h4, h5, h6, h7⟩ := id h
    have hm := ml_bd (y := p.1) h2.1 h2.2
    have hd := dn_bd (y := p.1) (m := p.2.1) (d := p.2.2.1) h1.1 (by omega) h2.1 h2.2 (by omega) (by omega)
    rw [if_pos h, if_pos h]
    simp only [bsome]
    rw [if_neg (by decide), day_ok h1.1 (by omega) h2.1 h2.2 (by omega) (by omega), bsome, ck (by omega) (by omega), ck (by omega) (by omega), ck (by omega) (by omega), ck (by omega) (by omega), ck (by omega) (by omega), ck (by omega) (by omega), ck (by omega) (by omega)]
    rfl
  · rw [if_neg h, if_neg h]; rfl
theorem split_ok {n b : Int} (h1 : -4000000000000000000 ≤ n) (h2 : n ≤ 4000000000000000000) (hb : 0 < b) (hb2 : b ≤ 1000000) : dates_split n b = some (n / b, n % b) := by
  have hr1 := Int.emod_nonneg n (by omega : b ≠ 0)
  have hr2 := Int.emod_lt_of_pos n hb
  have he : (n.tmod b + b) % b = n % b := by
    rw [Int.add_emod_right]
    rw [Int.tmod_eq_emod]
    split
    · simp
    · rw [show ((b.natAbs : Nat) : Int) = b by omega, show n % b - b = n % b + b * (-1) by omega, Int.add_mul_emod_self_left]
      exact Int.emod_emod_of_dvd n (Int.dvd_refl b)
  have hlt : -b < n.tmod b ∧ n.tmod b < b := by
    rw [Int.tmod_eq_emod]
    split <;> omega
  unfold dates_split rem
  rw [if_neg (by omega), bsome, ck (by omega) (by omega), if_neg (by omega), bsome, Int.tmod_eq_emod_of_nonneg (by omega), he, ck (by omega) (by omega)]
  have hq : n - n % b = b * (n / b) := by have := Int.emod_add_mul_ediv n b; omega
  have hq2 : (n - n % b).tdiv b = n / b := by rw [hq, Int.mul_tdiv_cancel_left _ (by omega)]
  unfold quo
  have hle : -4000000000000000001 ≤ n / b ∧ n / b ≤ 4000000000000000000 := by
    constructor
    · have : n / b ≥ n / b := Int.le_refl _
      rcases Int.lt_or_le n 0 with hn | hn
      · have := Int.le_ediv_of_mul_le hb (a := n) (b := n) (by
          have : n * b ≤ n * 1 := Int.mul_le_mul_of_nonpos_left (by omega) (by omega)
          omega)
        omega
      · have := Int.ediv_nonneg hn (by omega : 0 ≤ b); omega
    · rcases Int.lt_or_le n 0 with hn | hn
      · have := Int.ediv_neg_of_neg_of_pos hn hb; omega
      · have := Int.ediv_le_self b hn; omega
  rw [if_neg (by omega), hq2, chk_ok (by omega) (by omega), bsome]
theorem Weekday_ok (p : Int × Int × Int × Int × Int × Int × Int) : dates_Weekday p = some (if okD p then ((dn p.1 p.2.1 p.2.2.1 + 4) % 7, (0, 0)) else (0, (3, -3))) := by
  unfold dates_Weekday basic_Failed basic_None
  rw [Validate_ok]
  by_cases h : okD p
  · obtain ⟨h1, h2, h3, h4, h5, h6, h7⟩ := id h
    have hm := ml_bd (y := p.1) h2.1 h2.2
    have hd := dn_bd (y := p.1) (m := p.2.1) (d := p.2.2.1) h1.1 (by omega) h2.1 h2.2 (by omega) (by omega)
    rw [if_pos h, if_pos h]
    simp only [bsome]
    rw [if_neg (by decide), day_ok h1.1 (by omega) h2.1 h2.2 (by omega) (by omega), bsome, ck (by omega) (by omega), split_ok (by omega) (by omega) (by omega) (by omega)]
    rfl
  · rw [if_neg h, if_neg h]; rfl
theorem WeekdayOf_ok {y m d : Int} (h1 : 1 ≤ y) (h2 : y ≤ 5000) (h3 : 1 ≤ m) (h4 : m ≤ 12) (h5 : -10000 ≤ d) (h6 : d ≤ 10000) : R_WeekdayOf y m d = some ((dn y m d + 4) % 7) := by
  have hd := dn_bd h1 h2 h3 h4 h5 h6
  unfold R_WeekdayOf rem
  rw [DayNumber_ok h1 h2 h3 h4 h5 h6, bsome, ck (by omega) (by omega), if_neg (by omega), bsome]
  generalize dn y m d + 4 = x at *
  have e : x.tmod 7 = if 0 ≤ x ∨ (7 : Int) ∣ x then x % 7 else x % 7 - 7 := by
    rw [Int.tmod_eq_emod]; split <;> simp
  by_cases h : x.tmod 7 < 0
  · rw [if_pos h, ck (by rw [e] at h ⊢; split at h <;> omega) (by omega)]
    congr 1
    rw [e] at h ⊢
    split at h
    · omega
    · rw [if_neg (by assumption)]; omega
  · rw [if_neg h]
    congr 1
    rw [e] at h ⊢
    split at h
    · rw [if_pos (by assumption)]
    · omega
theorem SecondsOf_ok {p : Int × Int × Int × Int × Int × Int × Int} (h : okD p) : R_SecondsOf p = some (inst p) := by
  obtain ⟨h1, h2, h3, h4, h5, h6, h7⟩ := id h
  have hm := ml_bd (y := p.1) h2.1 h2.2
  have hd := dn_bd (y := p.1) (m := p.2.1) (d := p.2.2.1) h1.1 (by omega) h2.1 h2.2 (by omega) (by omega)
  unfold R_SecondsOf inst
  rw [DayNumber_ok h1.1 (by omega) h2.1 h2.2 (by omega) (by omega), bsome, ck (by omega) (by omega), ck (by omega) (by omega), ck (by omega) (by omega), ck (by omega) (by omega), ck (by omega) (by omega), ck (by omega) (by omega), ck (by omega) (by omega), ck (by omega) (by omega)]
  congr 1; omega
theorem law_Instant (p : Int × Int × Int × Int × Int × Int × Int) : L_DatesInstantMatchesSpec p = some true := by
  obtain ⟨y, m, d, hh, mm, ss, z⟩ := p
  unfold L_DatesInstantMatchesSpec
  simp only [dates_example, bsome, if_true, Validate_ok, DateFault_ok, Instant_ok, Weekday_ok]
  by_cases h : okD (y, m, d, hh, mm, ss, z)
  · have h' := h
    obtain ⟨h1, h2, h3, h4, h5, h6, h7⟩ := h'
    have hm : 28 ≤ ml y m ∧ ml y m ≤ 31 := ml_bd h2.1 h2.2
    simp only [if_pos h, bsome, and_self, decide_true, Bool.not_true, Bool.false_eq_true, if_false, if_true, SecondsOf_ok h]
    rw [WeekdayOf_ok h1.1 (by have := h1.2; simp only at this; omega) h2.1 h2.2 (by have := h3.1; simp only at this; omega) (by have := h3.2; simp only at this; omega)]
    simp only [bsome, decide_true]
  · simp only [if_neg h, bsome, and_self, decide_true, Bool.not_true, Bool.false_eq_true, if_false, if_true]
    rfl
end Go.Ph.Pf
