/-
  Dates: the date of an instant. Plain.
-/
import Derived.Test.YtlopnlagpdchiaaGreatDoorDt
set_option linter.unusedVariables false
set_option linter.unusedSimpArgs false
namespace Go.Ph.Pf
open Go.Ph.Pl
/-- the first day of a year -/
def ys (y : Int) : Int := bef y - bef 1970
theorem dn_y (y d : Int) : dn y 1 d = ys y + d - 1 := by unfold dn ys; simp [cum]
theorem ys_succ (y : Int) : ys y + 365 ≤ ys (y + 1) ∧ ys (y + 1) ≤ ys y + 366 := by
  have := bef_succ y
  unfold ys
  split at this <;> omega
theorem ys_le {a b : Int} (h : a ≤ b) : ys a + 365 * (b - a) ≤ ys b := by
  obtain ⟨k, rfl⟩ : ∃ k : Nat, b = a + k := ⟨(b - a).toNat, by omega⟩
  clear h
  induction k with
  | zero => simp
  | succ k ih =>
    have := ys_succ (a + k)
    have e : a + ((k + 1 : Nat) : Int) = a + k + 1 := by omega
    rw [e]; omega
theorem ys_ge {a b : Int} (h : a ≤ b) : ys b ≤ ys a + 366 * (b - a) := by
  obtain ⟨k, rfl⟩ : ∃ k : Nat, b = a + k := ⟨(b - a).toNat, by omega⟩
  clear h
  induction k with
  | zero => simp
  | succ k ih =>
    have := ys_succ (a + k)
    have e : a + ((k + 1 : Nat) : Int) = a + k + 1 := by omega
    rw [e]; omega
theorem year_ex {n : Int} (h1 : ys 1 ≤ n) : ∀ k : Nat, n < ys (1 + k) → ∃ y, 1 ≤ y ∧ y < 1 + (k : Int) ∧ ys y ≤ n ∧ n < ys (y + 1)
  | 0, h => by simp at h; omega
  | k + 1, h => by
    by_cases hk : n < ys (1 + k)
    · obtain ⟨y, a, b, c, d⟩ := year_ex h1 k hk
      exact ⟨y, a, by omega, c, d⟩
    · exact ⟨1 + k, by omega, by omega, by omega, by have e : (1 : Int) + ((k + 1 : Nat) : Int) = 1 + k + 1 := by omega
                                                     rw [e] at h; exact h⟩
theorem Civil_L1 {n y0 : Int} (h1 : 1 ≤ y0) (h2 : y0 ≤ 4000) (h3 : ys y0 ≤ n) (h4 : n < ys (y0 + 1)) : ∀ (e m : Nat) (y : Int), e + 1 < m → e ≤ 11 → 1 ≤ y → y ≤ y0 → y0 < y + 2 ^ (e + 1) → dates_Civil_L1 n m y ((2 ^ e : Nat) : Int) = some y0
  | e, 0, y, hm, _, _, _, _ => by omega
  | e, m + 1, y, hm, he, hy, hy0, hlt => by
    have hp : 1 ≤ 2 ^ e := Nat.one_le_two_pow
    have hp2 : 2 ^ e ≤ 2 ^ 11 := Nat.pow_le_pow_right (by omega) he
    have hp3 : (2 : Int) ^ (e + 1) = 2 * ((2 ^ e : Nat) : Int) := by rw [Int.pow_succ]; push_cast; exact Int.mul_comm _ _
    rw [hp3] at hlt
    generalize hst : 2 ^ e = st at *
    have hnext : ∀ y', 1 ≤ y' → y' ≤ y0 → y0 < y' + (st : Int) → ((quo (st : Int) 2).bind fun n49 => dates_Civil_L1 n m y' n49) = some y0 := by
      intro y' a b c
      rw [quo_nn (by omega) (by omega) (by omega), bsome]
      cases e with
      | zero =>
        have : st = 1 := by rw [← hst]
        subst this
        obtain ⟨m', rfl⟩ : ∃ m', m = m' + 1 := ⟨m - 1, by omega⟩
        have : y' = y0 := by omega
        subst this
        rw [show ((1 : Nat) : Int) / 2 = 0 from rfl, dates_Civil_L1, if_neg (by omega)]
      | succ e =>
        have hst2 : (st : Int) / 2 = ((2 ^ e : Nat) : Int) := by rw [← hst, Nat.pow_succ]; omega
        rw [hst2]
        refine Civil_L1 h1 h2 h3 h4 e m y' (by omega) (by omega) a b ?_
        have : (2 : Int) ^ (e + 1) = (st : Int) := by rw [← hst]; push_cast; rfl
        rw [this]; exact c
    rw [dates_Civil_L1, if_pos (by omega), ck (by omega) (by omega)]
    by_cases hc : y + (st : Int) ≤ 4000
    · rw [if_pos hc, ck (by omega) (by omega), day_ok (by omega) (by omega) (by omega) (by omega) (by omega) (by omega), bsome, bsome, dn_y]
      by_cases hd : ys (y + st) + 1 - 1 ≤ n
      · rw [decide_eq_true hd, if_pos rfl, ck (by omega) (by omega)]
        refine hnext (y + st) (by omega) ?_ (by omega)
        rcases Int.lt_or_le y0 (y + st) with hx | hx
        · have := ys_le (a := y0 + 1) (b := y + st) (by omega); omega
        · exact hx
      · rw [decide_eq_false hd, if_neg Bool.false_ne_true]
        refine hnext y hy hy0 ?_
        rcases Int.lt_or_le y0 (y + st) with hx | hx
        · exact hx
        · have := ys_le (a := y + st) (b := y0) hx; omega
    · rw [if_neg hc, bsome, if_neg Bool.false_ne_true]
      exact hnext y hy hy0 (by omega)
theorem cum_le (y : Int) {a b : Nat} (h : a ≤ b) (hb : b ≤ 12) : cum y a ≤ cum y b := by
  obtain ⟨k, rfl⟩ : ∃ k : Nat, b = a + k := ⟨b - a, by omega⟩
  clear h
  induction k with
  | zero => exact Int.le_refl _
  | succ k ih =>
    have := ih (by omega)
    have h2 := ml_bd (y := y) (m := ((a + k : Nat) : Int) + 1) (by omega) (by omega)
    have e : cum y (a + (k + 1)) = cum y (a + k) + ml y (((a + k : Nat) : Int) + 1) := rfl
    rw [e]; omega
theorem month_ex {y r : Int} (h1 : 0 ≤ r) : ∀ k : Nat, r < cum y k → ∃ j : Nat, j < k ∧ cum y j ≤ r ∧ r < cum y (j + 1)
  | 0, h => by simp [cum] at h; omega
  | k + 1, h => by
    by_cases hk : r < cum y k
    · obtain ⟨j, a, b, c⟩ := month_ex h1 k hk
      exact ⟨j, by omega, b, c⟩
    · exact ⟨k, by omega, by omega, h⟩
theorem dn_m (y d : Int) (j : Nat) : dn y ((j : Int) + 1) d = ys y + cum y j + d - 1 := by
  unfold dn ys
  have : ((j : Int) + 1 - 1).toNat = j := by omega
  rw [this]; omega
theorem Civil_L2 {n y : Int} {j : Nat} (hy : 1 ≤ y) (hy2 : y ≤ 4000) (h1 : ys y + cum y j ≤ n) (h2 : n < ys y + cum y (j + 1)) : ∀ (i m : Nat), i < m → j + i ≤ 11 → dates_Civil_L2 n y m ((j + i : Nat) + 1 : Int) = some ((j : Int) + 1)
  | i, 0, h, _ => by omega
  | 0, m + 1, h, h3 => by
    rw [dates_Civil_L2, day_ok hy (by omega) (by omega) (by omega) (by omega) (by omega), bsome, dn_m, if_neg (by simp; omega)]
    simp
  | i + 1, m + 1, h, h3 => by
    have hc := cum_le y (a := j + 1) (b := j + (i + 1)) (by omega) (by omega)
    rw [dates_Civil_L2, day_ok hy (by omega) (by omega) (by omega) (by omega) (by omega), bsome, dn_m, if_pos (by omega), ck (by omega) (by omega)]
    have e : (((j + (i + 1) : Nat) : Int) + 1 - 1) = ((j + i : Nat) : Int) + 1 := by omega
    rw [e]
    exact Civil_L2 hy hy2 h1 h2 i m (by omega) (by omega)
theorem DateOf_L1 {n y0 : Int} (h2 : y0 ≤ 4000) (h3 : ys y0 ≤ n) (h4 : n < ys (y0 + 1)) : ∀ (i m : Nat) (y : Int), i < m → 1 ≤ y → y + i = y0 → R_DateOf_L1 n m y = some y0
  | i, 0, y, h, _, _ => by omega
  | 0, m + 1, y, h, hy, e => by
    have : y = y0 := by omega
    subst this
    rw [R_DateOf_L1, ck (by omega) (by omega), YearStart_ok (by omega) (by omega), bsome, if_neg (by unfold ys at h4; omega)]
  | i + 1, m + 1, y, h, hy, e => by
    have hl := ys_le (a := y + 1) (b := y0) (by omega)
    have e3 : bef (y + 1) - bef 1970 = ys (y + 1) := rfl
    rw [R_DateOf_L1, ck (by omega) (by omega), YearStart_ok (by omega) (by omega), bsome, e3, if_pos (by omega), ck (by omega) (by omega)]
    exact DateOf_L1 h2 h3 h4 i m (y + 1) (by omega) (by omega) (by omega)
theorem DateOf_L2 {y r : Int} {j : Nat} (hy : 1 ≤ y) (hj : j ≤ 11) (h0 : r ≤ 100000) (h1 : cum y j ≤ r) (h2 : r < cum y (j + 1)) : ∀ (i m k : Nat), i < m → k + i = j → R_DateOf_L2 y m (r - cum y k) ((k : Int) + 1) = some (r - cum y j, (j : Int) + 1)
  | i, 0, k, h, _ => by omega
  | 0, m + 1, k, h, e => by
    have : k = j := by omega
    subst this
    have ec : cum y (k + 1) = cum y k + ml y ((k : Int) + 1) := rfl
    rw [R_DateOf_L2, MonthDays_ok (by omega) (by omega) (by omega), bsome, if_neg (by omega)]
  | i + 1, m + 1, k, h, e => by
    have hc := cum_le y (a := k + 1) (b := j) (by omega) (by omega)
    have hb := cum_bd y k (by omega)
    have ec : cum y (k + 1) = cum y k + ml y ((k : Int) + 1) := rfl
    have hm := ml_bd (y := y) (m := (k : Int) + 1) (by omega) (by omega)
    have ih := DateOf_L2 hy hj h0 h1 h2 i m (k + 1) (by omega) (by omega)
    rw [R_DateOf_L2, MonthDays_ok (by omega) (by omega) (by omega), bsome, if_pos (by omega), bsome, ck (by omega) (by omega), ck (by omega) (by omega)]
    have e1 : r - cum y k - ml y ((k : Int) + 1) = r - cum y (k + 1) := by omega
    have e2 : ((k : Int) + 1 + 1) = ((k + 1 : Nat) : Int) + 1 := by omega
    rw [e1, e2, ih]
theorem cum_12 (y : Int) : ys y + cum y 12 = ys (y + 1) := by
  have := bef_succ y
  unfold ys
  have e : cum y 12 = 365 + (if lpB y = true then 1 else 0) := by
    simp only [cum, ml, mls]
    cases lpB y <;> decide
  rw [e]; omega
theorem rem_pos {x b : Int} (hb : 0 < b) : rem x b = some (x.tmod b) := by unfold rem; rw [if_neg (by omega)]
theorem quo_mul {x b : Int} (hb : 0 < b) (h1 : -1000000000000 ≤ x) (h2 : x ≤ 1000000000000) : quo (b * x) b = some x := by
  unfold quo; rw [if_neg (by omega), Int.mul_tdiv_cancel_left _ (by omega)]; exact chk_ok (by omega) (by omega)
theorem both {t z : Int} (ht1 : -68719476736 ≤ t) (ht2 : t ≤ 68719476736) (hz1 : -900 ≤ z) (hz2 : z ≤ 900) :
    (dates_Civil t z = some ((0, 0, 0, 0, 0, 0, 0), (3, -3)) ∧ R_DateOf t z = some ((0, 0, 0, 0, 0, 0, 0), false)) ∨ ∃ d, dates_Civil t z = some (d, (0, 0)) ∧ R_DateOf t z = some (d, true) := by
  have hT : basic_Time t = some true := by
    unfold basic_Time
    rw [if_pos ht1, bsome, decide_eq_true ht2]
  have hW : dates_within z (-900) 900 = some true := by rw [within_eq, decide_eq_true ⟨hz1, hz2⟩]
  have hx : ∃ n s : Int, t + 60 * z = 86400 * n + s ∧ 0 ≤ s ∧ s < 86400 := ⟨(t + 60 * z) / 86400, (t + 60 * z) % 86400, by omega, by omega, by omega⟩
  obtain ⟨n, s, hx, hs0, hs1⟩ := hx
  have hsp : dates_split (t + 60 * z) 86400 = some (n, s) := by
    rw [split_ok (by omega) (by omega) (by omega) (by omega)]
    have e1 : (t + 60 * z) / 86400 = n := by omega
    have e2 : (t + 60 * z) % 86400 = s := by omega
    rw [e1, e2]
  have hrem : ((rem (t + 60 * z) 86400).bind fun n3 => ((if n3 < (0 : Int) then (chk (n3 + 86400)).bind fun n8 => some n8 else some n3))) = some s := by
    rw [rem_pos (by omega), bsome]
    have e : (t + 60 * z).tmod 86400 = if 0 ≤ (t + 60 * z) ∨ (86400 : Int) ∣ (t + 60 * z) then (t + 60 * z) % 86400 else (t + 60 * z) % 86400 - 86400 := by
      rw [Int.tmod_eq_emod]; split <;> simp
    have e2 : (t + 60 * z) % 86400 = s := by omega
    rw [e2] at e
    rw [e]
    by_cases hc : 0 ≤ (t + 60 * z) ∨ (86400 : Int) ∣ (t + 60 * z)
    · rw [if_pos hc, if_neg (by omega)]
    · rw [if_neg hc, if_pos (by omega), ck (by omega) (by omega)]
      congr 1; omega
  have d1 : dates_day 1 1 1 = some (ys 1) := by rw [day_ok (by omega) (by omega) (by omega) (by omega) (by omega) (by omega), dn_y]; congr 1
  have d2 : dates_day 4000 12 31 = some (ys 4001 - 1) := by
    rw [day_ok (by omega) (by omega) (by omega) (by omega) (by omega) (by omega)]; rfl
  have r1 : R_DayNumber 1 1 1 = some (ys 1) := by rw [DayNumber_ok (by omega) (by omega) (by omega) (by omega) (by omega) (by omega), dn_y]; congr 1
  have r2 : R_DayNumber 4000 12 31 = some (ys 4001 - 1) := by
    rw [DayNumber_ok (by omega) (by omega) (by omega) (by omega) (by omega) (by omega)]; rfl
  have hR : R_DateOf t z = ((R_DayNumber 1 1 1).bind fun n15 => (if n < n15 then some true else (R_DayNumber 4000 12 31).bind fun n18 => some (decide (n18 < n)))).bind fun b14 => (if b14 = true then some ((0, 0, 0, 0, 0, 0, 0), false) else (quo n 366).bind fun n22 => (chk ((1970 : Int) + n22)).bind fun n23 => ((if n < (0 : Int) then (quo n 365).bind fun n28 => (chk ((1970 : Int) + n28)).bind fun n29 => (chk (n29 - 2)).bind fun n30 => some n30 else some n23)).bind fun n26 => ((if n26 < (1 : Int) then some 1 else some n26)).bind fun n34 => (R_DateOf_L1 n FU n34).bind fun n39 => (R_YearStart n39).bind fun n48 => (chk (n - n48)).bind fun n50 => (R_DateOf_L2 n39 FU n50 1).bind fun (n53, n54) => (chk (n53 + 1)).bind fun n66 => (quo s 3600).bind fun n67 => (quo s 60).bind fun n68 => (rem n68 60).bind fun n69 => (rem s 60).bind fun n70 => some ((n39, n54, n66, n67, n69, n70, z), true)) := by
    unfold R_DateOf
    rw [ck (by omega) (by omega), ck (by omega) (by omega), ← Option.bind_assoc, hrem, bsome, ck (by omega) (by omega), show t + 60 * z - s = 86400 * n by omega, quo_mul (by omega) (by omega) (by omega), bsome]
  rw [hR]
  unfold dates_Civil basic_Fault basic_None
  simp only [hT, hW, bsome, if_true]
  rw [ck (by omega) (by omega), ck (by omega) (by omega), hsp]
  simp only [d1, d2, r1, r2, bsome]
  by_cases hlo : n < ys 1
  · left
    simp only [if_pos hlo, bsome, if_true]
    exact ⟨trivial, trivial⟩
  by_cases hhi : ys 4001 - 1 < n
  · left
    simp only [if_neg hlo, bsome, decide_eq_true hhi, if_true]
    exact ⟨trivial, trivial⟩
  right
  simp only [if_neg hlo, bsome, decide_eq_false hhi, Bool.false_eq_true, if_false]
  obtain ⟨y0, a1, a2, a3, a4⟩ := year_ex (n := n) (by omega) 4000 (by rw [show (1 : Int) + ((4000 : Nat) : Int) = 4001 from rfl]; omega)
  have hyb := bef_bd (y := y0) (by omega) (by omega)
  have hyb' := bef_bd (y := 1970) (by omega) (by omega)
  have hys : bef y0 - bef 1970 = ys y0 := rfl
  have h12 := cum_12 y0
  obtain ⟨j, b1, b2, b3⟩ := month_ex (y := y0) (r := n - ys y0) (by omega) 12 (by omega)
  have hsuc := ys_succ y0
  have c1 : dates_Civil_L1 n FU 1 2048 = some y0 := Civil_L1 a1 (by omega) a3 a4 11 FU 1 (fu_lt (by omega)) (by omega) (by omega) a1 (by omega)
  have c2 : dates_Civil_L2 n y0 FU 12 = some ((j : Int) + 1) := by
    have := Civil_L2 (n := n) (y := y0) (j := j) a1 (by omega) (by omega) (by omega) (11 - j) FU (fu_lt (by omega)) (by omega)
    rw [show ((j + (11 - j) : Nat) : Int) + 1 = 12 by omega] at this
    exact this
  have c3 : ∀ y, 1 ≤ y → y ≤ y0 → R_DateOf_L1 n FU y = some y0 := fun y u v => DateOf_L1 (by omega) a3 a4 (y0 - y).toNat FU y (fu_lt (by omega)) u (by omega)
  have c4 : R_DateOf_L2 y0 FU (n - ys y0) 1 = some (n - ys y0 - cum y0 j, (j : Int) + 1) := by
    have := DateOf_L2 (y := y0) (r := n - ys y0) (j := j) a1 (by omega) (by omega) b2 b3 j FU 0 (fu_lt (by omega)) (by omega)
    simpa [cum] using this
  have hcb := cum_bd y0 j (by omega)
  have hys' : -2000000 ≤ ys y0 ∧ ys y0 ≤ 2000000 := by omega
  have hl0 := ys_le (a := 1) (b := y0) a1
  refine ⟨(y0, (j : Int) + 1, n - (ys y0 + cum y0 j) + 1, s / 3600, s / 60 % 60, s % 60, z), ?_, ?_⟩
  · rw [c1]
    simp only [bsome, c2]
    rw [day_ok a1 (by omega) (by omega) (by omega) (by omega) (by omega), bsome, dn_m, ck (by omega) (by omega), ck (by omega) (by omega), quo_nn hs0 (by omega) (by omega), bsome, quo_nn hs0 (by omega) (by omega), bsome, rem_nn (by omega) (by omega), bsome, rem_nn hs0 (by omega), bsome]
    rw [show n - (ys y0 + cum y0 j + 1 - 1) + 1 = n - (ys y0 + cum y0 j) + 1 by omega]
  · have hu := ys_ge (a := 1970) (b := y0 + 1)
    have h70 : ys 1970 = 0 := by decide
    have hl := ys_le (a := y0 + 1) (b := 1970)
    have hq : ∃ q, quo n 366 = some q ∧ -1000000 ≤ q ∧ q ≤ 1000000 ∧ (0 ≤ n → q = n / 366) := by
      unfold quo
      rw [if_neg (by omega)]
      have hb : -1000000 ≤ n.tdiv 366 ∧ n.tdiv 366 ≤ 1000000 := by
        rcases Int.lt_or_le n 0 with h | h
        · have := Int.neg_tdiv (-n) 366
          rw [Int.neg_neg, Int.tdiv_eq_ediv_of_nonneg (a := -n) (by omega)] at this
          rw [this]; omega
        · rw [Int.tdiv_eq_ediv_of_nonneg h]; omega
      exact ⟨n.tdiv 366, chk_ok (by omega) (by omega), hb.1, hb.2, fun h => Int.tdiv_eq_ediv_of_nonneg h⟩
    obtain ⟨q, hq, q1, q2, q3⟩ := hq
    have hst : ∃ y, (((if n < (0 : Int) then (quo n 365).bind fun n28 => (chk ((1970 : Int) + n28)).bind fun n29 => (chk (n29 - 2)).bind fun n30 => some n30 else some (1970 + q))).bind fun n26 => ((if n26 < (1 : Int) then some 1 else some n26))) = some y ∧ 1 ≤ y ∧ y ≤ y0 := by
      by_cases hn : n < 0
      · have hp : quo n 365 = some (-((-n) / 365)) := by
          unfold quo
          rw [if_neg (by omega)]
          have e : n.tdiv 365 = -((-n) / 365) := by
            have := Int.neg_tdiv (-n) 365
            rw [Int.neg_neg, Int.tdiv_eq_ediv_of_nonneg (a := -n) (by omega)] at this
            exact this
          rw [e]; exact chk_ok (by omega) (by omega)
        rw [if_pos hn, hp, bsome, ck (by omega) (by omega), ck (by omega) (by omega), bsome]
        by_cases hc : 1970 + -((-n) / 365) - 2 < 1
        · exact ⟨1, by rw [if_pos hc], by omega, a1⟩
        · refine ⟨_, by rw [if_neg hc], by omega, ?_⟩
          have : y0 + 1 ≤ 1970 := by
            rcases Int.lt_or_le y0 1970 with h | h
            · omega
            · have := ys_le (a := 1970) (b := y0) h; omega
          have := hl this
          omega
      · rw [if_neg hn, bsome]
        have hge : 1970 ≤ y0 := by
          rcases Int.lt_or_le y0 1970 with h | h
          · have := hl (by omega); omega
          · exact h
        have := hu (by omega)
        have e := q3 (by omega)
        refine ⟨1970 + q, by rw [if_neg (by omega)], by omega, by omega⟩
    obtain ⟨y, hy, y1, y2⟩ := hst
    rw [hq, bsome, ck (by omega) (by omega), ← Option.bind_assoc, hy, bsome, c3 y y1 y2, bsome, YearStart_ok a1 (by omega), bsome, hys, ck (by omega) (by omega), c4]
    simp only [bsome]
    rw [ck (by omega) (by omega), quo_nn hs0 (by omega) (by omega), bsome, quo_nn hs0 (by omega) (by omega), bsome, rem_nn (by omega) (by omega), bsome, rem_nn hs0 (by omega), bsome]
    rw [show n - ys y0 - cum y0 j + 1 = n - (ys y0 + cum y0 j) + 1 by omega]
theorem law_Civil (t z : Int) : L_DatesCivilMatchesSpec t z = some true := by
  unfold L_DatesCivilMatchesSpec R_At
  simp only [dates_example, bsome, if_true, In_eq, ifs]
  by_cases ht : -68719476736 ≤ t ∧ t ≤ 68719476736
  · by_cases hz : -900 ≤ z ∧ z ≤ 900
    · rcases both ht.1 ht.2 hz.1 hz.2 with ⟨h1, h2⟩ | ⟨d, h1, h2⟩
      · simp only [h1, h2, bsome, if_pos ht, if_pos hz, Bool.false_eq_true, if_false, if_true, and_self, decide_true]
      · obtain ⟨d1, d2, d3, d4, d5, d6, d7⟩ := d
        simp only [h1, h2, bsome, if_pos ht, if_pos hz, if_true, and_self, decide_true]
    · have h1 : dates_Civil t z = some ((0, 0, 0, 0, 0, 0, 0), (3, -4)) := by
        unfold dates_Civil basic_Time basic_Fault
        rw [if_pos ht.1, bsome, bsome, decide_eq_true ht.2, if_pos rfl, within_eq, decide_eq_false hz, bsome, if_neg Bool.false_ne_true]
        rfl
      simp only [h1, bsome, if_pos ht, if_neg hz, if_true, and_self, decide_true]
  · have h1 : dates_Civil t z = some ((0, 0, 0, 0, 0, 0, 0), (3, -2)) := by
      have hT : basic_Time t = some false := by
        unfold basic_Time
        by_cases h : -68719476736 ≤ t
        · rw [if_pos h, bsome, decide_eq_false (fun h2 => ht ⟨h, h2⟩)]
        · rw [if_neg h, bsome]
      unfold dates_Civil basic_Fault
      rw [hT, bsome, if_neg Bool.false_ne_true]
      rfl
    simp only [h1, bsome, if_neg ht, if_true, and_self, decide_true]
end Go.Ph.Pf
