/-
  Fold: the field of lines, and the laws. No program in sight.
-/
import Derived.Test.YtolmifddbjdepaaDoorFt
set_option linter.unusedVariables false
set_option linter.unusedSimpArgs false
namespace Go.Ph.Pf
open Go.Ph.Pl Go.Ph.Qp Go.Ph.Fd
/-! parts at a colon -/
theorem ixB_cons (b : UInt8) (l : List UInt8) (c : UInt8) : ixB (b :: l) c = if b = c then 0 else if ixB l c < 0 then -1 else ixB l c + 1 := by
  unfold ixB
  rw [List.idxOf_cons, List.length_cons]
  by_cases h : b = c
  · subst h; simp
  · have h' : (b == c) = false := by simpa using h
    rw [h', if_neg h]
    simp only [cond_false]
    by_cases hl : l.idxOf c < l.length
    · rw [if_pos (by omega), if_pos hl, if_neg (by omega)]; omega
    · rw [if_neg (by omega), if_neg hl, if_pos (by omega)]
theorem ixB_lt (l : List UInt8) (c : UInt8) : -1 ≤ ixB l c ∧ ixB l c < l.length := by
  unfold ixB; split <;> omega
theorem R_Find_eq (l : List UInt8) (hl : l.length ≤ 1000000) : R_Find l [58] 0 = some (ixB l 58) := by
  unfold R_Find
  have key : ∀ (k i m : Nat), l.length - i ≤ k → k < m → i ≤ l.length → R_Find_L1 l [58] m (i : Int) = some (if ixB (l.drop i) 58 < 0 then .inl () else .inr (ixB (l.drop i) 58 + (i : Int))) := by
    intro k
    induction k with
    | zero =>
      intro i m h1 h2 h3
      obtain ⟨m, rfl⟩ : ∃ k, m = k + 1 := ⟨m - 1, by omega⟩
      obtain rfl : i = l.length := by omega
      rw [R_Find_L1, chk_ok (by simp; omega) (by simp; omega)]
      simp only [bsome]
      rw [if_neg (by simp only [List.length_cons, List.length_nil]; omega), List.drop_length]; rfl
    | succ k ih =>
      intro i m h1 h2 h3
      obtain ⟨m, rfl⟩ : ∃ k, m = k + 1 := ⟨m - 1, by omega⟩
      have e1 : ((i : Int) + (([58] : List UInt8).length : Int)) = ((i + 1 : Nat) : Int) := by simp
      rw [R_Find_L1, e1, chk_ok (by omega) (by omega)]
      simp only [bsome]
      by_cases hi : i < l.length
      · rw [if_pos (by omega), cut_of rfl rfl (by omega) (by omega), chk_succ (by omega)]
        simp only [bsome]
        have hc : (l.take (i + 1)).drop i = [l[i]] := by
          rw [List.drop_take, show i + 1 - i = 1 by omega, drop_cons hi]; rfl
        rw [hc, drop_cons hi, ixB_cons]
        by_cases h58 : l[i] = 58
        · rw [if_pos (by rw [h58]), if_pos h58, if_neg (by omega)]; simp
        · rw [if_neg (by simp [h58]), if_neg h58, ih (i + 1) m (by omega) (by omega) (by omega)]
          have := ixB_lt (l.drop (i + 1)) 58
          by_cases hn : ixB (l.drop (i + 1)) 58 < 0
          · rw [if_pos hn, if_pos hn, if_pos (by omega)]
          · rw [if_neg hn, if_neg hn, if_neg (by omega)]
            congr 2
            omega
      · rw [if_neg (by omega), List.drop_of_length_le (by omega)]; rfl
  have := key l.length 0 FU (by omega) (FU_gt (by omega)) (by omega)
  rw [show ((0 : Nat) : Int) = 0 from rfl, List.drop_zero] at this
  rw [this]
  have hx := ixB_lt l 58
  by_cases hn : ixB l 58 < 0
  · rw [if_pos hn]
    simp only [bsome]
    congr 1
    omega
  · rw [if_neg hn]
    simp only [bsome]
    congr 1
    omega
theorem strings_Cut_eq (l : List UInt8) (hl : l.length ≤ 1000000) : strings_Cut l [58] = some (if ixB l 58 < 0 then (l, [], false) else (l.take (ixB l 58).toNat, l.drop ((ixB l 58).toNat + 1), true)) := by
  have hi : stringslite_Index l [58] = some (ixB l 58) := by
    unfold stringslite_Index
    rw [if_neg (by decide)]
    simp only [bsome]
    by_cases h : ([58] : List UInt8) = l
    · rw [decide_eq_true h, if_pos rfl, ← h]; rfl
    · rw [decide_eq_false h, if_neg (by simp), if_pos (by decide)]
      rfl
  have hx := ixB_lt l 58
  unfold strings_Cut stringslite_Cut
  rw [hi]
  simp only [bsome]
  by_cases hn : ixB l 58 < 0
  · rw [if_neg (by omega), if_pos hn]
    simp only [bsome]
  · obtain ⟨n, hn'⟩ := Int.eq_ofNat_of_zero_le (show 0 ≤ ixB l 58 by omega)
    rw [if_pos (by omega), if_neg hn, hn']
    rw [cut_to rfl (by omega)]
    simp only [bsome]
    rw [show ((n : Int) + (([58] : List UInt8).length : Int)) = ((n + 1 : Nat) : Int) by simp, chk_ok (by omega) (by omega)]
    simp only [bsome]
    rw [cut_from rfl (by omega)]
    simp only [bsome, Int.toNat_natCast]
theorem jn_flat : ∀ l : List (List UInt8), jn [] l = l.flatten
  | [] => rfl
  | [x] => by simp [jn]
  | x :: y :: r => by rw [jn, jn_flat (y :: r)]; simp
/-! lines that are not those of a field -/
def hd (a : List UInt8) : Bool := match a with | [] => true | c :: _ => !decide (bl c)
def badL (i : Nat) (a : List UInt8) : Bool := a.any endB || (decide (0 < i) && hd a)
def ufz : Nat → List (List UInt8) → Option Nat
  | _, [] => none
  | i, a :: r => if badL i a = true then some i else ufz (i + 1) r
theorem unf_loop (p : List (List UInt8)) (hp : ∀ a ∈ p, Big a) (hl : p.length ≤ 1000) : ∀ (k i m sz : Nat), p.length - i ≤ k → k < m → i ≤ p.length → sz ≤ i * 140737488355328 →
    fold_Unfold_L1 p m 0 0 (sz : Int) (i : Int) = some (match ufz i (p.drop i) with | some j => .inr ([], [], (11, (j : Int))) | none => .inl (0, 0, ((sz + (p.drop i).flatten.length : Nat) : Int))) := by
  intro k
  induction k with
  | zero =>
    intro i m sz h1 h2 h3 h4
    obtain ⟨m, rfl⟩ : ∃ k, m = k + 1 := ⟨m - 1, by omega⟩
    rw [fold_Unfold_L1, if_neg (by omega), List.drop_of_length_le (by omega), ufz]; rfl
  | succ k ih =>
    intro i m sz h1 h2 h3 h4
    obtain ⟨m, rfl⟩ : ∃ k, m = k + 1 := ⟨m - 1, by omega⟩
    by_cases hi : i < p.length
    · have hb := hp p[i] (List.getElem_mem hi)
      have hb' : (p[i]).length ≤ 140737488355328 := hb
      rw [fold_Unfold_L1, if_pos (by omega), idx_nat, List.getElem?_eq_getElem hi, drop_cons hi, ufz]
      simp only [bsome, fold_ends_eq _ hb]
      have hc : (if (p[i]).any endB = true then some true else (if (0 : Int) < (i : Int) then (if p[i] = [] then some true else (idx p[i] 0).bind fun c24 => (basic_Blank c24).bind fun b25 => some (!b25)) else some false)) = some (badL i p[i]) := by
        unfold badL
        cases (p[i]).any endB with
        | true => rfl
        | false =>
          simp only [Bool.false_eq_true, if_false, Bool.false_or]
          by_cases h0 : 0 < i
          · rw [if_pos (by omega), decide_eq_true h0, Bool.true_and]
            generalize p[i] = a
            cases a with
            | nil => rfl
            | cons c r =>
              rw [if_neg (by simp), show (0 : Int) = ((0 : Nat) : Int) from rfl, idx_nat]
              simp only [List.getElem?_cons_zero, bsome, basic_Blank_eq]
              rfl
          · rw [if_neg (by omega), decide_eq_false h0, Bool.false_and]
      rw [hc]
      simp only [bsome]
      cases hbad : badL i p[i] with
      | true => rfl
      | false =>
        simp only [Bool.false_eq_true, if_false]
        have hm : (i + 1) * 140737488355328 ≤ 1000 * 140737488355328 := Nat.mul_le_mul_right _ (by omega)
        rw [Nat.add_mul] at hm
        rw [chk_addN _ (by omega), chk_succ (by omega)]
        simp only [bsome]
        rw [ih (i + 1) m (sz + (p[i]).length) (by omega) (by omega) (by omega) (by rw [Nat.add_mul]; omega)]
        cases ufz (i + 1) (p.drop (i + 1)) with
        | some j => rfl
        | none =>
          simp only [List.flatten_cons, List.length_append]
          congr 4
          omega
    · rw [fold_Unfold_L1, if_neg (by omega), List.drop_of_length_le (by omega), ufz]; rfl
def unfoldR (p : List (List UInt8)) : List UInt8 × List UInt8 × (Int × Int) :=
  if 300 < p.length then ([], [], (2, -1)) else match ufz 0 p with
    | some j => ([], [], (11, (j : Int)))
    | none => if 8000 < p.flatten.length then ([], [], (1, -1)) else
        if ixB p.flatten 58 < 0 ∨ nmL (p.flatten.take (ixB p.flatten 58).toNat) = false then ([], [], (11, -2)) else
          if 4000 < (trimB (p.flatten.drop ((ixB p.flatten 58).toNat + 1))).length then ([], [], (1, -1)) else (p.flatten.take (ixB p.flatten 58).toNat, trimB (p.flatten.drop ((ixB p.flatten 58).toNat + 1)), (0, 0))
theorem fold_Unfold_eq (p : List (List UInt8)) (hp : ∀ a ∈ p, Big a) : fold_Unfold p = some (unfoldR p) := by
  unfold fold_Unfold unfoldR
  by_cases h300 : 300 < p.length
  · rw [if_pos (by omega), if_pos h300]; rfl
  · rw [if_neg (by omega), if_neg h300]
    have := unf_loop p hp (by omega) p.length 0 FU 0 (by omega) (FU_gt (by omega)) (by omega) (by omega)
    rw [show ((0 : Nat) : Int) = 0 from rfl, List.drop_zero] at this
    rw [this]
    simp only [bsome]
    cases ufz 0 p with
    | some j => rfl
    | none =>
      simp only [Nat.zero_add]
      by_cases h8 : 8000 < p.flatten.length
      · rw [if_pos (by omega), if_pos h8]; rfl
      · rw [if_neg (by omega), if_neg h8]
        unfold strings_Join
        rw [if_pos ⟨by omega, by rw [jn_flat]; omega⟩, jn_flat]
        simp only [bsome]
        rw [strings_Cut_eq _ (by omega)]
        have hx := ixB_lt p.flatten 58
        by_cases hn : ixB p.flatten 58 < 0
        · rw [if_pos hn, if_pos (.inl hn)]; rfl
        · rw [if_neg hn]
          simp only [bsome, if_true]
          rw [fold_name_eq _ (by unfold Big; rw [List.length_take]; omega)]
          simp only [bsome]
          cases hm : nmL (p.flatten.take (ixB p.flatten 58).toNat) with
          | false =>
            simp only [Bool.not_false, if_true]
            rw [if_pos (.inr trivial)]; rfl
          | true =>
            rw [if_neg (show ¬ (ixB p.flatten 58 < 0 ∨ true = false) from fun h => h.elim hn (fun h => by cases h))]
            simp only [Bool.not_true, Bool.false_eq_true, if_false]
            rw [strings_Trim_eq _ (by unfold Big; rw [List.length_drop]; omega)]
            simp only [bsome]
            by_cases h4 : 4000 < (trimB (p.flatten.drop ((ixB p.flatten 58).toNat + 1))).length
            · rw [if_pos (by omega), if_pos h4]; rfl
            · rw [if_neg (by omega), if_neg h4]; rfl
/-! the law of Unfold -/
theorem lawU_L2 (p : List (List UInt8)) (i : Nat) (hi : i < p.length) (hb : Big p[i]) : ∀ (k j m : Nat) (b : Bool), (p[i]).length - j ≤ k → k < m → j ≤ (p[i]).length → L_UnfoldMatchesSpec_L2 p (i : Int) m b (j : Int) = some (b || ((p[i]).drop j).any endB)
  | k, j, m, b, h1, h2, h3 => by
    obtain ⟨m, rfl⟩ : ∃ k, m = k + 1 := ⟨m - 1, by omega⟩
    have hb' : (p[i]).length ≤ 140737488355328 := hb
    rw [L_UnfoldMatchesSpec_L2, idx_nat, List.getElem?_eq_getElem hi]
    simp only [bsome]
    by_cases hj : j < (p[i]).length
    · cases k with
      | zero => omega
      | succ k =>
      rw [if_pos (by omega), idx_nat, List.getElem?_eq_getElem hj, chk_succ (by omega), drop_cons hj, List.any_cons]
      simp only [bsome, oneOf_end]
      cases b with
      | true =>
        simp only [if_true, bsome]
        rw [lawU_L2 p i hi hb k (j + 1) m true (by omega) (by omega) (by omega)]
        simp
      | false =>
        simp only [Bool.false_eq_true, if_false, bsome]
        rw [lawU_L2 p i hi hb k (j + 1) m _ (by omega) (by omega) (by omega)]
        simp
    · rw [if_neg (by omega), List.drop_of_length_le (by omega)]
      simp
theorem lawU_L1 (p : List (List UInt8)) (hp : ∀ a ∈ p, Big a) (hl : p.length ≤ 1000) (s4 s5 : List UInt8) (n6 n7 : Int) : ∀ (k i m : Nat) (o : List UInt8), p.length - i ≤ k → k < m → i ≤ p.length → o.length ≤ i * 140737488355328 →
    L_UnfoldMatchesSpec_L1 p s4 s5 n6 n7 m o (i : Int) = some (match ufz i (p.drop i) with | some j => .inr (decide (n6 = 11 ∧ n7 = (j : Int) ∧ s4 = [] ∧ s5 = [])) | none => .inl (o ++ (p.drop i).flatten)) := by
  intro k
  induction k with
  | zero =>
    intro i m o h1 h2 h3 h4
    obtain ⟨m, rfl⟩ : ∃ k, m = k + 1 := ⟨m - 1, by omega⟩
    rw [L_UnfoldMatchesSpec_L1, if_neg (by omega), List.drop_of_length_le (by omega), ufz]; simp
  | succ k ih =>
    intro i m o h1 h2 h3 h4
    obtain ⟨m, rfl⟩ : ∃ k, m = k + 1 := ⟨m - 1, by omega⟩
    by_cases hi : i < p.length
    · have hb := hp p[i] (List.getElem_mem hi)
      have hb' : (p[i]).length ≤ 140737488355328 := hb
      rw [L_UnfoldMatchesSpec_L1, if_pos (by omega), idx_nat, List.getElem?_eq_getElem hi, drop_cons hi, ufz]
      simp only [bsome]
      have hc : ∃ b, (if (0 : Int) < (i : Int) then (if p[i] = [] then some true else (idx p[i] 0).bind fun c33 => (R_Blank c33).bind fun b34 => some (!b34)) else some false) = some b ∧ (b || (p[i]).any endB) = badL i p[i] := by
        unfold badL
        by_cases h0 : 0 < i
        · rw [if_pos (by omega), decide_eq_true h0, Bool.true_and]
          generalize p[i] = a
          cases a with
          | nil => exact ⟨true, rfl, by simp [hd]⟩
          | cons c r =>
            rw [if_neg (by simp), show (0 : Int) = ((0 : Nat) : Int) from rfl, idx_nat]
            simp only [List.getElem?_cons_zero, bsome, R_Blank_eq]
            exact ⟨_, rfl, by rw [Bool.or_comm]; rfl⟩
        · rw [if_neg (by omega), decide_eq_false h0, Bool.false_and]
          exact ⟨false, rfl, by simp⟩
      obtain ⟨b, hc1, hc2⟩ := hc
      rw [hc1]
      simp only [bsome]
      have h2' := lawU_L2 p i hi hb (p[i]).length 0 FU b (by omega) (FU_gt (by omega)) (by omega)
      rw [show ((0 : Nat) : Int) = 0 from rfl, List.drop_zero, hc2] at h2'
      rw [h2']
      simp only [bsome]
      cases hbad : badL i p[i] with
      | true =>
        simp only [if_true]
        unfold R_At
        simp only [bsome]
        by_cases e1 : n6 = 11 ∧ n7 = (i : Int)
        · rw [if_pos e1]
          by_cases e2 : s4 = []
          · rw [if_pos e2]; simp [e1, e2]
          · rw [if_neg e2]; simp [e2]
        · rw [if_neg e1]
          simp only [bsome]
          rw [decide_eq_false (fun h => e1 ⟨h.1, h.2.1⟩)]
      | false =>
        simp only [Bool.false_eq_true, if_false]
        have hm : (i + 1) * 140737488355328 ≤ 1000 * 140737488355328 := Nat.mul_le_mul_right _ (by omega)
        rw [Nat.add_mul] at hm
        rw [cat_ok (by omega), chk_succ (by omega)]
        simp only [bsome]
        rw [ih (i + 1) m _ (by omega) (by omega) (by omega) (by rw [Nat.add_mul, List.length_append]; omega)]
        cases ufz (i + 1) (p.drop (i + 1)) with
        | some j => rfl
        | none => simp only [List.flatten_cons, List.append_assoc]
    · rw [L_UnfoldMatchesSpec_L1, if_neg (by omega), List.drop_of_length_le (by omega), ufz]; simp
theorem L_UnfoldMatchesSpec_true (p : List (List UInt8)) (hp : ∀ a ∈ p, Big a) : L_UnfoldMatchesSpec p = some true := by
  unfold L_UnfoldMatchesSpec
  rw [foldExample_true, fold_Unfold_eq p hp]
  simp only [bsome, if_true]
  by_cases h300 : 300 < p.length
  · rw [if_pos (by omega)]
    unfold unfoldR
    simp [h300, R_At]
  · rw [if_neg (by omega)]
    have h1 := lawU_L1 p hp (by omega) (unfoldR p).1 (unfoldR p).2.1 (unfoldR p).2.2.1 (unfoldR p).2.2.2 p.length 0 FU [] (by omega) (FU_gt (by omega)) (by omega) (by simp)
    rw [show ((0 : Nat) : Int) = 0 from rfl, List.drop_zero] at h1
    rw [h1]
    simp only [bsome]
    cases hz : ufz 0 p with
    | some j =>
      have hu : unfoldR p = ([], [], (11, (j : Int))) := by unfold unfoldR; rw [if_neg h300, hz]
      rw [hu]; simp
    | none =>
      simp only [List.nil_append]
      by_cases h8 : 8000 < p.flatten.length
      · have hu : unfoldR p = ([], [], (1, -1)) := by unfold unfoldR; rw [if_neg h300, hz]; simp only []; rw [if_pos h8]
        rw [if_pos (by omega), hu]; simp [R_At]
      · rw [if_neg (by omega), R_Find_eq _ (by omega)]
        simp only [bsome]
        have hx := ixB_lt p.flatten 58
        by_cases hn : ixB p.flatten 58 < 0
        · have hu : unfoldR p = ([], [], (11, -2)) := by unfold unfoldR; rw [if_neg h300, hz]; simp only []; rw [if_neg h8, if_pos (.inl hn)]
          rw [if_pos hn, hu]; simp [R_At]
        · obtain ⟨n, hn'⟩ := Int.eq_ofNat_of_zero_le (show 0 ≤ ixB p.flatten 58 by omega)
          have hu : unfoldR p = if nmL (p.flatten.take n) = false then ([], [], (11, -2)) else if 4000 < (trimB (p.flatten.drop (n + 1))).length then ([], [], (1, -1)) else (p.flatten.take n, trimB (p.flatten.drop (n + 1)), (0, 0)) := by
            unfold unfoldR
            rw [if_neg h300, hz]
            simp only []
            rw [if_neg h8, hn', Int.toNat_natCast]
            cases nmL (p.flatten.take n) with
            | false => rw [if_pos (.inr rfl), if_pos rfl]
            | true => rw [if_neg (show ¬ ((n : Int) < 0 ∨ true = false) from fun h => h.elim (by omega) (fun h => by cases h)), if_neg (show ¬ (true = false) by simp)]
          rw [if_neg hn, hn', cut_to rfl (by omega)]
          simp only [bsome]
          rw [R_FieldName_eq _ (by unfold Big; rw [List.length_take]; omega)]
          simp only [bsome]
          cases hm : nmL (p.flatten.take n) with
          | false =>
            rw [hm, if_pos rfl] at hu
            rw [hu]; simp [R_At]
          | true =>
            rw [hm, if_neg (by simp)] at hu
            simp only [Bool.not_true, Bool.false_eq_true, if_false]
            rw [chk_succ (by omega)]
            simp only [bsome]
            rw [cut_from rfl (by omega)]
            simp only [bsome]
            rw [R_Trim_eq _ (by unfold Big; rw [List.length_drop]; omega)]
            simp only [bsome]
            by_cases h4 : 4000 < (trimB (p.flatten.drop (n + 1))).length
            · rw [if_pos h4] at hu
              rw [if_pos (by omega), hu]; simp [R_At]
            · rw [if_neg h4] at hu
              rw [if_neg (by omega), hu]; simp
/-! the law of the round -/
theorem ufz_none {p : List (List UInt8)} : ∀ {i : Nat}, (∀ (j : Nat) (a : List UInt8), p[j]? = some a → badL (i + j) a = false) → ufz i p = none := by
  induction p with
  | nil => intro i _; rfl
  | cons a r ih =>
    intro i h
    rw [ufz, if_neg (by have := h 0 a rfl; rw [Nat.add_zero] at this; rw [this]; simp)]
    exact ih (fun j x hx => by have := h (j + 1) x (by simpa using hx); rwa [show i + (j + 1) = i + 1 + j by omega] at this)
/-- the lines of a text: behind the first one, each begins with a blank -/
theorem fl_hd : ∀ (n : Nat) (s : List UInt8) (k : Nat), 0 < k → s.length ≤ n → ∀ (j : Nat) (a : List UInt8), (fl s k)[j + 1]? = some a → hd a = false
  | 0, s, k, hk, h => by intro j a ha; rw [fl_end (fun h' => by omega)] at ha; simp at ha
  | n + 1, s, k, hk, h => by
    intro j a ha
    by_cases hc : 78 < s.length ∧ pt s k ≠ 0
    · obtain ⟨p1, p2, p3⟩ := pt_lt hk hc.2
      rw [fl_more hk hc] at ha
      cases j with
      | succ j => exact fl_hd n (s.drop (pt s k)) 1 (by omega) (by rw [List.length_drop]; omega) j a (by simpa using ha)
      | zero =>
        rw [bk_at' (by omega) p2, decide_eq_true_eq] at p3
        have h0 : (fl (s.drop (pt s k)) 1)[0]? = some a := by simpa using ha
        rw [drop_cons p2] at h0
        by_cases hc2 : 78 < (s[pt s k] :: s.drop (pt s k + 1)).length ∧ pt (s[pt s k] :: s.drop (pt s k + 1)) 1 ≠ 0
        · have h1 := pt_lt (by omega) hc2.2
          rw [fl_more (by omega) hc2] at h0
          simp only [List.getElem?_cons_zero, Option.some.injEq] at h0
          rw [← h0, show pt (s[pt s k] :: s.drop (pt s k + 1)) 1 = (pt (s[pt s k] :: s.drop (pt s k + 1)) 1 - 1) + 1 by omega, List.take_succ_cons]
          simp [hd, p3.1]
        · rw [fl_end hc2] at h0
          simp only [List.getElem?_cons_zero, Option.some.injEq] at h0
          rw [← h0]
          simp [hd, p3.1]
    · rw [fl_end hc] at ha; simp at ha
theorem nm_end {n : List UInt8} (h : nmL n = true) : n.any endB = false ∧ ∀ c ∈ n, c ≠ 58 := by
  unfold nmL at h
  rw [Bool.and_eq_true, List.all_eq_true] at h
  constructor
  · rw [List.any_eq_false]
    intro c hc he
    have := h.1 c hc
    unfold nmB at this
    unfold endB at he
    rw [decide_eq_true_eq] at this he
    omega
  · intro c hc he
    have := h.1 c hc
    unfold nmB at this
    rw [decide_eq_true_eq] at this
    have := (u8_lit c 58).1 he
    have h58 : (58 : UInt8).toNat = 58 := rfl
    omega
theorem ixB_name {n r : List UInt8} (h : ∀ c ∈ n, c ≠ 58) : ixB (n ++ 58 :: r) 58 = (n.length : Int) := by
  induction n with
  | nil => rw [List.nil_append, ixB_cons, if_pos rfl]; rfl
  | cons c n ih =>
    rw [List.cons_append, ixB_cons, if_neg (h c (by simp)), ih (fun d hd => h d (by simp [hd])), if_neg (by omega), List.length_cons]
    omega
theorem valB_split {v : List UInt8} (h : valB v = true) : v.any endB = false ∧ trimB v = v := by
  unfold valB at h
  rw [Bool.and_eq_true, decide_eq_true_eq] at h
  exact ⟨by simpa using h.1, h.2⟩
theorem L_FoldRoundTrip_true (n v : List UInt8) (hn : Big n) (hv : Big v) : L_FoldRoundTrip n v = some true := by
  unfold L_FoldRoundTrip
  rw [foldExample_true, fold_Fold_eq n v hn hv]
  simp only [bsome, if_true]
  unfold foldR
  by_cases h : codeF n v = 0
  · obtain ⟨h1, h2, h3⟩ := codeF_zero h
    have h60 := nmL_len h1
    obtain ⟨v1, v2⟩ := valB_split h3
    obtain ⟨n1, n2⟩ := nm_end h1
    have hsl : (fieldS n v).length = n.length + 2 + v.length := by unfold fieldS; simp; omega
    have hfl := fl_len (fieldS n v).length (fieldS n v) (n.length + 2) (by omega) (Nat.le_refl _)
    have hflat := fl_flat (fieldS n v).length (fieldS n v) (n.length + 2) (by omega) (Nat.le_refl _)
    simp only [h, if_true]
    cases hf : (fl (fieldS n v) (n.length + 2)).findIdx? bigL with
    | some j => simp
    | none =>
      simp only [if_true, bsome]
      by_cases h300 : 300 < (fl (fieldS n v) (n.length + 2)).length
      · rw [decide_eq_true (by omega)]; simp
      · rw [decide_eq_false (by omega)]
        simp only [Bool.false_eq_true, if_false]
        have hmem : ∀ a ∈ fl (fieldS n v) (n.length + 2), a.length ≤ (fieldS n v).length := fun a ha => by
          rw [← hflat]; exact (List.sublist_flatten_of_mem ha).length_le
        rw [fold_Unfold_eq _ (fun a ha => by have := hmem a ha; unfold Big; omega)]
        have hend : (fieldS n v).any endB = false := by unfold fieldS; rw [List.any_append, List.any_append, n1, v1]; rfl
        have hu : ufz 0 (fl (fieldS n v) (n.length + 2)) = none := ufz_none (fun j a ha => by
          rw [Nat.zero_add]
          unfold badL
          have he : a.any endB = false := by
            rw [List.any_eq_false] at hend ⊢
            intro c hc
            exact hend c (by rw [← hflat]; exact List.mem_flatten.2 ⟨a, List.mem_of_getElem? ha, hc⟩)
          rw [he, Bool.false_or]
          cases j with
          | zero => rfl
          | succ j => rw [fl_hd _ _ _ (by omega) (Nat.le_refl _) j a ha, Bool.and_false])
        have hix : ixB (fieldS n v) 58 = (n.length : Int) := by unfold fieldS; rw [List.append_assoc]; exact ixB_name n2
        have htake : (fieldS n v).take n.length = n := by unfold fieldS; rw [List.append_assoc]; exact List.take_left
        have hdrop : (fieldS n v).drop (n.length + 1) = 32 :: v := by
          unfold fieldS
          rw [List.append_assoc, List.drop_append, List.drop_of_length_le (by omega), List.nil_append, show n.length + 1 - n.length = 1 by omega]; rfl
        have htrim : trimB (32 :: v) = v := by
          unfold trimB
          rw [trimL_pos (by decide)]
          exact v2
        unfold unfoldR
        rw [if_neg h300, hu]
        simp only [hflat, hix, Int.toNat_natCast, htake, hdrop, htrim, h1]
        rw [if_neg (by omega), if_neg (show ¬ ((n.length : Int) < 0 ∨ true = false) from fun h => h.elim (by omega) (fun h => by cases h)), if_neg (by omega)]
        simp
  · simp [h]
/-! the law of short lines -/
theorem sc_none (s : List UInt8) : ∀ (f i best : Nat), sc s f i best = 0 → 0 < i → ∀ j, i ≤ j → j < i + f → bk s j = false
  | 0, i, best, h, h0, j, h1, h2 => by omega
  | f + 1, i, best, h, h0, j, h1, h2 => by
    rw [sc] at h
    cases hb : bk s i with
    | true =>
      rw [hb, if_pos rfl] at h
      split at h
      · rcases sc_le s f (i + 1) i with e | ⟨e, _, _⟩ <;> omega
      · rcases sc_le s f (i + 1) best with e | ⟨e, _, _⟩ <;> omega
    | false =>
      rw [hb, if_neg (by simp)] at h
      rcases Nat.eq_or_lt_of_le h1 with rfl | h1
      · exact hb
      · exact sc_none s f (i + 1) best h (by omega) j h1 (by omega)
/-- what is chosen lies behind 78 only if nothing is before it -/
theorem sc_long (s : List UInt8) : ∀ (f i best : Nat), 0 < i → 78 < sc s f i best → best ≤ 78 → (best = 0 ∧ ∀ j, i ≤ j → j < sc s f i best → bk s j = false)
  | 0, i, best, h0, h, hb => by rw [sc] at h; omega
  | f + 1, i, best, h0, h, hb => by
    rw [sc] at h ⊢
    cases hbk : bk s i with
    | true =>
      rw [hbk, if_pos rfl] at h
      simp only [if_true]
      by_cases hc : best = 0 ∨ i ≤ 78
      · rw [if_pos hc] at h ⊢
        by_cases hi : i ≤ 78
        · have := sc_long s f (i + 1) i (by omega) h hi
          omega
        · have hst := sc_stay s f (i + 1) i (by omega) (by omega)
          rw [hst]
          exact ⟨hc.resolve_right hi, fun j h1 h2 => by omega⟩
      · rw [if_neg hc] at h ⊢
        have := sc_long s f (i + 1) best (by omega) h hb
        omega
    | false =>
      rw [hbk, if_neg (by simp)] at h
      simp only [Bool.false_eq_true, if_false]
      obtain ⟨e1, e2⟩ := sc_long s f (i + 1) best (by omega) h hb
      exact ⟨e1, fun j h1 h2 => by
        rcases Nat.eq_or_lt_of_le h1 with rfl | h1
        · exact hbk
        · exact e2 j h1 h2⟩
theorem bk_take {s : List UInt8} {p j : Nat} (h : j < p) : bk (s.take p) j = bk s j := by
  unfold bk
  rw [List.getElem?_take, List.getElem?_take, if_pos (by omega), if_pos h]
/-- a line as the law wants it -/
def okLine (from_ : Nat) (a : List UInt8) : Prop := (78 < a.length → ∀ j, from_ ≤ j → j < a.length → bk a j = false) ∧ a ≠ []
theorem fl_ok : ∀ (n : Nat) (s : List UInt8) (k : Nat), 0 < k → s.length ≤ n → s ≠ [] → ∀ (i : Nat) (a : List UInt8), (fl s k)[i]? = some a → okLine (if i = 0 then k else 1) a ∧ ((∀ c, s.getLast? = some c → ¬ bl c) → ∀ c, a.getLast? = some c → ¬ bl c)
  | 0, s, k, hk, h, hne => by exact absurd (List.eq_nil_of_length_eq_zero (by omega)) hne
  | n + 1, s, k, hk, h, hne => by
    intro i a ha
    by_cases hc : 78 < s.length ∧ pt s k ≠ 0
    · obtain ⟨p1, p2, p3⟩ := pt_lt hk hc.2
      rw [fl_more hk hc] at ha
      cases i with
      | zero =>
        simp only [List.getElem?_cons_zero, Option.some.injEq] at ha
        subst ha
        have hl : (s.take (pt s k)).length = pt s k := by rw [List.length_take]; omega
        refine ⟨⟨fun h78 j h1 h2 => ?_, fun h0 => by rw [h0] at hl; simp at hl; omega⟩, fun _ c hc' => ?_⟩
        · rw [hl] at h78 h2
          rw [bk_take h2]
          exact (sc_long s (s.length - k) k 0 hk h78 (by omega)).2 j h1 h2
        · rw [bk_at' (by omega) p2, decide_eq_true_eq] at p3
          rw [List.getLast?_eq_getElem?, hl, List.getElem?_take, if_pos (by omega), List.getElem?_eq_getElem (by omega)] at hc'
          cases hc'
          exact p3.2
      | succ i =>
        have hd' : s.drop (pt s k) ≠ [] := by rw [ne_eq, List.drop_eq_nil_iff]; omega
        have := fl_ok n (s.drop (pt s k)) 1 (by omega) (by rw [List.length_drop]; omega) hd' i a (by simpa using ha)
        rw [ite_self] at this
        rw [if_neg (by omega)]
        refine ⟨this.1, fun hs => this.2 (fun c hc' => hs c ?_)⟩
        rw [List.getLast?_drop] at hc'
        rw [if_neg (by omega)] at hc'
        exact hc'
    · rw [fl_end hc] at ha
      cases i with
      | succ i => simp at ha
      | zero =>
        simp only [List.getElem?_cons_zero, Option.some.injEq] at ha
        subst ha
        refine ⟨⟨fun h78 j h1 h2 => ?_, hne⟩, fun hs => hs⟩
        have hp0 : pt s k = 0 := by
          rcases Nat.eq_zero_or_pos (pt s k) with h | h
          · exact h
          · exact absurd ⟨h78, by omega⟩ hc
        exact sc_none s (s.length - k) k 0 hp0 hk j h1 (by have : j < s.length := h2; simp at h1; omega)
theorem short_L2 (lines : List (List UInt8)) (i : Nat) (hi : i < lines.length) (hb : (lines[i]).length ≤ 1000000) (from_ : Nat) (hf : 0 < from_) (hok : 78 < (lines[i]).length → ∀ j, from_ ≤ j → j < (lines[i]).length → bk lines[i] j = false) :
    ∀ (k j m : Nat), (lines[i]).length - j ≤ k → k < m → from_ ≤ j → L_FoldShortLines_L2 lines (i : Int) m (j : Int) = some (.inl ())
  | k, j, m, h1, h2, h3 => by
    obtain ⟨m, rfl⟩ : ∃ k, m = k + 1 := ⟨m - 1, by omega⟩
    rw [L_FoldShortLines_L2, idx_nat, List.getElem?_eq_getElem hi]
    simp only [bsome]
    by_cases hj : j < (lines[i]).length
    · rw [if_pos (by omega)]
      simp only [bsome]
      by_cases h78 : 78 < (lines[i]).length
      · cases k with
        | zero => omega
        | succ k =>
        have hbk := hok h78 j h3 hj
        rw [bk_at' (by omega) hj] at hbk
        rw [decide_eq_true (by omega), if_pos rfl, idx_nat, List.getElem?_eq_getElem hj, chk_pred (by omega) (by omega)]
        simp only [bsome, R_Blank_eq]
        rw [idx_nat, List.getElem?_eq_getElem (show j - 1 < (lines[i]).length by omega)]
        simp only [bsome, R_Blank_eq]
        have hc : (if decide (bl (lines[i])[j]) = true then some (!decide (bl ((lines[i])[j - 1]'(by omega)))) else some false) = some false := by
          rw [decide_eq_false_iff_not] at hbk
          by_cases c1 : bl (lines[i])[j] <;> by_cases c2 : bl ((lines[i])[j - 1]'(by omega)) <;> simp [c1, c2] at hbk ⊢
        rw [hc]
        simp only [bsome, Bool.false_eq_true, if_false]
        rw [chk_succ (by omega)]
        simp only [bsome]
        exact short_L2 lines i hi hb from_ hf hok k (j + 1) m (by omega) (by omega) (by omega)
      · rw [decide_eq_false (by omega), if_neg (by simp)]
    · rw [if_neg (by omega)]
      simp only [bsome, Bool.false_eq_true, if_false]
theorem L_FoldShortLines_true (n v : List UInt8) (hn : Big n) (hv : Big v) : L_FoldShortLines n v = some true := by
  unfold L_FoldShortLines
  rw [foldExample_true, fold_Fold_eq n v hn hv]
  simp only [bsome, if_true]
  unfold foldR
  by_cases h : codeF n v = 0
  · obtain ⟨h1, h2, h3⟩ := codeF_zero h
    have h60 := nmL_len h1
    obtain ⟨v1, v2⟩ := valB_split h3
    have hsl : (fieldS n v).length = n.length + 2 + v.length := by unfold fieldS; simp; omega
    have hfl := fl_len (fieldS n v).length (fieldS n v) (n.length + 2) (by omega) (Nat.le_refl _)
    have hflat := fl_flat (fieldS n v).length (fieldS n v) (n.length + 2) (by omega) (Nat.le_refl _)
    simp only [h, if_true]
    cases hf : (fl (fieldS n v) (n.length + 2)).findIdx? bigL with
    | some j => simp
    | none =>
      simp only [if_true]
      rw [fl_next (by omega) (field_bk n v)] at hfl hflat ⊢
      have hok := fl_ok (fieldS n v).length (fieldS n v) (n.length + 3) (by omega) (Nat.le_refl _) (fun h0 => by rw [h0] at hsl; simp at hsl; omega)
      have hmem : ∀ a ∈ fl (fieldS n v) (n.length + 3), a.length ≤ (fieldS n v).length := fun a ha => by
        conv => rhs; rw [← hflat]
        exact (List.sublist_flatten_of_mem ha).length_le
      have hlast : v ≠ [] → ∀ c, (fieldS n v).getLast? = some c → ¬ bl c := fun hv0 c hc => by
        rcases (trimB_self v).1 v2 with h0 | ⟨_, h0⟩
        · exact absurd h0 hv0
        · refine h0 c ?_
          unfold fieldS at hc
          rw [List.getLast?_append] at hc
          rcases snoc_cases v with hv1 | ⟨a, x, hax⟩
          · exact absurd hv1 hv0
          · rw [hax] at hc ⊢
            simpa using hc
      generalize hL : fl (fieldS n v) (n.length + 3) = lines at *
      have hmem' : ∀ (i : Nat) (hi : i < lines.length), (lines[i]).length ≤ 1000000 := fun i hi => by have := hmem _ (List.getElem_mem hi); omega
      have loop : ∀ (k i m : Nat), lines.length - i ≤ k → k < m → i ≤ lines.length → L_FoldShortLines_L1 n v lines m (i : Int) = some (.inl ()) := by
        intro k
        induction k with
        | zero =>
          intro i m a1 a2 a3
          obtain ⟨m, rfl⟩ : ∃ k, m = k + 1 := ⟨m - 1, by omega⟩
          rw [L_FoldShortLines_L1, if_neg (by omega)]
        | succ k ih =>
          intro i m a1 a2 a3
          obtain ⟨m, rfl⟩ : ∃ k, m = k + 1 := ⟨m - 1, by omega⟩
          by_cases hi : i < lines.length
          · obtain ⟨⟨o1, o2⟩, o3⟩ := hok i lines[i] (List.getElem?_eq_getElem hi)
            rw [L_FoldShortLines_L1, if_pos (by omega)]
            have hfrom : (if (i : Int) = 0 then (chk ((n.length : Int) + 3)).bind fun n18 => some n18 else some 1) = some (((if i = 0 then n.length + 3 else 1 : Nat)) : Int) := by
              by_cases h0 : i = 0
              · rw [if_pos (by omega), if_pos h0, show ((n.length : Int) + 3) = ((n.length + 3 : Nat) : Int) by omega, chk_ok (by omega) (by omega)]
                simp only [bsome]
              · rw [if_neg (by omega), if_neg h0]; rfl
            rw [hfrom]
            simp only [bsome]
            rw [short_L2 lines i hi (hmem' i hi) (if i = 0 then n.length + 3 else 1) (by split <;> omega) o1 (lines[i]).length _ FU (by omega) (FU_gt (by have := hmem' i hi; omega)) (Nat.le_refl _)]
            simp only [bsome]
            rw [idx_nat, List.getElem?_eq_getElem hi]
            simp only [bsome]
            have hpos : 0 < (lines[i]).length := by
              rcases Nat.eq_zero_or_pos (lines[i]).length with h0 | h0
              · exact absurd (List.eq_nil_of_length_eq_zero h0) o2
              · exact h0
            have hml := hmem' i hi
            rw [if_neg o2, chk_pred (by omega) (by omega)]
            simp only [bsome]
            rw [idx_nat, List.getElem?_eq_getElem (show (lines[i]).length - 1 < (lines[i]).length by omega)]
            simp only [bsome, R_Blank_eq]
            have hb : (if v = [] then some false else some (decide (bl ((lines[i])[(lines[i]).length - 1]'(by omega))))) = some false := by
              by_cases hv0 : v = []
              · rw [if_pos hv0]
              · rw [if_neg hv0, decide_eq_false (o3 (hlast hv0) _ (by rw [List.getLast?_eq_getElem?, List.getElem?_eq_getElem]))]
            rw [hb]
            simp only [bsome, Bool.false_eq_true, if_false]
            rw [chk_succ (by omega)]
            simp only [bsome]
            exact ih (i + 1) m (by omega) (by omega) (by omega)
          · rw [L_FoldShortLines_L1, if_neg (by omega)]
      have := loop lines.length 0 FU (by omega) (FU_gt (by omega)) (by omega)
      rw [show ((0 : Nat) : Int) = 0 from rfl] at this
      rw [this]
      simp only [bsome]
      have hpos : 0 < lines.length := by
        rcases Nat.eq_zero_or_pos lines.length with h0 | h0
        · rw [List.eq_nil_of_length_eq_zero h0] at hflat
          have h0' := congrArg List.length hflat
          simp at h0'
          omega
        · exact h0
      rw [decide_eq_true (by omega)]
  · simp [h]
end Go.Ph.Pf
