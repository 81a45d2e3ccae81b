/-
  Quoted: the plain forms of the reference's functions and of the laws answer as the plain theory says. No program in sight.
-/
import Derived.Test.YtolmifddbjdepaaDoorQpf
set_option linter.unusedVariables false
set_option linter.unusedSimpArgs false
namespace Go.Ph.Pf
open Go.Ph.Pl Go.Ph.Qp
theorem u8_at (c : UInt8) (n : UInt8) : c = n ↔ c.toNat = n.toNat := UInt8.toNat_inj.symm
theorem R_Blank_eq (c : UInt8) : R_Blank c = some (decide (bl c)) := by
  unfold R_Blank bl
  have e1 : (c = 32) ↔ c.toNat = 32 := u8_at c 32
  have e2 : (c = 9) ↔ c.toNat = 9 := u8_at c 9
  by_cases h : c = 32
  · simp [h]
  · rw [if_neg h]
    have h' : ¬ c.toNat = 32 := fun x => h (e1.2 x)
    simp [h', e2]
theorem R_In_eq (a b c : Int) : R_In a b c = some (decide (b ≤ a ∧ a ≤ c)) := by
  unfold R_In
  by_cases h : b ≤ a <;> simp [h]
theorem R_Bytes_eq (a b : List UInt8) : R_Bytes a b = some (decide (a = b)) := by unfold R_Bytes; rfl
theorem lineAt_drop {l : List UInt8} {i : Nat} : lineAt (l.drop i) ↔ l[i]? = some 13 ∧ l[i + 1]? = some 10 := by
  rw [lineAt_iff]
  constructor
  · rintro ⟨r, h⟩
    have h0 : (l.drop i)[0]? = some 13 := by rw [h]; rfl
    have h1 : (l.drop i)[1]? = some 10 := by rw [h]; rfl
    rw [List.getElem?_drop] at h0 h1
    exact ⟨h0, h1⟩
  · rintro ⟨h0, h1⟩
    obtain ⟨a1, a2⟩ := List.getElem?_eq_some_iff.1 h0
    obtain ⟨b1, b2⟩ := List.getElem?_eq_some_iff.1 h1
    exact ⟨l.drop (i + 1 + 1), by rw [List.drop_eq_getElem_cons a1, a2, List.drop_eq_getElem_cons b1, b2]⟩
theorem R_Crlf_eq (l : List UInt8) (i : Nat) (hi : i < 9223372036854775807) : R_Crlf l (i : Int) = some (decide (lineAt (l.drop i))) := by
  unfold R_Crlf
  rw [chk_succ (by omega)]
  simp only [bsome, idx_nat]
  by_cases h1 : ((i + 1 : Nat) : Int) < (l.length : Int)
  · rw [if_pos h1]
    rw [List.getElem?_eq_getElem (show i < l.length by omega), List.getElem?_eq_getElem (show i + 1 < l.length by omega)]
    simp only [bsome]
    by_cases h2 : l[i] = 13
    · rw [if_pos h2]
      simp only [bsome, Option.some.injEq]
      exact decide_eq_decide.2 (by rw [lineAt_drop, List.getElem?_eq_getElem (show i < l.length by omega), List.getElem?_eq_getElem (show i + 1 < l.length by omega)]; simp [h2])
    · rw [if_neg h2]
      simp only [bsome, Option.some.injEq]
      exact (decide_eq_false (by rw [lineAt_drop, List.getElem?_eq_getElem (show i < l.length by omega)]; simp [h2])).symm
  · rw [if_neg h1]
    simp only [bsome, Option.some.injEq]
    exact (decide_eq_false (by rw [lineAt_drop, List.getElem?_eq_none (show l.length ≤ i + 1 by omega)]; simp)).symm
theorem digs_cut {n : Nat} (h : n < 16) : ((digs.take (n + 1)).drop n) = [digs.getD n 0] := by revert n; decide
theorem R_Two_eq (c : UInt8) : R_Two c = some [dig (c.toNat / 16), dig c.toNat] := by
  have hc := c.toNat_lt
  have key : ∀ n : Nat, n < 16 → cut [48, 49, 50, 51, 52, 53, 54, 55, 56, 57, 65, 66, 67, 68, 69, 70] (((UInt8.ofNat n).toNat : Nat) : Int) ((((UInt8.ofNat n) + (1 : UInt8)).toNat : Nat) : Int) = some [dig n] := by decide
  unfold R_Two
  rw [key _ (by omega), key _ (by omega)]
  simp only [bsome]
  rw [cat_ok (by simp)]
  simp only [bsome, Option.some.injEq, List.cons_append, List.nil_append, dig, Nat.mod_mod]
theorem drop_at {α : Type} {l : List α} {i : Nat} (h : i < l.length) : l.drop i = l[i] :: l.drop (i + 1) := List.drop_eq_getElem_cons h
theorem R_LineUnits_loop (l : List UInt8) (hl : l.length ≤ 1000000) : ∀ (k i m : Nat) (o : List (List UInt8)), l.length - i ≤ k → k < m → o.length = i → i ≤ l.length → R_LineUnits_L1 l m o (i : Int) = some (o ++ lu (l.drop i))
  | 0, i, m, o, h1, h2, h3, h4 => by
    obtain ⟨m, rfl⟩ : ∃ k, m = k + 1 := ⟨m - 1, by omega⟩
    rw [R_LineUnits_L1, if_neg (by omega), List.drop_of_length_le (by omega)]
    simp [lu]
  | k + 1, i, m, o, h1, h2, h3, h4 => by
    obtain ⟨m, rfl⟩ : ∃ k, m = k + 1 := ⟨m - 1, by omega⟩
    by_cases hi : i < l.length
    · have ih := fun o h => R_LineUnits_loop l hl k (i + 1) m o (by omega) (by omega) h (by omega)
      rw [R_LineUnits_L1, if_pos (by omega), idx_nat, List.getElem?_eq_getElem hi]
      simp only [bsome, R_In_eq, R_Blank_eq, R_Two_eq, chk_succ (show i + 1 ≤ 9223372036854775807 by omega)]
      have hlt := l[i].toNat_lt
      have e61 : (l[i] = 61) ↔ l[i].toNat = 61 := u8_at _ 61
      have hne : (((i + 1 : Nat) : Int) < (l.length : Int)) ↔ l.drop (i + 1) ≠ [] := by rw [ne_eq, List.drop_eq_nil_iff]; omega
      rw [drop_at hi, lu]
      have key : ∀ b : Bool, (b = true ↔ ((33 ≤ l[i].toNat ∧ l[i].toNat ≤ 126 ∧ l[i].toNat ≠ 61) ∨ (bl l[i] ∧ l.drop (i + 1) ≠ []))) →
          (if b = true then (app 16 o [[l[i]]]).bind fun l29 => R_LineUnits_L1 l m l29 ((i + 1 : Nat) : Int) else (cat [61] [dig (l[i].toNat / 16), dig l[i].toNat]).bind fun s33 => (app 16 o [s33]).bind fun l34 => R_LineUnits_L1 l m l34 ((i + 1 : Nat) : Int)) =
          some (o ++ (if (33 ≤ l[i].toNat ∧ l[i].toNat ≤ 126 ∧ l[i].toNat ≠ 61) ∨ (bl l[i] ∧ l.drop (i + 1) ≠ []) then [l[i]] else hex l[i]) :: lu (l.drop (i + 1))) := by
        intro b hb
        cases b with
        | true =>
          rw [if_pos rfl, if_pos (hb.1 rfl), app_ok (by simp; omega)]
          simp only [bsome]
          rw [ih _ (by simp; omega)]
          simp
        | false =>
          rw [if_neg (by simp), if_neg (fun h => by have := hb.2 h; cases this), cat_ok (by simp)]
          simp only [bsome]
          rw [app_ok (by simp; omega)]
          simp only [bsome]
          rw [ih _ (by simp; omega)]
          simp [hex]
      have fin : ∀ (ob : Option Bool) (b : Bool), ob = some b → (b = true ↔ ((33 ≤ l[i].toNat ∧ l[i].toNat ≤ 126 ∧ l[i].toNat ≠ 61) ∨ (bl l[i] ∧ l.drop (i + 1) ≠ []))) →
          (ob.bind fun b => if b = true then (app 16 o [[l[i]]]).bind fun l29 => R_LineUnits_L1 l m l29 ((i + 1 : Nat) : Int) else (cat [61] [dig (l[i].toNat / 16), dig l[i].toNat]).bind fun s33 => (app 16 o [s33]).bind fun l34 => R_LineUnits_L1 l m l34 ((i + 1 : Nat) : Int)) =
          some (o ++ (if (33 ≤ l[i].toNat ∧ l[i].toNat ≤ 126 ∧ l[i].toNat ≠ 61) ∨ (bl l[i] ∧ l.drop (i + 1) ≠ []) then [l[i]] else hex l[i]) :: lu (l.drop (i + 1))) := by
        intro ob b hob hb
        rw [hob]; exact key b hb
      refine fin _ (decide ((33 ≤ l[i].toNat ∧ l[i].toNat ≤ 126 ∧ l[i].toNat ≠ 61) ∨ (bl l[i] ∧ l.drop (i + 1) ≠ []))) ?_ (by rw [decide_eq_true_eq])
      have d33 : (decide ((33 : Int) ≤ (l[i].toNat : Int) ∧ (l[i].toNat : Int) ≤ 126) = true) ↔ (33 ≤ l[i].toNat ∧ l[i].toNat ≤ 126) := by rw [decide_eq_true_eq]; omega
      by_cases c1 : 33 ≤ l[i].toNat ∧ l[i].toNat ≤ 126
      · rw [if_pos (d33.2 c1)]
        by_cases c2 : l[i] = 61
        · rw [if_pos c2]
          have c2' := e61.1 c2
          rw [if_neg (show ¬ (decide (bl l[i]) = true) by rw [decide_eq_true_eq]; unfold bl; omega)]
          rw [decide_eq_false (by unfold bl; omega)]
        · rw [if_neg c2, decide_eq_true (.inl ⟨c1.1, c1.2, fun x => c2 (e61.2 x)⟩)]
      · rw [if_neg (fun x => c1 (d33.1 x))]
        by_cases c3 : bl l[i]
        · rw [if_pos (decide_eq_true c3)]
          refine congrArg some (decide_eq_decide.2 ?_)
          rw [hne]
          constructor
          · exact fun h => .inr ⟨c3, h⟩
          · rintro (h | h)
            · exact absurd ⟨h.1, h.2.1⟩ c1
            · exact h.2
        · rw [if_neg (by rw [decide_eq_true_eq]; exact c3), decide_eq_false]
          rintro (h | h)
          · exact c1 ⟨h.1, h.2.1⟩
          · exact c3 h.1
    · rw [R_LineUnits_L1, if_neg (by omega), List.drop_of_length_le (by omega)]
      simp [lu]
theorem R_LineUnits_eq (l : List UInt8) (hl : l.length ≤ 1000000) : R_LineUnits l = some (lu l) := by
  unfold R_LineUnits
  have := R_LineUnits_loop l hl l.length 0 FU [] (by omega) (by rw [FU_eq]; omega) rfl (by omega)
  rw [show ((0 : Nat) : Int) = 0 from rfl] at this
  rw [this]
  simp
/-! the reference's encoding -/
def rm (us : List (List UInt8)) : Nat := if us = [] then 76 else 75
def gu : Nat → List (List UInt8) → List UInt8
  | _, [] => []
  | col, u :: us => if rm us < col + u.length then [61, 13, 10] ++ u ++ gu u.length us else u ++ gu (col + u.length) us
theorem lu_nil {l : List UInt8} : lu l = [] ↔ l = [] := by cases l <;> simp [lu]
theorem lu_three : ∀ (l : List UInt8), ∀ u ∈ lu l, u.length ≤ 3
  | [], u, h => by simp [lu] at h
  | c :: r, u, h => by
    rw [lu, List.mem_cons] at h
    rcases h with h | h
    · rw [h]; split <;> simp [hex]
    · exact lu_three r u h
theorem enc_seg : ∀ (seg rest : List UInt8) (col : Nat), (rest = [] ∨ lineAt rest) → (∀ k, k < seg.length → ¬ lineAt ((seg ++ rest).drop k)) →
    enc col (seg ++ rest) = gu col (lu seg) ++ (if rest = [] then [] else 13 :: 10 :: enc 0 (rest.drop 2))
  | [], rest, col, hr, _ => by
    rcases hr with rfl | hr
    · simp [lu, gu, enc_nil]
    · obtain ⟨r, rfl⟩ := lineAt_iff.1 hr
      simp [lu, gu, enc_line]
  | c :: seg, rest, col, hr, hn => by
    have h0 : ¬ lineAt (c :: (seg ++ rest)) := hn 0 (by simp)
    have ih := fun col => enc_seg seg rest col hr (fun k hk => hn (k + 1) (by simpa using hk))
    have hiff : ((seg ++ rest) = [] ∨ lineAt (seg ++ rest)) ↔ seg = [] := by
      constructor
      · intro h
        cases seg with
        | nil => rfl
        | cons d seg =>
          rcases h with h | h
          · cases h
          · exact absurd h (hn 1 (by simp))
      · rintro rfl; simpa using hr
    have hm : most (seg ++ rest) = rm (lu seg) := by
      unfold most rm
      by_cases hs : seg = []
      · rw [if_neg (fun h => (hiff.2 hs).elim h.1 h.2), if_pos (lu_nil.2 hs)]
      · rw [if_pos ⟨fun h => hs (hiff.1 (.inl h)), fun h => hs (hiff.1 (.inr h))⟩, if_neg (fun h => hs (lu_nil.1 h))]
    rw [List.cons_append, enc_cons h0, lu, gu, lu_sg hiff, hm]
    split
    · rw [ih]; simp
    · rw [ih]; simp
theorem R_Quoted_L2_eq (l : List UInt8) (hl : l.length ≤ 1000000) : ∀ (k i m : Nat), l.length - i ≤ k → k < m → i ≤ l.length →
    ∃ e, i ≤ e ∧ e ≤ l.length ∧ (∀ j, i ≤ j → j < e → ¬ lineAt (l.drop j)) ∧ (e = l.length ∨ lineAt (l.drop e)) ∧ R_Quoted_L2 l m (i : Int) = some (e : Int)
  | k, i, m, h1, h2, h3 => by
    obtain ⟨m, rfl⟩ : ∃ k, m = k + 1 := ⟨m - 1, by omega⟩
    by_cases hi : i < l.length
    · rw [R_Quoted_L2, if_pos (by omega), R_Crlf_eq _ _ (by omega)]
      simp only [bsome]
      by_cases hc : lineAt (l.drop i)
      · rw [decide_eq_true hc]
        exact ⟨i, Nat.le_refl _, h3, fun j a b => by omega, .inr hc, by simp⟩
      · cases k with
        | zero => omega
        | succ k =>
          obtain ⟨e, a1, a2, a3, a4, a5⟩ := R_Quoted_L2_eq l hl k (i + 1) m (by omega) (by omega) (by omega)
          rw [decide_eq_false hc]
          simp only [Bool.not_false, if_true, chk_succ (show i + 1 ≤ 9223372036854775807 by omega), bsome, a5]
          exact ⟨e, by omega, a2, fun j b1 b2 => by
            rcases Nat.eq_or_lt_of_le b1 with rfl | b1
            · exact hc
            · exact a3 j b1 b2, a4, rfl⟩
    · rw [R_Quoted_L2, if_neg (by omega)]
      exact ⟨i, Nat.le_refl _, h3, fun j a b => by omega, .inl (by omega), by simp⟩
theorem R_Quoted_L3_eq (us : List (List UInt8)) (hu : ∀ u ∈ us, u.length ≤ 3) (hl : us.length ≤ 1000000) : ∀ (k i m col : Nat) (o : List UInt8), us.length - i ≤ k → k < m → i ≤ us.length → o.length + 6 * (us.length - i) ≤ 1000000000 → col ≤ 76 →
    R_Quoted_L3 us m o (col : Int) (i : Int) = some (o ++ gu col (us.drop i))
  | k, i, m, col, o, h1, h2, h3, h4, h5 => by
    obtain ⟨m, rfl⟩ : ∃ k, m = k + 1 := ⟨m - 1, by omega⟩
    by_cases hi : i < us.length
    · cases k with
      | zero => omega
      | succ k =>
        have hx := hu us[i] (List.getElem_mem hi)
        have ih := fun col o => R_Quoted_L3_eq us hu hl k (i + 1) m col o (by omega) (by omega) (by omega)
        rw [R_Quoted_L3, if_pos (by omega), chk_succ (by omega), idx_nat, List.getElem?_eq_getElem hi, drop_at hi, gu]
        simp only [bsome]
        have hr : (if ((i + 1 : Nat) : Int) = (us.length : Int) then some (76 : Int) else some 75) = some ((rm (us.drop (i + 1)) : Nat) : Int) := by
          unfold rm
          by_cases he : i + 1 = us.length
          · rw [if_pos (by omega), if_pos (by rw [List.drop_eq_nil_iff]; omega)]; rfl
          · rw [if_neg (by omega), if_neg (by rw [List.drop_eq_nil_iff]; omega)]; rfl
        rw [hr]
        have hrm : rm (us.drop (i + 1)) ≤ 76 := by unfold rm; split <;> omega
        simp only [bsome]
        rw [chk_addN _ (by omega)]
        simp only [bsome]
        by_cases hc : rm (us.drop (i + 1)) < col + us[i].length
        · rw [if_pos (by omega), if_pos hc, cat_ok (by simp; omega)]
          simp only [bsome]
          rw [cat_ok (by simp; omega)]
          simp only [bsome]
          rw [show (0 : Int) + (us[i].length : Int) = ((us[i].length : Nat) : Int) by omega, chk_ok (by omega) (by omega)]
          simp only [bsome]
          rw [ih _ _ (by simp; omega) (by omega)]
          simp
        · rw [if_neg (by omega), if_neg hc]
          simp only [bsome]
          rw [cat_ok (by omega)]
          simp only [bsome]
          rw [chk_addN _ (by omega)]
          simp only [bsome]
          rw [ih _ _ (by simp; omega) (by omega)]
          simp
    · rw [R_Quoted_L3, if_neg (by omega), List.drop_of_length_le (by omega)]
      simp [gu]
theorem R_Quoted_L1_eq (l : List UInt8) (hl : l.length ≤ 1000000) : ∀ (k i m : Nat) (o : List UInt8), l.length - i ≤ k → k < m → i ≤ l.length → o.length ≤ 6 * i → R_Quoted_L1 l m o (i : Int) = some (o ++ enc 0 (l.drop i))
  | k, i, m, o, h1, h2, h3, h4 => by
    obtain ⟨m, rfl⟩ : ∃ k, m = k + 1 := ⟨m - 1, by omega⟩
    obtain ⟨e, a1, a2, a3, a4, a5⟩ := R_Quoted_L2_eq l hl l.length i FU (by omega) (by rw [FU_eq]; omega) h3
    have hseg : (l.take e).drop i ++ l.drop e = l.drop i := by
      rw [← List.drop_append_of_le_length (by rw [List.length_take]; omega), List.take_append_drop]
    have hsl : ((l.take e).drop i).length = e - i := by simp; omega
    have hrest : l.drop e = [] ∨ lineAt (l.drop e) := by
      rcases a4 with a4 | a4
      · exact .inl (by rw [List.drop_eq_nil_iff]; omega)
      · exact .inr a4
    have hen := enc_seg ((l.take e).drop i) (l.drop e) 0 hrest (fun k hk => by
      rw [hseg, List.drop_drop]
      exact a3 _ (by omega) (by omega))
    rw [hseg] at hen
    rw [R_Quoted_L1, if_pos (by omega), a5]
    simp only [bsome]
    rw [cut_of rfl rfl a1 a2]
    simp only [bsome]
    rw [R_LineUnits_eq _ (by omega)]
    simp only [bsome]
    have h2' := R_Quoted_L3_eq (lu ((l.take e).drop i)) (lu_three _) (by rw [lu_len]; omega) (e - i) 0 FU 0 o (by rw [lu_len]; omega) (by rw [FU_eq]; omega) (by omega) (by rw [lu_len]; omega) (by omega)
    rw [show ((0 : Nat) : Int) = 0 from rfl, List.drop_zero] at h2'
    rw [h2']
    simp only [bsome]
    have hgl : (gu 0 (lu ((l.take e).drop i))).length ≤ 6 * (e - i) := by
      have := enc_len ((l.take e).drop i).length 0 ((l.take e).drop i) (Nat.le_refl _)
      have h3 := enc_seg ((l.take e).drop i) [] 0 (.inl rfl) (fun k hk hla => by
        rw [List.append_nil] at hla
        obtain ⟨r, hr⟩ := lineAt_iff.1 hla
        have h5 : (l.drop (i + k)).take (e - i - k) = 13 :: 10 :: r := by
          rw [← hr, List.drop_drop, List.drop_take, Nat.sub_sub]
        refine a3 (i + k) (by omega) (by omega) (lineAt_iff.2 ⟨r ++ (l.drop (i + k)).drop (e - i - k), ?_⟩)
        rw [← List.cons_append, ← List.cons_append, ← h5, List.take_append_drop])
      rw [List.append_nil, if_pos rfl, List.append_nil] at h3
      rw [← h3]
      omega
    by_cases he : e = l.length
    · rw [if_pos (by omega), hen]
      have hd : l.drop e = [] := by rw [List.drop_eq_nil_iff]; omega
      simp [hd]
    · rw [if_neg (by omega)]
      have hla : lineAt (l.drop e) := a4.resolve_left he
      obtain ⟨r, hr⟩ := lineAt_iff.1 hla
      have hrl := congrArg List.length hr
      rw [List.length_drop] at hrl
      simp only [List.length_cons] at hrl
      rw [cat_ok (by simp only [List.length_append, List.length_cons, List.length_nil]; omega)]
      simp only [bsome]
      rw [show ((e : Int) + 2) = ((e + 2 : Nat) : Int) by omega, chk_ok (by omega) (by omega)]
      simp only [bsome]
      cases k with
      | zero => omega
      | succ k =>
        rw [R_Quoted_L1_eq l hl k (e + 2) m _ (by omega) (by omega) (by omega) (by simp; omega), hen, if_neg (by rw [hr]; simp), List.drop_drop]
        simp
theorem R_Quoted_eq (l : List UInt8) (hl : l.length ≤ 1000000) : R_Quoted l = some (enc 0 l) := by
  unfold R_Quoted
  have := R_Quoted_L1_eq l hl l.length 0 FU [] (by omega) (by rw [FU_eq]; omega) (by omega) (by simp)
  rw [show ((0 : Nat) : Int) = 0 from rfl] at this
  have hle := enc_len l.length 0 l (Nat.le_refl _)
  rw [this]
  simp only [bsome, List.nil_append, List.drop_zero]
  rw [toB_ok (by omega)]
  rfl
/-! the laws -/
theorem fault_true (b : List UInt8) : some (decide ((b.length : Int) = (0 : Int))) = some true ↔ b = [] := by
  rw [Option.some.injEq, decide_eq_true_eq]
  exact ⟨fun h => List.eq_nil_of_length_eq_zero (by omega), fun h => by rw [h]; rfl⟩
theorem L_QuotedEncode_true (l : List UInt8) : L_QuotedEncodeMatchesSpec l = some true := by
  unfold L_QuotedEncodeMatchesSpec L_quotedExample quoted_Encode R_At
  by_cases h : 12000 < l.length
  · simp [h, show (12000 : Int) < (l.length : Int) by omega]
  · simp [h, show ¬ (12000 : Int) < (l.length : Int) by omega, R_Quoted_eq l (by omega), R_Bytes_eq]
theorem L_QuotedUnique_true (l : List UInt8) : L_QuotedUnique l = some true := by
  unfold L_QuotedUnique L_quotedExample quoted_Decode R_At
  by_cases h : 48000 < l.length
  · simp [show (48000 : Int) < (l.length : Int) by omega]
  · simp only [h, show ¬ (48000 : Int) < (l.length : Int) by omega, if_false, bsome, if_true]
    by_cases h2 : 12000 < (lenient l).length
    · simp [h2]
    · simp only [h2, if_false]
      by_cases h3 : enc 0 (lenient l) = l
      · simp [h3, R_Quoted_eq (lenient l) (by omega), R_Bytes_eq]
      · simp [h3]
theorem L_QuotedLines_loop (x : List UInt8) (hx : x.length ≤ 1000000) : ∀ (k i m col : Nat) (p : UInt8), x.length - i < k → k < m → i ≤ x.length → col ≤ i → (0 < col → x[i - 1]? = some p) → OkL col p (x.drop i) →
    L_QuotedLines_L1 x m (col : Int) (i : Int) = some (.inl ())
  | 0, i, m, col, p, h1, h2, h3, h4, h5, h6 => by omega
  | k + 1, i, m, col, p, h1, h2, h3, h4, h5, h6 => by
    obtain ⟨m, rfl⟩ : ∃ k, m = k + 1 := ⟨m - 1, by omega⟩
    rw [L_QuotedLines_L1, if_pos (by omega), R_Crlf_eq _ _ (by omega)]
    have hend : ∀ (h76 : col ≤ 76) (hb : 0 < col → ¬ bl p), (if (76 : Int) < (col : Int) then some true else (if (0 : Int) < (col : Int) then (chk ((i : Int) - 1)).bind fun n28 => (idx x n28).bind fun c29 => (R_Blank c29).bind fun b30 => some b30 else some false)) = some false := by
      intro h76 hb
      rw [if_neg (by omega)]
      by_cases hc : 0 < col
      · rw [if_pos (by omega), chk_pred (by omega) (by omega)]
        simp only [bsome, idx_nat, h5 hc, R_Blank_eq, decide_eq_false (hb hc)]
      · rw [if_neg (by omega)]
    rcases Nat.eq_or_lt_of_le h3 with he | he
    · have hnil : x.drop i = [] := by rw [List.drop_eq_nil_iff]; omega
      rw [hnil] at h6
      cases h6 with
      | nil a1 a2 =>
        rw [if_pos (by omega)]
        simp only [bsome, if_true]
        rw [hend a1 a2]
        simp only [bsome, Bool.false_eq_true, if_false]
        rw [chk_succ (by omega)]
        simp only [bsome]
        rw [chk_succ (by omega)]
        simp only [bsome]
        obtain ⟨m, rfl⟩ : ∃ k, m = k + 1 := ⟨m - 1, by omega⟩
        rw [L_QuotedLines_L1, if_neg (by omega)]
    · rw [if_neg (by omega)]
      simp only [bsome]
      rw [drop_at he] at h6
      by_cases hla : lineAt (x.drop i)
      · rw [decide_eq_true hla]
        simp only [if_true]
        obtain ⟨r, hr⟩ := lineAt_iff.1 hla
        rw [← drop_at he, hr] at h6
        have hrl := congrArg List.length hr
        rw [List.length_drop] at hrl
        simp only [List.length_cons] at hrl
        have hd2 : x.drop (i + 1 + 1) = r := by
          have := congrArg (List.drop 2) hr
          rw [List.drop_drop] at this
          simpa using this
        cases h6 with
        | line a1 a2 a3 =>
          rw [hend a1 a2]
          simp only [bsome, Bool.false_eq_true, if_false]
          rw [chk_succ (by omega)]
          simp only [bsome]
          rw [chk_succ (by omega)]
          simp only [bsome]
          exact L_QuotedLines_loop x hx k (i + 1 + 1) m 0 10 (by omega) (by omega) (by omega) (by omega) (fun h => by omega) (by rw [hd2]; exact a3)
        | chr a1 a2 a3 => exact absurd rfl a1
      · rw [decide_eq_false hla]
        simp only [Bool.false_eq_true, if_false, idx_nat, List.getElem?_eq_getElem he, bsome, R_In_eq]
        have hok : ((32 ≤ x[i].toNat ∧ x[i].toNat ≤ 126) ∨ x[i].toNat = 9) ∧ OkL (col + 1) x[i] (x.drop (i + 1)) := by
          generalize hxi : x[i] = c at h6
          generalize hdi : x.drop (i + 1) = r at h6
          cases h6 with
          | line a1 a2 a3 =>
            exfalso
            apply hla
            rw [drop_at he, hxi, hdi]; rfl
          | chr a1 a2 a3 => exact ⟨a2, a3⟩
        obtain ⟨hok1, hok2⟩ := hok
        have hcond : (if decide ((32 : Int) ≤ (x[i].toNat : Int) ∧ (x[i].toNat : Int) ≤ 126) = true then some false else some (!decide (x[i] = 9))) = some false := by
          by_cases hc : 32 ≤ x[i].toNat ∧ x[i].toNat ≤ 126
          · rw [if_pos (by rw [decide_eq_true_eq]; omega)]
          · have h9 : x[i] = 9 := (u8_at _ 9).2 (hok1.resolve_left hc)
            rw [if_neg (by rw [decide_eq_true_eq]; omega), decide_eq_true h9]; rfl
        rw [hcond]
        simp only [bsome, Bool.false_eq_true, if_false]
        rw [chk_succ (by omega), chk_succ (by omega)]
        simp only [bsome]
        exact L_QuotedLines_loop x hx k (i + 1) m (col + 1) x[i] (by omega) (by omega) (by omega) (by omega) (fun _ => by rw [Nat.add_sub_cancel]; exact List.getElem?_eq_getElem he) hok2
theorem L_QuotedLines_true (l : List UInt8) : L_QuotedLines l = some true := by
  unfold L_QuotedLines L_quotedExample quoted_Encode
  by_cases h : 12000 < l.length
  · simp [h]
  · simp only [h, if_false, bsome, if_true]
    have hle := enc_len l.length 0 l (Nat.le_refl _)
    have := L_QuotedLines_loop (enc 0 l) (by omega) ((enc 0 l).length + 1) 0 FU 0 10 (by omega) (by rw [FU_eq]; omega) (by omega) (by omega) (fun h => by omega) (okL_enc l.length 0 10 l (Nat.le_refl _) (Nat.zero_le _) (fun _ h => by omega))
    rw [show ((0 : Nat) : Int) = 0 from rfl] at this
    rw [this]
    rfl
/-! the reference's decoding -/
theorem hexAll : ∀ n, n < 256 → R_Hex (UInt8.ofNat n) = some (hexI (UInt8.ofNat n)) := by decide +kernel
theorem R_Hex_eq (c : UInt8) : R_Hex c = some (hexI c) := by
  have := hexAll c.toNat c.toNat_lt
  rwa [UInt8.ofNat_toNat] at this
theorem R_Loose_L2_eq (l : List UInt8) (hl : l.length ≤ 1000000) : ∀ (k i m : Nat), l.length - i ≤ k → k < m → i ≤ l.length →
    ∃ e, i ≤ e ∧ e ≤ l.length ∧ (∀ j c, i ≤ j → j < e → l[j]? = some c → c ≠ 10) ∧ (e = l.length ∨ l[e]? = some 10) ∧ R_LooseQuoted_L2 l m (i : Int) = some (e : Int)
  | k, i, m, h1, h2, h3 => by
    obtain ⟨m, rfl⟩ : ∃ k, m = k + 1 := ⟨m - 1, by omega⟩
    by_cases hi : i < l.length
    · rw [R_LooseQuoted_L2, if_pos (by omega), idx_nat, List.getElem?_eq_getElem hi]
      simp only [bsome]
      by_cases hc : l[i] = 10
      · rw [decide_eq_true hc]
        exact ⟨i, Nat.le_refl _, h3, fun j c a b => by omega, .inr (by rw [List.getElem?_eq_getElem hi, hc]), by simp⟩
      · cases k with
        | zero => omega
        | succ k =>
          obtain ⟨e, a1, a2, a3, a4, a5⟩ := R_Loose_L2_eq l hl k (i + 1) m (by omega) (by omega) (by omega)
          rw [decide_eq_false hc]
          simp only [Bool.not_false, if_true, chk_succ (show i + 1 ≤ 9223372036854775807 by omega), bsome, a5]
          exact ⟨e, by omega, a2, fun j c b1 b2 b3 => by
            rcases Nat.eq_or_lt_of_le b1 with rfl | b1
            · rw [List.getElem?_eq_getElem hi] at b3; cases b3; exact hc
            · exact a3 j c b1 b2 b3, a4, rfl⟩
    · rw [R_LooseQuoted_L2, if_neg (by omega)]
      exact ⟨i, Nat.le_refl _, h3, fun j c a b => by omega, .inl (by omega), by simp⟩
/-- behind e - 1 there are blanks only (a word of its own: 'omega' errs at an 'exists' in a fact) -/
def NB (l : List UInt8) (a e : Nat) : Prop := e = a ∨ ∃ c, l[e - 1]? = some c ∧ ¬ bl c
theorem R_Loose_L3_eq (l : List UInt8) (hl : l.length ≤ 1000000) (a : Nat) : ∀ (k m : Nat), k < m → a + k ≤ l.length →
    ∃ e, a ≤ e ∧ e ≤ a + k ∧ (∀ j c, e ≤ j → j < a + k → l[j]? = some c → bl c) ∧ NB l a e ∧ R_LooseQuoted_L3 l (a : Int) m ((a + k : Nat) : Int) = some (e : Int)
  | k, m, h2, h3 => by
    obtain ⟨m, rfl⟩ : ∃ k, m = k + 1 := ⟨m - 1, by omega⟩
    by_cases hk : 0 < k
    · have hi : a + k - 1 < l.length := by omega
      rw [R_LooseQuoted_L3, if_pos (by omega), chk_pred (by omega) (by omega)]
      simp only [bsome]
      rw [idx_nat, List.getElem?_eq_getElem hi]
      simp only [bsome, R_Blank_eq]
      by_cases hc : bl l[a + k - 1]
      · rw [decide_eq_true hc]
        cases k with
        | zero => omega
        | succ k =>
          obtain ⟨e, a1, a2, a3, a4, a5⟩ := R_Loose_L3_eq l hl a k m (by omega) (by omega)
          simp only [if_true]
          rw [show a + (k + 1) - 1 = a + k from rfl, a5]
          refine ⟨e, a1, by omega, ?_, a4, rfl⟩
          intro j c b1 b2 b3
          rcases Nat.lt_or_ge j (a + k) with b4 | b4
          · exact a3 j c b1 b4 b3
          · obtain rfl : j = a + k := by omega
            have h5 : l[a + k]? = l[a + (k + 1) - 1]? := rfl
            rw [h5, List.getElem?_eq_getElem hi] at b3
            cases b3
            exact hc
      · rw [decide_eq_false hc]
        exact ⟨a + k, by omega, Nat.le_refl _, fun j c a b => by omega, .inr ⟨_, List.getElem?_eq_getElem hi, hc⟩, by simp⟩
    · rw [R_LooseQuoted_L3, if_neg (by omega)]
      exact ⟨a, Nat.le_refl _, by omega, fun j c a b => by omega, .inl rfl, by simp; omega⟩
theorem seg_at {l : List UInt8} {n i : Nat} (h : i < n) (hn : n ≤ l.length) : (l.take n).drop i = l[i]'(by omega) :: (l.take n).drop (i + 1) := by
  rw [drop_at (by rw [List.length_take]; omega), List.getElem_take]
theorem R_Loose_L4_eq (l : List UInt8) (hl : l.length ≤ 1000000) (n : Nat) (hn : n ≤ l.length) : ∀ (k i m : Nat) (o : List UInt8), n - i ≤ k → k < m → o.length + (n - i) ≤ 1000000000 → R_LooseQuoted_L4 l (n : Int) m o (i : Int) = some (o ++ plain ((l.take n).drop i))
  | k, i, m, o, h1, h2, h3 => by
    obtain ⟨m, rfl⟩ : ∃ k, m = k + 1 := ⟨m - 1, by omega⟩
    by_cases hi : i < n
    · have hil : i < l.length := by omega
      cases k with
      | zero => omega
      | succ k =>
      have lit : esc ((l.take n).drop i) = none → (((idx l (i : Int)).bind fun c118 => (app 1 o ([c118] : List UInt8)).bind fun l119 => (chk ((i : Int) + 1)).bind fun n120 => R_LooseQuoted_L4 l (n : Int) m l119 n120)) = some (o ++ plain ((l.take n).drop i)) := by
        intro he
        rw [idx_nat, List.getElem?_eq_getElem hil]
        simp only [bsome]
        rw [app_ok (by simp only [List.length_cons, List.length_nil]; omega), chk_succ (by omega)]
        simp only [bsome]
        rw [R_Loose_L4_eq l hl n hn k (i + 1) m _ (by omega) (by omega) (by simp only [List.length_append, List.length_cons, List.length_nil]; omega)]
        rw [seg_at hi hn] at he ⊢
        rw [plain_lit he]
        simp
      rw [R_LooseQuoted_L4, if_pos (by omega)]
      by_cases c0 : l[i] = 61
      · by_cases c1 : i + 2 < n
        · have hs : (l.take n).drop i = l[i] :: l[i + 1]'(by omega) :: l[i + 2]'(by omega) :: (l.take n).drop (i + 3) := by
            rw [seg_at hi hn, seg_at (show i + 1 < n by omega) hn, seg_at (show i + 1 + 1 < n by omega) hn]
          have hcond : ((idx l (i : Int)).bind fun c89 => (if c89 = 61 then (chk ((i : Int) + 2)).bind fun n91 => (if n91 < (n : Int) then (chk ((i : Int) + 1)).bind fun n93 => (idx l n93).bind fun c94 => (R_Hex c94).bind fun n95 => (if (0 : Int) ≤ n95 then (chk ((i : Int) + 2)).bind fun n98 => (idx l n98).bind fun c99 => (R_Hex c99).bind fun n100 => some (decide ((0 : Int) ≤ n100)) else some false) else some false) else some false)) = some (decide ((0 ≤ hexI (l[i + 1]'(by omega))) ∧ (0 ≤ hexI (l[i + 2]'(by omega))))) := by
            rw [idx_nat, List.getElem?_eq_getElem hil, chk_succ (by omega), show ((i : Int) + 2) = ((i + 2 : Nat) : Int) by omega, chk_ok (by omega) (by omega)]
            simp only [bsome]
            rw [if_pos c0, if_pos (by omega), idx_nat, List.getElem?_eq_getElem (by omega), idx_nat, List.getElem?_eq_getElem (by omega)]
            simp only [bsome, R_Hex_eq]
            by_cases hx : 0 ≤ hexI (l[i + 1]'(by omega))
            · rw [if_pos hx]; simp [hx]
            · rw [if_neg hx]; simp [hx]
          rw [hcond]
          simp only [bsome]
          by_cases hb : (0 ≤ hexI (l[i + 1]'(by omega))) ∧ (0 ≤ hexI (l[i + 2]'(by omega)))
          · obtain ⟨x, hx⟩ := (hexI_nonneg _).1 hb.1
            obtain ⟨y, hy⟩ := (hexI_nonneg _).1 hb.2
            have hx1 := hexV_lt hx
            have hy1 := hexV_lt hy
            rw [if_pos (decide_eq_true hb), chk_succ (by omega), show ((i : Int) + 2) = ((i + 2 : Nat) : Int) by omega, chk_ok (by omega) (by omega)]
            simp only [bsome]
            rw [idx_nat, List.getElem?_eq_getElem (by omega), idx_nat, List.getElem?_eq_getElem (by omega)]
            simp only [bsome, R_Hex_eq, hexI_some hx, hexI_some hy]
            rw [chk_ok (by omega) (by omega)]
            simp only [bsome]
            rw [chk_ok (by omega) (by omega)]
            simp only [bsome]
            rw [app_ok (by simp only [List.length_cons, List.length_nil]; omega), chk_succ (by omega)]
            simp only [bsome]
            rw [R_Loose_L4_eq l hl n hn k (i + 2 + 1) m _ (by omega) (by omega) (by simp only [List.length_append, List.length_cons, List.length_nil]; omega), hs, c0, plain_esc (esc_some hx hy)]
            have hub : ub8 (16 * (x : Int) + (y : Int)) = UInt8.ofNat (16 * x + y) := by
              unfold ub8
              congr 1
              omega
            rw [hub]
            simp
          · rw [if_neg (by rw [decide_eq_true_eq]; exact hb)]
            refine lit ?_
            rw [hs]
            refine esc_bad ?_
            cases hx : hexV (l[i + 1]'(by omega)) with
            | none => exact .inl rfl
            | some x =>
              cases hy : hexV (l[i + 2]'(by omega)) with
              | none => exact .inr rfl
              | some y => exact absurd ⟨(hexI_nonneg _).2 ⟨x, hx⟩, (hexI_nonneg _).2 ⟨y, hy⟩⟩ hb
        · rw [idx_nat, List.getElem?_eq_getElem hil, show ((i : Int) + 2) = ((i + 2 : Nat) : Int) by omega, chk_ok (by omega) (by omega)]
          simp only [bsome]
          rw [if_pos c0, if_neg (by omega)]
          simp only [bsome, Bool.false_eq_true, if_false]
          have := lit (by
            rw [seg_at hi hn]
            exact esc_short (by simp; omega))
          rw [idx_nat, List.getElem?_eq_getElem hil] at this
          simpa only [bsome] using this
      · rw [idx_nat, List.getElem?_eq_getElem hil]
        simp only [bsome]
        rw [if_neg c0]
        simp only [bsome, Bool.false_eq_true, if_false]
        have := lit (by
          rw [seg_at hi hn]
          exact esc_not c0)
        rw [idx_nat, List.getElem?_eq_getElem hil] at this
        simpa only [bsome] using this
    · rw [R_LooseQuoted_L4, if_neg (by omega), List.drop_of_length_le (by rw [List.length_take]; omega)]
      simp [plain_nil]
theorem R_Loose_L1_eq (l : List UInt8) (hl : l.length ≤ 1000000) : ∀ (k i m : Nat) (o : List UInt8), l.length - i ≤ k → k < m → o.length ≤ i → R_LooseQuoted_L1 l m o (i : Int) = some (o ++ lenient (l.drop i))
  | k, i, m, o, h1, h2, h4 => by
    obtain ⟨m, rfl⟩ : ∃ k, m = k + 1 := ⟨m - 1, by omega⟩
    by_cases hi : i < l.length
    · cases k with
      | zero => omega
      | succ k =>
      have hne : l.drop i ≠ [] := by rw [ne_eq, List.drop_eq_nil_iff]; omega
      obtain ⟨e, a1, a2, a3, a4, a5⟩ := R_Loose_L2_eq l hl l.length i FU (by omega) (by rw [FU_eq]; omega) (by omega)
      rw [R_LooseQuoted_L1, if_pos (by omega), a5]
      simp only [bsome]
      have hdj : ∀ j : Nat, (l.drop i)[j]? = l[i + j]? := fun j => List.getElem?_drop
      -- the line without its end
      obtain ⟨st, b1, b2, b3, b4, b5⟩ : ∃ st, i ≤ st ∧ st ≤ e ∧ body ((l.drop i).take (nlen (l.drop i))) = (l.drop i).take (st - i) ∧ nlen (l.drop i) = (if e < l.length then e + 1 - i else e - i) ∧
          (((if (e : Int) < (l.length : Int) then (if (i : Int) < (e : Int) then (chk ((e : Int) - 1)).bind fun n34 => (idx l n34).bind fun c35 => some (decide (c35 = 13)) else some false) else some false)).bind fun b31 => (if b31 = true then (chk ((e : Int) - 1)).bind fun n41 => some n41 else some (e : Int))) = some (st : Int) := by
        by_cases he : e < l.length
        · have h10 : l[e]? = some 10 := a4.resolve_left (by omega)
          obtain ⟨n1, n2⟩ := nlen_at1 (t := l.drop i) (e := e - i) (fun j c hj hc => a3 (i + j) c (by omega) (by omega) (by rw [← hdj]; exact hc)) (by rw [hdj, show i + (e - i) = e by omega]; exact h10)
          rw [n1, n2, if_pos (show (e : Int) < (l.length : Int) by omega), if_pos he]
          by_cases hie : i < e
          · have hl1 : (l.drop i)[e - i - 1]? = some (l[e - 1]'(by omega)) := by rw [hdj, show i + (e - i - 1) = e - 1 by omega, List.getElem?_eq_getElem]
            rw [if_pos (by omega), chk_pred (by omega) (by omega)]
            simp only [bsome]
            rw [idx_nat, List.getElem?_eq_getElem (by omega)]
            simp only [bsome]
            by_cases h13 : (l[e - 1]'(by omega)) = 13
            · rw [h13] at hl1
              refine ⟨e - 1, by omega, by omega, ?_, by omega, by simp [h13]⟩
              rw [chop_yes (by omega) hl1, show e - i - 1 = e - 1 - i by omega]
            · refine ⟨e, by omega, by omega, ?_, by omega, by simp [h13]⟩
              rw [chop_no (by omega) hl1 h13]
          · rw [if_neg (by omega)]
            refine ⟨e, by omega, by omega, ?_, by omega, by simp⟩
            rw [show e - i = 0 by omega, chop_zero]
        · obtain ⟨n1, n2⟩ := nlen_at0 (t := l.drop i) (fun j c hc => a3 (i + j) c (by omega) (by
            have := (List.getElem?_eq_some_iff.1 hc).1
            rw [List.length_drop] at this; omega) (by rw [← hdj]; exact hc))
          rw [if_neg (show ¬ (e : Int) < (l.length : Int) by omega), if_neg he, n1, List.take_length, n2]
          refine ⟨e, a1, by omega, ?_, by rw [List.length_drop]; omega, by simp⟩
          rw [List.take_of_length_le (by rw [List.length_drop]; omega)]
      have split2 : ∀ {α β γ : Type} (x : Option α) (f : α → Option β) (g : β → Option γ), (x.bind fun b => (f b).bind g) = (x.bind f).bind g := fun x f g => by cases x <;> rfl
      rw [split2, b5]
      simp only [bsome]
      -- the blanks
      obtain ⟨la, c1, c2, c3, c4, c5⟩ := R_Loose_L3_eq l hl i (st - i) FU (by rw [FU_eq]; omega) (by omega)
      rw [show i + (st - i) = st by omega] at c2 c3 c5
      rw [c5]
      simp only [bsome]
      have htr : trimR (body ((l.drop i).take (nlen (l.drop i)))) = (l.drop i).take (la - i) := by
        rw [b3]
        have := trimR_take (B := (l.drop i).take (st - i)) (m := la - i) (fun j c hj hc => by
          rw [List.getElem?_take] at hc
          split at hc
          · exact c3 (i + j) c (by omega) (by omega) (by rw [← hdj]; exact hc)
          · cases hc) (by
          rcases c4 with c4 | ⟨c, hc, hbl⟩
          · exact .inl (by omega)
          · rcases Nat.eq_or_lt_of_le c1 with h | h
            · exact .inl (by omega)
            · refine .inr ⟨c, ?_, hbl⟩
              rw [List.getElem?_take, if_pos (by omega), hdj, show i + (la - i - 1) = la - 1 by omega]
              exact hc)
        rw [this, List.take_take, Nat.min_eq_left (by omega)]
      -- the soft end
      obtain ⟨b, hb1, hb2⟩ : ∃ b : Bool, (if (i : Int) < (la : Int) then (chk ((la : Int) - 1)).bind fun n65 => (idx l n65).bind fun c66 => some (decide (c66 = 61)) else some false) = some b ∧ (b = true ↔ (trimR (body ((l.drop i).take (nlen (l.drop i))))).getLast? = some 61) := by
        rw [htr]
        by_cases hil : i < la
        · have hl1 : (l.drop i)[la - i - 1]? = some (l[la - 1]'(by omega)) := by rw [hdj, show i + (la - i - 1) = la - 1 by omega, List.getElem?_eq_getElem]
          refine ⟨decide ((l[la - 1]'(by omega)) = 61), ?_, ?_⟩
          · rw [if_pos (by omega), chk_pred (by omega) (by omega)]
            simp only [bsome]
            rw [idx_nat, List.getElem?_eq_getElem (by omega)]
            simp only [bsome]
          · rw [(last_take (by omega) hl1).1, decide_eq_true_eq, Option.some.injEq]
        · refine ⟨false, by rw [if_neg (by omega)], ?_⟩
          rw [show la - i = 0 by omega, last_take0]
          simp
      rw [hb1]
      simp only [bsome]
      obtain ⟨z, d1, d2, d3, d4⟩ : ∃ z, i ≤ z ∧ z ≤ la ∧ (if b = true then (chk ((la : Int) - 1)).bind fun n72 => some n72 else some (la : Int)) = some (z : Int) ∧ (l.take z).drop i = (if b = true then (trimR (body ((l.drop i).take (nlen (l.drop i))))).dropLast else trimR (body ((l.drop i).take (nlen (l.drop i))))) := by
        rw [htr]
        have e1 : ∀ z, i ≤ z → (l.take z).drop i = (l.drop i).take (z - i) := fun z hz => List.drop_take
        by_cases hb : b = true
        · rw [if_pos hb, if_pos hb]
          have hl61 := hb2.1 hb
          rw [htr] at hl61
          have hil : i < la := by
            rcases Nat.eq_or_lt_of_le c1 with h | h
            · rw [show la - i = 0 by omega, last_take0] at hl61; cases hl61
            · exact h
          have hl1 : (l.drop i)[la - i - 1]? = some (l[la - 1]'(by omega)) := by rw [hdj, show i + (la - i - 1) = la - 1 by omega, List.getElem?_eq_getElem]
          refine ⟨la - 1, by omega, by omega, by rw [chk_pred (by omega) (by omega)]; simp only [bsome], ?_⟩
          rw [(last_take (by omega) hl1).2, e1 _ (by omega), show la - 1 - i = la - i - 1 by omega]
        · rw [if_neg hb, if_neg hb]
          exact ⟨la, c1, Nat.le_refl _, rfl, e1 _ c1⟩
      rw [d3]
      simp only [bsome]
      rw [R_Loose_L4_eq l hl z (by omega) (z - i) i FU o (Nat.le_refl _) (by rw [FU_eq]; omega) (by omega)]
      simp only [bsome]
      have hplen : (plain ((l.take z).drop i)).length ≤ z - i := by
        have := plain_len _ ((l.take z).drop i) (Nat.le_refl _)
        rw [List.length_drop, List.length_take] at this
        omega
      have hnx : l.drop (i + nlen (l.drop i)) = l.drop (e + 1) := by
        rw [b4]
        split
        · rw [show i + (e + 1 - i) = e + 1 by omega]
        · rw [List.drop_of_length_le (by omega), List.drop_of_length_le (by omega)]
      have hsb : ((l.drop i).take (nlen (l.drop i))).drop (body ((l.drop i).take (nlen (l.drop i)))).length = (if e < l.length then (l.take (e + 1)).drop st else []) := by
        rw [b3, List.length_take, List.length_drop, Nat.min_eq_left (by omega), b4]
        split
        · rw [← List.drop_take, List.drop_drop, show i + (st - i) = st by omega]
        · rw [List.drop_of_length_le]
          rw [List.length_take, List.length_drop]
          rcases Nat.eq_or_lt_of_le b2 with h | h
          · omega
          · exfalso
            have hb' := congrArg List.length b3
            obtain ⟨n1, n2⟩ := nlen_at0 (t := l.drop i) (fun j c hc => a3 (i + j) c (by omega) (by
              have := (List.getElem?_eq_some_iff.1 hc).1
              rw [List.length_drop] at this; omega) (by rw [← hdj]; exact hc))
            rw [n1, List.take_length, n2, List.length_take, List.length_drop] at hb'
            omega
      rw [lenient_cons hne, List.drop_drop, hnx]
      have hone : one ((l.drop i).take (nlen (l.drop i))) = plain ((l.take z).drop i) ++ (if e < l.length ∧ b = false then (l.take (e + 1)).drop st else []) := by
        unfold one
        rw [d4, hsb]
        by_cases hb : b = true
        · rw [if_pos (hb2.1 hb), if_pos hb, if_neg (fun h => by rw [hb] at h; cases h.2), List.append_nil]
        · rw [if_neg (fun h => hb (hb2.2 h)), if_neg hb]
          congr 1
          by_cases he : e < l.length
          · rw [if_pos he, if_pos ⟨he, by simpa using hb⟩]
          · rw [if_neg he, if_neg (fun h => he h.1)]
      rw [hone]
      have goon : ∀ o', o'.length ≤ e + 1 → R_LooseQuoted_L1 l m o' ((e + 1 : Nat) : Int) = some (o' ++ lenient (l.drop (e + 1))) := fun o' ho => R_Loose_L1_eq l hl k (e + 1) m o' (by omega) (by omega) ho
      by_cases he : e < l.length
      · rw [if_pos (by omega)]
        simp only [bsome]
        by_cases hb : b = true
        · subst hb
          simp only [Bool.not_true, Bool.false_eq_true, if_false]
          rw [chk_succ (by omega)]
          simp only [bsome]
          rw [goon _ (by rw [List.length_append]; omega)]
          simp
        · have hb' : b = false := by simpa using hb
          subst hb'
          simp only [Bool.not_false, if_true]
          rw [chk_succ (by omega)]
          simp only [bsome]
          rw [cut_of rfl rfl (by omega) (by omega)]
          simp only [bsome]
          have hcl : ((l.take (e + 1)).drop st).length = e + 1 - st := by rw [List.length_drop, List.length_take]; omega
          rw [app_ok (by rw [List.length_append, hcl]; omega)]
          simp only [bsome]
          rw [goon _ (by rw [List.length_append, List.length_append, hcl]; omega), if_pos ⟨he, trivial⟩]
          simp
      · rw [if_neg (by omega)]
        simp only [bsome, Bool.false_eq_true, if_false]
        rw [chk_succ (by omega)]
        simp only [bsome]
        rw [goon _ (by rw [List.length_append]; omega), if_neg (fun h => he h.1)]
        simp
    · rw [R_LooseQuoted_L1, if_neg (by omega), List.drop_of_length_le (by omega)]
      simp [lenient_nil]
theorem R_LooseQuoted_eq (l : List UInt8) (hl : l.length ≤ 1000000) : R_LooseQuoted l = some (lenient l) := by
  unfold R_LooseQuoted
  have := R_Loose_L1_eq l hl l.length 0 FU [] (by omega) (by rw [FU_eq]; omega) (by simp)
  rw [show ((0 : Nat) : Int) = 0 from rfl] at this
  rw [this]
  rfl
theorem L_QuotedLenient_true (l : List UInt8) : L_QuotedLenientMatchesSpec l = some true := by
  unfold L_QuotedLenientMatchesSpec L_quotedExample quoted_Lenient R_At
  by_cases h : 48000 < l.length
  · simp [h, show (48000 : Int) < (l.length : Int) by omega]
  · simp [h, show ¬ (48000 : Int) < (l.length : Int) by omega, R_LooseQuoted_eq l (by omega), R_Bytes_eq]
end Go.Ph.Pf
