/-
  Fold: the plain forms of the functions of names, values and texts answer as plain words say. No program in sight.
-/
import Derived.Test.YtolmifddbjdepaaDoorFpf
import Derived.Test.YtolmifddbjdepaaDoorLp
import Derived.Test.YtolmifddbjdepaaDoorFd
set_option linter.unusedVariables false
set_option linter.unusedSimpArgs false
namespace Go.Ph.Pf
open Go.Ph.Pl Go.Ph.Qp Go.Ph.Fd
abbrev Big (l : List UInt8) : Prop := l.length ≤ 140737488355328
theorem R_Blank_eq (c : UInt8) : R_Blank c = some (decide (bl c)) := by
  unfold R_Blank bl
  have e1 : (c = 32) ↔ c.toNat = 32 := u8_lit c 32
  have e2 : (c = 9) ↔ c.toNat = 9 := u8_lit c 9
  by_cases h : c = 32
  · simp [h]
  · rw [if_neg h]
    have h' : ¬ c.toNat = 32 := fun x => h (e1.2 x)
    simp [h', e2]
theorem basic_Blank_eq (c : UInt8) : basic_Blank c = some (decide (bl c)) := R_Blank_eq c
theorem R_In_eq (a b c : Int) : R_In a b c = some (decide (b ≤ a ∧ a ≤ c)) := by
  unfold R_In
  by_cases h : b ≤ a <;> simp [h]
theorem basic_All_eq (l : List UInt8) (hl : Big l) (g : UInt8 → Option Bool) (p : UInt8 → Bool) (hg : ∀ c, g c = some (p c)) : basic_All l g = some (l.all p) := by
  unfold basic_All
  rw [scan0 (L := basic_All_L1 l g) (l := l) (p := fun c => !p c) (stop := .inl ()) (r := .inr false) (FU_gt (by omega)) (fun m => by rw [basic_All_L1, if_neg (by omega)]) (fun m i h => by
    rw [basic_All_L1, if_pos (by omega), idx_nat, List.getElem?_eq_getElem h, chk_succ (by have := hl; omega)]
    simp only [bsome, hg]
    cases p l[i] <;> simp)]
  simp only [bsome]
  rw [List.all_eq_not_any_not]
  cases l.any (fun c => !p c) <;> simp
/-- a byte of a field's name -/
def nmB (c : UInt8) : Bool := decide (33 ≤ c.toNat ∧ c.toNat ≤ 126 ∧ c.toNat ≠ 58)
theorem fold_name_1_eq (c : UInt8) : fold_name_1 c = some (nmB c) := by
  unfold fold_name_1 nmB
  have e : (c = 58) ↔ c.toNat = 58 := u8_lit c 58
  by_cases h1 : 33 ≤ c.toNat <;> by_cases h2 : c.toNat ≤ 126 <;> by_cases h3 : c.toNat = 58 <;> simp [h1, h2, h3, e]
def nmL (l : List UInt8) : Bool := l.all nmB && decide (1 ≤ l.length ∧ l.length ≤ 60)
theorem fold_name_eq (l : List UInt8) (hl : Big l) : fold_name l = some (nmL l) := by
  unfold fold_name nmL
  by_cases h : l = []
  · subst h; rfl
  · have hpos : 1 ≤ l.length := by cases l <;> simp_all
    rw [if_neg h]
    by_cases h2 : l.length ≤ 60
    · rw [if_pos (by omega), basic_All_eq l hl _ nmB fold_name_1_eq]
      simp [hpos, h2]
    · rw [if_neg (by omega)]
      simp [h2]
theorem R_FieldName_eq (l : List UInt8) (hl : Big l) : R_FieldName l = some (nmL l) := by
  unfold R_FieldName
  rw [scan0 (L := R_FieldName_L1 l) (l := l) (p := fun c => !nmB c) (stop := .inl ()) (r := .inr false) (FU_gt (by omega)) (fun m => by rw [R_FieldName_L1, if_neg (by omega)]) (fun m i h => by
    rw [R_FieldName_L1, if_pos (by omega), idx_nat, List.getElem?_eq_getElem h, chk_succ (by have := hl; omega)]
    simp only [bsome, R_In_eq]
    have e : (l[i] = 58) ↔ l[i].toNat = 58 := u8_lit _ 58
    have hn : nmB l[i] = decide (33 ≤ l[i].toNat ∧ l[i].toNat ≤ 126 ∧ l[i].toNat ≠ 58) := rfl
    by_cases h1 : 33 ≤ l[i].toNat ∧ l[i].toNat ≤ 126
    · rw [if_pos (by rw [decide_eq_true_eq]; omega)]
      by_cases h3 : l[i].toNat = 58
      · have hf : nmB l[i] = false := by rw [hn]; exact decide_eq_false (fun x => x.2.2 h3)
        rw [decide_eq_true (e.2 h3), hf]; simp
      · have : ¬ l[i] = 58 := fun x => h3 (e.1 x)
        simp [hn, h1, h3, this]
    · rw [if_neg (by rw [decide_eq_true_eq]; omega)]
      have : nmB l[i] = false := by rw [hn]; exact decide_eq_false (fun x => h1 ⟨x.1, x.2.1⟩)
      simp [this])]
  simp only [bsome, R_In_eq]
  unfold nmL
  rw [List.all_eq_not_any_not]
  have hd : decide ((1 : Int) ≤ (l.length : Int) ∧ (l.length : Int) ≤ 60) = decide (1 ≤ l.length ∧ l.length ≤ 60) := decide_eq_decide.2 (by omega)
  cases l.any (fun c => !nmB c) <;> simp [hd]
theorem R_OneOf_eq (c : UInt8) (l : List UInt8) (hl : Big l) : R_OneOf c l = some (l.any (fun x => decide (x = c))) := by
  unfold R_OneOf
  rw [scan0 (L := R_OneOf_L1 c l) (l := l) (p := fun x => decide (x = c)) (stop := .inl ()) (r := .inr true) (FU_gt (by omega)) (fun m => by rw [R_OneOf_L1, if_neg (by omega)]) (fun m i h => by
    rw [R_OneOf_L1, if_pos (by omega), idx_nat, List.getElem?_eq_getElem h, chk_succ (by have := hl; omega)]
    simp only [bsome, decide_eq_true_eq])]
  cases l.any (fun x => decide (x = c)) <;> simp
/-- CR, LF, the byte 0 -/
def endB (c : UInt8) : Bool := decide (c.toNat = 13 ∨ c.toNat = 10 ∨ c.toNat = 0)
theorem oneOf_end (c : UInt8) : R_OneOf c [13, 10, 0] = some (endB c) := by
  rw [R_OneOf_eq _ _ (by simp)]
  have e1 : ((13 : UInt8) = c) ↔ c.toNat = 13 := by rw [eq_comm]; exact u8_lit c 13
  have e2 : ((10 : UInt8) = c) ↔ c.toNat = 10 := by rw [eq_comm]; exact u8_lit c 10
  have e3 : ((0 : UInt8) = c) ↔ c.toNat = 0 := by rw [eq_comm]; exact u8_lit c 0
  unfold endB
  by_cases h1 : c.toNat = 13 <;> by_cases h2 : c.toNat = 10 <;> by_cases h3 : c.toNat = 0 <;> simp [e1, e2, e3, h1, h2, h3]
/-! trimming -/
def trimL (l : List UInt8) : List UInt8 := l.dropWhile (fun c => decide (bl c))
theorem trimL_nil : trimL [] = [] := rfl
theorem trimL_pos {c : UInt8} {r : List UInt8} (h : bl c) : trimL (c :: r) = trimL r := by unfold trimL; rw [List.dropWhile_cons_of_pos (by simpa using h)]
theorem trimL_neg {c : UInt8} {r : List UInt8} (h : ¬ bl c) : trimL (c :: r) = c :: r := by unfold trimL; rw [List.dropWhile_cons_of_neg (by simpa using h)]
theorem trimL_len (l : List UInt8) : (trimL l).length ≤ l.length := (List.dropWhile_sublist _).length_le
theorem trimR_len (l : List UInt8) : (trimR l).length ≤ l.length := by
  unfold trimR; rw [List.length_reverse]; have := (List.dropWhile_sublist (l := l.reverse) (fun c => decide (bl c))).length_le; simpa using this
theorem snoc_cases (l : List UInt8) : l = [] ∨ ∃ a c, l = a ++ [c] := by
  rcases List.eq_nil_or_concat l with h | ⟨a, c, h⟩
  · exact .inl h
  · exact .inr ⟨a, c, by rw [h, List.concat_eq_append]⟩
theorem trimR_bl {a : List UInt8} {c : UInt8} (h : bl c) : trimR (a ++ [c]) = trimR a := trimR_blank (fun x hx => by simp at hx; rw [hx]; exact h)
theorem trimR_nb {a : List UInt8} {c : UInt8} (h : ¬ bl c) : trimR (a ++ [c]) = a ++ [c] := trimR_snoc h
/-- the order does not matter -/
theorem trim_comm : ∀ (n : Nat) (l : List UInt8), l.length ≤ n → trimR (trimL l) = trimL (trimR l)
  | 0, l, h => by obtain rfl : l = [] := List.eq_nil_of_length_eq_zero (by omega); rfl
  | n + 1, l, h => by
    cases l with
    | nil => rfl
    | cons c r =>
      by_cases hc : bl c
      · rw [trimL_pos hc, trim_comm n r (by simpa using h)]
        rcases snoc_cases r with rfl | ⟨a, d, rfl⟩
        · have : trimR [c] = [] := by have := trimR_bl (a := []) hc; simpa [trimR_nil] using this
          rw [this]; rfl
        · by_cases hd : bl d
          · rw [← List.cons_append, trimR_bl hd, trimR_bl hd]
            have ih := trim_comm n (c :: a) (by simp at h ⊢; omega)
            rw [← ih, trimL_pos hc, trim_comm n a (by simp at h; omega)]
          · rw [← List.cons_append, trimR_nb hd, trimR_nb hd, List.cons_append, trimL_pos hc]
      · rw [trimL_neg hc]
        rcases snoc_cases r with rfl | ⟨a, d, rfl⟩
        · have : trimR [c] = [c] := by have := trimR_nb (a := []) hc; simpa using this
          rw [this, trimL_neg hc]
        · by_cases hd : bl d
          · rw [← List.cons_append, trimR_bl hd]
            have ih := trim_comm n (c :: a) (by simp at h ⊢; omega)
            rw [trimL_neg hc] at ih
            rw [← ih]
          · rw [← List.cons_append, trimR_nb hd, List.cons_append, trimL_neg hc]
def trimB (l : List UInt8) : List UInt8 := trimR (trimL l)
theorem R_Trim_L1_eq : ∀ (k m : Nat) (l : List UInt8), l.length ≤ k → k < m → Big l → R_Trim_L1 m l = some (trimL l)
  | k, m, l, h1, h2, h3 => by
    obtain ⟨m, rfl⟩ : ∃ k, m = k + 1 := ⟨m - 1, by omega⟩
    cases l with
    | nil => rw [R_Trim_L1]; simp [trimL_nil]
    | cons c r =>
      rw [R_Trim_L1, if_pos (by simp only [List.length_cons]; omega), show (0 : Int) = ((0 : Nat) : Int) from rfl, idx_nat]
      simp only [bsome, List.getElem?_cons_zero, R_Blank_eq]
      by_cases hc : bl c
      · rw [decide_eq_true hc, if_pos rfl, cut_from (i := 1) (a := 1) rfl (by simp)]
        simp only [bsome, List.drop_succ_cons, List.drop_zero]
        cases k with
        | zero => simp at h1
        | succ k => rw [R_Trim_L1_eq k m r (by simpa using h1) (by omega) (by simp only [Big, List.length_cons] at h3 ⊢; omega), trimL_pos hc]
      · rw [decide_eq_false hc, if_neg (by simp), trimL_neg hc]
theorem R_Trim_L2_eq : ∀ (k m : Nat) (l : List UInt8), l.length ≤ k → k < m → Big l → R_Trim_L2 m l = some (trimR l)
  | k, m, l, h1, h2, h3 => by
    obtain ⟨m, rfl⟩ : ∃ k, m = k + 1 := ⟨m - 1, by omega⟩
    rcases snoc_cases l with rfl | ⟨a, c, rfl⟩
    · rw [R_Trim_L2]; simp [trimR_nil]
    · have hl : (a ++ [c]).length = a.length + 1 := by simp
      simp only [Big, hl] at h3
      rw [R_Trim_L2, if_pos (by rw [hl]; omega), hl, show ((a.length + 1 : Nat) : Int) - 1 = ((a.length : Nat) : Int) by omega, chk_ok (by omega) (by omega)]
      simp only [bsome]
      rw [idx_nat, List.getElem?_append_right (Nat.le_refl _)]
      simp only [Nat.sub_self, List.getElem?_cons_zero, bsome, R_Blank_eq]
      by_cases hc : bl c
      · rw [decide_eq_true hc, if_pos rfl, cut_to rfl (by rw [hl]; omega)]
        simp only [bsome, List.take_left]
        cases k with
        | zero => rw [hl] at h1; omega
        | succ k => rw [R_Trim_L2_eq k m a (by rw [hl] at h1; omega) (by omega) (by unfold Big; omega), trimR_bl hc]
      · rw [decide_eq_false hc, if_neg (by simp), trimR_nb hc]
theorem R_Trim_eq (l : List UInt8) (hl : Big l) : R_Trim l = some (trimB l) := by
  unfold R_Trim trimB
  rw [R_Trim_L1_eq l.length FU l (Nat.le_refl _) (FU_gt (by omega)) hl]
  simp only [bsome]
  have := trimL_len l
  rw [R_Trim_L2_eq (trimL l).length FU (trimL l) (Nat.le_refl _) (FU_gt (by omega)) (by unfold Big; omega)]
  rfl
/-! sets of ASCII bytes -/
theorem set_blank : strings_makeASCIISet [32, 9] = some ((List.range 256).map (fun n => decide (n = 32 ∨ n = 9)), true) := by decide +kernel
theorem set_end : strings_makeASCIISet [13, 10, 0] = some ((List.range 256).map (fun n => decide (n = 13 ∨ n = 10 ∨ n = 0)), true) := by decide +kernel
theorem contains_at (f : Nat → Bool) (c : UInt8) : strings_asciiSet_contains ((List.range 256).map f) c = some (f c.toNat) := by
  have hc := c.toNat_lt
  unfold strings_asciiSet_contains idxA
  rw [if_pos (by simp), idx_nat, List.getElem?_map, List.getElem?_range (by omega)]
  rfl
theorem trimRA_eq : ∀ (k m : Nat) (l : List UInt8), l.length ≤ k → k < m → Big l → strings_trimRightASCII_L1 ((List.range 256).map (fun n => decide (n = 32 ∨ n = 9))) m l = some (trimR l)
  | k, m, l, h1, h2, h3 => by
    obtain ⟨m, rfl⟩ : ∃ k, m = k + 1 := ⟨m - 1, by omega⟩
    rcases snoc_cases l with rfl | ⟨a, c, rfl⟩
    · rw [strings_trimRightASCII_L1, if_neg (by simp)]; rfl
    · have hl : (a ++ [c]).length = a.length + 1 := by simp
      simp only [Big, hl] at h3
      rw [strings_trimRightASCII_L1, if_pos (by rw [hl]; omega), hl, show ((a.length + 1 : Nat) : Int) - 1 = ((a.length : Nat) : Int) by omega, chk_ok (by omega) (by omega)]
      simp only [bsome]
      rw [idx_nat, List.getElem?_append_right (Nat.le_refl _)]
      simp only [Nat.sub_self, List.getElem?_cons_zero, bsome, contains_at]
      by_cases hc : bl c
      · rw [decide_eq_true (show c.toNat = 32 ∨ c.toNat = 9 from hc), if_pos rfl, cut_to rfl (by rw [hl]; omega)]
        simp only [bsome, List.take_left]
        cases k with
        | zero => rw [hl] at h1; omega
        | succ k => rw [trimRA_eq k m a (by rw [hl] at h1; omega) (by omega) (by unfold Big; omega), trimR_bl hc]
      · rw [decide_eq_false (show ¬ (c.toNat = 32 ∨ c.toNat = 9) from hc), if_neg (by simp), trimR_nb hc]
theorem trimLA_eq : ∀ (k m : Nat) (l : List UInt8), l.length ≤ k → k < m → Big l → strings_trimLeftASCII_L1 ((List.range 256).map (fun n => decide (n = 32 ∨ n = 9))) m l = some (trimL l)
  | k, m, l, h1, h2, h3 => by
    obtain ⟨m, rfl⟩ : ∃ k, m = k + 1 := ⟨m - 1, by omega⟩
    cases l with
    | nil => rw [strings_trimLeftASCII_L1, if_neg (by simp)]; rfl
    | cons c r =>
      rw [strings_trimLeftASCII_L1, if_pos (by simp only [List.length_cons]; omega), show (0 : Int) = ((0 : Nat) : Int) from rfl, idx_nat]
      simp only [bsome, List.getElem?_cons_zero, contains_at]
      by_cases hc : bl c
      · rw [decide_eq_true (show c.toNat = 32 ∨ c.toNat = 9 from hc), if_pos rfl, cut_from (i := 1) (a := 1) rfl (by simp)]
        simp only [bsome, List.drop_succ_cons, List.drop_zero]
        cases k with
        | zero => simp at h1
        | succ k => rw [trimLA_eq k m r (by simpa using h1) (by omega) (by simp only [Big, List.length_cons] at h3 ⊢; omega), trimL_pos hc]
      · rw [decide_eq_false (show ¬ (c.toNat = 32 ∨ c.toNat = 9) from hc), if_neg (by simp), trimL_neg hc]
theorem rep_len : chkA 256 (List.replicate 256 false : List Bool) = some (List.replicate 256 false) := chkA_ok List.length_replicate
theorem rng_len (f : Nat → Bool) : chkA 256 ((List.range 256).map f) = some ((List.range 256).map f) := chkA_ok (by rw [List.length_map, List.length_range])
theorem strings_Trim_eq (l : List UInt8) (hl : Big l) : strings_Trim l [32, 9] = some (trimB l) := by
  unfold strings_Trim
  by_cases h : l = []
  · subst h; rfl
  · rw [if_neg h]
    simp only [bsome, show (decide (([32, 9] : List UInt8) = [])) = false from rfl, Bool.false_eq_true, if_false]
    rw [if_neg (by decide)]
    simp only [bsome, Bool.false_eq_true, if_false, set_blank, rep_len, rng_len, if_true]
    unfold strings_trimRightASCII strings_trimLeftASCII
    rw [trimRA_eq l.length FU l (Nat.le_refl _) (FU_gt (by omega)) hl]
    simp only [bsome]
    have := trimR_len l
    rw [trimLA_eq (trimR l).length FU (trimR l) (Nat.le_refl _) (FU_gt (by omega)) (by unfold Big; omega)]
    simp only [bsome]
    rw [trimB, trim_comm l.length l (Nat.le_refl _)]
end Go.Ph.Pf
