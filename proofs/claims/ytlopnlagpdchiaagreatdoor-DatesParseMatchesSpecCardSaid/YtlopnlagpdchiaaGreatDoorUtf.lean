/-
  UTF-8 in plain Lean: the reference's reading of a character and the model's. No program in sight.
-/
import Derived.Lib.DecodeN
set_option linter.unusedVariables false
set_option linter.unusedSimpArgs false
namespace Go.Ph.Utf
open Go

def nat (l : List UInt8) (i : Nat) : Nat := (l.getD i 0).toNat
theorem nat_lt (l : List UInt8) (i : Nat) : nat l i < 256 := (l.getD i 0).toNat_lt
theorem nat_of {l : List UInt8} {i : Nat} {u : UInt8} (h : l[i]? = some u) : nat l i = u.toNat := by
  unfold nat; rw [List.getD_eq_getElem?_getD, h]; rfl
theorem nat_drop (l : List UInt8) (a i : Nat) : nat (l.drop a) i = nat l (a + i) := by
  unfold nat; rw [List.getD_eq_getElem?_getD, List.getD_eq_getElem?_getD, List.getElem?_drop]

/-- size, first part, least number -/
def kindOf (c : Nat) : Nat × Nat × Nat :=
  if 192 ≤ c ∧ c ≤ 223 then (2, c - 192, 128) else if 224 ≤ c ∧ c ≤ 239 then (3, c - 224, 2048) else if 240 ≤ c ∧ c ≤ 247 then (4, c - 240, 65536) else (0, 0, 0)
def okC (x : Nat) : Prop := 128 ≤ x ∧ x ≤ 191
instance (x : Nat) : Decidable (okC x) := inferInstanceAs (Decidable (_ ∧ _))
def cont (l : List UInt8) (n0 : Nat) : Nat → Option Nat
  | 0 => some n0
  | k + 1 => match cont l n0 k with
    | none => none
    | some n => if okC (nat l (k + 1)) then some (64 * n + nat l (k + 1) - 128) else none
def badN (n least : Nat) : Prop := n < least ∨ n > 1114111 ∨ (55296 ≤ n ∧ n ≤ 57343)
instance (n least : Nat) : Decidable (badN n least) := inferInstanceAs (Decidable (_ ∨ _))
/-- the character at the head of a list; -1: invalid -/
def rune (l : List UInt8) : Int × Nat :=
  if nat l 0 < 128 then ((nat l 0 : Int), 1)
  else if (kindOf (nat l 0)).1 = 0 ∨ l.length < (kindOf (nat l 0)).1 then (-1, 1)
  else match cont l (kindOf (nat l 0)).2.1 ((kindOf (nat l 0)).1 - 1) with
    | none => (-1, 1)
    | some n => if badN n (kindOf (nat l 0)).2.2 then (-1, 1) else ((n : Int), (kindOf (nat l 0)).1)
/-- the model's reading -/
def dr (l : List UInt8) : Nat × Nat := Lib.decodeN l.length (nat l 0) (nat l 1) (nat l 2) (nat l 3)
theorem kindOf_cases (c : Nat) : (kindOf c = (0, 0, 0) ∧ ¬ (192 ≤ c ∧ c ≤ 247)) ∨ (kindOf c = (2, c - 192, 128) ∧ 192 ≤ c ∧ c ≤ 223) ∨ (kindOf c = (3, c - 224, 2048) ∧ 224 ≤ c ∧ c ≤ 239) ∨ (kindOf c = (4, c - 240, 65536) ∧ 240 ≤ c ∧ c ≤ 247) := by
  unfold kindOf
  split
  · exact .inr (.inl ⟨rfl, by omega⟩)
  · split
    · exact .inr (.inr (.inl ⟨rfl, by omega⟩))
    · split
      · exact .inr (.inr (.inr ⟨rfl, by omega⟩))
      · exact .inl ⟨rfl, by omega⟩
/-- the same as one expression -/
def chk (n least size : Nat) : Int × Nat := if badN n least then (-1, 1) else ((n : Int), size)
def runeN (m b0 b1 b2 b3 : Nat) : Int × Nat :=
  if b0 < 128 then ((b0 : Int), 1)
  else if 192 ≤ b0 ∧ b0 ≤ 223 then (if 2 ≤ m ∧ okC b1 then chk (64 * (b0 - 192) + b1 - 128) 128 2 else (-1, 1))
  else if 224 ≤ b0 ∧ b0 ≤ 239 then (if 3 ≤ m ∧ okC b1 ∧ okC b2 then chk (64 * (64 * (b0 - 224) + b1 - 128) + b2 - 128) 2048 3 else (-1, 1))
  else if 240 ≤ b0 ∧ b0 ≤ 247 then (if 4 ≤ m ∧ okC b1 ∧ okC b2 ∧ okC b3 then chk (64 * (64 * (64 * (b0 - 240) + b1 - 128) + b2 - 128) + b3 - 128) 65536 4 else (-1, 1))
  else (-1, 1)
theorem rune_eq (l : List UInt8) : rune l = runeN l.length (nat l 0) (nat l 1) (nat l 2) (nat l 3) := by
  unfold rune runeN
  by_cases ha : nat l 0 < 128
  · rw [if_pos ha, if_pos ha]
  · rw [if_neg ha, if_neg ha]
    rcases kindOf_cases (nat l 0) with ⟨hk, hr⟩ | ⟨hk, hr⟩ | ⟨hk, hr⟩ | ⟨hk, hr⟩
    · rw [hk, if_pos (.inl rfl), if_neg (by omega), if_neg (by omega), if_neg (by omega)]
    · rw [hk, if_pos hr]
      simp only [cont, chk]
      by_cases hm : 2 ≤ l.length <;> by_cases h1 : okC (nat l 1) <;> simp [hm, h1]
      all_goals omega
    · have n1 : ¬ (192 ≤ nat l 0 ∧ nat l 0 ≤ 223) := by omega
      rw [hk, if_neg n1, if_pos hr]
      simp only [cont, chk]
      by_cases hm : 3 ≤ l.length <;> by_cases h1 : okC (nat l 1) <;> by_cases h2 : okC (nat l 2) <;> simp [hm, h1, h2]
      all_goals omega
    · have n1 : ¬ (192 ≤ nat l 0 ∧ nat l 0 ≤ 223) := by omega
      have n2 : ¬ (224 ≤ nat l 0 ∧ nat l 0 ≤ 239) := by omega
      rw [hk, if_neg n1, if_neg n2, if_pos hr]
      simp only [cont, chk]
      by_cases hm : 4 ≤ l.length <;> by_cases h1 : okC (nat l 1) <;> by_cases h2 : okC (nat l 2) <;> by_cases h3 : okC (nat l 3) <;> simp [hm, h1, h2, h3]
      all_goals omega
theorem runeN_dr (m b0 b1 b2 b3 : Nat) (h0 : b0 < 256) (h1 : b1 < 256) (h2 : b2 < 256) (h3 : b3 < 256) : Lib.decodeN m b0 b1 b2 b3 = if (runeN m b0 b1 b2 b3).1 < 0 then (65533, 1) else ((runeN m b0 b1 b2 b3).1.toNat, (runeN m b0 b1 b2 b3).2) := by
  have c1 : b1 / 64 = 2 ↔ okC b1 := by unfold okC; omega
  have c2 : b2 / 64 = 2 ↔ okC b2 := by unfold okC; omega
  have c3 : b3 / 64 = 2 ↔ okC b3 := by unfold okC; omega
  have hchk : ∀ n least size : Nat, (if (chk n least size).1 < 0 then ((65533, 1) : Nat × Nat) else ((chk n least size).1.toNat, (chk n least size).2)) = if badN n least then (65533, 1) else (n, size) := by
    intro n least size
    unfold chk
    by_cases hb : badN n least
    · simp [hb]
    · simp only [if_neg hb]
      rw [if_neg (by omega), Int.toNat_natCast]
  unfold Lib.decodeN runeN
  by_cases ha : b0 < 128
  · simp only [if_pos ha]
    rw [if_neg (by omega), Int.toNat_natCast]
  · simp only [if_neg ha]
    by_cases k1 : 192 ≤ b0 ∧ b0 ≤ 223
    · have q1 : b0 / 32 = 6 := by omega
      have q2 : ¬ b0 / 16 = 14 := by omega
      have q3 : ¬ b0 / 8 = 30 := by omega
      simp only [if_pos k1, q1, q2, q3, false_and, if_false, true_and, c1]
      by_cases hc : 2 ≤ m ∧ okC b1
      · rw [if_pos ⟨by omega, hc.2⟩]
        simp only [if_pos hc]
        rw [hchk]
        obtain ⟨hm, ho⟩ := hc
        unfold okC at ho
        rw [show 64 * (b0 - 192) + b1 - 128 = b0 % 32 * 64 + b1 % 64 by omega]
        by_cases hb : b0 % 32 * 64 + b1 % 64 ≥ 128
        · rw [if_pos hb, if_neg (by unfold badN; omega)]
        · rw [if_neg hb, if_pos (by unfold badN; omega)]
      · rw [if_neg (fun h => hc ⟨by omega, h.2⟩)]
        simp only [if_neg hc]
        rfl
    · simp only [if_neg k1]
      have q1 : ¬ b0 / 32 = 6 := by omega
      by_cases k2 : 224 ≤ b0 ∧ b0 ≤ 239
      · have q2 : b0 / 16 = 14 := by omega
        have q3 : ¬ b0 / 8 = 30 := by omega
        simp only [if_pos k2, q1, q2, q3, false_and, if_false, true_and, c1, c2]
        by_cases hc : 3 ≤ m ∧ okC b1 ∧ okC b2
        · rw [if_pos ⟨⟨by omega, hc.2.1⟩, ⟨by omega, hc.2.2⟩⟩]
          simp only [if_pos hc]
          rw [hchk]
          obtain ⟨hm, ho, ho2⟩ := hc
          unfold okC at ho ho2
          rw [show 64 * (64 * (b0 - 224) + b1 - 128) + b2 - 128 = b0 % 16 * 4096 + b1 % 64 * 64 + b2 % 64 by omega]
          generalize b0 % 16 * 4096 + b1 % 64 * 64 + b2 % 64 = q
          by_cases hb : q ≥ 2048 ∧ (q < 55296 ∨ (57344 ≤ q ∧ q ≤ 1114111))
          · rw [if_pos hb, if_neg (by unfold badN; omega)]
          · rw [if_neg hb, if_pos (by unfold badN; omega)]
        · rw [if_neg (fun h => hc ⟨by omega, h.1.2, h.2.2⟩)]
          simp only [if_neg hc]
          rfl
      · simp only [if_neg k2]
        have q2 : ¬ b0 / 16 = 14 := by omega
        by_cases k3 : 240 ≤ b0 ∧ b0 ≤ 247
        · have q3 : b0 / 8 = 30 := by omega
          simp only [if_pos k3, q1, q2, q3, false_and, if_false, true_and, c1, c2, c3]
          by_cases hc : 4 ≤ m ∧ okC b1 ∧ okC b2 ∧ okC b3
          · rw [if_pos ⟨⟨by omega, hc.2.1⟩, ⟨by omega, hc.2.2.1⟩, ⟨by omega, hc.2.2.2⟩⟩]
            simp only [if_pos hc]
            rw [hchk]
            obtain ⟨hm, ho, ho2, ho3⟩ := hc
            unfold okC at ho ho2 ho3
            rw [show 64 * (64 * (64 * (b0 - 240) + b1 - 128) + b2 - 128) + b3 - 128 = b0 % 8 * 262144 + b1 % 64 * 4096 + b2 % 64 * 64 + b3 % 64 by omega]
            generalize b0 % 8 * 262144 + b1 % 64 * 4096 + b2 % 64 * 64 + b3 % 64 = q
            by_cases hb : q ≥ 65536 ∧ (q < 55296 ∨ (57344 ≤ q ∧ q ≤ 1114111))
            · rw [if_pos hb, if_neg (by unfold badN; omega)]
            · rw [if_neg hb, if_pos (by unfold badN; omega)]
          · rw [if_neg (fun h => hc ⟨by omega, h.1.2, h.2.1.2, h.2.2.2⟩)]
            simp only [if_neg hc]
            rfl
        · have q3 : ¬ b0 / 8 = 30 := by omega
          simp only [if_neg k3, q1, q2, q3, false_and, if_false]
          rfl
theorem rune_dr (l : List UInt8) : dr l = if (rune l).1 < 0 then (65533, 1) else ((rune l).1.toNat, (rune l).2) := by
  rw [rune_eq]; exact runeN_dr _ _ _ _ _ (nat_lt _ _) (nat_lt _ _) (nat_lt _ _) (nat_lt _ _)
theorem rune_size (l : List UInt8) : 1 ≤ (rune l).2 ∧ (rune l).2 ≤ 4 ∧ (l ≠ [] → (rune l).2 ≤ l.length) := by
  have hl : l ≠ [] → 1 ≤ l.length := fun h => List.length_pos_iff.2 h
  unfold rune
  split
  · exact ⟨by simp, by simp, hl⟩
  · split
    · exact ⟨by simp, by simp, hl⟩
    · rename_i _ h
      have hk := kindOf_cases (nat l 0)
      split
      · exact ⟨by simp, by simp, hl⟩
      · split
        · exact ⟨by simp, by simp, hl⟩
        · simp only []
          refine ⟨by omega, ?_, fun _ => by omega⟩
          rcases hk with ⟨e, _⟩ | ⟨e, _⟩ | ⟨e, _⟩ | ⟨e, _⟩ <;> rw [e] <;> simp
theorem rune_lt (l : List UInt8) : -1 ≤ (rune l).1 ∧ (rune l).1 ≤ 1114111 := by
  have h0 := nat_lt l 0
  unfold rune
  repeat' split
  all_goals simp only []
  all_goals first | omega | (rename_i h; unfold badN at h; omega)
theorem chk_cases (n least size : Nat) : chk n least size = (-1, 1) ∨ (chk n least size = ((n : Int), size) ∧ ¬ badN n least) := by
  unfold chk
  split
  · exact .inl rfl
  · exact .inr ⟨rfl, by assumption⟩
/-- a replacement character that is valid has three bytes -/
theorem rune_fffd (l : List UInt8) (h : (rune l).1 = 65533) : (rune l).2 = 3 := by
  have h0 := nat_lt l 0
  have h1 := nat_lt l 1
  have h2 := nat_lt l 2
  have h3 := nat_lt l 3
  rw [rune_eq] at h ⊢
  generalize nat l 0 = b0 at *
  generalize nat l 1 = b1 at *
  generalize nat l 2 = b2 at *
  generalize nat l 3 = b3 at *
  unfold runeN at h ⊢
  by_cases ha : b0 < 128
  · rw [if_pos ha] at h; simp only [] at h; omega
  · rw [if_neg ha] at h ⊢
    by_cases k1 : 192 ≤ b0 ∧ b0 ≤ 223
    · rw [if_pos k1] at h
      split at h
      · rename_i hc
        have ho := hc.2
        unfold okC at ho
        rcases chk_cases (64 * (b0 - 192) + b1 - 128) 128 2 with e | ⟨e, hb⟩
        · rw [e] at h; simp at h
        · rw [e] at h; simp only [] at h; omega
      · simp at h
    · rw [if_neg k1] at h ⊢
      by_cases k2 : 224 ≤ b0 ∧ b0 ≤ 239
      · rw [if_pos k2] at h ⊢
        split at h
        · rename_i hc
          rw [if_pos hc]
          rcases chk_cases (64 * (64 * (b0 - 224) + b1 - 128) + b2 - 128) 2048 3 with e | ⟨e, hb⟩
          · rw [e] at h; simp at h
          · rw [e]
        · simp at h
      · rw [if_neg k2] at h ⊢
        by_cases k3 : 240 ≤ b0 ∧ b0 ≤ 247
        · rw [if_pos k3] at h
          split at h
          · rename_i hc
            rcases chk_cases (64 * (64 * (64 * (b0 - 240) + b1 - 128) + b2 - 128) + b3 - 128) 65536 4 with e | ⟨e, hb⟩
            · rw [e] at h; simp at h
            · rw [e] at h; unfold badN at hb; simp only [] at h; omega
          · simp at h
        · rw [if_neg k3] at h; simp at h
theorem rune_neg (l : List UInt8) (h : (rune l).1 < 0) : rune l = (-1, 1) := by
  revert h
  unfold rune
  repeat' split
  all_goals first | (intro _; rfl) | (intro h; simp only [] at h; omega)
theorem first_bad (l : List UInt8) (h1 : ((dr l).1 : Int) = 65533) (h2 : ((dr l).2 : Int) = 1) : rune l = (-1, 1) := by
  by_cases h : (rune l).1 < 0
  · exact rune_neg l h
  · rw [rune_dr, if_neg h] at h1 h2
    simp only [] at h1 h2
    have := rune_fffd l (by omega)
    omega
theorem first_ok (l : List UInt8) (h : ¬ (((dr l).1 : Int) = 65533 ∧ ((dr l).2 : Int) = 1)) : 0 ≤ (rune l).1 ∧ ((dr l).1 : Int) = (rune l).1 ∧ (dr l).2 = (rune l).2 := by
  by_cases hn : (rune l).1 < 0
  · rw [rune_dr, if_pos hn] at h
    exact absurd ⟨rfl, rfl⟩ h
  · rw [rune_dr, if_neg hn]
    exact ⟨by omega, by simp only []; omega, rfl⟩
/-! the reference's way to it -/
theorem rune_ascii {l : List UInt8} (h : nat l 0 < 128) : rune l = ((nat l 0 : Int), 1) := by unfold rune; rw [if_pos h]
theorem rune_short {l : List UInt8} {s a m : Nat} (h : ¬ nat l 0 < 128) (hk : kindOf (nat l 0) = (s, a, m)) (hs : s = 0 ∨ l.length < s) : rune l = (-1, 1) := by
  unfold rune; rw [if_neg h, hk, if_pos hs]
theorem rune_cut {l : List UInt8} {s a m : Nat} (h : ¬ nat l 0 < 128) (hk : kindOf (nat l 0) = (s, a, m)) (hc : cont l a (s - 1) = none) : rune l = (-1, 1) := by
  unfold rune; rw [if_neg h, hk]
  split
  · rfl
  · simp only []; rw [hc]
theorem rune_bad {l : List UInt8} {s a m n : Nat} (h : ¬ nat l 0 < 128) (hk : kindOf (nat l 0) = (s, a, m)) (hc : cont l a (s - 1) = some n) (hb : badN n m) : rune l = (-1, 1) := by
  unfold rune; rw [if_neg h, hk]
  split
  · rfl
  · simp only []; rw [hc]; simp only []; rw [if_pos hb]
theorem rune_good {l : List UInt8} {s a m n : Nat} (h : ¬ nat l 0 < 128) (hk : kindOf (nat l 0) = (s, a, m)) (hs : ¬ (s = 0 ∨ l.length < s)) (hc : cont l a (s - 1) = some n) (hb : ¬ badN n m) : rune l = ((n : Int), s) := by
  unfold rune; rw [if_neg h, hk, if_neg hs]; simp only []; rw [hc]; simp only []; rw [if_neg hb]
theorem cont_none {l : List UInt8} {a k : Nat} (h : cont l a k = none) : ∀ j, k ≤ j → cont l a j = none := by
  intro j hj
  induction j with
  | zero => rw [Nat.le_zero.1 hj] at h; exact h
  | succ j ih =>
    rcases Nat.lt_or_ge k (j + 1) with h1 | h1
    · rw [cont, ih (by omega)]
    · rw [show j + 1 = k by omega]; exact h
theorem cont_lt {l : List UInt8} {a : Nat} (ha : a < 32) : ∀ (k n : Nat), cont l a k = some n → n < 32 * 64 ^ k := by
  intro k
  induction k with
  | zero => intro n h; simp only [cont, Option.some.injEq] at h; omega
  | succ k ih =>
    intro n h
    rw [cont] at h
    cases hc : cont l a k with
    | none => rw [hc] at h; cases h
    | some m =>
      rw [hc] at h
      simp only [] at h
      have h1 := ih m hc
      split at h
      · rename_i ho
        unfold okC at ho
        simp only [Option.some.injEq] at h
        rw [Nat.pow_succ]
        omega
      · cases h
theorem cont_yes {l : List UInt8} {a k n : Nat} (h : cont l a k = some n) (ho : okC (nat l (k + 1))) : cont l a (k + 1) = some (64 * n + nat l (k + 1) - 128) := by
  rw [cont, h]; simp only []; rw [if_pos ho]
theorem cont_no {l : List UInt8} {a k n : Nat} (h : cont l a k = some n) (ho : ¬ okC (nat l (k + 1))) : cont l a (k + 1) = none := by
  rw [cont, h]; simp only []; rw [if_neg ho]
theorem kindOf_lt {c s a m : Nat} (h : kindOf c = (s, a, m)) (hc : c < 256) : s ≤ 4 ∧ a < 32 ∧ m ≤ 65536 := by
  rcases kindOf_cases c with ⟨e, _⟩ | ⟨e, _⟩ | ⟨e, _⟩ | ⟨e, _⟩ <;> rw [e] at h <;> simp only [Prod.mk.injEq] at h <;> omega
end Go.Ph.Utf
