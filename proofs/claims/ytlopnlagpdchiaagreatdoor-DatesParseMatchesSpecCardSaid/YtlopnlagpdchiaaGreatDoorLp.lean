/-
  Laws of plain loops (functions by recursion on fuel that walk over places). No program in sight.
-/
import Derived.Test.YtlopnlagpdchiaaGreatDoorPl
set_option linter.unusedVariables false
set_option linter.unusedSimpArgs false
namespace Go.Ph.Pl
theorem u8_lit (c n : UInt8) : c = n ↔ c.toNat = n.toNat := UInt8.toNat_inj.symm
theorem drop_cons {α : Type} {l : List α} {i : Nat} (h : i < l.length) : l.drop i = l[i] :: l.drop (i + 1) := List.drop_eq_getElem_cons h
/-- a loop over a list that leaves at the first element that is so, with an answer that does not depend on where -/
theorem scanL {α β : Type} (L : Nat → Int → Option β) (l : List α) (p : α → Bool) (stop r : β) (hend : ∀ m, L (m + 1) (l.length : Int) = some stop)
    (hstep : ∀ m i (h : i < l.length), L (m + 1) (i : Int) = if p l[i] = true then some r else L m ((i + 1 : Nat) : Int)) :
    ∀ (k i m : Nat), l.length - i ≤ k → k < m → i ≤ l.length → L m (i : Int) = some (if (l.drop i).any p = true then r else stop)
  | 0, i, m, h1, h2, h3 => by
    obtain ⟨m, rfl⟩ : ∃ k, m = k + 1 := ⟨m - 1, by omega⟩
    obtain rfl : i = l.length := by omega
    rw [hend, List.drop_length]; rfl
  | k + 1, i, m, h1, h2, h3 => by
    obtain ⟨m, rfl⟩ : ∃ k, m = k + 1 := ⟨m - 1, by omega⟩
    by_cases hi : i < l.length
    · rw [hstep m i hi, drop_cons hi, List.any_cons]
      by_cases hp : p l[i] = true
      · rw [if_pos hp, hp]; rfl
      · rw [if_neg hp, scanL L l p stop r hend hstep k (i + 1) m (by omega) (by omega) (by omega)]
        have : p l[i] = false := by simpa using hp
        rw [this]; rfl
    · obtain rfl : i = l.length := by omega
      rw [hend, List.drop_length]; rfl
theorem scan0 {α β : Type} {L : Nat → Int → Option β} {l : List α} {p : α → Bool} {stop r : β} {m : Nat} (hm : l.length < m) (hend : ∀ m, L (m + 1) (l.length : Int) = some stop)
    (hstep : ∀ m i (h : i < l.length), L (m + 1) (i : Int) = if p l[i] = true then some r else L m ((i + 1 : Nat) : Int)) : L m 0 = some (if l.any p = true then r else stop) := by
  have := scanL L l p stop r hend hstep l.length 0 m (by omega) hm (by omega)
  simpa using this
/-- the same where the answer depends on the place -/
theorem scanP {α β : Type} (L : Nat → Int → Option β) (l : List α) (p : Nat → α → Option β) (stop : β) (hend : ∀ m, L (m + 1) (l.length : Int) = some stop)
    (hstep : ∀ m i (h : i < l.length), L (m + 1) (i : Int) = match p i l[i] with | some r => some r | none => L m ((i + 1 : Nat) : Int)) :
    ∀ (k i m : Nat), l.length - i ≤ k → k < m → i ≤ l.length →
      (∃ (j : Nat) (hj : j < l.length) (r : β), i ≤ j ∧ p j l[j] = some r ∧ (∀ (a : Nat) (ha : a < l.length), i ≤ a → a < j → p a l[a] = none) ∧ L m (i : Int) = some r) ∨
      ((∀ (a : Nat) (ha : a < l.length), i ≤ a → p a l[a] = none) ∧ L m (i : Int) = some stop)
  | 0, i, m, h1, h2, h3 => by
    obtain ⟨m, rfl⟩ : ∃ k, m = k + 1 := ⟨m - 1, by omega⟩
    obtain rfl : i = l.length := by omega
    exact .inr ⟨fun a ha hi => by omega, hend m⟩
  | k + 1, i, m, h1, h2, h3 => by
    obtain ⟨m, rfl⟩ : ∃ k, m = k + 1 := ⟨m - 1, by omega⟩
    by_cases hi : i < l.length
    · cases hp : p i l[i] with
      | some r => exact .inl ⟨i, hi, r, Nat.le_refl _, hp, fun a ha h1 h2 => by omega, by rw [hstep m i hi, hp]⟩
      | none =>
        rw [hstep m i hi, hp]
        rcases scanP L l p stop hend hstep k (i + 1) m (by omega) (by omega) (by omega) with ⟨j, hj, r, a1, a2, a3, a4⟩ | ⟨a1, a2⟩
        · refine .inl ⟨j, hj, r, by omega, a2, fun a ha h1 h2 => ?_, a4⟩
          rcases Nat.eq_or_lt_of_le h1 with rfl | h1
          · exact hp
          · exact a3 a ha h1 h2
        · refine .inr ⟨fun a ha h1 => ?_, a2⟩
          rcases Nat.eq_or_lt_of_le h1 with rfl | h1
          · exact hp
          · exact a1 a ha h1
    · obtain rfl : i = l.length := by omega
      exact .inr ⟨fun a ha hi => by omega, hend m⟩
theorem ite_b {α : Type} {b : Bool} {x y : α} {p : Prop} [Decidable p] (h : b = true ↔ p) : (if b = true then x else y) = if p then x else y := by
  by_cases hp : p
  · rw [if_pos hp, if_pos (h.2 hp)]
  · rw [if_neg hp, if_neg (fun hb => hp (h.1 hb))]
theorem FU_gt {n : Nat} (h : n ≤ 9223372036854775807) : n < FU := by rw [FU_eq]; omega
end Go.Ph.Pl
