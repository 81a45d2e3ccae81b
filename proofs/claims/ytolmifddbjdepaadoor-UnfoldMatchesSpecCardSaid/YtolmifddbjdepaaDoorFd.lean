/-
  Folded fields in plain Lean. No program in sight.
-/
import Derived.Test.YtolmifddbjdepaaDoorQp
set_option linter.unusedVariables false
set_option linter.unusedSimpArgs false
namespace Go.Ph.Fd
open Go Go.Ph.Qp

/-- a break point: a blank behind something else -/
def bk (s : List UInt8) (i : Nat) : Bool := match s[i - 1]?, s[i]? with
  | some a, some b => decide (0 < i ∧ bl b ∧ ¬ bl a)
  | _, _ => false
theorem bk_at {s : List UInt8} {i : Nat} {a b : UInt8} (h0 : 0 < i) (ha : s[i - 1]? = some a) (hb : s[i]? = some b) : bk s i = decide (bl b ∧ ¬ bl a) := by
  unfold bk
  rw [ha, hb]
  simp [h0]
theorem bk_drop (s : List UInt8) (a i : Nat) (hi : 0 < i) : bk (s.drop a) i = bk s (a + i) := by
  unfold bk
  rw [List.getElem?_drop, List.getElem?_drop, show a + (i - 1) = a + i - 1 by omega]
  have : 0 < a + i := by omega
  simp [hi, this]
/-- the walk over the places from i on: what is chosen -/
def sc (s : List UInt8) : Nat → Nat → Nat → Nat
  | 0, _, best => best
  | f + 1, i, best => if bk s i then (if best = 0 ∨ i ≤ 78 then sc s f (i + 1) i else sc s f (i + 1) best) else sc s f (i + 1) best
theorem sc_stay (s : List UInt8) : ∀ (f i best : Nat), 0 < best → 78 < i → sc s f i best = best := by
  intro f
  induction f with
  | zero => intro i best _ _; rfl
  | succ f ih =>
    intro i best h1 h2
    rw [sc]
    split
    · rw [if_neg (by omega), ih _ _ h1 (by omega)]
    · exact ih _ _ h1 (by omega)
/-- where the next line ends; 0: nowhere -/
def pt (s : List UInt8) (k : Nat) : Nat := sc s (s.length - k) k 0
theorem sc_le (s : List UInt8) : ∀ (f i best : Nat), sc s f i best = best ∨ (i ≤ sc s f i best ∧ sc s f i best < i + f ∧ bk s (sc s f i best) = true) := by
  intro f
  induction f with
  | zero => intro i best; exact .inl rfl
  | succ f ih =>
    intro i best
    rw [sc]
    split
    · rename_i hb
      split
      · rcases ih (i + 1) i with h | ⟨h1, h2, h3⟩
        · exact .inr ⟨by omega, by omega, by rw [h]; exact hb⟩
        · exact .inr ⟨by omega, by omega, h3⟩
      · rcases ih (i + 1) best with h | ⟨h1, h2, h3⟩
        · exact .inl h
        · exact .inr ⟨by omega, by omega, h3⟩
    · rcases ih (i + 1) best with h | ⟨h1, h2, h3⟩
      · exact .inl h
      · exact .inr ⟨by omega, by omega, h3⟩
theorem pt_lt {s : List UInt8} {k : Nat} (hk : 0 < k) (h : pt s k ≠ 0) : k ≤ pt s k ∧ pt s k < s.length ∧ bk s (pt s k) = true := by
  unfold pt at h ⊢
  rcases sc_le s (s.length - k) k 0 with h1 | ⟨h1, h2, h3⟩
  · exact absurd h1 h
  · exact ⟨h1, by omega, h3⟩
/-- the lines -/
def flF : Nat → List UInt8 → Nat → List (List UInt8)
  | 0, s, _ => [s]
  | f + 1, s, k => if 78 < s.length ∧ pt s k ≠ 0 then s.take (pt s k) :: flF f (s.drop (pt s k)) 1 else [s]
theorem flF_more : ∀ (f g : Nat) (s : List UInt8) (k : Nat), 0 < k → s.length ≤ f → s.length ≤ g → flF f s k = flF g s k := by
  intro f
  induction f with
  | zero =>
    intro g s k hk hf hg
    cases g with
    | zero => rfl
    | succ g => rw [flF, flF, if_neg (by omega)]
  | succ f ih =>
    intro g s k hk hf hg
    cases g with
    | zero => rw [flF, flF, if_neg (by omega)]
    | succ g =>
      rw [flF, flF]
      split
      · rename_i h
        have h1 := pt_lt hk h.2
        rw [ih g _ 1 (by omega) (by rw [List.length_drop]; omega) (by rw [List.length_drop]; omega)]
      · rfl
def fl (s : List UInt8) (k : Nat) : List (List UInt8) := flF s.length s k
theorem fl_more {s : List UInt8} {k : Nat} (hk : 0 < k) (h : 78 < s.length ∧ pt s k ≠ 0) : fl s k = s.take (pt s k) :: fl (s.drop (pt s k)) 1 := by
  have h1 := pt_lt hk h.2
  unfold fl
  rw [flF_more s.length (s.length - 1 + 1) s k hk (Nat.le_refl _) (by omega), flF, if_pos h, flF_more _ (s.drop (pt s k)).length _ 1 (by omega) (by rw [List.length_drop]; omega) (Nat.le_refl _)]
theorem fl_end {s : List UInt8} {k : Nat} (h : ¬ (78 < s.length ∧ pt s k ≠ 0)) : fl s k = [s] := by
  unfold fl
  cases hl : s.length with
  | zero => rfl
  | succ n => rw [flF, if_neg h]
theorem fl_flat : ∀ (n : Nat) (s : List UInt8) (k : Nat), 0 < k → s.length ≤ n → (fl s k).flatten = s := by
  intro n
  induction n with
  | zero =>
    intro s k _ h
    obtain rfl := List.eq_nil_of_length_eq_zero (Nat.le_zero.1 h)
    rfl
  | succ n ih =>
    intro s k hk h
    by_cases hc : 78 < s.length ∧ pt s k ≠ 0
    · have h1 := pt_lt hk hc.2
      rw [fl_more hk hc, List.flatten_cons, ih _ 1 (by omega) (by rw [List.length_drop]; omega), List.take_append_drop]
    · rw [fl_end hc]; simp
/-! the reference's choice -/
def step (at_ : Nat) (best : Int) (p : Nat) : Int := if at_ < p ∧ ((p : Int) - (at_ : Int) ≤ 78 ∨ best < 0) then (p : Int) else best
def pts (s : List UInt8) (k0 : Nat) : List Nat := (List.range s.length).filter fun i => decide (k0 ≤ i) && bk s i
theorem step_sc (s : List UInt8) (at_ k : Nat) (hk : 0 < k) : ∀ (f i best : Nat), k ≤ i → ((List.range' (at_ + i) f).filter fun j => bk s j).foldl (step at_) (if best = 0 then -1 else ((at_ + best : Nat) : Int)) = if sc (s.drop at_) f i best = 0 then -1 else ((at_ + sc (s.drop at_) f i best : Nat) : Int) := by
  intro f
  induction f with
  | zero => intro i best _; rfl
  | succ f ih =>
    intro i best hi
    rw [List.range'_succ, sc, bk_drop s at_ i (by omega)]
    by_cases hb : bk s (at_ + i) = true
    · rw [List.filter_cons_of_pos hb, List.foldl_cons, if_pos hb]
      by_cases hc : best = 0 ∨ i ≤ 78
      · rw [if_pos hc]
        have h1 : step at_ (if best = 0 then -1 else ((at_ + best : Nat) : Int)) (at_ + i) = if i = 0 then -1 else ((at_ + i : Nat) : Int) := by
          unfold step
          rw [if_neg (show ¬ i = 0 by omega)]
          by_cases h0 : best = 0
          · rw [if_pos h0, if_pos ⟨by omega, .inr (by decide)⟩]
          · rw [if_neg h0, if_pos ⟨by omega, .inl (by omega)⟩]
        rw [h1]
        exact ih (i + 1) i (by omega)
      · rw [if_neg hc]
        have h1 : step at_ (if best = 0 then -1 else ((at_ + best : Nat) : Int)) (at_ + i) = if best = 0 then -1 else ((at_ + best : Nat) : Int) := by
          unfold step
          rw [if_neg (show ¬ best = 0 by omega), if_neg (by omega)]
        rw [h1]
        exact ih (i + 1) best (by omega)
    · rw [List.filter_cons_of_neg hb, if_neg hb]
      exact ih (i + 1) best (by omega)
end Go.Ph.Fd
