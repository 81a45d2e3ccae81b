/-
  Texts split at one byte. No program in sight.
-/
import Derived.Test.YtlopnlagpdchiaaGreatDoorLb
import Derived.Test.YtlopnlagpdchiaaGreatDoorLp
set_option linter.unusedVariables false
set_option linter.unusedSimpArgs false
namespace Go.Ph.Pl
theorem index1_cons (b c : UInt8) (l : List UInt8) : Lib.index (b :: l) [c] = if b = c then 0 else if Lib.index l [c] == -1 then -1 else Lib.index l [c] + 1 := by
  rw [Lib.index]
  by_cases h : b = c
  · subst h; simp [List.isPrefixOf]
  · have : ([c].isPrefixOf (b :: l)) = false := by simp [List.isPrefixOf]; exact fun h' => h h'.symm
    rw [if_neg h, this]; simp
theorem split1_nil (c : UInt8) : Lib.split [] [c] = [[]] := by
  unfold Lib.split
  rw [Lib.count_one]; rfl
theorem split1_eq (c : UInt8) (l : List UInt8) : Lib.split (c :: l) [c] = [] :: Lib.split l [c] := by
  unfold Lib.split
  rw [Lib.count_cons_eq, Nat.add_comm, Lib.splitK, index1_cons, if_pos rfl]
  rfl
theorem splitK_ne (b c : UInt8) (h : b ≠ c) : ∀ (k : Nat) (l : List UInt8), ∃ x t, Lib.splitK [c] 0 k l = x :: t ∧ Lib.splitK [c] 0 k (b :: l) = (b :: x) :: t
  | 0, l => ⟨l, [], rfl, rfl⟩
  | k + 1, l => by
    rw [Lib.splitK, Lib.splitK, index1_cons, if_neg h]
    by_cases hi : (Lib.index l [c] == -1) = true
    · rw [if_pos hi, if_pos hi]
      exact ⟨l, [], rfl, by rw [if_pos (by decide)]⟩
    · have hge := Lib.index_ge l [c]
      have hne : Lib.index l [c] ≠ -1 := by simpa using hi
      rw [if_neg hi, if_neg hi]
      refine ⟨_, _, rfl, ?_⟩
      rw [if_neg (by simp; omega)]
      have e : (Lib.index l [c] + 1).toNat = (Lib.index l [c]).toNat + 1 := by omega
      rw [e]
      simp [Nat.add_assoc]
theorem split1_ne {b c : UInt8} (h : b ≠ c) (l : List UInt8) : ∃ x t, Lib.split l [c] = x :: t ∧ Lib.split (b :: l) [c] = (b :: x) :: t := by
  unfold Lib.split
  rw [Lib.count_cons_ne b c l h]
  exact splitK_ne b c h _ l
theorem split1_app (c : UInt8) : ∀ (a l : List UInt8), (∀ x ∈ a, x ≠ c) → Lib.split (a ++ c :: l) [c] = a :: Lib.split l [c]
  | [], l, _ => split1_eq c l
  | b :: a, l, h => by
    obtain ⟨x, t, h1, h2⟩ := split1_ne (h b List.mem_cons_self) (a ++ c :: l)
    rw [split1_app c a l (fun x hx => h x (List.mem_cons_of_mem _ hx))] at h1
    cases h1
    exact h2
theorem split1_one (c : UInt8) : ∀ (a : List UInt8), (∀ x ∈ a, x ≠ c) → Lib.split a [c] = [a]
  | [], _ => split1_nil c
  | b :: a, h => by
    obtain ⟨x, t, h1, h2⟩ := split1_ne (h b List.mem_cons_self) a
    rw [split1_one c a (fun x hx => h x (List.mem_cons_of_mem _ hx))] at h1
    cases h1
    exact h2
theorem split1_join (c : UInt8) : ∀ (s : List UInt8), jn [c] (Lib.split s [c]) = s
  | [] => by rw [split1_nil]; rfl
  | b :: s => by
    have ih := split1_join c s
    by_cases h : b = c
    · subst h
      rw [split1_eq]
      cases hs : Lib.split s [b] with
      | nil => rw [hs] at ih; simp [jn] at ih; subst ih; rw [split1_nil] at hs; cases hs
      | cons x t => rw [hs] at ih; rw [jn, ih]; rfl
    · obtain ⟨x, t, h1, h2⟩ := split1_ne h s
      rw [h1] at ih
      rw [h2]
      cases t with
      | nil => simp [jn] at ih ⊢; exact ih
      | cons y t => simp [jn] at ih ⊢; exact ih
end Go.Ph.Pl
