/-
  The reference's way to the pieces of a text, in plain Lean. No program in sight.
-/
import Derived.Test.YtnjglbmaonbcbaaDoorGrPlain
set_option linter.unusedVariables false
set_option linter.unusedSimpArgs false
namespace Go.Ph.Gr
open Go Go.Ph.Utf

/-- what the reference holds behind i characters, at the place q -/
structure RP (l : List UInt8) (i q : Nat) (o : List (List UInt8)) (fl : Nat) : Prop where
  place : q ≤ l.length
  rest : (chars l).drop i = chars (l.drop q)
  small : i ≤ q ∧ o.length ≤ i ∧ fl ≤ i
  len : o.flatten.length = q
  state : (i = 0 ∧ o = []) ∨ (0 < i ∧ ∃ done cur prev, ((chars l)[i - 1]?).map (·.1) = some prev ∧ o = done.map byts ++ [byts cur] ∧ segs (chars l) = done ++ seg cur prev fl (chars (l.drop q)))
theorem RP.start (l : List UInt8) : RP l 0 0 [] 0 := ⟨Nat.zero_le _, rfl, by simp, rfl, .inl ⟨rfl, rfl⟩⟩
section
variable {l : List UInt8} {i q fl : Nat} {o : List (List UInt8)}
theorem RP.more (h : RP l i q o fl) (hi : i < (chars l).length) : q < l.length ∧ (chars l)[i]? = some ((rune (l.drop q)).1, (l.drop q).take (rune (l.drop q)).2) ∧ (chars l).drop (i + 1) = chars (l.drop (q + (rune (l.drop q)).2)) := by
  have hq : q < l.length := by
    rcases Nat.lt_or_ge q l.length with h1 | h1
    · exact h1
    · have h2 := h.rest
      rw [List.drop_eq_nil_of_le h1, chars_nil] at h2
      have := List.drop_eq_nil_iff.1 h2
      omega
  have hc := chars_cons (drop_ne hq)
  have h3 := h.rest
  rw [hc, List.drop_eq_getElem_cons hi] at h3
  have h4 := List.cons.inj h3
  refine ⟨hq, by rw [List.getElem?_eq_getElem hi, h4.1], ?_⟩
  rw [h4.2, List.drop_drop]
theorem RP.goes (h : RP l i q o fl) (hi : i < (chars l).length) {a : Int} (hpos : 0 < i) (ha : ((chars l)[i - 1]?).map (·.1) = some a) (hc : con a (rune (l.drop q)).1 fl = true) :
    ∃ p, o[o.length - 1]? = some p ∧ RP l (i + 1) (q + (rune (l.drop q)).2) (o.set (o.length - 1) (p ++ (l.drop q).take (rune (l.drop q)).2)) (flN (rune (l.drop q)).1 fl) := by
  obtain ⟨hq, hget, hdrop⟩ := h.more hi
  have hrs := rune_size (l.drop q)
  have hrs3 := hrs.2.2 (drop_ne hq)
  rw [List.length_drop] at hrs3
  rcases h.state with ⟨h0, _⟩ | ⟨_, done, cur, prev, hp, ho, hs⟩
  · omega
  · rw [ha] at hp
    obtain rfl : a = prev := Option.some.inj hp
    refine ⟨byts cur, by rw [ho]; simp, by omega, hdrop, ⟨by have := h.small; omega, by simp; have := h.small; omega, by have := h.small; unfold flN; split <;> omega⟩, ?_, .inr ⟨by omega, done, cur ++ [((rune (l.drop q)).1, (l.drop q).take (rune (l.drop q)).2)], (rune (l.drop q)).1, ?_, ?_, ?_⟩⟩
    · have hlen := h.len
      rw [ho] at hlen ⊢
      simp [List.length_take, List.length_drop] at hlen ⊢
      omega
    · rw [Nat.add_sub_cancel, hget]; rfl
    · rw [ho, byts_snoc]; simp
    · rw [hs, chars_cons (drop_ne hq), seg]
      simp only [hc, if_true, List.drop_drop]
theorem RP.news (h : RP l i q o fl) (hi : i < (chars l).length) (hc : i = 0 ∨ ∃ a, 0 < i ∧ ((chars l)[i - 1]?).map (·.1) = some a ∧ con a (rune (l.drop q)).1 fl = false) :
    RP l (i + 1) (q + (rune (l.drop q)).2) (o ++ [(l.drop q).take (rune (l.drop q)).2]) (flN (rune (l.drop q)).1 0) := by
  obtain ⟨hq, hget, hdrop⟩ := h.more hi
  have hrs := rune_size (l.drop q)
  have hrs3 := hrs.2.2 (drop_ne hq)
  rw [List.length_drop] at hrs3
  have hsm := h.small
  have hone : byts [((rune (l.drop q)).1, (l.drop q).take (rune (l.drop q)).2)] = (l.drop q).take (rune (l.drop q)).2 := by simp [byts]
  refine ⟨by omega, hdrop, ⟨by omega, by simp; omega, by unfold flN; split <;> omega⟩, by have hlen := h.len; simp [List.length_take, List.length_drop] at hlen ⊢; omega, .inr ⟨by omega, ?_⟩⟩
  rcases h.state with ⟨h0, ho⟩ | ⟨hp0, done, cur, prev, hp, ho, hs⟩
  · subst h0
    refine ⟨[], [((rune (l.drop q)).1, (l.drop q).take (rune (l.drop q)).2)], (rune (l.drop q)).1, by rw [Nat.add_sub_cancel, hget]; rfl, by rw [ho, hone]; rfl, ?_⟩
    have h1 := h.rest
    rw [List.drop_zero] at h1
    rw [h1, chars_cons (drop_ne hq), segs, List.drop_drop]; rfl
  · rcases hc with h0 | ⟨a, _, ha, hcf⟩
    · omega
    · rw [ha] at hp
      obtain rfl : a = prev := Option.some.inj hp
      refine ⟨done ++ [cur], [((rune (l.drop q)).1, (l.drop q).take (rune (l.drop q)).2)], (rune (l.drop q)).1, by rw [Nat.add_sub_cancel, hget]; rfl, by rw [ho, hone]; simp, ?_⟩
      rw [hs, chars_cons (drop_ne hq), seg]
      simp only [hcf, Bool.false_eq_true, if_false, List.drop_drop, List.append_assoc, List.cons_append, List.nil_append]
theorem RP.ends (h : RP l i q o fl) (hi : (chars l).length ≤ i) : o = pieces l := by
  have h1 := h.rest
  rw [List.drop_eq_nil_of_le hi] at h1
  unfold pieces
  rcases h.state with ⟨h0, ho⟩ | ⟨_, done, cur, prev, hp, ho, hs⟩
  · subst h0
    rw [ho, List.eq_nil_of_length_eq_zero (Nat.le_zero.1 hi)]; rfl
  · rw [hs, ← h1, seg, ho, List.map_append]; rfl
end
end Go.Ph.Gr
