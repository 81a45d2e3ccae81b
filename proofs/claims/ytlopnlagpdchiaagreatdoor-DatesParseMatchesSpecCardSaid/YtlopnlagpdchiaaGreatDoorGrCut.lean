/-
  The pieces of a text's beginning of whole pieces, and of what is left, in plain Lean. No program in sight.
-/
import Derived.Test.YtlopnlagpdchiaaGreatDoorGrPlain
set_option linter.unusedVariables false
set_option linter.unusedSimpArgs false
namespace Go.Ph.Gr
open Go Go.Ph.Utf

theorem nat_take {l : List UInt8} {n i : Nat} (h : i < n) : nat (l.take n) i = nat l i := by
  unfold nat; rw [List.getD_eq_getElem?_getD, List.getD_eq_getElem?_getD, List.getElem?_take, if_pos h]
theorem nat_take0 {l : List UInt8} {n i : Nat} (h : n ≤ i) : nat (l.take n) i = 0 := by
  unfold nat; rw [List.getD_eq_getElem?_getD, List.getElem?_take, if_neg (by omega)]; rfl
theorem okC0 : ¬ okC 0 := by unfold okC; omega
/-- a character is read without a look at what is behind it -/
theorem runeN_cut (m m' b0 b1 b2 b3 c1 c2 c3 n : Nat) (hs : (runeN m b0 b1 b2 b3).2 ≤ n) (hm : m' = min n m) (h1 : (1 < n → c1 = b1)) (h2 : (2 < n → c2 = b2)) (h3 : (3 < n → c3 = b3)) : runeN m' b0 c1 c2 c3 = runeN m b0 b1 b2 b3 := by
  unfold runeN at hs ⊢
  by_cases ha : b0 < 128
  · simp only [if_pos ha]
  · simp only [if_neg ha] at hs ⊢
    by_cases k1 : 192 ≤ b0 ∧ b0 ≤ 223
    · simp only [if_pos k1] at hs ⊢
      by_cases hn : 1 < n
      · obtain rfl := h1 hn
        have : (2 ≤ m' ∧ okC c1) ↔ (2 ≤ m ∧ okC c1) := ⟨fun h => ⟨by omega, h.2⟩, fun h => ⟨by omega, h.2⟩⟩
        simp only [this]
      · have : ¬ (2 ≤ m' ∧ okC c1) := by omega
        rw [if_neg this]
        split at hs
        · rename_i hc
          rw [if_pos hc]
          rcases chk_cases (64 * (b0 - 192) + b1 - 128) 128 2 with e | ⟨e, hb⟩
          · rw [e]
          · rw [e] at hs; simp only [] at hs; omega
        · rename_i hc; rw [if_neg hc]
    · simp only [if_neg k1] at hs ⊢
      by_cases k2 : 224 ≤ b0 ∧ b0 ≤ 239
      · simp only [if_pos k2] at hs ⊢
        by_cases hn : 2 < n
        · obtain rfl := h1 (by omega)
          obtain rfl := h2 hn
          have : (3 ≤ m' ∧ okC c1 ∧ okC c2) ↔ (3 ≤ m ∧ okC c1 ∧ okC c2) := ⟨fun h => ⟨by omega, h.2⟩, fun h => ⟨by omega, h.2⟩⟩
          simp only [this]
        · have : ¬ (3 ≤ m' ∧ okC c1 ∧ okC c2) := by omega
          rw [if_neg this]
          split at hs
          · rename_i hc
            rw [if_pos hc]
            rcases chk_cases (64 * (64 * (b0 - 224) + b1 - 128) + b2 - 128) 2048 3 with e | ⟨e, hb⟩
            · rw [e]
            · rw [e] at hs; simp only [] at hs; omega
          · rename_i hc; rw [if_neg hc]
      · simp only [if_neg k2] at hs ⊢
        by_cases k3 : 240 ≤ b0 ∧ b0 ≤ 247
        · simp only [if_pos k3] at hs ⊢
          by_cases hn : 3 < n
          · obtain rfl := h1 (by omega)
            obtain rfl := h2 (by omega)
            obtain rfl := h3 hn
            have : (4 ≤ m' ∧ okC c1 ∧ okC c2 ∧ okC c3) ↔ (4 ≤ m ∧ okC c1 ∧ okC c2 ∧ okC c3) := ⟨fun h => ⟨by omega, h.2⟩, fun h => ⟨by omega, h.2⟩⟩
            simp only [this]
          · have : ¬ (4 ≤ m' ∧ okC c1 ∧ okC c2 ∧ okC c3) := by omega
            rw [if_neg this]
            split at hs
            · rename_i hc
              rw [if_pos hc]
              rcases chk_cases (64 * (64 * (64 * (b0 - 240) + b1 - 128) + b2 - 128) + b3 - 128) 65536 4 with e | ⟨e, hb⟩
              · rw [e]
              · rw [e] at hs; simp only [] at hs; omega
            · rename_i hc; rw [if_neg hc]
        · simp only [if_neg k3]
theorem rune_take {l : List UInt8} {n : Nat} (h : (rune l).2 ≤ n) : rune (l.take n) = rune l := by
  have h0 : 0 < n := Nat.lt_of_lt_of_le (rune_size l).1 h
  rw [rune_eq] at h
  rw [rune_eq, rune_eq l, nat_take h0]
  exact runeN_cut _ _ _ _ _ _ _ _ _ n h (by rw [List.length_take]) (fun h => nat_take h) (fun h => nat_take h) (fun h => nat_take h)

/-- the characters of a text's two parts -/
theorem chars_split : ∀ (cs1 cs2 : List Ch) (l : List UInt8), chars l = cs1 ++ cs2 → chars (byts cs1) = cs1 ∧ chars (byts cs2) = cs2 := by
  intro cs1
  induction cs1 with
  | nil =>
    intro cs2 l h
    refine ⟨rfl, ?_⟩
    rw [List.nil_append] at h
    rw [← h, byts, chars_flat]
  | cons c cs1 ih =>
    intro cs2 l h
    by_cases hl : l = []
    · subst hl; rw [chars_nil] at h; cases h
    · rw [chars_cons hl, List.cons_append] at h
      obtain ⟨hc, ht⟩ := List.cons.inj h
      obtain ⟨i1, i2⟩ := ih cs2 _ ht
      refine ⟨?_, i2⟩
      obtain ⟨s1, _, s2⟩ := rune_size l
      have s3 := s2 hl
      have hb : byts (c :: cs1) = l.take (rune l).2 ++ byts cs1 := by rw [← hc]; simp [byts]
      have hflat : byts cs1 ++ byts cs2 = l.drop (rune l).2 := by
        have := chars_flat (l.drop (rune l).2)
        rw [ht] at this
        simpa [byts] using this
      have hwhole : byts (c :: cs1) = l.take ((rune l).2 + (byts cs1).length) := by
        rw [hb, List.take_add, ← hflat]; simp
      have hr : rune (byts (c :: cs1)) = rune l := by rw [hwhole]; exact rune_take (by omega)
      have hne : byts (c :: cs1) ≠ [] := by
        intro e
        have := congrArg List.length e
        rw [hb, List.length_append, List.length_take, List.length_nil] at this
        omega
      have hlt : (l.take (rune l).2).length = (rune l).2 := by rw [List.length_take]; omega
      rw [chars_cons hne, hr, hb]
      rw [List.take_left' hlt, List.drop_left' hlt, i1, hc]
theorem seg_split : ∀ (cs cur : List Ch) (prev : Int) (fl : Nat) (A B : List (List Ch)), seg cur prev fl cs = A ++ B → A ≠ [] → B ≠ [] → ∃ cs1 cs2, cs = cs1 ++ cs2 ∧ seg cur prev fl cs1 = A ∧ segs cs2 = B := by
  intro cs
  induction cs with
  | nil =>
    intro cur prev fl A B h hA hB
    rw [seg] at h
    have := congrArg List.length h
    rw [List.length_append, List.length_singleton] at this
    have := List.length_pos_iff.2 hA
    have := List.length_pos_iff.2 hB
    omega
  | cons c r ih =>
    intro cur prev fl A B h hA hB
    rw [seg] at h
    by_cases hc : con prev c.1 fl = true
    · rw [if_pos hc] at h
      obtain ⟨r1, r2, hr, h1, h2⟩ := ih _ _ _ A B h hA hB
      exact ⟨c :: r1, r2, by rw [hr]; rfl, by rw [seg, if_pos hc]; exact h1, h2⟩
    · rw [if_neg hc] at h
      cases A with
      | nil => exact absurd rfl hA
      | cons a A =>
        rw [List.cons_append] at h
        obtain ⟨ha, hr0⟩ := List.cons.inj h
        clear h
        subst ha
        by_cases hA' : A = []
        · subst hA'
          exact ⟨[], c :: r, rfl, rfl, by rw [segs]; exact hr0⟩
        · obtain ⟨r1, r2, hr, h1, h2⟩ := ih _ _ _ A B hr0 hA' hB
          exact ⟨c :: r1, r2, by rw [hr]; rfl, by rw [seg, if_neg hc, h1], h2⟩
theorem segs_split (cs : List Ch) (A B : List (List Ch)) (h : segs cs = A ++ B) : ∃ cs1 cs2, cs = cs1 ++ cs2 ∧ segs cs1 = A ∧ segs cs2 = B := by
  by_cases hA : A = []
  · subst hA; exact ⟨[], cs, rfl, rfl, h⟩
  · by_cases hB : B = []
    · subst hB; exact ⟨cs, [], by simp, by simpa using h, rfl⟩
    · cases cs with
      | nil =>
        rw [segs] at h
        exact absurd (List.append_eq_nil_iff.1 h.symm).1 hA
      | cons c r =>
        rw [segs] at h
        obtain ⟨r1, r2, hr, h1, h2⟩ := seg_split r _ _ _ A B h hA hB
        exact ⟨c :: r1, r2, by rw [hr]; rfl, h1, h2⟩
theorem byts_flat (gs : List (List Ch)) : (gs.map byts).flatten = byts gs.flatten := by
  induction gs with
  | nil => rfl
  | cons g gs ih => rw [List.map_cons, List.flatten_cons, ih, List.flatten_cons]; simp [byts]
/-- THE PIECES OF WHOLE PIECES -/
theorem pieces_split {l : List UInt8} {A B : List (List UInt8)} (h : pieces l = A ++ B) : pieces A.flatten = A ∧ pieces B.flatten = B := by
  unfold pieces at h
  obtain ⟨a, b, hab, hA, hB⟩ := List.map_eq_append_iff.1 h
  obtain ⟨cs1, cs2, hcs, h1, h2⟩ := segs_split _ a b hab
  obtain ⟨c1, c2⟩ := chars_split cs1 cs2 l hcs
  have e1 : A.flatten = byts cs1 := by rw [← hA, byts_flat, ← h1, segs_flat]
  have e2 : B.flatten = byts cs2 := by rw [← hB, byts_flat, ← h2, segs_flat]
  exact ⟨by rw [e1]; unfold pieces; rw [c1, h1, hA], by rw [e2]; unfold pieces; rw [c2, h2, hB]⟩
theorem cutN_take (most : Int) : ∀ (ps : List (List UInt8)) (n : Nat), ∃ k, k ≤ ps.length ∧ cutN most ps n = n + (ps.take k).flatten.length := by
  intro ps
  induction ps with
  | nil => intro n; exact ⟨0, by simp, by simp [cutN]⟩
  | cons p r ih =>
    intro n
    rw [cutN]
    split
    · exact ⟨0, by simp, by simp⟩
    · obtain ⟨k, hk, h⟩ := ih (n + p.length)
      exact ⟨k + 1, by simpa using hk, by rw [h]; simp; omega⟩
/-- a text that is cut: its two parts' pieces -/
theorem cut_pieces (most : Int) (l : List UInt8) : pieces (l.take (cutN most (pieces l) 0)) ++ pieces (l.drop (cutN most (pieces l) 0)) = pieces l ∧ cutN most (pieces l) 0 ≤ l.length := by
  obtain ⟨k, _, hk⟩ := cutN_take most (pieces l) 0
  have hsp : pieces l = (pieces l).take k ++ (pieces l).drop k := (List.take_append_drop k _).symm
  have hl : l = ((pieces l).take k).flatten ++ ((pieces l).drop k).flatten := by rw [← List.flatten_append, List.take_append_drop, pieces_flat]
  obtain ⟨h1, h2⟩ := pieces_split hsp
  rw [Nat.zero_add] at hk
  have key : ∀ x y : List UInt8, l = x ++ y → l.take x.length = x ∧ l.drop x.length = y ∧ x.length ≤ l.length := by
    intro x y h
    rw [h]
    exact ⟨List.take_left, List.drop_left, by simp⟩
  obtain ⟨k1, k2, k3⟩ := key _ _ hl
  rw [hk, k1, k2, h1, h2, List.take_append_drop]
  exact ⟨rfl, k3⟩
theorem cols_append (a : List (List UInt8)) : ∀ b : List (List UInt8), cols (a ++ b) = cols a + cols b := by
  have key : ∀ (ps : List (List UInt8)) (n : Int), (ps.map col).foldl (· + ·) n = n + cols ps := by
    intro ps
    induction ps with
    | nil => intro n; simp [cols]
    | cons p ps ih =>
      intro n
      have h1 := ih (n + col p)
      have h2 := ih (0 + col p)
      simp only [cols, List.map_cons, List.foldl_cons] at h1 h2 ⊢
      omega
  intro b
  have := key b (cols a)
  simp only [cols, List.map_append, List.foldl_append] at this ⊢
  exact this
end Go.Ph.Gr
