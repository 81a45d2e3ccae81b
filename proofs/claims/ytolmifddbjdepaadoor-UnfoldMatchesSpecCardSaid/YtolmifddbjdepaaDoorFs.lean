/-
  Fold: line ends in a text, the parts of a text at a colon. No program in sight.
-/
import Derived.Test.YtolmifddbjdepaaDoorFr
set_option linter.unusedVariables false
set_option linter.unusedSimpArgs false
namespace Go.Ph.Pf
open Go.Ph.Pl Go.Ph.Qp Go.Ph.Fd
/-- what is known of the character at the front -/
theorem dr_facts (l : List UInt8) : 1 ≤ (Utf.dr l).2 ∧ (Utf.dr l).2 ≤ 4 ∧ (Utf.nat l 0 < 128 → (Utf.dr l).1 = Utf.nat l 0 ∧ (Utf.dr l).2 = 1) ∧ (128 ≤ Utf.nat l 0 → 128 ≤ (Utf.dr l).1) ∧
    (2 ≤ (Utf.dr l).2 → 128 ≤ Utf.nat l 1 ∧ 1 < l.length) ∧ (3 ≤ (Utf.dr l).2 → 128 ≤ Utf.nat l 2 ∧ 2 < l.length) ∧ (4 ≤ (Utf.dr l).2 → 128 ≤ Utf.nat l 3 ∧ 3 < l.length) ∧ (Utf.dr l).1 ≤ 1114111 := by
  have h0 := Utf.nat_lt l 0
  have h1 := Utf.nat_lt l 1
  have h2 := Utf.nat_lt l 2
  have h3 := Utf.nat_lt l 3
  unfold Utf.dr Lib.decodeN
  split
  · refine ⟨by omega, by omega, fun _ => ⟨rfl, rfl⟩, fun h => by omega, fun h => by omega, fun h => by omega, fun h => by omega, by omega⟩
  · split
    · split <;> simp only [] <;> omega
    · split
      · split <;> simp only [] <;> omega
      · split
        · split <;> simp only [] <;> omega
        · simp only []; omega
theorem nat_getD {l : List UInt8} {i : Nat} (h : i < l.length) : Utf.nat l i = l[i].toNat := Utf.nat_of (List.getElem?_eq_getElem h)
theorem endB_lt {c : UInt8} (h : endB c = true) : c.toNat < 128 := by unfold endB at h; rw [decide_eq_true_eq] at h; omega
/-- a text has a byte of those iff one of its characters is one -/
theorem any_rune {l : List UInt8} {ps : Nat} (h : ps < l.length) : (l.drop ps).any endB = (decide ((Utf.dr (l.drop ps)).1 = 13 ∨ (Utf.dr (l.drop ps)).1 = 10 ∨ (Utf.dr (l.drop ps)).1 = 0) || (l.drop (ps + (Utf.dr (l.drop ps)).2)).any endB) := by
  obtain ⟨a1, a2, a3, a4, a5, a6, a7, a8⟩ := dr_facts (l.drop ps)
  have hl : (l.drop ps).length = l.length - ps := List.length_drop
  have hn : ∀ j, ps + j < l.length → Utf.nat (l.drop ps) j = (l[ps + j]?.getD 0).toNat := fun j hj => by rw [Utf.nat_drop]; unfold Utf.nat; rw [List.getD_eq_getElem?_getD]
  have hnb : ∀ j (hj : ps + j < l.length), 128 ≤ Utf.nat (l.drop ps) j → endB l[ps + j] = false := fun j hj h8 => by
    rw [hn j hj, List.getElem?_eq_getElem hj] at h8
    cases hb : endB l[ps + j] with
    | false => rfl
    | true => have := endB_lt hb; simp at h8; omega
  have hd : ∀ j, ps + j < l.length → (l.drop (ps + j)).any endB = ((l[ps + j]?.elim false endB) || (l.drop (ps + j + 1)).any endB) := fun j hj => by
    rw [drop_cons hj, List.any_cons, List.getElem?_eq_getElem hj]; rfl
  have hfirst : (l[ps]?.elim false endB) = decide ((Utf.dr (l.drop ps)).1 = 13 ∨ (Utf.dr (l.drop ps)).1 = 10 ∨ (Utf.dr (l.drop ps)).1 = 0) := by
    rw [List.getElem?_eq_getElem h]
    have h0 := hn 0 (by omega)
    rw [Nat.add_zero, List.getElem?_eq_getElem h] at h0
    simp only [Option.getD_some] at h0
    show endB l[ps] = _
    rcases Nat.lt_or_ge (Utf.nat (l.drop ps) 0) 128 with hc | hc
    · rw [(a3 hc).1, h0]; rfl
    · have := hnb 0 (by omega) hc
      simp only [Nat.add_zero] at this
      rw [this]
      have := a4 hc
      exact (decide_eq_false (by omega)).symm
  have d0 := hd 0 (by omega)
  simp only [Nat.add_zero] at d0
  rw [d0, hfirst]
  congr 1
  have skip : ∀ j, ps + j < l.length → 128 ≤ Utf.nat (l.drop ps) j → (l.drop (ps + j)).any endB = (l.drop (ps + j + 1)).any endB := fun j hj h8 => by
    rw [hd j hj, List.getElem?_eq_getElem hj]
    show (endB l[ps + j] || _) = _
    rw [hnb j hj h8, Bool.false_or]
  rcases (show (Utf.dr (l.drop ps)).2 = 1 ∨ (Utf.dr (l.drop ps)).2 = 2 ∨ (Utf.dr (l.drop ps)).2 = 3 ∨ (Utf.dr (l.drop ps)).2 = 4 by omega) with e | e | e | e
  · rw [e]
  · rw [e, skip 1 (by omega) (a5 (by omega)).1]
  · rw [e, skip 1 (by have := (a5 (by omega)).2; omega) (a5 (by omega)).1, skip 2 (by have := (a6 (by omega)).2; omega) (a6 (by omega)).1]
  · rw [e, skip 1 (by have := (a5 (by omega)).2; omega) (a5 (by omega)).1, skip 2 (by have := (a6 (by omega)).2; omega) (a6 (by omega)).1, skip 3 (by have := (a7 (by omega)).2; omega) (a7 (by omega)).1]
theorem ub_high {a : Int} (h1 : 128 ≤ a) (h2 : a < 256) : 128 ≤ (Ph.ub a).toNat := by
  unfold Ph.ub
  rw [UInt8.toNat_ofNat']
  omega
theorem utf8_high {r : Int} (h : 128 ≤ r) : 2 ≤ (Chs.utf8 r).length ∧ (Chs.utf8 r).length ≤ 4 ∧ ∀ c ∈ Chs.utf8 r, 128 ≤ c.toNat := by
  have hf : 128 ≤ Chs.fixN r := by unfold Chs.fixN; split <;> omega
  have hk := Chs.fixN_ok r
  unfold Chs.utf8 Chs.utf8M
  rw [if_neg (by omega)]
  split
  · refine ⟨by simp, by simp, fun c hc => ?_⟩
    simp only [List.mem_cons, List.not_mem_nil, or_false] at hc
    rcases hc with rfl | rfl <;> exact ub_high (by omega) (by omega)
  · split
    · refine ⟨by simp, by simp, fun c hc => ?_⟩
      simp only [List.mem_cons, List.not_mem_nil, or_false] at hc
      rcases hc with rfl | rfl | rfl <;> exact ub_high (by omega) (by omega)
    · refine ⟨by simp, by simp, fun c hc => ?_⟩
      simp only [List.mem_cons, List.not_mem_nil, or_false] at hc
      rcases hc with rfl | rfl | rfl | rfl <;> exact ub_high (by omega) (by omega)
theorem ix_low : ∀ n : Nat, n < 128 → decide ((0 : Int) ≤ ixB [13, 10, 0] (ub8 (n : Int))) = decide (n = 13 ∨ n = 10 ∨ n = 0) := by decide +kernel
theorem ix_high : ∀ k, k < 4 → ∀ n, n < 256 → 128 ≤ n → ixB (([13, 10, 0] : List UInt8).drop k) (UInt8.ofNat n) = -1 := by decide +kernel
theorem IndexRune_end (r : Nat) : ∃ n, strings_IndexRune [13, 10, 0] (r : Int) = some n ∧ decide ((0 : Int) ≤ n) = decide (r = 13 ∨ r = 10 ∨ r = 0) := by
  unfold strings_IndexRune
  rw [if_pos (by omega)]
  simp only [bsome]
  by_cases h1 : r < 128
  · rw [decide_eq_true (by omega), if_pos rfl]
    exact ⟨_, rfl, ix_low r h1⟩
  · rw [decide_eq_false (by omega), if_neg (by simp), decide_eq_false (show ¬ (r = 13 ∨ r = 10 ∨ r = 0) by omega)]
    have neg : ∀ {x : Option Int}, x = some (-1) → ∃ n, x = some n ∧ decide ((0 : Int) ≤ n) = false := fun h => ⟨-1, h, by decide⟩
    refine neg ?_
    by_cases h2 : (r : Int) = 65533
    · rw [if_pos h2]; decide +kernel
    · rw [if_neg h2]
      have hv : ∃ b, utf8_ValidRune (r : Int) = some b := by
        unfold utf8_ValidRune
        rw [if_pos (by omega)]
        simp only [bsome]
        split
        · exact ⟨_, rfl⟩
        · split
          · simp only [bsome]; split <;> exact ⟨_, rfl⟩
          · simp only [bsome]; exact ⟨_, rfl⟩
      obtain ⟨b, hb⟩ := hv
      rw [hb]
      simp only [bsome]
      cases b with
      | false => rfl
      | true =>
        rw [if_pos rfl]
        obtain ⟨u1, u2, u3⟩ := utf8_high (r := (r : Int)) (by omega)
        rw [show ((Chs.utf8 (r : Int)).length : Int) - 1 = (((Chs.utf8 (r : Int)).length - 1 : Nat) : Int) by omega, chk_ok (by omega) (by omega)]
        simp only [bsome]
        generalize hk : (Chs.utf8 (r : Int)).length - 1 = k
        rw [show FU = 18446744073709551615 + 1 from rfl, strings_IndexRune_L2]
        have hkl : k < (Chs.utf8 (r : Int)).length := by omega
        have hc := u3 _ (List.getElem_mem hkl)
        by_cases h3 : k < 3
        · rw [if_pos (by simp; omega), idx_nat, idx_nat, List.getElem?_eq_getElem hkl, List.getElem?_eq_getElem (show k < ([13, 10, 0] : List UInt8).length from h3)]
          simp only [bsome]
          have hne : ¬ (([13, 10, 0] : List UInt8)[k]'h3 = (Chs.utf8 (r : Int))[k]) := by
            intro he
            rw [← he] at hc
            have : ∀ k (h : k < 3), (([13, 10, 0] : List UInt8)[k]'h).toNat < 128 := by decide
            have := this k h3
            omega
          rw [if_neg hne, chk_succ (by omega)]
          simp only [bsome]
          rw [cut_from rfl (by simp; omega)]
          simp only [bsome]
          unfold strings_IndexByte
          have hx := ix_high (k + 1) (by omega) ((Chs.utf8 (r : Int))[k]).toNat (UInt8.toNat_lt _) hc
          rw [UInt8.ofNat_toNat] at hx
          rw [hx]
          simp only [bsome]
          rw [if_pos (by omega)]
          simp only [bsome]
        · rw [if_neg (by simp; omega)]
          simp only [bsome]
theorem IndexAny_L2_end (l : List UInt8) : ∀ (k ps m : Nat), l.length - ps ≤ k → k < m → ∃ o, strings_IndexAny_L2 l [13, 10, 0] m ps = some o ∧ ((l.drop ps).any endB = true → ∃ n, o = .inr n ∧ 0 ≤ n) ∧ ((l.drop ps).any endB = false → o = .inl ())
  | k, ps, m, h1, h2 => by
    obtain ⟨m, rfl⟩ : ∃ k, m = k + 1 := ⟨m - 1, by omega⟩
    by_cases h : ps < l.length
    · rw [strings_IndexAny_L2, if_pos h]
      obtain ⟨n, hn1, hn2⟩ := IndexRune_end (Utf.dr (l.drop ps)).1
      rw [hn1]
      simp only [bsome]
      rw [any_rune h]
      by_cases hc : 0 ≤ n
      · rw [if_pos hc]
        rw [decide_eq_true hc] at hn2
        rw [← hn2]
        exact ⟨_, rfl, fun _ => ⟨_, rfl, by omega⟩, fun h => by simp at h⟩
      · rw [if_neg hc]
        rw [decide_eq_false hc] at hn2
        rw [← hn2, Bool.false_or]
        have hs := (dr_facts (l.drop ps)).1
        cases k with
        | zero => omega
        | succ k => exact IndexAny_L2_end l k (ps + (Utf.dr (l.drop ps)).2) m (by omega) (by omega)
    · rw [strings_IndexAny_L2, if_neg h, List.drop_of_length_le (by omega)]
      exact ⟨_, rfl, fun h => by simp at h, fun _ => rfl⟩
theorem fold_ends_eq (l : List UInt8) (hl : Big l) : fold_ends l = some (l.any endB) := by
  unfold fold_ends strings_ContainsAny strings_IndexAny strings_shouldUseASCIISet
  rw [if_neg (by decide), if_neg (by decide)]
  simp only [bsome]
  by_cases h8 : 8 < l.length
  · rw [decide_eq_true (by omega), if_pos rfl, set_end]
    simp only [bsome, rep_len, rng_len, if_true]
    rcases scanP (strings_IndexAny_L1 l ((List.range 256).map (fun n => decide (n = 13 ∨ n = 10 ∨ n = 0)))) l (fun i c => if endB c = true then some (Sum.inr (i : Int)) else none) (.inl ()) (fun m => by rw [strings_IndexAny_L1, if_neg (by omega)]) (fun m i h => by
      rw [strings_IndexAny_L1, if_pos (by omega), idx_nat, List.getElem?_eq_getElem h, chk_succ (by have := hl; omega)]
      simp only [bsome, contains_at]
      show (if endB l[i] = true then _ else _) = _
      by_cases he : endB l[i] = true
      · rw [if_pos he, if_pos he]
      · rw [if_neg he, if_neg he]) l.length 0 FU (by omega) (FU_gt (by omega)) (by omega) with ⟨j, hj, r, a1, a2, a3, a4⟩ | ⟨a1, a2⟩
    · rw [show ((0 : Nat) : Int) = 0 from rfl] at a4
      rw [a4]
      split at a2
      · rename_i he
        cases a2
        have : l.any endB = true := List.any_eq_true.2 ⟨_, List.getElem_mem hj, he⟩
        rw [this]
        simp only [bsome]
        rw [decide_eq_true (by omega)]
      · cases a2
    · rw [show ((0 : Nat) : Int) = 0 from rfl] at a2
      rw [a2]
      have : l.any endB = false := by
        rw [List.any_eq_false]
        intro c hc
        obtain ⟨i, hi, rfl⟩ := List.getElem_of_mem hc
        have := a1 i hi (by omega)
        intro he
        rw [if_pos he] at this
        cases this
      rw [this]
      simp only [bsome]
      rfl
  · rw [decide_eq_false (by omega), if_neg (by simp)]
    simp only [bsome]
    obtain ⟨o, ho, h1, h2⟩ := IndexAny_L2_end l l.length 0 FU (by omega) (FU_gt (by omega))
    rw [List.drop_zero] at h1 h2
    rw [ho]
    simp only [bsome]
    cases hb : l.any endB with
    | true =>
      obtain ⟨n, rfl, hn⟩ := h1 hb
      simp only [bsome]
      rw [decide_eq_true hn]
    | false =>
      rw [h2 hb]
      simp only [bsome]
      rfl
/-! the value of a field -/
theorem trimB_self (l : List UInt8) : trimB l = l ↔ (l = [] ∨ ((∀ c, l.head? = some c → ¬ bl c) ∧ (∀ c, l.getLast? = some c → ¬ bl c))) := by
  unfold trimB
  cases l with
  | nil => simp [trimL_nil, trimR_nil]
  | cons c r =>
    constructor
    · intro h
      have hc : ¬ bl c := by
        intro hb
        rw [trimL_pos hb] at h
        have h1 := trimR_len (trimL r)
        have h2 := trimL_len r
        rw [h] at h1
        simp at h1
        omega
      rw [trimL_neg hc] at h
      refine .inr ⟨fun d hd => by simp at hd; rw [← hd]; exact hc, fun d hd hb => ?_⟩
      rcases snoc_cases (c :: r) with h0 | ⟨a, x, hax⟩
      · cases h0
      · rw [hax] at hd h
        simp at hd
        subst hd
        rw [trimR_bl hb] at h
        have := trimR_len a
        rw [h] at this
        simp at this
        omega
    · rintro (h | ⟨h1, h2⟩)
      · cases h
      · rw [trimL_neg (h1 c rfl)]
        rcases snoc_cases (c :: r) with h0 | ⟨a, x, hax⟩
        · cases h0
        · rw [hax] at h2 ⊢
          exact trimR_nb (h2 x (by simp))
/-- a field's value -/
def valB (l : List UInt8) : Bool := !l.any endB && decide (trimB l = l)
theorem fold_value_eq (l : List UInt8) (hl : Big l) : fold_value l = some (valB l) := by
  unfold fold_value valB
  rw [fold_ends_eq l hl]
  simp only [bsome]
  cases hb : l.any endB with
  | true => rfl
  | false =>
    simp only [Bool.false_eq_true, if_false]
    rw [show decide (trimB l = l) = decide (l = [] ∨ ((∀ c, l.head? = some c → ¬ bl c) ∧ (∀ c, l.getLast? = some c → ¬ bl c))) from decide_eq_decide.2 (trimB_self l)]
    by_cases h : l = []
    · rw [if_pos h, decide_eq_true (.inl h)]; rfl
    · rw [if_neg h]
      have hpos : 0 < l.length := by cases l <;> simp_all
      have hh : l.head? = some l[0] := by rw [List.head?_eq_getElem?, List.getElem?_eq_getElem hpos]
      have hg : l.getLast? = some (l[l.length - 1]'(by omega)) := by rw [List.getLast?_eq_getElem?, List.getElem?_eq_getElem]
      rw [show (0 : Int) = ((0 : Nat) : Int) from rfl, idx_nat, List.getElem?_eq_getElem hpos, chk_pred (by omega) (by omega)]
      simp only [bsome, basic_Blank_eq]
      rw [idx_nat, List.getElem?_eq_getElem (by omega)]
      simp only [bsome, basic_Blank_eq, hh, hg, Option.some.injEq]
      by_cases h1 : bl l[0]
      · rw [decide_eq_true h1, if_pos rfl]
        simp only [bsome]
        rw [decide_eq_false (fun x => x.elim h (fun y => y.1 _ hh h1))]; rfl
      · rw [decide_eq_false h1, if_neg (by simp)]
        simp only [bsome]
        by_cases h2 : bl (l[l.length - 1]'(by omega))
        · rw [decide_eq_true h2, decide_eq_false (fun x => x.elim h (fun y => y.2 _ hg h2))]; rfl
        · rw [decide_eq_false h2, decide_eq_true (.inr ⟨fun c hc => by rw [hh] at hc; cases hc; exact h1, fun c hc => by rw [hg] at hc; cases hc; exact h2⟩)]; rfl
def codeF (n v : List UInt8) : Int := if nmL n = true then (if 4000 < v.length then 1 else if valB v = true then 0 else 11) else 10
theorem R_FieldCode_eq (n v : List UInt8) (hn : Big n) (hv : Big v) : R_FieldCode n v = some (codeF n v) := by
  unfold R_FieldCode codeF
  rw [R_FieldName_eq n hn]
  simp only [bsome]
  cases nmL n with
  | false => rfl
  | true =>
    simp only [if_true]
    by_cases h : 4000 < v.length
    · rw [if_pos (by omega), if_pos h]
    · rw [if_neg (by omega), if_neg h]
      rw [scan0 (L := R_FieldCode_L1 v) (l := v) (p := endB) (stop := .inl ()) (r := .inr 11) (FU_gt (by omega)) (fun m => by rw [R_FieldCode_L1, if_neg (by omega)]) (fun m i h => by
        rw [R_FieldCode_L1, if_pos (by omega), idx_nat, List.getElem?_eq_getElem h, chk_succ (by have := hv; omega)]
        simp only [bsome, oneOf_end])]
      unfold valB
      cases hb : v.any endB with
      | true => rfl
      | false =>
        simp only [Bool.false_eq_true, if_false, bsome, R_Trim_eq v hv]
        by_cases ht : trimB v = v
        · rw [if_pos ht, decide_eq_true ht]; rfl
        · rw [if_neg ht, decide_eq_false ht]; rfl
end Go.Ph.Pf
