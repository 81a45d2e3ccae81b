/-
  Dates: the words of a text between blanks, as Go's strings.FieldsFunc and as the document find them. Plain.
-/
import Derived.Test.YtlopnlagpdchiaaGreatDoorDpf
import Derived.Test.YtlopnlagpdchiaaGreatDoorUtf
import Derived.Test.YtlopnlagpdchiaaGreatDoorLp
set_option linter.unusedVariables false
set_option linter.unusedSimpArgs false
namespace Go.Ph.Pf
open Go.Ph.Pl
/-- the words of a text; acc: the word that has begun -/
def spW (acc : List UInt8) : List UInt8 → List (List UInt8)
  | [] => if acc = [] then [] else [acc]
  | c :: r => if c = 32 ∨ c = 9 then (if acc = [] then spW [] r else acc :: spW [] r) else spW (acc ++ [c]) r
theorem spW_len : ∀ (l acc : List UInt8), (spW acc l).length ≤ l.length + 1
  | [], acc => by unfold spW; split <;> simp
  | c :: r, acc => by
    rw [spW]
    have h1 := spW_len r []
    have h2 := spW_len r (acc ++ [c])
    split
    · split <;> simp <;> omega
    · simp; omega
theorem spW_sub : ∀ (l acc w : List UInt8), w ∈ spW acc l → w.length ≤ acc.length + l.length
  | [], acc, w, h => by
    unfold spW at h
    split at h
    · cases h
    · simp at h; subst h; simp
  | c :: r, acc, w, h => by
    rw [spW] at h
    split at h
    · split at h
      · have := spW_sub r [] w h; simp at this ⊢; omega
      · rcases List.mem_cons.1 h with rfl | h
        · simp
        · have := spW_sub r [] w h; simp at this ⊢; omega
    · have := spW_sub r (acc ++ [c]) w h; simp at this ⊢; omega
theorem R_Blank_ok (c : UInt8) : R_Blank c = some (decide (c = 32 ∨ c = 9)) := by
  unfold R_Blank
  by_cases h : c = 32
  · rw [if_pos h, bsome]; simp [h]
  · rw [if_neg h, bsome]; simp [h]
theorem Split3_L1 (p : List UInt8) (hp : p.length ≤ 4000000) : ∀ (k i m : Nat) (out : List (List UInt8)) (w : List UInt8), p.length - i = k → k + 1 < m → i ≤ p.length → out.length ≤ i → w.length ≤ i →
    R_Split3_L1 p m out w (i : Int) = some (out ++ spW w (p.drop i))
  | 0, i, m, out, w, hk, hm, hi, ho, hw => by
    obtain ⟨m, rfl⟩ : ∃ k, m = k + 1 + 1 := ⟨m - 2, by omega⟩
    obtain rfl : i = p.length := by omega
    have hend : ∀ o s, R_Split3_L1 p (m + 1) o s ((p.length + 1 : Nat) : Int) = some o := fun o s => by rw [R_Split3_L1, if_neg (by omega)]
    rw [R_Split3_L1, if_pos (by omega), if_pos rfl, bsome, if_pos rfl, List.drop_length, spW]
    by_cases hz : w = []
    · rw [if_pos hz, if_pos hz, bsome, chk_succ (by omega), bsome, hend, List.append_nil]
    · rw [if_neg hz, if_neg hz, app_ok (by simp; omega), bsome, bsome, chk_succ (by omega), bsome, hend]
  | k + 1, i, m, out, w, hk, hm, hi, ho, hw => by
    obtain ⟨m, rfl⟩ : ∃ k, m = k + 1 := ⟨m - 1, by omega⟩
    have hlt : i < p.length := by omega
    rw [R_Split3_L1, if_pos (by omega), if_neg (by omega), idx_nat, List.getElem?_eq_getElem hlt, bsome, R_Blank_ok, bsome, bsome, List.drop_eq_getElem_cons hlt, spW]
    by_cases hb : p[i] = 32 ∨ p[i] = 9
    · rw [if_pos (by simpa using hb), if_pos hb]
      by_cases hz : w = []
      · rw [if_pos hz, if_pos hz, bsome, chk_succ (by omega), bsome, Split3_L1 p hp k (i + 1) m out [] (by omega) (by omega) (by omega) (by omega) (by simp)]
      · rw [if_neg hz, if_neg hz, app_ok (by simp; omega), bsome, bsome, chk_succ (by omega), bsome, Split3_L1 p hp k (i + 1) m (out ++ [w]) [] (by omega) (by omega) (by omega) (by simp; omega) (by simp)]
        simp
    · rw [if_neg (by simpa using hb), if_neg hb, chk_succ (by omega), bsome, cut_of rfl rfl (by omega) (by omega), bsome]
      have e : (p.take (i + 1)).drop i = [p[i]] := by
        rw [List.take_succ_eq_append_getElem hlt, List.drop_append_of_le_length (by simp; omega), List.drop_eq_nil_of_le (by simp; omega), List.nil_append]
      rw [e, cat_ok (by simp; omega), bsome, bsome, Split3_L1 p hp k (i + 1) m out (w ++ [p[i]]) (by omega) (by omega) (by omega) (by omega) (by simp; omega)]
theorem Split3_ok (p : List UInt8) (hp : p.length ≤ 4000000) : R_Split3 p = some (spW [] p) := by
  unfold R_Split3
  have := Split3_L1 p hp p.length 0 FU [] [] (by omega) (FU_gt (by omega)) (by omega) (by simp) (by simp)
  rw [show (0 : Int) = ((0 : Nat) : Int) from rfl, this, bsome]
  simp
/-- spans of words; st: where the word has begun, below 0: no word -/
def spS : Int → Nat → List UInt8 → List (Int × Int) × Int
  | st, _, [] => ([], st)
  | st, i, c :: r => if c = 32 ∨ c = 9 then (if 0 ≤ st then ((st, (i : Int)) :: (spS (-st - 1) (i + 1) r).1, (spS (-st - 1) (i + 1) r).2) else spS st (i + 1) r) else (if st < 0 then spS (i : Int) (i + 1) r else spS st (i + 1) r)
theorem spS_skip : ∀ (k : Nat) (st : Int) (i : Nat) (l : List UInt8), 0 ≤ st → k ≤ l.length → (∀ j (h : j < l.length), j < k → 128 ≤ l[j].toNat) → spS st i l = spS st (i + k) (l.drop k)
  | 0, st, i, l, _, _, _ => by simp
  | k + 1, st, i, [], _, h, _ => by simp at h
  | k + 1, st, i, c :: r, h0, h, hc => by
    have h1 : 128 ≤ c.toNat := hc 0 (by simp) (by omega)
    have h2 : ¬ (c = 32 ∨ c = 9) := by rintro (rfl | rfl) <;> simp at h1
    rw [spS, if_neg h2, if_neg (by omega), spS_skip k st (i + 1) r h0 (by simpa using h) (fun j hj hjk => by have := hc (j + 1) (by simp; omega) (by omega); simpa using this)]
    rw [List.drop_succ_cons, show i + (k + 1) = i + 1 + k by omega]
/-- one letter -/
theorem dr_cases (l : List UInt8) (h : l ≠ []) : (Utf.nat l 0 < 128 ∧ Utf.dr l = (Utf.nat l 0, 1)) ∨ (128 ≤ (Utf.dr l).1 ∧ 1 ≤ (Utf.dr l).2 ∧ (Utf.dr l).2 ≤ l.length ∧ ∀ j, j < (Utf.dr l).2 → 128 ≤ Utf.nat l j) := by
  unfold Utf.dr
  have hl : 0 < l.length := List.length_pos_iff.2 h
  generalize hn : l.length = n at *
  unfold Lib.decodeN
  by_cases h0 : Utf.nat l 0 < 128
  · left; exact ⟨h0, by rw [if_pos h0]⟩
  right
  rw [if_neg h0]
  have one : 128 ≤ ((65533, 1) : Nat × Nat).1 ∧ 1 ≤ ((65533, 1) : Nat × Nat).2 ∧ ((65533, 1) : Nat × Nat).2 ≤ n ∧ ∀ j, j < ((65533, 1) : Nat × Nat).2 → 128 ≤ Utf.nat l j :=
    ⟨by decide, by decide, hl, fun j hj => by have : j = 0 := by simpa using hj
                                              subst this; omega⟩
  split
  · rename_i h2
    split
    · rename_i h3
      refine ⟨h3, by simp, by simp; omega, fun j hj => ?_⟩
      have : j = 0 ∨ j = 1 := by simp at hj; omega
      rcases this with rfl | rfl <;> omega
    · exact one
  · split
    · rename_i h2
      split
      · rename_i h3
        refine ⟨by have := h3.1; simp only; omega, by simp, by simp; omega, fun j hj => ?_⟩
        have : j = 0 ∨ j = 1 ∨ j = 2 := by simp at hj; omega
        rcases this with rfl | rfl | rfl <;> omega
      · exact one
    · split
      · rename_i h2
        split
        · rename_i h3
          refine ⟨by have := h3.1; simp only; omega, by simp, by simp; omega, fun j hj => ?_⟩
          have : j = 0 ∨ j = 1 ∨ j = 2 ∨ j = 3 := by simp at hj; omega
          rcases this with rfl | rfl | rfl | rfl <;> omega
        · exact one
      · exact one
theorem Parse_1_ok (n : Nat) : dates_Parse_1 (n : Int) = some (decide (n = 32 ∨ n = 9)) := by
  unfold dates_Parse_1
  by_cases h : n = 32
  · subst h; rfl
  · rw [if_neg (by omega), bsome]
    congr 1
    simp only [h, false_or]
    exact decide_eq_decide.2 (by omega)
theorem nat_get {l : List UInt8} {j : Nat} (h : j < l.length) : Utf.nat l j = l[j].toNat := by unfold Utf.nat; rw [List.getD_eq_getElem?_getD, List.getElem?_eq_getElem h]; rfl
theorem spS_len : ∀ (l : List UInt8) (st : Int) (i : Nat), (spS st i l).1.length ≤ l.length
  | [], st, i => by simp [spS]
  | c :: r, st, i => by
    rw [spS]
    have h1 := spS_len r (-st - 1) (i + 1)
    have h2 := spS_len r st (i + 1)
    have h3 := spS_len r (i : Int) (i + 1)
    simp only [List.length_cons]
    split
    · split
      · simp only [List.length_cons]; omega
      · omega
    · split <;> omega
theorem Fields_L1 (p : List UInt8) (hp : p.length ≤ 4000000) : ∀ (k i m : Nat) (sp : List (Int × Int)) (st : Int), p.length - i ≤ k → k < m → i ≤ p.length → sp.length ≤ i → -4000001 ≤ st → st ≤ 4000000 →
    strings_FieldsFunc_L1 p dates_Parse_1 m sp st i = some (sp ++ (spS st i (p.drop i)).1, (spS st i (p.drop i)).2)
  | k, i, m, sp, st, hk, hm, hi, hs, h1, h2 => by
    obtain ⟨m, rfl⟩ : ∃ k, m = k + 1 := ⟨m - 1, by omega⟩
    by_cases hlt : i < p.length
    · obtain ⟨k, rfl⟩ : ∃ j, k = j + 1 := ⟨k - 1, by omega⟩
      have hne : p.drop i ≠ [] := by intro h; have := congrArg List.length h; simp at this; omega
      have hd : p.drop i = p[i] :: p.drop (i + 1) := List.drop_eq_getElem_cons hlt
      have hn0 : Utf.nat (p.drop i) 0 = p[i].toNat := by rw [hd]; rfl
      rw [strings_FieldsFunc_L1, if_pos hlt, Parse_1_ok, bsome]
      rcases dr_cases (p.drop i) hne with ⟨ha, hb⟩ | ⟨ha, hb, hc, he⟩
      · rw [hb]
        simp only
        rw [hn0] at ha ⊢
        have hiff : (p[i].toNat = 32 ∨ p[i].toNat = 9) ↔ (p[i] = 32 ∨ p[i] = 9) := by rw [← UInt8.toNat_inj, ← UInt8.toNat_inj]; exact Iff.rfl
        rw [hd, spS]
        by_cases hbl : p[i] = 32 ∨ p[i] = 9
        · rw [if_pos (decide_eq_true (hiff.2 hbl)), if_pos hbl]
          by_cases h0 : 0 ≤ st
          · rw [if_pos h0, if_pos h0, app_ok (by simp; omega), bsome, chk_ok (by omega) (by omega), bsome, Fields_L1 p hp k (i + 1) m _ _ (by omega) (by omega) (by omega) (by simp; omega) (by omega) (by omega)]
            simp
          · rw [if_neg h0, if_neg h0, Fields_L1 p hp k (i + 1) m _ _ (by omega) (by omega) (by omega) (by omega) (by omega) (by omega)]
        · rw [if_neg (by simpa using fun h => hbl (hiff.1 h)), if_neg hbl]
          by_cases h0 : st < 0
          · rw [if_pos h0, if_pos h0, Fields_L1 p hp k (i + 1) m _ _ (by omega) (by omega) (by omega) (by omega) (by omega) (by omega)]
          · rw [if_neg h0, if_neg h0, Fields_L1 p hp k (i + 1) m _ _ (by omega) (by omega) (by omega) (by omega) (by omega) (by omega)]
      · generalize hw : (Utf.dr (p.drop i)).2 = w at hb hc he
        rw [if_neg (by simp; omega)]
        have hlen : (p.drop i).length = p.length - i := by simp
        have hall : ∀ j (h : j < (p.drop i).length), j < w → 128 ≤ (p.drop i)[j].toNat := fun j hj hjw => by rw [← nat_get hj]; exact he j hjw
        have step : ∀ s : Int, 0 ≤ s → spS s i (p.drop i) = spS s (i + w) (p.drop (i + w)) := fun s hs0 => by
          rw [spS_skip w s i (p.drop i) hs0 (by omega) hall, List.drop_drop]
        have hfirst : ¬ (p[i] = 32 ∨ p[i] = 9) := by
          have := hall 0 (by omega) (by omega)
          simp only [List.getElem_drop, Nat.add_zero] at this
          rintro (h | h) <;> rw [h] at this <;> simp at this
        by_cases h0 : st < 0
        · have e : spS st i (p.drop i) = spS (i : Int) (i + w) (p.drop (i + w)) := by
            rw [← step (i : Int) (by omega)]
            rw [hd, spS, if_neg hfirst, if_pos h0, spS, if_neg hfirst, if_neg (by omega)]
          rw [if_pos h0, e, Fields_L1 p hp k (i + w) m _ _ (by omega) (by omega) (by omega) (by omega) (by omega) (by omega)]
        · rw [if_neg h0, step st (by omega), Fields_L1 p hp k (i + w) m _ _ (by omega) (by omega) (by omega) (by omega) (by omega) (by omega)]
    · obtain rfl : i = p.length := by omega
      rw [strings_FieldsFunc_L1, if_neg (by omega), List.drop_length]
      simp [spS]
abbrev cuF (p : List UInt8) (x : Int × Int) : List UInt8 := (p.take x.2.toNat).drop x.1.toNat
/-- the spans, with the last one -/
def spT (p : List UInt8) (x : List (Int × Int) × Int) : List (Int × Int) := if 0 ≤ x.2 then x.1 ++ [(x.2, (p.length : Int))] else x.1
theorem spT_cons (p : List UInt8) (a : Int × Int) (x : List (Int × Int)) (s : Int) : spT p (a :: x, s) = a :: spT p (x, s) := by
  unfold spT; split <;> simp
theorem take_drop_succ {p : List UInt8} {a i : Nat} (ha : a ≤ i) (h : i < p.length) : (p.take (i + 1)).drop a = (p.take i).drop a ++ [p[i]] := by
  rw [List.take_succ_eq_append_getElem h, List.drop_append_of_le_length (by simp; omega)]
theorem spS_spW (p : List UInt8) : ∀ (k i : Nat) (st : Int), p.length - i = k → i ≤ p.length → st < (i : Int) →
    (spT p (spS st i (p.drop i))).map (cuF p) = spW (if 0 ≤ st then (p.take i).drop st.toNat else []) (p.drop i) ∧ ∀ x ∈ spT p (spS st i (p.drop i)), 0 ≤ x.1 ∧ x.1 ≤ x.2 ∧ x.2 ≤ (p.length : Int)
  | 0, i, st, hk, hi, hst => by
    obtain rfl : i = p.length := by omega
    rw [List.drop_length, spS, spW, spT]
    by_cases h0 : 0 ≤ st
    · have hne : (p.take p.length).drop st.toNat ≠ [] := by
        intro h
        have := congrArg List.length h
        simp at this; omega
      simp only [if_pos h0, if_neg hne, List.nil_append, List.map_cons, List.map_nil]
      exact ⟨by simp [cuF], fun x hx => by simp at hx; subst hx; simp only; omega⟩
    · simp [h0]
  | k + 1, i, st, hk, hi, hst => by
    have hlt : i < p.length := by omega
    have hd : p.drop i = p[i] :: p.drop (i + 1) := List.drop_eq_getElem_cons hlt
    rw [hd, spS, spW]
    by_cases hbl : p[i] = 32 ∨ p[i] = 9
    · simp only [if_pos hbl]
      by_cases h0 : 0 ≤ st
      · have hne : (p.take i).drop st.toNat ≠ [] := by
          intro h
          have := congrArg List.length h
          simp at this; omega
        obtain ⟨ih1, ih2⟩ := spS_spW p k (i + 1) (-st - 1) (by omega) (by omega) (by omega)
        rw [if_neg (by omega)] at ih1
        simp only [if_pos h0, if_neg hne]
        rw [spT_cons, List.map_cons, ih1]
        refine ⟨by simp [cuF], fun x hx => ?_⟩
        rcases List.mem_cons.1 hx with rfl | hx
        · simp only; omega
        · exact ih2 x hx
      · obtain ⟨ih1, ih2⟩ := spS_spW p k (i + 1) st (by omega) (by omega) (by omega)
        rw [if_neg h0] at ih1
        simp only [if_neg h0]
        exact ⟨by simpa using ih1, ih2⟩
    · simp only [if_neg hbl]
      by_cases h0 : st < 0
      · obtain ⟨ih1, ih2⟩ := spS_spW p k (i + 1) (i : Int) (by omega) (by omega) (by omega)
        rw [if_pos (by omega), Int.toNat_natCast, take_drop_succ (Nat.le_refl _) hlt] at ih1
        have : (p.take i).drop i = [] := List.drop_eq_nil_of_le (by simp; omega)
        rw [this] at ih1
        simp only [if_pos h0, if_neg (show ¬ 0 ≤ st by omega)]
        exact ⟨ih1, ih2⟩
      · obtain ⟨ih1, ih2⟩ := spS_spW p k (i + 1) st (by omega) (by omega) (by omega)
        rw [if_pos (by omega), take_drop_succ (by omega) hlt] at ih1
        simp only [if_neg h0, if_pos (show 0 ≤ st by omega)]
        exact ⟨ih1, ih2⟩
theorem Fields_L2 (p : List UInt8) (sp : List (Int × Int)) (hsp : ∀ x ∈ sp, 0 ≤ x.1 ∧ x.1 ≤ x.2 ∧ x.2 ≤ (p.length : Int)) (hl : sp.length ≤ 8000000) : ∀ (k i m : Nat), sp.length - i ≤ k → k < m → i ≤ sp.length →
    strings_FieldsFunc_L2 p sp m ((sp.take i).map (cuF p) ++ List.replicate (sp.length - i) []) (i : Int) = some (sp.map (cuF p))
  | k, i, m, hk, hm, hi => by
    obtain ⟨m, rfl⟩ : ∃ k, m = k + 1 := ⟨m - 1, by omega⟩
    by_cases hlt : i < sp.length
    · obtain ⟨k, rfl⟩ : ∃ j, k = j + 1 := ⟨k - 1, by omega⟩
      have hx := hsp sp[i] (List.getElem_mem hlt)
      have hlen : ((sp.take i).map (cuF p) ++ List.replicate (sp.length - i) ([] : List UInt8)).length = sp.length := by simp; omega
      rw [strings_FieldsFunc_L2, if_pos (by omega), idx_nat, List.getElem?_eq_getElem hlt, bsome, cut_ok hx.1 hx.2.1 hx.2.2, bsome, idx_nat, List.getElem?_eq_getElem (by omega), bsome, put_ok (by omega) (by omega), bsome, chk_succ (by omega), bsome]
      have ih := Fields_L2 p sp hsp hl k (i + 1) m (by omega) (by omega) (by omega)
      have e : ((sp.take i).map (cuF p) ++ List.replicate (sp.length - i) ([] : List UInt8)).set ((i : Int).toNat) (cuF p sp[i]) = (sp.take (i + 1)).map (cuF p) ++ List.replicate (sp.length - (i + 1)) [] := by
        rw [Int.toNat_natCast, List.set_append_right _ _ (by simp; omega), List.take_succ_eq_append_getElem hlt, List.map_append, List.append_assoc]
        congr 1
        have h0 : i - ((sp.take i).map (cuF p)).length = 0 := by simp; omega
        rw [h0, show sp.length - i = (sp.length - (i + 1)) + 1 by omega, List.replicate_succ]
        rfl
      rw [show (List.drop sp[i].1.toNat (List.take sp[i].2.toNat p)) = cuF p sp[i] from rfl, e, ih]
    · obtain rfl : i = sp.length := by omega
      rw [strings_FieldsFunc_L2, if_neg (by omega), List.take_length]
      simp
theorem Fields_ok (p : List UInt8) (hp : p.length ≤ 4000000) : strings_FieldsFunc p dates_Parse_1 = some (spW [] p) := by
  unfold strings_FieldsFunc
  have e0 : mkS 16 0 32 ((0, 0) : Int × Int) = some [] := by decide +kernel
  rw [e0, bsome, Fields_L1 p hp p.length 0 FU [] (-1) (by omega) (FU_gt (by omega)) (by omega) (by simp) (by omega) (by omega), bsome]
  simp only [List.nil_append, List.drop_zero]
  obtain ⟨h1, h2⟩ := spS_spW p p.length 0 (-1) (by omega) (by omega) (by omega)
  rw [if_neg (by omega), List.drop_zero] at h1
  rw [List.drop_zero] at h2
  have hl := spS_len p (-1) 0
  generalize hx : spS (-1) 0 p = x at *
  have hT : ((if (0 : Int) ≤ x.2 then (app 16 x.1 ([(x.2, (p.length : Int))] : List (Int × Int))).bind fun l30 => some l30 else some x.1)) = some (spT p x) := by
    unfold spT
    by_cases h0 : 0 ≤ x.2
    · rw [if_pos h0, if_pos h0, app_ok (by simp; omega), bsome]
    · rw [if_neg h0, if_neg h0]
  rw [hT, bsome]
  have hTl : (spT p x).length ≤ p.length + 1 := by
    unfold spT; split
    · rw [List.length_append, List.length_singleton]; omega
    · omega
  have e1 : mkS 16 ((spT p x).length : Int) ((spT p x).length : Int) ([] : List UInt8) = some (List.replicate (spT p x).length []) := by
    rw [mkS_ok (by omega) (by omega) (by omega) (by omega), Int.toNat_natCast]
  rw [e1, bsome]
  have := Fields_L2 p (spT p x) h2 (by omega) (spT p x).length 0 FU (by omega) (FU_gt (by omega)) (by omega)
  simp only [List.take_zero, List.map_nil, List.nil_append, Nat.sub_zero] at this
  rw [show (0 : Int) = ((0 : Nat) : Int) from rfl, this, bsome, h1]
end Go.Ph.Pf
