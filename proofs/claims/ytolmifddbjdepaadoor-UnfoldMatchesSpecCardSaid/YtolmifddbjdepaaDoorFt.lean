/-
  Fold: the lines of a field, by the program and by the reference. No program in sight.
-/
import Derived.Test.YtolmifddbjdepaaDoorFs
set_option linter.unusedVariables false
set_option linter.unusedSimpArgs false
namespace Go.Ph.Pf
open Go.Ph.Pl Go.Ph.Qp Go.Ph.Fd
theorem bk_at' {s : List UInt8} {i : Nat} (h0 : 0 < i) (h : i < s.length) : bk s i = decide (bl s[i] ∧ ¬ bl (s[i - 1]'(by omega))) := bk_at h0 (List.getElem?_eq_getElem _) (List.getElem?_eq_getElem _)
theorem point_loop (s : List UInt8) (hs : s.length ≤ 1000000) : ∀ (k i m best : Nat), s.length - i ≤ k → k < m → 0 < i → fold_point_L1 s m (best : Int) (i : Int) = some ((sc s (s.length - i) i best : Nat) : Int)
  | k, i, m, best, h1, h2, h3 => by
    obtain ⟨m, rfl⟩ : ∃ k, m = k + 1 := ⟨m - 1, by omega⟩
    by_cases hi : i < s.length
    · cases k with
      | zero => omega
      | succ k =>
      rw [fold_point_L1, if_pos (by omega), idx_nat, List.getElem?_eq_getElem hi, chk_pred (by omega) (by omega), chk_succ (by omega)]
      simp only [bsome, basic_Blank_eq, idx_nat]
      rw [List.getElem?_eq_getElem (show i - 1 < s.length by omega)]
      simp only [bsome, basic_Blank_eq]
      have hc : (if decide (bl s[i]) = true then some (decide (bl (s[i - 1]'(by omega)))) else some true) = some (!bk s i) := by
        rw [bk_at' h3 hi]
        by_cases c1 : bl s[i] <;> by_cases c2 : bl (s[i - 1]'(by omega)) <;> simp [c1, c2]
      rw [hc]
      simp only [bsome]
      rw [show s.length - i = (s.length - (i + 1)) + 1 by omega, sc]
      cases hb : bk s i with
      | false =>
        simp only [Bool.not_false, if_true, Bool.false_eq_true, if_false]
        exact point_loop s hs k (i + 1) m best (by omega) (by omega) (by omega)
      | true =>
        simp only [Bool.not_true, if_true, Bool.false_eq_true, if_false]
        by_cases hbest : 0 < best
        · rw [if_pos (by omega)]
          simp only [bsome]
          by_cases h78 : 78 < i
          · rw [decide_eq_true (by omega), if_pos rfl, if_neg (by omega), sc_stay _ _ _ _ hbest (by omega)]
          · rw [decide_eq_false (by omega), if_neg (by simp), if_pos (by omega)]
            exact point_loop s hs k (i + 1) m i (by omega) (by omega) (by omega)
        · rw [if_neg (by omega)]
          simp only [bsome, Bool.false_eq_true, if_false]
          rw [if_pos (by omega)]
          exact point_loop s hs k (i + 1) m i (by omega) (by omega) (by omega)
    · rw [fold_point_L1, if_neg (by omega), show s.length - i = 0 by omega]; rfl
theorem fold_point_eq (s : List UInt8) (hs : s.length ≤ 1000000) (k : Nat) : fold_point s (k : Int) = some ((pt s (max k 1) : Nat) : Int) := by
  unfold fold_point pt
  rw [show max (k : Int) 1 = ((max k 1 : Nat) : Int) by omega]
  have := point_loop s hs s.length (max k 1) FU 0 (by omega) (FU_gt (by omega)) (by omega)
  rw [show ((0 : Nat) : Int) = 0 from rfl] at this
  rw [this]
  rfl
theorem fold_L1_eq : ∀ (f m k : Nat) (s : List UInt8) (o : List (List UInt8)), s.length ≤ f → f < m → s.length ≤ 1000000 → o.length + s.length ≤ 1000000 →
    ∃ a b, fold_Fold_L1 m s (k : Int) o = some (a, b) ∧ b ++ [a] = o ++ fl s (max k 1) ∧ a.length ≤ s.length ∧ b.length ≤ o.length + s.length
  | f, m, k, s, o, h1, h2, h3, h4 => by
    obtain ⟨m, rfl⟩ : ∃ k, m = k + 1 := ⟨m - 1, by omega⟩
    by_cases h78 : 78 < s.length
    · rw [fold_Fold_L1, if_pos (by omega), fold_point_eq s h3]
      simp only [bsome]
      by_cases h0 : pt s (max k 1) = 0
      · rw [if_pos (by omega), fl_end (fun h => h.2 h0)]
        exact ⟨_, _, rfl, rfl, Nat.le_refl _, by omega⟩
      · obtain ⟨p1, p2, p3⟩ := pt_lt (by omega) h0
        rw [if_neg (by omega), cut_to rfl (by omega), cut_from rfl (by omega)]
        simp only [bsome]
        rw [app_ok (by simp only [List.length_cons, List.length_nil]; omega)]
        simp only [bsome]
        cases f with
        | zero => omega
        | succ f =>
          obtain ⟨a, b, e1, e2, e3, e4⟩ := fold_L1_eq f m 0 (s.drop (pt s (max k 1))) (o ++ [s.take (pt s (max k 1))]) (by rw [List.length_drop]; omega) (by omega) (by rw [List.length_drop]; omega) (by rw [List.length_append, List.length_drop]; simp; omega)
          rw [List.length_drop] at e3 e4
          simp only [List.length_append, List.length_cons, List.length_nil] at e4
          refine ⟨a, b, e1, ?_, by omega, by omega⟩
          rw [e2, fl_more (by omega) ⟨h78, h0⟩]
          simp
    · rw [fold_Fold_L1, if_neg (by omega), fl_end (fun h => h78 h.1)]
      exact ⟨_, _, rfl, rfl, Nat.le_refl _, by omega⟩
/-- a line that is too long -/
def bigL (a : List UInt8) : Bool := decide (998 < a.length)
theorem first_big {β : Type} (L : Nat → Int → Option β) (l : List (List UInt8)) (hl : l.length ≤ 1000000) (r : Nat → β) (stop : β) (hend : ∀ m, L (m + 1) (l.length : Int) = some stop)
    (hstep : ∀ m i (h : i < l.length), L (m + 1) (i : Int) = if bigL l[i] = true then some (r i) else L m ((i + 1 : Nat) : Int)) : L FU 0 = some (match l.findIdx? bigL with | some j => r j | none => stop) := by
  rcases scanP L l (fun i a => if bigL a = true then some (r i) else none) stop hend (fun m i h => by
    rw [hstep m i h]; split <;> rfl) l.length 0 FU (by omega) (FU_gt (by omega)) (by omega) with ⟨j, hj, x, a1, a2, a3, a4⟩ | ⟨a1, a2⟩
  · rw [show ((0 : Nat) : Int) = 0 from rfl] at a4
    rw [a4]
    have hb : bigL l[j] = true := by
      by_cases hb : bigL l[j] = true
      · exact hb
      · simp only [hb, if_false, Bool.false_eq_true] at a2; cases a2
    simp only [hb, if_true] at a2
    cases a2
    have : l.findIdx? bigL = some j := by
      rw [List.findIdx?_eq_some_iff_getElem]
      refine ⟨hj, hb, fun a ha => ?_⟩
      have := a3 a (by omega) (by omega) ha
      intro hc
      simp only [hc, if_true] at this
      cases this
    rw [this]
  · rw [show ((0 : Nat) : Int) = 0 from rfl] at a2
    rw [a2]
    have : l.findIdx? bigL = none := by
      rw [List.findIdx?_eq_none_iff]
      intro x hx
      obtain ⟨i, hi, rfl⟩ := List.getElem_of_mem hx
      have := a1 i hi (by omega)
      cases hc : bigL l[i] with
      | false => rfl
      | true => simp only [hc, if_true] at this; cases this
    rw [this]
theorem fl_len : ∀ (n : Nat) (s : List UInt8) (k : Nat), 0 < k → s.length ≤ n → (fl s k).length ≤ s.length + 1
  | 0, s, k, hk, h => by
    rw [fl_end (fun h' => by omega)]; simp
  | n + 1, s, k, hk, h => by
    by_cases hc : 78 < s.length ∧ pt s k ≠ 0
    · have h1 := pt_lt hk hc.2
      have := fl_len n (s.drop (pt s k)) 1 (by omega) (by rw [List.length_drop]; omega)
      rw [fl_more hk hc, List.length_cons]
      rw [List.length_drop] at this
      omega
    · rw [fl_end hc]; simp
/-- the text of a field -/
def fieldS (n v : List UInt8) : List UInt8 := n ++ [58, 32] ++ v
def foldR (n v : List UInt8) : List (List UInt8) × (Int × Int) :=
  if codeF n v = 0 then (match (fl (fieldS n v) (n.length + 2)).findIdx? bigL with | some j => ([], (1, (j : Int))) | none => (fl (fieldS n v) (n.length + 2), (0, 0))) else ([], (codeF n v, -1))
theorem nmL_len {n : List UInt8} (h : nmL n = true) : 1 ≤ n.length ∧ n.length ≤ 60 := by
  unfold nmL at h
  rw [Bool.and_eq_true, decide_eq_true_eq] at h
  exact h.2
theorem fold_Fold_eq (n v : List UInt8) (hn : Big n) (hv : Big v) : fold_Fold n v = some (foldR n v) := by
  unfold fold_Fold foldR codeF
  rw [fold_name_eq n hn]
  simp only [bsome]
  cases h : nmL n with
  | false => rfl
  | true =>
    have h60 := nmL_len h
    simp only [if_true]
    by_cases hv4 : 4000 < v.length
    · rw [if_pos (by omega), if_pos hv4]; rfl
    · rw [if_neg (by omega), if_neg hv4, fold_value_eq v hv]
      simp only [bsome]
      cases hb : valB v with
      | false => rfl
      | true =>
        simp only [if_true]
        have e1 : (n ++ [58, 32] ++ v) = fieldS n v := rfl
        have hsl : (fieldS n v).length = n.length + 2 + v.length := by unfold fieldS; simp; omega
        rw [cat_ok (by simp only [List.length_cons, List.length_nil]; omega)]
        simp only [bsome]
        rw [cat_ok (by rw [List.length_append]; simp only [List.length_cons, List.length_nil]; omega), show ((n.length : Int) + 2) = ((n.length + 2 : Nat) : Int) by omega, chk_ok (by omega) (by omega)]
        simp only [bsome, e1]
        obtain ⟨a, b, f1, f2, f3, f4⟩ := fold_L1_eq (fieldS n v).length FU (n.length + 2) (fieldS n v) [] (Nat.le_refl _) (FU_gt (by omega)) (by omega) (by simp; omega)
        rw [f1]
        simp only [bsome]
        rw [app_ok (by simp only [List.length_cons, List.length_nil] at f4 ⊢; omega)]
        simp only [bsome]
        rw [f2, List.nil_append, show max (n.length + 2) 1 = n.length + 2 by omega]
        have hfl := fl_len (fieldS n v).length (fieldS n v) (n.length + 2) (by omega) (Nat.le_refl _)
        rw [first_big (fun m i => fold_Fold_L2 (fl (fieldS n v) (n.length + 2)) m 0 0 i) (fl (fieldS n v) (n.length + 2)) (by omega) (fun i => .inr ([], (1, (i : Int)))) (.inl (0, 0)) (fun m => by rw [fold_Fold_L2, if_neg (by omega)]) (fun m i h => by
          rw [fold_Fold_L2, if_pos (by omega), idx_nat, List.getElem?_eq_getElem h, chk_succ (by omega)]
          simp only [bsome]
          unfold bigL basic_Fault
          by_cases hbig : 998 < ((fl (fieldS n v) (n.length + 2))[i]).length
          · rw [if_pos (by omega), if_pos (decide_eq_true hbig)]; rfl
          · rw [if_neg (by omega), if_neg (by rw [decide_eq_true_eq]; exact hbig)])]
        simp only [bsome]
        cases (fl (fieldS n v) (n.length + 2)).findIdx? bigL with
        | none => rfl
        | some j => rfl
/-! the reference's lines -/
theorem R_Folded_L1_eq (s : List UInt8) (hs : s.length ≤ 1000000) : ∀ (k i m : Nat) (o : List Int), s.length - i ≤ k → k < m → 0 < i → o.length ≤ i → R_Folded_L1 s m o (i : Int) = some (o ++ ((List.range' i (s.length - i)).filter (fun j => bk s j)).map (fun (j : Nat) => (j : Int)))
  | k, i, m, o, h1, h2, h3, h4 => by
    obtain ⟨m, rfl⟩ : ∃ k, m = k + 1 := ⟨m - 1, by omega⟩
    by_cases hi : i < s.length
    · cases k with
      | zero => omega
      | succ k =>
      rw [R_Folded_L1, if_pos (by omega), idx_nat, List.getElem?_eq_getElem hi, chk_pred (by omega) (by omega), chk_succ (by omega)]
      simp only [bsome, R_Blank_eq, idx_nat]
      rw [List.getElem?_eq_getElem (show i - 1 < s.length by omega)]
      simp only [bsome, R_Blank_eq]
      have hc : (if decide (bl s[i]) = true then some (!decide (bl (s[i - 1]'(by omega)))) else some false) = some (bk s i) := by
        rw [bk_at' h3 hi]
        by_cases c1 : bl s[i] <;> by_cases c2 : bl (s[i - 1]'(by omega)) <;> simp [c1, c2]
      rw [hc]
      simp only [bsome]
      rw [show s.length - i = (s.length - (i + 1)) + 1 by omega, List.range'_succ]
      cases hb : bk s i with
      | true =>
        rw [if_pos rfl, app_ok (by simp only [List.length_cons, List.length_nil]; omega), List.filter_cons_of_pos hb]
        simp only [bsome]
        rw [R_Folded_L1_eq s hs k (i + 1) m _ (by omega) (by omega) (by omega) (by simp; omega)]
        simp
      | false =>
        rw [if_neg (by simp), List.filter_cons_of_neg (by simp [hb]), R_Folded_L1_eq s hs k (i + 1) m _ (by omega) (by omega) (by omega) (by omega)]
    · rw [R_Folded_L1, if_neg (by omega), show s.length - i = 0 by omega]
      simp
theorem R_Folded_L3_eq (ps : List Nat) (at_ : Nat) (hp : ∀ p ∈ ps, p ≤ 1000000) (hl : ps.length ≤ 1000000) (ha : at_ ≤ 1000000) : ∀ (k i m : Nat) (best : Int), ps.length - i ≤ k → k < m → i ≤ ps.length → R_Folded_L3 (ps.map (fun (j : Nat) => (j : Int))) (at_ : Int) m best (i : Int) = some ((ps.drop i).foldl (Fd.step at_) best)
  | k, i, m, best, h1, h2, h3 => by
    obtain ⟨m, rfl⟩ : ∃ k, m = k + 1 := ⟨m - 1, by omega⟩
    by_cases hi : i < ps.length
    · cases k with
      | zero => omega
      | succ k =>
      have hpi := hp ps[i] (List.getElem_mem hi)
      have ih := fun best => R_Folded_L3_eq ps at_ hp hl ha k (i + 1) m best (by omega) (by omega) (by omega)
      rw [R_Folded_L3, if_pos (by rw [List.length_map]; omega), idx_nat, List.getElem?_map, List.getElem?_eq_getElem hi, chk_succ (by omega), drop_cons hi, List.foldl_cons]
      simp only [bsome, Option.map_some]
      unfold Fd.step
      by_cases c1 : at_ < ps[i]
      · rw [if_pos (by omega), chk_ok (by omega) (by omega)]
        simp only [bsome]
        by_cases c2 : (ps[i] : Int) - (at_ : Int) ≤ 78
        · rw [if_pos c2, if_pos ⟨c1, .inl c2⟩]
          simp only [bsome, if_true]
          exact ih _
        · rw [if_neg c2]
          simp only [bsome]
          by_cases c3 : best < 0
          · rw [decide_eq_true c3, if_pos rfl, if_pos ⟨c1, .inr c3⟩]
            exact ih _
          · rw [decide_eq_false c3, if_neg (by simp), if_neg (fun h => h.2.elim c2 c3)]
            exact ih _
      · rw [if_neg (by omega), if_neg (fun h => c1 h.1)]
        simp only [bsome, Bool.false_eq_true, if_false]
        exact ih _
    · rw [R_Folded_L3, if_neg (by rw [List.length_map]; omega), List.drop_of_length_le (by omega)]; rfl
theorem foldl_low (at_ : Nat) : ∀ (l : List Nat) (best : Int), (∀ p ∈ l, p ≤ at_) → l.foldl (Fd.step at_) best = best
  | [], best, _ => rfl
  | p :: l, best, h => by
    rw [List.foldl_cons]
    have : Fd.step at_ best p = best := by unfold Fd.step; rw [if_neg (fun x => by have := h p (by simp); omega)]
    rw [this]
    exact foldl_low at_ l best (fun q hq => h q (by simp [hq]))
/-- what is chosen from a place on -/
theorem chosen (s : List UInt8) (k0 at_ k : Nat) (hk0 : 0 < k0) (h : (at_ = 0 ∧ k = k0) ∨ (0 < at_ ∧ k0 ≤ at_ ∧ k = 1)) (hat : at_ < s.length) :
    ((List.range' k0 (s.length - k0)).filter (fun j => bk s j)).foldl (Fd.step at_) (-1) = if pt (s.drop at_) k = 0 then -1 else ((at_ + pt (s.drop at_) k : Nat) : Int) := by
  unfold pt
  rw [List.length_drop]
  rcases h with ⟨rfl, rfl⟩ | ⟨h1, h2, rfl⟩
  · have := step_sc s 0 k hk0 (s.length - k) k 0 (Nat.le_refl _)
    simpa using this
  · have hsplit : List.range' k0 (s.length - k0) = List.range' k0 (at_ + 1 - k0) ++ List.range' (at_ + 1) (s.length - at_ - 1) := by
      have := List.range'_append (s := k0) (m := at_ + 1 - k0) (n := s.length - at_ - 1) (step := 1)
      rw [show at_ + 1 - k0 + (s.length - at_ - 1) = s.length - k0 by omega, show k0 + 1 * (at_ + 1 - k0) = at_ + 1 by omega] at this
      exact this.symm
    rw [hsplit, List.filter_append, List.foldl_append, foldl_low at_ ((List.range' k0 (at_ + 1 - k0)).filter (fun j => bk s j)) _ (fun p hp => by
      have := List.mem_range'_1.1 (List.mem_filter.1 hp).1
      omega)]
    have := step_sc s at_ 1 (by omega) (s.length - at_ - 1) 1 0 (Nat.le_refl _)
    rw [if_pos rfl] at this
    exact this
theorem R_Folded_L2_eq (s : List UInt8) (hs : s.length ≤ 1000000) (k0 : Nat) (hk0 : 0 < k0) : ∀ (f m at_ k : Nat) (o : List (List UInt8)), s.length - at_ ≤ f → f < m → ((at_ = 0 ∧ k = k0) ∨ (0 < at_ ∧ k0 ≤ at_ ∧ k = 1)) → at_ ≤ s.length → o.length ≤ at_ →
    ∃ (a : Nat) (b : List (List UInt8)), R_Folded_L2 s (((List.range' k0 (s.length - k0)).filter (fun j => bk s j)).map (fun (j : Nat) => (j : Int))) m o (at_ : Int) = some (b, (a : Int)) ∧ b ++ [s.drop a] = o ++ fl (s.drop at_) k ∧ a ≤ s.length ∧ b.length ≤ s.length
  | f, m, at_, k, o, h1, h2, h3, h4, h5 => by
    obtain ⟨m, rfl⟩ : ∃ k, m = k + 1 := ⟨m - 1, by omega⟩
    have hk : 0 < k := by omega
    rw [R_Folded_L2, show (s.length : Int) - (at_ : Int) = ((s.length - at_ : Nat) : Int) by omega, chk_ok (by omega) (by omega)]
    simp only [bsome]
    have hdl : (s.drop at_).length = s.length - at_ := List.length_drop
    by_cases h78 : 78 < s.length - at_
    · rw [if_pos (by omega)]
      have hm : ∀ p ∈ (List.range' k0 (s.length - k0)).filter (fun j => bk s j), p ≤ 1000000 := fun p hp => by
        have := List.mem_range'_1.1 (List.mem_filter.1 hp).1
        omega
      have hlen : ((List.range' k0 (s.length - k0)).filter (fun j => bk s j)).length ≤ s.length := by
        have := List.length_filter_le (fun j => bk s j) (List.range' k0 (s.length - k0))
        rw [List.length_range'] at this
        omega
      have h3' := R_Folded_L3_eq _ at_ hm (by omega) (by omega) _ 0 FU (-1) (Nat.le_refl _) (FU_gt (by omega)) (by omega)
      rw [show ((0 : Nat) : Int) = 0 from rfl, List.drop_zero, chosen s k0 at_ k hk0 h3 (by omega)] at h3'
      rw [h3']
      simp only [bsome]
      by_cases h0 : pt (s.drop at_) k = 0
      · rw [if_pos h0, if_pos (by decide), fl_end (fun h => h.2 h0)]
        exact ⟨at_, o, rfl, rfl, h4, by omega⟩
      · obtain ⟨p1, p2, p3⟩ := pt_lt hk h0
        rw [hdl] at p2
        rw [if_neg h0, if_neg (by omega), cut_of rfl rfl (by omega) (by omega)]
        simp only [bsome]
        rw [app_ok (by simp only [List.length_cons, List.length_nil]; omega)]
        simp only [bsome]
        cases f with
        | zero => omega
        | succ f =>
          obtain ⟨a, b, e1, e2, e3, e4⟩ := R_Folded_L2_eq s hs k0 hk0 f m (at_ + pt (s.drop at_) k) 1 (o ++ [(s.take (at_ + pt (s.drop at_) k)).drop at_]) (by omega) (by omega) (.inr ⟨by omega, by omega, rfl⟩) (by omega) (by simp; omega)
          refine ⟨a, b, e1, ?_, e3, e4⟩
          rw [e2, fl_more hk ⟨by omega, h0⟩, List.drop_drop, List.drop_take, show at_ + pt (s.drop at_) k - at_ = pt (s.drop at_) k by omega]
          simp
    · rw [if_neg (by omega), fl_end (fun h => h78 (by omega))]
      exact ⟨at_, o, rfl, rfl, h4, by omega⟩
theorem pt_next {s : List UInt8} {k : Nat} (h : bk s k = false) : pt s k = pt s (k + 1) := by
  unfold pt
  by_cases hk : k < s.length
  · rw [show s.length - k = (s.length - (k + 1)) + 1 by omega, sc, h]
    simp
  · rw [show s.length - k = 0 by omega, show s.length - (k + 1) = 0 by omega]; rfl
theorem fl_next {s : List UInt8} {k : Nat} (hk : 0 < k) (h : bk s k = false) : fl s k = fl s (k + 1) := by
  by_cases hc : 78 < s.length ∧ pt s k ≠ 0
  · rw [fl_more hk hc, fl_more (s := s) (k := k + 1) (by omega) (by rw [← pt_next h]; exact hc), pt_next h]
  · rw [fl_end hc, fl_end (by rw [← pt_next h]; exact hc)]
theorem field_bk (n v : List UInt8) : bk (fieldS n v) (n.length + 2) = false := by
  unfold bk fieldS
  have : (n ++ [58, 32] ++ v)[n.length + 2 - 1]? = some 32 := by
    rw [List.append_assoc, List.getElem?_append_right (by omega)]
    have : n.length + 2 - 1 - n.length = 1 := by omega
    rw [this]; rfl
  rw [this]
  cases (n ++ [58, 32] ++ v)[n.length + 2]? with
  | none => rfl
  | some b => simp
theorem R_Folded_eq (n v : List UInt8) (h : n.length + v.length ≤ 100000) : R_Folded n v = some (fl (fieldS n v) (n.length + 2)) := by
  unfold R_Folded
  have e1 : (n ++ [58, 32] ++ v) = fieldS n v := rfl
  have hsl : (fieldS n v).length = n.length + 2 + v.length := by unfold fieldS; simp; omega
  rw [cat_ok (by simp only [List.length_cons, List.length_nil]; omega)]
  simp only [bsome]
  rw [cat_ok (by rw [List.length_append]; simp only [List.length_cons, List.length_nil]; omega), show ((n.length : Int) + 3) = ((n.length + 3 : Nat) : Int) by omega, chk_ok (by omega) (by omega)]
  simp only [bsome, e1]
  rw [R_Folded_L1_eq (fieldS n v) (by omega) (fieldS n v).length (n.length + 3) FU [] (by omega) (FU_gt (by omega)) (by omega) (by simp)]
  simp only [bsome, List.nil_append]
  obtain ⟨a, b, f1, f2, f3, f4⟩ := R_Folded_L2_eq (fieldS n v) (by omega) (n.length + 3) (by omega) (fieldS n v).length FU 0 (n.length + 3) [] (by omega) (FU_gt (by omega)) (.inl ⟨rfl, rfl⟩) (by omega) (by simp)
  rw [show ((0 : Nat) : Int) = 0 from rfl] at f1
  rw [f1]
  simp only [bsome]
  rw [cut_from rfl f3]
  simp only [bsome]
  rw [app_ok (by simp only [List.length_cons, List.length_nil]; omega)]
  simp only [bsome]
  rw [f2, List.nil_append, List.drop_zero, fl_next (by omega) (field_bk n v)]
def faultR (n v : List UInt8) : Int × Int :=
  if codeF n v = 0 then (match (fl (fieldS n v) (n.length + 2)).findIdx? bigL with | some j => (1, (j : Int)) | none => (0, 0)) else (codeF n v, -1)
theorem codeF_zero {n v : List UInt8} (h : codeF n v = 0) : nmL n = true ∧ v.length ≤ 4000 ∧ valB v = true := by
  unfold codeF at h
  split at h
  · split at h
    · cases h
    · split at h
      · exact ⟨by assumption, by omega, by assumption⟩
      · cases h
  · cases h
theorem R_FoldFault_eq (n v : List UInt8) (hn : Big n) (hv : Big v) : R_FoldFault n v = some (faultR n v) := by
  unfold R_FoldFault faultR
  rw [R_FieldCode_eq n v hn hv]
  simp only [bsome]
  by_cases h : codeF n v = 0
  · obtain ⟨h1, h2, h3⟩ := codeF_zero h
    have h60 := nmL_len h1
    have hsl : (fieldS n v).length = n.length + 2 + v.length := by unfold fieldS; simp; omega
    have hfl := fl_len (fieldS n v).length (fieldS n v) (n.length + 2) (by omega) (Nat.le_refl _)
    rw [if_pos h, if_pos h, R_Folded_eq n v (by omega)]
    simp only [bsome]
    rw [first_big (fun m i => R_FoldFault_L1 (fl (fieldS n v) (n.length + 2)) m 0 0 i) (fl (fieldS n v) (n.length + 2)) (by omega) (fun i => .inr (1, (i : Int))) (.inl (0, 0)) (fun m => by rw [R_FoldFault_L1, if_neg (by omega)]) (fun m i h => by
      rw [R_FoldFault_L1, if_pos (by omega), idx_nat, List.getElem?_eq_getElem h, chk_succ (by omega)]
      simp only [bsome]
      unfold bigL R_At
      by_cases hbig : 998 < ((fl (fieldS n v) (n.length + 2))[i]).length
      · rw [if_pos (by omega), if_pos (decide_eq_true hbig)]; rfl
      · rw [if_neg (by omega), if_neg (by rw [decide_eq_true_eq]; exact hbig)])]
    simp only [bsome]
    cases (fl (fieldS n v) (n.length + 2)).findIdx? bigL with
    | none => rfl
    | some j => rfl
  · rw [if_neg h, if_neg h]
    rfl
theorem R_Strings_eq (a b : List (List UInt8)) (h : a.length ≤ 140737488355328) : R_Strings a b = some (decide (a = b)) := by
  unfold R_Strings
  by_cases hl : a.length = b.length
  · have key : ∀ (k i m : Nat), a.length - i ≤ k → k < m → i ≤ a.length → R_Strings_L1 a b m (i : Int) = some (if a.drop i = b.drop i then .inl () else .inr false) := by
      intro k
      induction k with
      | zero =>
        intro i m h1 h2 h3
        obtain ⟨m, rfl⟩ : ∃ k, m = k + 1 := ⟨m - 1, by omega⟩
        rw [R_Strings_L1, if_neg (by omega), List.drop_of_length_le (by omega), List.drop_of_length_le (by omega)]; rfl
      | succ k ih =>
        intro i m h1 h2 h3
        obtain ⟨m, rfl⟩ : ∃ k, m = k + 1 := ⟨m - 1, by omega⟩
        by_cases hi : i < a.length
        · rw [R_Strings_L1, if_pos (by omega), idx_nat, idx_nat, List.getElem?_eq_getElem hi, List.getElem?_eq_getElem (show i < b.length by omega), chk_succ (by omega), drop_cons hi, drop_cons (l := b) (i := i) (by omega)]
          simp only [bsome]
          by_cases he : a[i] = b[i]
          · rw [if_pos he, ih (i + 1) m (by omega) (by omega) (by omega), he]
            simp only [List.cons.injEq, true_and]
          · rw [if_neg he, if_neg (fun x => he (List.cons.inj x).1)]
        · rw [R_Strings_L1, if_neg (by omega), List.drop_of_length_le (by omega), List.drop_of_length_le (by omega)]; rfl
    have := key a.length 0 FU (by omega) (FU_gt (by omega)) (by omega)
    rw [show ((0 : Nat) : Int) = 0 from rfl, List.drop_zero, List.drop_zero] at this
    rw [if_pos (by omega), this]
    by_cases he : a = b
    · simp [he]
    · simp [he]
  · rw [if_neg (by omega), decide_eq_false (fun x => hl (by rw [x]))]
theorem foldExample_true : L_foldExample = some true := by decide +kernel
theorem L_FoldMatchesSpec_true (n v : List UInt8) (hn : Big n) (hv : Big v) : L_FoldMatchesSpec n v = some true := by
  unfold L_FoldMatchesSpec
  rw [foldExample_true, fold_Fold_eq n v hn hv, R_FoldFault_eq n v hn hv]
  simp only [bsome, if_true]
  unfold foldR faultR
  by_cases h : codeF n v = 0
  · obtain ⟨h1, h2, h3⟩ := codeF_zero h
    have h60 := nmL_len h1
    have hsl : (fieldS n v).length = n.length + 2 + v.length := by unfold fieldS; simp; omega
    have hfl := fl_len (fieldS n v).length (fieldS n v) (n.length + 2) (by omega) (Nat.le_refl _)
    simp only [h, if_true]
    cases (fl (fieldS n v) (n.length + 2)).findIdx? bigL with
    | some j => simp
    | none => simp [R_Folded_eq n v (by omega), R_Strings_eq _ _ (show (fl (fieldS n v) (n.length + 2)).length ≤ 140737488355328 by omega)]
  · simp [h]
end Go.Ph.Pf
