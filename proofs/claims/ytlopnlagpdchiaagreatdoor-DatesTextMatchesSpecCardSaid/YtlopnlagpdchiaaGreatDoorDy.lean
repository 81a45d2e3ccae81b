/-
  Dates: the text of a date, and the law Text. Plain.
-/
import Derived.Test.YtlopnlagpdchiaaGreatDoorDx
set_option linter.unusedVariables false
set_option linter.unusedSimpArgs false
namespace Go.Ph.Pf
open Go.Ph.Pl
def p2 (n : Nat) : List UInt8 := [UInt8.ofNat (48 + n / 10), UInt8.ofNat (48 + n % 10)]
def p4 (n : Nat) : List UInt8 := [UInt8.ofNat (48 + n / 1000), UInt8.ofNat (48 + n / 100 % 10), UInt8.ofNat (48 + n / 10 % 10), UInt8.ofNat (48 + n % 10)]
theorem pad2F : ∀ n : Fin 100, dates_pad ((n.val : Nat) : Int) 2 = some (p2 n.val) := by decide +kernel
theorem Padded2F : ∀ n : Fin 100, R_Padded ((n.val : Nat) : Int) 2 = some (p2 n.val) := by decide +kernel
theorem dg2F : ∀ n : Fin 100, digs (p2 n.val) = true ∧ dv (p2 n.val) = ((n.val : Nat) : Int) := by decide +kernel
theorem pad4F : ∀ (a : Fin 41) (b : Fin 100), dates_pad ((100 * a.val + b.val : Nat) : Int) 4 = some (p4 (100 * a.val + b.val)) := by decide +kernel
theorem Padded4F : ∀ (a : Fin 41) (b : Fin 100), R_Padded ((100 * a.val + b.val : Nat) : Int) 4 = some (p4 (100 * a.val + b.val)) := by decide +kernel
theorem dg4F : ∀ (a : Fin 41) (b : Fin 100), digs (p4 (100 * a.val + b.val)) = true ∧ dv (p4 (100 * a.val + b.val)) = ((100 * a.val + b.val : Nat) : Int) := by decide +kernel
theorem nat_of_int {x : Int} (h : 0 ≤ x) : ∃ n : Nat, x = (n : Int) := ⟨x.toNat, by omega⟩
theorem two {x : Int} (h0 : 0 ≤ x) (h1 : x ≤ 99) : dates_pad x 2 = some (p2 x.toNat) ∧ R_Padded x 2 = some (p2 x.toNat) ∧ digs (p2 x.toNat) = true ∧ dv (p2 x.toNat) = x := by
  obtain ⟨n, rfl⟩ := nat_of_int h0
  have a := pad2F ⟨n, by omega⟩
  have b := Padded2F ⟨n, by omega⟩
  have c := dg2F ⟨n, by omega⟩
  rw [Int.toNat_natCast]
  exact ⟨a, b, c.1, c.2⟩
theorem four {x : Int} (h0 : 0 ≤ x) (h1 : x ≤ 4000) : dates_pad x 4 = some (p4 x.toNat) ∧ R_Padded x 4 = some (p4 x.toNat) ∧ digs (p4 x.toNat) = true ∧ dv (p4 x.toNat) = x := by
  obtain ⟨n, rfl⟩ := nat_of_int h0
  have a := pad4F ⟨n / 100, by omega⟩ ⟨n % 100, by omega⟩
  have b := Padded4F ⟨n / 100, by omega⟩ ⟨n % 100, by omega⟩
  have c := dg4F ⟨n / 100, by omega⟩ ⟨n % 100, by omega⟩
  have e : 100 * (n / 100) + n % 100 = n := by omega
  simp only [e] at a b c
  rw [Int.toNat_natCast]
  exact ⟨a, b, c.1, c.2⟩
theorem spW_word {w : List UInt8} (hb : ∀ c ∈ w, c ≠ 32 ∧ c ≠ 9) (r : List UInt8) : ∀ acc : List UInt8, acc ++ w ≠ [] → spW acc (w ++ 32 :: r) = (acc ++ w) :: spW [] r := by
  induction w with
  | nil =>
    intro acc h
    rw [List.append_nil] at h ⊢
    rw [List.nil_append, spW, if_pos (.inl rfl), if_neg h]
  | cons c w ih =>
    intro acc h
    have hc := hb c List.mem_cons_self
    rw [List.cons_append, spW, if_neg (by simp [hc.1, hc.2]), ih (fun c hc => hb c (List.mem_cons_of_mem _ hc)) (acc ++ [c]) (by simp)]
    simp
theorem spW_last {w : List UInt8} (hb : ∀ c ∈ w, c ≠ 32 ∧ c ≠ 9) : ∀ acc : List UInt8, acc ++ w ≠ [] → spW acc w = [acc ++ w] := by
  induction w with
  | nil =>
    intro acc h
    rw [List.append_nil] at h ⊢
    rw [spW, if_neg h]
  | cons c w ih =>
    intro acc h
    have hc := hb c List.mem_cons_self
    rw [spW, if_neg (by simp [hc.1, hc.2]), ih (fun c hc => hb c (List.mem_cons_of_mem _ hc)) (acc ++ [c]) (by simp)]
    simp
theorem spW_jn : ∀ ws : List (List UInt8), (∀ w ∈ ws, w ≠ [] ∧ ∀ c ∈ w, c ≠ 32 ∧ c ≠ 9) → spW [] (jn [32] ws) = ws
  | [], _ => rfl
  | [w], h => by
    have := h w (by simp)
    rw [jn, spW_last this.2 [] (by simpa using this.1)]; rfl
  | w :: x :: r, h => by
    have := h w (by simp)
    rw [jn, List.singleton_append, spW_word this.2 _ [] (by simpa using this.1), spW_jn (x :: r) (fun y hy => h y (List.mem_cons_of_mem _ hy))]; rfl
theorem dg_nb {w : List UInt8} (h : digs w = true) : ∀ c ∈ w, c ≠ 32 ∧ c ≠ 9 := fun c hc => by
  have := List.all_eq_true.1 h c hc
  simp only [dg, decide_eq_true_eq] at this
  constructor <;> rintro rfl <;> simp at this
/-- the words of a date -/
def zw (z : Int) : List UInt8 := (if z < 0 then 45 else 43) :: (p2 ((if z < 0 then -z else z) / 60).toNat ++ p2 ((if z < 0 then -z else z) % 60).toNat)
def tw (h m s : Int) : List UInt8 := p2 h.toNat ++ 58 :: (p2 m.toNat ++ 58 :: p2 s.toNat)
def wds (p : DT) : List (List UInt8) := [dayn.getD ((dn p.1 p.2.1 p.2.2.1 + 4) % 7).toNat [] ++ [44], p2 p.2.2.1.toNat, mnth.getD (p.2.1 - 1).toNat [], p4 p.1.toNat, tw p.2.2.2.1 p.2.2.2.2.1 p.2.2.2.2.2.1, zw p.2.2.2.2.2.2]
theorem day_fact : ∀ k : Fin 7, idxA 7 dayn ((k.val : Nat) : Int) = some (dayn.getD k.val []) ∧ (dayn.getD k.val []).length = 3 ∧ dayn.getD k.val [] ∈ dayn ∧ ∀ c ∈ dayn.getD k.val [], c ≠ 32 ∧ c ≠ 9 := by decide +kernel
theorem mon_fact : ∀ k : Fin 12, idxA 12 mnth ((k.val : Nat) : Int) = some (mnth.getD k.val []) ∧ (mnth.getD k.val []).length = 3 ∧ monOf (mnth.getD k.val []) = ((k.val + 1 : Nat) : Int) ∧ ∀ c ∈ mnth.getD k.val [], c ≠ 32 ∧ c ≠ 9 := by decide +kernel
theorem p2_len (n : Nat) : (p2 n).length = 2 := rfl
theorem p4_len (n : Nat) : (p4 n).length = 4 := rfl
theorem sgn (z : Int) (h1 : -900 ≤ z) (h2 : z ≤ 900) : ((if z < (0 : Int) then (chk (-z)).bind fun n13 => some (([45] : List UInt8), n13) else some ([43], z)) : Option (List UInt8 × Int)) = some ([if z < 0 then 45 else 43], if z < 0 then -z else z) := by
  by_cases h : z < 0
  · simp only [if_pos h]; rw [ck (by omega) (by omega)]
  · simp only [if_neg h]
theorem Print_ok (p : DT) (h : okD p) : dates_Print p = some (jn [32] (wds p), (0, 0)) := by
  obtain ⟨h1, h2, h3, h4, h5, h6, h7⟩ := id h
  have hm := ml_bd (y := p.1) h2.1 h2.2
  have hz : 0 ≤ (if p.2.2.2.2.2.2 < 0 then -p.2.2.2.2.2.2 else p.2.2.2.2.2.2) ∧ (if p.2.2.2.2.2.2 < 0 then -p.2.2.2.2.2.2 else p.2.2.2.2.2.2) ≤ 900 := by split <;> omega
  unfold dates_Print
  rw [show ((p.1, p.2.1, p.2.2.1, p.2.2.2.1, p.2.2.2.2.1, p.2.2.2.2.2.1, p.2.2.2.2.2.2) : DT) = p from rfl, Weekday_ok, if_pos h, bsome]
  simp only [show basic_Failed (0, 0) = some false from rfl, bsome, if_false, Bool.false_eq_true]
  rw [sgn _ h7.1 h7.2, bsome]
  simp only
  generalize hZ : (if p.2.2.2.2.2.2 < 0 then -p.2.2.2.2.2.2 else p.2.2.2.2.2.2) = Z at *
  have q1 := two (x := Z / 60) (by omega) (by omega)
  have q2 := two (x := Z % 60) (by omega) (by omega)
  have q3 := two h4.1 (by omega)
  have q4 := two h5.1 (by omega)
  have q5 := two h6.1 (by omega)
  have q6 := two (x := p.2.2.1) (by omega) (by omega)
  have q7 := four (x := p.1) (by omega) (by omega)
  have w1 := Int.emod_nonneg (dn p.1 p.2.1 p.2.2.1 + 4) (by decide : (7 : Int) ≠ 0)
  have w2 := Int.emod_lt_of_pos (dn p.1 p.2.1 p.2.2.1 + 4) (by decide : (0 : Int) < 7)
  unfold wds
  generalize hW : (dn p.1 p.2.1 p.2.2.1 + 4) % 7 = W at *
  obtain ⟨W, rfl⟩ := nat_of_int w1
  have d1 := day_fact ⟨W, by omega⟩
  have m1 := mon_fact ⟨(p.2.1 - 1).toNat, by omega⟩
  have em : (((p.2.1 - 1).toNat : Nat) : Int) = p.2.1 - 1 := by omega
  simp only [em] at m1
  simp only at d1
  rw [quo_nn (by omega) (by omega) (by omega), bsome, q1.1, bsome, rem_nn (by omega) (by omega), bsome, q2.1, bsome, cat_ok (by simp [p2_len]), bsome, cat_ok (by simp [p2_len]), bsome, q3.1, bsome, cat_ok (by simp [p2_len]), bsome, q4.1, bsome, cat_ok (by simp [p2_len]), bsome, cat_ok (by simp [p2_len]), bsome, q5.1, bsome, cat_ok (by simp [p2_len]), bsome,
    weekdays_ok, bsome, d1.1, bsome, cat_ok (by rw [d1.2.1]; decide), bsome, q6.1, bsome, months_ok, bsome, ck (by omega) (by omega), m1.1, bsome, q7.1, bsome]
  unfold strings_Join zw tw
  rw [hZ, Int.toNat_natCast]
  rw [if_pos (by
    refine ⟨by simp, ?_⟩
    simp only [jn, List.length_append, List.length_cons, List.length_nil, p2_len, p4_len, d1.2.1, m1.2.1]
    decide), bsome, show basic_None = some (0, 0) from rfl, bsome]
  simp
theorem Text_ok (p : DT) (h : okD p) : R_DateText p = some (jn [32] (wds p)) := by
  obtain ⟨h1, h2, h3, h4, h5, h6, h7⟩ := id h
  have hm := ml_bd (y := p.1) h2.1 h2.2
  have hz : 0 ≤ (if p.2.2.2.2.2.2 < 0 then -p.2.2.2.2.2.2 else p.2.2.2.2.2.2) ∧ (if p.2.2.2.2.2.2 < 0 then -p.2.2.2.2.2.2 else p.2.2.2.2.2.2) ≤ 900 := by split <;> omega
  unfold R_DateText
  rw [sgn _ h7.1 h7.2, bsome]
  simp only
  generalize hZ : (if p.2.2.2.2.2.2 < 0 then -p.2.2.2.2.2.2 else p.2.2.2.2.2.2) = Z at *
  have q1 := two (x := Z / 60) (by omega) (by omega)
  have q2 := two (x := Z % 60) (by omega) (by omega)
  have q3 := two h4.1 (by omega)
  have q4 := two h5.1 (by omega)
  have q5 := two h6.1 (by omega)
  have q6 := two (x := p.2.2.1) (by omega) (by omega)
  have q7 := four (x := p.1) (by omega) (by omega)
  have w1 := Int.emod_nonneg (dn p.1 p.2.1 p.2.2.1 + 4) (by decide : (7 : Int) ≠ 0)
  have w2 := Int.emod_lt_of_pos (dn p.1 p.2.1 p.2.2.1 + 4) (by decide : (0 : Int) < 7)
  have hw := WeekdayOf_ok (y := p.1) (m := p.2.1) (d := p.2.2.1) h1.1 (by omega) h2.1 h2.2 (by omega) (by omega)
  unfold wds
  generalize hW : (dn p.1 p.2.1 p.2.2.1 + 4) % 7 = W at *
  obtain ⟨W, rfl⟩ := nat_of_int w1
  have d1 := day_fact ⟨W, by omega⟩
  have d2 := DayName_ok ⟨W, by omega⟩
  have m1 := mon_fact ⟨(p.2.1 - 1).toNat, by omega⟩
  have m2 := MonthName_ok ⟨(p.2.1 - 1).toNat, by omega⟩
  have em : (((p.2.1 - 1).toNat + 1 : Nat) : Int) = p.2.1 := by omega
  simp only [em] at m2
  simp only at d1 d2 m1
  unfold zw tw
  rw [hZ, Int.toNat_natCast]
  have L1 := d1.2.1
  have L2 := m1.2.1
  generalize dayn.getD W [] = DA at *
  generalize mnth.getD (p.2.1 - 1).toNat [] = MO at *
  have ok : ∀ a b : List UInt8, a.length ≤ 1000 → b.length ≤ 1000 → cat a b = some (a ++ b) := fun a b h1 h2 => cat_ok (by omega)
  rw [quo_nn (by omega) (by omega) (by omega), bsome, q1.2.1, bsome, ok _ _ (by simp [p2_len]) (by simp [p2_len]), bsome, rem_nn (by omega) (by omega), bsome, q2.2.1, bsome, ok _ _ (by simp [p2_len]) (by simp [p2_len]), bsome, hw, bsome, d2, bsome]
  repeat (first | rw [ok _ _ (by simp [p2_len, p4_len, L1, L2]) (by simp [p2_len, p4_len, L1, L2]), bsome] | rw [q6.2.1, bsome] | rw [m2, bsome] | rw [q7.2.1, bsome] | rw [q3.2.1, bsome] | rw [q4.2.1, bsome] | rw [q5.2.1, bsome])
  simp [jn]
theorem refZn_zw (z : Int) (h1 : -900 ≤ z) (h2 : z ≤ 900) : refZn (zw z) = some z := by
  have hz : 0 ≤ (if z < 0 then -z else z) ∧ (if z < 0 then -z else z) ≤ 900 := by split <;> omega
  unfold zw
  generalize hZ : (if z < 0 then -z else z) = Z at *
  have q1 := two (x := Z / 60) (by omega) (by omega)
  have q2 := two (x := Z % 60) (by omega) (by omega)
  obtain ⟨a, b, hab⟩ := len2 (p2_len (Z / 60).toNat)
  obtain ⟨c, d, hcd⟩ := len2 (p2_len (Z % 60).toNat)
  rw [hab] at q1 ⊢
  rw [hcd] at q2 ⊢
  generalize hs : (if z < 0 then (45 : UInt8) else 43) = s
  have hs' : s = 43 ∨ s = 45 := by rw [← hs]; split <;> simp
  unfold refZn
  rw [if_neg (by simp)]
  have t1 : (List.take 3 (s :: ([a, b] ++ [c, d]))).drop 1 = [a, b] := rfl
  have t2 : (s :: ([a, b] ++ [c, d])).drop 3 = [c, d] := rfl
  have t3 : (s :: ([a, b] ++ [c, d]))[0]? = some s := rfl
  rw [t1, t2, t3, q1.2.2.2, q2.2.2.2]
  simp only [Option.some.injEq]
  rw [if_pos ⟨rfl, hs', q1.2.2.1, q2.2.2.1, by omega⟩]
  congr 1
  by_cases h : z < 0
  · rw [if_pos h] at hs hZ
    rw [if_pos hs.symm]; omega
  · rw [if_neg h] at hs hZ
    rw [if_neg (by rw [← hs]; decide)]; omega
theorem Parse_text (p : DT) (h : okD p) : dates_Parse (jn [32] (wds p)) = some (p, (0, 0)) := by
  obtain ⟨h1, h2, h3, h4, h5, h6, h7⟩ := id h
  have hm := ml_bd (y := p.1) h2.1 h2.2
  have hz : 0 ≤ (if p.2.2.2.2.2.2 < 0 then -p.2.2.2.2.2.2 else p.2.2.2.2.2.2) ∧ (if p.2.2.2.2.2.2 < 0 then -p.2.2.2.2.2.2 else p.2.2.2.2.2.2) ≤ 900 := by split <;> omega
  have q1 := two (x := (if p.2.2.2.2.2.2 < 0 then -p.2.2.2.2.2.2 else p.2.2.2.2.2.2) / 60) (by omega) (by omega)
  have q2 := two (x := (if p.2.2.2.2.2.2 < 0 then -p.2.2.2.2.2.2 else p.2.2.2.2.2.2) % 60) (by omega) (by omega)
  have q3 := two h4.1 (by omega)
  have q4 := two h5.1 (by omega)
  have q5 := two h6.1 (by omega)
  have q6 := two (x := p.2.2.1) (by omega) (by omega)
  have q7 := four (x := p.1) (by omega) (by omega)
  have w1 := Int.emod_nonneg (dn p.1 p.2.1 p.2.2.1 + 4) (by decide : (7 : Int) ≠ 0)
  have w2 := Int.emod_lt_of_pos (dn p.1 p.2.1 p.2.2.1 + 4) (by decide : (0 : Int) < 7)
  have d1 := day_fact ⟨((dn p.1 p.2.1 p.2.2.1 + 4) % 7).toNat, by omega⟩
  have m1 := mon_fact ⟨(p.2.1 - 1).toNat, by omega⟩
  have hzn := refZn_zw p.2.2.2.2.2.2 h7.1 h7.2
  have em : (((p.2.1 - 1).toNat + 1 : Nat) : Int) = p.2.1 := by omega
  simp only [em] at m1
  simp only at d1
  have zl : (zw p.2.2.2.2.2.2).length = 5 := by unfold zw; simp [p2_len]
  have tl : (tw p.2.2.2.1 p.2.2.2.2.1 p.2.2.2.2.2.1).length = 8 := by unfold tw; simp [p2_len]
  have hsp : spW [] (jn [32] (wds p)) = wds p := spW_jn _ (fun w hw => by
    unfold wds at hw
    simp only [List.mem_cons, List.not_mem_nil, or_false] at hw
    rcases hw with rfl | rfl | rfl | rfl | rfl | rfl
    · refine ⟨by simp, fun c hc => ?_⟩
      rcases List.mem_append.1 hc with hc | hc
      · exact d1.2.2.2 c hc
      · simp at hc; subst hc; decide
    · exact ⟨by simp [p2], dg_nb q6.2.2.1⟩
    · refine ⟨fun e => ?_, m1.2.2.2⟩
      have := m1.2.1; rw [e] at this; cases this
    · exact ⟨by simp [p4], dg_nb q7.2.2.1⟩
    · refine ⟨by simp [tw, p2], fun c hc => ?_⟩
      unfold tw at hc
      rcases List.mem_append.1 hc with hc | hc
      · exact dg_nb q3.2.2.1 c hc
      · rcases List.mem_cons.1 hc with rfl | hc
        · decide
        · rcases List.mem_append.1 hc with hc | hc
          · exact dg_nb q4.2.2.1 c hc
          · rcases List.mem_cons.1 hc with rfl | hc
            · decide
            · exact dg_nb q5.2.2.1 c hc
    · refine ⟨by simp [zw], fun c hc => ?_⟩
      unfold zw at hc
      rcases List.mem_cons.1 hc with rfl | hc
      · split <;> decide
      · rcases List.mem_append.1 hc with hc | hc
        · exact dg_nb q1.2.2.1 c hc
        · exact dg_nb q2.2.2.1 c hc)
  have hlen : (jn [32] (wds p)).length ≤ 4000 := by
    unfold wds
    simp only [jn, List.length_append, List.length_cons, List.length_nil, p2_len, p4_len, d1.2.1, m1.2.1, zl, tl]
    decide
  have hck : CK (tw p.2.2.2.1 p.2.2.2.2.1 p.2.2.2.2.2.1) p.2.2.2.1 p.2.2.2.2.1 p.2.2.2.2.2.1 := by
    have := CK.three q3.2.2.1 rfl q4.2.2.1 rfl q5.2.2.1 rfl
    rw [q3.2.2.2, q4.2.2.2, q5.2.2.2] at this
    exact this
  obtain ⟨v, z1, z2⟩ := zone_ok (zw p.2.2.2.2.2.2)
  rw [hzn] at z1
  have z3 := z2 _ hzn
  subst z3
  have na : dates_number (p2 p.2.2.1.toNat) (min (max ((p2 p.2.2.1.toNat).length : Int) 1) 2) = some (p.2.2.1, true) := by
    have := number_ok (d := min (max ((p2 p.2.2.1.toNat).length : Int) 1) 2) q6.2.2.1 (by rw [p2_len]; decide) (by rw [p2_len]; decide) (by rw [p2_len]; decide)
    rw [this, q6.2.2.2]
  have nc : dates_number (p4 p.1.toNat) 4 = some (p.1, true) := by
    have := number_ok (d := 4) q7.2.2.1 (by rw [p4_len]; decide) (by rw [p4_len]; decide) (by rw [p4_len]; decide)
    rw [this, q7.2.2.2]
  have hread : dates_read (wds p) = some ((p.1, p.2.1, p.2.2.1, p.2.2.2.1, p.2.2.2.2.1, p.2.2.2.2.2.1, p.2.2.2.2.2.2), true) := by
    unfold wds
    rw [read_day (by rw [d1.2.1]; decide), if_pos d1.2.2.1, tlP_eq na nc (clock_ok hck) z1, m1.2.2.1, decide_eq_true ⟨by omega, rfl, rfl, rfl, rfl⟩]
  unfold dates_Parse
  rw [if_neg (by omega), Fields_ok _ (by omega), bsome, hsp, hread, bsome]
  simp only [if_true]
  rw [show ((p.1, p.2.1, p.2.2.1, p.2.2.2.1, p.2.2.2.2.1, p.2.2.2.2.2.1, p.2.2.2.2.2.2) : DT) = p from rfl, Validate_ok, if_pos h, bsome]
  rfl
theorem law_Text (p : DT) : L_DatesTextMatchesSpec p = some true := by
  unfold L_DatesTextMatchesSpec
  rw [dates_example, bsome, if_pos rfl, show ((p.1, p.2.1, p.2.2.1, p.2.2.2.1, p.2.2.2.2.1, p.2.2.2.2.2.1, p.2.2.2.2.2.2) : DT) = p from rfl]
  by_cases h : okD p
  · rw [Print_ok p h, bsome]
    simp only
    rw [DateFault_ok, if_pos h, bsome]
    simp only [if_true]
    rw [Parse_text p h, bsome]
    simp only [if_true]
    rw [Text_ok p h, bsome]
    simp only [if_true, and_self, decide_true, bsome]
  · have hp : dates_Print p = some ([], (3, -3)) := by
      unfold dates_Print
      rw [show ((p.1, p.2.1, p.2.2.1, p.2.2.2.1, p.2.2.2.2.1, p.2.2.2.2.2.1, p.2.2.2.2.2.2) : DT) = p from rfl, Weekday_ok, if_neg h]; rfl
    rw [hp, bsome]
    simp only
    rw [DateFault_ok, if_neg h, bsome]
    rfl
end Go.Ph.Pf
