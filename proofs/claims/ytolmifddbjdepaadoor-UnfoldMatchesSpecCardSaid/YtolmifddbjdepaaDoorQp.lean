/-
  Quoted bytes in plain Lean: the encoding, the lenient decoding, that the second undoes the first. No program in sight.
-/
import Derived.Test.YtolmifddbjdepaaDoorOps
set_option linter.unusedVariables false
set_option linter.unusedSimpArgs false
namespace Go.Ph.Qp
open Go

def digs : List UInt8 := [48, 49, 50, 51, 52, 53, 54, 55, 56, 57, 65, 66, 67, 68, 69, 70]
def dig (n : Nat) : UInt8 := digs.getD (n % 16) 0
/-- the value of a digit of either case -/
def hexV (c : UInt8) : Option Nat :=
  if 48 ≤ c.toNat ∧ c.toNat ≤ 57 then some (c.toNat - 48) else if 65 ≤ c.toNat ∧ c.toNat ≤ 70 then some (c.toNat - 55) else if 97 ≤ c.toNat ∧ c.toNat ≤ 102 then some (c.toNat - 87) else none
theorem hexV_lt {c : UInt8} {x : Nat} (h : hexV c = some x) : x < 16 := by
  unfold hexV at h
  split at h
  · cases h; omega
  · split at h
    · cases h; omega
    · split at h
      · cases h; omega
      · cases h
theorem hexV_dig (n : Nat) : hexV (dig n) = some (n % 16) := by
  unfold dig
  have h : ∀ k, k < 16 → hexV (digs.getD k 0) = some k := by decide
  exact h _ (Nat.mod_lt _ (by decide))
theorem dig_ne (n : Nat) : dig n ≠ 10 ∧ dig n ≠ 61 ∧ dig n ≠ 32 ∧ dig n ≠ 9 ∧ dig n ≠ 13 ∧ 33 ≤ (dig n).toNat ∧ (dig n).toNat ≤ 126 := by
  unfold dig
  have h : ∀ k, k < 16 → digs.getD k 0 ≠ 10 ∧ digs.getD k 0 ≠ 61 ∧ digs.getD k 0 ≠ 32 ∧ digs.getD k 0 ≠ 9 ∧ digs.getD k 0 ≠ 13 ∧ 33 ≤ (digs.getD k 0).toNat ∧ (digs.getD k 0).toNat ≤ 126 := by decide
  exact h _ (Nat.mod_lt _ (by decide))
abbrev bl (c : UInt8) : Prop := c.toNat = 32 ∨ c.toNat = 9
/-- a line ends here -/
abbrev lineAt (l : List UInt8) : Prop := l.take 2 = [13, 10]
theorem lineAt_iff {l : List UInt8} : lineAt l ↔ ∃ r, l = 13 :: 10 :: r := by
  constructor
  · intro h
    cases l with
    | nil => cases h
    | cons a l => cases l with
      | nil =>
        have := congrArg List.length (show [a] = [13, 10] from h)
        simp at this
      | cons b r =>
        have h' : [a, b] = [13, 10] := h
        simp only [List.cons.injEq, and_true] at h'
        exact ⟨r, by rw [h'.1, h'.2]⟩
  · rintro ⟨r, rfl⟩; rfl
/-- a byte that stands for itself -/
abbrev lit (c : UInt8) (r : List UInt8) : Prop := (33 ≤ c.toNat ∧ c.toNat ≤ 126 ∧ c.toNat ≠ 61) ∨ (bl c ∧ ¬ (r = [] ∨ lineAt r))
def hex (c : UInt8) : List UInt8 := [61, dig (c.toNat / 16), dig c.toNat]
def sg (c : UInt8) (r : List UInt8) : List UInt8 := if lit c r then [c] else hex c
theorem sg_len (c : UInt8) (r : List UInt8) : 1 ≤ (sg c r).length ∧ (sg c r).length ≤ 3 := by
  unfold sg hex; split <;> simp
def most (r : List UInt8) : Nat := if r ≠ [] ∧ ¬ lineAt r then 75 else 76
def encF : Nat → Nat → List UInt8 → List UInt8
  | 0, _, _ => []
  | _ + 1, _, [] => []
  | f + 1, col, c :: r =>
    if lineAt (c :: r) then 13 :: 10 :: encF f 0 (r.drop 1)
    else if most r < col + (sg c r).length then [61, 13, 10] ++ (sg c r ++ encF f (sg c r).length r) else sg c r ++ encF f (col + (sg c r).length) r
theorem encF_more : ∀ (f g col : Nat) (l : List UInt8), l.length ≤ f → l.length ≤ g → encF f col l = encF g col l := by
  intro f
  induction f with
  | zero =>
    intro g col l hf _
    obtain rfl := List.eq_nil_of_length_eq_zero (Nat.le_zero.1 hf)
    cases g <;> rfl
  | succ f ih =>
    intro g col l hf hg
    cases l with
    | nil => cases g <;> rfl
    | cons c r =>
      cases g with
      | zero => simp at hg
      | succ g =>
        simp only [List.length_cons] at hf hg
        simp only [encF]
        rw [ih g 0 (r.drop 1) (by rw [List.length_drop]; omega) (by rw [List.length_drop]; omega), ih g _ r (by omega) (by omega), ih g _ r (by omega) (by omega)]
def enc (col : Nat) (l : List UInt8) : List UInt8 := encF l.length col l
theorem enc_nil (col : Nat) : enc col [] = [] := rfl
theorem enc_line (col : Nat) (r : List UInt8) : enc col (13 :: 10 :: r) = 13 :: 10 :: enc 0 r := by
  unfold enc
  simp only [List.length_cons, encF]
  rw [if_pos (show lineAt (13 :: 10 :: r) from rfl), List.drop_one, List.tail_cons, encF_more _ r.length 0 r (by omega) (Nat.le_refl _)]
theorem enc_cons {col : Nat} {c : UInt8} {r : List UInt8} (h : ¬ lineAt (c :: r)) : enc col (c :: r) = if most r < col + (sg c r).length then [61, 13, 10] ++ (sg c r ++ enc (sg c r).length r) else sg c r ++ enc (col + (sg c r).length) r := by
  unfold enc
  simp only [List.length_cons, encF]
  rw [if_neg h]
theorem enc_len : ∀ (n col : Nat) (l : List UInt8), l.length ≤ n → (enc col l).length ≤ 6 * l.length := by
  intro n
  induction n with
  | zero => intro col l h; obtain rfl := List.eq_nil_of_length_eq_zero (Nat.le_zero.1 h); simp [enc_nil]
  | succ n ih =>
    intro col l h
    cases l with
    | nil => simp [enc_nil]
    | cons c r =>
      simp only [List.length_cons] at h
      by_cases hl : lineAt (c :: r)
      · obtain ⟨r', hr⟩ := lineAt_iff.1 hl
        cases hr
        simp only [List.length_cons] at h
        have := ih 0 r' (by omega)
        rw [enc_line]
        simp only [List.length_cons]; omega
      · rw [enc_cons hl]
        have h1 := sg_len c r
        have h2 := ih (sg c r).length r (by omega)
        have h3 := ih (col + (sg c r).length) r (by omega)
        split
        · simp only [List.length_append, List.length_cons, List.length_nil]; omega
        · simp only [List.length_append, List.length_cons]; omega

/-! lenient decoding -/
def esc (l : List UInt8) : Option UInt8 :=
  if l[0]? = some 61 then match (l[1]?).bind hexV, (l[2]?).bind hexV with
    | some x, some y => some (UInt8.ofNat (16 * x + y))
    | _, _ => none
  else none
def plainF : Nat → List UInt8 → List UInt8
  | 0, _ => []
  | _ + 1, [] => []
  | f + 1, c :: r => match esc (c :: r) with
    | some x => x :: plainF f (r.drop 2)
    | none => c :: plainF f r
theorem plainF_more : ∀ (f g : Nat) (l : List UInt8), l.length ≤ f → l.length ≤ g → plainF f l = plainF g l := by
  intro f
  induction f with
  | zero =>
    intro g l hf _
    obtain rfl := List.eq_nil_of_length_eq_zero (Nat.le_zero.1 hf)
    cases g <;> rfl
  | succ f ih =>
    intro g l hf hg
    cases l with
    | nil => cases g <;> rfl
    | cons c r =>
      cases g with
      | zero => simp at hg
      | succ g =>
        simp only [List.length_cons] at hf hg
        simp only [plainF]
        rw [ih g (r.drop 2) (by rw [List.length_drop]; omega) (by rw [List.length_drop]; omega), ih g r (by omega) (by omega)]
def plain (l : List UInt8) : List UInt8 := plainF l.length l
theorem plain_nil : plain [] = [] := rfl
theorem plain_esc {c x : UInt8} {r : List UInt8} (h : esc (c :: r) = some x) : plain (c :: r) = x :: plain (r.drop 2) := by
  unfold plain
  simp only [List.length_cons, plainF, h]
  rw [plainF_more r.length (r.drop 2).length _ (by rw [List.length_drop]; omega) (Nat.le_refl _)]
theorem plain_lit {c : UInt8} {r : List UInt8} (h : esc (c :: r) = none) : plain (c :: r) = c :: plain r := by
  unfold plain
  simp only [List.length_cons, plainF, h]
theorem plain_len : ∀ (n : Nat) (l : List UInt8), l.length ≤ n → (plain l).length ≤ l.length := by
  intro n
  induction n with
  | zero => intro l h; obtain rfl := List.eq_nil_of_length_eq_zero (Nat.le_zero.1 h); simp [plain_nil]
  | succ n ih =>
    intro l h
    cases l with
    | nil => simp [plain_nil]
    | cons c r =>
      simp only [List.length_cons] at h
      cases he : esc (c :: r) with
      | none =>
        rw [plain_lit he]
        have := ih r (by omega)
        simp only [List.length_cons]; omega
      | some x =>
        rw [plain_esc he]
        have := ih (r.drop 2) (by rw [List.length_drop]; omega)
        rw [List.length_drop] at this
        simp only [List.length_cons]; omega
/-- without the blanks at the end -/
def trimR (l : List UInt8) : List UInt8 := (l.reverse.dropWhile (fun c => decide (bl c))).reverse
/-- the length of the first line, with its end -/
def nlen (l : List UInt8) : Nat := min (l.findIdx (fun c => decide (c = 10)) + 1) l.length
def chop (x : UInt8) (l : List UInt8) : List UInt8 := if l.getLast? = some x then l.dropLast else l
/-- a line without its end -/
def body (s : List UInt8) : List UInt8 := if s.getLast? = some 10 then chop 13 s.dropLast else s
def one (s : List UInt8) : List UInt8 := if (trimR (body s)).getLast? = some 61 then plain (trimR (body s)).dropLast else plain (trimR (body s)) ++ s.drop (body s).length
def lenF : Nat → List UInt8 → List UInt8
  | 0, _ => []
  | f + 1, l => if l = [] then [] else one (l.take (nlen l)) ++ lenF f (l.drop (nlen l))
theorem nlen_pos {l : List UInt8} (h : l ≠ []) : 1 ≤ nlen l ∧ nlen l ≤ l.length := by
  have := List.length_pos_iff.2 h
  unfold nlen; omega
theorem lenF_more : ∀ (f g : Nat) (l : List UInt8), l.length ≤ f → l.length ≤ g → lenF f l = lenF g l := by
  intro f
  induction f with
  | zero =>
    intro g l hf _
    obtain rfl := List.eq_nil_of_length_eq_zero (Nat.le_zero.1 hf)
    cases g <;> simp [lenF]
  | succ f ih =>
    intro g l hf hg
    by_cases hl : l = []
    · subst hl; cases g <;> simp [lenF]
    · have hn := nlen_pos hl
      cases g with
      | zero => exact absurd (List.eq_nil_of_length_eq_zero (Nat.le_zero.1 hg)) hl
      | succ g =>
        simp only [lenF, if_neg hl]
        rw [ih g _ (by rw [List.length_drop]; omega) (by rw [List.length_drop]; omega)]
def lenient (l : List UInt8) : List UInt8 := lenF l.length l
theorem lenient_nil : lenient [] = [] := rfl
theorem lenient_cons {l : List UInt8} (h : l ≠ []) : lenient l = one (l.take (nlen l)) ++ lenient (l.drop (nlen l)) := by
  have hn := nlen_pos h
  unfold lenient
  cases hl : l.length with
  | zero => exact absurd (List.eq_nil_of_length_eq_zero hl) h
  | succ n =>
    rw [lenF, if_neg h, lenF_more n (l.drop (nlen l)).length _ (by rw [List.length_drop]; omega) (Nat.le_refl _)]
theorem nlen_nl {P Y : List UInt8} (h : ∀ c ∈ P, c ≠ 10) : nlen (P ++ 10 :: Y) = P.length + 1 := by
  unfold nlen
  have : (P ++ 10 :: Y).findIdx (fun c => decide (c = 10)) = P.length := by
    induction P with
    | nil => simp [List.findIdx_cons]
    | cons a P ih =>
      rw [List.cons_append, List.findIdx_cons, decide_eq_false (h a List.mem_cons_self)]
      simp only [cond_false, List.length_cons]
      rw [ih (fun c hc => h c (List.mem_cons_of_mem _ hc))]
  rw [this]; simp
theorem nlen_no {P : List UInt8} (h : ∀ c ∈ P, c ≠ 10) : nlen P = P.length := by
  unfold nlen
  have : P.findIdx (fun c => decide (c = 10)) = P.length := by
    rw [List.findIdx_eq_length]
    intro c hc; exact decide_eq_false (h c hc)
  rw [this]; omega
theorem body_crlf (P : List UInt8) : body (P ++ [13, 10]) = P := by
  unfold body chop
  rw [show P ++ [13, 10] = (P ++ [13]) ++ [10] by simp]
  simp
theorem body_no {P : List UInt8} (h : ∀ c ∈ P, c ≠ 10) : body P = P := by
  unfold body
  rw [if_neg]
  intro hl
  exact h 10 (List.mem_of_getLast? hl) rfl
/-- what ends with no blank is not trimmed -/
theorem trimR_snoc {P : List UInt8} {c : UInt8} (h : ¬ bl c) : trimR (P ++ [c]) = P ++ [c] := by
  unfold trimR
  rw [List.reverse_append, List.reverse_singleton, List.singleton_append, List.dropWhile_cons_of_neg (by simpa using h), List.reverse_cons, List.reverse_reverse]
theorem trimR_nil : trimR [] = [] := rfl
/-- units of a line: a byte, and whether it is written with digits -/
abbrev Un := UInt8 × Bool
def ue (u : Un) : List UInt8 := if u.2 then hex u.1 else [u.1]
def okU (u : Un) : Prop := u.2 = false → u.1 ≠ 61 ∧ u.1 ≠ 10
theorem esc_hex (c : UInt8) (r : List UInt8) : esc (hex c ++ r) = some c := by
  have h1 := hexV_dig (c.toNat / 16)
  have h2 := hexV_dig c.toNat
  have hlt := c.toNat_lt
  unfold esc hex
  simp only [List.cons_append, List.nil_append, List.getElem?_cons_zero, List.getElem?_cons_succ, if_true, Option.bind_some, h1, h2]
  congr 1
  apply UInt8.toNat_inj.1
  rw [UInt8.toNat_ofNat']
  omega
theorem plain_units : ∀ us : List Un, (∀ u ∈ us, okU u) → plain (us.flatMap ue) = us.map (·.1) := by
  intro us
  induction us with
  | nil => intro _; rfl
  | cons u us ih =>
    intro h
    have h0 := h u List.mem_cons_self
    have hr := ih (fun x hx => h x (List.mem_cons_of_mem _ hx))
    obtain ⟨c, b⟩ := u
    rw [List.flatMap_cons, List.map_cons]
    cases b with
    | true =>
      show plain (hex c ++ _) = _
      have he := esc_hex c (us.flatMap ue)
      rw [show hex c ++ us.flatMap ue = 61 :: ([dig (c.toNat / 16), dig c.toNat] ++ us.flatMap ue) by rfl] at he ⊢
      rw [plain_esc he, ← hr]; rfl
    | false =>
      show plain (c :: us.flatMap ue) = _
      have hne := (h0 rfl).1
      rw [plain_lit (by unfold esc; rw [if_neg (by simpa using hne)]), hr]
theorem units_no10 {us : List Un} (h : ∀ u ∈ us, okU u) : ∀ c ∈ us.flatMap ue, c ≠ 10 := by
  intro c hc
  obtain ⟨u, hu, hcu⟩ := List.mem_flatMap.1 hc
  obtain ⟨a, b⟩ := u
  cases b with
  | true =>
    have h1 := dig_ne (a.toNat / 16)
    have h2 := dig_ne a.toNat
    have hcu : c ∈ [61, dig (a.toNat / 16), dig a.toNat] := hcu
    rcases List.mem_cons.1 hcu with rfl | hcu
    · decide
    · rcases List.mem_cons.1 hcu with rfl | hcu
      · exact h1.1
      · obtain rfl := List.mem_singleton.1 hcu
        exact h2.1
  | false =>
    have hcu : c ∈ [a] := hcu
    obtain rfl := List.mem_singleton.1 hcu
    exact (h _ hu rfl).2
/-- the last unit ends with no blank and no equals sign -/
def endU (us : List Un) : Prop := ∀ u, us.getLast? = some u → u.2 = false → ¬ bl u.1
theorem last_units {us : List Un} (h : ∀ u ∈ us, okU u) (he : endU us) (hne : us ≠ []) : ∃ P c, us.flatMap ue = P ++ [c] ∧ ¬ bl c ∧ c ≠ 61 := by
  obtain ⟨vs, u, rfl⟩ : ∃ vs u, us = vs ++ [u] := ⟨us.dropLast, us.getLast hne, (List.dropLast_concat_getLast hne).symm⟩
  obtain ⟨a, b⟩ := u
  rw [List.flatMap_append]
  cases b with
  | true =>
    have h2 := dig_ne a.toNat
    refine ⟨vs.flatMap ue ++ [61, dig (a.toNat / 16)], dig a.toNat, by simp [ue, hex], ?_, h2.2.1⟩
    omega
  | false =>
    refine ⟨vs.flatMap ue, a, by simp [ue], he (a, false) (by simp) rfl, (h (a, false) (by simp) rfl).1⟩
/-- THE LAW: what is encoded is decoded -/
theorem lenient_enc_us : ∀ (n col : Nat) (l : List UInt8) (us : List Un), l.length ≤ n → (∀ u ∈ us, okU u) → ((l = [] ∨ lineAt l) → endU us) → lenient (us.flatMap ue ++ enc col l) = us.map (·.1) ++ l := by
  have fin : ∀ (us : List Un), (∀ u ∈ us, okU u) → endU us → trimR (us.flatMap ue) = us.flatMap ue ∧ (us.flatMap ue).getLast? ≠ some 61 := by
    intro us hok he
    by_cases hne : us = []
    · subst hne; exact ⟨rfl, by simp⟩
    · obtain ⟨P, c, hP, hb, h61⟩ := last_units hok he hne
      rw [hP]
      exact ⟨trimR_snoc hb, by simpa using h61⟩
  intro n
  induction n with
  | zero =>
    intro col l us h hok he
    obtain rfl := List.eq_nil_of_length_eq_zero (Nat.le_zero.1 h)
    rw [enc_nil, List.append_nil, List.append_nil]
    obtain ⟨h1, h2⟩ := fin us hok (he (.inl rfl))
    have hno := units_no10 hok
    by_cases hn : us.flatMap ue = []
    · have hp := plain_units us hok
      rw [hn] at hp ⊢
      rw [lenient_nil, ← hp]; rfl
    · rw [lenient_cons hn, nlen_no hno, List.take_length, List.drop_length, lenient_nil, List.append_nil, one, body_no hno, h1, if_neg h2, List.drop_length, List.append_nil, plain_units us hok]
  | succ n ih =>
    intro col l us h hok he
    cases l with
    | nil =>
      rw [enc_nil, List.append_nil, List.append_nil]
      obtain ⟨h1, h2⟩ := fin us hok (he (.inl rfl))
      have hno := units_no10 hok
      by_cases hn : us.flatMap ue = []
      · have hp := plain_units us hok
        rw [hn] at hp ⊢
        rw [lenient_nil, ← hp]; rfl
      · rw [lenient_cons hn, nlen_no hno, List.take_length, List.drop_length, lenient_nil, List.append_nil, one, body_no hno, h1, if_neg h2, List.drop_length, List.append_nil, plain_units us hok]
    | cons c r =>
      simp only [List.length_cons] at h
      by_cases hl : lineAt (c :: r)
      · obtain ⟨r', hr⟩ := lineAt_iff.1 hl
        cases hr
        simp only [List.length_cons] at h
        obtain ⟨h1, h2⟩ := fin us hok (he (.inr hl))
        have hno : ∀ x ∈ us.flatMap ue ++ [13], x ≠ 10 := by
          intro x hx
          rcases List.mem_append.1 hx with hx | hx
          · exact units_no10 hok x hx
          · obtain rfl := List.mem_singleton.1 hx; decide
        rw [enc_line, show us.flatMap ue ++ 13 :: 10 :: enc 0 r' = (us.flatMap ue ++ [13]) ++ 10 :: enc 0 r' by simp, lenient_cons (by simp), nlen_nl hno]
        have ht : ((us.flatMap ue ++ [13]) ++ 10 :: enc 0 r').take ((us.flatMap ue ++ [13]).length + 1) = us.flatMap ue ++ [13, 10] := by
          rw [List.take_append, List.take_of_length_le (by omega), Nat.add_sub_cancel_left]; simp
        have hd : ((us.flatMap ue ++ [13]) ++ 10 :: enc 0 r').drop ((us.flatMap ue ++ [13]).length + 1) = enc 0 r' := by
          rw [List.drop_append, List.drop_eq_nil_of_le (by omega), Nat.add_sub_cancel_left]; simp
        have ih0 := ih 0 r' [] (by omega) (fun u hu => by cases hu) (fun _ u hu => by cases hu)
        simp only [List.flatMap_nil, List.nil_append, List.map_nil] at ih0
        rw [ht, hd, one, body_crlf, h1, if_neg h2, plain_units us hok, ih0, List.drop_left]
        simp
      · have hsg : ∃ b, sg c r = ue (c, b) ∧ okU (c, b) ∧ ((r = [] ∨ lineAt r) → b = false → ¬ bl c) := by
          unfold sg
          by_cases hlit : lit c r
          · refine ⟨false, by rw [if_pos hlit]; rfl, fun _ => ?_, fun hr _ => ?_⟩
            · constructor
              · rintro rfl; revert hlit; simp [lit, bl]
              · rintro rfl; revert hlit; simp [lit, bl]
            · rcases hlit with h | h
              · omega
              · exact absurd hr h.2
          · exact ⟨true, by rw [if_neg hlit]; rfl, fun h => (by cases h), fun _ h => (by cases h)⟩
        obtain ⟨b, hb, hokb, heb⟩ := hsg
        rw [enc_cons hl, hb]
        split
        · -- a soft end of the line
          have hno : ∀ x ∈ us.flatMap ue ++ [61, 13], x ≠ 10 := by
            intro x hx
            rcases List.mem_append.1 hx with hx | hx
            · exact units_no10 hok x hx
            · rcases List.mem_cons.1 hx with rfl | hx
              · decide
              · obtain rfl := List.mem_singleton.1 hx; decide
          rw [show us.flatMap ue ++ ([61, 13, 10] ++ (ue (c, b) ++ enc (ue (c, b)).length r)) = (us.flatMap ue ++ [61, 13]) ++ 10 :: (ue (c, b) ++ enc (ue (c, b)).length r) by simp, lenient_cons (by simp), nlen_nl hno]
          have ht : ((us.flatMap ue ++ [61, 13]) ++ 10 :: (ue (c, b) ++ enc (ue (c, b)).length r)).take ((us.flatMap ue ++ [61, 13]).length + 1) = (us.flatMap ue ++ [61]) ++ [13, 10] := by
            rw [List.take_append, List.take_of_length_le (by omega), Nat.add_sub_cancel_left]; simp
          have hd : ((us.flatMap ue ++ [61, 13]) ++ 10 :: (ue (c, b) ++ enc (ue (c, b)).length r)).drop ((us.flatMap ue ++ [61, 13]).length + 1) = ue (c, b) ++ enc (ue (c, b)).length r := by
            rw [List.drop_append, List.drop_eq_nil_of_le (by omega), Nat.add_sub_cancel_left]; simp
          have ih1 := ih (ue (c, b)).length r [(c, b)] (by omega) (fun u hu => by obtain rfl := List.mem_singleton.1 hu; exact hokb) (fun hr u hu hf => by cases hu; exact heb hr hf)
          simp only [List.flatMap_cons, List.flatMap_nil, List.append_nil, List.map_cons, List.map_nil, List.singleton_append] at ih1
          rw [ht, hd, one, body_crlf, trimR_snoc (by decide), if_pos (by simp), List.dropLast_concat, plain_units us hok, ih1]
        · have ih1 := ih (col + (ue (c, b)).length) r (us ++ [(c, b)]) (by omega) (fun u hu => by
            rcases List.mem_append.1 hu with hu | hu
            · exact hok u hu
            · obtain rfl := List.mem_singleton.1 hu; exact hokb) (fun hr u hu hf => by
            rw [List.getLast?_concat] at hu
            cases hu; exact heb hr hf)
          rw [List.flatMap_append] at ih1
          simp only [List.flatMap_cons, List.flatMap_nil, List.append_nil, List.map_append, List.map_cons, List.map_nil, List.append_assoc, List.singleton_append] at ih1
          exact ih1
theorem lenient_enc (l : List UInt8) : lenient (enc 0 l) = l := by
  have := lenient_enc_us l.length 0 l [] (Nat.le_refl _) (fun u hu => by cases hu) (fun _ u hu => by cases hu)
  simpa using this

/-! the lines of an encoding -/
inductive OkL : Nat → UInt8 → List UInt8 → Prop
  | nil {col : Nat} {p : UInt8} (h1 : col ≤ 76) (h2 : 0 < col → ¬ bl p) : OkL col p []
  | line {col : Nat} {p : UInt8} {r : List UInt8} (h1 : col ≤ 76) (h2 : 0 < col → ¬ bl p) (h : OkL 0 10 r) : OkL col p (13 :: 10 :: r)
  | chr {col : Nat} {p c : UInt8} {r : List UInt8} (h1 : c.toNat ≠ 13) (h2 : (32 ≤ c.toNat ∧ c.toNat ≤ 126) ∨ c.toNat = 9) (h : OkL (col + 1) c r) : OkL col p (c :: r)
theorem okL_hex {col : Nat} {p c : UInt8} {X : List UInt8} (h : ∀ q, ¬ bl q → OkL (col + 3) q X) : OkL col p (hex c ++ X) := by
  have h1 := dig_ne (c.toNat / 16)
  have h2 := dig_ne c.toNat
  refine .chr (by decide) (.inl (by decide)) (.chr ?_ (.inl ?_) (.chr ?_ (.inl ?_) (h _ ?_)))
  · exact fun e => h1.2.2.2.2.1 (UInt8.toNat_inj.1 e)
  · omega
  · exact fun e => h2.2.2.2.2.1 (UInt8.toNat_inj.1 e)
  · omega
  · omega
theorem okL_sg {col : Nat} {p c : UInt8} {r X : List UInt8} (h : ∀ q, ((r = [] ∨ lineAt r) → ¬ bl q) → OkL (col + (sg c r).length) q X) : OkL col p (sg c r ++ X) := by
  unfold sg at h ⊢
  by_cases hl : lit c r
  · rw [if_pos hl] at h ⊢
    refine .chr ?_ ?_ (h c ?_)
    · rcases hl with h | h <;> omega
    · rcases hl with h | h
      · exact .inl (by omega)
      · rcases h.1 with h | h
        · exact .inl (by omega)
        · exact .inr h
    · intro hr
      rcases hl with h | h
      · omega
      · exact absurd hr h.2
  · rw [if_neg hl] at h ⊢
    exact okL_hex (fun q hq => h q (fun _ => hq))
theorem most_le (r : List UInt8) : 75 ≤ most r ∧ most r ≤ 76 := by unfold most; split <;> omega
theorem okL_enc : ∀ (n col : Nat) (p : UInt8) (l : List UInt8), l.length ≤ n → col ≤ most l → ((l = [] ∨ lineAt l) → 0 < col → ¬ bl p) → OkL col p (enc col l) := by
  intro n
  induction n with
  | zero =>
    intro col p l h hm he
    obtain rfl := List.eq_nil_of_length_eq_zero (Nat.le_zero.1 h)
    have := most_le []
    exact .nil (by omega) (he (.inl rfl))
  | succ n ih =>
    intro col p l h hm he
    cases l with
    | nil =>
      have := most_le []
      exact .nil (by omega) (he (.inl rfl))
    | cons c r =>
      simp only [List.length_cons] at h
      have hml := most_le (c :: r)
      by_cases hl : lineAt (c :: r)
      · obtain ⟨r', hr⟩ := lineAt_iff.1 hl
        cases hr
        simp only [List.length_cons] at h
        rw [enc_line]
        exact .line (by omega) (he (.inr hl)) (ih 0 10 r' (by omega) (Nat.zero_le _) (fun _ h => by omega))
      · rw [enc_cons hl]
        have hm75 : most (c :: r) = 75 := by unfold most; rw [if_pos ⟨by simp, hl⟩]
        have hsl := sg_len c r
        have hmr := most_le r
        split
        · refine .chr (by decide) (.inl (by decide)) (.line (by omega) (fun _ => by decide) ?_)
          have := okL_sg (col := 0) (p := 10) (c := c) (r := r) (X := enc (sg c r).length r) (fun q hq => by
            rw [Nat.zero_add]
            exact ih _ q r (by omega) (by omega) (fun hr _ => hq hr))
          exact this
        · exact okL_sg (fun q hq => ih _ q r (by omega) (by omega) (fun hr _ => hq hr))
/-! the units of a line -/
def lu : List UInt8 → List (List UInt8)
  | [] => []
  | c :: r => (if (33 ≤ c.toNat ∧ c.toNat ≤ 126 ∧ c.toNat ≠ 61) ∨ (bl c ∧ r ≠ []) then [c] else hex c) :: lu r
theorem lu_len (l : List UInt8) : (lu l).length = l.length := by
  induction l with
  | nil => rfl
  | cons c r ih => rw [lu, List.length_cons, ih, List.length_cons]
theorem lu_drop : ∀ (k : Nat) (l : List UInt8), (lu l).drop k = lu (l.drop k) := by
  intro k
  induction k with
  | zero => intro l; rfl
  | succ k ih => intro l; cases l with
    | nil => rfl
    | cons c r => exact ih r
theorem lu_sg {c : UInt8} {r r' : List UInt8} (h : (r = [] ∨ lineAt r) ↔ r' = []) : (if (33 ≤ c.toNat ∧ c.toNat ≤ 126 ∧ c.toNat ≠ 61) ∨ (bl c ∧ r' ≠ []) then [c] else hex c) = sg c r := by
  unfold sg
  have : ((33 ≤ c.toNat ∧ c.toNat ≤ 126 ∧ c.toNat ≠ 61) ∨ (bl c ∧ r' ≠ [])) ↔ lit c r := by
    unfold lit
    rw [h]
  by_cases hl : lit c r
  · rw [if_pos hl, if_pos (this.2 hl)]
  · rw [if_neg hl, if_neg (fun h => hl (this.1 h))]
/-! a line by its places -/
theorem trimR_blank {X Y : List UInt8} (h : ∀ c ∈ Y, bl c) : trimR (X ++ Y) = trimR X := by
  unfold trimR
  rw [List.reverse_append, List.dropWhile_append_of_pos (fun c hc => by simpa using h c (List.mem_reverse.1 hc))]
theorem take_snoc {B : List UInt8} {m : Nat} {c : UInt8} (h0 : 0 < m) (h : B[m - 1]? = some c) : B.take m = B.take (m - 1) ++ [c] := by
  obtain ⟨h1, h2⟩ := List.getElem?_eq_some_iff.1 h
  rw [show m = (m - 1) + 1 by omega, List.take_succ_eq_append_getElem h1, h2]; rfl
theorem trimR_take {B : List UInt8} {m : Nat} (hb : ∀ (j : Nat) (c : UInt8), m ≤ j → B[j]? = some c → bl c) (hl : m = 0 ∨ ∃ c, B[m - 1]? = some c ∧ ¬ bl c) : trimR B = B.take m := by
  have h1 : trimR B = trimR (B.take m) := by
    conv => lhs; rw [← List.take_append_drop m B]
    refine trimR_blank (fun c hc => ?_)
    obtain ⟨j, hj⟩ := List.mem_iff_getElem?.1 hc
    rw [List.getElem?_drop] at hj
    exact hb (m + j) c (by omega) hj
  rw [h1]
  rcases hl with h | ⟨c, hc, hn⟩
  · subst h; rfl
  · by_cases h0 : m = 0
    · subst h0; rfl
    · rw [take_snoc (by omega) hc, trimR_snoc hn]
theorem last_take {B : List UInt8} {m : Nat} {c : UInt8} (h0 : 0 < m) (h : B[m - 1]? = some c) : (B.take m).getLast? = some c ∧ (B.take m).dropLast = B.take (m - 1) := by
  rw [take_snoc h0 h]; simp
theorem last_take0 (B : List UInt8) : (B.take 0).getLast? = none := by simp
/-- the first line ends with the text -/
theorem nlen_at0 {t : List UInt8} (h : ∀ (j : Nat) (c : UInt8), t[j]? = some c → c ≠ 10) : nlen t = t.length ∧ body t = t := by
  have hh : ∀ c ∈ t, c ≠ 10 := fun c hc => by obtain ⟨j, hj⟩ := List.mem_iff_getElem?.1 hc; exact h j c hj
  exact ⟨nlen_no hh, body_no hh⟩
theorem nlen_at1 {t : List UInt8} {e : Nat} (h : ∀ (j : Nat) (c : UInt8), j < e → t[j]? = some c → c ≠ 10) (he : t[e]? = some 10) : nlen t = e + 1 ∧ body (t.take (e + 1)) = chop 13 (t.take e) := by
  obtain ⟨h1, h2⟩ := List.getElem?_eq_some_iff.1 he
  have hh : ∀ c ∈ t.take e, c ≠ 10 := fun c hc => by
    obtain ⟨j, hj⟩ := List.mem_iff_getElem?.1 hc
    rw [List.getElem?_take] at hj
    split at hj
    · exact h j c (by assumption) hj
    · cases hj
  have ht : t = t.take e ++ 10 :: t.drop (e + 1) := by
    conv => lhs; rw [← List.take_append_drop e t, List.drop_eq_getElem_cons h1, h2]
  have hl : (t.take e).length = e := by rw [List.length_take]; omega
  constructor
  · conv => lhs; rw [ht]
    rw [nlen_nl hh, hl]
  · have hs : t.take (e + 1) = t.take e ++ [10] := by rw [List.take_succ_eq_append_getElem h1, h2]
    rw [hs, body]
    simp
theorem chop_yes {B : List UInt8} {m : Nat} {x : UInt8} (h0 : 0 < m) (h : B[m - 1]? = some x) : chop x (B.take m) = B.take (m - 1) := by
  unfold chop
  obtain ⟨h1, h2⟩ := last_take h0 h
  rw [if_pos h1, h2]
theorem chop_no {B : List UInt8} {m : Nat} {x c : UInt8} (h0 : 0 < m) (h : B[m - 1]? = some c) (hc : c ≠ x) : chop x (B.take m) = B.take m := by
  unfold chop
  rw [if_neg]
  rw [(last_take h0 h).1]
  simpa using hc
theorem chop_zero (B : List UInt8) (x : UInt8) : chop x (B.take 0) = B.take 0 := by unfold chop; simp
def hexI (c : UInt8) : Int := match hexV c with | some x => (x : Int) | none => -1
theorem hexI_some {c : UInt8} {x : Nat} (h : hexV c = some x) : hexI c = (x : Int) := by unfold hexI; rw [h]
theorem hexI_none {c : UInt8} (h : hexV c = none) : hexI c = -1 := by unfold hexI; rw [h]
theorem hexI_nonneg (c : UInt8) : 0 ≤ hexI c ↔ ∃ x, hexV c = some x := by
  cases h : hexV c with
  | none => rw [hexI_none h]; simp
  | some x => rw [hexI_some h]; simp
theorem esc_some {a b : UInt8} {x y : Nat} {r : List UInt8} (ha : hexV a = some x) (hb : hexV b = some y) : esc (61 :: a :: b :: r) = some (UInt8.ofNat (16 * x + y)) := by
  unfold esc; simp [ha, hb]
theorem esc_not {c : UInt8} {r : List UInt8} (h : c ≠ 61) : esc (c :: r) = none := by
  unfold esc; rw [if_neg (by simpa using h)]
theorem esc_short {c : UInt8} {r : List UInt8} (h : r.length < 2) : esc (c :: r) = none := by
  unfold esc
  split
  · have : (c :: r)[2]? = none := by rw [List.getElem?_eq_none_iff]; simp; omega
    rw [this]
    cases ((c :: r)[1]?).bind hexV <;> rfl
  · rfl
theorem esc_bad {a b : UInt8} {c : UInt8} {r : List UInt8} (h : hexV a = none ∨ hexV b = none) : esc (c :: a :: b :: r) = none := by
  unfold esc
  split
  · simp only [List.getElem?_cons_succ, List.getElem?_cons_zero, Option.bind_some]
    rcases h with h | h
    · rw [h]
    · rw [h]; cases hexV a <;> rfl
  · rfl
theorem hexV_digs : ∀ k, k < 16 → hexV (digs.getD k 0) = some k ∧ hexV (digs.getD k 0 + (if 65 ≤ (digs.getD k 0).toNat then 32 else 0)) = some k := by decide
end Go.Ph.Qp
