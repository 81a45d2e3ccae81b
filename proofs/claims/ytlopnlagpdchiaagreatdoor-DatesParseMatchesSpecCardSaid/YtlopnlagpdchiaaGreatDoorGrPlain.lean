/-
  What readers perceive as characters, in plain Lean. No program in sight.
-/
import Derived.Test.YtlopnlagpdchiaaGreatDoorUtf
set_option linter.unusedVariables false
set_option linter.unusedSimpArgs false
namespace Go.Ph.Gr
open Go Go.Ph.Utf

def cls (n : Int) : Int :=
  if n = 13 then 1 else if n = 10 then 2
  else if (0 ≤ n ∧ n ≤ 31) ∨ (127 ≤ n ∧ n ≤ 159) then 3
  else if (768 ≤ n ∧ n ≤ 879) ∨ (6832 ≤ n ∧ n ≤ 6911) ∨ (7616 ≤ n ∧ n ≤ 7679) ∨ (8400 ≤ n ∧ n ≤ 8447) ∨ (65024 ≤ n ∧ n ≤ 65039) ∨ (65056 ≤ n ∧ n ≤ 65071) ∨ (127995 ≤ n ∧ n ≤ 127999) then 4
  else if n = 8205 then 5
  else if 127462 ≤ n ∧ n ≤ 127487 then 6
  else if 4352 ≤ n ∧ n ≤ 4447 then 7
  else if 4448 ≤ n ∧ n ≤ 4519 then 8
  else if 4520 ≤ n ∧ n ≤ 4607 then 9 else 0
def wid (n : Int) : Bool := decide ((4352 ≤ n ∧ n ≤ 4447) ∨ (11904 ≤ n ∧ n ≤ 42191) ∨ (44032 ≤ n ∧ n ≤ 55203) ∨ (63744 ≤ n ∧ n ≤ 64255) ∨ (65072 ≤ n ∧ n ≤ 65135) ∨ (65280 ≤ n ∧ n ≤ 65376) ∨ (65504 ≤ n ∧ n ≤ 65510) ∨ (127744 ≤ n ∧ n ≤ 129791) ∨ (131072 ≤ n ∧ n ≤ 262141))
/-- the first of some ranges that has a number -/
def inSp (c : Int) : List (Int × Int × Int) → Int × Bool
  | [] => (0, false)
  | (a, b, k) :: r => if a ≤ c ∧ c ≤ b then (k, true) else inSp c r
def clsTab : List (Int × Int × Int) := [(13, 13, 1), (10, 10, 2), (0, 31, 3), (127, 159, 3), (768, 879, 4), (6832, 6911, 4), (7616, 7679, 4), (8400, 8447, 4), (65024, 65039, 4), (65056, 65071, 4), (127995, 127999, 4), (8205, 8205, 5), (127462, 127487, 6), (4352, 4447, 7), (4448, 4519, 8), (4520, 4607, 9)]
def widTab : List (Int × Int × Int) := [(4352, 4447, 0), (11904, 42191, 0), (44032, 55203, 0), (63744, 64255, 0), (65072, 65135, 0), (65280, 65376, 0), (65504, 65510, 0), (127744, 129791, 0), (131072, 262141, 0)]
theorem inSp_cls (c : Int) : (inSp c clsTab).1 = cls c := by
  unfold clsTab cls
  simp only [inSp, apply_ite Prod.fst]
  repeat' split
  all_goals first | rfl | (exfalso; omega) | omega
theorem inSp_wid (c : Int) : (inSp c widTab).2 = wid c := by
  unfold widTab wid
  simp only [inSp, apply_ite Prod.snd]
  repeat' split
  all_goals first | (symm; exact decide_eq_true (by omega)) | (symm; exact decide_eq_false (by omega))

/-- does a character continue the piece of the one before it: by the classes -/
def contC (a b fl : Int) : Bool :=
  if a = 1 ∧ b = 2 then true
  else if (1 ≤ a ∧ a ≤ 3) ∨ (1 ≤ b ∧ b ≤ 3) then false
  else if b = 4 ∨ b = 5 then true
  else if a = 5 then decide (b = 0)
  else if b = 6 then decide (fl % 2 = 1)
  else decide ((a = 7 ∧ (b = 7 ∨ b = 8)) ∨ (a = 8 ∧ (b = 8 ∨ b = 9)) ∨ (a = 9 ∧ b = 9))
def con (a b : Int) (fl : Nat) : Bool := if a < 0 ∨ b < 0 then false else contC (cls a) (cls b) (fl : Int)
def flN (n : Int) (fl : Nat) : Nat := if 0 ≤ n ∧ cls n = 6 then fl + 1 else 0

/-! the characters of a text -/
abbrev Ch := Int × List UInt8
def charsF : Nat → List UInt8 → List Ch
  | 0, _ => []
  | f + 1, l => if l = [] then [] else ((rune l).1, l.take (rune l).2) :: charsF f (l.drop (rune l).2)
def chars (l : List UInt8) : List Ch := charsF l.length l
theorem charsF_more (f : Nat) : ∀ (g : Nat) (l : List UInt8), l.length ≤ f → l.length ≤ g → charsF f l = charsF g l := by
  induction f with
  | zero =>
    intro g l hf _
    obtain rfl := List.eq_nil_of_length_eq_zero (Nat.le_zero.1 hf)
    cases g <;> simp [charsF]
  | succ f ih =>
    intro g l hf hg
    by_cases hl : l = []
    · subst hl; cases g <;> simp [charsF]
    · obtain ⟨h1, _, h2⟩ := rune_size l
      have h3 := h2 hl
      cases g with
      | zero => exact absurd (List.eq_nil_of_length_eq_zero (Nat.le_zero.1 hg)) hl
      | succ g =>
        simp only [charsF, if_neg hl]
        rw [ih g _ (by rw [List.length_drop]; omega) (by rw [List.length_drop]; omega)]
theorem chars_nil : chars [] = [] := rfl
theorem chars_cons {l : List UInt8} (hl : l ≠ []) : chars l = ((rune l).1, l.take (rune l).2) :: chars (l.drop (rune l).2) := by
  obtain ⟨h1, _, h2⟩ := rune_size l
  have h3 := h2 hl
  unfold chars
  cases hn : l.length with
  | zero => exact absurd (List.eq_nil_of_length_eq_zero hn) hl
  | succ n =>
    rw [charsF, if_neg hl, charsF_more n _ _ (by rw [List.length_drop]; omega) (Nat.le_refl _)]
theorem chars_flat (l : List UInt8) : ((chars l).map (·.2)).flatten = l := by
  have key : ∀ (n : Nat) (l : List UInt8), l.length ≤ n → ((chars l).map (·.2)).flatten = l := by
    intro n
    induction n with
    | zero => intro l h; obtain rfl := List.eq_nil_of_length_eq_zero (Nat.le_zero.1 h); rfl
    | succ n ih =>
      intro l h
      by_cases hl : l = []
      · subst hl; rfl
      · obtain ⟨h1, _, h2⟩ := rune_size l
        have h3 := h2 hl
        rw [chars_cons hl, List.map_cons, List.flatten_cons, ih _ (by rw [List.length_drop]; omega), List.take_append_drop]
  exact key _ l (Nat.le_refl _)

/-! pieces -/
def seg (cur : List Ch) (prev : Int) (fl : Nat) : List Ch → List (List Ch)
  | [] => [cur]
  | c :: r => if con prev c.1 fl then seg (cur ++ [c]) c.1 (flN c.1 fl) r else cur :: seg [c] c.1 (flN c.1 0) r
def segs : List Ch → List (List Ch)
  | [] => []
  | c :: r => seg [c] c.1 (flN c.1 0) r
def byts (g : List Ch) : List UInt8 := (g.map (·.2)).flatten
def pieces (l : List UInt8) : List (List UInt8) := (segs (chars l)).map byts
theorem pieces_nil : pieces [] = [] := rfl
theorem cls_neg {n : Int} (h : n < 0) : cls n = 0 := by
  unfold cls
  repeat' split
  all_goals first | rfl | (exfalso; omega)
theorem flN_eq (n : Int) (fl : Nat) : flN n fl = if cls n = 6 then fl + 1 else 0 := by
  unfold flN
  by_cases h : cls n = 6
  · have : 0 ≤ n := by
      rcases Int.lt_or_le n 0 with h1 | h1
      · rw [cls_neg h1] at h; cases h
      · exact h1
    rw [if_pos ⟨this, h⟩, if_pos h]
  · rw [if_neg (fun h' => h h'.2), if_neg h]
theorem byts_snoc (cur : List Ch) (c : Ch) : byts (cur ++ [c]) = byts cur ++ c.2 := by simp [byts]
theorem drop_ne {t : List UInt8} {n : Nat} (hn : n < t.length) : t.drop n ≠ [] := fun h => by
  have := List.drop_eq_nil_iff.1 h
  omega
theorem seg_next {t : List UInt8} {n : Nat} {cur : List Ch} {prev : Int} {fl : Nat} (hn : n < t.length) (hc : con prev (rune (t.drop n)).1 fl = true) (hcur : byts cur = t.take n) :
    ∃ cur', seg cur prev fl (chars (t.drop n)) = seg cur' (rune (t.drop n)).1 (flN (rune (t.drop n)).1 fl) (chars (t.drop (n + (rune (t.drop n)).2))) ∧ byts cur' = t.take (n + (rune (t.drop n)).2) := by
  refine ⟨cur ++ [((rune (t.drop n)).1, (t.drop n).take (rune (t.drop n)).2)], ?_, ?_⟩
  · rw [chars_cons (drop_ne hn), seg]
    simp only [hc, if_true, List.drop_drop]
  · rw [byts_snoc, hcur, List.take_add]
theorem seg_end {t : List UInt8} {n : Nat} {cur : List Ch} {prev : Int} {fl : Nat} (hn : t.length ≤ n) (hcur : byts cur = t.take n) : (seg cur prev fl (chars (t.drop n))).map byts = t.take n :: pieces (t.drop n) := by
  rw [List.drop_eq_nil_of_le hn, chars_nil, seg, pieces_nil, List.map_cons, hcur]; rfl
theorem seg_stop {t : List UInt8} {n : Nat} {cur : List Ch} {prev : Int} {fl : Nat} (hn : n < t.length) (hc : con prev (rune (t.drop n)).1 fl = false) (hcur : byts cur = t.take n) : (seg cur prev fl (chars (t.drop n))).map byts = t.take n :: pieces (t.drop n) := by
  unfold pieces
  rw [chars_cons (drop_ne hn), seg, segs]
  simp only [hc, Bool.false_eq_true, if_false, List.map_cons, hcur]
theorem pieces_start {t : List UInt8} (ht : t ≠ []) : pieces t = (seg [((rune t).1, t.take (rune t).2)] (rune t).1 (flN (rune t).1 0) (chars (t.drop (rune t).2))).map byts ∧ byts [((rune t).1, t.take (rune t).2)] = t.take (rune t).2 := by
  refine ⟨?_, by simp [byts]⟩
  unfold pieces
  rw [chars_cons ht, segs]
theorem pieces_ini {l t p : List UInt8} {pre r : List (List UInt8)} (h1 : pieces l = pre ++ pieces t) (h2 : pieces t = p :: r) : (pre ++ [p]) <+: pieces l := ⟨r, by rw [h1, h2]; simp⟩
/-! columns -/
theorem dr_size (l : List UInt8) : (dr l).2 = (rune l).2 := by
  rw [rune_dr]
  split
  · rename_i h; rw [rune_neg l h]
  · rfl
theorem wid_dr (l : List UInt8) : wid ((dr l).1 : Int) = wid (rune l).1 := by
  rw [rune_dr]
  split
  · rename_i h; rw [rune_neg l h]; decide
  · simp only []; rw [Int.toNat_of_nonneg (by omega)]
def anyW (l : List UInt8) : Bool := (chars l).any fun c => wid c.1
theorem anyW_cons {l : List UInt8} (h : l ≠ []) : anyW l = (wid (rune l).1 || anyW (l.drop (rune l).2)) := by
  unfold anyW; rw [chars_cons h, List.any_cons]
def col (p : List UInt8) : Int := if 1 ≤ cls (rune p).1 ∧ cls (rune p).1 ≤ 5 then 0 else if cls (rune p).1 = 6 then 2 else if anyW p then 2 else 1
def cols (ps : List (List UInt8)) : Int := (ps.map col).foldl (· + ·) 0
theorem cols_snoc (ps : List (List UInt8)) (p : List UInt8) : cols (ps ++ [p]) = cols ps + col p := by simp [cols]
theorem col_le (p : List UInt8) : 0 ≤ col p ∧ col p ≤ 2 := by
  unfold col
  repeat' split
  all_goals omega
theorem cols_le (ps : List (List UInt8)) : 0 ≤ cols ps ∧ cols ps ≤ 2 * (ps.length : Int) := by
  have key : ∀ (ps : List (List UInt8)) (a : Int), 0 ≤ a → 0 ≤ (ps.map col).foldl (· + ·) a ∧ (ps.map col).foldl (· + ·) a ≤ a + 2 * (ps.length : Int) := by
    intro ps
    induction ps with
    | nil => intro a h; simp; exact h
    | cons p ps ih =>
      intro a h
      have h1 := col_le p
      have h2 := ih (a + col p) (by omega)
      simp only [List.map_cons, List.foldl_cons, List.length_cons]
      omega
  have := key ps 0 (by omega)
  simpa [cols] using this
/-! pieces: how many, none empty -/
theorem chars_ne (l : List UInt8) : ∀ c ∈ chars l, c.2 ≠ [] := by
  have key : ∀ (n : Nat) (l : List UInt8), l.length ≤ n → ∀ c ∈ chars l, c.2 ≠ [] := by
    intro n
    induction n with
    | zero => intro l h c hc; obtain rfl := List.eq_nil_of_length_eq_zero (Nat.le_zero.1 h); cases hc
    | succ n ih =>
      intro l h c hc
      by_cases hl : l = []
      · subst hl; cases hc
      · obtain ⟨h1, _, h2⟩ := rune_size l
        have h3 := h2 hl
        rw [chars_cons hl] at hc
        rcases List.mem_cons.1 hc with rfl | hc
        · intro e
          have := congrArg List.length e
          rw [List.length_take, List.length_nil] at this
          omega
        · exact ih _ (by rw [List.length_drop]; omega) c hc
  exact key _ l (Nat.le_refl _)
theorem seg_flat (cs : List Ch) : ∀ (cur : List Ch) (prev : Int) (fl : Nat), (seg cur prev fl cs).flatten = cur ++ cs := by
  induction cs with
  | nil => intro cur prev fl; simp [seg]
  | cons c cs ih =>
    intro cur prev fl
    rw [seg]
    split
    · rw [ih]; simp
    · rw [List.flatten_cons, ih]; simp
theorem segs_flat (cs : List Ch) : (segs cs).flatten = cs := by
  cases cs with
  | nil => rfl
  | cons c cs => rw [segs, seg_flat]; rfl
theorem seg_ne (cs : List Ch) : ∀ (cur : List Ch) (prev : Int) (fl : Nat), cur ≠ [] → ∀ g ∈ seg cur prev fl cs, g ≠ [] := by
  induction cs with
  | nil => intro cur prev fl h g hg; simp [seg] at hg; rw [hg]; exact h
  | cons c cs ih =>
    intro cur prev fl h g hg
    rw [seg] at hg
    split at hg
    · exact ih _ _ _ (by simp) g hg
    · rcases List.mem_cons.1 hg with rfl | hg
      · exact h
      · exact ih _ _ _ (by simp) g hg
theorem segs_ne (cs : List Ch) : ∀ g ∈ segs cs, g ≠ [] := by
  cases cs with
  | nil => intro g hg; cases hg
  | cons c cs => exact seg_ne cs _ _ _ (by simp)
theorem pieces_flat (l : List UInt8) : (pieces l).flatten = l := by
  have h1 : ∀ gs : List (List Ch), (gs.map byts).flatten = byts gs.flatten := by
    intro gs
    induction gs with
    | nil => rfl
    | cons g gs ih => rw [List.map_cons, List.flatten_cons, ih, List.flatten_cons]; simp [byts]
  unfold pieces
  rw [h1, segs_flat]
  exact chars_flat l
theorem pieces_ne (l : List UInt8) : ∀ p ∈ pieces l, p ≠ [] := by
  intro p hp
  obtain ⟨g, hg, rfl⟩ := List.mem_map.1 hp
  have h1 := segs_ne _ g hg
  cases g with
  | nil => exact absurd rfl h1
  | cons c g =>
    have hc : c ∈ chars l := by rw [← segs_flat (chars l)]; exact List.mem_flatten.2 ⟨_, hg, List.mem_cons_self⟩
    have h2 := chars_ne l c hc
    intro e
    simp [byts] at e
    exact h2 e.1
theorem flat_le (ps : List (List UInt8)) (h : ∀ p ∈ ps, p ≠ []) : ps.length ≤ ps.flatten.length := by
  induction ps with
  | nil => simp
  | cons p ps ih =>
    have h1 := List.length_pos_iff.2 (h p List.mem_cons_self)
    have h2 := ih (fun q hq => h q (List.mem_cons_of_mem _ hq))
    simp only [List.length_cons, List.flatten_cons, List.length_append]
    omega
theorem pieces_len (l : List UInt8) : (pieces l).length ≤ l.length := by
  have := flat_le (pieces l) (pieces_ne l)
  rwa [pieces_flat] at this
/-! cutting -/
def cutN (most : Int) : List (List UInt8) → Nat → Nat
  | [], n => n
  | p :: r, n => if most < (n : Int) + (p.length : Int) then n else cutN most r (n + p.length)
theorem ini_drop {ps pre : List (List UInt8)} {x : List UInt8} (h : (pre ++ [x]) <+: ps) : ps.drop pre.length = x :: ps.drop (pre.length + 1) := by
  obtain ⟨r, rfl⟩ := h
  simp
theorem ini_flat {ps pre : List (List UInt8)} (h : pre <+: ps) : pre.flatten.length ≤ ps.flatten.length := by
  obtain ⟨r, rfl⟩ := h
  simp
theorem cutN_le (most : Int) (ps : List (List UInt8)) : ∀ n, n ≤ cutN most ps n ∧ cutN most ps n ≤ n + ps.flatten.length := by
  induction ps with
  | nil => intro n; simp [cutN]
  | cons p r ih =>
    intro n
    have := ih (n + p.length)
    rw [cutN, List.flatten_cons, List.length_append]
    split <;> omega
end Go.Ph.Gr
