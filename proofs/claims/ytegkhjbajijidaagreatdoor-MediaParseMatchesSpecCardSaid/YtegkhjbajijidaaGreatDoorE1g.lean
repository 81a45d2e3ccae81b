/-
  Ng, Nh, Ni: own texts of this repository (wip/tpl, wip/plans), merged and shaken by wip/tools/pack.py.
-/
import Derived.Test.YtegkhjbajijidaaGreatDoorE1f
set_option maxRecDepth 100000
set_option linter.unusedVariables false
set_option linter.unusedSimpArgs false
section
namespace Go.Ph.Md
open Go.Ph.Pl Go.Ph.Pf
open Go.Ph.Chs (vld lower utf8)
open Go.Ph.Utf (rune dr)
def hexv (c : UInt8) : Option Nat := if 48 ≤ c.toNat ∧ c.toNat ≤ 57 then some (c.toNat - 48) else if 65 ≤ c.toNat ∧ c.toNat ≤ 70 then some (c.toNat - 55) else if 97 ≤ c.toNat ∧ c.toNat ≤ 102 then some (c.toNat - 87) else none
def hexi (c : UInt8) : Int := match hexv c with | some x => (x : Int) | none => -1
theorem hexv_lt {c : UInt8} {x : Nat} (h : hexv c = some x) : x < 16 := by
  unfold hexv at h
  split at h
  · cases h; omega
  · split at h
    · cases h; omega
    · split at h
      · cases h; omega
      · cases h
theorem hex_eq (c : UInt8) : basic_Hex c = some ((match hexv c with | some x => UInt8.ofNat x | none => 0), (hexv c).isSome) := by
  refine allB (p := fun c => basic_Hex c = some ((match hexv c with | some x => UInt8.ofNat x | none => 0), (hexv c).isSome)) ?_ c
  decide +kernel
theorem rhex_eq (c : UInt8) : R_Hex c = some (hexi c) := by
  refine allB (p := fun c => R_Hex c = some (hexi c)) ?_ c
  decide +kernel
theorem two16 : ∀ x, x < 16 → ∀ y, y < 16 → (UInt8.ofNat ((UInt8.ofNat x).toNat * 2 ^ 4)) ||| UInt8.ofNat y = UInt8.ofNat (16 * x + y) := by decide +kernel
def hex2 (a b : UInt8) : Option UInt8 := match hexv a, hexv b with | some x, some y => some (UInt8.ofNat (16 * x + y)) | _, _ => none
theorem pair_short {s : List UInt8} (h : s.length < 2) : basic_Pair s = some (0, false) := by
  unfold basic_Pair; rw [if_pos (by omega)]
theorem pair_eq (a b : UInt8) (t : List UInt8) : ∃ c, basic_Pair (a :: b :: t) = some (c, (hex2 a b).isSome) ∧ ∀ z, hex2 a b = some z → c = z := by
  unfold basic_Pair
  rw [if_neg (by simp; omega), show (0 : Int) = ((0 : Nat) : Int) from rfl, idx_nat, show (1 : Int) = ((1 : Nat) : Int) from rfl, idx_nat]
  simp only [List.getElem?_cons_zero, List.getElem?_cons_succ, bsome, hex_eq]
  unfold hex2
  cases ha : hexv a with
  | none => exact ⟨_, by rfl, fun z hz => by cases hz⟩
  | some x =>
    cases hb : hexv b with
    | none => exact ⟨_, by rfl, fun z hz => by cases hz⟩
    | some y => exact ⟨_, by rfl, fun z hz => by cases hz; exact two16 x (hexv_lt ha) y (hexv_lt hb)⟩
def hexd2 : List UInt8 → Option (UInt8 × List UInt8)
  | a :: b :: t => (hex2 a b).map fun z => (z, t)
  | _ => none
theorem hexd2_len {t : List UInt8} {p : UInt8 × List UInt8} (h : hexd2 t = some p) : p.2 = t.drop 2 ∧ 2 ≤ t.length := by
  rcases t with _ | ⟨a, _ | ⟨b, t⟩⟩
  · cases h
  · cases h
  · obtain ⟨z, _, rfl⟩ := Option.map_eq_some_iff.1 h
    exact ⟨rfl, by simp⟩
theorem pair_hexd2 (t : List UInt8) : ∃ c b, basic_Pair t = some (c, b) ∧ match hexd2 t with | some p => b = true ∧ c = p.1 | none => b = false := by
  rcases t with _ | ⟨a, _ | ⟨b, t⟩⟩
  · exact ⟨_, _, pair_short (by simp), rfl⟩
  · exact ⟨_, _, pair_short (by simp), rfl⟩
  · obtain ⟨c, h1, h2⟩ := pair_eq a b t
    refine ⟨_, _, h1, ?_⟩
    have e : hexd2 (a :: b :: t) = (hex2 a b).map fun z => (z, t) := rfl
    rw [e]
    cases h : hex2 a b with
    | none => rfl
    | some z => exact ⟨rfl, h2 z h⟩
def unpF : Nat → List UInt8 → List UInt8
  | 0, _ => []
  | n + 1, [] => []
  | n + 1, c :: t => if c = 37 then (match hexd2 t with | some p => p.1 :: unpF n p.2 | none => c :: unpF n t) else c :: unpF n t
theorem unpF_more : ∀ (n m : Nat) (l : List UInt8), l.length < n → l.length < m → unpF n l = unpF m l
  | n + 1, m + 1, [], _, _ => rfl
  | n + 1, m + 1, c :: t, h1, h2 => by
    simp only [List.length_cons] at h1 h2
    rw [unpF, unpF]
    have h0 := unpF_more n m t (by omega) (by omega)
    rw [h0]
    cases hp : hexd2 t with
    | none => rfl
    | some p =>
      obtain ⟨h3, h4⟩ := hexd2_len hp
      dsimp only
      rw [unpF_more n m p.2 (by rw [h3, List.length_drop]; omega) (by rw [h3, List.length_drop]; omega)]
def unp (l : List UInt8) : List UInt8 := unpF (l.length + 1) l
theorem unp_nil : unp [] = [] := rfl
theorem unp_cons (c : UInt8) (t : List UInt8) : unp (c :: t) = if c = 37 then (match hexd2 t with | some p => p.1 :: unp p.2 | none => c :: unp t) else c :: unp t := by
  unfold unp
  rw [List.length_cons, unpF]
  cases hp : hexd2 t with
  | none => rfl
  | some p =>
    obtain ⟨h3, h4⟩ := hexd2_len hp
    dsimp only
    rw [unpF_more (t.length + 1) (p.2.length + 1) p.2 (by rw [h3, List.length_drop]; omega) (by omega)]
theorem unp_len : ∀ (n : Nat) (l : List UInt8), l.length ≤ n → (unp l).length ≤ l.length
  | n, [], _ => Nat.le_refl _
  | 0, c :: t, h => by simp at h
  | n + 1, c :: t, h => by
    simp only [List.length_cons] at h ⊢
    rw [unp_cons]
    have h1 := unp_len n t (by omega)
    split
    · cases hp : hexd2 t with
      | none => dsimp only; rw [List.length_cons]; omega
      | some p =>
        obtain ⟨h3, h4⟩ := hexd2_len hp
        have h5 := unp_len n p.2 (by rw [h3, List.length_drop]; omega)
        rw [h3, List.length_drop] at h5
        dsimp only
        rw [List.length_cons, h3]; omega
    · rw [List.length_cons]; omega
theorem text_L1 (s : List UInt8) (hs : s.length ≤ 1000000) : ∀ (d i m : Nat) (acc : List UInt8), s.length - i ≤ d → d < m → i ≤ s.length → acc.length ≤ i →
    media_piece_text_L1 s m acc (i : Int) = some (acc ++ unp (s.drop i)) := by
  intro d
  induction d using Nat.strongRecOn with
  | ind d ih =>
    intro i m acc h1 h2 h3 h4
    obtain ⟨m, rfl⟩ : ∃ k, m = k + 1 := ⟨m - 1, by omega⟩
    rw [media_piece_text_L1]
    by_cases hi : i < s.length
    · rw [if_pos (by omega), idx_nat, List.getElem?_eq_getElem hi, bsome, List.drop_eq_getElem_cons hi, unp_cons]
      have hplain : ∀ (o : Option ((List UInt8 × Int) ⊕ (List UInt8 × Int))), o = some (.inl (acc, (i : Int))) → (o.bind fun o55 => (match o55 with | .inl (l33, n35) => (idx s n35).bind fun c50 => (app 1 l33 ([c50] : List UInt8)).bind fun l51 => (chk (n35 + 1)).bind fun n52 => media_piece_text_L1 s m l51 n52 | .inr (l37, n39) => (chk (n39 + 1)).bind fun n54 => media_piece_text_L1 s m l37 n54)) = some (acc ++ (s[i] :: unp (s.drop (i + 1)))) := by
        rintro o rfl
        rw [bsome]
        dsimp only
        rw [idx_nat, List.getElem?_eq_getElem hi, bsome, app_ok (by simp; omega), bsome, chk_succ (by omega), bsome, ih (d - 1) (by omega) (i + 1) m _ (by omega) (by omega) (by omega) (by simp; omega), List.append_assoc]; rfl
      by_cases h37 : s[i] = 37
      · rw [if_pos h37, if_pos h37, chk_succ (by omega), bsome, cut_from rfl (by omega), bsome]
        obtain ⟨c, b, hp, hq⟩ := pair_hexd2 (s.drop (i + 1))
        rw [hp, bsome]
        dsimp only
        cases hz : hexd2 (s.drop (i + 1)) with
        | none =>
          rw [hz] at hq
          dsimp only at hq
          subst hq
          exact hplain _ (by rw [if_neg (by decide)])
        | some p =>
          rw [hz] at hq
          obtain ⟨rfl, rfl⟩ := hq
          obtain ⟨e1, e2⟩ := hexd2_len hz
          rw [List.length_drop] at e2
          rw [if_pos rfl, app_ok (by simp; omega), bsome, show ((i : Int) + 2) = ((i + 2 : Nat) : Int) by omega, chk_ok (by omega) (by omega), bsome, bsome]
          dsimp only
          rw [chk_succ (by omega), bsome, ih (d - 3) (by omega) (i + 2 + 1) m _ (by omega) (by omega) (by omega) (by simp; omega), e1, List.drop_drop, List.append_assoc, show i + 1 + 2 = i + 2 + 1 by omega]; rfl
      · rw [if_neg h37, if_neg h37]
        exact hplain _ rfl
    · rw [if_neg (by omega), List.drop_eq_nil_of_le (by omega), unp_nil, List.append_nil]
theorem hexi_nonneg (c : UInt8) : 0 ≤ hexi c ↔ (hexv c).isSome = true := by
  unfold hexi
  cases hexv c with
  | none => simp
  | some x => simp
theorem unpercent_L1 (s : List UInt8) (hs : s.length ≤ 1000000) : ∀ (d i m : Nat) (acc : List UInt8), s.length - i ≤ d → d < m → i ≤ s.length → acc.length ≤ i →
    R_unpercent_L1 s m acc (i : Int) = some (acc ++ unp (s.drop i)) := by
  intro d
  induction d using Nat.strongRecOn with
  | ind d ih =>
    intro i m acc h1 h2 h3 h4
    obtain ⟨m, rfl⟩ : ∃ k, m = k + 1 := ⟨m - 1, by omega⟩
    rw [R_unpercent_L1]
    by_cases hi : i < s.length
    · rw [if_pos (by omega), idx_nat, List.getElem?_eq_getElem hi, bsome, List.drop_eq_getElem_cons hi, unp_cons]
      have hplain : ∀ (X : Option (List UInt8)), ((some false).bind fun b10 => (if b10 = true then X else (chk ((i : Int) + 1)).bind fun n39 => (cut s (i : Int) n39).bind fun s40 => (cat acc s40).bind fun s41 => (chk ((i : Int) + 1)).bind fun n42 => R_unpercent_L1 s m s41 n42)) = some (acc ++ (s[i] :: unp (s.drop (i + 1)))) := by
        intro X
        rw [bsome, if_neg (by decide), chk_succ (by omega), bsome, cut_one (List.getElem?_eq_getElem hi), bsome, cat_ok (by simp; omega), bsome, bsome, ih (d - 1) (by omega) (i + 1) m _ (by omega) (by omega) (by omega) (by simp; omega), List.append_assoc]; rfl
      by_cases h37 : s[i] = 37
      · rw [if_pos h37, if_pos h37, show ((i : Int) + 2) = ((i + 2 : Nat) : Int) by omega, chk_ok (by omega) (by omega), bsome]
        by_cases h2i : i + 2 < s.length
        · have hi1 : i + 1 < s.length := by omega
          rw [if_pos (by omega), chk_succ (by omega), bsome, idx_nat, List.getElem?_eq_getElem hi1, bsome, rhex_eq, bsome, bsome, idx_nat, List.getElem?_eq_getElem h2i, bsome, rhex_eq, bsome, bsome]
          have hd : s.drop (i + 1) = s[i + 1] :: s[i + 2] :: s.drop (i + 3) := by
            rw [List.drop_eq_getElem_cons hi1, List.drop_eq_getElem_cons h2i]
          have he : hexd2 (s.drop (i + 1)) = (hex2 s[i + 1] s[i + 2]).map fun z => (z, s.drop (i + 3)) := by rw [hd]; rfl
          have hpl := hplain
          rw [chk_succ (by omega)] at hpl
          cases ha : hexv s[i + 1] with
          | none =>
            have n1 : ¬ 0 ≤ hexi s[i + 1] := by rw [hexi_nonneg, ha]; simp
            have hx : hexd2 (s.drop (i + 1)) = none := by rw [he]; unfold hex2; rw [ha]; rfl
            rw [if_neg n1, hx]
            exact hpl _
          | some x =>
            have n1 : 0 ≤ hexi s[i + 1] := by rw [hexi_nonneg, ha]; simp
            rw [if_pos n1]
            cases hb : hexv s[i + 2] with
            | none =>
              have n2 : ¬ 0 ≤ hexi s[i + 2] := by rw [hexi_nonneg, hb]; simp
              have hx : hexd2 (s.drop (i + 1)) = none := by rw [he]; unfold hex2; rw [ha, hb]; rfl
              rw [decide_eq_false n2, hx]
              exact hpl _
            | some y =>
              have n2 : 0 ≤ hexi s[i + 2] := by rw [hexi_nonneg, hb]; simp
              have x1 : hexi s[i + 1] = (x : Int) := by unfold hexi; rw [ha]
              have x2 : hexi s[i + 2] = (y : Int) := by unfold hexi; rw [hb]
              have b1 := hexv_lt ha
              have b2 := hexv_lt hb
              have hx : hexd2 (s.drop (i + 1)) = some (UInt8.ofNat (16 * x + y), s.drop (i + 3)) := by rw [he]; unfold hex2; rw [ha, hb]; rfl
              have e : ub8 (16 * (x : Int) + (y : Int)) = UInt8.ofNat (16 * x + y) := by
                unfold ub8
                rw [show (16 * (x : Int) + (y : Int)) % 256 = ((16 * x + y : Nat) : Int) by omega, Int.toNat_natCast]
              rw [decide_eq_true n2, bsome, if_pos rfl, idx_nat, List.getElem?_eq_getElem hi1, bsome, rhex_eq, x1, bsome, chk_ok (by omega) (by omega), bsome, bsome, idx_nat, List.getElem?_eq_getElem h2i, bsome, rhex_eq, x2, bsome, chk_ok (by omega) (by omega), bsome, cat_ok (by simp; omega), bsome, bsome]
              rw [show ((i + 2 : Nat) : Int) + 1 = ((i + 3 : Nat) : Int) by omega, chk_ok (by omega) (by omega), bsome, ih (d - 3) (by omega) (i + 3) m _ (by omega) (by omega) (by omega) (by simp; omega), hx, List.append_assoc, e]; rfl
        · rw [if_neg (by omega)]
          have hn : hexd2 (s.drop (i + 1)) = none := by
            cases hz : hexd2 (s.drop (i + 1)) with
            | none => rfl
            | some p =>
              obtain ⟨_, e2⟩ := hexd2_len hz
              rw [List.length_drop] at e2; omega
          rw [hn]
          dsimp only
          exact hplain _
      · rw [if_neg h37, if_neg h37]
        exact hplain _
    · rw [if_neg (by omega), List.drop_eq_nil_of_le (by omega), unp_nil, List.append_nil]
theorem unpercent_eq (s : List UInt8) (hs : s.length ≤ 1000000) : R_unpercent s = some (unp s) := by
  unfold R_unpercent
  have := unpercent_L1 s hs s.length 0 FU [] (by omega) (FU_gt (by omega)) (by omega) (by simp)
  rw [Int.natCast_zero, List.drop_zero, List.nil_append] at this
  rw [this, bsome]
def bare (p : Pce) : List UInt8 := if p.2.1 = 0 ∧ 6 ≤ p.2.2.2.length ∧ lower (p.2.2.2.take 6) = pre8 then p.2.2.2.drop 6 else p.2.2.2
def txt (p : Pce) : List UInt8 := if p.2.2.1 = true then unp (bare p) else p.2.2.2
theorem bare_len (p : Pce) : (bare p).length ≤ p.2.2.2.length := by
  unfold bare
  split
  · rw [List.length_drop]; omega
  · exact Nat.le_refl _
theorem txt_len (p : Pce) : (txt p).length ≤ p.2.2.2.length := by
  unfold txt
  have := bare_len p
  have := unp_len _ (bare p) (Nat.le_refl _)
  split <;> omega
theorem lower_pre : lower pre8 = pre8 := by decide
theorem text_eq (p : Pce) (hp : p.2.2.2.length ≤ 1000000) : media_piece_text p = some (txt p) := by
  obtain ⟨nm, n, st, v⟩ := p
  unfold media_piece_text txt bare
  dsimp only at hp ⊢
  cases st with
  | false => rw [if_neg (by decide), if_neg (by decide)]
  | true =>
    rw [if_pos rfl, if_pos rfl]
    have e : (if n = (0 : Int) then (if (6 : Int) ≤ (v.length : Int) then (cut v 0 6).bind fun s7 => (basic_Same s7 [117, 116, 102, 56, 39, 39]).bind fun b8 => some b8 else some false) else some false) = some (decide (n = 0 ∧ 6 ≤ v.length ∧ lower (v.take 6) = pre8)) := by
      by_cases h0 : n = 0
      · rw [if_pos h0]
        by_cases h6 : 6 ≤ v.length
        · rw [if_pos (by omega), cut_to (j := 6) (b := 6) rfl h6, bsome, same_eq (by unfold Big; rw [List.length_take]; omega) (by unfold Big; simp), bsome, show lower [117, 116, 102, 56, 39, 39] = pre8 from lower_pre]
          congr 1
          simp [h0, h6]
        · rw [if_neg (by omega), decide_eq_false (fun h => h6 h.2.1)]
      · rw [if_neg h0, decide_eq_false (fun h => h0 h.1)]
    rw [e, bsome]
    by_cases hc : n = 0 ∧ 6 ≤ v.length ∧ lower (v.take 6) = pre8
    · rw [decide_eq_true hc, if_pos rfl, if_pos hc, cut_from (i := 6) (a := 6) rfl hc.2.1, bsome, bsome]
      have := text_L1 (v.drop 6) (by rw [List.length_drop]; omega) (v.drop 6).length 0 FU [] (by omega) (FU_gt (by rw [List.length_drop]; omega)) (by omega) (by simp)
      rw [Int.natCast_zero, List.drop_zero, List.nil_append] at this
      rw [this, bsome]
    · rw [decide_eq_false hc, if_neg (by decide), if_neg hc, bsome]
      have := text_L1 v hp v.length 0 FU [] (by omega) (FU_gt (by omega)) (by omega) (by simp)
      rw [Int.natCast_zero, List.drop_zero, List.nil_append] at this
      rw [this, bsome]
theorem rtext1_eq (p : Pce) (hp : p.2.2.2.length ≤ 1000000) (n : Int) (hn : p.2.1 = n) :
    (if p.2.2.1 = true then ((if n = (0 : Int) then (if (6 : Int) ≤ (p.2.2.2.length : Int) then (cut p.2.2.2 0 6).bind fun s253 => (R_Lower s253).bind fun s254 => some (decide (s254 = [117, 116, 102, 56, 39, 39])) else some false) else some false)).bind fun b250 => ((if b250 = true then (cut p.2.2.2 6 (p.2.2.2.length : Int)).bind fun s261 => some s261 else some p.2.2.2)).bind fun s259 => (R_unpercent s259).bind fun s263 => some s263 else some p.2.2.2) = some (txt p) := by
  obtain ⟨nm, n', st, v⟩ := p
  dsimp only at hn hp
  subst hn
  unfold txt bare
  dsimp only
  cases st with
  | false => rw [if_neg (by decide), if_neg (by decide)]
  | true =>
    rw [if_pos rfl, if_pos rfl]
    have e : (if n' = (0 : Int) then (if (6 : Int) ≤ (v.length : Int) then (cut v 0 6).bind fun s7 => (R_Lower s7).bind fun s254 => some (decide (s254 = [117, 116, 102, 56, 39, 39])) else some false) else some false) = some (decide (n' = 0 ∧ 6 ≤ v.length ∧ lower (v.take 6) = pre8)) := by
      by_cases h0 : n' = 0
      · rw [if_pos h0]
        by_cases h6 : 6 ≤ v.length
        · unfold R_Lower
          rw [if_pos (by omega), cut_to (j := 6) (b := 6) rfl h6, bsome, if_pos (by rw [List.length_take]; omega), bsome]
          congr 1
          simp [h0, h6, pre8]
        · rw [if_neg (by omega), decide_eq_false (fun h => h6 h.2.1)]
      · rw [if_neg h0, decide_eq_false (fun h => h0 h.1)]
    rw [e, bsome]
    by_cases hc : n' = 0 ∧ 6 ≤ v.length ∧ lower (v.take 6) = pre8
    · rw [decide_eq_true hc, if_pos rfl, if_pos hc, cut_from (i := 6) (a := 6) rfl hc.2.1, bsome, bsome, unpercent_eq _ (by rw [List.length_drop]; omega), bsome]
    · rw [decide_eq_false hc, if_neg (by decide), if_neg hc, bsome, unpercent_eq _ hp, bsome]
def fixF : Nat → Bool → List UInt8 → List UInt8
  | 0, _, _ => []
  | n + 1, b, t => if t = [] then [] else if 0 ≤ (rune t).1 then t.take (rune t).2 ++ fixF n false (t.drop (rune t).2) else (if b = true then [] else [239, 191, 189]) ++ fixF n true (t.drop 1)
theorem fixF_more : ∀ (n m : Nat) (b : Bool) (l : List UInt8), l.length < n → l.length < m → fixF n b l = fixF m b l
  | n + 1, m + 1, b, l, h1, h2 => by
    rw [fixF, fixF]
    by_cases hl : l = []
    · rw [if_pos hl, if_pos hl]
    · obtain ⟨r1, _, r2⟩ := Utf.rune_size l
      have hp := List.length_pos_iff.2 hl
      rw [if_neg hl, if_neg hl, fixF_more n m false (l.drop (rune l).2) (by rw [List.length_drop]; omega) (by rw [List.length_drop]; omega), fixF_more n m true (l.drop 1) (by rw [List.length_drop]; omega) (by rw [List.length_drop]; omega)]
def fix (b : Bool) (t : List UInt8) : List UInt8 := fixF (t.length + 1) b t
theorem fix_nil (b : Bool) : fix b [] = [] := rfl
theorem fix_ok {t : List UInt8} (b : Bool) (hl : t ≠ []) (h : 0 ≤ (rune t).1) : fix b t = t.take (rune t).2 ++ fix false (t.drop (rune t).2) := by
  obtain ⟨r1, _, r2⟩ := Utf.rune_size t
  have hp := List.length_pos_iff.2 hl
  unfold fix
  rw [fixF, if_neg hl, if_pos h, fixF_more t.length ((t.drop (rune t).2).length + 1) false _ (by rw [List.length_drop]; omega) (by omega)]
theorem fix_bad {t : List UInt8} (b : Bool) (hl : t ≠ []) (h : (rune t).1 < 0) : fix b t = (if b = true then [] else [239, 191, 189]) ++ fix true (t.drop 1) := by
  have hp := List.length_pos_iff.2 hl
  unfold fix
  rw [fixF, if_neg hl, if_neg (by omega), fixF_more t.length ((t.drop 1).length + 1) true _ (by rw [List.length_drop]; omega) (by omega)]
theorem repaired_L1 (s : List UInt8) (hs : s.length ≤ 100000000) : ∀ (d i m : Nat) (b : Bool) (acc : List UInt8), s.length - i ≤ d → d < m → i ≤ s.length → acc.length ≤ 4 * i →
    R_repaired_L1 s m acc b (i : Int) = some (acc ++ fix b (s.drop i)) := by
  intro d
  induction d using Nat.strongRecOn with
  | ind d ih =>
    intro i m b acc h1 h2 h3 h4
    obtain ⟨m, rfl⟩ : ∃ k, m = k + 1 := ⟨m - 1, by omega⟩
    rw [R_repaired_L1]
    by_cases hi : i < s.length
    · have hl : s.drop i ≠ [] := by rw [Ne, List.drop_eq_nil_iff]; omega
      obtain ⟨r1, r3, r2⟩ := Utf.rune_size (s.drop i)
      have r2' := r2 hl
      rw [List.length_drop] at r2'
      unfold R_Rune
      rw [if_pos (by omega), if_pos ⟨by omega, by omega, by omega⟩, bsome, Int.toNat_natCast]
      dsimp only
      by_cases h0 : 0 ≤ (rune (s.drop i)).1
      · rw [if_pos h0, ← Int.natCast_add, chk_ok (by omega) (by omega), bsome, cut_of rfl rfl (by omega) (by omega), bsome, List.drop_take, Nat.add_sub_cancel_left, cat_ok (by rw [List.length_take]; omega), bsome, bsome, bsome, decide_eq_false (by omega), fix_ok b hl h0,
          ih (d - (rune (s.drop i)).2) (by omega) (i + (rune (s.drop i)).2) m false _ (by omega) (by omega) (by omega) (by rw [List.length_append, List.length_take]; omega), List.append_assoc, List.drop_drop]
      · have hr := Utf.rune_neg _ (by omega : (rune (s.drop i)).1 < 0)
        rw [if_neg h0, hr, fix_bad b hl (by omega)]
        have e : ((if b = true then some acc else (R_Utf8 (-1)).bind fun s20 => (cat acc s20).bind fun s22 => some s22) : Option (List UInt8)) = some (acc ++ (if b = true then [] else [239, 191, 189])) := by
          cases b with
          | true => rw [if_pos rfl, if_pos rfl, List.append_nil]
          | false =>
            unfold R_Utf8
            rw [if_neg (by decide), bsome, show utf8 (-1) = [239, 191, 189] from by decide, cat_ok (by simp; omega), bsome]; rfl
        rw [e, bsome, show ((i : Int) + ((1 : Nat) : Int)) = ((i + 1 : Nat) : Int) by omega, chk_ok (by omega) (by omega), bsome, decide_eq_true (by decide),
          ih (d - 1) (by omega) (i + 1) m true _ (by omega) (by omega) (by omega) (by cases b <;> simp <;> omega), List.append_assoc, List.drop_drop]
    · rw [if_neg (by omega), List.drop_eq_nil_of_le (by omega), fix_nil, List.append_nil]
theorem repaired_eq (s : List UInt8) (hs : s.length ≤ 100000000) : R_repaired s = some (fix false s) := by
  unfold R_repaired
  have := repaired_L1 s hs s.length 0 FU false [] (by omega) (FU_gt (by omega)) (by omega) (by simp)
  rw [Int.natCast_zero, List.drop_zero, List.nil_append] at this
  rw [this, bsome]
theorem tv_L1 (s : List UInt8) : ∀ (d i m : Nat), s.length - i ≤ d → d < m → i ≤ s.length →
    ∃ o, tvL1 s m i = some o ∧ match o with | none => fix false (s.drop i) = s.drop i | some j => i ≤ j ∧ j < s.length ∧ fix false (s.drop i) = (s.drop i).take (j - i) ++ fix false (s.drop j) := by
  intro d
  induction d using Nat.strongRecOn with
  | ind d ih =>
    intro i m h1 h2 h3
    obtain ⟨m, rfl⟩ : ∃ k, m = k + 1 := ⟨m - 1, by omega⟩
    rw [tvL1]
    by_cases hi : i < s.length
    · have hl : s.drop i ≠ [] := by rw [Ne, List.drop_eq_nil_iff]; omega
      obtain ⟨r1, r3, r2⟩ := Utf.rune_size (s.drop i)
      have r2' := r2 hl
      rw [List.length_drop] at r2'
      rw [if_pos hi]
      have hgo : ¬ (((dr (s.drop i)).1 : Int) = 65533 ∧ ((dr (s.drop i)).2 : Int) = 1) → ∃ o, tvL1 s m (i + (dr (s.drop i)).2) = some o ∧ match o with | none => fix false (s.drop i) = s.drop i | some j => i ≤ j ∧ j < s.length ∧ fix false (s.drop i) = (s.drop i).take (j - i) ++ fix false (s.drop j) := by
        intro hok
        obtain ⟨k1, _, k2⟩ := Utf.first_ok _ hok
        rw [k2]
        obtain ⟨o, ho, hm⟩ := ih (d - (rune (s.drop i)).2) (by omega) (i + (rune (s.drop i)).2) m (by omega) (by omega) (by omega)
        refine ⟨o, ho, ?_⟩
        cases o with
        | none =>
          dsimp only at hm ⊢
          rw [fix_ok false hl k1, List.drop_drop, hm, ← List.drop_drop, List.take_append_drop]
        | some j =>
          dsimp only at hm ⊢
          obtain ⟨m1, m2, m3⟩ := hm
          refine ⟨by omega, m2, ?_⟩
          rw [fix_ok false hl k1, List.drop_drop, m3, ← List.append_assoc]
          congr 1
          rw [← List.drop_drop, show j - i = (rune (s.drop i)).2 + (j - (i + (rune (s.drop i)).2)) by omega, List.take_add]
      by_cases c1 : ((dr (s.drop i)).1 : Int) = (65533 : Int)
      · rw [if_pos c1]
        by_cases c2 : ((dr (s.drop i)).2 : Int) = (1 : Int)
        · rw [if_pos c2]
          exact ⟨_, rfl, Nat.le_refl _, hi, by rw [Nat.sub_self]; rfl⟩
        · rw [if_neg c2]
          exact hgo (fun h => c2 h.2)
      · rw [if_neg c1]
        exact hgo (fun h => c1 h.1)
    · rw [if_neg hi]
      refine ⟨_, rfl, ?_⟩
      dsimp only
      rw [List.drop_eq_nil_of_le (by omega), fix_nil]
theorem rune_big {t : List UInt8} (hl : t ≠ []) (h : 128 ≤ Utf.nat t 0) (h0 : 0 ≤ (rune t).1) : (rune t).2 ≠ 1 := by
  intro h1
  have hu := Chs.utf8_rune t hl h0
  have hp := List.length_pos_iff.2 hl
  rw [h1, Chs.take_utf8_1 hp] at hu
  have hm : utf8 (rune t).1 = Chs.utf8M (rune t).1 := by
    obtain ⟨a, b⟩ := Chs.rune_valid t h0
    unfold Chs.utf8
    rw [Chs.fixN_id h0 a b]
  rw [hm] at hu
  unfold Chs.utf8M at hu
  split at hu
  · rename_i hlt
    have e := (List.cons.inj hu).1
    have h2 := Chs.ub_nat h0 (by omega)
    have h3 := Chs.ub_nat (a := (Utf.nat t 0 : Int)) (by omega) (by have := Utf.nat_lt t 0; omega)
    rw [e, h3] at h2
    omega
  · split at hu
    · simp at hu
    · split at hu <;> simp at hu
theorem write_eq (l s : List UInt8) (h : l.length + s.length ≤ 100000000) : strings_Builder_WriteString l s = some ((s.length : Int), true, l ++ s) := by
  unfold strings_Builder_WriteString
  rw [app_ok (by omega), bsome]
theorem writeB_eq (l : List UInt8) (c : UInt8) (h : l.length ≤ 10000000) : strings_Builder_WriteByte l c = some (true, l ++ [c]) := by
  unfold strings_Builder_WriteByte
  rw [app_ok (by simp; omega), bsome]
theorem tv_L2 (s : List UInt8) (hs : s.length ≤ 1000000) : ∀ (d i m : Nat) (b : Bool) (acc : List UInt8), s.length - i ≤ d → d < m → i ≤ s.length → acc.length ≤ 1000000 + 4 * i →
    strings_ToValidUTF8_L2 [239, 191, 189] s m acc b (i : Int) = some (acc ++ fix b (s.drop i)) := by
  intro d
  induction d using Nat.strongRecOn with
  | ind d ih =>
    intro i m b acc h1 h2 h3 h4
    obtain ⟨m, rfl⟩ : ∃ k, m = k + 1 := ⟨m - 1, by omega⟩
    rw [strings_ToValidUTF8_L2]
    by_cases hi : i < s.length
    · have hl : s.drop i ≠ [] := by rw [Ne, List.drop_eq_nil_iff]; omega
      obtain ⟨r1, r3, r2⟩ := Utf.rune_size (s.drop i)
      have r2' := r2 hl
      rw [List.length_drop] at r2'
      have hdi := List.drop_eq_getElem_cons hi
      have hnat : Utf.nat (s.drop i) 0 = s[i].toNat := by rw [hdi]; exact Chs.nat_head _ _
      rw [if_pos (by omega), idx_nat, List.getElem?_eq_getElem hi, bsome]
      by_cases h128 : s[i].toNat < 128
      · have hr := Utf.rune_ascii (l := s.drop i) (by omega)
        rw [if_pos h128, chk_succ (by omega), bsome, writeB_eq _ _ (by omega), bsome]
        dsimp only
        rw [ih (d - 1) (by omega) (i + 1) m false _ (by omega) (by omega) (by omega) (by simp; omega), fix_ok b hl (by rw [hr]; dsimp only; omega), hr]
        dsimp only
        rw [List.drop_drop, List.append_assoc]
        congr 2
        rw [hdi]; rfl
      · rw [if_neg h128, cut_from rfl (by omega), bsome]
        unfold utf8_DecodeRuneInString
        rw [if_pos hl, bsome]
        dsimp only
        by_cases h1s : ((dr (s.drop i)).2 : Int) = 1
        · have hbad : (rune (s.drop i)).1 < 0 := by
            by_cases h0 : 0 ≤ (rune (s.drop i)).1
            · exfalso
              have := rune_big hl (by omega) h0
              have hd := Utf.rune_dr (s.drop i)
              rw [if_neg (by omega)] at hd
              rw [hd] at h1s
              dsimp only at h1s
              omega
            · omega
          rw [if_pos h1s, chk_succ (by omega), bsome, fix_bad b hl hbad, List.drop_drop]
          have e : ((if b = true then some (acc, true) else (strings_Builder_WriteString acc [239, 191, 189]).bind fun (n76, b77, l78) => some (l78, true)) : Option (List UInt8 × Bool)) = some (acc ++ (if b = true then [] else [239, 191, 189]), true) := by
            cases b with
            | true => rw [if_pos rfl, if_pos rfl, List.append_nil]
            | false => rw [if_neg (by decide), write_eq _ _ (by simp; omega), bsome]; rfl
          rw [e, bsome]
          dsimp only
          rw [ih (d - 1) (by omega) (i + 1) m true _ (by omega) (by omega) (by omega) (by cases b <;> simp <;> omega), List.append_assoc]
        · obtain ⟨k1, _, k2⟩ := Utf.first_ok (s.drop i) (fun h => h1s h.2)
          rw [if_neg h1s, k2, ← Int.natCast_add, chk_ok (by omega) (by omega), bsome, cut_of rfl rfl (by omega) (by omega), bsome, List.drop_take, Nat.add_sub_cancel_left, write_eq _ _ (by rw [List.length_take]; omega), bsome]
          dsimp only
          rw [bsome, ih (d - (rune (s.drop i)).2) (by omega) (i + (rune (s.drop i)).2) m false _ (by omega) (by omega) (by omega) (by rw [List.length_append, List.length_take]; omega), fix_ok b hl k1, List.drop_drop, List.append_assoc]
    · rw [if_neg (by omega), List.drop_eq_nil_of_le (by omega), fix_nil, List.append_nil]
theorem toValid_eq (s : List UInt8) (hs : s.length ≤ 1000000) : strings_ToValidUTF8 s [239, 191, 189] = some (fix false s) := by
  unfold strings_ToValidUTF8
  rw [if_pos ⟨hs, by simp, by simp⟩]
  obtain ⟨o, ho, hm⟩ := tv_L1 s s.length 0 FU (by omega) (FU_gt (by omega)) (by omega)
  rw [ho, bsome]
  cases o with
  | none =>
    dsimp only at hm ⊢
    rw [List.drop_zero] at hm
    rw [hm]
  | some j =>
    dsimp only at hm ⊢
    obtain ⟨m1, m2, m3⟩ := hm
    rw [List.drop_zero, Nat.sub_zero] at m3
    have := tv_L2 (s.drop j) (by rw [List.length_drop]; omega) (s.drop j).length 0 FU false (s.take j) (by omega) (FU_gt (by rw [List.length_drop]; omega)) (by omega) (by rw [List.length_take]; omega)
    rw [Int.natCast_zero, List.drop_zero] at this
    unfold strings_Builder_String
    rw [this, bsome, bsome, m3]
end Go.Ph.Md
end
section
namespace Go.Ph.Md
open Go.Ph.Pl Go.Ph.Pf
open Go.Ph.Chs (vld lower)
def tot (l : List Pce) : Nat := (l.map fun p => p.2.2.2.length).sum
theorem tot_cons (p : Pce) (l : List Pce) : tot (p :: l) = p.2.2.2.length + tot l := by unfold tot; rw [List.map_cons, List.sum_cons]
theorem tot_filter (f : Pce → Bool) : ∀ l : List Pce, tot (l.filter f) ≤ tot l
  | [] => Nat.le_refl _
  | p :: l => by
    have := tot_filter f l
    rw [tot_cons, List.filter_cons]
    split
    · rw [tot_cons]; omega
    · omega
theorem tot_perm {a b : List Pce} (h : a.Perm b) : tot a = tot b := by
  induction h with
  | nil => rfl
  | cons x _ ih => rw [tot_cons, tot_cons, ih]
  | swap x y l => rw [tot_cons, tot_cons, tot_cons, tot_cons]; omega
  | trans _ _ h1 h2 => rw [h1, h2]
theorem tot_txt : ∀ l : List Pce, (l.flatMap txt).length ≤ tot l
  | [] => Nat.le_refl _
  | p :: l => by
    have := tot_txt l
    have := txt_len p
    rw [List.flatMap_cons, List.length_append, tot_cons]; omega
theorem tot_mem {l : List Pce} {p : Pce} (h : p ∈ l) : p.2.2.2.length ≤ tot l := by
  induction l with
  | nil => cases h
  | cons q l ih =>
    rw [tot_cons]
    rcases List.mem_cons.1 h with rfl | h
    · omega
    · have := ih h; omega
structure Fit (l : List Pce) : Prop where
  len : l.length ≤ 4000
  tot : tot l ≤ 4000
  ok : ∀ p ∈ l, pcOk p ∧ p.1.length ≤ 4000
def smQ (p x : Pce) : Bool := decide (lower x.1 = lower p.1)
def grp (l : List Pce) (p : Pce) : List Pce := l.filter (smQ p)
theorem params_1_eq {x p : Pce} (hx : x.1.length ≤ 4000) (hp : p.1.length ≤ 4000) : media_params_1 x p = some (smQ p x) := by
  unfold media_params_1
  rw [same_eq (by unfold Big; omega) (by unfold Big; omega), bsome]; rfl
theorem indexQ (l : List Pce) (hl : l.length ≤ 4000) (f : Pce → Option Bool) (p : Pce → Bool) (hf : ∀ x ∈ l, f x = some (p x)) : slices_ContainsFunc_piece l f = some (l.any p) := by
  unfold slices_ContainsFunc_piece slices_IndexFunc_piece
  rcases scanP (fun m i => slices_IndexFunc_piece_L1 l f m i) l (fun i x => if p x = true then some (.inr (i : Int)) else none) (.inl ()) (fun m => by rw [slices_IndexFunc_piece_L1, if_neg (by omega)]) (fun m i h => by
    rw [slices_IndexFunc_piece_L1, if_pos (by omega), idx_nat, List.getElem?_eq_getElem h, bsome]
    have e : f (l[i].1, l[i].2.1, l[i].2.2.1, l[i].2.2.2) = some (p l[i]) := hf _ (List.getElem_mem h)
    rw [e, bsome, chk_succ (by omega), bsome]
    cases p l[i] <;> rfl) l.length 0 FU (by omega) (FU_gt (by omega)) (by omega) with ⟨j, hj, r, a1, a2, a3, a4⟩ | ⟨a1, a2⟩
  · rw [Int.natCast_zero] at a4
    have hp : p l[j] = true := by
      cases h : p l[j] with
      | true => rfl
      | false => rw [h, if_neg (by decide)] at a2; cases a2
    rw [hp, if_pos rfl] at a2
    cases a2
    rw [a4, bsome, bsome]
    rw [show l.any p = true from List.any_eq_true.2 ⟨_, List.getElem_mem hj, hp⟩, decide_eq_true (by omega)]
  · rw [Int.natCast_zero] at a2
    rw [a2, bsome, bsome]
    have : l.any p = false := by
      rw [List.any_eq_false]
      intro x hx hp
      obtain ⟨i, hi, rfl⟩ := List.getElem_of_mem hx
      have := a1 i hi (by omega)
      rw [hp, if_pos rfl] at this
      cases this
    rw [this]; rfl
theorem foldl_filt {α : Type} (p : α → Bool) : ∀ (l : List α) (o : List α), l.foldl (fun o x => if p x = true then o ++ [x] else o) o = o ++ l.filter p
  | [], o => by simp
  | x :: l, o => by
    rw [List.foldl_cons, foldl_filt p l]
    by_cases h : p x = true
    · rw [if_pos h, List.filter_cons_of_pos h]; simp
    · rw [if_neg h, List.filter_cons_of_neg h]
theorem group_eq (l : List Pce) (hl : Fit l) (p : Pce) (hp : p.1.length ≤ 4000) : media_params_L2 l p FU [] 0 = some (grp l p) := by
  have hlen := hl.len
  rw [foldI0 (L := fun m s i => media_params_L2 l p m s i) l (fun o x => if smQ p x = true then o ++ [x] else o) id (fun i s => s.length ≤ i) (by omega) ?_ ?_ [] (by simp), foldl_filt]
  · rfl
  · intro m s hs
    rw [media_params_L2, if_neg (by omega)]; rfl
  · intro m s i x hx hs
    have hi := (List.getElem?_eq_some_iff.1 hx).1
    have hxo := (hl.ok x (List.mem_of_getElem? hx)).2
    refine ⟨by split <;> (try rw [List.length_append, List.length_singleton]) <;> omega, ?_⟩
    rw [media_params_L2, if_pos (by omega), idx_nat, hx, bsome, show media_params_1 (x.1, x.2.1, x.2.2.1, x.2.2.2) (p.1, p.2.1, p.2.2.1, p.2.2.2) = some (smQ p x) from params_1_eq hxo hp, bsome]
    by_cases h : smQ p x = true
    · rw [if_pos h, if_pos h, app_ok (by simp; omega), bsome, chk_succ (by omega), bsome]
    · rw [if_neg h, if_neg h, chk_succ (by omega), bsome]
def upF (lo : Int) : Nat → List Int
  | 0 => []
  | k + 1 => lo :: upF (lo + 1) k
theorem up_mem : ∀ (k : Nat) (lo n : Int), n ∈ upF lo k ↔ lo ≤ n ∧ n < lo + k
  | 0, lo, n => by simp [upF]
  | k + 1, lo, n => by
    rw [upF, List.mem_cons, up_mem k (lo + 1) n]; omega
theorem up_of : ∀ (k : Nat) (lo : Int) (f : List Int), f.Pairwise (· ≤ ·) → f.length = k → (∀ n, lo ≤ n → n < lo + k → n ∈ f) → f = upF lo k
  | 0, lo, f, _, hl, _ => List.eq_nil_of_length_eq_zero hl
  | k + 1, lo, [], _, hl, _ => by simp at hl
  | k + 1, lo, x :: r, hs, hl, hm => by
    obtain ⟨h1, h2⟩ := List.pairwise_cons.1 hs
    have hl' : r.length = k := by simpa using hl
    have hx : x ≤ lo := by
      rcases List.mem_cons.1 (hm lo (by omega) (by omega)) with e | e
      · omega
      · exact h1 lo e
    have hr : r = upF (lo + 1) k := up_of k (lo + 1) r h2 hl' (fun n a b => by
      rcases List.mem_cons.1 (hm n (by omega) (by omega)) with e | e
      · omega
      · exact e)
    rcases Int.lt_or_eq_of_le hx with h | h
    · exfalso
      rcases List.mem_cons.1 (hm lo (by omega) (by omega)) with e | e
      · omega
      · rw [hr, up_mem] at e; omega
    · rw [upF, hr, h]
theorem up_nodup : ∀ (k : Nat) (lo : Int), (upF lo k).Nodup
  | 0, lo => List.nodup_nil
  | k + 1, lo => by
    rw [upF, List.nodup_cons]
    exact ⟨fun h => by rw [up_mem] at h; omega, up_nodup k (lo + 1)⟩
theorem up_get : ∀ (k : Nat) (lo : Int) (i : Nat), i < k → (upF lo k)[i]? = some (lo + i)
  | 0, lo, i, h => by omega
  | k + 1, lo, 0, h => by rw [upF]; simp
  | k + 1, lo, i + 1, h => by rw [upF, List.getElem?_cons_succ, up_get k (lo + 1) i (by omega)]; congr 1; omega
abbrev nums (l : List Pce) : List Int := l.map fun p => p.2.1
def okG (g : List Pce) : Prop := nums (sortP g) = upF 0 g.length
instance (g : List Pce) : Decidable (okG g) := by unfold okG; infer_instance
theorem sort_nums {g : List Pce} (h : ∀ p ∈ g, pcOk p) : (nums (sortP g)).Pairwise (· ≤ ·) := by
  have := sortP_sorted h
  rw [List.pairwise_map]
  exact this
theorem okG_iff {g : List Pce} (h : ∀ p ∈ g, pcOk p) : okG g ↔ ∀ n : Int, 0 ≤ n → n < g.length → ∃ p ∈ g, p.2.1 = n := by
  have hp := sortP_perm h
  constructor
  · intro ho n a b
    have : n ∈ nums (sortP g) := by rw [ho, up_mem]; omega
    obtain ⟨p, h1, h2⟩ := List.mem_map.1 this
    exact ⟨p, hp.mem_iff.1 h1, h2⟩
  · intro ha
    refine up_of _ 0 _ (sort_nums h) (by rw [List.length_map, hp.length_eq]) (fun n a b => ?_)
    obtain ⟨p, h1, h2⟩ := ha n a (by omega)
    exact List.mem_map.2 ⟨p, hp.mem_iff.2 h1, h2⟩
theorem okG_nodup {g : List Pce} (h : ∀ p ∈ g, pcOk p) (ho : okG g) : (nums g).Nodup := by
  have hp := (sortP_perm h).map (fun p : Pce => p.2.1)
  have : (nums (sortP g)).Nodup := by rw [ho]; exact up_nodup _ _
  exact hp.nodup_iff.1 this
theorem sort_at {g : List Pce} (h : ∀ p ∈ g, pcOk p) (ho : okG g) {i : Nat} {p : Pce} (hi : (sortP g)[i]? = some p) : p.2.1 = (i : Int) := by
  have h1 : (nums (sortP g))[i]? = some p.2.1 := by rw [List.getElem?_map, hi]; rfl
  have hl := (List.getElem?_eq_some_iff.1 hi).1
  rw [(sortP_perm h).length_eq] at hl
  rw [ho, up_get _ 0 i hl] at h1
  have := oI h1
  omega
theorem sort_ex {g : List Pce} (h : ∀ p ∈ g, pcOk p) (hl : g.length ≤ 1000000) (hne : g ≠ []) : slices_SortFunc_piece g = some (sortP g) := by
  cases hs : slices_SortFunc_piece g with
  | none =>
    unfold slices_SortFunc_piece at hs
    rw [if_pos ⟨h, hl, hne⟩] at hs
    split at hs <;> cases hs
  | some r => rw [(sort_some hs).2.2.2]
def jnV (g : List Pce) : Option (List UInt8) :=
  match g with
  | [] => none
  | p :: r => if p.2.1 < 0 then (if r = [] then some p.2.2.2 else none) else if okG (p :: r) then some (fix false ((sortP (p :: r)).flatMap txt)) else none
theorem joined_L1 (l : List Pce) (hl : l.length ≤ 4000) (ht : tot l ≤ 4000) (s13 s14 s15 : List UInt8) : ∀ (d i m : Nat) (acc : List UInt8), l.length - i ≤ d → d < m → i ≤ l.length → acc.length + tot (l.drop i) ≤ 4000 →
    ∃ o, media_joined_L1 l m s13 s14 s15 acc (i : Int) = some o ∧ (nums (l.drop i) = upF (i : Int) (l.length - i) → o = .inl (s13, s14, s15, acc ++ (l.drop i).flatMap txt)) ∧ (¬ nums (l.drop i) = upF (i : Int) (l.length - i) → ∃ x, o = .inr (x, false)) := by
  intro d
  induction d with
  | zero =>
    intro i m acc h1 h2 h3 h4
    obtain ⟨m, rfl⟩ : ∃ k, m = k + 1 := ⟨m - 1, by omega⟩
    rw [media_joined_L1, if_neg (by omega), List.drop_eq_nil_of_le (by omega), show l.length - i = 0 by omega]
    exact ⟨_, rfl, fun _ => by rw [List.flatMap_nil, List.append_nil], fun h => absurd rfl h⟩
  | succ d ih =>
    intro i m acc h1 h2 h3 h4
    obtain ⟨m, rfl⟩ : ∃ k, m = k + 1 := ⟨m - 1, by omega⟩
    by_cases hi : i < l.length
    · have hd := List.drop_eq_getElem_cons hi
      rw [hd, tot_cons] at h4
      have hx := txt_len l[i]
      rw [media_joined_L1, if_pos (by omega), idx_nat, List.getElem?_eq_getElem hi, bsome, hd, show l.length - i = (l.length - (i + 1)) + 1 by omega, upF]
      by_cases hn : l[i].2.1 = (i : Int)
      · rw [if_pos hn, show ((l[i].1, l[i].2.1, l[i].2.2.1, l[i].2.2.2) : Pce) = l[i] from rfl, text_eq _ (by omega), bsome, cat_ok (by omega), bsome, chk_succ (by omega), bsome]
        obtain ⟨o, ho, hq⟩ := ih (i + 1) m (acc ++ txt l[i]) (by omega) (by omega) (by omega) (by rw [List.length_append]; omega)
        have he : nums (l[i] :: l.drop (i + 1)) = l[i].2.1 :: nums (l.drop (i + 1)) := rfl
        rw [he, hn, List.flatMap_cons, ← List.append_assoc]
        exact ⟨o, ho, fun e => hq.1 (List.cons.inj e).2, fun e => hq.2 (fun e' => e (by rw [e']; rfl))⟩
      · rw [if_neg hn]
        exact ⟨_, rfl, fun e => absurd (List.cons.inj (show l[i].2.1 :: nums (l.drop (i + 1)) = _ from e)).1 hn, fun _ => ⟨_, rfl⟩⟩
    · rw [media_joined_L1, if_neg (by omega), List.drop_eq_nil_of_le (by omega), show l.length - i = 0 by omega]
      exact ⟨_, rfl, fun _ => by rw [List.flatMap_nil, List.append_nil], fun h => absurd rfl h⟩
theorem joined_eq (g : List Pce) (hne : g ≠ []) (hg : Fit g) : ∃ x v b, media_joined g = some ((x, v), b) ∧ jnV g = if b = true then some v else none := by
  obtain ⟨p, r, rfl⟩ : ∃ p r, g = p :: r := by cases g with | nil => exact absurd rfl hne | cons p r => exact ⟨p, r, rfl⟩
  have hok : ∀ q ∈ p :: r, pcOk q := fun q hq => (hg.ok q hq).1
  have hp := sortP_perm hok
  have hl := hg.len
  have ht := hg.tot
  unfold media_joined jnV
  rw [show idx (p :: r) 0 = some p from rfl, bsome, bsome, bsome]
  dsimp only
  by_cases h0 : p.2.1 < 0
  · rw [if_pos h0, if_pos h0]
    refine ⟨_, _, _, rfl, ?_⟩
    by_cases hr : r = []
    · subst hr; rfl
    · rw [if_neg hr, decide_eq_false (by have := List.length_pos_iff.2 hr; simp; omega), if_neg (by decide)]
  · rw [if_neg h0, if_neg h0, sort_ex hok (by omega) (by simp), bsome]
    obtain ⟨o, ho, hq⟩ := joined_L1 (sortP (p :: r)) (by rw [hp.length_eq]; exact hl) (by rw [tot_perm hp]; exact ht) [] [] p.1 (sortP (p :: r)).length 0 FU [] (by omega) (FU_gt (by rw [hp.length_eq]; omega)) (by omega) (by rw [List.drop_zero, tot_perm hp, List.length_nil]; omega)
    rw [Int.natCast_zero, List.drop_zero, Nat.sub_zero, List.nil_append, hp.length_eq] at hq
    rw [Int.natCast_zero] at ho
    rw [ho, bsome]
    have hx := tot_txt (sortP (p :: r))
    rw [tot_perm hp] at hx
    by_cases hk : okG (p :: r)
    · rw [if_pos hk]
      have hq := hq.1 hk
      subst hq
      dsimp only
      rw [toValid_eq _ (by omega), bsome]
      exact ⟨_, _, _, rfl, by rw [if_pos rfl]⟩
    · rw [if_neg hk]
      obtain ⟨⟨x, y⟩, rfl⟩ := hq.2 hk
      exact ⟨_, _, _, rfl, by rw [if_neg (by decide)]⟩
def parI (l : List Pce) (pre : List Pce) : List Pce → Option (List Par)
  | [] => some []
  | p :: r => if pre.any (smQ p) = true then parI l (pre ++ [p]) r else (jnV (grp l p)).bind fun v => (parI l (pre ++ [p]) r).map fun q => (p.1, v) :: q
theorem grp_fit {l : List Pce} (h : Fit l) (p : Pce) : Fit (grp l p) := by
  refine ⟨Nat.le_trans (List.length_filter_le _ _) h.len, Nat.le_trans (tot_filter _ _) h.tot, fun q hq => h.ok q (List.mem_filter.1 hq).1⟩
theorem grp_mem {l : List Pce} {p : Pce} (h : p ∈ l) : p ∈ grp l p := List.mem_filter.2 ⟨h, by unfold smQ; exact decide_eq_true rfl⟩
theorem params_L1 (l : List Pce) (hl : Fit l) : ∀ (d i m : Nat) (out : List Par), l.length - i ≤ d → d < m → i ≤ l.length → out.length ≤ i →
    media_params_L1 l m out (i : Int) = some (match parI l (l.take i) (l.drop i) with | some q => .inl (out ++ q) | none => .inr ([], false)) := by
  have hlen := hl.len
  intro d
  induction d with
  | zero =>
    intro i m out h1 h2 h3 h4
    obtain ⟨m, rfl⟩ : ∃ k, m = k + 1 := ⟨m - 1, by omega⟩
    rw [media_params_L1, if_neg (by omega), List.drop_eq_nil_of_le (by omega), parI]
    dsimp only
    rw [List.append_nil]
  | succ d ih =>
    intro i m out h1 h2 h3 h4
    obtain ⟨m, rfl⟩ : ∃ k, m = k + 1 := ⟨m - 1, by omega⟩
    by_cases hi : i < l.length
    · have hmem := List.getElem_mem hi
      have hpo := (hl.ok _ hmem).2
      rw [media_params_L1, if_pos (by omega), idx_nat, List.getElem?_eq_getElem hi, bsome, cut_to rfl (by omega), bsome, List.drop_eq_getElem_cons hi, parI, ← take_drop_cons hi,
        indexQ (l.take i) (by rw [List.length_take]; omega) _ (smQ l[i]) (fun x hx => params_1_eq (hl.ok x (List.mem_of_mem_take hx)).2 hpo), bsome]
      by_cases ha : (l.take i).any (smQ l[i]) = true
      · rw [if_pos ha, if_pos ha, chk_succ (by omega), bsome, ih (i + 1) m out (by omega) (by omega) (by omega) (by omega)]
      · rw [if_neg ha, if_neg ha, group_eq l hl _ hpo, bsome]
        obtain ⟨x, v, b, hj, hv⟩ := joined_eq (grp l l[i]) (List.ne_nil_of_mem (grp_mem hmem)) (grp_fit hl _)
        rw [hj, bsome, hv]
        dsimp only
        cases b with
        | false => rfl
        | true =>
          rw [if_pos rfl, if_pos rfl, app_ok (by simp; omega), bsome, chk_succ (by omega), bsome, ih (i + 1) m _ (by omega) (by omega) (by omega) (by simp; omega), bsome]
          cases parI l (l.take (i + 1)) (l.drop (i + 1)) with
          | none => rfl
          | some q => simp
    · rw [media_params_L1, if_neg (by omega), List.drop_eq_nil_of_le (by omega), parI]
      dsimp only
      rw [List.append_nil]
theorem params_eq (l : List Pce) (hl : Fit l) : media_params l = some (match parI l [] l with | some q => (q, true) | none => ([], false)) := by
  have hlen := hl.len
  unfold media_params
  have := params_L1 l hl l.length 0 FU [] (by omega) (FU_gt (by omega)) (by omega) (by simp)
  rw [Int.natCast_zero, List.drop_zero, List.take_zero] at this
  rw [this, bsome]
  cases parI l [] l with
  | none => rfl
  | some q => rfl
theorem alikeQ {x p : Pce} (hx : x.1.length ≤ 4000) (hp : p.1.length ≤ 4000) : R_Alike p.1 x.1 = some (smQ p x) := by
  rw [alike_eq (by unfold Big; omega) (by unfold Big; omega)]
  congr 1
  exact decide_eq_decide.2 eq_comm
theorem sw_at {l : List Pce} {i : Nat} (h : i < l.length) : idx (l.map sw) (i : Int) = some (sw l[i]) := by
  rw [idx_nat, List.getElem?_map, List.getElem?_eq_getElem h]; rfl
theorem rseen (l : List Pce) (hl : Fit l) (a : Nat) (ha : a < l.length) : R_MediaRead_L4 (l.map sw) (a : Int) FU false 0 = some ((l.take a).any (smQ l[a])) := by
  have hlen := hl.len
  have hf : ∀ (q : List Pce) (b : Bool), q.foldl (fun b x => b || smQ l[a] x) b = (b || q.any (smQ l[a])) := by
    intro q
    induction q with
    | nil => intro b; simp
    | cons x q ih => intro b; rw [List.foldl_cons, ih, List.any_cons, Bool.or_assoc]
  have hla : (l.take a).length = a := by rw [List.length_take]; omega
  have := foldI0 (L := fun m b i => R_MediaRead_L4 (l.map sw) (a : Int) m b i) (l.take a) (fun b x => b || smQ l[a] x) id (fun _ _ => True) (by omega) ?_ ?_ false trivial
  · rw [this, hf, Bool.false_or]; rfl
  · intro m b _
    rw [R_MediaRead_L4, if_neg (by omega)]; rfl
  · intro m b i x hx _
    have hi := (List.getElem?_eq_some_iff.1 hx).1
    rw [hla] at hi
    have hxl : x = l[i] := by
      rw [List.getElem?_take_of_lt hi, List.getElem?_eq_getElem (by omega)] at hx
      exact (oI hx).symm
    refine ⟨trivial, ?_⟩
    rw [R_MediaRead_L4, if_pos (by omega), sw_at ha, bsome, sw_at (by omega : i < l.length), bsome, chk_succ (by omega)]
    rw [show R_Alike (sw l[a]).1 (sw l[i]).1 = some (smQ l[a] l[i]) from alikeQ (hl.ok _ (List.getElem_mem _)).2 (hl.ok _ (List.getElem_mem _)).2, bsome, hxl]
    have e : (if b = true then some true else some (smQ l[a] l[i])) = some (b || smQ l[a] l[i]) := by cases b <;> rfl
    rw [e, bsome, bsome]
theorem rcount (l : List Pce) (hl : Fit l) (a : Nat) (ha : a < l.length) : R_MediaRead_L5 (l.map sw) (a : Int) FU 0 0 = some ((grp l l[a]).length : Int) := by
  have hlen := hl.len
  have hf : ∀ (q : List Pce) (n : Nat), q.foldl (fun n x => if smQ l[a] x = true then n + 1 else n) n = n + (q.filter (smQ l[a])).length := by
    intro q
    induction q with
    | nil => intro n; simp
    | cons x q ih =>
      intro n
      rw [List.foldl_cons, ih, List.filter_cons]
      split
      · rw [List.length_cons]; omega
      · omega
  have := foldI0 (L := fun m (n : Nat) i => R_MediaRead_L5 (l.map sw) (a : Int) m (n : Int) i) l (fun n x => if smQ l[a] x = true then n + 1 else n) (fun n => (n : Int)) (fun i n => n ≤ i) (by omega) ?_ ?_ 0 (by omega)
  · rw [hf, Nat.zero_add] at this
    exact this
  · intro m n _
    rw [R_MediaRead_L5, if_neg (by rw [List.length_map]; omega)]
  · intro m n i x hx hn
    have hi := (List.getElem?_eq_some_iff.1 hx).1
    have hxl : x = l[i] := by rw [List.getElem?_eq_getElem hi] at hx; exact (oI hx).symm
    refine ⟨by split <;> omega, ?_⟩
    rw [R_MediaRead_L5, if_pos (by rw [List.length_map]; omega), sw_at ha, bsome, sw_at hi, bsome, show R_Alike (sw l[a]).1 (sw l[i]).1 = some (smQ l[a] l[i]) from alikeQ (hl.ok _ (List.getElem_mem _)).2 (hl.ok _ (List.getElem_mem _)).2, bsome, hxl]
    by_cases h : smQ l[a] l[i] = true
    · rw [if_pos h, if_pos h, chk_succ (by omega), bsome, chk_succ (by omega), bsome]
    · rw [if_neg h, if_neg h, chk_succ (by omega), bsome]
theorem rfound (l : List Pce) (hl : Fit l) (a : Nat) (ha : a < l.length) (n : Int) :
    (R_MediaRead_L7 (l.map sw) (a : Int) n FU (-1) 0 = some (-1) ∧ ∀ p ∈ grp l l[a], p.2.1 ≠ n) ∨ ∃ (b : Nat) (hb : b < l.length), R_MediaRead_L7 (l.map sw) (a : Int) n FU (-1) 0 = some (b : Int) ∧ l[b] ∈ grp l l[a] ∧ l[b].2.1 = n := by
  have hlen := hl.len
  have key : ∀ (d i m : Nat) (c : Int), l.length - i ≤ d → d < m → i ≤ l.length →
      (R_MediaRead_L7 (l.map sw) (a : Int) n m c (i : Int) = some c ∧ ∀ p ∈ l.drop i, smQ l[a] p = true → p.2.1 ≠ n) ∨ ∃ (b : Nat) (hb : b < l.length), R_MediaRead_L7 (l.map sw) (a : Int) n m c (i : Int) = some (b : Int) ∧ smQ l[a] l[b] = true ∧ l[b].2.1 = n := by
    intro d
    induction d with
    | zero =>
      intro i m c h1 h2 h3
      obtain ⟨m, rfl⟩ : ∃ k, m = k + 1 := ⟨m - 1, by omega⟩
      rw [R_MediaRead_L7, if_neg (by rw [List.length_map]; omega), List.drop_eq_nil_of_le (by omega)]
      exact .inl ⟨rfl, fun p hp => by cases hp⟩
    | succ d ih =>
      intro i m c h1 h2 h3
      obtain ⟨m, rfl⟩ : ∃ k, m = k + 1 := ⟨m - 1, by omega⟩
      by_cases hi : i < l.length
      · rw [R_MediaRead_L7, if_pos (by rw [List.length_map]; omega), sw_at ha, bsome, sw_at hi, bsome, show R_Alike (sw l[a]).1 (sw l[i]).1 = some (smQ l[a] l[i]) from alikeQ (hl.ok _ (List.getElem_mem _)).2 (hl.ok _ (List.getElem_mem _)).2, bsome, bsome, chk_succ (by omega), bsome, bsome, show (sw l[i]).2.2.1 = l[i].2.1 from rfl, List.drop_eq_getElem_cons hi]
        have e : (if smQ l[a] l[i] = true then some (decide (l[i].2.1 = n)) else some false) = some (smQ l[a] l[i] && decide (l[i].2.1 = n)) := by cases smQ l[a] l[i] <;> rfl
        rw [e, bsome]
        by_cases h : smQ l[a] l[i] = true ∧ l[i].2.1 = n
        · rw [h.1, decide_eq_true h.2, if_pos (by decide)]
          rcases ih (i + 1) m (i : Int) (by omega) (by omega) (by omega) with ⟨q1, _⟩ | ⟨b, hb, q1, q2, q3⟩
          · exact .inr ⟨i, hi, q1, h.1, h.2⟩
          · exact .inr ⟨b, hb, q1, q2, q3⟩
        · have hf : (smQ l[a] l[i] && decide (l[i].2.1 = n)) = false := by
            cases h1' : smQ l[a] l[i] with
            | false => rfl
            | true => rw [decide_eq_false (fun h2' => h ⟨h1', h2'⟩)]; rfl
          rw [hf, if_neg (by decide)]
          rcases ih (i + 1) m c (by omega) (by omega) (by omega) with ⟨q1, q2⟩ | ⟨b, hb, q1, q2, q3⟩
          · refine .inl ⟨q1, fun p hp hs hpn => ?_⟩
            rcases List.mem_cons.1 hp with rfl | hp
            · exact h ⟨hs, hpn⟩
            · exact q2 p hp hs hpn
          · exact .inr ⟨b, hb, q1, q2, q3⟩
      · rw [R_MediaRead_L7, if_neg (by rw [List.length_map]; omega), List.drop_eq_nil_of_le (by omega)]
        exact .inl ⟨rfl, fun p hp => by cases hp⟩
  rcases key l.length 0 FU (-1) (by omega) (FU_gt (by omega)) (by omega) with ⟨q1, q2⟩ | ⟨b, hb, q1, q2, q3⟩
  · refine .inl ⟨q1, fun p hp => ?_⟩
    obtain ⟨h1, h2⟩ := List.mem_filter.1 hp
    exact q2 p (by rw [List.drop_zero]; exact h1) h2
  · exact .inr ⟨b, hb, q1, List.mem_filter.2 ⟨List.getElem_mem hb, q2⟩, q3⟩
theorem rpart {γ : Type} (p : Pce) (hp : p.2.2.2.length ≤ 4000) (n : Int) (hn : p.2.1 = n) (k : List UInt8 → Option γ) :
    ((if (sw p).2.2.2 = true then ((if n = (0 : Int) then (if (6 : Int) ≤ ((sw p).2.1.length : Int) then (cut (sw p).2.1 0 6).bind fun s253 => (R_Lower s253).bind fun s254 => some (decide (s254 = [117, 116, 102, 56, 39, 39])) else some false) else some false)).bind fun b250 => ((if b250 = true then (cut (sw p).2.1 6 ((sw p).2.1.length : Int)).bind fun s261 => some s261 else some (sw p).2.1)).bind fun s259 => (R_unpercent s259).bind fun s263 => some s263 else some (sw p).2.1) : Option (List UInt8)).bind k = k (txt p) := by
  have := rtext1_eq p (by omega) n hn
  rw [show (sw p).2.2.2 = p.2.2.1 from rfl, show (sw p).2.1 = p.2.2.2 from rfl, this, bsome]
theorem rvalue_ok (l : List Pce) (hl : Fit l) (a : Nat) (ha : a < l.length) (hk : okG (grp l l[a])) (u v : List UInt8) (w : List Par) : ∀ (d i m : Nat) (acc : List UInt8), (grp l l[a]).length - i ≤ d → d < m → i ≤ (grp l l[a]).length → acc.length ≤ 4000 * i →
    R_MediaRead_L6 (l.map sw) (a : Int) ((grp l l[a]).length : Int) m u v w acc (i : Int) = some (.inl (u, v, w, acc ++ ((sortP (grp l l[a])).drop i).flatMap txt)) := by
  have hgf := grp_fit hl l[a]
  have hok : ∀ q ∈ grp l l[a], pcOk q := fun q hq => (hgf.ok q hq).1
  have hp := sortP_perm hok
  have hgl := hgf.len
  intro d
  induction d with
  | zero =>
    intro i m acc h1 h2 h3 h4
    obtain ⟨m, rfl⟩ : ∃ k, m = k + 1 := ⟨m - 1, by omega⟩
    rw [R_MediaRead_L6, if_neg (by omega), List.drop_eq_nil_of_le (by rw [hp.length_eq]; omega), List.flatMap_nil, List.append_nil]
  | succ d ih =>
    intro i m acc h1 h2 h3 h4
    obtain ⟨m, rfl⟩ : ∃ k, m = k + 1 := ⟨m - 1, by omega⟩
    by_cases hi : i < (grp l l[a]).length
    · have hi' : i < (sortP (grp l l[a])).length := by rw [hp.length_eq]; exact hi
      have hsn := sort_at hok hk (List.getElem?_eq_getElem hi')
      have hsm : (sortP (grp l l[a]))[i] ∈ grp l l[a] := hp.mem_iff.1 (List.getElem_mem hi')
      rw [R_MediaRead_L6, if_pos (by omega)]
      rcases rfound l hl a ha (i : Int) with ⟨_, q2⟩ | ⟨b, hb, q1, q2, q3⟩
      · exact absurd hsn (q2 _ hsm)
      · have he : l[b] = (sortP (grp l l[a]))[i] := nodup_inj (okG_nodup hok hk) _ q2 _ hsm (by rw [q3, hsn])
        have hbl : l[b].2.2.2.length ≤ 4000 := Nat.le_trans (tot_mem (List.getElem_mem hb)) hl.tot
        have htx := txt_len l[b]
        rw [q1, bsome, if_neg (by omega), sw_at hb, bsome, bsome, rpart l[b] hbl _ q3, cat_ok (by omega), bsome, chk_succ (by omega), bsome, ih (i + 1) m _ (by omega) (by omega) (by omega) (by rw [List.length_append]; omega), List.drop_eq_getElem_cons hi', List.flatMap_cons, ← he, List.append_assoc]
    · rw [R_MediaRead_L6, if_neg (by omega), List.drop_eq_nil_of_le (by rw [hp.length_eq]; omega), List.flatMap_nil, List.append_nil]
theorem rvalue_no (l : List Pce) (hl : Fit l) (a : Nat) (ha : a < l.length) (n0 : Nat) (hn0 : n0 < (grp l l[a]).length) (hno : ∀ p ∈ grp l l[a], p.2.1 ≠ (n0 : Int)) (u v : List UInt8) (w : List Par) : ∀ (d i m : Nat) (acc : List UInt8), n0 - i ≤ d → d < m → i ≤ n0 → acc.length ≤ 4000 * i →
    R_MediaRead_L6 (l.map sw) (a : Int) ((grp l l[a]).length : Int) m u v w acc (i : Int) = some (.inr (([], [], []), false)) := by
  have hgf := grp_fit hl l[a]
  have hgl := hgf.len
  intro d
  induction d with
  | zero =>
    intro i m acc h1 h2 h3 h4
    obtain ⟨m, rfl⟩ : ∃ k, m = k + 1 := ⟨m - 1, by omega⟩
    obtain rfl : i = n0 := by omega
    rw [R_MediaRead_L6, if_pos (by omega)]
    rcases rfound l hl a ha (i : Int) with ⟨q1, _⟩ | ⟨b, hb, q1, q2, q3⟩
    · rw [q1, bsome, if_pos (by decide)]
    · exact absurd q3 (hno _ q2)
  | succ d ih =>
    intro i m acc h1 h2 h3 h4
    obtain ⟨m, rfl⟩ : ∃ k, m = k + 1 := ⟨m - 1, by omega⟩
    rw [R_MediaRead_L6, if_pos (by omega)]
    rcases rfound l hl a ha (i : Int) with ⟨q1, _⟩ | ⟨b, hb, q1, q2, q3⟩
    · rw [q1, bsome, if_pos (by decide)]
    · have hbl : l[b].2.2.2.length ≤ 4000 := Nat.le_trans (tot_mem (List.getElem_mem hb)) hl.tot
      have htx := txt_len l[b]
      have hne : i ≠ n0 := fun e => hno _ q2 (by rw [q3, e])
      rw [q1, bsome, if_neg (by omega), sw_at hb, bsome, bsome, rpart l[b] hbl _ q3, cat_ok (by omega), bsome, chk_succ (by omega), bsome, ih (i + 1) m _ (by omega) (by omega) (by omega) (by rw [List.length_append]; omega)]
theorem okG_no {g : List Pce} (h : ∀ p ∈ g, pcOk p) (hk : ¬ okG g) : ∃ n0 : Nat, n0 < g.length ∧ ∀ p ∈ g, p.2.1 ≠ (n0 : Int) := by
  refine Classical.byContradiction fun hc => hk ((okG_iff h).2 fun n a b => ?_)
  obtain ⟨k, rfl⟩ := Int.eq_ofNat_of_zero_le a
  refine Classical.byContradiction fun hx => hc ⟨k, by omega, fun p hp e => hx ⟨p, hp, e⟩⟩
theorem grp_first {l : List Pce} {a : Nat} (ha : a < l.length) (hn : (l.take a).any (smQ l[a]) = false) : ∃ r, grp l l[a] = l[a] :: r := by
  have e : l = l.take a ++ l[a] :: l.drop (a + 1) := by rw [← List.drop_eq_getElem_cons ha, List.take_append_drop]
  have hnil : (l.take a).filter (smQ l[a]) = [] := by
    rw [List.filter_eq_nil_iff]
    intro x hx hs
    rw [List.any_eq_false] at hn
    exact hn x hx hs
  have hself : smQ l[a] l[a] = true := by unfold smQ; exact decide_eq_true rfl
  refine ⟨(l.drop (a + 1)).filter (smQ l[a]), ?_⟩
  unfold grp
  conv => lhs; arg 2; rw [e]
  rw [List.filter_append, hnil, List.nil_append, List.filter_cons_of_pos hself]
theorem rparams_L3 (l : List Pce) (hl : Fit l) (u v ty sb : List UInt8) (w : List Par) : ∀ (d a m : Nat) (out : List Par), l.length - a ≤ d → d < m → a ≤ l.length → out.length ≤ a →
    R_MediaRead_L3 (l.map sw) m u v w ty sb out (a : Int) = some (match parI l (l.take a) (l.drop a) with | some q => .inl (u, v, w, ty, sb, out ++ q) | none => .inr (([], [], []), false)) := by
  have hlen := hl.len
  intro d
  induction d with
  | zero =>
    intro a m out h1 h2 h3 h4
    obtain ⟨m, rfl⟩ : ∃ k, m = k + 1 := ⟨m - 1, by omega⟩
    rw [R_MediaRead_L3, if_neg (by rw [List.length_map]; omega), List.drop_eq_nil_of_le (by omega), parI]
    dsimp only
    rw [List.append_nil]
  | succ d ih =>
    intro a m out h1 h2 h3 h4
    obtain ⟨m, rfl⟩ : ∃ k, m = k + 1 := ⟨m - 1, by omega⟩
    by_cases ha : a < l.length
    · have hmem := List.getElem_mem ha
      have hgf := grp_fit hl l[a]
      have hok : ∀ q ∈ grp l l[a], pcOk q := fun q hq => (hgf.ok q hq).1
      have hp := sortP_perm hok
      have hgl := hgf.len
      rw [R_MediaRead_L3, if_pos (by rw [List.length_map]; omega), rseen l hl a ha, bsome, rcount l hl a ha, bsome, List.drop_eq_getElem_cons ha, parI, ← take_drop_cons ha, sw_at ha]
      cases hs : (l.take a).any (smQ l[a]) with
      | true => rw [if_pos rfl, if_pos rfl, chk_succ (by omega), bsome, ih (a + 1) m out (by omega) (by omega) (by omega) (by omega)]
      | false =>
        obtain ⟨r, hr⟩ := grp_first ha hs
        rw [if_neg Bool.false_ne_true, if_neg Bool.false_ne_true, bsome, show (sw l[a]).2.2.1 = l[a].2.1 from rfl]
        by_cases h0 : l[a].2.1 < 0
        · rw [if_pos h0]
          have hj : jnV (grp l l[a]) = if r = [] then some l[a].2.2.2 else none := by rw [hr]; unfold jnV; dsimp only; rw [if_pos h0]
          rw [hj]
          by_cases hr0 : r = []
          · rw [if_pos hr0, if_pos (by rw [hr, hr0]; rfl), bsome, bsome, show (sw l[a]).1 = l[a].1 from rfl, show (sw l[a]).2.1 = l[a].2.2.2 from rfl, app_ok (by simp; omega), bsome, chk_succ (by omega), bsome, ih (a + 1) m _ (by omega) (by omega) (by omega) (by simp; omega), bsome]
            cases parI l (l.take (a + 1)) (l.drop (a + 1)) with
            | none => rfl
            | some q => simp
          · rw [if_neg hr0, if_neg (by rw [hr]; have := List.length_pos_iff.2 hr0; simp; omega)]; rfl
        · rw [if_neg h0]
          have hj : jnV (grp l l[a]) = if okG (grp l l[a]) then some (fix false ((sortP (grp l l[a])).flatMap txt)) else none := by
            rw [hr]; unfold jnV; dsimp only; rw [if_neg h0]
          rw [hj]
          by_cases hk : okG (grp l l[a])
          · have hx := tot_txt (sortP (grp l l[a]))
            rw [tot_perm hp] at hx
            have ht := hgf.tot
            have hv := rvalue_ok l hl a ha hk u v w (grp l l[a]).length 0 FU [] (by omega) (FU_gt (by omega)) (by omega) (by simp)
            rw [Int.natCast_zero, List.drop_zero, List.nil_append] at hv
            rw [if_pos hk, hv, bsome]
            dsimp only
            rw [bsome, show (sw l[a]).1 = l[a].1 from rfl, repaired_eq _ (by omega), bsome, app_ok (by simp; omega), bsome, chk_succ (by omega), bsome, ih (a + 1) m _ (by omega) (by omega) (by omega) (by simp; omega)]
            cases parI l (l.take (a + 1)) (l.drop (a + 1)) with
            | none => rfl
            | some q => simp
          · obtain ⟨n0, hn0, hno⟩ := okG_no hok hk
            have hv := rvalue_no l hl a ha n0 hn0 hno u v w n0 0 FU [] (by omega) (FU_gt (by omega)) (by omega) (by simp)
            rw [Int.natCast_zero] at hv
            rw [if_neg hk, hv, bsome]; rfl
    · rw [R_MediaRead_L3, if_neg (by rw [List.length_map]; omega), List.drop_eq_nil_of_le (by omega), parI]
      dsimp only
      rw [List.append_nil]
end Go.Ph.Md
end
section
namespace Go.Ph.Md
open Go.Ph.Pl Go.Ph.Pf
open Go.Ph.Chs (vld lower)
theorem tw_dw (p : UInt8 → Bool) (l : List UInt8) : (l.takeWhile p).length + (l.dropWhile p).length = l.length := by
  have := tw_len p l
  rw [← tw_drop, List.length_drop]; omega
theorem qv_sum : ∀ (n : Nat) (t : List UInt8) (v r : List UInt8), t.length ≤ n → qv t = some (v, r) → v.length + r.length < t.length
  | n, [], v, r, hn, h => by cases h
  | 0, c :: t, v, r, hn, h => by simp at hn
  | n + 1, c :: t, v, r, hn, h => by
    rw [qv_cons] at h
    rw [List.length_cons] at hn ⊢
    by_cases h1 : c = 34
    · rw [if_pos h1] at h; cases h; simp
    · rw [if_neg h1] at h
      by_cases h2 : c = 92
      · rw [if_pos h2] at h
        cases t with
        | nil => cases h
        | cons d t =>
          obtain ⟨⟨v', r'⟩, h3, h4⟩ := Option.map_eq_some_iff.1 h
          dsimp only at h4
          cases h4
          have := qv_sum n t v' _ (by rw [List.length_cons] at hn; omega) h3
          rw [List.length_cons, List.length_cons]; omega
      · rw [if_neg h2] at h
        obtain ⟨⟨v', r'⟩, h3, h4⟩ := Option.map_eq_some_iff.1 h
        dsimp only at h4
        cases h4
        have := qv_sum n t v' _ (by omega) h3
        rw [List.length_cons]; omega
theorem vl_sum {t v r : List UInt8} (h : vl t = some (v, r)) : v.length + r.length ≤ t.length := by
  unfold vl at h
  cases hs : sgn 34 t with
  | some q =>
    rw [hs] at h
    have h1 := sgn_len hs
    have h2 := qv_sum _ _ _ _ (Nat.le_refl _) h
    omega
  | none =>
    rw [hs] at h
    cases h
    have h1 := tl_len t
    have h2 := tw_dw (pN [37, 39, 42]) (tl t)
    omega
theorem rdP_sum {num : List UInt8 → Option Int} {t r : List UInt8} {p : Pce} (h : rdP num t = some (p, r)) : p.2.2.2.length + r.length < t.length := by
  unfold rdP at h
  obtain ⟨t2, h1, h⟩ := bnd h
  obtain ⟨⟨v, r'⟩, h2, h⟩ := bnd h
  obtain ⟨p', h3, h4⟩ := Option.map_eq_some_iff.1 h
  dsimp only at h4
  cases h4
  have a1 := sgn_len h1
  have a2 := dw_len (pN [42]) (tl t)
  have a3 := tl_len t
  have a4 := vl_sum h2
  obtain ⟨b1, b2, b3, b4⟩ := mkP_some h3
  dsimp only at b2
  rw [b2]; omega
def numOk (num : List UInt8 → Option Int) : Prop := ∀ s n, num s = some n → 0 ≤ n ∧ n ≤ 1099511627776
theorem numP_ok : numOk numP := fun s n h => by
  unfold numP at h
  split at h
  · rename_i hc
    cases h
    exact ⟨hc.2.2.1, hc.2.2.2⟩
  · cases h
theorem numR_ok : numOk numR := fun s n h => by
  have := (numR_P h).2
  omega
theorem pcs_fit {num : List UInt8 → Option Int} (hn : numOk num) : ∀ (m : Nat) (t : List UInt8) (q : List Pce) (r : List UInt8), pcs num m t = some (q, r) → tl r = r ∧ q.length + r.length ≤ t.length ∧ tot q + r.length ≤ t.length ∧ ∀ p ∈ q, pcOk p ∧ p.1.length ≤ t.length
  | 0, t, q, r, h => by cases h
  | m + 1, t, q, r, h => by
    rw [pcs] at h
    cases hs : sgn 59 t with
    | none =>
      rw [hs] at h
      cases h
      have := tl_len t
      exact ⟨tl_tl t, by simpa using this, by unfold tot; simpa using this, fun p hp => by cases hp⟩
    | some t2 =>
      rw [hs] at h
      dsimp only at h
      have h1 := sgn_len hs
      obtain ⟨⟨p, t3⟩, h2, h⟩ := bnd h
      obtain ⟨⟨q', r'⟩, h3, h4⟩ := Option.map_eq_some_iff.1 h
      dsimp only at h3 h4
      cases h4
      have h5 := rdP_sum h2
      obtain ⟨k1, k2, k3, k4, k5⟩ := rdP_some h2
      obtain ⟨i1, i2, i3, i4⟩ := pcs_fit hn m t3 q' _ h3
      refine ⟨i1, by rw [List.length_cons]; omega, by rw [tot_cons]; omega, fun x hx => ?_⟩
      rcases List.mem_cons.1 hx with rfl | hx
      · refine ⟨?_, by omega⟩
        unfold pcOk
        rcases k5 with k5 | ⟨s, k5⟩
        · omega
        · have := hn s _ k5; omega
      · have := i4 x hx
        exact ⟨this.1, by omega⟩
theorem fit_of {num : List UInt8 → Option Int} (hn : numOk num) {m : Nat} {t : List UInt8} {q : List Pce} {r : List UInt8} (h : pcs num m t = some (q, r)) (ht : t.length ≤ 4000) : Fit q := by
  obtain ⟨a, b, c, d⟩ := pcs_fit hn m t q r h
  exact ⟨by omega, by omega, fun p hp => ⟨(d p hp).1, by have := (d p hp).2; omega⟩⟩
def readM (num : List UInt8 → Option Int) (t : List UInt8) : Option Med :=
  (sgn 47 ((tl t).dropWhile tkB)).bind fun t2 => if (tl t).takeWhile tkB = [] ∨ (tl t2).takeWhile tkB = [] then none else
    (pcs num FU ((tl t2).dropWhile tkB)).bind fun q => if q.2 = [] then (parI q.1 [] q.1).map fun ps => ((tl t).takeWhile tkB, (tl t2).takeWhile tkB, ps) else none
theorem parse_eq (t : List UInt8) (ht : t.length ≤ 4000) : ∃ m b, media_parse t = some (m, b) ∧ readM numP t = if b = true then some m else none := by
  unfold media_parse readM
  have a1 := tl_len t
  have a2 := dw_len tkB (tl t)
  rw [take_eq t (by unfold Big; omega) _ _ tokenByte_eq, bsome]
  dsimp only
  rw [sign_eq _ (by unfold Big; omega)]
  cases hs : sgn 47 ((tl t).dropWhile tkB) with
  | none =>
    dsimp only
    have a3 := tl_len ((tl t).dropWhile tkB)
    rw [bsome]
    dsimp only
    rw [take_eq _ (by unfold Big; omega) _ _ tokenByte_eq, bsome]
    dsimp only
    have e : ∀ c : Bool, (if (tl t).takeWhile tkB = [] then some true else (if false = true then some c else some true)) = some true := fun c => by split <;> rfl
    rw [e, bsome, if_pos rfl]
    exact ⟨_, _, rfl, rfl⟩
  | some t2 =>
    have a3 := sgn_len hs
    have a4 := tl_len t2
    have a5 := dw_len tkB (tl t2)
    dsimp only
    rw [bsome]
    dsimp only
    rw [take_eq t2 (by unfold Big; omega) _ _ tokenByte_eq, bsome, bsome]
    dsimp only
    by_cases he : (tl t).takeWhile tkB = [] ∨ (tl t2).takeWhile tkB = []
    · have e : (if (tl t).takeWhile tkB = [] then some true else (if true = true then some (decide ((tl t2).takeWhile tkB = [])) else some true)) = some true := by
        rcases he with h | h
        · rw [if_pos h]
        · rw [decide_eq_true h]; split <;> rfl
      rw [e, bsome, if_pos rfl, if_pos he]
      exact ⟨_, _, rfl, rfl⟩
    · have e : (if (tl t).takeWhile tkB = [] then some true else (if true = true then some (decide ((tl t2).takeWhile tkB = [])) else some true)) = some false := by
        rw [if_neg (fun h => he (.inl h)), if_pos rfl, decide_eq_false (fun h => he (.inr h))]
      rw [e, bsome, if_neg Bool.false_ne_true, if_neg he, parse_L1 _ _ [] [] [] 4000 FU _ [] (by omega) (FU_gt (by omega)) (by simp; omega)]
      cases hp : pcs numP FU ((tl t2).dropWhile tkB) with
      | none => exact ⟨_, _, rfl, rfl⟩
      | some q =>
        obtain ⟨q, r⟩ := q
        have hf := fit_of numP_ok hp (by omega)
        obtain ⟨hr, hrl, _⟩ := pcs_fit numP_ok _ _ _ _ hp
        dsimp only
        rw [bsome, bsome]
        dsimp only
        rw [blanks_eq r (by unfold Big; omega), bsome, List.nil_append, params_eq q hf, hr, bsome]
        cases hj : parI q [] q with
        | none =>
          refine ⟨_, _, rfl, ?_⟩
          split <;> rfl
        | some ps =>
          refine ⟨_, _, rfl, ?_⟩
          dsimp only
          by_cases h0 : r = []
          · rw [if_pos h0, decide_eq_true h0]; rfl
          · rw [if_neg h0, decide_eq_false h0]; rfl
theorem rread_eq (s : List UInt8) (hs : s.length ≤ 4000) : R_MediaRead s = some (match readM numR s with | some m => (m, true) | none => (([], [], []), false)) := by
  have hB : Big s := by unfold Big; omega
  unfold R_MediaRead readM
  obtain ⟨k1, k2⟩ := skN_le s 0 (by omega)
  have kd := skN_drop s 0
  have hk := skip_eq s hB 0 (by omega)
  rw [Int.natCast_zero] at hk
  rw [List.drop_zero] at kd
  rw [hk, bsome]
  generalize skN s 0 = n1 at *
  obtain ⟨r1, r2⟩ := ruN_le s n1 [] k2
  have rd := ruN_drop s n1 []
  have rc := ruN_cut s n1 [] k2
  have hr := run_eq s hB n1 k2 [] (by unfold Big; simp)
  rw [pN_nil] at rd rc
  rw [kd] at rd rc
  generalize ruN s n1 [] = n3 at *
  obtain ⟨k3, k4⟩ := skN_le s n3 r2
  have kd2 := skN_drop s n3
  have hk2 := skip_eq s hB n3 r2
  rw [hr, bsome, rc, bsome, hk2, bsome]
  generalize skN s n3 = n6 at *
  have hsg : sgn 47 ((tl s).dropWhile tkB) = if h : n6 < s.length then (if s[n6] = 47 then some (s.drop (n6 + 1)) else none) else none := by
    rw [← rd]
    unfold sgn
    rw [← kd2]
    by_cases h : n6 < s.length
    · rw [dif_pos h, List.drop_eq_getElem_cons h]
    · rw [dif_neg h, List.drop_eq_nil_of_le (by omega)]
  rw [hsg]
  generalize (tl s).takeWhile tkB = ty at *
  by_cases h6 : n6 < s.length
  · rw [dif_pos h6, if_neg (show ¬ (n6 : Int) = (s.length : Int) by omega), idx_nat, List.getElem?_eq_getElem h6, bsome]
    by_cases h47 : s[n6] = 47
    · rw [if_pos h47, bsome]
      by_cases hty : ty = []
      · rw [if_pos hty, bsome, if_pos rfl, if_pos (.inl hty)]
      · rw [if_neg hty, decide_eq_true h47, bsome, if_neg (show ¬ (!true) = true by decide), chk_succ (by omega), bsome]
        obtain ⟨k5, k6⟩ := skN_le s (n6 + 1) (by omega)
        have kd3 := skN_drop s (n6 + 1)
        have hk3 := skip_eq s hB (n6 + 1) (by omega)
        rw [hk3, bsome]
        generalize skN s (n6 + 1) = n17 at *
        obtain ⟨r3, r4⟩ := ruN_le s n17 [] k6
        have rd2 := ruN_drop s n17 []
        have rc2 := ruN_cut s n17 [] k6
        have hr2 := run_eq s hB n17 k6 [] (by unfold Big; simp)
        rw [pN_nil] at rd2 rc2
        rw [kd3] at rd2 rc2
        rw [hr2, bsome, rc2, bsome]
        generalize ruN s n17 [] = n19 at *
        by_cases hsub : (tl (s.drop (n6 + 1))).takeWhile tkB = []
        · rw [if_pos hsub, if_pos (.inr hsub)]
        · rw [if_neg hsub, if_neg (fun h => h.elim hty hsub)]
          obtain ⟨k7, k8⟩ := skN_le s n19 r4
          have kd4 := skN_drop s n19
          have hk4 := skip_eq s hB n19 r4
          rw [hk4, bsome]
          generalize skN s n19 = n23 at *
          have hL := rparse_L1 s hs [] [] [] s.length n23 FU [] (by omega) (FU_gt (by omega)) k8 (by rw [kd4, tl_tl]) (by simp)
          rw [kd4, pcs_tl, rd2, List.map_nil] at hL
          rw [hL]
          cases hp : pcs numR FU ((tl (s.drop (n6 + 1))).dropWhile tkB) with
          | none => rfl
          | some q =>
            obtain ⟨q, r⟩ := q
            cases r with
            | cons y r => rfl
            | nil =>
              have hlen : ((tl (s.drop (n6 + 1))).dropWhile tkB).length ≤ 4000 := by
                have := dw_len tkB (tl (s.drop (n6 + 1)))
                have := tl_len (s.drop (n6 + 1))
                rw [List.length_drop] at this; omega
              have hf := fit_of numR_ok hp hlen
              have hfl := hf.len
              have h3 := rparams_L3 q hf [] [] ty ((tl (s.drop (n6 + 1))).takeWhile tkB) [] q.length 0 FU [] (by omega) (FU_gt (by omega)) (by omega) (by simp)
              rw [Int.natCast_zero, List.take_zero, List.drop_zero] at h3
              dsimp only
              rw [bsome, bsome]
              dsimp only
              rw [List.nil_append, h3, if_pos rfl]
              cases parI q [] q with
              | none => rfl
              | some ps => rfl
    · rw [if_neg h47, decide_eq_false h47]
      have e : (if ty = [] then some true else some (!false)) = some true := by split <;> rfl
      rw [e, bsome, if_pos rfl]; rfl
  · rw [dif_neg h6, if_pos (show (n6 : Int) = (s.length : Int) by omega)]
    have e : (if ty = [] then some true else some true) = some true := by split <;> rfl
    rw [e, bsome, if_pos rfl]; rfl
theorem mkP_rel (name v : List UInt8) : mkP numR name v = mkP numP name v ∨ (mkP numR name v = none ∧ ∃ p, mkP numP name v = some p ∧ 1000000000 ≤ p.2.1) := by
  unfold mkP
  by_cases h : 42 ∈ name
  · rw [if_pos h, if_pos h]
    by_cases hb : cutB name = []
    · rw [if_pos hb, if_pos hb]; exact .inl rfl
    · rw [if_neg hb, if_neg hb]
      cases hR : numR (cutS (cutR name)).1 with
      | some n => rw [(numR_P hR).1]; exact .inl rfl
      | none =>
        cases hP : numP (cutS (cutR name)).1 with
        | none => exact .inl rfl
        | some n =>
          refine .inr ⟨rfl, _, rfl, ?_⟩
          dsimp only
          by_cases hn : n < 1000000000
          · rw [numP_R hP hn] at hR; cases hR
          · omega
  · rw [if_neg h, if_neg h]; exact .inl rfl
theorem rdP_rel (t : List UInt8) : rdP numR t = rdP numP t ∨ (rdP numR t = none ∧ ∃ p r, rdP numP t = some (p, r) ∧ 1000000000 ≤ p.2.1) := by
  unfold rdP
  cases sgn 61 ((tl t).dropWhile (pN [42])) with
  | none => exact .inl rfl
  | some t2 =>
    rw [bsome, bsome]
    cases vl t2 with
    | none => exact .inl rfl
    | some q =>
      rw [bsome, bsome]
      rcases mkP_rel ((tl t).takeWhile (pN [42])) q.1 with h | ⟨h1, p, h2, h3⟩
      · rw [h]; exact .inl rfl
      · rw [h1, h2]; exact .inr ⟨rfl, p, q.2, rfl, h3⟩
theorem pcs_rel : ∀ (m : Nat) (t : List UInt8), pcs numR m t = pcs numP m t ∨ (pcs numR m t = none ∧ (pcs numP m t = none ∨ ∃ q r, pcs numP m t = some (q, r) ∧ ∃ p ∈ q, 1000000000 ≤ p.2.1))
  | 0, t => .inl rfl
  | m + 1, t => by
    rw [pcs, pcs]
    cases sgn 59 t with
    | none => exact .inl rfl
    | some t2 =>
      dsimp only
      rcases rdP_rel t2 with h | ⟨h1, p, r, h2, h3⟩
      · rw [h]
        cases rdP numP t2 with
        | none => exact .inl rfl
        | some x =>
          rw [bsome, bsome]
          rcases pcs_rel m x.2 with h' | ⟨h1, h2 | ⟨q, r, h2, p, hp, h3⟩⟩
          · rw [h']; exact .inl rfl
          · rw [h1, h2]; exact .inl rfl
          · rw [h1, h2]; exact .inr ⟨rfl, .inr ⟨x.1 :: q, r, rfl, p, List.mem_cons_of_mem _ hp, h3⟩⟩
      · rw [h1, h2, bsome]
        refine .inr ⟨rfl, ?_⟩
        cases hq : pcs numP m r with
        | none => exact .inl rfl
        | some x => exact .inr ⟨p :: x.1, x.2, rfl, p, List.mem_cons_self, h3⟩
theorem grp_same {l : List Pce} {x p : Pce} (h : lower x.1 = lower p.1) : grp l x = grp l p ∧ smQ x = smQ p := by
  have : smQ x = smQ p := by funext z; unfold smQ; rw [h]
  exact ⟨by unfold grp; rw [this], this⟩
theorem parI_no {l : List Pce} {p : Pce} (hj : jnV (grp l p) = none) : ∀ (r pre : List Pce), pre.any (smQ p) = false → p ∈ r → parI l pre r = none
  | [], pre, _, h => by cases h
  | y :: r, pre, hp, h => by
    rw [parI]
    by_cases hy : lower y.1 = lower p.1
    · obtain ⟨g1, g2⟩ := grp_same (l := l) hy
      rw [g2, hp, if_neg Bool.false_ne_true, g1, hj]; rfl
    · have hpr : p ∈ r := by
        rcases List.mem_cons.1 h with e | e
        · exact absurd (by rw [e]) hy
        · exact e
      have ih := parI_no hj r (pre ++ [y]) (by
        rw [List.any_append, hp, List.any_cons, List.any_nil]
        unfold smQ
        rw [decide_eq_false hy]; rfl) hpr
      rw [ih]
      split
      · rfl
      · cases jnV (grp l y) <;> rfl
theorem jnV_big {g : List Pce} (hg : Fit g) {p : Pce} (hp : p ∈ g) (hb : 1000000000 ≤ p.2.1) : jnV g = none := by
  obtain ⟨x, r, rfl⟩ : ∃ x r, g = x :: r := by cases g with | nil => cases hp | cons x r => exact ⟨x, r, rfl⟩
  unfold jnV
  dsimp only
  by_cases h0 : x.2.1 < 0
  · rw [if_pos h0]
    by_cases hr : r = []
    · subst hr
      rw [List.mem_singleton.1 hp] at hb; omega
    · rw [if_neg hr]
  · rw [if_neg h0]
    by_cases hk : okG (x :: r)
    · exfalso
      have hok : ∀ q ∈ x :: r, pcOk q := fun q hq => (hg.ok q hq).1
      have hm : p.2.1 ∈ nums (sortP (x :: r)) := List.mem_map.2 ⟨p, (sortP_perm hok).mem_iff.2 hp, rfl⟩
      rw [hk, up_mem] at hm
      have := hg.len
      omega
    · rw [if_neg hk]
theorem bnone {α β : Type} (f : α → Option β) : (none : Option α).bind f = none := rfl
theorem readM_rel (t : List UInt8) (ht : t.length ≤ 4000) : readM numR t = readM numP t := by
  unfold readM
  cases hs : sgn 47 ((tl t).dropWhile tkB) with
  | none => rw [bnone, bnone]
  | some t2 =>
    rw [bsome, bsome]
    split
    · rfl
    · rcases pcs_rel FU ((tl t2).dropWhile tkB) with h | ⟨h1, h2 | ⟨q, r, h2, p, hp, h3⟩⟩
      · rw [h]
      · rw [h1, h2]
      · have a1 := tl_len t
        have a2 := dw_len tkB (tl t)
        have a3 := sgn_len hs
        have a4 := tl_len t2
        have a5 := dw_len tkB (tl t2)
        have hf := fit_of numP_ok h2 (by omega)
        have hj := jnV_big (grp_fit hf p) (grp_mem hp) h3
        rw [h1, h2, bsome, bnone, parI_no hj q [] rfl hp]
        split <;> rfl
theorem fix_len : ∀ (n : Nat) (t : List UInt8) (b : Bool), t.length ≤ n → (fix b t).length ≤ 4 * t.length
  | n, [], b, _ => Nat.le_refl _
  | 0, c :: t, b, h => by simp at h
  | n + 1, c :: t, b, h => by
    have hl : (c :: t) ≠ [] := by simp
    obtain ⟨r1, _, r2⟩ := Utf.rune_size (c :: t)
    have r2' := r2 hl
    by_cases h0 : 0 ≤ (Utf.rune (c :: t)).1
    · have := fix_len n ((c :: t).drop (Utf.rune (c :: t)).2) false (by rw [List.length_drop]; omega)
      rw [List.length_drop] at this
      rw [fix_ok b hl h0, List.length_append, List.length_take]; omega
    · have := fix_len n ((c :: t).drop 1) true (by rw [List.length_drop]; omega)
      rw [List.length_drop] at this
      rw [fix_bad b hl (by omega), List.length_append]
      have hh : (if b = true then [] else [239, 191, 189] : List UInt8).length ≤ 3 := by split <;> simp
      rw [List.length_cons] at *
      omega
theorem jnV_len {g : List Pce} (hg : Fit g) {v : List UInt8} (h : jnV g = some v) : v.length ≤ 16000 := by
  cases g with
  | nil => cases h
  | cons p r =>
    unfold jnV at h
    dsimp only at h
    split at h
    · split at h
      · cases h
        have := tot_mem (l := p :: r) List.mem_cons_self
        have := hg.tot
        omega
      · cases h
    · split at h
      · cases h
        have hok : ∀ q ∈ p :: r, pcOk q := fun q hq => (hg.ok q hq).1
        have h1 := tot_txt (sortP (p :: r))
        rw [tot_perm (sortP_perm hok)] at h1
        have h2 := hg.tot
        have h3 := fix_len _ ((sortP (p :: r)).flatMap txt) false (Nat.le_refl _)
        omega
      · cases h
theorem parI_big {l : List Pce} (hl : Fit l) : ∀ (r pre : List Pce) (q : List Par), (∀ p ∈ r, p ∈ l) → parI l pre r = some q → q.length ≤ r.length ∧ BigP q
  | [], pre, q, _, h => by cases h; exact ⟨Nat.le_refl _, fun x hx => by cases hx⟩
  | p :: r, pre, q, hm, h => by
    have hm' : ∀ x ∈ r, x ∈ l := fun x hx => hm x (List.mem_cons_of_mem _ hx)
    rw [parI] at h
    split at h
    · have := parI_big hl r _ q hm' h
      exact ⟨by rw [List.length_cons]; omega, this.2⟩
    · obtain ⟨v, h1, h⟩ := bnd h
      obtain ⟨q', h2, h3⟩ := Option.map_eq_some_iff.1 h
      cases h3
      have := parI_big hl r _ q' hm' h2
      refine ⟨by rw [List.length_cons, List.length_cons]; omega, fun x hx => ?_⟩
      rcases List.mem_cons.1 hx with rfl | hx
      · have h4 := jnV_len (grp_fit hl p) h1
        have h5 := (hl.ok p (hm p List.mem_cons_self)).2
        exact ⟨by unfold Big; dsimp only; omega, by unfold Big; dsimp only; omega⟩
      · exact this.2 x hx
theorem readM_big {t : List UInt8} (ht : t.length ≤ 4000) {m : Med} (h : readM numP t = some m) : BigM m ∧ m.2.2.length ≤ 4000 := by
  unfold readM at h
  obtain ⟨t2, h1, h⟩ := bnd h
  split at h
  · cases h
  · obtain ⟨q, h2, h⟩ := bnd h
    split at h
    · obtain ⟨ps, h3, h4⟩ := Option.map_eq_some_iff.1 h
      cases h4
      have a1 := tl_len t
      have a2 := dw_len tkB (tl t)
      have a3 := sgn_len h1
      have a4 := tl_len t2
      have a5 := dw_len tkB (tl t2)
      have a6 := tw_len tkB (tl t)
      have a7 := tw_len tkB (tl t2)
      have hf := fit_of numP_ok (q := q.1) (r := q.2) h2 (by omega)
      have hP := parI_big hf q.1 [] ps (fun p hp => hp) h3
      have := hf.len
      exact ⟨⟨by unfold Big; dsimp only; omega, by unfold Big; dsimp only; omega, hP.2⟩, by dsimp only; omega⟩
    · cases h
theorem same_media (a b : Med) (hl : a.2.2.length ≤ 1000000) : R_SameMedia a b = some (decide (a = b)) := by
  obtain ⟨a1, a2, a3⟩ := a
  obtain ⟨b1, b2, b3⟩ := b
  unfold R_SameMedia
  dsimp only at hl ⊢
  by_cases h1 : a1 = b1
  · rw [if_pos h1]
    by_cases h2 : a2 = b2
    · rw [if_pos h2, bsome]
      by_cases h3 : a3.length = b3.length
      · rw [decide_eq_true (by omega), if_neg (show ¬ (!true) = true by decide)]
        rcases scanP (fun m i => R_SameMedia_L1 (a1, a2, a3) (b1, b2, b3) m i) a3 (fun i x => if b3[i]? = some x then none else some (.inr false)) (.inl ()) (fun m => by rw [R_SameMedia_L1, if_neg (by dsimp only; omega)]) (fun m i h => by
          rw [R_SameMedia_L1]
          dsimp only
          rw [if_pos (by omega), idx_nat, List.getElem?_eq_getElem h, bsome, idx_nat, List.getElem?_eq_getElem (by omega : i < b3.length), bsome, chk_succ (by omega), bsome]
          by_cases he : a3[i] = b3[i]'(by omega)
          · rw [if_pos ⟨by rw [he], by rw [he]⟩, if_pos (by rw [he])]
          · rw [if_neg (fun h => he (Prod.ext h.1 h.2)), if_neg (fun h => he (oI h).symm)]) a3.length 0 FU (by omega) (FU_gt (by omega)) (by omega) with ⟨j, hj, r, q1, q2, q3, q4⟩ | ⟨q1, q2⟩
        · rw [Int.natCast_zero] at q4
          have hne : b3[j]? ≠ some a3[j] := fun e => by rw [if_pos e] at q2; cases q2
          rw [if_neg hne] at q2
          cases q2
          rw [q4, bsome]
          dsimp only
          rw [decide_eq_false (fun e => hne (by
            have : a3 = b3 := (Prod.mk.inj (Prod.mk.inj e).2).2
            subst this
            exact List.getElem?_eq_getElem hj))]
        · rw [Int.natCast_zero] at q2
          have : a3 = b3 := by
            apply List.ext_getElem?
            intro i
            by_cases hi : i < a3.length
            · have := q1 i hi (by omega)
              by_cases he : b3[i]? = some a3[i]
              · rw [he, List.getElem?_eq_getElem hi]
              · rw [if_neg he] at this; cases this
            · rw [List.getElem?_eq_none (by omega), List.getElem?_eq_none (by omega)]
          rw [q2, bsome]
          dsimp only
          rw [decide_eq_true (by rw [h1, h2, this])]
      · rw [decide_eq_false (by omega), if_pos (show (!false) = true by decide), decide_eq_false (fun e => h3 (by rw [(Prod.mk.inj (Prod.mk.inj e).2).2]))]
    · rw [if_neg h2, bsome, if_pos rfl, decide_eq_false (fun e => h2 (Prod.mk.inj (Prod.mk.inj e).2).1)]
  · rw [if_neg h1, bsome, if_pos rfl, decide_eq_false (fun e => h1 (Prod.mk.inj e).1)]
def prsR (t : List UInt8) : Med × (Int × Int) :=
  if 4000 < t.length then (([], [], []), (1, -1)) else match readM numP t with
    | none => (([], [], []), (11, -5))
    | some m => if (valM m).1 = 0 then (m, (0, 0)) else (([], [], []), ((valM m).1, -6))
theorem Parse_eq (t : List UInt8) : media_Parse t = some (prsR t) := by
  unfold media_Parse prsR
  by_cases h : 4000 < t.length
  · rw [if_pos (by omega), if_pos h, fault_eq, bsome]
  · rw [if_neg (by omega), if_neg h]
    obtain ⟨m, b, hp, hr⟩ := parse_eq t (by omega)
    rw [hp, bsome, hr]
    dsimp only
    cases b with
    | false => rw [if_neg Bool.false_ne_true, fault_eq, bsome]; rfl
    | true =>
      rw [if_pos rfl] at hr
      have hb := (readM_big (by omega) hr).1
      rw [if_pos rfl, show (m.1, m.2.1, m.2.2) = m from rfl, validate_eq m hb, bsome]
      rw [failed_eq, bsome]
      obtain ⟨⟨x, y⟩, hv⟩ : ∃ p, valM m = p := ⟨_, rfl⟩
      rw [hv]
      dsimp only
      rw [if_pos rfl]
      dsimp only
      by_cases hx : x = 0
      · rw [decide_eq_true hx, if_neg (show ¬ (!true) = true by decide), none_eq, bsome, hv, if_pos hx]
      · rw [decide_eq_false hx, if_pos (show (!false) = true by decide), fault_eq, bsome, hv, if_neg hx]
theorem parse_law (ex : L_mediaExample = some true) (t : List UInt8) (ht : Big t) : L_MediaParseMatchesSpec t = some true := by
  unfold L_MediaParseMatchesSpec
  rw [example_any ex, Parse_eq t, bsome]
  unfold prsR
  by_cases h : 4000 < t.length
  · rw [if_pos h]
    dsimp only
    rw [if_pos (by omega), at_eq, bsome]
    dsimp only
    rw [if_pos ⟨rfl, rfl⟩, same_media _ _ (by simp), bsome, decide_eq_true rfl, bsome]
  · rw [if_neg h]
    have hR := rread_eq t (by omega)
    rw [readM_rel t (by omega)] at hR
    cases hr : readM numP t with
    | none =>
      rw [hr] at hR
      dsimp only at hR ⊢
      rw [if_neg (by omega), hR, bsome]
      dsimp only
      rw [if_neg Bool.false_ne_true, at_eq, bsome]
      dsimp only
      rw [if_pos ⟨rfl, rfl⟩, same_media _ _ (by simp), bsome, decide_eq_true rfl, bsome]
    | some m =>
      obtain ⟨hb, hl⟩ := readM_big (by omega) hr
      rw [hr] at hR
      dsimp only at hR ⊢
      have hfa := rfault_eq m hb
      obtain ⟨⟨x, y⟩, hv⟩ : ∃ p, valM m = p := ⟨_, rfl⟩
      rw [hv] at hfa ⊢
      dsimp only
      by_cases hx : x = 0
      · rw [if_pos hx]
        dsimp only
        rw [if_neg (by omega), hR, bsome]
        dsimp only
        rw [if_pos rfl, show (m.1, m.2.1, m.2.2) = m from rfl, hfa, bsome]
        dsimp only
        rw [if_pos hx, if_pos rfl, same_media _ _ (by omega), bsome, decide_eq_true rfl, bsome]
      · rw [if_neg hx]
        dsimp only
        rw [if_neg (by omega), hR, bsome]
        dsimp only
        rw [if_pos rfl, show (m.1, m.2.1, m.2.2) = m from rfl, hfa, bsome]
        dsimp only
        rw [if_neg hx, at_eq, bsome]
        dsimp only
        rw [if_pos ⟨rfl, rfl⟩, same_media _ _ (by simp), bsome, decide_eq_true rfl, bsome]
end Go.Ph.Md
end
