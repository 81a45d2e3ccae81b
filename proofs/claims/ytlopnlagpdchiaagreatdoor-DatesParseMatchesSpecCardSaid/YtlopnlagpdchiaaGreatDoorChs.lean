/-
  Character sets in plain Lean: how bytes become characters, how characters become bytes. No program in sight.
-/
import Derived.Test.YtlopnlagpdchiaaGreatDoorGrCut
import Derived.Test.YtlopnlagpdchiaaGreatDoorOps
set_option linter.unusedVariables false
set_option linter.unusedSimpArgs false
namespace Go.Ph.Chs
open Go Go.Ph.Utf Go.Ph.Gr

/-! small letters -/
def lowB (c : UInt8) : UInt8 := if 65 ≤ c.toNat ∧ c.toNat ≤ 90 then c + 32 else c
def lower (l : List UInt8) : List UInt8 := l.map lowB
theorem lower_len (l : List UInt8) : (lower l).length = l.length := List.length_map _

/-! bytes of a number -/
theorem ub_eq {a : Int} {n : Nat} (h : a = (n : Int)) : ub a = UInt8.ofNat n := by
  subst h
  apply UInt8.toNat_inj.1
  have h1 := ub_toNat (n : Int)
  rw [UInt8.toNat_ofNat']
  omega
theorem ub_nat {a : Int} (h0 : 0 ≤ a) (h1 : a < 256) : ((ub a).toNat : Int) = a := by
  rw [ub_toNat]; omega
theorem ub_byte (c : UInt8) : ub (c.toNat : Int) = c := by
  apply UInt8.toNat_inj.1
  have h1 := ub_toNat (c.toNat : Int)
  have h2 := c.toNat_lt
  omega

/-- the number that is encoded -/
def fixN (n : Int) : Int := if (0 ≤ n ∧ n ≤ 1114111) ∧ ¬ (55296 ≤ n ∧ n ≤ 57343) then n else 65533
def utf8M (m : Int) : List UInt8 :=
  if m < 128 then [ub m]
  else if m < 2048 then [ub (192 + m / 64), ub (128 + m % 64)]
  else if m < 65536 then [ub (224 + m / 4096), ub (128 + m / 64 % 64), ub (128 + m % 64)]
  else [ub (240 + m / 262144), ub (128 + m / 4096 % 64), ub (128 + m / 64 % 64), ub (128 + m % 64)]
def utf8 (n : Int) : List UInt8 := utf8M (fixN n)
theorem fixN_ok (n : Int) : 0 ≤ fixN n ∧ fixN n ≤ 1114111 ∧ ¬ (55296 ≤ fixN n ∧ fixN n ≤ 57343) := by
  unfold fixN; split <;> omega
theorem fixN_id {n : Int} (h0 : 0 ≤ n) (h1 : n ≤ 1114111) (h2 : ¬ (55296 ≤ n ∧ n ≤ 57343)) : fixN n = n := by
  unfold fixN; rw [if_pos ⟨⟨h0, h1⟩, h2⟩]
theorem fixN_bad {n : Int} (h : n < 0 ∨ 1114111 < n ∨ (55296 ≤ n ∧ n ≤ 57343)) : fixN n = 65533 := by
  unfold fixN; rw [if_neg (by omega)]
theorem utf8M_len (m : Int) : 1 ≤ (utf8M m).length ∧ (utf8M m).length ≤ 4 := by
  unfold utf8M; repeat' split
  all_goals simp
theorem utf8_len (n : Int) : 1 ≤ (utf8 n).length ∧ (utf8 n).length ≤ 4 := utf8M_len _
theorem valid_iff (n : Int) : Utf8.valid n = true ↔ ((0 ≤ n ∧ n ≤ 1114111) ∧ ¬ (55296 ≤ n ∧ n ≤ 57343)) := by
  unfold Utf8.valid
  simp only [Bool.or_eq_true, Bool.and_eq_true, decide_eq_true_eq]
  omega
theorem encode_utf8 (n : Int) : Utf8.encode n = ⟨(utf8 n).toArray⟩ := by
  obtain ⟨m, hm, hmb⟩ : ∃ m : Nat, fixN n = (m : Int) ∧ (if Utf8.valid n then n.toNat else Utf8.runeError) = m := by
    by_cases h : (0 ≤ n ∧ n ≤ 1114111) ∧ ¬ (55296 ≤ n ∧ n ≤ 57343)
    · exact ⟨n.toNat, by rw [fixN_id h.1.1 h.1.2 h.2]; omega, by rw [if_pos ((valid_iff n).2 h)]⟩
    · exact ⟨65533, by rw [fixN_bad (by omega)]; rfl, by rw [if_neg (fun h' => h ((valid_iff n).1 h'))]; rfl⟩
  unfold Utf8.encode utf8 utf8M
  simp only [hmb, hm]
  by_cases h1 : m < 128
  · have i1 : (m : Int) < 128 := by omega
    simp only [if_pos h1, if_pos i1, ub_eq (a := (m : Int)) (n := m) rfl]
  · have i1 : ¬ (m : Int) < 128 := by omega
    by_cases h2 : m < 2048
    · have i2 : (m : Int) < 2048 := by omega
      simp only [if_neg h1, if_neg i1, if_pos h2, if_pos i2, ub_eq (a := 192 + (m : Int) / 64) (n := 192 + m / 64) (by omega), ub_eq (a := 128 + (m : Int) % 64) (n := 128 + m % 64) (by omega)]
    · have i2 : ¬ (m : Int) < 2048 := by omega
      by_cases h3 : m < 65536
      · have i3 : (m : Int) < 65536 := by omega
        simp only [if_neg h1, if_neg i1, if_neg h2, if_neg i2, if_pos h3, if_pos i3, ub_eq (a := 224 + (m : Int) / 4096) (n := 224 + m / 4096) (by omega), ub_eq (a := 128 + (m : Int) / 64 % 64) (n := 128 + m / 64 % 64) (by omega), ub_eq (a := 128 + (m : Int) % 64) (n := 128 + m % 64) (by omega)]
      · have i3 : ¬ (m : Int) < 65536 := by omega
        simp only [if_neg h1, if_neg i1, if_neg h2, if_neg i2, if_neg h3, if_neg i3, ub_eq (a := 240 + (m : Int) / 262144) (n := 240 + m / 262144) (by omega), ub_eq (a := 128 + (m : Int) / 4096 % 64) (n := 128 + m / 4096 % 64) (by omega), ub_eq (a := 128 + (m : Int) / 64 % 64) (n := 128 + m / 64 % 64) (by omega), ub_eq (a := 128 + (m : Int) % 64) (n := 128 + m % 64) (by omega)]

/-! what is encoded is read again -/
theorem nat_cons (c : UInt8) (l : List UInt8) (i : Nat) : nat (c :: l) (i + 1) = nat l i := by
  unfold nat; simp [List.getD_eq_getElem?_getD]
theorem nat_head (c : UInt8) (l : List UInt8) : nat (c :: l) 0 = c.toNat := by
  unfold nat; simp [List.getD_eq_getElem?_getD]
theorem rune_utf8 (n : Int) (r : List UInt8) : rune (utf8 n ++ r) = (fixN n, (utf8 n).length) := by
  obtain ⟨h0, h1, h2⟩ := fixN_ok n
  unfold utf8
  generalize fixN n = m at h0 h1 h2
  rw [rune_eq]
  unfold utf8M
  by_cases c1 : m < 128
  · rw [if_pos c1]
    simp only [List.cons_append, List.nil_append, nat_head, nat_cons, List.length_cons, List.length_nil]
    have e0 := ub_nat (a := m) (by omega) (by omega)
    unfold runeN
    rw [if_pos (by omega), e0]
  · rw [if_neg c1]
    by_cases c2 : m < 2048
    · rw [if_pos c2]
      simp only [List.cons_append, List.nil_append, nat_head, nat_cons, List.length_cons, List.length_nil]
      have e0 := ub_nat (a := 192 + m / 64) (by omega) (by omega)
      have e1 := ub_nat (a := 128 + m % 64) (by omega) (by omega)
      unfold runeN
      rw [if_neg (by omega), if_pos (by omega), if_pos ⟨by omega, by unfold okC; omega⟩, chk, if_neg (by unfold badN; omega)]
      refine Prod.ext ?_ rfl
      simp only []
      omega
    · rw [if_neg c2]
      by_cases c3 : m < 65536
      · rw [if_pos c3]
        simp only [List.cons_append, List.nil_append, nat_head, nat_cons, List.length_cons, List.length_nil]
        have e0 := ub_nat (a := 224 + m / 4096) (by omega) (by omega)
        have e1 := ub_nat (a := 128 + m / 64 % 64) (by omega) (by omega)
        have e2 := ub_nat (a := 128 + m % 64) (by omega) (by omega)
        unfold runeN
        rw [if_neg (by omega), if_neg (by omega), if_pos (by omega), if_pos ⟨by omega, by unfold okC; omega, by unfold okC; omega⟩, chk, if_neg (by unfold badN; omega)]
        refine Prod.ext ?_ rfl
        simp only []
        omega
      · rw [if_neg c3]
        simp only [List.cons_append, List.nil_append, nat_head, nat_cons, List.length_cons, List.length_nil]
        have e0 := ub_nat (a := 240 + m / 262144) (by omega) (by omega)
        have e1 := ub_nat (a := 128 + m / 4096 % 64) (by omega) (by omega)
        have e2 := ub_nat (a := 128 + m / 64 % 64) (by omega) (by omega)
        have e3 := ub_nat (a := 128 + m % 64) (by omega) (by omega)
        unfold runeN
        rw [if_neg (by omega), if_neg (by omega), if_neg (by omega), if_pos (by omega), if_pos ⟨by omega, by unfold okC; omega, by unfold okC; omega, by unfold okC; omega⟩, chk, if_neg (by unfold badN; omega)]
        refine Prod.ext ?_ rfl
        simp only []
        omega
theorem list_at {l : List UInt8} {i : Nat} (h : i < l.length) : l[i]? = some (ub (nat l i : Int)) := by
  rw [List.getElem?_eq_getElem h]
  unfold nat
  rw [List.getD_eq_getElem?_getD, List.getElem?_eq_getElem h, Option.getD_some, ub_byte]
theorem take_utf8_1 {l : List UInt8} (h : 1 ≤ l.length) : l.take 1 = [ub (nat l 0 : Int)] := by
  apply List.ext_getElem?
  intro i
  rcases i with _ | i
  · rw [List.getElem?_take, if_pos (by omega), list_at h]; rfl
  · rw [List.getElem?_take, if_neg (by omega)]; rfl
theorem take_utf8_2 {l : List UInt8} (h : 2 ≤ l.length) : l.take 2 = [ub (nat l 0 : Int), ub (nat l 1 : Int)] := by
  apply List.ext_getElem?
  intro i
  rcases i with _ | _ | i
  · rw [List.getElem?_take, if_pos (by omega), list_at (by omega)]; rfl
  · rw [List.getElem?_take, if_pos (by omega), list_at (by omega)]; rfl
  · rw [List.getElem?_take, if_neg (by omega)]; rfl
theorem take_utf8_3 {l : List UInt8} (h : 3 ≤ l.length) : l.take 3 = [ub (nat l 0 : Int), ub (nat l 1 : Int), ub (nat l 2 : Int)] := by
  apply List.ext_getElem?
  intro i
  rcases i with _ | _ | _ | i
  · rw [List.getElem?_take, if_pos (by omega), list_at (by omega)]; rfl
  · rw [List.getElem?_take, if_pos (by omega), list_at (by omega)]; rfl
  · rw [List.getElem?_take, if_pos (by omega), list_at (by omega)]; rfl
  · rw [List.getElem?_take, if_neg (by omega)]; rfl
theorem take_utf8_4 {l : List UInt8} (h : 4 ≤ l.length) : l.take 4 = [ub (nat l 0 : Int), ub (nat l 1 : Int), ub (nat l 2 : Int), ub (nat l 3 : Int)] := by
  apply List.ext_getElem?
  intro i
  rcases i with _ | _ | _ | _ | i
  · rw [List.getElem?_take, if_pos (by omega), list_at (by omega)]; rfl
  · rw [List.getElem?_take, if_pos (by omega), list_at (by omega)]; rfl
  · rw [List.getElem?_take, if_pos (by omega), list_at (by omega)]; rfl
  · rw [List.getElem?_take, if_pos (by omega), list_at (by omega)]; rfl
  · rw [List.getElem?_take, if_neg (by omega)]; rfl
/-- a valid character's number is below the bound, and no half of a pair -/
theorem rune_valid (l : List UInt8) (h : 0 ≤ (rune l).1) : (rune l).1 ≤ 1114111 ∧ ¬ (55296 ≤ (rune l).1 ∧ (rune l).1 ≤ 57343) := by
  refine ⟨(rune_lt l).2, ?_⟩
  have h0 := nat_lt l 0
  revert h
  unfold rune
  repeat' split
  all_goals intro h
  all_goals simp only [] at h ⊢
  all_goals first | omega | (rename_i hb; unfold badN at hb; omega)
/-- the bytes of a valid character are its encoding -/
theorem utf8_rune (l : List UInt8) (hl : l ≠ []) (h : 0 ≤ (rune l).1) : utf8 (rune l).1 = l.take (rune l).2 := by
  obtain ⟨hv1, hv2⟩ := rune_valid l h
  unfold utf8
  rw [fixN_id h hv1 hv2]
  have hlen : 1 ≤ l.length := List.length_pos_iff.2 hl
  have n0 := nat_lt l 0
  have n1 := nat_lt l 1
  have n2 := nat_lt l 2
  have n3 := nat_lt l 3
  rw [rune_eq] at h hv1 hv2 ⊢
  unfold runeN at h hv1 hv2 ⊢
  by_cases ha : nat l 0 < 128
  · rw [if_pos ha]
    simp only []
    rw [take_utf8_1 hlen]
    unfold utf8M
    rw [if_pos (by omega)]
  · rw [if_neg ha] at h hv1 hv2 ⊢
    by_cases k1 : 192 ≤ nat l 0 ∧ nat l 0 ≤ 223
    · rw [if_pos k1] at h hv1 hv2 ⊢
      split at h
      · rename_i hc
        rw [if_pos hc] at hv1 hv2 ⊢
        obtain ⟨hm, o1⟩ := hc
        unfold okC at o1
        rcases chk_cases (64 * (nat l 0 - 192) + nat l 1 - 128) 128 2 with e | ⟨e, hb⟩
        · rw [e] at h; simp only [] at h; omega
        · rw [e]; simp only []
          unfold badN at hb
          rw [take_utf8_2 hm]
          generalize hN : 64 * (nat l 0 - 192) + nat l 1 - 128 = N at hb
          unfold utf8M
          rw [if_neg (by omega), if_pos (by omega), show 192 + (N : Int) / 64 = (nat l 0 : Int) by omega, show 128 + (N : Int) % 64 = (nat l 1 : Int) by omega]
      · simp only [] at h; omega
    · rw [if_neg k1] at h hv1 hv2 ⊢
      by_cases k2 : 224 ≤ nat l 0 ∧ nat l 0 ≤ 239
      · rw [if_pos k2] at h hv1 hv2 ⊢
        split at h
        · rename_i hc
          rw [if_pos hc] at hv1 hv2 ⊢
          obtain ⟨hm, o1, o2⟩ := hc
          unfold okC at o1 o2
          rcases chk_cases (64 * (64 * (nat l 0 - 224) + nat l 1 - 128) + nat l 2 - 128) 2048 3 with e | ⟨e, hb⟩
          · rw [e] at h; simp only [] at h; omega
          · rw [e]; simp only []
            unfold badN at hb
            rw [take_utf8_3 hm]
            generalize hN : 64 * (64 * (nat l 0 - 224) + nat l 1 - 128) + nat l 2 - 128 = N at hb
            unfold utf8M
            rw [if_neg (by omega), if_neg (by omega), if_pos (by omega), show 224 + (N : Int) / 4096 = (nat l 0 : Int) by omega, show 128 + (N : Int) / 64 % 64 = (nat l 1 : Int) by omega, show 128 + (N : Int) % 64 = (nat l 2 : Int) by omega]
        · simp only [] at h; omega
      · rw [if_neg k2] at h hv1 hv2 ⊢
        by_cases k3 : 240 ≤ nat l 0 ∧ nat l 0 ≤ 247
        · rw [if_pos k3] at h hv1 hv2 ⊢
          split at h
          · rename_i hc
            rw [if_pos hc] at hv1 hv2 ⊢
            obtain ⟨hm, o1, o2, o3⟩ := hc
            unfold okC at o1 o2 o3
            rcases chk_cases (64 * (64 * (64 * (nat l 0 - 240) + nat l 1 - 128) + nat l 2 - 128) + nat l 3 - 128) 65536 4 with e | ⟨e, hb⟩
            · rw [e] at h; simp only [] at h; omega
            · rw [e]; simp only []
              unfold badN at hb
              rw [take_utf8_4 hm]
              generalize hN : 64 * (64 * (64 * (nat l 0 - 240) + nat l 1 - 128) + nat l 2 - 128) + nat l 3 - 128 = N at hb
              unfold utf8M
              rw [if_neg (by omega), if_neg (by omega), if_neg (by omega), show 240 + (N : Int) / 262144 = (nat l 0 : Int) by omega, show 128 + (N : Int) / 4096 % 64 = (nat l 1 : Int) by omega, show 128 + (N : Int) / 64 % 64 = (nat l 2 : Int) by omega, show 128 + (N : Int) % 64 = (nat l 3 : Int) by omega]
          · simp only [] at h; omega
        · rw [if_neg k3] at h; simp only [] at h; omega

/-! valid texts -/
def vld (l : List UInt8) : Bool := (chars l).all fun c => decide (0 ≤ c.1)
theorem vld_nil : vld [] = true := rfl
theorem vld_cons {l : List UInt8} (hl : l ≠ []) : vld l = (decide (0 ≤ (rune l).1) && vld (l.drop (rune l).2)) := by
  unfold vld; rw [chars_cons hl, List.all_cons]
theorem vld_ascii {l : List UInt8} (hl : l ≠ []) (h : nat l 0 < 128) : vld l = vld (l.drop 1) := by
  rw [vld_cons hl, rune_ascii h]; simp
theorem vld_asciis : ∀ (k : Nat) (l : List UInt8), k ≤ l.length → (∀ i, i < k → nat l i < 128) → vld l = vld (l.drop k) := by
  intro k
  induction k with
  | zero => intro l _ _; rfl
  | succ k ih =>
    intro l hk h
    have hl : l ≠ [] := by rintro rfl; simp at hk
    rw [vld_ascii hl (h 0 (by omega)), ih (l.drop 1) (by rw [List.length_drop]; omega) (fun i hi => by rw [nat_drop, Nat.add_comm]; exact h (i + 1) (by omega)), List.drop_drop, Nat.add_comm]
/-- a character that is read ahead of a text -/
theorem chars_utf8 (n : Int) (r : List UInt8) : chars (utf8 n ++ r) = (fixN n, utf8 n) :: chars r := by
  have hl := utf8_len n
  have hne : utf8 n ++ r ≠ [] := by
    intro e
    have := congrArg List.length e
    rw [List.length_append, List.length_nil] at this
    omega
  rw [chars_cons hne, rune_utf8]
  simp only [List.take_left, List.drop_left]
theorem chars_utf8s (ns : List Int) (r : List UInt8) : chars (ns.flatMap utf8 ++ r) = ns.map (fun n => (fixN n, utf8 n)) ++ chars r := by
  induction ns with
  | nil => rfl
  | cons n ns ih => rw [List.flatMap_cons, List.append_assoc, chars_utf8, ih]; rfl
theorem vld_utf8s (ns : List Int) : vld (ns.flatMap utf8) = true := by
  have h := chars_utf8s ns []
  rw [List.append_nil, chars_nil, List.append_nil] at h
  unfold vld
  rw [h, List.all_map]
  apply List.all_eq_true.2
  intro n _
  exact decide_eq_true (fixN_ok n).1
/-- a valid text is the encoding of its characters -/
theorem vld_text : ∀ (k : Nat) (l : List UInt8), l.length ≤ k → vld l = true → ((chars l).map (·.1)).flatMap utf8 = l := by
  intro k
  induction k with
  | zero => intro l h _; obtain rfl := List.eq_nil_of_length_eq_zero (Nat.le_zero.1 h); rfl
  | succ k ih =>
    intro l h hv
    by_cases hl : l = []
    · subst hl; rfl
    · obtain ⟨h1, _, h2⟩ := rune_size l
      have h3 := h2 hl
      rw [vld_cons hl, Bool.and_eq_true] at hv
      rw [chars_cons hl, List.map_cons, List.flatMap_cons, ih _ (by rw [List.length_drop]; omega) hv.2, utf8_rune l hl (of_decide_eq_true hv.1), List.take_append_drop]

/-! from bytes to characters -/
def decS (bound : Int) (l : List UInt8) : List Int := l.map fun c => if bound ≤ (c.toNat : Int) then 65533 else (c.toNat : Int)
def fix0 (n : Int) : Int := if n < 0 then 65533 else n
def decU (l : List UInt8) : List Int := (chars l).map fun c => fix0 c.1
def unit (a b : UInt8) : Int := 256 * (a.toNat : Int) + (b.toNat : Int)
def unsur (u : Int) : Int := if 55296 ≤ u ∧ u < 57344 then 65533 else u
def decW : List UInt8 → List Int
  | [] => []
  | [_] => [65533]
  | [a, b] => [unsur (unit a b)]
  | [a, b, _] => [unsur (unit a b), 65533]
  | a :: b :: c :: d :: r =>
    if (55296 ≤ unit a b ∧ unit a b < 56320) ∧ (56320 ≤ unit c d ∧ unit c d < 57344) then (65536 + 1024 * (unit a b - 55296) + unit c d - 56320) :: decW r
    else unsur (unit a b) :: decW (c :: d :: r)
termination_by l => l.length
theorem unit_lt (a b : UInt8) : 0 ≤ unit a b ∧ unit a b < 65536 := by
  have h1 := a.toNat_lt
  have h2 := b.toNat_lt
  unfold unit; omega
/-- one step of decW where no pair begins -/
theorem decW_one {a b : UInt8} {r : List UInt8} (h : ¬ ((55296 ≤ unit a b ∧ unit a b < 56320) ∧ ∃ c d r', r = c :: d :: r' ∧ 56320 ≤ unit c d ∧ unit c d < 57344)) : decW (a :: b :: r) = unsur (unit a b) :: decW r := by
  match r, h with
  | [], _ => simp [decW]
  | [c], _ => simp [decW]
  | c :: d :: r', h =>
    rw [decW, if_neg (fun hh => h ⟨hh.1, c, d, r', rfl, hh.2⟩)]
theorem decW_pair {a b c d : UInt8} {r : List UInt8} (h1 : 55296 ≤ unit a b ∧ unit a b < 56320) (h2 : 56320 ≤ unit c d ∧ unit c d < 57344) : decW (a :: b :: c :: d :: r) = (65536 + 1024 * (unit a b - 55296) + unit c d - 56320) :: decW r := by
  rw [decW, if_pos ⟨h1, h2⟩]
def decK (k : Nat) (l : List UInt8) : List Int := if k = 0 then decS 128 l else if k = 1 then decS 256 l else if k = 2 then decU l else decW l
def decoded (k : Nat) (l : List UInt8) : List UInt8 := (decK k l).flatMap utf8

/-! from characters to bytes -/
def encS (bound : Int) (c : Int) : Option (List UInt8) := if c < bound then some [ub c] else none
def encU (c : Int) : Option (List UInt8) := some (utf8 c)
def hiS (c : Int) : Int := 55296 + (c - 65536) / 1024
def loS (c : Int) : Int := 56320 + (c - 65536) % 1024
def encW (c : Int) : Option (List UInt8) := some (if c < 65536 then [ub (c / 256), ub (c % 256)] else [ub (hiS c / 256), ub (hiS c % 256), ub (loS c / 256), ub (loS c % 256)])
def encK (k : Nat) : Int → Option (List UInt8) := if k = 0 then encS 128 else if k = 1 then encS 256 else if k = 2 then encU else encW
theorem encK_len {k : Nat} {c : Int} {b : List UInt8} (h : encK k c = some b) : b.length ≤ 4 := by
  unfold encK at h
  split at h
  · unfold encS at h; split at h
    · cases h; simp
    · cases h
  · split at h
    · unfold encS at h; split at h
      · cases h; simp
      · cases h
    · split at h
      · unfold encU at h; cases h; exact (utf8_len c).2
      · unfold encW at h; cases h; split <;> simp
def encGo (f : Int → Option (List UInt8)) : List Ch → Nat → Except Nat (List UInt8)
  | [], _ => .ok []
  | c :: r, q => match f c.1 with
    | none => .error q
    | some b => match encGo f r (q + c.2.length) with
      | .error e => .error e
      | .ok bs => .ok (b ++ bs)
def pre (o : List UInt8) : Except Nat (List UInt8) → Except Nat (List UInt8)
  | .error e => .error e
  | .ok bs => .ok (o ++ bs)
theorem pre_nil (x : Except Nat (List UInt8)) : pre [] x = x := by cases x <;> rfl
theorem encGo_step {f : Int → Option (List UInt8)} {c : Ch} {r : List Ch} {q : Nat} {b : List UInt8} (o : List UInt8) (h : f c.1 = some b) : pre o (encGo f (c :: r) q) = pre (o ++ b) (encGo f r (q + c.2.length)) := by
  rw [encGo, h]
  simp only []
  cases encGo f r (q + c.2.length) <;> simp [pre]
theorem encGo_stop {f : Int → Option (List UInt8)} {c : Ch} {r : List Ch} {q : Nat} (o : List UInt8) (h : f c.1 = none) : pre o (encGo f (c :: r) q) = .error q := by
  rw [encGo, h]; rfl
theorem encGo_ok {f : Int → Option (List UInt8)} : ∀ (cs : List Ch) (q : Nat) (b : List UInt8), encGo f cs q = .ok b → ∃ bs : List (List UInt8), cs.map (fun c => f c.1) = bs.map some ∧ b = bs.flatten := by
  intro cs
  induction cs with
  | nil => intro q b h; cases h; exact ⟨[], rfl, rfl⟩
  | cons c r ih =>
    intro q b h
    rw [encGo] at h
    cases hf : f c.1 with
    | none => rw [hf] at h; cases h
    | some x =>
      rw [hf] at h
      simp only [] at h
      cases hr : encGo f r (q + c.2.length) with
      | error e => rw [hr] at h; cases h
      | ok y =>
        rw [hr] at h
        cases h
        obtain ⟨bs, h1, h2⟩ := ih _ _ hr
        exact ⟨x :: bs, by rw [List.map_cons, hf, h1]; rfl, by rw [h2]; rfl⟩
theorem encGo_all {f : Int → Option (List UInt8)} : ∀ (cs : List Ch) (q : Nat), (∀ c ∈ cs, ∃ b, f c.1 = some b) → ∃ b, encGo f cs q = .ok b := by
  intro cs
  induction cs with
  | nil => intro q _; exact ⟨[], rfl⟩
  | cons c r ih =>
    intro q h
    obtain ⟨x, hx⟩ := h c List.mem_cons_self
    obtain ⟨y, hy⟩ := ih (q + c.2.length) (fun d hd => h d (List.mem_cons_of_mem _ hd))
    exact ⟨x ++ y, by rw [encGo, hx]; simp only []; rw [hy]⟩
theorem encGo_err {f : Int → Option (List UInt8)} (cs : List Ch) (q : Nat) {c : Ch} (hc : c ∈ cs) (h : f c.1 = none) : ∃ e, encGo f cs q = .error e := by
  cases hg : encGo f cs q with
  | error e => exact ⟨e, rfl⟩
  | ok b =>
    obtain ⟨bs, h1, _⟩ := encGo_ok cs q b hg
    have h2 : f c.1 ∈ cs.map (fun c => f c.1) := List.mem_map.2 ⟨c, hc, rfl⟩
    rw [h1, h] at h2
    obtain ⟨x, _, hx⟩ := List.mem_map.1 h2
    cases hx

/-! what is encoded is decoded -/
def okN (n : Int) : Prop := (0 ≤ n ∧ n ≤ 1114111) ∧ ¬ (55296 ≤ n ∧ n ≤ 57343)
theorem decK_enc {k : Nat} {n : Int} {b : List UInt8} (hn : okN n) (h : encK k n = some b) (r : List UInt8) : decK k (b ++ r) = n :: decK k r := by
  obtain ⟨⟨h0, h1⟩, h2⟩ := hn
  unfold encK at h
  unfold decK
  by_cases k0 : k = 0
  · rw [if_pos k0] at h ⊢
    rw [if_pos k0]
    unfold encS at h
    split at h
    · cases h
      unfold decS
      rw [List.cons_append, List.nil_append, List.map_cons, ub_nat (by omega) (by omega), if_neg (by omega)]
    · cases h
  · rw [if_neg k0] at h ⊢
    rw [if_neg k0]
    by_cases k1 : k = 1
    · rw [if_pos k1] at h ⊢
      rw [if_pos k1]
      unfold encS at h
      split at h
      · cases h
        unfold decS
        rw [List.cons_append, List.nil_append, List.map_cons, ub_nat (by omega) (by omega), if_neg (by omega)]
      · cases h
    · rw [if_neg k1] at h ⊢
      rw [if_neg k1]
      by_cases k2 : k = 2
      · rw [if_pos k2] at h ⊢
        rw [if_pos k2]
        unfold encU at h
        cases h
        unfold decU
        rw [chars_utf8, List.map_cons, fixN_id h0 h1 h2]
        unfold fix0
        rw [if_neg (by omega)]
      · rw [if_neg k2] at h ⊢
        rw [if_neg k2]
        unfold encW at h
        cases h
        by_cases hc : n < 65536
        · rw [if_pos hc]
          have hu : unit (ub (n / 256)) (ub (n % 256)) = n := by
            unfold unit
            rw [ub_nat (by omega) (by omega), ub_nat (by omega) (by omega)]; omega
          rw [List.cons_append, List.cons_append, List.nil_append, decW_one (by rw [hu]; omega), hu, unsur, if_neg (by omega)]
        · rw [if_neg hc]
          have hh : 55296 ≤ hiS n ∧ hiS n < 56320 := by unfold hiS; omega
          have hl : 56320 ≤ loS n ∧ loS n < 57344 := by unfold loS; omega
          have hu : unit (ub (hiS n / 256)) (ub (hiS n % 256)) = hiS n := by
            unfold unit
            rw [ub_nat (by omega) (by omega), ub_nat (by omega) (by omega)]; omega
          have hv : unit (ub (loS n / 256)) (ub (loS n % 256)) = loS n := by
            unfold unit
            rw [ub_nat (by omega) (by omega), ub_nat (by omega) (by omega)]; omega
          simp only [List.cons_append, List.nil_append]
          rw [decW_pair (by rw [hu]; exact hh) (by rw [hv]; exact hl), hu, hv]
          congr 1
          unfold hiS loS; omega
theorem okN_of_vld {l : List UInt8} (h : vld l = true) : ∀ c ∈ chars l, okN c.1 := by
  have key : ∀ (k : Nat) (l : List UInt8), l.length ≤ k → vld l = true → ∀ c ∈ chars l, okN c.1 := by
    intro k
    induction k with
    | zero => intro l h _ c hc; obtain rfl := List.eq_nil_of_length_eq_zero (Nat.le_zero.1 h); cases hc
    | succ k ih =>
      intro l h hv c hc
      by_cases hl : l = []
      · subst hl; cases hc
      · obtain ⟨h1, _, h2⟩ := rune_size l
        have h3 := h2 hl
        rw [vld_cons hl, Bool.and_eq_true] at hv
        have h0 := of_decide_eq_true hv.1
        rw [chars_cons hl] at hc
        rcases List.mem_cons.1 hc with rfl | hc
        · exact ⟨⟨h0, (rune_valid l h0).1⟩, (rune_valid l h0).2⟩
        · exact ih _ (by rw [List.length_drop]; omega) hv.2 c hc
  exact key _ l (Nat.le_refl _) h
theorem decK_encs {k : Nat} : ∀ (ns : List Int) (bs : List (List UInt8)) (r : List UInt8), (∀ n ∈ ns, okN n) → ns.map (encK k) = bs.map some → decK k (bs.flatten ++ r) = ns ++ decK k r := by
  intro ns
  induction ns with
  | nil =>
    intro bs r _ h
    cases bs with
    | nil => rfl
    | cons b bs => cases h
  | cons n ns ih =>
    intro bs r hn h
    cases bs with
    | nil => cases h
    | cons b bs =>
      rw [List.map_cons, List.map_cons] at h
      obtain ⟨e1, e2⟩ := List.cons.inj h
      rw [List.flatten_cons, List.append_assoc, decK_enc (hn n List.mem_cons_self) e1, ih bs r (fun m hm => hn m (List.mem_cons_of_mem _ hm)) e2]; rfl
/-- THE LAW: what is encoded is decoded, whatever follows -/
theorem decoded_enc {k : Nat} {l b : List UInt8} (hv : vld l = true) (h : encGo (encK k) (chars l) 0 = .ok b) (r : List UInt8) : decoded k (b ++ r) = l ++ decoded k r := by
  obtain ⟨bs, h1, rfl⟩ := encGo_ok _ _ _ h
  have h2 : ((chars l).map (·.1)).map (encK k) = bs.map some := by rw [List.map_map]; exact h1
  unfold decoded
  rw [decK_encs _ bs r (fun n hn => by obtain ⟨c, hc, rfl⟩ := List.mem_map.1 hn; exact okN_of_vld hv c hc) h2, List.flatMap_append, vld_text _ l (Nat.le_refl _) hv]
theorem decK_nil (k : Nat) : decK k [] = [] := by
  unfold decK
  repeat' split
  · rfl
  · rfl
  · rfl
  · simp [decW]
theorem decoded_enc0 {k : Nat} {l b : List UInt8} (hv : vld l = true) (h : encGo (encK k) (chars l) 0 = .ok b) : decoded k b = l := by
  have h1 := decoded_enc hv h []
  rw [List.append_nil] at h1
  rw [h1, decoded, decK_nil]; simp
theorem vld_decoded (k : Nat) (l : List UInt8) : vld (decoded k l) = true := vld_utf8s _

/-! the smallest set -/
def bestK (l : List UInt8) : Nat := if (chars l).any (fun c => decide (255 < fix0 c.1)) then 2 else if (chars l).any (fun c => decide (127 < fix0 c.1)) then 1 else 0
def setN : List (List UInt8) := [[97, 115, 99, 105, 105], [108, 97, 116, 105, 110, 49], [117, 116, 102, 56], [117, 116, 102, 49, 54, 98, 101]]
/-- the number of the set with a name -/
def setOf (name : List UInt8) : Option Nat := setN.findIdx? fun x => decide (lower x = lower name)
theorem setOf_lt {name : List UInt8} {k : Nat} (h : setOf name = some k) : k < 4 := by
  have := (List.findIdx?_eq_some_iff_getElem.1 h).1
  exact this

/-! eight bytes as one number -/
def w8 (l : List UInt8) : Nat := nat l 0 ||| nat l 1 <<< 8 ||| nat l 2 <<< 16 ||| nat l 3 <<< 24 ||| nat l 4 <<< 32 ||| nat l 5 <<< 40 ||| nat l 6 <<< 48 ||| nat l 7 <<< 56
theorem bit7 {b : Nat} (hb : b < 256) (h : b.testBit 7 = false) : b < 128 := by
  rcases Nat.lt_or_ge b 128 with h1 | h1
  · exact h1
  · have : b / 2 ^ 7 % 2 = 1 := by omega
    rw [Nat.testBit_eq_decide_div_mod_eq, this] at h
    simp at h
theorem w8_small {l : List UInt8} {x : Nat} (h : (w8 l ||| x) &&& 9259542123273814144 = 0) : ∀ i, i < 8 → nat l i < 128 := by
  have key : ∀ j, (9259542123273814144 : Nat).testBit j = true → (w8 l).testBit j = false := by
    intro j hj
    have := congrArg (fun z => Nat.testBit z j) h
    simp only [Nat.testBit_and, Nat.testBit_or, hj, Bool.and_true, Nat.zero_testBit, Bool.or_eq_false_iff] at this
    exact this.1
  have h0 := key 7 (by decide)
  have h1 := key 15 (by decide)
  have h2 := key 23 (by decide)
  have h3 := key 31 (by decide)
  have h4 := key 39 (by decide)
  have h5 := key 47 (by decide)
  have h6 := key 55 (by decide)
  have h7 := key 63 (by decide)
  unfold w8 at h0 h1 h2 h3 h4 h5 h6 h7
  simp only [Nat.testBit_or, Nat.testBit_shiftLeft, Bool.or_eq_false_iff, Bool.and_eq_false_iff, decide_eq_false_iff_not] at h0 h1 h2 h3 h4 h5 h6 h7
  intro i hi
  refine bit7 (nat_lt l i) ?_
  rcases i with _ | _ | _ | _ | _ | _ | _ | _ | i
  · exact h0.1.1.1.1.1.1.1
  · exact h1.1.1.1.1.1.1.2.resolve_left (by omega)
  · exact h2.1.1.1.1.1.2.resolve_left (by omega)
  · exact h3.1.1.1.1.2.resolve_left (by omega)
  · exact h4.1.1.1.2.resolve_left (by omega)
  · exact h5.1.1.2.resolve_left (by omega)
  · exact h6.1.2.resolve_left (by omega)
  · exact h7.2.resolve_left (by omega)
  · omega
theorem w8_lt (l : List UInt8) : w8 l < 2 ^ 64 := by
  have hb : ∀ i k, k ≤ 56 → nat l i <<< k < 2 ^ 64 := by
    intro i k hk
    rw [Nat.shiftLeft_eq]
    have h1 := nat_lt l i
    have h2 : 2 ^ k ≤ 2 ^ 56 := Nat.pow_le_pow_right (by decide) hk
    exact Nat.lt_of_le_of_lt (Nat.mul_le_mul (show nat l i ≤ 255 by omega) h2) (by decide)
  unfold w8
  have h0 := nat_lt l 0
  exact Nat.or_lt_two_pow (Nat.or_lt_two_pow (Nat.or_lt_two_pow (Nat.or_lt_two_pow (Nat.or_lt_two_pow (Nat.or_lt_two_pow (Nat.or_lt_two_pow (by omega) (hb 1 8 (by decide))) (hb 2 16 (by decide))) (hb 3 24 (by decide))) (hb 4 32 (by decide))) (hb 5 40 (by decide))) (hb 6 48 (by decide))) (hb 7 56 (by decide))
end Go.Ph.Chs
