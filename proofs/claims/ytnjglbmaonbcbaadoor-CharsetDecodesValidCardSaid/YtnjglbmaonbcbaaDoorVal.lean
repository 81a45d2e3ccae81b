/-
  Valid texts by the tables of unicode/utf8, in plain Lean; loads by a cell that is known. No program in sight.
-/
import Derived.Test.YtnjglbmaonbcbaaDoorConv
import Derived.Lib.DecodeN
set_option linter.unusedVariables false
set_option linter.unusedSimpArgs false
namespace Go.Ph
open Go Go.RowKit
section
variable {P : Program} {e : Env} {w : World} {x : Operand} {v : Value} {dst : Option Tmp} {ty t : TypeId} {pos : String} {af : Array Edge} {g : Option (Nat × Bool)}
theorem Ex.loadCell {p : Addr} (hx : ev e x = some (.pointer (some p))) (hc : w.cell? p = some v) (ha : ∀ w, (isAgg t).run P w = .ok false w) : Ex P ⟨dst, .load t x, ty, pos, af, g⟩ e w v w := Ex.loadK hx (by
  simp only [loadVar, Sem.run_bind, ha, Result.andThen_ok, Bool.false_eq_true, if_false]
  simp [load, Sem.run, hc])
theorem Ex.loadAggW {b o s : Nat} {cs : List Value} (hx : ev e x = some (ptr b o)) (hc : ∀ j u, cs[j]? = some u → w.cell? ⟨b, o + j, none⟩ = some u) (ha : ∀ w, (isAgg t).run P w = .ok true w) (hs : ∀ w, (sizeOf t).run P w = .ok s w) (hl : cs.length = s) : Ex P ⟨dst, .load t x, ty, pos, af, g⟩ e w (.agg cs.toArray) w := Ex.loadK hx (by
  subst hl
  have hlc : (loadCells ⟨b, o, none⟩ cs.length).run P w = .ok cs.toArray w :=
    run_loadCells_list (P := P) w ⟨b, o, none⟩ cs (fun j v hv => by rw [Addr.add_lit]; exact hc j v hv)
  simp only [loadVar, Sem.run_bind, ha, Result.andThen_ok, if_true, hs, hlc, Sem.run_pure])
end
end Go.Ph
namespace Go.Ph.Chs
open Go Go.Ph.Utf Go.Ph.Gr
theorem and64 {m s : Nat} (hm : m < 2 ^ 64) : IntKind.u64.wrap ((m &&& s : Nat) : Int) = ((m &&& s : Nat) : Int) := by
  have h : m &&& s ≤ m := Nat.and_le_left
  exact u64_in (by omega)
theorem or64 {m s : Nat} (hm : m < 2 ^ 64) (hs : s < 2 ^ 64) : IntKind.u64.wrap ((m ||| s : Nat) : Int) = ((m ||| s : Nat) : Int) := by
  have h := Nat.or_lt_two_pow hm hs
  exact u64_in (by omega)
theorem shl64 {b k : Nat} (hb : b < 256) (hk : k ≤ 56) : b <<< k < 2 ^ 64 ∧ IntKind.u64.wrap ((b * 2 ^ k : Nat) : Int) = ((b <<< k : Nat) : Int) := by
  have h2 : 2 ^ k ≤ 2 ^ 56 := Nat.pow_le_pow_right (by decide) hk
  have h3 : b * 2 ^ k < 2 ^ 64 := Nat.lt_of_le_of_lt (Nat.mul_le_mul (show b ≤ 255 by omega) h2) (by decide)
  rw [Nat.shiftLeft_eq]
  exact ⟨h3, u64_in (by omega)⟩
/-- what the tables say of a first byte -/
def FF (c : Nat) : Prop := ∃ sz ai lo hi, Lib.firstT c < 256 ∧ Lib.firstT c &&& 7 = sz ∧ Lib.firstT c / 2 ^ 4 = ai ∧ ai < 16 ∧ Lib.accLo ai = lo ∧ Lib.accHi ai = hi ∧ lo < 256 ∧ hi < 256 ∧ (sz = 1 ∨ sz = 2 ∨ sz = 3 ∨ sz = 4) ∧
    (sz = 1 → ¬ (194 ≤ c ∧ c ≤ 244)) ∧ (sz = 2 → 194 ≤ c ∧ c ≤ 223 ∧ lo = 128 ∧ hi = 191) ∧ (sz = 3 → 224 ≤ c ∧ c ≤ 239 ∧ lo = (if c = 224 then 160 else 128) ∧ hi = (if c = 237 then 159 else 191)) ∧ (sz = 4 → 240 ≤ c ∧ c ≤ 244 ∧ lo = (if c = 240 then 144 else 128) ∧ hi = (if c = 244 then 143 else 191))
theorem first_facts (c : Nat) (h : 128 ≤ c) (h2 : c < 256) : FF c := by
  have key : ∀ F sz ai lo hi : Nat, Lib.firstT c = F → F < 256 → F &&& 7 = sz → F / 2 ^ 4 = ai → ai < 16 → Lib.accLo ai = lo → Lib.accHi ai = hi → lo < 256 → hi < 256 → (sz = 1 ∨ sz = 2 ∨ sz = 3 ∨ sz = 4) →
      (sz = 1 → ¬ (194 ≤ c ∧ c ≤ 244)) → (sz = 2 → 194 ≤ c ∧ c ≤ 223 ∧ lo = 128 ∧ hi = 191) → (sz = 3 → 224 ≤ c ∧ c ≤ 239 ∧ lo = (if c = 224 then 160 else 128) ∧ hi = (if c = 237 then 159 else 191)) → (sz = 4 → 240 ≤ c ∧ c ≤ 244 ∧ lo = (if c = 240 then 144 else 128) ∧ hi = (if c = 244 then 143 else 191)) → FF c :=
    fun F sz ai lo hi e1 e2 e3 e4 e5 e6 e7 e8 e9 ea eb ec ed ee => ⟨sz, ai, lo, hi, by rw [e1]; exact e2, by rw [e1]; exact e3, by rw [e1]; exact e4, e5, e6, e7, e8, e9, ea, eb, ec, ed, ee⟩
  have hF : Lib.firstT c = if c < 194 then 241 else if c < 224 then 2 else if c = 224 then 19 else if c < 237 then 3 else if c = 237 then 35 else if c < 240 then 3 else if c = 240 then 52 else if c < 244 then 4 else if c = 244 then 68 else 241 := by
    unfold Lib.firstT; rw [if_neg (by omega)]
  by_cases c1 : c < 194
  · exact key 241 1 15 0 0 (by rw [hF, if_pos c1]) (by decide) (by decide) (by decide) (by decide) (by decide) (by decide) (by decide) (by decide) (by decide) (fun _ => by omega) (fun h => by omega) (fun h => by omega) (fun h => by omega)
  · by_cases c2 : c < 224
    · exact key 2 2 0 128 191 (by rw [hF, if_neg c1, if_pos c2]) (by decide) (by decide) (by decide) (by decide) (by decide) (by decide) (by decide) (by decide) (by decide) (fun h => by omega) (fun h => ⟨by omega, by omega, rfl, rfl⟩) (fun h => by omega) (fun h => by omega)
    · by_cases c3 : c = 224
      · exact key 19 3 1 160 191 (by rw [hF, if_neg c1, if_neg c2, if_pos c3]) (by decide) (by decide) (by decide) (by decide) (by decide) (by decide) (by decide) (by decide) (by decide) (fun h => by omega) (fun h => by omega) (fun h => ⟨by omega, by omega, by rw [if_pos c3], by rw [if_neg (by omega)]⟩) (fun h => by omega)
      · by_cases c4 : c < 237
        · exact key 3 3 0 128 191 (by rw [hF, if_neg c1, if_neg c2, if_neg c3, if_pos c4]) (by decide) (by decide) (by decide) (by decide) (by decide) (by decide) (by decide) (by decide) (by decide) (fun h => by omega) (fun h => by omega) (fun h => ⟨by omega, by omega, by rw [if_neg c3], by rw [if_neg (by omega)]⟩) (fun h => by omega)
        · by_cases c5 : c = 237
          · exact key 35 3 2 128 159 (by rw [hF, if_neg c1, if_neg c2, if_neg c3, if_neg c4, if_pos c5]) (by decide) (by decide) (by decide) (by decide) (by decide) (by decide) (by decide) (by decide) (by decide) (fun h => by omega) (fun h => by omega) (fun h => ⟨by omega, by omega, by rw [if_neg c3], by rw [if_pos c5]⟩) (fun h => by omega)
          · by_cases c6 : c < 240
            · exact key 3 3 0 128 191 (by rw [hF, if_neg c1, if_neg c2, if_neg c3, if_neg c4, if_neg c5, if_pos c6]) (by decide) (by decide) (by decide) (by decide) (by decide) (by decide) (by decide) (by decide) (by decide) (fun h => by omega) (fun h => by omega) (fun h => ⟨by omega, by omega, by rw [if_neg c3], by rw [if_neg c5]⟩) (fun h => by omega)
            · by_cases c7 : c = 240
              · exact key 52 4 3 144 191 (by rw [hF, if_neg c1, if_neg c2, if_neg c3, if_neg c4, if_neg c5, if_neg c6, if_pos c7]) (by decide) (by decide) (by decide) (by decide) (by decide) (by decide) (by decide) (by decide) (by decide) (fun h => by omega) (fun h => by omega) (fun h => by omega) (fun h => ⟨by omega, by omega, by rw [if_pos c7], by rw [if_neg (by omega)]⟩)
              · by_cases c8 : c < 244
                · exact key 4 4 0 128 191 (by rw [hF, if_neg c1, if_neg c2, if_neg c3, if_neg c4, if_neg c5, if_neg c6, if_neg c7, if_pos c8]) (by decide) (by decide) (by decide) (by decide) (by decide) (by decide) (by decide) (by decide) (by decide) (fun h => by omega) (fun h => by omega) (fun h => by omega) (fun h => ⟨by omega, by omega, by rw [if_neg c7], by rw [if_neg (by omega)]⟩)
                · by_cases c9 : c = 244
                  · exact key 68 4 4 128 143 (by rw [hF, if_neg c1, if_neg c2, if_neg c3, if_neg c4, if_neg c5, if_neg c6, if_neg c7, if_neg c8, if_pos c9]) (by decide) (by decide) (by decide) (by decide) (by decide) (by decide) (by decide) (by decide) (by decide) (fun h => by omega) (fun h => by omega) (fun h => by omega) (fun h => ⟨by omega, by omega, by rw [if_neg c7], by rw [if_pos c9]⟩)
                  · exact key 241 1 15 0 0 (by rw [hF, if_neg c1, if_neg c2, if_neg c3, if_neg c4, if_neg c5, if_neg c6, if_neg c7, if_neg c8, if_neg c9]) (by decide) (by decide) (by decide) (by decide) (by decide) (by decide) (by decide) (by decide) (by decide) (fun _ => by omega) (fun h => by omega) (fun h => by omega) (fun h => by omega)
theorem runeN_else {m b0 b1 b2 b3 : Nat} (h : 128 ≤ b0) (h1 : ¬ (192 ≤ b0 ∧ b0 ≤ 247)) : runeN m b0 b1 b2 b3 = (-1, 1) := by
  unfold runeN
  rw [if_neg (by omega), if_neg (by omega), if_neg (by omega), if_neg (by omega)]
theorem multi1 {t : List UInt8} (h : 128 ≤ nat t 0) (h1 : ¬ (194 ≤ nat t 0 ∧ nat t 0 ≤ 244)) : (rune t).1 < 0 := by
  rw [rune_eq]
  have n1 := nat_lt t 1
  by_cases k0 : 192 ≤ nat t 0 ∧ nat t 0 ≤ 247
  · unfold runeN
    rw [if_neg (by omega)]
    by_cases k1 : nat t 0 ≤ 223
    · rw [if_pos (by omega)]
      split
      · rename_i hc
        have ho := hc.2
        unfold okC at ho
        rw [chk, if_pos (by unfold badN; omega)]; decide
      · decide
    · rw [if_neg (by omega), if_neg (by omega), if_pos (by omega)]
      split
      · rename_i hc
        obtain ⟨_, o1, o2, o3⟩ := hc
        unfold okC at o1 o2 o3
        rw [chk, if_pos (by unfold badN; omega)]; decide
      · decide
  · rw [runeN_else h k0]; decide
theorem multi2 {t : List UInt8} (h : 194 ≤ nat t 0 ∧ nat t 0 ≤ 223) : (2 ≤ t.length ∧ 128 ≤ nat t 1 ∧ nat t 1 ≤ 191 → 0 ≤ (rune t).1 ∧ (rune t).2 = 2) ∧ (¬ (2 ≤ t.length ∧ 128 ≤ nat t 1 ∧ nat t 1 ≤ 191) → (rune t).1 < 0) := by
  rw [rune_eq]
  unfold runeN
  rw [if_neg (by omega), if_pos (by omega)]
  constructor
  · intro hc
    rw [if_pos ⟨hc.1, by unfold okC; omega⟩, chk, if_neg (by unfold badN; omega)]
    exact ⟨by simp only []; omega, rfl⟩
  · intro hc
    rw [if_neg (by unfold okC; omega)]; decide
theorem multi3 {t : List UInt8} {lo hi : Nat} (h : 224 ≤ nat t 0 ∧ nat t 0 ≤ 239) (hlo : lo = if nat t 0 = 224 then 160 else 128) (hhi : hi = if nat t 0 = 237 then 159 else 191) :
    (3 ≤ t.length ∧ lo ≤ nat t 1 ∧ nat t 1 ≤ hi ∧ 128 ≤ nat t 2 ∧ nat t 2 ≤ 191 → 0 ≤ (rune t).1 ∧ (rune t).2 = 3) ∧ (¬ (3 ≤ t.length ∧ lo ≤ nat t 1 ∧ nat t 1 ≤ hi ∧ 128 ≤ nat t 2 ∧ nat t 2 ≤ 191) → (rune t).1 < 0) := by
  rw [rune_eq]
  unfold runeN
  rw [if_neg (by omega), if_neg (by omega), if_pos (by omega)]
  have hl : lo = 160 ∧ nat t 0 = 224 ∨ lo = 128 ∧ nat t 0 ≠ 224 := by split at hlo <;> omega
  have hh : hi = 159 ∧ nat t 0 = 237 ∨ hi = 191 ∧ nat t 0 ≠ 237 := by split at hhi <;> omega
  constructor
  · intro hc
    rw [if_pos ⟨hc.1, by unfold okC; omega, by unfold okC; omega⟩, chk, if_neg (by unfold badN; omega)]
    exact ⟨by simp only []; omega, rfl⟩
  · intro hc
    split
    · rename_i hd
      obtain ⟨d0, d1, d2⟩ := hd
      unfold okC at d1 d2
      rw [chk, if_pos (by unfold badN; omega)]; decide
    · decide
theorem multi4 {t : List UInt8} {lo hi : Nat} (h : 240 ≤ nat t 0 ∧ nat t 0 ≤ 244) (hlo : lo = if nat t 0 = 240 then 144 else 128) (hhi : hi = if nat t 0 = 244 then 143 else 191) :
    (4 ≤ t.length ∧ lo ≤ nat t 1 ∧ nat t 1 ≤ hi ∧ (128 ≤ nat t 2 ∧ nat t 2 ≤ 191) ∧ (128 ≤ nat t 3 ∧ nat t 3 ≤ 191) → 0 ≤ (rune t).1 ∧ (rune t).2 = 4) ∧ (¬ (4 ≤ t.length ∧ lo ≤ nat t 1 ∧ nat t 1 ≤ hi ∧ (128 ≤ nat t 2 ∧ nat t 2 ≤ 191) ∧ (128 ≤ nat t 3 ∧ nat t 3 ≤ 191)) → (rune t).1 < 0) := by
  rw [rune_eq]
  unfold runeN
  rw [if_neg (by omega), if_neg (by omega), if_neg (by omega), if_pos (by omega)]
  have hl : lo = 144 ∧ nat t 0 = 240 ∨ lo = 128 ∧ nat t 0 ≠ 240 := by split at hlo <;> omega
  have hh : hi = 143 ∧ nat t 0 = 244 ∨ hi = 191 ∧ nat t 0 ≠ 244 := by split at hhi <;> omega
  constructor
  · intro hc
    rw [if_pos ⟨hc.1, by unfold okC; omega, by unfold okC; omega, by unfold okC; omega⟩, chk, if_neg (by unfold badN; omega)]
    exact ⟨by simp only []; omega, rfl⟩
  · intro hc
    split
    · rename_i hd
      obtain ⟨d0, d1, d2, d3⟩ := hd
      unfold okC at d1 d2 d3
      rw [chk, if_pos (by unfold badN; omega)]; decide
    · decide
theorem vld_32 {x : List UInt8} (hx : 32 ≤ x.length) (h1 : ∀ i, i < 8 → nat x i < 128) (h2 : ∀ i, i < 8 → nat (x.drop 8) i < 128) (h3 : ∀ i, i < 8 → nat (x.drop 16) i < 128) (h4 : ∀ i, i < 8 → nat (x.drop 24) i < 128) : vld x = vld (x.drop 32) := by
  have e1 := vld_asciis 8 x (by omega) h1
  have e2 := vld_asciis 8 (x.drop 8) (by rw [List.length_drop]; omega) h2
  have e3 := vld_asciis 8 (x.drop 16) (by rw [List.length_drop]; omega) h3
  have e4 := vld_asciis 8 (x.drop 24) (by rw [List.length_drop]; omega) h4
  rw [List.drop_drop] at e2 e3 e4
  exact (e1.trans e2).trans (e3.trans e4)
theorem vld_bad {t : List UInt8} (hne : t ≠ []) (h : (rune t).1 < 0) : vld t = false := by rw [vld_cons hne, decide_eq_false (by omega), Bool.false_and]
theorem vld_good {t : List UInt8} {k : Nat} (hne : t ≠ []) (h : 0 ≤ (rune t).1 ∧ (rune t).2 = k) : vld t = vld (t.drop k) := by rw [vld_cons hne, decide_eq_true h.1, Bool.true_and, h.2]
end Go.Ph.Chs
