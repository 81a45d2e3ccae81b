/-
  A set of ASCII bytes as an array of truth values; a look at a pointer. No program in sight.
-/
import Derived.Test.YtolmifddbjdepaaDoorConv
import Derived.Test.YtolmifddbjdepaaDoorQp
set_option linter.unusedVariables false
set_option linter.unusedSimpArgs false
namespace Go.Ph
open Go Go.RowKit
section
variable {P : Program} {e : Env} {w : World} {x : Operand} {dst : Option Tmp} {ty : TypeId} {pos : String} {af : Array Edge} {g : Option (Nat × Bool)}
theorem Ex.nilCheck {p : Addr} (h : ev e x = some (.pointer (some p))) : Ex P ⟨dst, .nilCheck x, ty, pos, af, g⟩ e w (.pointer (some p)) w := ⟨nofun, fun ρ hf => by simp [execOp, hf _ _ h]⟩
end
namespace Qp
def has (cs : List UInt8) (k : Nat) : Bool := cs.any fun c => decide (c.toNat = k)
def asc (cs : List UInt8) : List Value := (List.range 256).map fun k => .bool (has cs k)
theorem asc_len (cs : List UInt8) : (asc cs).length = 256 := by simp [asc]
theorem asc_at (cs : List UInt8) (c : UInt8) : (asc cs)[c.toNat]? = some (.bool (has cs c.toNat)) := by
  unfold asc
  rw [List.getElem?_map, List.getElem?_range c.toNat_lt]; rfl
theorem asc_one (cs : List UInt8) : (asc cs).all (·.oneCell') = true := by
  unfold asc
  rw [List.all_map]
  exact List.all_eq_true.2 (fun k _ => rfl)
theorem asc_set (cs : List UInt8) (c : UInt8) : (asc cs).set c.toNat (.bool true) = asc (cs ++ [c]) := by
  apply List.ext_getElem?
  intro k
  rw [List.getElem?_set]
  by_cases hk : k < 256
  · have h1 : (asc (cs ++ [c]))[k]? = some (.bool (has (cs ++ [c]) k)) := by unfold asc; rw [List.getElem?_map, List.getElem?_range hk]; rfl
    have h2 : (asc cs)[k]? = some (.bool (has cs k)) := by unfold asc; rw [List.getElem?_map, List.getElem?_range hk]; rfl
    rw [h1]
    split
    · rename_i he
      rw [if_pos (by rw [asc_len]; omega)]
      congr 2
      unfold has
      rw [List.any_append]
      simp [he]
    · rename_i he
      rw [h2]
      congr 2
      unfold has
      rw [List.any_append]
      simp [he]
  · have h1 : (asc (cs ++ [c]))[k]? = none := by rw [List.getElem?_eq_none_iff, asc_len]; omega
    have h2 : (asc cs)[k]? = none := by rw [List.getElem?_eq_none_iff, asc_len]; omega
    have hc := c.toNat_lt
    rw [h1, if_neg (by omega), h2]
theorem has_bl (c : UInt8) : has [32, 9] c.toNat = decide (bl c) := by
  unfold has
  simp only [List.any_cons, List.any_nil, Bool.or_false]
  rw [← Bool.decide_or]
  apply decide_eq_decide.2
  show ((32 : UInt8).toNat = c.toNat ∨ (9 : UInt8).toNat = c.toNat) ↔ (c.toNat = 32 ∨ c.toNat = 9)
  have h1 : (32 : UInt8).toNat = 32 := rfl
  have h2 : (9 : UInt8).toNat = 9 := rfl
  omega
theorem last_drop {l : List UInt8} {c : UInt8} (h0 : 0 < l.length) (h : l[l.length - 1]? = some c) : l.drop (l.length - 1) = [c] ∧ l.getLast? = some c := by
  obtain ⟨h1, h2⟩ := List.getElem?_eq_some_iff.1 h
  refine ⟨?_, by rw [List.getLast?_eq_getElem?]; exact h⟩
  rw [List.drop_eq_getElem_cons h1, h2, List.drop_eq_nil_of_le (by omega)]
end Qp
end Go.Ph
