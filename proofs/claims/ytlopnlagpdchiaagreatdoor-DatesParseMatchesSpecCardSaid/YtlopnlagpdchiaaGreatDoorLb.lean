/-
  Functions of Go's library whose contracts the kit's shelf holds: their plain forms, and the steps from the shelf's worlds to this layer's. No program in sight.
-/
import Derived.Test.YtlopnlagpdchiaaGreatDoorMake
import Derived.Lib.Split
import Derived.Lib.SplitLaws
import Derived.Lib.AtoiAll
import Derived.Lib.AtoiErrMem
import Derived.Lib.ItoaNum
import Derived.Lib.Repeat
import Derived.Sort.Grow
import Derived.WalkSmall
set_option linter.unusedVariables false
set_option linter.unusedSimpArgs false
namespace Go.Ph
open Go Go.RowKit Pl
namespace Pl
/-- the digits of a number, at most m of them -/
def dgF : Nat → Nat → List UInt8
  | 0, _ => []
  | m + 1, n => if n < 10 then [UInt8.ofNat (48 + n)] else dgF m (n / 10) ++ [UInt8.ofNat (48 + n % 10)]
def itoaP (n : Int) : List UInt8 := if n < 0 then 45 :: dgF 20 n.natAbs else dgF 20 n.toNat
theorem dgF_eq : ∀ (m n : Nat), n < 10 ^ (m + 1) → dgF (m + 1) n = Lib.decDigits n
  | 0, n, h => by
    have h : n < 10 := by simpa using h
    rw [dgF, Lib.decDigits, if_pos h, dif_pos h]
  | m + 1, n, h => by
    rw [dgF, Lib.decDigits]
    by_cases hn : n < 10
    · rw [if_pos hn, dif_pos hn]
    · rw [if_neg hn, dif_neg hn, dgF_eq m (n / 10) (by rw [Nat.div_lt_iff_lt_mul (by omega), ← Nat.pow_succ]; exact h)]
theorem itoaP_eq {n : Int} (h : -9223372036854775808 ≤ n ∧ n ≤ 9223372036854775807) : itoaP n = Lib.itoa n := by
  unfold itoaP Lib.itoa
  rw [dgF_eq 19 n.natAbs (by omega), dgF_eq 19 n.toNat (by omega)]
/-- strconv.Atoi: the number, and whether there is no error -/
def atoiP (l : List UInt8) : Int × Bool := match Lib.atoiAll l with
  | .ok v => (v, true)
  | .range => (Lib.atoiSat l, false)
  | _ => (0, false)
end Pl
theorem Ext.ofBelow {M : Mem} {w w' : World} (ha : Ag M w) (hw : Below w.heap.size w w') : Ext w M w' M :=
  ⟨BelowX.of hw _, Mem.le.refl M, fun b' o' hb' => by rw [hw.block b' (ha.lt hb')]; exact ha b' o' hb', fun b' hb' => rfl⟩
theorem below_grow (w : World) (k : Nat) (os : Array Obj) : Below w.heap.size w (Sort.grow (w.drewN k) os) := by
  have h1 : Below w.heap.size w (w.drewN k) := below_drewN (Below.refl _ w) k
  refine h1.trans ⟨rfl, rfl, rfl, by simp [Sort.grow], fun j hj => ?_⟩
  have : j < (w.drewN k).heap.size := Nat.lt_of_lt_of_le hj h1.size
  show ((w.drewN k).heap ++ os)[j]? = (w.drewN k).heap[j]?
  exact Array.getElem?_append_left this
theorem Ext.ofAlloc {M : Mem} {w : World} (ha : Ag M w) (o : Obj) : Ext w M (w.alloc o) (M.set w.heap.size o) := by
  have hn : M w.heap.size = none := ha.none (Nat.le_refl _)
  have hB : Below w.heap.size w (w.alloc o) := (Below.refl _ w).grown (grownBy_alloc' w o) (Nat.le_refl _) (fun k hk => by cases hk)
  refine ⟨BelowX.of hB _, fun b o' hb => ?_, fun b o' hb => ?_, fun b hb => ?_⟩
  · unfold Mem.set
    split
    · rename_i h; subst h; rw [hn] at hb; cases hb
    · exact hb
  · unfold Mem.set at hb
    split at hb
    · rename_i h; subst h; cases hb; exact heap_alloc_new w _
    · rename_i h
      have h1 := ha b o' hb
      have h2 := ha.lt hb
      rw [hB.block b h2]; exact h1
  · unfold Mem.set; rw [if_neg (by omega)]
/-- the pieces of a text, laid in a new row -/
theorem Sl.split {M : Mem} {b : Nat} {t : TypeId} {xs : List ByteArray} {l : List (List UInt8)} {n : Nat} (hx : xs.map (·.data.toList) = l) (hn : l.length = n) (hm : n ≤ 9223372036854775807) (h : M b = some (.cells (xs.map Value.string).toArray t (0, 0))) : Sl M encS (.slice (some ⟨b, 0, none⟩) n n) l := by
  have hl : xs.map Value.string = l.map encS := by
    subst hx
    rw [List.map_map]
    apply List.map_congr_left
    intro x _
    cases x
    simp [encS]
  rw [hl] at h
  subst hn
  refine ⟨some ⟨b, 0, none⟩, l.length, rfl, Nat.le_refl _, ⟨by simp only [maxLen]; omega, fun h => by cases h⟩, fun _ => ⟨b, 0, _, t, (0, 0), rfl, h, fun i x hi => ?_⟩⟩
  rw [Nat.zero_add, List.getElem?_toArray, List.getElem?_map, hi]; rfl
theorem split_of (s sep : List UInt8) : (Lib.splitB ⟨sep.toArray⟩ 0 (Lib.countB ⟨s.toArray⟩ ⟨sep.toArray⟩) ⟨s.toArray⟩).map (·.data.toList) = Lib.split s sep := by
  rw [Lib.splitB_data]; rfl
theorem split_len (s sep : List UInt8) (h : 1 ≤ sep.length) : (Lib.split s sep).length = Lib.countB ⟨s.toArray⟩ ⟨sep.toArray⟩ + 1 := by
  rw [← split_of, List.length_map]
  exact Lib.splitB_all ⟨sep.toArray⟩ (by simpa [ByteArray.size] using h) 0 _ _ rfl
end Go.Ph
