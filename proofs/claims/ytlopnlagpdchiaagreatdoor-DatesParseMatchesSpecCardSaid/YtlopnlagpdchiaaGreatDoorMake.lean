/-
  make([]T, n, c): a row of the call's own. Facts of package-level variables. No program in sight.
-/
import Derived.Test.YtlopnlagpdchiaaGreatDoorArr
import Derived.Laws.MakeOwn
import Derived.ChangeKeysEq
set_option linter.unusedVariables false
set_option linter.unusedSimpArgs false
namespace Go.Ph
open Go Go.RowKit Pl
namespace Pl
def mkS {α : Type} (bytes : Nat) (n c : Int) (z : α) : Option (List α) := if 0 ≤ n ∧ n ≤ c ∧ (bytes : Int) * c ≤ 281474976710656 ∧ c ≤ 9223372036854775807 then some (List.replicate n.toNat z) else none
theorem mkS_ok {α : Type} {bytes : Nat} {n c : Int} {z : α} (h0 : 0 ≤ n) (h1 : n ≤ c) (h2 : (bytes : Int) * c ≤ 281474976710656) (h3 : c ≤ 9223372036854775807) : mkS bytes n c z = some (List.replicate n.toNat z) := by unfold mkS; rw [if_pos ⟨h0, h1, h2, h3⟩]
end Pl
theorem mkS_some {α : Type} {bytes : Nat} {n c : Int} {z : α} {l : List α} (h : mkS bytes n c z = some l) : (0 ≤ n ∧ n ≤ c ∧ (bytes : Int) * c ≤ 281474976710656 ∧ c ≤ 9223372036854775807) ∧ l = List.replicate n.toNat z := by
  unfold mkS at h
  split at h
  · cases h; exact ⟨‹_›, rfl⟩
  · cases h
theorem made_take {zs : Array Value} {us : List Value} {kk : Nat} (hz : zs.toList = us) (hk : us.length = kk) (hp : 0 < kk) (n c : Nat) (h : n ≤ c) : (madeCells zs (c * kk)).toList.take (n * kk) = (List.replicate n us).flatten := by
  have hsz : zs.size = kk := by rw [← hk, ← hz, Array.length_toList]
  apply List.ext_getElem?
  intro i
  have hle : n * kk ≤ c * kk := Nat.mul_le_mul_right kk h
  by_cases hi : i < n * kk
  · rw [List.getElem?_take_of_lt hi]
    have h1 : i % kk < kk := Nat.mod_lt _ hp
    have h2 : i / kk < n := by rw [Nat.div_lt_iff_lt_mul hp]; exact hi
    have hl : (madeCells zs (c * kk)).toList[i]? = some us[i % kk] := by
      simp only [madeCells, Array.getElem?_toList, Array.getElem?_map]
      have : (Array.range (c * kk))[i]? = some i := by
        rw [Array.getElem?_eq_some_iff]
        exact ⟨by rw [Array.size_range]; omega, by simp⟩
      rw [this, Option.map_some, hsz]
      have : zs[i % kk]! = us[i % kk] := by
        subst hz
        rw [getElem!_pos zs (i % kk) (by omega)]
        simp
      rw [this]
    rw [hl]
    have hfl : ∀ (n i : Nat), i < n * kk → (List.replicate n us).flatten[i]? = some (us[i % kk]'(by rw [hk]; exact Nat.mod_lt _ hp)) := by
      intro n
      induction n with
      | zero => intro i hi; simp at hi
      | succ n ih =>
        intro i hi
        rw [List.replicate_succ, List.flatten_cons]
        by_cases hik : i < kk
        · rw [List.getElem?_append_left (by omega)]
          have : i % kk = i := Nat.mod_eq_of_lt hik
          simp only [this]
          exact List.getElem?_eq_getElem (by omega)
        · have h4 : (i - kk) % kk = i % kk := by rw [← Nat.mod_eq_sub_mod (by omega)]
          have h5 := ih (i - kk) (by rw [Nat.succ_mul] at hi; omega)
          simp only [h4] at h5
          rw [List.getElem?_append_right (by omega), ← h5]
          congr 1
          omega
    rw [hfl n i hi]
  · have h6 : (List.replicate n us).flatten.length = n * kk := by simp [hk]
    rw [List.getElem?_eq_none (by simp only [List.length_take, Array.length_toList, size_madeCells]; omega), List.getElem?_eq_none (by omega)]
section
variable {C : Nat → Prop} {r : Option Nat} {P : Program} {ops : Array Oper} {Q : Exit → Act → World → Prop} {n : Nat} {D : List Deferred} {rest : List Oper} {e : Env} {w0 w : World} {M0 M : Mem} {L L' : List Item} {d : Nat} {v u z : Value}
  {x y : Operand} {ty t t' te ts tt t0 : TypeId} {pos : String} {af : Array Edge} {g : Option (Nat × Bool)} {dst : Option Tmp} {b : Bool}
theorem run_makeRow {kk bytes : Nat} (T : ElemTy P ts t z kk bytes) {us : List Value} (hz : z.cells.toList = us) (k1 k2 : IntKind) {a c : Int} (h : 0 ≤ a ∧ a ≤ c ∧ (bytes : Int) * c ≤ 281474976710656 ∧ c ≤ 9223372036854775807) :
    ∃ w', (Instr.makeSlice ts (.int k1 a) (.int k2 c)).run P w = .ok (.slice (some ⟨w.heap.size, 0, none⟩) a.toNat c.toNat) w' ∧
      w'.ownsRow 0 t kk (.slice (some ⟨w.heap.size, 0, none⟩) a.toNat c.toNat) a.toNat (List.replicate a.toNat us).flatten ∧ w.grownBy w' none := by
  obtain ⟨i, hi, hz', hsz, hb⟩ := T.info
  subst hb
  have hr := run_make (P := P) w ts t i z T.under hi hz' k1 k2 a c h.1 h.2.1 h.2.2.1 h.2.2.2
  have hus : us.length = kk := by rw [← hz]; simpa using T.zs
  refine ⟨_, hr, ⟨by simp [hus, Nat.mul_comm], .inr ⟨w.heap.size, c.toNat, madeCells z.cells (c.toNat * i.size), rfl, Nat.zero_le _, heap_alloc_new w _, by omega, by simp only [maxLen]; omega, by rw [size_madeCells, hsz], ?_⟩⟩, World.grownBy_alloc w _ none⟩
  rw [hsz]
  exact made_take hz hus T.pos _ _ (by omega)
theorem WR.mkC {α : Type} {enc : α → Value} {z0 : α} {k1 k2 : IntKind} {bytes : Nat} {a c : Int} {l : List α} (T : ElemTy P ts t z 1 bytes) (hz : z.cells.toList = [enc z0]) (H : StX C w0 M0 M L w) (hx : ev e x = some (.int k1 a)) (hy : ev e y = some (.int k2 c)) (hm : mkS bytes a c z0 = some l)
    (hw : Wn ops n D e ⟨some d, .makeSlice ts x y, ty, pos, af, g⟩) (hn : Nat.blt d n = true)
    (k : ∀ v' w', StX C w0 M0 M (RowI t enc v' l :: L) w' → WR r P ops Q n D rest ((d, v') :: e) w') :
    WR r P ops Q n D (⟨some d, .makeSlice ts x y, ty, pos, af, g⟩ :: rest) e w := by
  obtain ⟨h, rfl⟩ := mkS_some hm
  obtain ⟨w', hr, ho, hg⟩ := run_makeRow (w := w) T hz k1 k2 h
  refine WR.step (w' := w') ⟨nofun, fun ρ hf => ?_⟩ hw rfl hn (k _ _ (H.new hg (it := RowI t enc _ (List.replicate a.toNat z0)) (by
    have : (List.replicate a.toNat [enc z0]).flatten = (List.replicate a.toNat z0).map enc := by simp
    rw [this] at ho
    have h2 : (List.replicate a.toNat z0).length = a.toNat := by simp
    show World.ownsRow _ _ _ _ _ (List.replicate a.toNat z0).length _
    rw [h2]; exact ho) (fun b hb => by cases hb; exact Nat.le_refl _)))
  simp only [execOp, hf _ _ hx, hf _ _ hy, Sem.run_bind, hr, Result.andThen_ok, Sem.run_pure]
theorem WR.mkSC {α : Type} {enc : α → List Value} {z0 : α} {k1 k2 : IntKind} {kk bytes : Nat} {a c : Int} {l : List α} (T : ElemTy P ts t z kk bytes) (hz : z.cells.toList = enc z0) (H : StX C w0 M0 M L w) (hx : ev e x = some (.int k1 a)) (hy : ev e y = some (.int k2 c)) (hm : mkS bytes a c z0 = some l)
    (hw : Wn ops n D e ⟨some d, .makeSlice ts x y, ty, pos, af, g⟩) (hn : Nat.blt d n = true)
    (k : ∀ v' w', StX C w0 M0 M (RowS t kk enc v' l :: L) w' → WR r P ops Q n D rest ((d, v') :: e) w') :
    WR r P ops Q n D (⟨some d, .makeSlice ts x y, ty, pos, af, g⟩ :: rest) e w := by
  obtain ⟨h, rfl⟩ := mkS_some hm
  obtain ⟨w', hr, ho, hg⟩ := run_makeRow (w := w) T hz k1 k2 h
  refine WR.step (w' := w') ⟨nofun, fun ρ hf => ?_⟩ hw rfl hn (k _ _ (H.new hg (it := RowS t kk enc _ (List.replicate a.toNat z0)) (by
    have : (List.replicate a.toNat (enc z0)).flatten = (List.replicate a.toNat z0).flatMap enc := by rw [List.flatMap_def, List.map_replicate]
    rw [this] at ho
    have h2 : (List.replicate a.toNat z0).length = a.toNat := by simp
    show World.ownsRow _ _ _ _ _ (List.replicate a.toNat z0).length _
    rw [h2]; exact ho) (fun b hb => by cases hb; exact Nat.le_refl _)))
  simp only [execOp, hf _ _ hx, hf _ _ hy, Sem.run_bind, hr, Result.andThen_ok, Sem.run_pure]
end
theorem xor_ones {a : Int} (h : -9223372036854775808 ≤ a ∧ a ≤ 9223372036854775807) : IntKind.i64.wrap ((BitVec.ofInt 64 (-1) ^^^ BitVec.ofInt 64 a).toNat : Nat) = -a - 1 := by
  have h1 : (BitVec.ofInt 64 (-1) : BitVec 64) = BitVec.allOnes 64 := by decide
  have h3 : ((a % 18446744073709551616).toNat : Int) = a % 18446744073709551616 := Int.toNat_of_nonneg (by omega)
  rw [h1, BitVec.allOnes_xor, BitVec.toNat_not, BitVec.toNat_ofInt, IntKind.wrap_i64]
  simp only [Nat.reducePow, Int.reducePow]
  omega
section
variable {P : Program} {e : Env} {w : World} {x : Operand} {ty t : TypeId} {pos : String} {af : Array Edge} {g : Option (Nat × Bool)} {dst : Option Tmp} {a z : Int}
theorem Ex.xorC (h1 : ev e x = some (I a)) (hz : chk (-a - 1) = some z) : Ex P ⟨dst, .unOp .xor t x, ty, pos, af, g⟩ e w (I z) w := by
  obtain ⟨h, rfl⟩ := chk_some hz
  refine ⟨nofun, fun ρ hf => ?_⟩
  have := xor_ones (a := a) (by omega)
  simp only [execOp, hf _ _ h1, Op.unary, Op.intBits, IntKind.signed, IntKind.bits, if_true, Sem.run_bind, Sem.run_pure, Result.andThen_ok]
  exact congrArg (fun z => Result.ok (Next.value (Value.int .i64 z)) w) this
end
section
variable {P : Program} {α : Type} {enc : α → Value} [DecidableEq α] {t t0 : TypeId} {d n : Nat}
theorem run_eqItemsL (hg : ∀ w, (isAgg t0).run P w = .ok false w) (heq : ∀ a b w, (Op.equalIn d t0 (enc a) (enc b)).run P w = .ok (decide (a = b)) w) (w : World) {l1 l2 : List α} (h1 : l1.length = n) (h2 : l2.length = n) :
    ∀ (m k : Nat), k + m = n → (Op.eqItems d t0 1 (l1.map enc).toArray (l2.map enc).toArray (List.range' k m)).run P w = .ok (decide (l1.drop k = l2.drop k)) w
  | 0, k, hk => by
    rw [List.drop_eq_nil_of_le (by omega), List.drop_eq_nil_of_le (by omega)]
    simp [Op.eqItems]
  | m + 1, k, hk => by
    have ih := run_eqItemsL hg heq w h1 h2 m (k + 1) (by omega)
    have g1 : (l1.map enc)[k]? = some (enc l1[k]) := by rw [List.getElem?_map, List.getElem?_eq_getElem (by omega)]; rfl
    have g2 : (l2.map enc)[k]? = some (enc l2[k]) := by rw [List.getElem?_map, List.getElem?_eq_getElem (by omega)]; rfl
    rw [List.range'_succ]
    simp only [Op.eqItems, Sem.run_bind, part, hg, Result.andThen_ok, Bool.false_eq_true, if_false, Nat.mul_one, List.getElem?_toArray, g1, g2, Sem.run_pure, heq]
    have e1 : l1.drop k = l1[k] :: l1.drop (k + 1) := List.drop_eq_getElem_cons (by omega)
    have e2 : l2.drop k = l2[k] :: l2.drop (k + 1) := List.drop_eq_getElem_cons (by omega)
    by_cases h : l1[k] = l2[k]
    · rw [e1, e2]
      simp only [h, decide_true, Bool.not_true, Bool.false_eq_true, if_false, List.cons.injEq, true_and]
      exact ih
    · have h3 : ¬ l1.drop k = l2.drop k := by
        rw [e1, e2]
        intro hh
        exact h (List.cons.inj hh).1
      simp [h, h3]
theorem run_equalArr (hu : P.underlying t = some (.array n t0)) (hi : (P.info? t0).isSome = true) (hc : P.cellsOf t0 = 1) (hg : ∀ w, (isAgg t0).run P w = .ok false w) (heq : ∀ a b w, (Op.equalIn 9999 t0 (enc a) (enc b)).run P w = .ok (decide (a = b)) w)
    {l1 l2 : List α} (h1 : l1.length = n) (h2 : l2.length = n) (w : World) : (Op.equalIn 10000 t (.agg (l1.map enc).toArray) (.agg (l2.map enc).toArray)).run P w = .ok (decide (l1 = l2)) w := by
  obtain ⟨i, hi⟩ := Option.isSome_iff_exists.1 hi
  rw [run_equalIn_array w 9999 _ _ hu hi, hc, List.range_eq_range']
  have := run_eqItemsL hg heq w h1 h2 n 0 (by omega)
  simpa using this
theorem Ex.eqlArr {e : Env} {w : World} {x y : Operand} {dst : Option Tmp} {ty t' : TypeId} {pos : String} {af : Array Edge} {g : Option (Nat × Bool)} {xs ys : Array Value} {l1 l2 : List α} (h1 : ev e x = some (.agg xs)) (h2 : ev e y = some (.agg ys)) (e1 : xs = (l1.map enc).toArray) (e2 : ys = (l2.map enc).toArray) (hg : P.eqGuardType P.depth t = false)
    (hu : P.underlying t = some (.array n t0)) (hi : (P.info? t0).isSome = true) (hc : P.cellsOf t0 = 1) (hgg : ∀ w, (isAgg t0).run P w = .ok false w) (heq : ∀ a b w, (Op.equalIn 9999 t0 (enc a) (enc b)).run P w = .ok (decide (a = b)) w)
    (k1 : l1.length = n) (k2 : l2.length = n) : Ex P ⟨dst, .binOp .eql t x y t', ty, pos, af, g⟩ e w (.bool (decide (l1 = l2))) w := by
  subst e1 e2
  exact Ex.eqlAgg h1 h2 hg (run_equalArr hu hi hc hgg heq k1 k2)
theorem Ex.neqArrC {e : Env} {w : World} {x y : Operand} {dst : Option Tmp} {ty t' : TypeId} {pos : String} {af : Array Edge} {g : Option (Nat × Bool)} {xs ys : Array Value} {l1 l2 : List α} (h1 : ev e x = some (.agg xs)) (h2 : ev e y = some (.agg ys)) (e1 : xs = (l1.map enc).toArray) (e2 : ys = (l2.map enc).toArray) (hg : P.eqGuardType P.depth t = false)
    (hu : P.underlying t = some (.array n t0)) (hi : (P.info? t0).isSome = true) (hc : P.cellsOf t0 = 1) (hgg : ∀ w, (isAgg t0).run P w = .ok false w) (heq : ∀ a b w, (Op.equalIn 9999 t0 (enc a) (enc b)).run P w = .ok (decide (a = b)) w)
    (k1 : l1.length = n) (k2 : l2.length = n) : Ex P ⟨dst, .binOp .neq t x y t', ty, pos, af, g⟩ e w (.bool (!decide (l1 = l2))) w := by
  subst e1 e2
  exact Ex.neqAggC h1 h2 hg (run_equalArr hu hi hc hgg heq k1 k2)
theorem eqBo_at (hu : P.underlying t0 = some .bool) : ∀ a b w, (Op.equalIn 9999 t0 (encBo a) (encBo b)).run P w = .ok (decide (a = b)) w := fun a b w => by
  rw [encBo, encBo, run_equalIn_bool w 9998 t0 a b hu]; cases a <;> cases b <;> rfl
theorem eqBool_at (hu : P.underlying t0 = some .bool) : ∀ a b w, (Op.equalIn 9999 t0 (Value.bool a) (Value.bool b)).run P w = .ok (decide (a = b)) w := fun a b w => by
  rw [run_equalIn_bool w 9998 t0 a b hu]; cases a <;> cases b <;> rfl
theorem eqStr_at (hu : P.underlying t0 = some .string) : ∀ a b w, (Op.equalIn 9999 t0 (encS a) (encS b)).run P w = .ok (decide (a = b)) w := fun a b w => by
  rw [encS, encS, run_equalIn_string w 9998 t0 _ _ hu]
  by_cases h : a = b <;> simp [h]
theorem eqInt_at {k k' : IntKind} (hu : P.underlying t0 = some (.int k')) : ∀ (a b : Int) w, (Op.equalIn 9999 t0 (Value.int k a) (Value.int k b)).run P w = .ok (decide (a = b)) w := fun a b w => by
  rw [run_equalIn_int w 9998 t0 k k' a b hu]
  by_cases h : a = b <;> simp [h]
end
/-- a fact of the variables that were laid before the call -/
def GlF (φ : World → Prop) (M : Mem) : Prop := ∀ w, Ag M w → φ w
theorem GlF.mono {φ : World → Prop} {M M' : Mem} (h : GlF φ M) (hl : M.le M') : GlF φ M' := fun w ha => h w (fun b o hb => ha b o (hl b o hb))
end Go.Ph
