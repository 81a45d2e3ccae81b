/-
  Ranging over a string; a field of a struct that is a value. No program in sight.
-/
import Derived.Test.YtlopnlagpdchiaaGreatDoorMulti
import Derived.Test.YtlopnlagpdchiaaGreatDoorUtf
import Derived.Test.YtlopnlagpdchiaaGreatDoorIter
set_option linter.unusedVariables false
set_option linter.unusedSimpArgs false
namespace Go.Ph
open Go Go.RowKit
theorem get_list (l : List UInt8) (i : Nat) : ((⟨l.toArray⟩ : ByteArray).get! i).toNat = Utf.nat l i := by
  unfold Utf.nat
  show (l.toArray[i]!).toNat = _
  rw [List.getElem!_toArray, List.getElem!_eq_getElem?_getD, List.getD_eq_getElem?_getD]
  rfl
theorem decode_list (l : List UInt8) (i : Nat) : Utf8.decode ⟨l.toArray⟩ i = Utf.dr (l.drop i) := by
  unfold Utf.dr
  rw [Lib.decode_at, size_mk, get_list, get_list, get_list, get_list, List.length_drop, Utf.nat_drop, Utf.nat_drop, Utf.nat_drop, Utf.nat_drop]
  rfl
section
variable {C : Nat → Prop} {r : Option Nat} {P : Program} {ops : Array Oper} {Q : Exit → Act → World → Prop} {n : Nat} {D : List Deferred} {rest : List Oper} {e : Env} {w0 w : World} {M0 M : Mem} {L L' : List Item} {d : Nat} {v u : Value}
  {x y : Operand} {ty t t' : TypeId} {pos : String} {af : Array Edge} {g : Option (Nat × Bool)} {dst : Option Tmp} {l : List UInt8}
/-- a field of one cell -/
theorem Ex.field {fs : Array Field} {f : Field} {i : Nat} {cs : List Value} (hs : P.underlying t = some (.struct fs)) (hf : fs[i]? = some f) (ha : ∀ w, (isAgg f.type).run P w = .ok false w) (hx : ev e x = some (.agg cs.toArray)) (hv : cs[f.offset]? = some v) :
    Ex P ⟨dst, .field t x i, ty, pos, af, g⟩ e w v w :=
  ⟨nofun, fun ρ hfi => by
    simp only [execOp, hfi _ _ hx, Instr.field, Sem.run_bind, run_underlying hs, Result.andThen_ok, hf, asAgg, Sem.run_pure, part, ha, Bool.false_eq_true, if_false, List.getElem?_toArray, hv]⟩
theorem WR.rangeStr (H : StX C w0 M0 M L w) (ht : P.underlying t = some .string) (hx : ev e x = some (S l)) (hw : Wn ops n D e ⟨some d, .range t x, ty, pos, af, g⟩) (hn : Nat.blt d n = true)
    (k : ∀ b w', StX C w0 M0 M (.blk b (.stringIter ⟨l.toArray⟩ 0) :: L) w' → WR r P ops Q n D rest ((d, ptr b 0) :: e) w') : WR r P ops Q n D (⟨some d, .range t x, ty, pos, af, g⟩ :: rest) e w := by
  refine WR.step (v := ptr w.heap.size 0) (w' := w.alloc (.stringIter ⟨l.toArray⟩ 0)) ⟨nofun, fun ρ hf => ?_⟩ hw rfl hn (k _ _ (H.new (grownBy_alloc' _ _) (World.alloc_heap_new w _) (fun b hb => by cases hb; exact Nat.le_refl _)))
  simp only [execOp, hf _ _ hx, Instr.range, Sem.run_bind, run_underlying ht, Result.andThen_ok, Sem.run_pure]
  rfl
theorem WR.nextT {b ps : Nat} (H : StX C w0 M0 M L w) (hps : ps < l.length) (hx : ev e x = some (ptr b 0)) (hu : Upd L (.blk b (.stringIter ⟨l.toArray⟩ ps)) (.blk b (.stringIter ⟨l.toArray⟩ (ps + (Utf.dr (l.drop ps)).2))) L')
    (hw : Wn ops n D e ⟨some d, .next x true, ty, pos, af, g⟩) (hn : Nat.blt d n = true)
    (k : ∀ w', StX C w0 M0 M L' w' → WR r P ops Q n D rest ((d, .tuple #[.bool true, I (ps : Int), .int .i32 ((Utf.dr (l.drop ps)).1 : Int)]) :: e) w') : WR r P ops Q n D (⟨some d, .next x true, ty, pos, af, g⟩ :: rest) e w := by
  have hb := H.blk hu.mem
  have hlt := (Array.getElem?_eq_some_iff.1 hb).1
  have hget : w.heap[b]'hlt = .stringIter ⟨l.toArray⟩ ps := (Array.getElem?_eq_some_iff.1 hb).2
  refine WR.step (w' := w.putObj b (.stringIter ⟨l.toArray⟩ (ps + (Utf.dr (l.drop ps)).2))) ⟨nofun, fun ρ hf => ?_⟩ hw rfl hn (k _ (H.put hu))
  have hsz : ps < ByteArray.size ⟨l.toArray⟩ := by rw [size_mk]; exact hps
  simp only [execOp, hf _ _ hx, Instr.next, Sem.run_bind, getObj, Sem.run, hb, Result.andThen_ok]
  simp [hsz, decode_list, setObj, hlt, hget, goInt, World.putObj, Sem.run]
theorem WR.nextF {b ps : Nat} (H : StX C w0 M0 M L w) (hps : l.length ≤ ps) (hx : ev e x = some (ptr b 0)) (hm : Item.blk b (.stringIter ⟨l.toArray⟩ ps) ∈ L)
    (hw : Wn ops n D e ⟨some d, .next x true, ty, pos, af, g⟩) (hn : Nat.blt d n = true)
    (k : WR r P ops Q n D rest ((d, .tuple #[.bool false]) :: e) w) : WR r P ops Q n D (⟨some d, .next x true, ty, pos, af, g⟩ :: rest) e w := by
  have hb := H.blk hm
  refine WR.step (w' := w) ⟨nofun, fun ρ hf => ?_⟩ hw rfl hn k
  have hsz : ¬ ps < ByteArray.size ⟨l.toArray⟩ := by rw [size_mk]; omega
  simp only [execOp, hf _ _ hx, Instr.next, Sem.run_bind, getObj, Sem.run, hb, Result.andThen_ok]
  simp [hsz]
end
end Go.Ph
