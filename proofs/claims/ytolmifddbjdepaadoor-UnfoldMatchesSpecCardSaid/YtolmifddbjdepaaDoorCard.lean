/-
  From a row that lists the tables of unicode/utf8 to what the walks ask of the memory; a world for the witness.
-/
import Derived.Test.YtolmifddbjdepaaDoorRow
import Derived.Test.YtolmifddbjdepaaDoorConv
import Derived.Test.YtolmifddbjdepaaDoorRows
import Derived.Test.YtolmifddbjdepaaDoorShelf
import Derived.Deep.DeepHandedRow
import Derived.Lib.LaidU8
import Derived.KernelRfl
set_option linter.unusedVariables false
set_option linter.unusedSimpArgs false
namespace Go.Proofs.YtolmifddbjdepaaDoor
open Go Go.RowKit Go.Ph Go.ChangeShapes Go.WideShapes Go.ChangeAt

theorem own : ownKnob Tryd.prog.godebug = none := by kernel_rfl
theorem laidOut : laidOutB Tryd.prog = true := by kernel_rfl
theorem cell_up {W w : World} (ha : Ag (memOf W) w) {p : Addr} {v : Value} (h : W.cell? p = some v) : w.cell? p = some v := by
  unfold World.cell? at h ⊢
  cases hb : W.heap[p.block]? with
  | none => rw [hb] at h; cases h
  | some o => rw [ha p.block o hb]; rw [hb] at h; exact h
theorem first_eq : Lib.firstData = Rows.laid_unicode_utf8_first := by kernel_rfl
theorem accept_eq : Lib.acceptData = Rows.laid_unicode_utf8_acceptRanges := by kernel_rfl
def layCells (cs : Array Value) : Obj → Obj
  | .cells _ t fz => .cells cs t fz
  | o => o
/-- a world that holds the tables -/
noncomputable def laidWorld (os : Os) : World :=
  { World.holding Tryd.prog os ⟨#[], #[], []⟩ with heap := ((World.holding Tryd.prog os ⟨#[], #[], []⟩).heap.modify 1 (layCells (Lib.firstTab.map (Value.int .u8)).toArray)).modify 2 (layCells ((List.range 16).flatMap fun i => [Value.int .u8 (Lib.accLo i), Value.int .u8 (Lib.accHi i)]).toArray) }
theorem laid_met (os : Os) (args : Array Value) : laidMet Tryd.prog Rows.quotedEncodeMatchesSpecRow.laid ((laidWorld os).forCall (fun _ _ => 0) ⟨#[], args, []⟩).memory :=
  laidMet_of_run' 8 (by kernel_rfl) (by kernel_rfl)
theorem str_list (s : ByteArray) : ∃ l : List UInt8, s = ⟨l.toArray⟩ := ⟨s.data.toList, by cases s; simp⟩
end Go.Proofs.YtolmifddbjdepaaDoor
