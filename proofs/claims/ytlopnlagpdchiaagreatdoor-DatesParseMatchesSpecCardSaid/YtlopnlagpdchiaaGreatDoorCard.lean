/-
  From a row's listed variables to what the walks ask of the memory; a world for the witness.
-/
import Derived.Test.YtlopnlagpdchiaaGreatDoorGlo
import Derived.Test.YtlopnlagpdchiaaGreatDoorOag
import Derived.Test.YtlopnlagpdchiaaGreatDoorRows
import Derived.Test.YtlopnlagpdchiaaGreatDoorShelf
import Derived.Deep.DeepHandedRow
import Derived.KernelRfl
set_option linter.unusedVariables false
set_option linter.unusedSimpArgs false
namespace Go.Proofs.YtlopnlagpdchiaaGreatDoor
open Go Go.RowKit Go.Ph Go.ChangeShapes Go.WideShapes Go.ChangeAt
theorem own : ownKnob Tryz.prog.godebug = none := by kernel_rfl
theorem laidOut : laidOutB Tryz.prog = true := by kernel_rfl
theorem pow_eq : Lib.tabData .u64 Lib.pow10Tab = (Rows.laid_internal_strconv_uint64pow10 : DataW Unit) := by kernel_rfl
theorem gl_pow10 {W : World} (h : laidMetH Tryz.prog Rows.datesCivilMatchesSpecRow.laid W) : GlF (fun w => Lib.TabIs Tryz.prog w "internal/strconv.uint64pow10" .u64 Lib.pow10Tab) (memOf W) := by
  replace h : laidMet Tryz.prog Rows.datesCivilMatchesSpecRow.laid W := h
  have h3 := Lib.laidMet.reads h (n := "internal/strconv.uint64pow10") (d := Rows.laid_internal_strconv_uint64pow10) (by simp [Rows.datesCivilMatchesSpecRow])
  rw [← pow_eq] at h3
  exact tab_of_reads (g := 1) (len := 20) (t := 126) (e := 100) h3 (by kernel_rfl) (by kernel_rfl) (by kernel_rfl) (by kernel_rfl) (by kernel_rfl) (by kernel_rfl)
theorem gl_errS {W : World} (h : laidMetH Tryz.prog Rows.datesCivilMatchesSpecRow.laid W) : GlF (fun w => ∃ tp p, w.var? Tryz.prog "strconv.ErrSyntax" = some #[.iface tp p]) (memOf W) := by
  replace h : laidMet Tryz.prog Rows.datesCivilMatchesSpecRow.laid W := h
  have h3 := Lib.laidMet.reads h (n := "strconv.ErrSyntax") (d := Rows.laid_strconv_ErrSyntax) (by simp [Rows.datesCivilMatchesSpecRow])
  exact iface_of_reads (g := 2) (t := 75) h3 (by kernel_rfl) (by kernel_rfl) (by kernel_rfl)
theorem gl_errR {W : World} (h : laidMetH Tryz.prog Rows.datesCivilMatchesSpecRow.laid W) : GlF (fun w => ∃ tp p, w.var? Tryz.prog "strconv.ErrRange" = some #[.iface tp p]) (memOf W) := by
  replace h : laidMet Tryz.prog Rows.datesCivilMatchesSpecRow.laid W := h
  have h3 := Lib.laidMet.reads h (n := "strconv.ErrRange") (d := Rows.laid_strconv_ErrRange) (by simp [Rows.datesCivilMatchesSpecRow])
  exact iface_of_reads (g := 3) (t := 75) h3 (by kernel_rfl) (by kernel_rfl) (by kernel_rfl)
theorem gl_maxl {W : World} (h : W.ShapedOpen Tryz.prog) : GlF (fun w => ∃ m, w.cell? ⟨0, 0, none⟩ = some (.int .i64 m)) (memOf W) := by
  obtain ⟨m, hm⟩ := Go.Proofs.cell_of_shapedOpen_int (g := 0) (zero := #[.int .i64 0]) (t := 3) h (of_decide_eq_true (by kernel_rfl)) (by kernel_rfl) rfl (by kernel_rfl) (by kernel_rfl) Tryz.underlying3
  exact fun w ha => ⟨m, cell_upM ha hm⟩
/-- a world that holds the listed variables -/
noncomputable def laidWorld (os : Os) : World := World.laidAll Tryz.prog os Rows.datesCivilMatchesSpecRow.laid
theorem laid_met (os : Os) (args : Array Value) : laidMet Tryz.prog Rows.datesCivilMatchesSpecRow.laid ((laidWorld os).forCall (fun _ _ => 0) ⟨#[], args, []⟩).memory :=
  laidMet_laidAll args (by kernel_rfl) (by kernel_rfl)
theorem str_list (s : ByteArray) : ∃ l : List UInt8, s = ⟨l.toArray⟩ := ⟨s.data.toList, by cases s; simp⟩
end Go.Proofs.YtlopnlagpdchiaaGreatDoor
