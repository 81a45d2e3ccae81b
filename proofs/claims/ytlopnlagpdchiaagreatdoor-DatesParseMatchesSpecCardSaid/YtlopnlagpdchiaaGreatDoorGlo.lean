/-
  From a row's listed variables to facts of the memory. No program in sight.
-/
import Derived.Test.YtlopnlagpdchiaaGreatDoorLb
import Derived.Test.YtlopnlagpdchiaaGreatDoorRow
import Derived.Lib.LaidTab
import Derived.Lib.LaidU8
import Derived.Shelf.Vars
import Derived.Lay
set_option linter.unusedVariables false
set_option linter.unusedSimpArgs false
namespace Go.Ph
open Go Go.RowKit
theorem var_up {P : Program} {W w : World} (ha : Ag (memOf W) w) {n : String} {cs : Array Value} (h : W.var? P n = some cs) : w.var? P n = some cs := by
  unfold World.var? at h ⊢
  cases hg : P.globalNamed n with
  | none => rw [hg] at h; cases h
  | some g =>
    rw [hg] at h
    simp only [Option.bind_eq_bind, Option.bind_some] at h ⊢
    cases hb : W.heap[g]? with
    | none => rw [hb] at h; cases h
    | some o => rw [ha g o hb]; rw [hb] at h; exact h
theorem cell_upM {W w : World} (ha : Ag (memOf W) w) {p : Addr} {v : Value} (h : W.cell? p = some v) : w.cell? p = some v := by
  unfold World.cell? at h ⊢
  cases hb : W.heap[p.block]? with
  | none => rw [hb] at h; cases h
  | some o => rw [ha p.block o hb]; rw [hb] at h; exact h
theorem tab_of_reads {P : Program} {W : World} {n : String} {k : IntKind} {zs : List Int} {g len : Nat} {t e : TypeId} (h : Lib.VarReads P W n (Lib.tabData k zs))
    (hg : P.globalNamed n = some g) (hty : (P.globals[g]?).map (·.type) = some t) (ht : P.underlying t = some (.array len e)) (he : P.underlying e = some (.int k)) (hce : P.cellsOf e = 1) (hct : P.cellsOf t = len) : GlF (fun w => Lib.TabIs P w n k zs) (memOf W) := by
  obtain ⟨g', t', cs, fuel, p, hg', ht', hvar, hd⟩ := h
  obtain rfl := Option.some.inj (hg.symm.trans hg')
  obtain rfl := Option.some.inj (hty.symm.trans ht')
  intro w ha
  have := var_up ha hvar
  unfold Lib.TabIs
  rw [this, ← Lib.cells_of_tab ht he hce hct hd]
theorem iface_of_reads {P : Program} {W : World} {n : String} {nm : String} {d : DataW Unit} {g : Nat} {t : TypeId} (h : Lib.VarReads P W n (.iface nm d))
    (hg : P.globalNamed n = some g) (hty : (P.globals[g]?).map (·.type) = some t) (ht : P.underlying t = some (.interface (P.methodsAt t))) : GlF (fun w => ∃ tp p, w.var? P n = some #[.iface tp p]) (memOf W) := by
  obtain ⟨g', t', cs, fuel, p, hg', ht', hvar, hd⟩ := h
  obtain rfl := Option.some.inj (hg.symm.trans hg')
  obtain rfl := Option.some.inj (hty.symm.trans ht')
  intro w ha
  have hup := var_up ha hvar
  cases fuel with
  | zero => cases hd
  | succ fuel =>
    simp only [DataW.trod, ht] at hd
    split at hd <;> try (simp_all; done)
    · rename_i u v hh hcs
      exact ⟨u, v, by rw [hup]; congr 1; cases cs; simp_all⟩
end Go.Ph
