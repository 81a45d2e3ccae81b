/-
  An argument that is a record of numbers, opened. No program in sight.
-/
import Derived.Test.YtlopnlagpdchiaaGreatDoorOpen
import Derived.ChangeArms
set_option linter.unusedVariables false
set_option linter.unusedSimpArgs false
namespace Go.Ph
open Go Go.RowKit Go.ChangeShapes Go.WideShapes Go.ChangeAt
section
variable {H : Type} {enc : TypeId × Value → H} {P : Program} {W : World}
theorem open_intsN {t ti : TypeId} {fs : Array Field} {n base : Nat} {v : Value} {d : DataW H} {p : List MemPlace} (hs : P.underlying t = some (.struct fs)) (hn : fs.size = n) (hi : P.underlying ti = some (.int .i64)) (hci : P.cellsOf ti = 1) (hC : P.cellsOf t = n)
    (hf : ∀ i, i < n → ∃ f, fs[i]? = some f ∧ f.offset = i ∧ f.type = ti) (hv : Value.okWide P W .any base t v) (h : DataW.Trod enc P W 0 (fun _ => true) true t v d p) :
    ∃ cs : Array Value, v = .agg cs ∧ cs.size = n ∧ ∀ i, i < n → ∃ z, cs[i]? = some (.int .i64 z) ∧ (-9223372036854775808 ≤ z ∧ z ≤ 9223372036854775807) := by
  obtain ⟨cs, rfl, hsz⟩ := okWide_struct hs hv
  refine ⟨cs, rfl, hsz.trans hC, fun i hin => ?_⟩
  obtain ⟨fuel, h⟩ := h
  obtain ⟨xs, m, _, _, _, hl, hx⟩ := DataW.trod_struct hs h
  obtain ⟨f, h1, h2, h3⟩ := hf i hin
  have h4 := hx i f h1
  rw [h2, h3, hci] at h4
  have hsz' : cs.size = n := hsz.trans hC
  have h5 : ((Value.agg cs).cells.toList.drop i).take 1 = [cs[i]] := by
    show (cs.toList.drop i).take 1 = _
    rw [List.drop_eq_getElem_cons (by simpa [hsz'] using hin)]
    simp
  rw [h5, List.getElem?_eq_getElem (by omega)] at h4
  obtain ⟨z, hz, _, hw⟩ := DataW.trod_int hi h4
  simp only [List.cons.injEq, and_true] at hz
  exact ⟨z, by rw [Array.getElem?_eq_getElem (by omega), hz], wf_i64 hw⟩
theorem array7 {α : Type} {cs : Array α} (h : cs.size = 7) : ∃ c0 c1 c2 c3 c4 c5 c6, cs = #[c0, c1, c2, c3, c4, c5, c6] := by
  obtain ⟨l⟩ := cs
  match l, h with
  | [c0, c1, c2, c3, c4, c5, c6], _ => exact ⟨c0, c1, c2, c3, c4, c5, c6, rfl⟩
theorem open_ints7 {t ti : TypeId} {fs : Array Field} {base : Nat} {v : Value} {d : DataW H} {p : List MemPlace} (hs : P.underlying t = some (.struct fs)) (hn : fs.size = 7) (hi : P.underlying ti = some (.int .i64)) (hci : P.cellsOf ti = 1) (hC : P.cellsOf t = 7)
    (hf : (fs.toList.map fun f => (f.offset, f.type)) = (List.range 7).map fun i => (i, ti)) (hv : Value.okWide P W .any base t v) (h : DataW.Trod enc P W 0 (fun _ => true) true t v d p) :
    ∃ z : Int × Int × Int × Int × Int × Int × Int, v = .agg #[I z.1, I z.2.1, I z.2.2.1, I z.2.2.2.1, I z.2.2.2.2.1, I z.2.2.2.2.2.1, I z.2.2.2.2.2.2] ∧ (-9223372036854775808 ≤ z.1 ∧ z.1 ≤ 9223372036854775807) ∧ (-9223372036854775808 ≤ z.2.1 ∧ z.2.1 ≤ 9223372036854775807) ∧ (-9223372036854775808 ≤ z.2.2.1 ∧ z.2.2.1 ≤ 9223372036854775807) ∧ (-9223372036854775808 ≤ z.2.2.2.1 ∧ z.2.2.2.1 ≤ 9223372036854775807) ∧ (-9223372036854775808 ≤ z.2.2.2.2.1 ∧ z.2.2.2.2.1 ≤ 9223372036854775807) ∧ (-9223372036854775808 ≤ z.2.2.2.2.2.1 ∧ z.2.2.2.2.2.1 ≤ 9223372036854775807) ∧ (-9223372036854775808 ≤ z.2.2.2.2.2.2 ∧ z.2.2.2.2.2.2 ≤ 9223372036854775807) := by
  obtain ⟨cs, rfl, hsz, hc⟩ := open_intsN hs hn hi hci hC (fun i hin => by
    have h1 : (fs.toList.map fun f => (f.offset, f.type))[i]? = some (i, ti) := by rw [hf, List.getElem?_map, List.getElem?_range hin]; rfl
    rw [List.getElem?_map] at h1
    obtain ⟨f, h2, h3⟩ := Option.map_eq_some_iff.1 h1
    simp only [Prod.mk.injEq] at h3
    exact ⟨f, by simpa using h2, h3.1, h3.2⟩) hv h
  obtain ⟨c0, c1, c2, c3, c4, c5, c6, rfl⟩ := array7 hsz
  obtain ⟨z0, e0, b0⟩ := hc 0 (by omega)
  obtain ⟨z1, e1, b1⟩ := hc 1 (by omega)
  obtain ⟨z2, e2, b2⟩ := hc 2 (by omega)
  obtain ⟨z3, e3, b3⟩ := hc 3 (by omega)
  obtain ⟨z4, e4, b4⟩ := hc 4 (by omega)
  obtain ⟨z5, e5, b5⟩ := hc 5 (by omega)
  obtain ⟨z6, e6, b6⟩ := hc 6 (by omega)
  simp at e0 e1 e2 e3 e4 e5 e6
  subst e0 e1 e2 e3 e4 e5 e6
  exact ⟨(z0, z1, z2, z3, z4, z5, z6), rfl, b0, b1, b2, b3, b4, b5, b6⟩
end
end Go.Ph
