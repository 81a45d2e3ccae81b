/-
  Open, Opf: own texts of this repository (wip/tpl, wip/plans), merged and shaken by wip/tools/pack.py.
-/
import Derived.Deep.Slices
import Derived.ChangeMaps5
import Derived.ChangeSame
import Derived.Test.YtogkmhjnojphiaaGreatDoorE6c
set_option maxRecDepth 100000
section
set_option linter.unusedVariables false
set_option linter.unusedSimpArgs false
namespace Go.Ph
open Go Go.RowKit Go.ChangeShapes Go.WideShapes Go.ChangeAt
section
variable {H : Type} {enc : TypeId × Value → H} {P : Program} {W : World}
def ElemIs (enc : TypeId × Value → H) (P : Program) (W : World) (e : TypeId) {α : Type} (encA : α → List Value) (ok : α → Prop) : Prop :=
  ∀ fuel cs (x : DataW H × List MemPlace), DataW.trod enc P W 0 (fun _ => true) true fuel e cs = some x → ∃ a, cs = encA a ∧ ((∀ y ∈ x.1.weights P e, y ≤ reachBytes) → ok a)
theorem weightsAll_mem {e : TypeId} : ∀ {l : List (DataW H)} {d : DataW H}, d ∈ l → ∀ y ∈ d.weights P e, y ∈ DataW.weightsAll P e l
  | [], d, h => by cases h
  | x :: l, d, h => fun y hy => by
    rw [DataW.weightsAll]
    rcases List.mem_cons.1 h with rfl | h
    · exact List.mem_append_left _ hy
    · exact List.mem_append_right _ (weightsAll_mem h y hy)
theorem open_sliceG {α : Type} {t e : TypeId} {kk : Nat} {encA : α → List Value} {ok : α → Prop} {v : Value} {d : DataW H} {p : List MemPlace} {base : Nat} (ht : P.underlying t = some (.slice e)) (hc : P.cellsOf e = kk) (hk : 0 < kk)
    (h0 : ∀ a, (encA a).length = kk) (hel : ElemIs enc P W e encA ok) (hval : Value.okWide P W .any base t v) (hT : DataW.Trod enc P W 0 (fun _ => true) true t v d p) :
    ∃ l : List α, SlS (memOf W) kk encA v l ∧ DLen d l.length ∧ ((∀ x ∈ d.weights P t, x ≤ reachBytes) → ∀ a ∈ l, ok a) := by
  obtain ⟨a0, len, cap, rfl⟩ := okWide_slice ht hval
  obtain ⟨fuel, hf⟩ := hT
  rcases Deep.open_slice ht hf with ⟨hcs, hx⟩ | ⟨a, len', cap', m, n, D, Pl, hcs, _, hl, hm, hmm, hx, hi⟩
  · simp [Value.cells] at hcs
    obtain ⟨rfl, rfl, rfl⟩ := hcs
    cases hx
    exact ⟨[], ⟨h0, none, 0, rfl, by simp, ⟨by simp [maxLen], fun _ => rfl⟩, fun h => absurd rfl h⟩, .inl ⟨rfl, rfl⟩, fun _ a ha => by cases ha⟩
  · simp [Value.cells] at hcs
    obtain ⟨rfl, rfl, rfl⟩ := hcs
    simp only [if_true] at hmm
    cases hx
    have each : ∀ i, i < len → ∃ x : α, (∀ j u, (encA x)[j]? = some u → W.cell? (a.add (i * kk + j)) = some u) ∧ ((∀ y ∈ (D i).weights P e, y ≤ reachBytes) → ok x) := fun i hil => by
      obtain ⟨cs', h1, h2⟩ := hi i (by omega)
      obtain ⟨x, rfl, hw⟩ := hel _ _ _ h2
      rw [hc] at h1
      refine ⟨x, fun j u hj => ?_, hw⟩
      obtain ⟨_, c1, c2⟩ := World.cells?_some h1
      have hjl : j < kk := by have := (List.getElem?_eq_some_iff.1 hj).1; rw [h0] at this; exact this
      have := c2 j hjl
      rw [hj] at this
      rw [← this]
      congr 1
      by_cases hj0 : j = 0 <;> by_cases hi0 : i * kk = 0 <;> simp [Addr.add, hj0, hi0, Nat.add_assoc]
    obtain ⟨l, hll, hlx⟩ : ∃ l : List α, l.length = len ∧ ∀ i x, l[i]? = some x → (∀ j u, (encA x)[j]? = some u → W.cell? (a.add (i * kk + j)) = some u) ∧ ((∀ y ∈ (D i).weights P e, y ≤ reachBytes) → ok x) := by
      have : ∀ n, n ≤ len → ∃ l : List α, l.length = n ∧ ∀ i x, l[i]? = some x → (∀ j u, (encA x)[j]? = some u → W.cell? (a.add (i * kk + j)) = some u) ∧ ((∀ y ∈ (D i).weights P e, y ≤ reachBytes) → ok x) := by
        intro n
        induction n with
        | zero => exact fun _ => ⟨[], rfl, fun i x h => by simp at h⟩
        | succ n ih =>
          intro hn
          obtain ⟨l, h1, h2⟩ := ih (by omega)
          obtain ⟨x, hx⟩ := each n (by omega)
          refine ⟨l ++ [x], by simp [h1], fun i y hy => ?_⟩
          rcases Nat.lt_or_ge i n with hin | hin
          · rw [List.getElem?_append_left (by omega)] at hy
            exact h2 i y hy
          · rw [List.getElem?_append_right (by omega)] at hy
            have hi0 : i - l.length = 0 := by have := (List.getElem?_eq_some_iff.1 hy).1; simp at this; omega
            rw [hi0] at hy
            simp at hy
            subst hy
            obtain rfl : i = n := by omega
            exact hx
      exact this len (Nat.le_refl _)
    refine ⟨l, ⟨h0, some a, cap, by rw [hll], by omega, ⟨hm, fun h => by cases h⟩, fun hne => ?_⟩, .inr ⟨_, _, rfl, by simp [hll]⟩, fun hw x hx => ?_⟩
    · have hpos : 0 < len := by
        rcases Nat.eq_zero_or_pos len with h | h
        · exact absurd (List.eq_nil_of_length_eq_zero (by omega)) hne
        · exact h
      have hcell : ∀ q, q < len * kk → W.cell? (a.add q) = some ((l.flatMap encA).getD q undef) := fun q hq => by
        have hq1 : q / kk < len := Nat.div_lt_of_lt_mul (by rw [Nat.mul_comm]; exact hq)
        have hq2 : q % kk < kk := Nat.mod_lt _ hk
        have hl1 : l[q / kk]? = some (l[q / kk]'(by omega)) := List.getElem?_eq_getElem _
        have hu : (encA (l[q / kk]'(by omega)))[q % kk]? = some ((encA (l[q / kk]'(by omega)))[q % kk]'(by rw [h0]; exact hq2)) := List.getElem?_eq_getElem _
        have h3 := (hlx _ _ hl1).1 _ _ hu
        have h4 := flat_at h0 l _ _ _ _ hl1 hu
        have hqq : q / kk * kk + q % kk = q := by rw [Nat.mul_comm]; exact Nat.div_add_mod q kk
        rw [hqq] at h3 h4
        rw [h3, List.getD_eq_getElem?_getD, h4]; rfl
      obtain ⟨b, o, cs, t', fz, rfl, hb, hcs⟩ := cells_at (n := len * kk) (Nat.mul_pos hpos hk) hcell
      refine ⟨b, o, cs, t', fz, rfl, hb, fun i x hi j u hj => ?_⟩
      have hil := (List.getElem?_eq_some_iff.1 hi).1
      have hjl : j < kk := by have := (List.getElem?_eq_some_iff.1 hj).1; rw [h0] at this; exact this
      have hlt : i * kk + j < len * kk := by
        have : (i + 1) * kk ≤ len * kk := Nat.mul_le_mul_right _ (by omega)
        rw [Nat.add_mul] at this
        omega
      have := hcs (i * kk + j) hlt
      rw [List.getD_eq_getElem?_getD, flat_at h0 l i j x u hi hj] at this
      rw [Nat.add_assoc]; exact this
    · obtain ⟨i, hi', rfl⟩ := List.getElem_of_mem hx
      refine (hlx i _ (List.getElem?_eq_getElem hi')).2 (fun y hy => hw y ?_)
      simp only [DataW.weights, ht]
      exact List.mem_cons_of_mem _ (List.mem_append_left _ (weightsAll_mem (List.mem_map.2 ⟨i, List.mem_range.2 (by omega), rfl⟩) y hy))
end
end Go.Ph
end
section
set_option linter.unusedVariables false
set_option linter.unusedSimpArgs false
namespace Go.Ph
open Go Go.RowKit Go.ChangeShapes Go.WideShapes Go.ChangeAt
section
variable {H : Type} {enc : TypeId × Value → H} {P : Program} {W : World}
theorem elem_fld {e tS : TypeId} {f0 f1 : Field} (he : P.underlying e = some (.struct #[f0, f1])) (t0 : f0.type = tS) (t1 : f1.type = tS) (o0 : f0.offset = 0) (o1 : f1.offset = 1) (hS : P.underlying tS = some .string) (hc : P.cellsOf tS = 1) (hce : P.cellsOf e = 2) :
    ElemIs enc P W e (fun a : List UInt8 × List UInt8 => [S a.1, S a.2]) (fun a => a.1.length ≤ 140737488351232 ∧ a.2.length ≤ 140737488351232) := fun fuel cs x h => by
  obtain ⟨y0, y1, n, rfl, hl, h0, h1⟩ := trod_struct2 he h
  rw [t0, o0, hc] at h0
  rw [t1, o1, hc] at h1
  rw [hce] at hl
  obtain ⟨s0, e0, rfl, _⟩ := DataW.trod_string hS h0
  obtain ⟨s1, e1, rfl, _⟩ := DataW.trod_string hS h1
  match cs, hl with
  | [c0, c1], _ =>
    simp at e0 e1
    subst e0 e1
    refine ⟨(s0.data.toList, s1.data.toList), by cases s0; cases s1; simp [S], fun hw => ?_⟩
    have hw' : ∀ y ∈ [s0.data.toList.length, s1.data.toList.length], y ≤ reachBytes := fun y hy => hw y (by
      simp only [DataW.weights, he, DataW.weightsEach, List.map_cons, List.map_nil]
      simpa using hy)
    exact ⟨hw' _ (by simp), hw' _ (by simp)⟩
theorem open_flds {t e tS : TypeId} {f0 f1 : Field} {v : Value} {d : DataW H} {p : List MemPlace} {base : Nat} (ht : P.underlying t = some (.slice e)) (he : P.underlying e = some (.struct #[f0, f1])) (t0 : f0.type = tS) (t1 : f1.type = tS) (o0 : f0.offset = 0) (o1 : f1.offset = 1) (hS : P.underlying tS = some .string) (hc : P.cellsOf tS = 1) (hce : P.cellsOf e = 2)
    (hval : Value.okWide P W .any base t v) (h0 : DataW.Trod enc P W 0 (fun _ => true) true t v d p) :
    ∃ l : List (List UInt8 × List UInt8), SlS (memOf W) 2 (fun a => [S a.1, S a.2]) v l ∧ DLen d l.length ∧ ((∀ x ∈ d.weights P t, x ≤ reachBytes) → ∀ a ∈ l, a.1.length ≤ 140737488351232 ∧ a.2.length ≤ 140737488351232) :=
  open_sliceG ht hce (by omega) (fun _ => rfl) (elem_fld he t0 t1 o0 o1 hS hc hce) hval h0
end
end Go.Ph
end
