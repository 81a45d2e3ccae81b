/-
  A slice of the call's own, read and written at an index. No program in sight.
-/
import Derived.Test.YtlopnlagpdchiaaGreatDoorMulti
set_option linter.unusedVariables false
set_option linter.unusedSimpArgs false
namespace Go.Ph
open Go Go.RowKit
section
variable {C : Nat → Prop} {r : Option Nat} {P : Program} {ops : Array Oper} {Q : Exit → Act → World → Prop} {n : Nat} {D : List Deferred} {rest : List Oper} {e : Env} {w0 w : World} {M0 M : Mem} {L L' : List Item} {d : Nat} {v u : Value}
  {x y : Operand} {ty t ts t' tt : TypeId} {pos : String} {af : Array Edge} {g : Option (Nat × Bool)} {dst : Option Tmp} {α : Type} {enc : α → Value} {l : List α}
theorem StX.rowAt (H : StX C w0 M0 M L w) (hm : RowI t enc v l ∈ L) {i : Nat} {a : α} (hi : l[i]? = some a) :
    ∃ gb cap cur, v = .slice (some ⟨gb, 0, none⟩) l.length cap ∧ w.heap[gb]? = some (.cells cur t) ∧ l.length ≤ cap ∧ cur.size = cap ∧ cap ≤ maxLen ∧ cur.toList.take l.length = l.map enc := by
  rcases (H.rowOf hm).2 with ⟨hv, hn⟩ | ⟨gb, cap, cur, hv, _, hg, hnc, hcm, hcs, htake⟩
  · rw [List.eq_nil_of_length_eq_zero hn] at hi; simp at hi
  · exact ⟨gb, cap, cur, hv, hg, hnc, by omega, hcm, by simpa using htake⟩
theorem WR.idxRow {i : Nat} {a : α} {k' : IntKind} (H : StX C w0 M0 M L w) (ht : P.underlying ts = some (.slice t')) (hz : ∀ w, (sizeOf t').run P w = .ok 1 w) (hm : RowI t enc v l ∈ L) (hx : ev e x = some v) (hy : ev e y = some (.int k' (i : Int))) (hi : l[i]? = some a)
    (hw : Wn ops n D e ⟨some d, .indexAddr ts x y, ty, pos, af, g⟩) (hn : Nat.blt d n = true) (k : ∀ gb, v.ownBlock = some gb → WR r P ops Q n D rest ((d, ptr gb i) :: e) w) :
    WR r P ops Q n D (⟨some d, .indexAddr ts x y, ty, pos, af, g⟩ :: rest) e w := by
  obtain ⟨gb, cap, cur, rfl, hg, h1, h2, h3, h4⟩ := H.rowAt hm hi
  have hlt := (List.getElem?_eq_some_iff.1 hi).1
  refine WR.step (v := ptr gb i) (w' := w) ⟨nofun, fun ρ hfi => ?_⟩ hw rfl hn (k gb rfl)
  have h0 : (0 : Int) ≤ (i : Int) ∧ (i : Int) < (l.length : Int) := by omega
  simp only [execOp, hfi _ _ hx, hfi _ _ hy, Instr.indexAt, Sem.run_bind, asIntOf, run_underlying ht, Result.andThen_ok, Sem.run_pure, hz, h0, and_self, if_true, Addr.add_lit, Int.toNat_natCast, Nat.mul_one, Nat.zero_add]
theorem Ex.loadRow {gb i : Nat} {a : α} (H : StX C w0 M0 M L w) (hx : ev e x = some (ptr gb i)) (hg : v.ownBlock = some gb) (hm : RowI t enc v l ∈ L) (hi : l[i]? = some a) (ha : ∀ w, (isAgg tt).run P w = .ok false w) :
    Ex P ⟨dst, .load tt x, ty, pos, af, g⟩ e w (enc a) w := Ex.loadK hx (by
  obtain ⟨gb', cap, cur, rfl, hgb, h1, h2, h3, h4⟩ := H.rowAt hm hi
  obtain rfl : gb' = gb := Option.some.inj hg
  have hlt := (List.getElem?_eq_some_iff.1 hi).1
  have hc : w.cell? ⟨gb', i, none⟩ = some (enc a) := by
    rw [cell_of_row w gb' i _ t _ hgb]
    have h5 : (cur.toList.take l.length)[i]? = some (enc a) := by rw [h4, List.getElem?_map, hi]; rfl
    rw [List.getElem?_take, if_pos hlt] at h5
    simpa using h5
  simp only [loadVar, Sem.run_bind, ha, Result.andThen_ok, Bool.false_eq_true, if_false]
  simp [load, Sem.run, hc])
theorem WR.storeRow {gb i : Nat} {a : α} {L' : Item → List Item} (H : StX C w0 M0 M L w) (hx : ev e x = some (ptr gb i)) (hy : ev e y = some (enc a)) (ho : One (enc a)) (hg : v.ownBlock = some gb) (hu : ∀ it', Upd L (RowI t enc v l) it' (L' it')) (hi : i < l.length)
    (hs : ∀ w, (sizeOf tt).run P w = .ok 1 w) (hw : Wn ops n D e ⟨none, .store tt x y, ty, pos, af, g⟩) (k : ∀ w', StX C w0 M0 M (L' (RowI t enc v (l.set i a))) w' → WR r P ops Q n D rest e w') :
    WR r P ops Q n D (⟨none, .store tt x y, ty, pos, af, g⟩ :: rest) e w := by
  have hm := (hu (RowI t enc v l)).mem
  obtain ⟨gb', cap, cur, rfl, hgb, h1, h2, h3, h4⟩ := H.rowAt hm (List.getElem?_eq_getElem hi)
  obtain rfl : gb' = gb := Option.some.inj hg
  have hrun := run_storeVar (P := P) (t := tt) (v := enc a) (o := i) (s := 1) hgb hs (by rw [ho.1]; rfl) (by omega) (by rw [ho.1]; simp [ho.2])
  have hset : (cur.toList.take i ++ (enc a).cells.toList ++ cur.toList.drop (i + 1)).toArray = (cur.toList.set i (enc a)).toArray := by
    rw [ho.1, List.set_eq_take_append_cons_drop, if_pos (by rw [Array.length_toList]; omega)]
    simp
  rw [hset] at hrun
  refine WR.stepS (w' := w.setRow gb' (cur.toList.set i (enc a)).toArray) ⟨nofun, fun ρ hf => ?_⟩ hw rfl (k _ (H.upd (hu _) (grownBy_setRow w gb' _) ?_ (fun b' hb' => .inl hb')))
  · simp only [execOp, hf _ _ hx, hf _ _ hy, Instr.storeAt, Instr.sureAddr, Sem.run_bind, Sem.run_pure, Result.andThen_ok, hrun]
  · refine ⟨by simp, .inr ⟨gb', cap, _, by simp, Nat.zero_le _, setRow_heap w gb' cur _ t _ hgb, by simpa using h1, h3, by simp [h2], ?_⟩⟩
    simp only [List.length_set, Nat.mul_one]
    rw [List.take_set, h4, List.map_set]
end
end Go.Ph
