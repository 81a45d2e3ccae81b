/-
  Slices whose elements are of several cells; calls through function values. No program in sight.
-/
import Derived.Test.YtlopnlagpdchiaaGreatDoorHeap
set_option linter.unusedVariables false
set_option linter.unusedSimpArgs false
namespace Go.Ph
open Go Go.RowKit

def CellsM (M : Mem) (p : Addr) (vs : List Value) : Prop := p.spot = none ∧ ∃ cs t fz, M p.block = some (.cells cs t fz) ∧ ∀ j u, vs[j]? = some u → cs[p.off + j]? = some u
theorem CellsM.mono {M M' : Mem} {p : Addr} {vs : List Value} (h : CellsM M p vs) (hl : M.le M') : CellsM M' p vs :=
  ⟨h.1, let ⟨cs, t, fz, h1, h2⟩ := h.2; ⟨cs, t, fz, hl _ _ h1, h2⟩⟩
theorem CellsM.at {M : Mem} {b o j : Nat} {vs : List Value} {u : Value} (h : CellsM M ⟨b, o, none⟩ vs) (hj : vs[j]? = some u) : CellM M ⟨b, o + j, none⟩ u :=
  ⟨rfl, let ⟨cs, t, fz, h1, h2⟩ := h.2; ⟨cs, t, fz, h1, h2 j u hj⟩⟩
/-- a slice that reads as a list; each element is of k cells -/
def SlS {α : Type} (M : Mem) (k : Nat) (enc : α → List Value) (v : Value) (l : List α) : Prop :=
  (∀ x, (enc x).length = k) ∧ ∃ A c, v = .slice A l.length c ∧ l.length ≤ c ∧ (c ≤ maxLen ∧ (A = none → c = 0)) ∧
    (l ≠ [] → ∃ b o cs t fz, A = some ⟨b, o, none⟩ ∧ M b = some (.cells cs t fz) ∧ ∀ i x, l[i]? = some x → ∀ j u, (enc x)[j]? = some u → cs[o + i * k + j]? = some u)
section
variable {α : Type} {M M' : Mem} {kk : Nat} {enc : α → List Value} {v : Value} {l : List α}
theorem SlS.mono (h : SlS M kk enc v l) (hl : M.le M') : SlS M' kk enc v l := by
  obtain ⟨h0, A, c, hv, h1, h2, h3⟩ := h
  refine ⟨h0, A, c, hv, h1, h2, fun hne => ?_⟩
  obtain ⟨b, o, cs, t, fz, e1, e2, e3⟩ := h3 hne
  exact ⟨b, o, cs, t, fz, e1, hl _ _ e2, e3⟩
theorem SlS.one (h : SlS M kk enc v l) : One v := by
  obtain ⟨_, A, c, rfl, _⟩ := h; exact One.slice _ _ _
theorem flat_at (h0 : ∀ x, (enc x).length = kk) : ∀ (l : List α) (i j : Nat) (x : α) (u : Value), l[i]? = some x → (enc x)[j]? = some u → (l.flatMap enc)[i * kk + j]? = some u := by
  intro l
  induction l with
  | nil => intro i j x u hi; simp at hi
  | cons y l ih =>
    intro i j x u hi hj
    have hjl : j < kk := by have := (List.getElem?_eq_some_iff.1 hj).1; rw [h0] at this; exact this
    rw [List.flatMap_cons]
    cases i with
    | zero =>
      have : y = x := by simpa using hi
      subst this
      rw [Nat.zero_mul, Nat.zero_add, List.getElem?_append_left (by rw [h0]; exact hjl)]
      exact hj
    | succ i =>
      rw [List.getElem?_append_right (by rw [h0, Nat.add_mul]; omega), h0, show (i + 1) * kk + j - kk = i * kk + j by rw [Nat.add_mul]; omega]
      exact ih i j x u (by simpa using hi) hj
theorem SlS.ofBlk {b : Nat} {t : TypeId} {fz : Nat × Nat} (h0 : ∀ x, (enc x).length = kk) (hl : l.length ≤ maxLen) (hb : M b = some (.cells (l.flatMap enc).toArray t fz)) : SlS M kk enc (.slice (some ⟨b, 0, none⟩) l.length l.length) l :=
  ⟨h0, some ⟨b, 0, none⟩, l.length, rfl, Nat.le_refl _, ⟨hl, fun h => by cases h⟩, fun _ => ⟨b, 0, _, t, fz, rfl, hb, fun i x hi j u hj => by
    rw [Nat.zero_add]; simpa using flat_at h0 l i j x u hi hj⟩⟩
end
section
variable {C : Nat → Prop} {w0 w : World} {M0 M : Mem} {L L' : List Item}
theorem StX.freezeBlk {b : Nat} {cs : Array Value} {t : TypeId} (H : St w0 M0 M L w) (hr : Rem L (.blk b (.cells cs t)) L') : ∃ M', M.le M' ∧ M' b = some (.cells cs t) ∧ St w0 M0 M' L' w := by
  have hb := H.blk hr.mem
  obtain ⟨h1, h2⟩ := H.freeze hr rfl hb (((H.own _ hr.mem).2 b rfl).2.resolve_right (fun h => h))
  exact ⟨_, h1, by simp [Mem.set], h2⟩
end
section
variable {C : Nat → Prop} {r : Option Nat} {P : Program} {ops : Array Oper} {Q : Exit → Act → World → Prop} {n : Nat} {D : List Deferred} {rest : List Oper} {e : Env} {w0 w : World} {M0 M : Mem} {L L' : List Item} {d : Nat} {v u z : Value}
  {x y : Operand} {ty t ts t' : TypeId} {pos : String} {af : Array Edge} {g : Option (Nat × Bool)} {dst : Option Tmp} {α : Type} {kk : Nat} {enc : α → List Value} {l : List α}
theorem Ex.lenSlS (ht : P.underlying t = some (.slice t')) (h : SlS M kk enc v l) (hx : ev e x = some v) : Ex P ⟨dst, .call ⟨.builtin .len, #[x], #[t]⟩, ty, pos, af, g⟩ e w (I l.length) w := by
  obtain ⟨_, A, c, rfl, _⟩ := h
  exact Ex.lenSlice ht hx
theorem WR.idxSlS {i : Nat} {a : α} {k' : IntKind} (ht : P.underlying t = some (.slice t')) (hz : ∀ w, (sizeOf t').run P w = .ok kk w) (h : SlS M kk enc v l) (hx : ev e x = some v) (hy : ev e y = some (.int k' (i : Int))) (hi : l[i]? = some a)
    (hw : Wn ops n D e ⟨some d, .indexAddr t x y, ty, pos, af, g⟩) (hn : Nat.blt d n = true) (k : ∀ b o, CellsM M ⟨b, o, none⟩ (enc a) → WR r P ops Q n D rest ((d, ptr b o) :: e) w) :
    WR r P ops Q n D (⟨some d, .indexAddr t x y, ty, pos, af, g⟩ :: rest) e w := by
  obtain ⟨h0, A, c, rfl, h1, h2, h3⟩ := h
  obtain ⟨b, o, cs, t0, fz, rfl, e2, e3⟩ := h3 (by rintro rfl; simp at hi)
  have hlt := (List.getElem?_eq_some_iff.1 hi).1
  refine WR.step (v := ptr b (o + i * kk)) (w' := w) ⟨nofun, fun ρ hfi => ?_⟩ hw rfl hn (k _ _ ⟨rfl, cs, t0, fz, e2, fun j u hj => e3 i a hi j u hj⟩)
  have h0 : (0 : Int) ≤ (i : Int) ∧ (i : Int) < (l.length : Int) := by omega
  simp only [execOp, hfi _ _ hx, hfi _ _ hy, Instr.indexAt, Sem.run_bind, asIntOf, run_underlying ht, Result.andThen_ok, Sem.run_pure, hz, h0, and_self, if_true, Addr.add_lit, Int.toNat_natCast]
theorem Ex.loadAggM {b o s : Nat} {cs : List Value} (H : StX C w0 M0 M L w) (hx : ev e x = some (ptr b o)) (hc : CellsM M ⟨b, o, none⟩ cs) (ha : ∀ w, (isAgg t).run P w = .ok true w) (hs : ∀ w, (sizeOf t).run P w = .ok s w) (hl : cs.length = s) :
    Ex P ⟨dst, .load t x, ty, pos, af, g⟩ e w (.agg cs.toArray) w := Ex.loadK hx (by
  subst hl
  have hlc : (loadCells ⟨b, o, none⟩ cs.length).run P w = .ok cs.toArray w :=
    run_loadCells_list (P := P) w ⟨b, o, none⟩ cs (fun j v hv => by rw [Addr.add_lit]; exact (hc.at hv).cell H.ag)
  simp only [loadVar, Sem.run_bind, ha, Result.andThen_ok, if_true, hs, hlc, Sem.run_pure])
/-- arrays that are written out -/
theorem Ex.buildArr {ps : List (Nat × Operand)} {vs : List (Nat × Value)} {len size : Nat} {t0 : TypeId} (cs : List Value) (hu : P.underlying t = some (.array len t0)) (hz : ∀ w, (zeroValue t).run P w = .ok z w) (hs : ∀ w, (sizeOf t0).run P w = .ok size w)
    (hp : evq e ps = some vs) (hfl : Instr.fill (fun i => some (i * size, size)) z.cells vs = some cs.toArray) : Ex P ⟨dst, .build t ps.toArray, ty, pos, af, g⟩ e w (.agg cs.toArray) w :=
  ⟨nofun, fun ρ hf => by
    have h1 : (ps.toArray.map fun x => (x.1, ρ x.2)).toList = vs := by simpa using hf.evq hp
    simp only [execOp, Instr.build, Sem.run_bind, hz, Result.andThen_ok, run_underlying hu, hs, h1, hfl, Sem.run_pure]⟩
/-- a call through a function value -/
theorem WR.callV {f : FuncId} {as : List Operand} {vs cap : List Value} {tys : Array TypeId} {Pre : Mem → Prop} {R : Value → Mem → Prop} (H : StX C w0 M0 M L w) (hs : Ct P f (vs ++ cap) Pre R) (hx : ev e x = some (.func (.func f) #[] cap.toArray)) (ha : evs e as = some vs) (hp : Pre M)
    (hw : Wn ops n D e ⟨some d, .call ⟨.value x, as.toArray, tys⟩, ty, pos, af, g⟩) (hn : Nat.blt d n = true)
    (k : ∀ v M' w', StX C w0 M0 M' L w' → M.le M' → R v M' → WR r P ops Q n D rest ((d, v) :: e) w') :
    WR r P ops Q n D (⟨some d, .call ⟨.value x, as.toArray, tys⟩, ty, pos, af, g⟩ :: rest) e w := by
  intro a hsat
  unfold wpListIn
  rw [if_pos (hw a hsat)]
  refine ⟨fun _ _ => trivial, ?_⟩
  rw [Oper.semAt_eq _ _ _ (fun c h => by cases h)]
  have hv : as.map a.eval = vs := hsat.fits.evs ha
  have hf : a.eval x = .func (.func f) #[] cap.toArray := hsat.fits _ _ hx
  have hrun : (execOp a.eval ⟨some d, .call ⟨.value x, as.toArray, tys⟩, ty, pos, af, g⟩).run P w = .ok (.enter f (vs ++ cap).toArray) w := by
    simp only [execOp, resolve, hf, Deferred.ofValue, Sem.run_bind, Sem.run_pure, Result.andThen_ok, invoke, List.map_toArray, hv, List.append_toArray, List.nil_append, hs.enters]
  rw [hrun, Oper.uponIn_enter]
  refine ⟨fun h => (by cases h), callsIn_Wd.2 ((hs.calls w M H.ag hp).mono ?_)⟩
  rintro en w' ⟨rv, M', rfl, hx, hR⟩
  exact k rv M' w' (H.call hx) hx.le hR _ (hsat.put (Nat.le_of_ble_eq_true hn) rv)
/-- a call that answers whether something is so: the walk parts -/
theorem WR.callB {f : FuncId} {as : List Operand} {vs : List Value} {tys : Array TypeId} {Pre : Mem → Prop} {p : Prop} [Decidable p] (H : StX C w0 M0 M L w) (hs : Ct P f vs Pre (fun r _ => r = .bool (decide p))) (ha : evs e as = some vs) (hp : Pre M)
    (hw : Wn ops n D e ⟨some d, .call ⟨.value (.func f), as.toArray, tys⟩, ty, pos, af, g⟩) (hn : Nat.blt d n = true)
    (kt : p → ∀ M' w', StX C w0 M0 M' L w' → M.le M' → WR r P ops Q n D rest ((d, .bool true) :: e) w') (kf : ¬ p → ∀ M' w', StX C w0 M0 M' L w' → M.le M' → WR r P ops Q n D rest ((d, .bool false) :: e) w') :
    WR r P ops Q n D (⟨some d, .call ⟨.value (.func f), as.toArray, tys⟩, ty, pos, af, g⟩ :: rest) e w := by
  refine WR.call H hs ha hp hw hn ?_
  intro v M' w' H' hle hr
  by_cases h : p
  · rw [hr, decide_eq_true h]; exact kt h M' w' H' hle
  · rw [hr, decide_eq_false h]; exact kf h M' w' H' hle
end
end Go.Ph
