/-
  Regions that draw: an operation that reads the memory comes first, where all that may come ahead of it leaves the memory alone. No program in sight.
-/
import Derived.Test.YtlopnlagpdchiaaGreatDoorSeq
set_option linter.unusedVariables false
set_option linter.unusedSimpArgs false
namespace Go.Ph
open Go Go.RowKit
/-- it leaves the world as it is -/
def Keeps {α : Type} (s : Sem α) : Prop := ∀ (P : Program) (w : World) (x : α) (w' : World), s.run P w = .ok x w' → w' = w
theorem Keeps.pure {α : Type} (a : α) : Keeps (Pure.pure a : Sem α) := fun P w x w' h => by
  rw [Sem.run_pure] at h; cases h; rfl
theorem Keeps.bind {α β : Type} {s : Sem α} {f : α → Sem β} (h : Keeps s) (hf : ∀ a, Keeps (f a)) : Keeps (s >>= f) := fun P w x w' hr => by
  rw [Sem.run_bind] at hr
  cases h1 : s.run P w with
  | ok a w1 =>
    rw [h1, Result.andThen_ok] at hr
    rw [h P w a w1 h1] at hr
    exact hf a P w x w' hr
  | halt c w1 => rw [h1] at hr; cases hr
theorem Keeps.load {a : Addr} {m : Mode} : Keeps (Go.load a m) := fun P w x w' h => by
  unfold Go.load at h
  simp only [Sem.run] at h
  split at h
  · cases h; rfl
  · split at h
    · cases h; rfl
    · cases h
theorem Keeps.program : Keeps Go.program := fun P w x w' h => by
  unfold Go.program at h
  simp only [Sem.run] at h
  cases h; rfl
theorem Keeps.halt {α : Type} {c : Halt} : Keeps (Sem.halt c : Sem α) := fun P w x w' h => by
  simp only [Sem.run] at h
  cases h
theorem Keeps.typeInfo {t : TypeId} : Keeps (Go.typeInfo t) := by
  unfold Go.typeInfo
  refine Keeps.bind Keeps.program fun p => ?_
  split
  · exact Keeps.pure _
  · exact Keeps.halt
theorem Keeps.underlying {t : TypeId} : Keeps (Go.underlying t) := by
  unfold Go.underlying
  refine Keeps.bind Keeps.program fun p => ?_
  split
  · exact Keeps.pure _
  · exact Keeps.halt
theorem Keeps.sizeOf {t : TypeId} : Keeps (Go.sizeOf t) := Keeps.bind Keeps.typeInfo fun p => Keeps.pure _
theorem Keeps.isAgg {t : TypeId} : Keeps (Go.isAgg t) := by
  unfold Go.isAgg
  refine Keeps.bind Keeps.underlying fun p => ?_
  split <;> exact Keeps.pure _
theorem Keeps.loadCellsFrom {a : Addr} : ∀ (n i : Nat) (acc : Array Value), Keeps (Go.loadCellsFrom a i n acc)
  | 0, i, acc => Keeps.pure _
  | n + 1, i, acc => Keeps.bind Keeps.load fun v => Keeps.loadCellsFrom n (i + 1) _
theorem Keeps.loadVar {t : TypeId} {a : Addr} : Keeps (Go.loadVar t a) := by
  unfold Go.loadVar
  refine Keeps.bind Keeps.isAgg fun b => ?_
  split
  · exact Keeps.bind Keeps.sizeOf fun n => Keeps.bind (Keeps.loadCellsFrom n 0 _) fun c => Keeps.pure _
  · exact Keeps.load
theorem Keeps.loadAt {t : TypeId} {v : Value} : Keeps (Instr.loadAt t v) := by
  unfold Instr.loadAt
  refine Keeps.bind ?_ fun a => Keeps.loadVar
  unfold Instr.sureAddr
  split
  · exact Keeps.pure _
  · exact Keeps.halt
/-- operations that leave the world alone -/
def quietB (o : Oper) : Bool := match o.op with
  | .move _ => true
  | .assign _ => true
  | .load _ _ => true
  | _ => false
def Quiet (o : Oper) : Prop := ∀ (ρ : Operand → Value) (P : Program) (w : World) (x : Next) (w' : World), (execOp ρ o).run P w = .ok x w' → w' = w ∧ ∃ u, x = .value u
theorem quiet_of {o : Oper} (h : quietB o = true) : Quiet o := fun ρ P w x w' hr => by
  unfold quietB at h
  unfold execOp at hr
  split at h
  · rename_i y hy
    rw [hy] at hr
    simp only [Sem.run_pure] at hr
    cases hr; exact ⟨rfl, _, rfl⟩
  · rename_i y hy
    rw [hy] at hr
    simp only [Sem.run_pure] at hr
    cases hr; exact ⟨rfl, _, rfl⟩
  · rename_i t y hy
    rw [hy] at hr
    simp only [Sem.run_bind] at hr
    cases h1 : (Instr.loadAt t (ρ y)).run P w with
    | ok a w1 =>
      rw [h1] at hr
      simp only [Result.andThen_ok, Sem.run_pure] at hr
      cases hr
      exact ⟨Keeps.loadAt P w a w' h1, _, rfl⟩
    | halt c w1 => rw [h1] at hr; cases hr
  · cases h
/-- all that may come ahead of i leaves the world alone: B; all else waits for i -/
def holdB (ops : Array Oper) (listed : Array Bool) (B : List Nat) (i : Nat) : Bool :=
  !B.contains i && (List.range ops.size).all fun k => match ops[k]? with
    | none => true
    | some ok => listed.getD k true || k == i || (bif B.contains k then quietB ok && (match ops[i]? with | some oi => oi.apart ops ok | none => false) else ok.after.any fun e => Region.binds .any e && (e.on == i || (!B.contains e.on && !listed.getD e.on true)))
def YieldsAt (P : Program) (ops : Array Oper) (o : Oper) (v : Value) (a : Act) (w : World) : Prop :=
  Region.wanted o (yielded ops a.tmps) = true ∧ (execOp a.eval o).run P w = .ok (.value v) w ∧ ∀ w, o.about P w a.eval = none
section
variable {F : Fence} {n : Nat} {P : Program} {ops : Array Oper} {Q : Exit → Act → World → Prop}
theorem YieldsAt.wpOpIn {i : Nat} {o : Oper} {v : Value} {a : Act} {w : World} (hro : F.round = none) (hi : ops[i]? = some o) (hy : YieldsAt P ops o v a w) {K : Act → World → Prop} (h : K (a.put o.dst v) w) : wpOpIn F n P ops Q i K a w := by
  unfold Go.wpOpIn
  simp only [hi]
  have hab : ∀ f, o.about P w a.eval = some f → F.fn f := fun f hf => by rw [hy.2.2 w] at hf; cases hf
  simp only [hy.1, if_true, Oper.wpIn, hro, Oper.semAt_none, hy.2.1, Oper.uponIn]
  exact ⟨hab, h⟩
theorem wpOpIn_putQ {j : Nat} {oi oj : Oper} {v : Value} (hro : F.round = none) (hj : ops[j]? = some oj) (hq : Quiet oj) (hap : oi.apart ops oj = true)
    (hsi : ∀ cs b, oi.op ≠ .select cs b) (hsj : ∀ cs b, oj.op ≠ .select cs b)
    (hQ : ∀ c a w, Q (.panic c) (a.put oi.dst v) w → Q (.panic c) a w) {K : Act → World → Prop} {a : Act} {w : World}
    (hy : YieldsAt P ops oi v a w) (h : wpOpIn F n P ops Q j K (a.put oi.dst v) w) :
    wpOpIn F n P ops Q j (fun a' w' => YieldsAt P ops oi v a' w' ∧ K (a'.put oi.dst v) w') a w := by
  obtain ⟨h1, h2, h3⟩ := Oper.apart_spec hap
  have keep : ∀ u, YieldsAt P ops oi v (a.put oj.dst u) w := fun u =>
    ⟨by rw [wanted_put oi a oj.dst u h3]; exact hy.1, by rw [execOp_put oi hsi a oj.dst u h3]; exact hy.2.1, fun w => by rw [about_put oi w a oj.dst u h3]; exact hy.2.2 w⟩
  unfold Go.wpOpIn at *
  simp only [hj] at *
  rw [wanted_put oj a oi.dst v h1, about_put oj w a oi.dst v h1] at h
  split
  · rename_i hw
    simp only [hw, if_true] at h
    unfold Oper.wpIn at *
    rw [about_put oj w a oi.dst v h1] at h
    refine ⟨h.1, ?_⟩
    have h := h.2
    rw [hro, Oper.semAt_none, execOp_put oj hsj a oi.dst v h1] at h
    rw [hro, Oper.semAt_none]
    cases hr : (execOp a.eval oj).run P w with
    | ok x w' =>
      obtain ⟨rfl, u, rfl⟩ := hq _ _ _ _ _ hr
      rw [hr] at h
      simp only [Oper.uponIn] at h ⊢
      exact ⟨keep u, by rw [← Act.put_comm a v u h2]; exact h⟩
    | halt x w' =>
      rw [hr] at h
      cases x <;> simp only [Oper.uponIn] at h ⊢
      case panic u => exact hQ _ _ _ h
  · rename_i hw
    simp only [hw] at h
    exact ⟨h.1, keep _, by rw [← Act.put_comm a v undef h2]; exact h.2⟩
theorem wpAnyIn_firstQ {i : Nat} {oi : Oper} {v : Value} {B : List Nat} {L0 : Array Bool} (hro : F.round = none) (hi : ops[i]? = some oi) (hsel : ∀ (j : Nat) (o : Oper) cs b, ops[j]? = some o → o.op ≠ .select cs b)
    (hQ : ∀ c a w, Q (.panic c) (a.put oi.dst v) w → Q (.panic c) a w) (hiB : i ∉ B) (hi0 : L0.getD i true = false)
    (hk : ∀ k ok, ops[k]? = some ok → L0.getD k true = false → k ≠ i → (k ∈ B ∧ Quiet ok ∧ oi.apart ops ok = true) ∨ (k ∉ B ∧ ∃ e ∈ ok.after, Region.binds .any e = true ∧ (e.on = i ∨ (e.on ∉ B ∧ L0.getD e.on true = false)))) :
    ∀ (fuel : Nat) (listed : Array Bool) (a : Act) (w : World), (∀ k, k ∉ B → L0.getD k true = false → listed.getD k false = false ∧ listed.getD k true = false) → (∀ k, L0.getD k true = true → listed.getD k true = true) →
      i ∈ Region.ready .any ops listed → YieldsAt P ops oi v a w →
      wpAnyIn F n P .any ops Q fuel (listed.setIfInBounds i true) (a.put oi.dst v) w → wpAnyIn F n P .any ops Q (fuel + 1) listed a w := by
  have inB : ∀ (listed : Array Bool) (j : Nat), (∀ k, k ∉ B → L0.getD k true = false → listed.getD k false = false ∧ listed.getD k true = false) → (∀ k, L0.getD k true = true → listed.getD k true = true) → j ∈ Region.ready .any ops listed → j ≠ i →
      ∃ oj, ops[j]? = some oj ∧ j ∈ B ∧ Quiet oj ∧ oi.apart ops oj = true := fun listed j hs1 hs2 hj hji => by
    obtain ⟨hjun, oj, hoj, hall⟩ := mem_ready.1 hj
    have h0 : L0.getD j true = false := by
      cases hc : L0.getD j true with
      | false => rfl
      | true => rw [hs2 j hc] at hjun; cases hjun
    rcases hk j oj hoj h0 hji with ⟨h1, h2, h3⟩ | ⟨h1, e, he, hb, hor⟩
    · exact ⟨oj, hoj, h1, h2, h3⟩
    · have h4 := hall e he hb
      rcases hor with h5 | ⟨h5, h6⟩
      · rw [h5, (hs1 i hiB hi0).1] at h4; cases h4
      · rw [(hs1 e.on h5 h6).1] at h4; cases h4
  intro fuel
  induction fuel with
  | zero =>
    intro listed a w hs1 hs2 hr hy H
    refine ⟨fun h => (by rw [h] at hr; cases hr), fun j hj => ?_⟩
    by_cases hji : j = i
    · subst hji; exact hy.wpOpIn hro hi H
    · have := ready_mono hj hji
      rw [H.1] at this
      cases this
  | succ fuel ih =>
    intro listed a w hs1 hs2 hr hy H
    refine ⟨fun h => (by rw [h] at hr; cases hr), fun j hj => ?_⟩
    by_cases hji : j = i
    · subst hji; exact hy.wpOpIn hro hi H
    · obtain ⟨oj, hoj, hjB, hq, hap⟩ := inB listed j hs1 hs2 hj hji
      have h1 := H.2 j (ready_mono hj hji)
      have h2 := wpOpIn_putQ hro hoj hq hap (fun cs b => hsel i oi cs b hi) (fun cs b => hsel j oj cs b hoj) hQ hy h1
      refine wpOpIn_mono (fun a' w' h3 => ih (listed.setIfInBounds j true) a' w' (fun k hkB hk0 => ?_) (fun k hk0 => ?_) (ready_mono hr (Ne.symm hji)) h3.1 ?_) h2
      · have hjk : j ≠ k := fun h => hkB (h ▸ hjB)
        rw [getD_set_ne false hjk, getD_set_ne true hjk]
        exact hs1 k hkB hk0
      · by_cases hjk : j = k
        · subst hjk
          rcases Nat.lt_or_ge j listed.size with h' | h'
          · simp [h']
          · simp [Array.getElem?_eq_none h']
        · rw [getD_set_ne true hjk]; exact hs2 k hk0
      · rw [Array.setIfInBounds_comm _ _ hji]
        exact h3.2
end
section
variable {P : Program} {ops : Array Oper} {Q : Exit → Act → World → Prop} {n fuel i d : Nat} {D : List Deferred} {e : Env} {w : World} {listed : Array Bool} {o : Oper} {v : Value}
theorem getD_ff {l : Array Bool} {k : Nat} (h : l.getD k true = false) : l.getD k false = false := by
  rcases Nat.lt_or_ge k l.size with h' | h'
  · simp [h'] at h ⊢; exact h
  · simp [Array.getElem?_eq_none h'] at h
/-- an operation that reads comes first -/
theorem WA.takeM (B : List Nat) (ho : ops[i]? = some o) (hs : Region.noSelect ops = true) (hk : holdB ops listed B i = true) (hr : (Region.ready .any ops listed).contains i = true) (hx : Ex P o e w v w) (hw : Wn ops n D e o) (hd : o.dst = some d) (hn : Nat.blt d n = true)
    (hab : ∀ w ρ, o.about P w ρ = none) (k : WA none P ops Q n D fuel (listed.setIfInBounds i true) ((d, v) :: e) w) : WA none P ops Q n D (fuel + 1) listed e w := fun a ha => by
  unfold holdB at hk
  rw [Bool.and_eq_true] at hk
  have hiB : i ∉ B := by simpa using hk.1
  have hr' : i ∈ Region.ready .any ops listed := by simpa using hr
  have hi0 := (mem_ready.1 hr').1
  refine wpAnyIn_firstQ (F := Wd none) (B := B) (L0 := listed) rfl ho (Region.noSelect_spec hs) (fun _ _ _ h => h) hiB hi0 (fun j oj hj h0 hji => ?_) fuel listed a w (fun k _ h0 => ⟨getD_ff h0, h0⟩) (fun k h => h) hr' ⟨hw a ha, hx.2 _ ha.fits, fun w => hab w _⟩ ?_
  · have hlt : j < ops.size := (Array.getElem?_eq_some_iff.1 hj).1
    have := List.all_eq_true.1 hk.2 j (List.mem_range.2 hlt)
    rw [hj] at this
    simp only [h0, Bool.false_or, Bool.or_eq_true, beq_iff_eq, hji, false_or] at this
    cases hB : B.contains j with
    | true =>
      rw [hB, cond_true, ho, Bool.and_eq_true] at this
      exact .inl ⟨by simpa using hB, quiet_of this.1, this.2⟩
    | false =>
      rw [hB, cond_false] at this
      obtain ⟨ed, h1, h2⟩ := Array.any_eq_true'.1 this
      simp only [Bool.and_eq_true, Bool.or_eq_true, beq_iff_eq, Bool.not_eq_true'] at h2
      refine .inr ⟨by simpa using hB, ed, h1, h2.1, ?_⟩
      rcases h2.2 with h3 | ⟨h3, h4⟩
      · exact .inl h3
      · exact .inr ⟨by simpa using h3, h4⟩
  · rw [hd]
    exact k _ (ha.put (Nat.le_of_ble_eq_true hn) v)
end
end Go.Ph
