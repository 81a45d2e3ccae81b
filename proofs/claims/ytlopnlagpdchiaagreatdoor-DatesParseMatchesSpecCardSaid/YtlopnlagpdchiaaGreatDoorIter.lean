/-
  A range over a function: the iterator's contract, the statement's law. No program in sight.
-/
import Derived.Test.YtlopnlagpdchiaaGreatDoorHeap
import Derived.RangeFuncSeq
import Derived.RangeFuncKeeps
set_option linter.unusedVariables false
set_option linter.unusedSimpArgs false
namespace Go.Ph
open Go Go.RowKit

abbrev yv (l : Nat) : Value := .func (.yield l) #[] #[]

section
variable {C : Nat → Prop} {w0 w w' : World} {M0 M M' : Mem} {L L' A B : List Item}
theorem StX.perm (H : StX C w0 M0 M L w) (h : L.Perm L') : StX C w0 M0 M L' w :=
  ⟨H.ext, fun it hit => H.own it (h.mem_iff.2 hit), H.sep.perm h (fun h => Apart.symm h)⟩
theorem Spl.perm (h : Spl L A B) : L.Perm (A ++ B) := by
  induction h with
  | nil => exact .refl _
  | left _ ih => exact ih.cons _
  | right _ ih => exact (ih.cons _).trans List.perm_middle.symm
theorem feet_perm (h : A.Perm B) : feet A = feet B := by
  funext b
  simp only [feet, h.mem_iff]
end

/-- the records of one loop -/
structure LoopRec (rc : LoopState → Option Code → Loop) : Prop where
  state : ∀ s p, (rc s p).state = s
  pending : ∀ s p, (rc s p).pending = p
  setS : ∀ s p s', { rc s p with state := s' } = rc s' p
  setP : ∀ s p s' p', { rc s p with state := s', pending := p' } = rc s' p'

/-- AN ITERATOR's CONTRACT: the function f, what it has captured (cap), the things of its own that it is handed (A): it calls yield at each of xs, in order, until yield says no. -/
structure IterCt {α : Type} (P : Program) (f : FuncId) (cap : List Value) (A : List Item) (Pre : Mem → Prop) (enc : α → Value) (xs : List α) : Prop where
  enters : ∀ as w, (callFunc f as).run P w = .ok (.enter f as) w
  calls : ∀ (l : Nat) (Z Zx : List α → List Item → Mem → Prop), (∀ pre L M M', Z pre L M → M.le M' → Z pre L M') →
    (∀ pre x L w M, (pre ++ [x]) <+: xs → Z pre L M → StX (feet L) w M M L w → YieldAt (Wd none) 0 P l #[enc x] w fun e w' => ∃ M' L', StX (feet L) w M M' L' w' ∧
      ((e = .returned (.bool true) ∧ Z (pre ++ [x]) L' M') ∨ (e = .returned (.bool false) ∧ Zx (pre ++ [x]) L' M'))) →
    ∀ L w M, Z [] L M → StX (feet (A ++ L)) w M M (A ++ L) w → Pre M →
    Calls P f (yv l :: cap).toArray w fun e w' => ∃ r M' L', e = .returned r ∧ StX (feet (A ++ L)) w M M' L' w' ∧ (Z xs L' M' ∨ ∃ pre, pre <+: xs ∧ Zx pre L' M')

section
variable {C : Nat → Prop} {r : Option Nat} {P : Program} {ops : Array Oper} {Q : Exit → Act → World → Prop} {n : Nat} {D : List Deferred} {rest : List Oper} {e : Env} {w0 w : World} {M0 M : Mem} {L B : List Item} {d : Nat}
  {x y : Operand} {ty t ts t' : TypeId} {pos : String} {af : Array Edge} {g : Option (Nat × Bool)} {α : Type} {enc : α → Value}

/-- the iterator calls yield -/
theorem WR.yield {l : Nat} {R : Ending → World → Prop} {v : Value} {tys : Array TypeId} (hY : YieldAt (Wd none) 0 P l #[v] w R) (hx : ev e x = some (yv l)) (hy : ev e y = some v)
    (hw : Wn ops n D e ⟨some d, .call ⟨.value x, #[y], tys⟩, ty, pos, af, g⟩) (hn : Nat.blt d n = true)
    (k : ∀ en w', R en w' → ∃ b, en = .returned (.bool b) ∧ WR none P ops Q n D rest ((d, .bool b) :: e) w') :
    WR none P ops Q n D (⟨some d, .call ⟨.value x, #[y], tys⟩, ty, pos, af, g⟩ :: rest) e w := by
  intro a hsat
  unfold wpListIn
  rw [if_pos (hw a hsat)]
  refine ⟨fun _ _ => trivial, ?_⟩
  rw [Oper.semAt_eq _ _ _ (fun c h => by cases h)]
  obtain ⟨fn, tmps, assign, body, hyr, hR⟩ := hY
  have h1 := hsat.fits _ _ hx
  have h2 := hsat.fits _ _ hy
  have hrun : (execOp a.eval ⟨some d, .call ⟨.value x, #[y], tys⟩, ty, pos, af, g⟩).run P w = .ok (.round l fn tmps assign body) w := by
    simp only [execOp, resolve, h1, Deferred.ofValue, Sem.run_bind, Sem.run_pure, Result.andThen_ok, invoke, List.map_toArray, List.map_cons, List.map_nil, h2, Array.empty_append, hyr]
  rw [hrun, Oper.uponIn_round]
  refine ⟨fun h => (by cases h), hR.mono ?_⟩
  intro en w' hr
  obtain ⟨b, rfl, hk⟩ := k en w' hr
  exact hk _ (hsat.put (Nat.le_of_ble_eq_true hn) _)

/-- what is asked where the assignment to the loop's variable has ended -/
def asgPost (P : Program) (lid : Nat) (body : Code) (R : Ending → World → Prop) : Exit → Act → World → Prop :=
  Exit.then (fun a₁ w₁ => ∃ w₂, (Instr.beginRound lid).run P w₁ = .ok () w₂ ∧ body.wpIn (Wd (some lid)) 0 P (roundPost P lid R) a₁ w₂) (fun _ _ _ => False)

theorem grownBy_putObj2 (w : World) (l : Nat) (o : Obj) : w.grownBy (w.putObj l o) (some l) := ⟨rfl, rfl, rfl, by simp, fun _ _ hk => World.putObj_heap_other (fun e => hk (by rw [e]))⟩

theorem StX.put {l : Nat} {o o' : Obj} {L' : List Item} (H : StX C w0 M0 M L w) (hu : Upd L (.blk l o) (.blk l o') L') : StX C w0 M0 M L' (w.putObj l o') :=
  H.upd hu (grownBy_putObj2 w l o') (World.putObj_heap_same (Array.getElem?_eq_some_iff.1 (H.blk hu.mem)).1) (fun _ h => .inl h)

theorem WQ.begin {lid : Nat} {rc : LoopState → Option Code → Loop} {body : Code} {R : Ending → World → Prop} {L' : List Item} (hrc : LoopRec rc) (H : StX C w0 M0 M L w) (hu : Upd L (.blk lid (.loop (rc .ready none))) (.blk lid (.loop (rc .busy none))) L')
    (k : ∀ w', StX C w0 M0 M L' w' → WC (some lid) P (roundPost P lid R) n D body e w') : WQ (asgPost P lid body R) .normal n D e w := fun a ha => by
  have hb := H.blk hu.mem
  refine ⟨_, run_beginRound hb (hrc.state _ _), k _ ?_ a ha⟩
  rw [hrc.setS]
  exact H.put hu

/-- what one round leaves, as the iterator is told it -/
def RR {α : Type} (Z Zx : List α → List Item → Mem → Prop) (L : List Item) (w : World) (M : Mem) (pre : List α) (en : Ending) (w' : World) : Prop :=
  ∃ M' L', StX (feet L) w M M' L' w' ∧ ((en = .returned (.bool true) ∧ Z pre L' M') ∨ (en = .returned (.bool false) ∧ Zx pre L' M'))
/-- the caller's things behind the loop's record -/
def Zr {α : Type} (lid : Nat) (rc : LoopState → Option Code → Loop) (Z : List α → List Item → Mem → Prop) (pre : List α) (L : List Item) (M : Mem) : Prop := ∃ L0, L = .blk lid (.loop (rc .ready none)) :: L0 ∧ Z pre L0 M
def Zrx {α : Type} (lid : Nat) (rc : LoopState → Option Code → Loop) (Zx : Code → List α → List Item → Mem → Prop) (pre : List α) (L : List Item) (M : Mem) : Prop := ∃ L0 c, L = .blk lid (.loop (rc .done (some c))) :: L0 ∧ Zx c pre L0 M

variable {lid : Nat} {rc : LoopState → Option Code → Loop} {Z : List α → List Item → Mem → Prop} {Zx : Code → List α → List Item → Mem → Prop} {pre : List α} {w1 : World} {M1 : Mem} {Lh L0 : List Item}
/-- the round goes on -/
theorem WQ.roundOn (hrc : LoopRec rc) (H : StX (feet Lh) w1 M1 M (.blk lid (.loop (rc .busy none)) :: L0) w) (hZ : Z pre L0 M) :
    WQ (roundPost P lid (RR (Zr lid rc Z) (Zrx lid rc Zx) Lh w1 M1 pre)) .normal n D e w := fun a _ => by
  have hb := H.blk (List.Mem.head _)
  have hr := run_endRound (P := P) none hb
  simp only [Option.isNone_none, if_true] at hr
  rw [hrc.setP] at hr
  exact ⟨_, _, hr, M, _, H.put .head, .inl ⟨rfl, L0, rfl, hZ⟩⟩
theorem WQ.roundExit {id : Nat} (hrc : LoopRec rc) (H : StX (feet Lh) w1 M1 M (.blk lid (.loop (rc .busy none)) :: L0) w) (hZ : Zx (.exit id) pre L0 M) :
    WQ (roundPost P lid (RR (Zr lid rc Z) (Zrx lid rc Zx) Lh w1 M1 pre)) (.exit id) n D e w := fun a _ => by
  have hb := H.blk (List.Mem.head _)
  have hr := run_endRound (P := P) (some (.exit id)) hb
  simp only [Option.isNone_some, Bool.false_eq_true, if_false] at hr
  rw [hrc.setP] at hr
  exact ⟨_, _, hr, M, _, H.put .head, .inr ⟨rfl, L0, _, rfl, hZ⟩⟩
theorem WQ.roundRet (hrc : LoopRec rc) (H : StX (feet Lh) w1 M1 M (.blk lid (.loop (rc .busy none)) :: L0) w) (hZ : Zx .ret pre L0 M) :
    WQ (roundPost P lid (RR (Zr lid rc Z) (Zrx lid rc Zx) Lh w1 M1 pre)) .ret n D e w := fun a _ => by
  have hb := H.blk (List.Mem.head _)
  have hr := run_endRound (P := P) (some .ret) hb
  simp only [Option.isNone_some, Bool.false_eq_true, if_false] at hr
  rw [hrc.setP] at hr
  exact ⟨_, _, hr, M, _, H.put .head, .inr ⟨rfl, L0, _, rfl, hZ⟩⟩

abbrev mark (Dm : Nat) : Deferred := { target := .collected Dm, args := #[] }

/-- THE STATEMENT -/
theorem WC.rangeFunc {Lall A : List Item} {f : FuncId} {cap : List Value} {Pre : Mem → Prop} {xs : List α} {gv : Operand} {p : Tmp} {assign body : Code}
    (H : StX C w0 M0 M Lall w) (hg : ev e gv = some (.func (.func f) #[] cap.toArray)) (hit : IterCt P f cap A Pre enc xs) (hs : Spl Lall (A ++ L) B) (hp : Pre M) (hpn : Nat.blt p n = true)
    (Z : List α → List Item → Mem → Prop) (Zx : Code → List α → List Item → Mem → Prop) (hZ : ∀ pre L M M', Z pre L M → M.le M' → Z pre L M') (hz : Z [] L M)
    (hbody : ∀ (lid : Nat) (rc : LoopState → Option Code → Loop), LoopRec rc → ∀ pre x L w M, (pre ++ [x]) <+: xs → Z pre L M →
      StX (feet (.blk lid (.loop (rc .ready none)) :: L)) w M M (.blk lid (.loop (rc .ready none)) :: L) w →
      WC (some lid) P (asgPost P lid body (RR (Zr lid rc Z) (Zrx lid rc Zx) (.blk lid (.loop (rc .ready none)) :: L) w M (pre ++ [x]))) n [] assign ((p, enc x) :: e) w)
    (hdone : ∀ Dm w M' L', StX C w0 M0 M' (L' ++ (.blk Dm (.deferred (some [])) :: B)) w → M.le M' → Z xs L' M' → WQ Q .normal n (mark Dm :: D) e w)
    (hstop : ∀ Dm w M' L' c pre, StX C w0 M0 M' (L' ++ (.blk Dm (.deferred (some [])) :: B)) w → M.le M' → pre <+: xs → Zx c pre L' M' → WC none P Q n (mark Dm :: D) c e w) :
    WC none P Q n D (.rangeFunc gv #[p] assign body) e w := by
  intro a ha
  refine wpIn_rangeFunc (F := Wd none) (n := 0) ?_
  intro fn _
  obtain ⟨rc, hrcd⟩ : ∃ rc : LoopState → Option Code → Loop, rc = fun st pe => { state := st, pending := pe, fn, tmps := a.tmps, params := #[p], assign, body, defers := w.heap.size } := ⟨_, rfl⟩
  have hrc : LoopRec rc := by subst hrcd; exact ⟨fun _ _ => rfl, fun _ _ => rfl, fun _ _ _ => rfl, fun _ _ _ _ => rfl⟩
  have H1 : StX C w0 M0 M (.blk w.heap.size (.deferred (some [])) :: Lall) (w.alloc (.deferred (some []))) :=
    H.new (grownBy_alloc' _ _) (World.alloc_heap_new w _) (fun b hb => by cases hb; exact Nat.le_refl _)
  have H2 : StX C w0 M0 M (.blk (w.heap.size + 1) (.loop (rc .ready none)) :: .blk w.heap.size (.deferred (some [])) :: Lall) ((w.alloc (.deferred (some []))).alloc (.loop (rc .ready none))) :=
    H1.new (grownBy_alloc' _ _) (by have := World.alloc_heap_new (w.alloc (.deferred (some []))) (.loop (rc .ready none)); rwa [World.size_alloc] at this) (fun b hb => by cases hb; simp)
  obtain ⟨W, hW⟩ : ∃ W, (w.alloc (.deferred (some []))).alloc (.loop (rc .ready none)) = W := ⟨_, rfl⟩
  rw [hW] at H2
  have hperm : (Item.blk (w.heap.size + 1) (.loop (rc .ready none)) :: .blk w.heap.size (.deferred (some [])) :: Lall).Perm ((A ++ (.blk (w.heap.size + 1) (.loop (rc .ready none)) :: L)) ++ (.blk w.heap.size (.deferred (some [])) :: B)) := by
    have h1 : Lall.Perm (A ++ L ++ B) := hs.perm
    have h2 : (A ++ (Item.blk (w.heap.size + 1) (.loop (rc .ready none)) :: L)).Perm (.blk (w.heap.size + 1) (.loop (rc .ready none)) :: (A ++ L)) := List.perm_middle
    refine (((h1.cons _).trans List.perm_middle.symm).cons _).trans ?_
    exact (h2.append_right _).symm
  have H3 := H2.perm hperm
  refine ⟨w.heap.size + 1, [mark w.heap.size], W, { target := .fn (.func f) cap.toArray, args := #[yv (w.heap.size + 1)] }, W, f, (yv (w.heap.size + 1) :: cap).toArray, W, ?_, ?_, fun _ _ => trivial, ?_, fun h => (by cases h), ?_⟩
  · rw [← hW, hrcd]; exact run_enterLoop_outer _ _ _ _ _
  · have h1 := ha.fits _ _ hg
    simp only [resolve, h1, Deferred.ofValue, Sem.run_pure, List.map_toArray, List.map_cons, List.map_nil, Array.empty_append]
    rfl
  · simp only [invoke, List.append_toArray, List.cons_append, List.nil_append, hit.enters]
  · refine callsIn_Wd.2 ((hit.calls (w.heap.size + 1) (Zr (w.heap.size + 1) rc Z) (Zrx (w.heap.size + 1) rc Zx) (fun pre L M M' ⟨L0, h1, h2⟩ hle => ⟨L0, h1, hZ _ _ _ _ h2 hle⟩) ?_ _ W M ⟨L, rfl, hz⟩ (H3.hand (Spl.append _ _)) hp).mono ?_)
    · rintro pre x L1 w1 M1 hpre ⟨L0, rfl, hz0⟩ Hs
      have hl := Hs.blk (List.Mem.head _)
      have hy := run_yield (P := P) (args := #[enc x]) hl (by rw [hrcd]; rfl)
      refine ⟨_, _, _, _, hy, roundIn_of_wpIn trivial ?_⟩
      have hb := hbody (w.heap.size + 1) rc hrc pre x L0 w1 M1 hpre hz0 Hs
      have hsat : Sat n [] ((p, enc x) :: e) { tmps := (((rc .ready none).params.zip #[enc x]).foldl (fun tmps (t, a) => tmps.setIfInBounds t a) (rc .ready none).tmps), defers := [] } := by
        have h1 := Sat.put (D := []) (a := { tmps := a.tmps, defers := [] }) (e := e) (n := n) ⟨ha.size, rfl, ha.val⟩ (Nat.le_of_ble_eq_true hpn) (enc x)
        rw [hrcd]
        simpa [Act.put] using h1
      have := hb _ hsat
      rw [hrcd] at this ⊢
      exact this
    · rintro en w3 ⟨rv, M', L', rfl, Hs, hcase⟩
      have Hb := H3.back (Spl.append _ _) Hs
      have hle : M.le M' := Hs.ext.le
      have hd : Sat n (mark w.heap.size :: D) e { a with defers := [mark w.heap.size] ++ a.defers } := ⟨ha.size, by simp [ha.defers], ha.val⟩
      rcases hcase with ⟨L0, rfl, hz'⟩ | ⟨pre, hpre, L0, c, rfl, hz'⟩
      · have hl := Hb.blk (List.Mem.head _)
        have hr := run_endLoop (P := P) hl (by rw [hrc.state]; intro h; cases h)
        rw [hrc.setS, hrc.pending] at hr
        have Hc := (Hb.put (o' := .loop (rc .exhausted none)) .head).drop (List.sublist_cons_self _ _)
        exact ⟨none, _, hr, hdone _ _ M' L0 Hc hle hz' _ hd⟩
      · have hl := Hb.blk (List.Mem.head _)
        have hr := run_endLoop (P := P) hl (by rw [hrc.state]; intro h; cases h)
        rw [hrc.setS, hrc.pending] at hr
        have Hc := (Hb.put (o' := .loop (rc .exhausted (some c))) .head).drop (List.sublist_cons_self _ _)
        exact ⟨some c, _, hr, hstop _ _ M' L0 c pre Hc hle hpre hz' _ hd⟩

/-! ### leaving a function whose body held such a loop -/
theorem calls_of_WCM {f : FuncId} {fn : Func} {c : Code} {args : List Value} {R : Ending → World → Prop}
    (hf : P.funcs[f]? = some fn) (hb : fn.body = some c) (hnt : fn.ntmps = n) (hn : Nat.ble args.length n = true)
    (h : WC none P (bodyPostM (Wd none) 0 P fn R) n [] c (envOf 0 args) w) : Calls P f args.toArray w R := by
  refine callsIn_Wd.1 (callsIn_of_wp_marks (F := Wd none) (n := 0) hf hb trivial ?_)
  subst hnt
  exact h _ (Sat.init (Nat.le_of_ble_eq_true hn))
theorem Ct.ofM {f : FuncId} {fn : Func} {c : Code} {args : List Value} {Pre : Mem → Prop} {R : Value → Mem → Prop}
    (hf : P.funcs[f]? = some fn) (hen : ∀ as w, (callFunc f as).run P w = .ok (.enter f as) w) (hb : fn.body = some c) (hnt : fn.ntmps = n) (hn : Nat.ble args.length n = true)
    (h : ∀ w M, St w M M [] w → Pre M → WC none P (bodyPostM (Wd none) 0 P fn (Ret w M R)) n [] c (envOf 0 args) w) : Ct P f args Pre R :=
  ⟨hen, fun w M ha hp => calls_of_WCM hf hb hnt hn (h w M (StX.start ha) hp)⟩
theorem leaves_nil {fn : Func} {tmps : Array Value} {R : Ending → World → Prop} {v : Value} (h : (results fn tmps).run P w = .ok v w) (hR : R (.returned v) w) : LeavesInM (Wd none) 0 P fn tmps R [] .returning w := by
  show LeavesIn _ _ _ _ _ _ _ _ _
  exact ⟨_, h, hR⟩
/-- a return ahead of the loop -/
theorem WQ.retM0 {fn : Func} {R : Ending → World → Prop} {v : Value} (hr : ∀ a, Sat n [] e a → (results fn a.tmps).run P w = .ok v w) (hR : R (.returned v) w) : WQ (bodyPostM (Wd none) 0 P fn R) .ret n [] e w := fun a ha => by
  show LeavesInM _ _ _ _ _ _ _ _ _
  rw [ha.defers]
  exact leaves_nil (hr a ha) hR
/-- a return behind the loop -/
theorem WQ.retM1 {fn : Func} {R : Ending → World → Prop} {Dm : Nat} {L' : List Item} (H : StX C w0 M0 M L w) (hrm : Rem L (.blk Dm (.deferred (some []))) L')
    (k : ∀ w', StX C w0 M0 M L' w' → ∃ v, (∀ a, Sat n [mark Dm] e a → (results fn a.tmps).run P w' = .ok v w') ∧ R (.returned v) w') : WQ (bodyPostM (Wd none) 0 P fn R) .ret n [mark Dm] e w := fun a ha => by
  show LeavesInM _ _ _ _ _ _ _ _ _
  rw [ha.defers]
  have hb := H.blk hrm.mem
  have hrun := run_takeDeferred (P := P) hb
  have H' : StX C w0 M0 M L' (w.putObj Dm (.deferred none)) := by
    have hit := H.own _ hrm.mem
    refine ⟨H.ext.grown (grownBy_putObj2 w Dm _) (fun b hb => hit.2 b hb), fun it hi => ?_, H.sep.sublist hrm.sublist⟩
    have h2 := H.own it (hrm.sublist.subset hi)
    refine ⟨h2.1.kept (fun b hb' => World.putObj_heap_other (fun he => ?_)), h2.2⟩
    subst he
    exact hrm.pairs (R := Apart) (fun x y h => h.symm) H.sep it hi b rfl hb'
  obtain ⟨v, h1, h2⟩ := k _ H'
  exact ⟨by simp, .inl ⟨Dm, _, rfl, hrun, leaves_nil (h1 a ha) h2⟩⟩
theorem resv_run2 {fn : Func} {D : List Deferred} {x y : ResultVar} {v1 v2 : Value} (hr : fn.results = #[x, y]) (h1 : resv P w e x v1) (h2 : resv P w e y v2) : ∀ a, Sat n D e a → (results fn a.tmps).run P w = .ok (.tuple #[v1, v2]) w :=
  fun a ha => by rw [results_eq, hr]; exact run_res2 _ (resv_run ha h1) (resv_run ha h2)
theorem resv_run1 {fn : Func} {D : List Deferred} {x : ResultVar} {v : Value} (hr : fn.results = #[x]) (h1 : resv P w e x v) : ∀ a, Sat n D e a → (results fn a.tmps).run P w = .ok v w :=
  fun a ha => by rw [results_eq, hr]; exact run_res1 _ (resv_run ha h1)
end
end Go.Ph
