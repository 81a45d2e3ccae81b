/-
  A layer over the walk's calculus: what is known of the slots is a short list, what is known of the heap is one fact. No program in sight.
-/
import Derived.OrdersIn
import Derived.TacticsIn
import Derived.Below
import Derived.Maps.AppendAt
import Derived.OneCell
import Derived.KernelRfl
set_option linter.unusedVariables false
set_option linter.unusedSimpArgs false
namespace Go.Ph
open Go Go.RowKit

/-! ### the slots -/
abbrev Env := List (Nat × Value)

def get : Env → Nat → Option Value
  | [], _ => none
  | (j, v) :: e, i => bif Nat.beq i j then some v else get e i

def ev (e : Env) : Operand → Option Value
  | .tmp t => get e t
  | .const v => some v
  | .global g => some (.pointer (some ⟨g, 0, none⟩))
  | .func f => some (.func (.func f) #[] #[])

def evs (e : Env) : List Operand → Option (List Value)
  | [] => some []
  | x :: l => match ev e x, evs e l with
    | some v, some vs => some (v :: vs)
    | _, _ => none

def Fits (e : Env) (ρ : Operand → Value) : Prop := ∀ x v, ev e x = some v → ρ x = v

theorem Fits.evs {e : Env} {ρ : Operand → Value} (h : Fits e ρ) : ∀ {l : List Operand} {vs : List Value}, evs e l = some vs → l.map ρ = vs
  | [], vs, hv => by simp [Ph.evs] at hv; simp [hv]
  | x :: l, vs, hv => by
    simp only [Ph.evs] at hv
    split at hv
    · rename_i v vs' h1 h2
      cases hv
      simp [h x v h1, h.evs h2]
    · cases hv

structure Sat (n : Nat) (D : List Deferred) (e : Env) (a : Act) : Prop where
  size : a.tmps.size = n
  defers : a.defers = D
  val : ∀ i v, get e i = some v → a.tmps.getD i undef = v

theorem Sat.fits {n : Nat} {D : List Deferred} {e : Env} {a : Act} (h : Sat n D e a) : Fits e a.eval := by
  intro x v hx
  cases x with
  | tmp t => exact h.val t v hx
  | const u => exact Option.some.inj hx
  | global g => exact Option.some.inj hx
  | func f => exact Option.some.inj hx

theorem Sat.put {n : Nat} {D : List Deferred} {e : Env} {a : Act} (h : Sat n D e a) {d : Nat} (hd : d < n) (v : Value) : Sat n D ((d, v) :: e) (a.put (some d) v) := by
  refine ⟨by simp [Act.put, h.size], h.defers, fun i u hi => ?_⟩
  simp only [get] at hi
  cases hb : Nat.beq i d with
  | true =>
    have : i = d := Nat.eq_of_beq_eq_true hb
    subst this
    rw [hb] at hi
    have : v = u := Option.some.inj hi
    subst this
    simp [Act.put, h.size, hd]
  | false =>
    have hne : i ≠ d := Nat.ne_of_beq_eq_false hb
    rw [hb] at hi
    have := h.val i u hi
    simp only [Act.put, Array.getD_eq_getD_getElem?] at this ⊢
    rw [Array.getElem?_setIfInBounds_ne (Ne.symm hne)]
    exact this

def Sub : Env → Env → Prop
  | [], _ => True
  | (i, v) :: r, e => get e i = some v ∧ Sub r e

theorem Sub.get {r e : Env} (h : Sub r e) {i : Nat} {v : Value} (hi : get r i = some v) : get e i = some v := by
  induction r with
  | nil => cases hi
  | cons p r ih =>
    obtain ⟨j, u⟩ := p
    simp only [Ph.get] at hi
    cases hb : Nat.beq i j with
    | true =>
      have : i = j := Nat.eq_of_beq_eq_true hb
      subst this
      rw [hb] at hi
      have : u = v := Option.some.inj hi
      subst this
      exact h.1
    | false => rw [hb] at hi; exact ih h.2 hi

theorem Sat.sub {n : Nat} {D : List Deferred} {e r : Env} {a : Act} (h : Sat n D e a) (hs : Sub r e) : Sat n D r a :=
  ⟨h.size, h.defers, fun i v hi => h.val i v (hs.get hi)⟩

/-! ### the judgements -/
def Wd (r : Option Nat) : Fence := { Fence.wide with round := r }

theorem Wd_room (r : Option Nat) (n : Nat) : (Wd r).room n := fun _ h => by cases h
theorem callsIn_Wd {r : Option Nat} {n : Nat} {P : Program} {f : FuncId} {args : Array Value} {w : World} {R : Ending → World → Prop} : CallsIn (Wd r) n P f args w R ↔ Calls P f args w R :=
  (callsIn_wide (n := n) : CallsIn Fence.wide n P f args w R ↔ _)

def WR (r : Option Nat) (P : Program) (ops : Array Oper) (Q : Exit → Act → World → Prop) (n : Nat) (D : List Deferred) (l : List Oper) (e : Env) (w : World) : Prop :=
  ∀ a, Sat n D e a → wpListIn (Wd r) 0 P ops Q l a w
def WC (r : Option Nat) (P : Program) (Q : Exit → Act → World → Prop) (n : Nat) (D : List Deferred) (c : Code) (e : Env) (w : World) : Prop :=
  ∀ a, Sat n D e a → c.wpIn (Wd r) 0 P Q a w
/-- what is asked where a piece of code is left -/
def WQ (Q : Exit → Act → World → Prop) (x : Exit) (n : Nat) (D : List Deferred) (e : Env) (w : World) : Prop := ∀ a, Sat n D e a → Q x a w

def Ex (P : Program) (o : Oper) (e : Env) (w : World) (v : Value) (w' : World) : Prop :=
  (∀ c, o.op ≠ .defer c) ∧ ∀ ρ, Fits e ρ → (execOp ρ o).run P w = .ok (.value v) w'
def ExS (P : Program) (o : Oper) (e : Env) (w w' : World) : Prop :=
  (∀ c, o.op ≠ .defer c) ∧ ∀ ρ, Fits e ρ → (execOp ρ o).run P w = .ok .skip w'

section
variable {r : Option Nat} {P : Program} {ops : Array Oper} {Q : Exit → Act → World → Prop} {n : Nat} {D : List Deferred} {rest l : List Oper} {e : Env} {w w' : World} {o : Oper} {d : Nat} {v : Value}

/-- the operation is carried out -/
def Wn (ops : Array Oper) (n : Nat) (D : List Deferred) (e : Env) (o : Oper) : Prop := ∀ a, Sat n D e a → Region.wanted o (yielded ops a.tmps) = true
theorem Wn.none (hg : o.guard = Option.none) : Wn ops n D e o := fun _ _ => by simp [Region.wanted, hg]

theorem yielded_of {ops : Array Oper} {j t : Nat} {a : Act} {b : Bool} (hj : (ops[j]?).bind (·.dst) = some t) (ha : Sat n D e a) (hu : get e t = some (.bool b)) :
    yielded ops a.tmps j = some b := by
  have h := ha.val t _ hu
  unfold yielded
  rw [hj]
  simp only [Option.bind_some]
  cases ht : a.tmps[t]? with
  | none => simp [ht] at h; cases h
  | some x => simp [ht] at h; subst h; rfl

theorem Wn.some {j t : Nat} {b : Bool} (hg : o.guard = Option.some (j, b)) (hj : (ops[j]?).bind (·.dst) = Option.some t) (hb : get e t = Option.some (.bool b)) : Wn ops n D e o := fun a ha => by
  have := yielded_of hj ha hb
  simp [Region.wanted, hg, this]

theorem WR.step (hx : Ex P o e w v w') (hw : Wn ops n D e o) (hd : o.dst = some d) (hn : Nat.blt d n = true) (k : WR r P ops Q n D rest ((d, v) :: e) w') : WR r P ops Q n D (o :: rest) e w := by
  intro a ha
  unfold wpListIn
  rw [if_pos (hw a ha)]
  refine ⟨fun _ _ => trivial, ?_⟩
  rw [Oper.semAt_eq _ _ _ hx.1, hx.2 _ ha.fits, Oper.uponIn_value, hd]
  exact k _ (ha.put (Nat.le_of_ble_eq_true hn) v)

theorem WR.stepE {v' : Value} (hx : Ex P o e w v w') (hv : v = v') (hw : Wn ops n D e o) (hd : o.dst = some d) (hn : Nat.blt d n = true) (k : WR r P ops Q n D rest ((d, v') :: e) w') : WR r P ops Q n D (o :: rest) e w := by
  subst hv; exact WR.step hx hw hd hn k

theorem WR.stepS (hx : ExS P o e w w') (hw : Wn ops n D e o) (hd : o.dst = none) (k : WR r P ops Q n D rest e w') : WR r P ops Q n D (o :: rest) e w := by
  intro a ha
  unfold wpListIn
  rw [if_pos (hw a ha)]
  refine ⟨fun _ _ => trivial, ?_⟩
  rw [Oper.semAt_eq _ _ _ hx.1, hx.2 _ ha.fits, Oper.uponIn_skip, hd]
  exact k _ ha

theorem WR.stepT {p : Prop} [Decidable p] (hx : Ex P o e w (.bool (decide p)) w') (h : p) (hw : Wn ops n D e o) (hd : o.dst = some d) (hn : Nat.blt d n = true) (k : WR r P ops Q n D rest ((d, .bool true) :: e) w') : WR r P ops Q n D (o :: rest) e w := by
  rw [decide_eq_true h] at hx; exact WR.step hx hw hd hn k
theorem WR.stepF {p : Prop} [Decidable p] (hx : Ex P o e w (.bool (decide p)) w') (h : ¬ p) (hw : Wn ops n D e o) (hd : o.dst = some d) (hn : Nat.blt d n = true) (k : WR r P ops Q n D rest ((d, .bool false) :: e) w') : WR r P ops Q n D (o :: rest) e w := by
  rw [decide_eq_false h] at hx; exact WR.step hx hw hd hn k
theorem WR.split {p : Prop} [Decidable p] (hx : Ex P o e w (.bool (decide p)) w') (hw : Wn ops n D e o) (hd : o.dst = some d) (hn : Nat.blt d n = true) (kt : p → WR r P ops Q n D rest ((d, .bool true) :: e) w') (kf : ¬ p → WR r P ops Q n D rest ((d, .bool false) :: e) w') : WR r P ops Q n D (o :: rest) e w := by
  by_cases h : p
  · exact WR.stepT hx h hw hd hn (kt h)
  · exact WR.stepF hx h hw hd hn (kf h)
theorem WR.splitB {b : Bool} (hx : Ex P o e w (.bool b) w') (hw : Wn ops n D e o) (hd : o.dst = some d) (hn : Nat.blt d n = true) (kt : b = true → WR r P ops Q n D rest ((d, .bool true) :: e) w') (kf : b = false → WR r P ops Q n D rest ((d, .bool false) :: e) w') : WR r P ops Q n D (o :: rest) e w := by
  cases b
  · exact WR.step hx hw hd hn (kf rfl)
  · exact WR.step hx hw hd hn (kt rfl)

theorem WR.skipK (hw : ∀ a, Sat n D e a → Region.wanted o (yielded ops a.tmps) = false) (hd : o.dst = some d) (hn : d < n)
    (k : WR r P ops Q n D rest ((d, undef) :: e) w) : WR r P ops Q n D (o :: rest) e w := by
  intro a ha
  unfold wpListIn
  rw [if_neg (by rw [hw a ha]; simp)]
  refine ⟨fun _ _ => trivial, ?_⟩
  rw [hd]
  exact k _ (ha.put hn undef)

theorem WR.skipG {j t : Nat} {b : Bool} (hg : o.guard = some (j, !b)) (hj : (ops[j]?).bind (·.dst) = some t) (hb : get e t = some (.bool b)) (hd : o.dst = some d) (hn : Nat.blt d n = true)
    (k : WR r P ops Q n D rest ((d, undef) :: e) w) : WR r P ops Q n D (o :: rest) e w :=
  WR.skipK (fun a ha => by
    have := yielded_of hj ha hb
    cases b <;> simp [Region.wanted, hg, this]) hd (Nat.le_of_ble_eq_true hn) k

theorem WR.skipU {j t : Nat} {b : Bool} (hg : o.guard = some (j, b)) (hj : (ops[j]?).bind (·.dst) = some t) (hb : get e t = some undef) (hd : o.dst = some d) (hn : Nat.blt d n = true)
    (k : WR r P ops Q n D rest ((d, undef) :: e) w) : WR r P ops Q n D (o :: rest) e w :=
  WR.skipK (fun a ha => by
    have h := ha.val t _ hb
    have : yielded ops a.tmps j = none := by
      unfold yielded
      rw [hj]
      simp only [Option.bind_some]
      cases ht : a.tmps[t]? with
      | none => rfl
      | some x => simp [ht] at h; subst h; rfl
    simp [Region.wanted, hg, this]) hd (Nat.le_of_ble_eq_true hn) k

theorem WR.nil (k : WQ Q .normal n D e w) : WR r P ops Q n D [] e w := fun a ha => k a ha

theorem WR.sub {e' : Env} (hs : Sub e' e) (k : WR r P ops Q n D l e' w) : WR r P ops Q n D l e w := fun a ha => k a (ha.sub hs)
theorem WC.sub {c : Code} {e' : Env} (hs : Sub e' e) (k : WC r P Q n D c e' w) : WC r P Q n D c e w := fun a ha => k a (ha.sub hs)

/-! ### code -/
theorem WC.region {id : Nat} {l : List Oper} (k : WR r P l.toArray Q n D l e w) : WC r P Q n D (.region id l.toArray false) e w := fun a ha => wpIn_region_lit (k a ha)
theorem WC.seq {x y : Code} (k : WC r P (Exit.then (y.wpIn (Wd r) 0 P Q) Q) n D x e w) : WC r P Q n D (.seq x y) e w := fun a ha => wpIn_seq (k a ha)
theorem WQ.then {y : Code} {Q' : Exit → Act → World → Prop} (k : WC r P Q n D y e w) : WQ (Exit.then (y.wpIn (Wd r) 0 P Q) Q') .normal n D e w := fun a ha => k a ha
theorem WC.skip (k : WQ Q .normal n D e w) : WC r P Q n D .skip e w := fun a ha => wpIn_skip (k a ha)
theorem WC.ret (k : WQ Q .ret n D e w) : WC r P Q n D .ret e w := fun a ha => wpIn_ret (k a ha)
theorem WC.exit {id : Nat} (k : WQ Q (.exit id) n D e w) : WC r P Q n D (.exit id) e w := fun a ha => wpIn_exit (k a ha)
theorem WC.block {id : Nat} {c : Code} (k : WC r P (Exit.inBlock id Q) n D c e w) : WC r P Q n D (.block id c) e w := fun a ha => wpIn_block (k a ha)
theorem WC.condT {c : Operand} {x y : Code} (hc : ev e c = some (.bool true)) (k : WC r P Q n D x e w) : WC r P Q n D (.cond c x y) e w := fun a ha => wpIn_cond_true (ha.fits _ _ hc) (k a ha)
theorem WC.condF {c : Operand} {x y : Code} (hc : ev e c = some (.bool false)) (k : WC r P Q n D y e w) : WC r P Q n D (.cond c x y) e w := fun a ha => wpIn_cond_false (ha.fits _ _ hc) (k a ha)
theorem WC.condB {c : Operand} {x y : Code} {b : Bool} (hc : ev e c = some (.bool b)) (kt : b = true → WC r P Q n D x e w) (kf : b = false → WC r P Q n D y e w) : WC r P Q n D (.cond c x y) e w :=
  fun a ha => wpIn_cond_split (ha.fits _ _ hc) (fun h => kt h a ha) (fun h => kf h a ha)

theorem WC.loop {ι : Type} {c : Code} (E : ι → Env) (I : ι → World → Prop) (μ : ι → Nat) (x0 : ι) (hs : Sub (E x0) e) (h0 : I x0 w)
    (round : ∀ x w, I x w → WC r P (Exit.then (fun a' w' => ∃ y, Sat n D (E y) a' ∧ I y w' ∧ μ y < μ x) Q) n D c (E x) w) : WC r P Q n D (.loop c) e w := by
  intro a ha b k cs hro hb hr
  have key : ∀ m, ∀ x a w, μ x = m → Sat n D (E x) a → I x w →
      ∃ e a' w', Q e a' w' ∧ ArrivesIn (Machine.fenced P (Wd r)) P (lone (b.atR a (.code c :: .inLoop c :: k)) cs w) b k cs e a' w' := by
    intro m
    induction m using Nat.strongRecOn with
    | _ m ih =>
      intro x a w hm hsat hI
      obtain ⟨ex, a₁, w₁, hq, harr⟩ := round x w hI a hsat b (.inLoop c :: k) cs hro hb hr
      cases ex with
      | normal =>
        obtain ⟨y, hs1, hI1, hlt⟩ := hq
        obtain ⟨e2, a2, w2, hq2, harr2⟩ := ih (μ y) (hm ▸ hlt) y a₁ w₁ rfl hs1 hI1
        exact ⟨e2, a2, w2, hq2, .of_steps (StepsIn.trans harr (.one (fenced_calm hb hr rfl) stepR_inLoop)) harr2⟩
      | exit id => exact ⟨_, a₁, w₁, hq, .pass (x := .inLoop c) rfl (fun _ _ => .inl (by simp)) harr⟩
      | goto l => exact ⟨_, a₁, w₁, hq, .pass (x := .inLoop c) rfl (fun _ _ => .inl (by simp)) harr⟩
      | ret => exact ⟨_, a₁, w₁, hq, .pass (x := .inLoop c) rfl (fun _ _ => .inl (by simp)) harr⟩
      | panic ch => exact ⟨_, a₁, w₁, hq, .pass (x := .inLoop c) rfl (fun _ _ => .inl (by simp)) harr⟩
      | outgrown => exact ⟨_, a₁, w₁, hq, .pass (x := .inLoop c) rfl (fun _ _ => .inl (by simp)) harr⟩
  obtain ⟨e', a', w', hq, harr⟩ := key _ x0 a w rfl (ha.sub hs) h0
  exact ⟨e', a', w', hq, .of_steps (.one (fenced_calm hb hr rfl) stepR_loop) harr⟩

theorem WQ.again {ι : Type} {E : ι → Env} {I : ι → World → Prop} {μ : ι → Nat} {m : Nat} {Q' : Exit → Act → World → Prop} (y : ι) (hs : Sub (E y) e) (hI : I y w) (hμ : μ y < m) :
    WQ (Exit.then (fun a' w' => ∃ y, Sat n D (E y) a' ∧ I y w' ∧ μ y < m) Q') .normal n D e w := fun _ ha => ⟨y, ha.sub hs, hI, hμ⟩

/-- a cut: what is known between two pieces of code -/
theorem WC.cut {ι : Type} {x y : Code} (E : ι → Env) (I : ι → World → Prop)
    (hx : WC r P (Exit.then (fun a' w' => ∃ z, Sat n D (E z) a' ∧ I z w') Q) n D x e w) (hy : ∀ z w, I z w → WC r P Q n D y (E z) w) : WC r P Q n D (.seq x y) e w :=
  fun a ha => wpIn_seq (wpIn_mono (hx a ha) fun ex a' w' h => by
    cases ex with
    | normal => obtain ⟨z, hs, hI⟩ := h; exact hy z w' hI a' hs
    | _ => exact h)
theorem WQ.meet {ι : Type} {E : ι → Env} {I : ι → World → Prop} {Q' : Exit → Act → World → Prop} (z : ι) (hs : Sub (E z) e) (hI : I z w) :
    WQ (Exit.then (fun a' w' => ∃ z, Sat n D (E z) a' ∧ I z w') Q') .normal n D e w := fun _ ha => ⟨z, ha.sub hs, hI⟩

theorem WC.loop1 {α : Type} {c : Code} (E : α → Env) (J : α → World → Prop) (μ : α → Nat) (x0 : α) (hs : Sub (E x0) e) (h0 : J x0 w)
    (round : ∀ x0 w, J x0 w → WC r P (Exit.then (fun a' w' => ∃ y0, Sat n D (E y0) a' ∧ J y0 w' ∧ μ y0 < μ x0) Q) n D c (E x0) w) : WC r P Q n D (.loop c) e w :=
  WC.loop (ι := α) (fun p => E p) (fun p => J p) (fun p => μ p) x0 hs h0 fun p w hp a ha => wpIn_mono (round p w hp a ha) fun ex a' w' h => by
    cases ex with
    | normal => obtain ⟨y0, h1, h2, h3⟩ := h; exact ⟨y0, h1, h2, h3⟩
    | _ => exact h
theorem WQ.again1 {α : Type} {E : α → Env} {J : α → World → Prop} {μ : α → Nat} {m : Nat} {Q' : Exit → Act → World → Prop} (x0 : α) (hs : Sub (E x0) e) (hJ : J x0 w) (hμ : μ x0 < m) :
    WQ (Exit.then (fun a' w' => ∃ y0, Sat n D (E y0) a' ∧ J y0 w' ∧ μ y0 < m) Q') .normal n D e w := fun _ ha => ⟨x0, ha.sub hs, hJ, hμ⟩
theorem WC.cut1 {α : Type} {x y : Code} (E : α → Env) (J : α → World → Prop)
    (hx : WC r P (Exit.then (fun a' w' => ∃ y0, Sat n D (E y0) a' ∧ J y0 w') Q) n D x e w) (hy : ∀ x0 w, J x0 w → WC r P Q n D y (E x0) w) : WC r P Q n D (.seq x y) e w :=
  fun a ha => wpIn_seq (wpIn_mono (hx a ha) fun ex a' w' h => by
    cases ex with
    | normal => obtain ⟨y0, hs, hI⟩ := h; exact hy y0 w' hI a' hs
    | _ => exact h)
theorem WQ.meet1 {α : Type} {E : α → Env} {J : α → World → Prop} {Q' : Exit → Act → World → Prop} (x0 : α) (hs : Sub (E x0) e) (hJ : J x0 w) :
    WQ (Exit.then (fun a' w' => ∃ y0, Sat n D (E y0) a' ∧ J y0 w') Q') .normal n D e w := fun _ ha => ⟨x0, ha.sub hs, hJ⟩
theorem WC.loop2 {α β : Type} {c : Code} (E : α → β → Env) (J : α → β → World → Prop) (μ : α → β → Nat) (x0 : α) (x1 : β) (hs : Sub (E x0 x1) e) (h0 : J x0 x1 w)
    (round : ∀ x0 x1 w, J x0 x1 w → WC r P (Exit.then (fun a' w' => ∃ y0 y1, Sat n D (E y0 y1) a' ∧ J y0 y1 w' ∧ μ y0 y1 < μ x0 x1) Q) n D c (E x0 x1) w) : WC r P Q n D (.loop c) e w :=
  WC.loop (ι := (α × β)) (fun p => E p.1 p.2) (fun p => J p.1 p.2) (fun p => μ p.1 p.2) (x0, x1) hs h0 fun p w hp a ha => wpIn_mono (round p.1 p.2 w hp a ha) fun ex a' w' h => by
    cases ex with
    | normal => obtain ⟨y0, y1, h1, h2, h3⟩ := h; exact ⟨⟨y0, y1⟩, h1, h2, h3⟩
    | _ => exact h
theorem WQ.again2 {α β : Type} {E : α → β → Env} {J : α → β → World → Prop} {μ : α → β → Nat} {m : Nat} {Q' : Exit → Act → World → Prop} (x0 : α) (x1 : β) (hs : Sub (E x0 x1) e) (hJ : J x0 x1 w) (hμ : μ x0 x1 < m) :
    WQ (Exit.then (fun a' w' => ∃ y0 y1, Sat n D (E y0 y1) a' ∧ J y0 y1 w' ∧ μ y0 y1 < m) Q') .normal n D e w := fun _ ha => ⟨x0, x1, ha.sub hs, hJ, hμ⟩
theorem WC.cut2 {α β : Type} {x y : Code} (E : α → β → Env) (J : α → β → World → Prop)
    (hx : WC r P (Exit.then (fun a' w' => ∃ y0 y1, Sat n D (E y0 y1) a' ∧ J y0 y1 w') Q) n D x e w) (hy : ∀ x0 x1 w, J x0 x1 w → WC r P Q n D y (E x0 x1) w) : WC r P Q n D (.seq x y) e w :=
  fun a ha => wpIn_seq (wpIn_mono (hx a ha) fun ex a' w' h => by
    cases ex with
    | normal => obtain ⟨y0, y1, hs, hI⟩ := h; exact hy y0 y1 w' hI a' hs
    | _ => exact h)
theorem WQ.meet2 {α β : Type} {E : α → β → Env} {J : α → β → World → Prop} {Q' : Exit → Act → World → Prop} (x0 : α) (x1 : β) (hs : Sub (E x0 x1) e) (hJ : J x0 x1 w) :
    WQ (Exit.then (fun a' w' => ∃ y0 y1, Sat n D (E y0 y1) a' ∧ J y0 y1 w') Q') .normal n D e w := fun _ ha => ⟨x0, x1, ha.sub hs, hJ⟩
theorem WC.loop3 {α β γ : Type} {c : Code} (E : α → β → γ → Env) (J : α → β → γ → World → Prop) (μ : α → β → γ → Nat) (x0 : α) (x1 : β) (x2 : γ) (hs : Sub (E x0 x1 x2) e) (h0 : J x0 x1 x2 w)
    (round : ∀ x0 x1 x2 w, J x0 x1 x2 w → WC r P (Exit.then (fun a' w' => ∃ y0 y1 y2, Sat n D (E y0 y1 y2) a' ∧ J y0 y1 y2 w' ∧ μ y0 y1 y2 < μ x0 x1 x2) Q) n D c (E x0 x1 x2) w) : WC r P Q n D (.loop c) e w :=
  WC.loop (ι := (α × β × γ)) (fun p => E p.1 p.2.1 p.2.2) (fun p => J p.1 p.2.1 p.2.2) (fun p => μ p.1 p.2.1 p.2.2) (x0, x1, x2) hs h0 fun p w hp a ha => wpIn_mono (round p.1 p.2.1 p.2.2 w hp a ha) fun ex a' w' h => by
    cases ex with
    | normal => obtain ⟨y0, y1, y2, h1, h2, h3⟩ := h; exact ⟨⟨y0, y1, y2⟩, h1, h2, h3⟩
    | _ => exact h
theorem WQ.again3 {α β γ : Type} {E : α → β → γ → Env} {J : α → β → γ → World → Prop} {μ : α → β → γ → Nat} {m : Nat} {Q' : Exit → Act → World → Prop} (x0 : α) (x1 : β) (x2 : γ) (hs : Sub (E x0 x1 x2) e) (hJ : J x0 x1 x2 w) (hμ : μ x0 x1 x2 < m) :
    WQ (Exit.then (fun a' w' => ∃ y0 y1 y2, Sat n D (E y0 y1 y2) a' ∧ J y0 y1 y2 w' ∧ μ y0 y1 y2 < m) Q') .normal n D e w := fun _ ha => ⟨x0, x1, x2, ha.sub hs, hJ, hμ⟩
theorem WC.cut3 {α β γ : Type} {x y : Code} (E : α → β → γ → Env) (J : α → β → γ → World → Prop)
    (hx : WC r P (Exit.then (fun a' w' => ∃ y0 y1 y2, Sat n D (E y0 y1 y2) a' ∧ J y0 y1 y2 w') Q) n D x e w) (hy : ∀ x0 x1 x2 w, J x0 x1 x2 w → WC r P Q n D y (E x0 x1 x2) w) : WC r P Q n D (.seq x y) e w :=
  fun a ha => wpIn_seq (wpIn_mono (hx a ha) fun ex a' w' h => by
    cases ex with
    | normal => obtain ⟨y0, y1, y2, hs, hI⟩ := h; exact hy y0 y1 y2 w' hI a' hs
    | _ => exact h)
theorem WQ.meet3 {α β γ : Type} {E : α → β → γ → Env} {J : α → β → γ → World → Prop} {Q' : Exit → Act → World → Prop} (x0 : α) (x1 : β) (x2 : γ) (hs : Sub (E x0 x1 x2) e) (hJ : J x0 x1 x2 w) :
    WQ (Exit.then (fun a' w' => ∃ y0 y1 y2, Sat n D (E y0 y1 y2) a' ∧ J y0 y1 y2 w') Q') .normal n D e w := fun _ ha => ⟨x0, x1, x2, ha.sub hs, hJ⟩
theorem WC.loop4 {α β γ δ : Type} {c : Code} (E : α → β → γ → δ → Env) (J : α → β → γ → δ → World → Prop) (μ : α → β → γ → δ → Nat) (x0 : α) (x1 : β) (x2 : γ) (x3 : δ) (hs : Sub (E x0 x1 x2 x3) e) (h0 : J x0 x1 x2 x3 w)
    (round : ∀ x0 x1 x2 x3 w, J x0 x1 x2 x3 w → WC r P (Exit.then (fun a' w' => ∃ y0 y1 y2 y3, Sat n D (E y0 y1 y2 y3) a' ∧ J y0 y1 y2 y3 w' ∧ μ y0 y1 y2 y3 < μ x0 x1 x2 x3) Q) n D c (E x0 x1 x2 x3) w) : WC r P Q n D (.loop c) e w :=
  WC.loop (ι := (α × β × γ × δ)) (fun p => E p.1 p.2.1 p.2.2.1 p.2.2.2) (fun p => J p.1 p.2.1 p.2.2.1 p.2.2.2) (fun p => μ p.1 p.2.1 p.2.2.1 p.2.2.2) (x0, x1, x2, x3) hs h0 fun p w hp a ha => wpIn_mono (round p.1 p.2.1 p.2.2.1 p.2.2.2 w hp a ha) fun ex a' w' h => by
    cases ex with
    | normal => obtain ⟨y0, y1, y2, y3, h1, h2, h3⟩ := h; exact ⟨⟨y0, y1, y2, y3⟩, h1, h2, h3⟩
    | _ => exact h
theorem WQ.again4 {α β γ δ : Type} {E : α → β → γ → δ → Env} {J : α → β → γ → δ → World → Prop} {μ : α → β → γ → δ → Nat} {m : Nat} {Q' : Exit → Act → World → Prop} (x0 : α) (x1 : β) (x2 : γ) (x3 : δ) (hs : Sub (E x0 x1 x2 x3) e) (hJ : J x0 x1 x2 x3 w) (hμ : μ x0 x1 x2 x3 < m) :
    WQ (Exit.then (fun a' w' => ∃ y0 y1 y2 y3, Sat n D (E y0 y1 y2 y3) a' ∧ J y0 y1 y2 y3 w' ∧ μ y0 y1 y2 y3 < m) Q') .normal n D e w := fun _ ha => ⟨x0, x1, x2, x3, ha.sub hs, hJ, hμ⟩
theorem WC.cut4 {α β γ δ : Type} {x y : Code} (E : α → β → γ → δ → Env) (J : α → β → γ → δ → World → Prop)
    (hx : WC r P (Exit.then (fun a' w' => ∃ y0 y1 y2 y3, Sat n D (E y0 y1 y2 y3) a' ∧ J y0 y1 y2 y3 w') Q) n D x e w) (hy : ∀ x0 x1 x2 x3 w, J x0 x1 x2 x3 w → WC r P Q n D y (E x0 x1 x2 x3) w) : WC r P Q n D (.seq x y) e w :=
  fun a ha => wpIn_seq (wpIn_mono (hx a ha) fun ex a' w' h => by
    cases ex with
    | normal => obtain ⟨y0, y1, y2, y3, hs, hI⟩ := h; exact hy y0 y1 y2 y3 w' hI a' hs
    | _ => exact h)
theorem WQ.meet4 {α β γ δ : Type} {E : α → β → γ → δ → Env} {J : α → β → γ → δ → World → Prop} {Q' : Exit → Act → World → Prop} (x0 : α) (x1 : β) (x2 : γ) (x3 : δ) (hs : Sub (E x0 x1 x2 x3) e) (hJ : J x0 x1 x2 x3 w) :
    WQ (Exit.then (fun a' w' => ∃ y0 y1 y2 y3, Sat n D (E y0 y1 y2 y3) a' ∧ J y0 y1 y2 y3 w') Q') .normal n D e w := fun _ ha => ⟨x0, x1, x2, x3, ha.sub hs, hJ⟩
theorem WC.loop5 {α β γ δ ε : Type} {c : Code} (E : α → β → γ → δ → ε → Env) (J : α → β → γ → δ → ε → World → Prop) (μ : α → β → γ → δ → ε → Nat) (x0 : α) (x1 : β) (x2 : γ) (x3 : δ) (x4 : ε) (hs : Sub (E x0 x1 x2 x3 x4) e) (h0 : J x0 x1 x2 x3 x4 w)
    (round : ∀ x0 x1 x2 x3 x4 w, J x0 x1 x2 x3 x4 w → WC r P (Exit.then (fun a' w' => ∃ y0 y1 y2 y3 y4, Sat n D (E y0 y1 y2 y3 y4) a' ∧ J y0 y1 y2 y3 y4 w' ∧ μ y0 y1 y2 y3 y4 < μ x0 x1 x2 x3 x4) Q) n D c (E x0 x1 x2 x3 x4) w) : WC r P Q n D (.loop c) e w :=
  WC.loop (ι := (α × β × γ × δ × ε)) (fun p => E p.1 p.2.1 p.2.2.1 p.2.2.2.1 p.2.2.2.2) (fun p => J p.1 p.2.1 p.2.2.1 p.2.2.2.1 p.2.2.2.2) (fun p => μ p.1 p.2.1 p.2.2.1 p.2.2.2.1 p.2.2.2.2) (x0, x1, x2, x3, x4) hs h0 fun p w hp a ha => wpIn_mono (round p.1 p.2.1 p.2.2.1 p.2.2.2.1 p.2.2.2.2 w hp a ha) fun ex a' w' h => by
    cases ex with
    | normal => obtain ⟨y0, y1, y2, y3, y4, h1, h2, h3⟩ := h; exact ⟨⟨y0, y1, y2, y3, y4⟩, h1, h2, h3⟩
    | _ => exact h
theorem WQ.again5 {α β γ δ ε : Type} {E : α → β → γ → δ → ε → Env} {J : α → β → γ → δ → ε → World → Prop} {μ : α → β → γ → δ → ε → Nat} {m : Nat} {Q' : Exit → Act → World → Prop} (x0 : α) (x1 : β) (x2 : γ) (x3 : δ) (x4 : ε) (hs : Sub (E x0 x1 x2 x3 x4) e) (hJ : J x0 x1 x2 x3 x4 w) (hμ : μ x0 x1 x2 x3 x4 < m) :
    WQ (Exit.then (fun a' w' => ∃ y0 y1 y2 y3 y4, Sat n D (E y0 y1 y2 y3 y4) a' ∧ J y0 y1 y2 y3 y4 w' ∧ μ y0 y1 y2 y3 y4 < m) Q') .normal n D e w := fun _ ha => ⟨x0, x1, x2, x3, x4, ha.sub hs, hJ, hμ⟩
theorem WC.cut5 {α β γ δ ε : Type} {x y : Code} (E : α → β → γ → δ → ε → Env) (J : α → β → γ → δ → ε → World → Prop)
    (hx : WC r P (Exit.then (fun a' w' => ∃ y0 y1 y2 y3 y4, Sat n D (E y0 y1 y2 y3 y4) a' ∧ J y0 y1 y2 y3 y4 w') Q) n D x e w) (hy : ∀ x0 x1 x2 x3 x4 w, J x0 x1 x2 x3 x4 w → WC r P Q n D y (E x0 x1 x2 x3 x4) w) : WC r P Q n D (.seq x y) e w :=
  fun a ha => wpIn_seq (wpIn_mono (hx a ha) fun ex a' w' h => by
    cases ex with
    | normal => obtain ⟨y0, y1, y2, y3, y4, hs, hI⟩ := h; exact hy y0 y1 y2 y3 y4 w' hI a' hs
    | _ => exact h)
theorem WQ.meet5 {α β γ δ ε : Type} {E : α → β → γ → δ → ε → Env} {J : α → β → γ → δ → ε → World → Prop} {Q' : Exit → Act → World → Prop} (x0 : α) (x1 : β) (x2 : γ) (x3 : δ) (x4 : ε) (hs : Sub (E x0 x1 x2 x3 x4) e) (hJ : J x0 x1 x2 x3 x4 w) :
    WQ (Exit.then (fun a' w' => ∃ y0 y1 y2 y3 y4, Sat n D (E y0 y1 y2 y3 y4) a' ∧ J y0 y1 y2 y3 y4 w') Q') .normal n D e w := fun _ ha => ⟨x0, x1, x2, x3, x4, ha.sub hs, hJ⟩
theorem WC.loop6 {α β γ δ ε ζ : Type} {c : Code} (E : α → β → γ → δ → ε → ζ → Env) (J : α → β → γ → δ → ε → ζ → World → Prop) (μ : α → β → γ → δ → ε → ζ → Nat) (x0 : α) (x1 : β) (x2 : γ) (x3 : δ) (x4 : ε) (x5 : ζ) (hs : Sub (E x0 x1 x2 x3 x4 x5) e) (h0 : J x0 x1 x2 x3 x4 x5 w)
    (round : ∀ x0 x1 x2 x3 x4 x5 w, J x0 x1 x2 x3 x4 x5 w → WC r P (Exit.then (fun a' w' => ∃ y0 y1 y2 y3 y4 y5, Sat n D (E y0 y1 y2 y3 y4 y5) a' ∧ J y0 y1 y2 y3 y4 y5 w' ∧ μ y0 y1 y2 y3 y4 y5 < μ x0 x1 x2 x3 x4 x5) Q) n D c (E x0 x1 x2 x3 x4 x5) w) : WC r P Q n D (.loop c) e w :=
  WC.loop (ι := (α × β × γ × δ × ε × ζ)) (fun p => E p.1 p.2.1 p.2.2.1 p.2.2.2.1 p.2.2.2.2.1 p.2.2.2.2.2) (fun p => J p.1 p.2.1 p.2.2.1 p.2.2.2.1 p.2.2.2.2.1 p.2.2.2.2.2) (fun p => μ p.1 p.2.1 p.2.2.1 p.2.2.2.1 p.2.2.2.2.1 p.2.2.2.2.2) (x0, x1, x2, x3, x4, x5) hs h0 fun p w hp a ha => wpIn_mono (round p.1 p.2.1 p.2.2.1 p.2.2.2.1 p.2.2.2.2.1 p.2.2.2.2.2 w hp a ha) fun ex a' w' h => by
    cases ex with
    | normal => obtain ⟨y0, y1, y2, y3, y4, y5, h1, h2, h3⟩ := h; exact ⟨⟨y0, y1, y2, y3, y4, y5⟩, h1, h2, h3⟩
    | _ => exact h
theorem WQ.again6 {α β γ δ ε ζ : Type} {E : α → β → γ → δ → ε → ζ → Env} {J : α → β → γ → δ → ε → ζ → World → Prop} {μ : α → β → γ → δ → ε → ζ → Nat} {m : Nat} {Q' : Exit → Act → World → Prop} (x0 : α) (x1 : β) (x2 : γ) (x3 : δ) (x4 : ε) (x5 : ζ) (hs : Sub (E x0 x1 x2 x3 x4 x5) e) (hJ : J x0 x1 x2 x3 x4 x5 w) (hμ : μ x0 x1 x2 x3 x4 x5 < m) :
    WQ (Exit.then (fun a' w' => ∃ y0 y1 y2 y3 y4 y5, Sat n D (E y0 y1 y2 y3 y4 y5) a' ∧ J y0 y1 y2 y3 y4 y5 w' ∧ μ y0 y1 y2 y3 y4 y5 < m) Q') .normal n D e w := fun _ ha => ⟨x0, x1, x2, x3, x4, x5, ha.sub hs, hJ, hμ⟩
theorem WC.cut6 {α β γ δ ε ζ : Type} {x y : Code} (E : α → β → γ → δ → ε → ζ → Env) (J : α → β → γ → δ → ε → ζ → World → Prop)
    (hx : WC r P (Exit.then (fun a' w' => ∃ y0 y1 y2 y3 y4 y5, Sat n D (E y0 y1 y2 y3 y4 y5) a' ∧ J y0 y1 y2 y3 y4 y5 w') Q) n D x e w) (hy : ∀ x0 x1 x2 x3 x4 x5 w, J x0 x1 x2 x3 x4 x5 w → WC r P Q n D y (E x0 x1 x2 x3 x4 x5) w) : WC r P Q n D (.seq x y) e w :=
  fun a ha => wpIn_seq (wpIn_mono (hx a ha) fun ex a' w' h => by
    cases ex with
    | normal => obtain ⟨y0, y1, y2, y3, y4, y5, hs, hI⟩ := h; exact hy y0 y1 y2 y3 y4 y5 w' hI a' hs
    | _ => exact h)
theorem WQ.meet6 {α β γ δ ε ζ : Type} {E : α → β → γ → δ → ε → ζ → Env} {J : α → β → γ → δ → ε → ζ → World → Prop} {Q' : Exit → Act → World → Prop} (x0 : α) (x1 : β) (x2 : γ) (x3 : δ) (x4 : ε) (x5 : ζ) (hs : Sub (E x0 x1 x2 x3 x4 x5) e) (hJ : J x0 x1 x2 x3 x4 x5 w) :
    WQ (Exit.then (fun a' w' => ∃ y0 y1 y2 y3 y4 y5, Sat n D (E y0 y1 y2 y3 y4 y5) a' ∧ J y0 y1 y2 y3 y4 y5 w') Q') .normal n D e w := fun _ ha => ⟨x0, x1, x2, x3, x4, x5, ha.sub hs, hJ⟩
theorem WC.loop7 {α β γ δ ε ζ η : Type} {c : Code} (E : α → β → γ → δ → ε → ζ → η → Env) (J : α → β → γ → δ → ε → ζ → η → World → Prop) (μ : α → β → γ → δ → ε → ζ → η → Nat) (x0 : α) (x1 : β) (x2 : γ) (x3 : δ) (x4 : ε) (x5 : ζ) (x6 : η) (hs : Sub (E x0 x1 x2 x3 x4 x5 x6) e) (h0 : J x0 x1 x2 x3 x4 x5 x6 w)
    (round : ∀ x0 x1 x2 x3 x4 x5 x6 w, J x0 x1 x2 x3 x4 x5 x6 w → WC r P (Exit.then (fun a' w' => ∃ y0 y1 y2 y3 y4 y5 y6, Sat n D (E y0 y1 y2 y3 y4 y5 y6) a' ∧ J y0 y1 y2 y3 y4 y5 y6 w' ∧ μ y0 y1 y2 y3 y4 y5 y6 < μ x0 x1 x2 x3 x4 x5 x6) Q) n D c (E x0 x1 x2 x3 x4 x5 x6) w) : WC r P Q n D (.loop c) e w :=
  WC.loop (ι := (α × β × γ × δ × ε × ζ × η)) (fun p => E p.1 p.2.1 p.2.2.1 p.2.2.2.1 p.2.2.2.2.1 p.2.2.2.2.2.1 p.2.2.2.2.2.2) (fun p => J p.1 p.2.1 p.2.2.1 p.2.2.2.1 p.2.2.2.2.1 p.2.2.2.2.2.1 p.2.2.2.2.2.2) (fun p => μ p.1 p.2.1 p.2.2.1 p.2.2.2.1 p.2.2.2.2.1 p.2.2.2.2.2.1 p.2.2.2.2.2.2) (x0, x1, x2, x3, x4, x5, x6) hs h0 fun p w hp a ha => wpIn_mono (round p.1 p.2.1 p.2.2.1 p.2.2.2.1 p.2.2.2.2.1 p.2.2.2.2.2.1 p.2.2.2.2.2.2 w hp a ha) fun ex a' w' h => by
    cases ex with
    | normal => obtain ⟨y0, y1, y2, y3, y4, y5, y6, h1, h2, h3⟩ := h; exact ⟨⟨y0, y1, y2, y3, y4, y5, y6⟩, h1, h2, h3⟩
    | _ => exact h
theorem WQ.again7 {α β γ δ ε ζ η : Type} {E : α → β → γ → δ → ε → ζ → η → Env} {J : α → β → γ → δ → ε → ζ → η → World → Prop} {μ : α → β → γ → δ → ε → ζ → η → Nat} {m : Nat} {Q' : Exit → Act → World → Prop} (x0 : α) (x1 : β) (x2 : γ) (x3 : δ) (x4 : ε) (x5 : ζ) (x6 : η) (hs : Sub (E x0 x1 x2 x3 x4 x5 x6) e) (hJ : J x0 x1 x2 x3 x4 x5 x6 w) (hμ : μ x0 x1 x2 x3 x4 x5 x6 < m) :
    WQ (Exit.then (fun a' w' => ∃ y0 y1 y2 y3 y4 y5 y6, Sat n D (E y0 y1 y2 y3 y4 y5 y6) a' ∧ J y0 y1 y2 y3 y4 y5 y6 w' ∧ μ y0 y1 y2 y3 y4 y5 y6 < m) Q') .normal n D e w := fun _ ha => ⟨x0, x1, x2, x3, x4, x5, x6, ha.sub hs, hJ, hμ⟩
theorem WC.cut7 {α β γ δ ε ζ η : Type} {x y : Code} (E : α → β → γ → δ → ε → ζ → η → Env) (J : α → β → γ → δ → ε → ζ → η → World → Prop)
    (hx : WC r P (Exit.then (fun a' w' => ∃ y0 y1 y2 y3 y4 y5 y6, Sat n D (E y0 y1 y2 y3 y4 y5 y6) a' ∧ J y0 y1 y2 y3 y4 y5 y6 w') Q) n D x e w) (hy : ∀ x0 x1 x2 x3 x4 x5 x6 w, J x0 x1 x2 x3 x4 x5 x6 w → WC r P Q n D y (E x0 x1 x2 x3 x4 x5 x6) w) : WC r P Q n D (.seq x y) e w :=
  fun a ha => wpIn_seq (wpIn_mono (hx a ha) fun ex a' w' h => by
    cases ex with
    | normal => obtain ⟨y0, y1, y2, y3, y4, y5, y6, hs, hI⟩ := h; exact hy y0 y1 y2 y3 y4 y5 y6 w' hI a' hs
    | _ => exact h)
theorem WQ.meet7 {α β γ δ ε ζ η : Type} {E : α → β → γ → δ → ε → ζ → η → Env} {J : α → β → γ → δ → ε → ζ → η → World → Prop} {Q' : Exit → Act → World → Prop} (x0 : α) (x1 : β) (x2 : γ) (x3 : δ) (x4 : ε) (x5 : ζ) (x6 : η) (hs : Sub (E x0 x1 x2 x3 x4 x5 x6) e) (hJ : J x0 x1 x2 x3 x4 x5 x6 w) :
    WQ (Exit.then (fun a' w' => ∃ y0 y1 y2 y3 y4 y5 y6, Sat n D (E y0 y1 y2 y3 y4 y5 y6) a' ∧ J y0 y1 y2 y3 y4 y5 y6 w') Q') .normal n D e w := fun _ ha => ⟨x0, x1, x2, x3, x4, x5, x6, ha.sub hs, hJ⟩
theorem WC.loop8 {α β γ δ ε ζ η θ : Type} {c : Code} (E : α → β → γ → δ → ε → ζ → η → θ → Env) (J : α → β → γ → δ → ε → ζ → η → θ → World → Prop) (μ : α → β → γ → δ → ε → ζ → η → θ → Nat) (x0 : α) (x1 : β) (x2 : γ) (x3 : δ) (x4 : ε) (x5 : ζ) (x6 : η) (x7 : θ) (hs : Sub (E x0 x1 x2 x3 x4 x5 x6 x7) e) (h0 : J x0 x1 x2 x3 x4 x5 x6 x7 w)
    (round : ∀ x0 x1 x2 x3 x4 x5 x6 x7 w, J x0 x1 x2 x3 x4 x5 x6 x7 w → WC r P (Exit.then (fun a' w' => ∃ y0 y1 y2 y3 y4 y5 y6 y7, Sat n D (E y0 y1 y2 y3 y4 y5 y6 y7) a' ∧ J y0 y1 y2 y3 y4 y5 y6 y7 w' ∧ μ y0 y1 y2 y3 y4 y5 y6 y7 < μ x0 x1 x2 x3 x4 x5 x6 x7) Q) n D c (E x0 x1 x2 x3 x4 x5 x6 x7) w) : WC r P Q n D (.loop c) e w :=
  WC.loop (ι := (α × β × γ × δ × ε × ζ × η × θ)) (fun p => E p.1 p.2.1 p.2.2.1 p.2.2.2.1 p.2.2.2.2.1 p.2.2.2.2.2.1 p.2.2.2.2.2.2.1 p.2.2.2.2.2.2.2) (fun p => J p.1 p.2.1 p.2.2.1 p.2.2.2.1 p.2.2.2.2.1 p.2.2.2.2.2.1 p.2.2.2.2.2.2.1 p.2.2.2.2.2.2.2) (fun p => μ p.1 p.2.1 p.2.2.1 p.2.2.2.1 p.2.2.2.2.1 p.2.2.2.2.2.1 p.2.2.2.2.2.2.1 p.2.2.2.2.2.2.2) (x0, x1, x2, x3, x4, x5, x6, x7) hs h0 fun p w hp a ha => wpIn_mono (round p.1 p.2.1 p.2.2.1 p.2.2.2.1 p.2.2.2.2.1 p.2.2.2.2.2.1 p.2.2.2.2.2.2.1 p.2.2.2.2.2.2.2 w hp a ha) fun ex a' w' h => by
    cases ex with
    | normal => obtain ⟨y0, y1, y2, y3, y4, y5, y6, y7, h1, h2, h3⟩ := h; exact ⟨⟨y0, y1, y2, y3, y4, y5, y6, y7⟩, h1, h2, h3⟩
    | _ => exact h
theorem WQ.again8 {α β γ δ ε ζ η θ : Type} {E : α → β → γ → δ → ε → ζ → η → θ → Env} {J : α → β → γ → δ → ε → ζ → η → θ → World → Prop} {μ : α → β → γ → δ → ε → ζ → η → θ → Nat} {m : Nat} {Q' : Exit → Act → World → Prop} (x0 : α) (x1 : β) (x2 : γ) (x3 : δ) (x4 : ε) (x5 : ζ) (x6 : η) (x7 : θ) (hs : Sub (E x0 x1 x2 x3 x4 x5 x6 x7) e) (hJ : J x0 x1 x2 x3 x4 x5 x6 x7 w) (hμ : μ x0 x1 x2 x3 x4 x5 x6 x7 < m) :
    WQ (Exit.then (fun a' w' => ∃ y0 y1 y2 y3 y4 y5 y6 y7, Sat n D (E y0 y1 y2 y3 y4 y5 y6 y7) a' ∧ J y0 y1 y2 y3 y4 y5 y6 y7 w' ∧ μ y0 y1 y2 y3 y4 y5 y6 y7 < m) Q') .normal n D e w := fun _ ha => ⟨x0, x1, x2, x3, x4, x5, x6, x7, ha.sub hs, hJ, hμ⟩
theorem WC.cut8 {α β γ δ ε ζ η θ : Type} {x y : Code} (E : α → β → γ → δ → ε → ζ → η → θ → Env) (J : α → β → γ → δ → ε → ζ → η → θ → World → Prop)
    (hx : WC r P (Exit.then (fun a' w' => ∃ y0 y1 y2 y3 y4 y5 y6 y7, Sat n D (E y0 y1 y2 y3 y4 y5 y6 y7) a' ∧ J y0 y1 y2 y3 y4 y5 y6 y7 w') Q) n D x e w) (hy : ∀ x0 x1 x2 x3 x4 x5 x6 x7 w, J x0 x1 x2 x3 x4 x5 x6 x7 w → WC r P Q n D y (E x0 x1 x2 x3 x4 x5 x6 x7) w) : WC r P Q n D (.seq x y) e w :=
  fun a ha => wpIn_seq (wpIn_mono (hx a ha) fun ex a' w' h => by
    cases ex with
    | normal => obtain ⟨y0, y1, y2, y3, y4, y5, y6, y7, hs, hI⟩ := h; exact hy y0 y1 y2 y3 y4 y5 y6 y7 w' hI a' hs
    | _ => exact h)
theorem WQ.meet8 {α β γ δ ε ζ η θ : Type} {E : α → β → γ → δ → ε → ζ → η → θ → Env} {J : α → β → γ → δ → ε → ζ → η → θ → World → Prop} {Q' : Exit → Act → World → Prop} (x0 : α) (x1 : β) (x2 : γ) (x3 : δ) (x4 : ε) (x5 : ζ) (x6 : η) (x7 : θ) (hs : Sub (E x0 x1 x2 x3 x4 x5 x6 x7) e) (hJ : J x0 x1 x2 x3 x4 x5 x6 x7 w) :
    WQ (Exit.then (fun a' w' => ∃ y0 y1 y2 y3 y4 y5 y6 y7, Sat n D (E y0 y1 y2 y3 y4 y5 y6 y7) a' ∧ J y0 y1 y2 y3 y4 y5 y6 y7 w') Q') .normal n D e w := fun _ ha => ⟨x0, x1, x2, x3, x4, x5, x6, x7, ha.sub hs, hJ⟩
theorem WQ.inBlock {id : Nat} (k : WQ Q .normal n D e w) : WQ (Exit.inBlock id Q) .normal n D e w := fun a ha => k a ha
theorem WQ.inBlockRet {id : Nat} (k : WQ Q .ret n D e w) : WQ (Exit.inBlock id Q) .ret n D e w := fun a ha => k a ha
theorem WQ.thenRet {K : Act → World → Prop} (k : WQ Q .ret n D e w) : WQ (Exit.then K Q) .ret n D e w := fun a ha => k a ha
theorem WQ.thenExit {K : Act → World → Prop} {id : Nat} (k : WQ Q (.exit id) n D e w) : WQ (Exit.then K Q) (.exit id) n D e w := fun a ha => k a ha
theorem WQ.exitHere {id : Nat} (k : WQ Q .normal n D e w) : WQ (Exit.inBlock id Q) (.exit id) n D e w := fun a ha => by
  show Exit.inBlock id Q (.exit id) a w
  simp only [Exit.inBlock, if_true]
  exact k a ha
theorem WQ.exitOut {id id' : Nat} (h : Nat.beq id' id = false) (k : WQ Q (.exit id') n D e w) : WQ (Exit.inBlock id Q) (.exit id') n D e w := fun a ha => by
  have hne : id' ≠ id := Nat.ne_of_beq_eq_false h
  simp only [Exit.inBlock, hne, if_false]
  exact k a ha
end
end Go.Ph
