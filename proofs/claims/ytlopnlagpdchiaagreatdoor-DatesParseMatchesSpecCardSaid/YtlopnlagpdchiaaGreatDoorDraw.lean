/-
  Regions that draw their order. No program in sight.
-/
import Derived.Test.YtlopnlagpdchiaaGreatDoorHeap
import Derived.OrdersIn
set_option linter.unusedVariables false
set_option linter.unusedSimpArgs false
namespace Go.Ph
open Go Go.RowKit

/-- no panic is asked for -/
def noP (Q : Exit → Act → World → Prop) : Exit → Act → World → Prop
  | .panic _, _, _ => False
  | x, a, w => Q x a w
theorem noP_le {Q : Exit → Act → World → Prop} {x : Exit} {a : Act} {w : World} (h : noP Q x a w) : Q x a w := by
  cases x <;> first | exact h | exact h.elim

def WA (r : Option Nat) (P : Program) (ops : Array Oper) (Q : Exit → Act → World → Prop) (n : Nat) (D : List Deferred) (fuel : Nat) (listed : Array Bool) (e : Env) (w : World) : Prop :=
  ∀ a, Sat n D e a → wpAnyIn (Wd r) 0 P .any ops (noP Q) fuel listed a w
/-- what is asked behind one operation -/
abbrev Qa (r : Option Nat) (P : Program) (ops : Array Oper) (Q : Exit → Act → World → Prop) (fuel : Nat) (listed : Array Bool) : Exit → Act → World → Prop :=
  Exit.then (wpAnyIn (Wd r) 0 P .any ops (noP Q) fuel listed) (noP Q)

section
variable {C : Nat → Prop} {r : Option Nat} {P : Program} {ops : Array Oper} {Q : Exit → Act → World → Prop} {n fuel i j k : Nat} {D : List Deferred} {e : Env} {w0 w : World} {M0 M : Mem} {L : List Item} {listed : Array Bool} {o o2 o3 : Oper} {v : Value} {d : Nat}

theorem grownBy_drawn (w : World) : w.grownBy { w with drawn := w.drawn + 1 } none := ⟨rfl, rfl, rfl, Nat.le_refl _, fun _ _ _ => rfl⟩

theorem WC.draw {id m : Nat} {l : List Oper} (hm : P.follows .mixedOrders = true) (hl : l.length = m) (H : StX C w0 M0 M L w)
    (k : ∀ w', StX C w0 M0 M L w' → WA r P l.toArray Q n D m (Array.replicate m false) e w') : WC r P Q n D (.region id l.toArray true) e w := fun a ha => by
  refine wpIn_mono (wpIn_region_any hm ?_ : (Code.region id l.toArray true).wpIn (Wd r) 0 P (noP Q) a w) (fun _ _ _ => noP_le)
  have := k _ (H.grow (grownBy_drawn w)) a ha
  subst hl
  simpa using this

theorem WQ.any (k : WA r P ops Q n D fuel listed e w) : WQ (Qa r P ops Q fuel listed) .normal n D e w := fun a ha => k a ha
theorem WA.done (hr : Region.ready .any ops listed = []) (k : WQ Q .normal n D e w) : WA r P ops Q n D fuel listed e w := fun a ha => wpAnyIn_done (Q := noP Q) hr (k a ha) fuel

theorem WA.op (ho : ops[i]? = some o) (k : WR r P ops (Qa r P ops Q fuel listed) n D [o] e w) {a : Act} (ha : Sat n D e a) : wpOpIn (Wd r) 0 P ops (noP Q) i (wpAnyIn (Wd r) 0 P .any ops (noP Q) fuel listed) a w := by
  have h := k a ha
  unfold wpOpIn
  rw [ho]
  simp only [wpListIn] at h ⊢
  exact h

theorem WA.one (hr : Region.ready .any ops listed = [i]) (ho : ops[i]? = some o) (k : WR r P ops (Qa r P ops Q fuel (listed.setIfInBounds i true)) n D [o] e w) : WA r P ops Q n D (fuel + 1) listed e w := fun a ha =>
  wpAnyIn_all hr (by simp) fun x hx => by
    obtain rfl : x = i := by simpa using hx
    exact WA.op ho k ha
theorem WA.two (hr : Region.ready .any ops listed = [i, j]) (ho : ops[i]? = some o) (ho2 : ops[j]? = some o2) (k : WR r P ops (Qa r P ops Q fuel (listed.setIfInBounds i true)) n D [o] e w) (k2 : WR r P ops (Qa r P ops Q fuel (listed.setIfInBounds j true)) n D [o2] e w) : WA r P ops Q n D (fuel + 1) listed e w := fun a ha =>
  wpAnyIn_all hr (by simp) fun x hx => by
    rcases List.mem_cons.1 hx with rfl | hx
    · exact WA.op ho k ha
    · obtain rfl : x = j := by simpa using hx
      exact WA.op ho2 k2 ha
theorem WA.three (hr : Region.ready .any ops listed = [i, j, k]) (ho : ops[i]? = some o) (ho2 : ops[j]? = some o2) (ho3 : ops[k]? = some o3) (k1 : WR r P ops (Qa r P ops Q fuel (listed.setIfInBounds i true)) n D [o] e w) (k2 : WR r P ops (Qa r P ops Q fuel (listed.setIfInBounds j true)) n D [o2] e w) (k3 : WR r P ops (Qa r P ops Q fuel (listed.setIfInBounds k true)) n D [o3] e w) : WA r P ops Q n D (fuel + 1) listed e w := fun a ha =>
  wpAnyIn_all hr (by simp) fun x hx => by
    rcases List.mem_cons.1 hx with rfl | hx
    · exact WA.op ho k1 ha
    · rcases List.mem_cons.1 hx with rfl | hx
      · exact WA.op ho2 k2 ha
      · obtain rfl : x = k := by simpa using hx
        exact WA.op ho3 k3 ha

theorem wanted_g {j t : Nat} {b : Bool} (hg : o.guard = some (j, !b)) (hj : (ops[j]?).bind (·.dst) = some t) (hb : get e t = some (.bool b)) : ∀ a, Sat n D e a → Region.wanted o (yielded ops a.tmps) = false := fun a ha => by
  have := yielded_of hj ha hb
  cases b <;> simp [Region.wanted, hg, this]
theorem wanted_u {j t : Nat} {b : Bool} (hg : o.guard = some (j, b)) (hj : (ops[j]?).bind (·.dst) = some t) (hb : get e t = some undef) : ∀ a, Sat n D e a → Region.wanted o (yielded ops a.tmps) = false := fun a ha => by
  have h := ha.val t _ hb
  have : yielded ops a.tmps j = none := by
    unfold yielded
    rw [hj]
    simp only [Option.bind_some]
    cases ht : a.tmps[t]? with
    | none => rfl
    | some x => simp [ht] at h; subst h; rfl
  simp [Region.wanted, hg, this]
/-- what is not wanted comes first -/
theorem WA.takeN (ho : ops[i]? = some o) (hs : Region.noSelect ops = true) (hf : Region.free .any ops listed i = true) (hr : (Region.ready .any ops listed).contains i = true) (hw : ∀ a, Sat n D e a → Region.wanted o (yielded ops a.tmps) = false) (hd : o.dst = some d) (hn : Nat.blt d n = true)
    (hab : ∀ w ρ, o.about P w ρ = none) (k : WA none P ops Q n D fuel (listed.setIfInBounds i true) ((d, undef) :: e) w) : WA none P ops Q n D (fuel + 1) listed e w := fun a ha => by
  refine wpAnyIn_take (oi := o) (v := undef) rfl ho hs hf hr (fun _ _ _ h => h) ⟨.inr ⟨hw a ha, rfl⟩, fun w => hab w _⟩ ?_
  rw [hd]
  exact k _ (ha.put (Nat.le_of_ble_eq_true hn) undef)
/-- what does not look at the heap comes first -/
theorem WA.take (ho : ops[i]? = some o) (hs : Region.noSelect ops = true) (hf : Region.free .any ops listed i = true) (hr : (Region.ready .any ops listed).contains i = true) (hx : ∀ w, Ex P o e w v w) (hw : Wn ops n D e o) (hd : o.dst = some d) (hn : Nat.blt d n = true)
    (hab : ∀ w ρ, o.about P w ρ = none) (k : WA none P ops Q n D fuel (listed.setIfInBounds i true) ((d, v) :: e) w) : WA none P ops Q n D (fuel + 1) listed e w := fun a ha => by
  refine wpAnyIn_take (oi := o) (v := v) rfl ho hs hf hr (fun _ _ _ h => h) ⟨.inl ⟨hw a ha, fun w => (hx w).2 _ ha.fits⟩, fun w => hab w _⟩ ?_
  rw [hd]
  exact k _ (ha.put (Nat.le_of_ble_eq_true hn) v)
/-- an element's place in a slice that is read comes first -/
theorem WA.takeIdx {α : Type} {enc : α → Value} {lst : List α} {ix : Nat} {el : α} {k' : IntKind} {sl : Value} {t t' ty : TypeId} {x y : Operand} {pos : String} {af : Array Edge} {g : Option (Nat × Bool)} (ho : ops[i]? = some ⟨some d, .indexAddr t x y, ty, pos, af, g⟩)
    (hs : Region.noSelect ops = true) (hf : Region.free .any ops listed i = true) (hr : (Region.ready .any ops listed).contains i = true) (ht : P.underlying t = some (.slice t')) (hz : ∀ w, (sizeOf t').run P w = .ok 1 w) (h : Sl M enc sl lst) (hx : ev e x = some sl) (hy : ev e y = some (.int k' (ix : Int))) (hi : lst[ix]? = some el)
    (hw : Wn ops n D e ⟨some d, .indexAddr t x y, ty, pos, af, g⟩) (hn : Nat.blt d n = true) (k : ∀ p, CellM M p (enc el) → WA none P ops Q n D fuel (listed.setIfInBounds i true) ((d, .pointer (some p)) :: e) w) : WA none P ops Q n D (fuel + 1) listed e w := by
  obtain ⟨b, o, c, rfl, hc⟩ := h.addr hi
  have hlt := (List.getElem?_eq_some_iff.1 hi).1
  refine WA.take (v := ptr b (o + ix)) ho hs hf hr (fun w => ⟨nofun, fun ρ hfi => ?_⟩) hw rfl hn (fun _ _ => rfl) (k _ hc)
  have h0 : (0 : Int) ≤ (ix : Int) ∧ (ix : Int) < (lst.length : Int) := by omega
  simp only [execOp, hfi _ _ hx, hfi _ _ hy, Instr.indexAt, Sem.run_bind, asIntOf, run_underlying ht, Result.andThen_ok, Sem.run_pure, hz, h0, and_self, if_true, Addr.add_lit, Int.toNat_natCast, Nat.mul_one]
theorem WA.takeE {v' : Value} (ho : ops[i]? = some o) (hs : Region.noSelect ops = true) (hf : Region.free .any ops listed i = true) (hr : (Region.ready .any ops listed).contains i = true) (hx : ∀ w, Ex P o e w v w) (hv : v = v') (hw : Wn ops n D e o) (hd : o.dst = some d) (hn : Nat.blt d n = true)
    (hab : ∀ w ρ, o.about P w ρ = none) (k : WA none P ops Q n D fuel (listed.setIfInBounds i true) ((d, v') :: e) w) : WA none P ops Q n D (fuel + 1) listed e w := by
  subst hv; exact WA.take ho hs hf hr hx hw hd hn hab k
theorem WA.takeT {p : Prop} [Decidable p] (ho : ops[i]? = some o) (hs : Region.noSelect ops = true) (hf : Region.free .any ops listed i = true) (hr : (Region.ready .any ops listed).contains i = true) (hx : ∀ w, Ex P o e w (.bool (decide p)) w) (h : p) (hw : Wn ops n D e o) (hd : o.dst = some d) (hn : Nat.blt d n = true)
    (hab : ∀ w ρ, o.about P w ρ = none) (k : WA none P ops Q n D fuel (listed.setIfInBounds i true) ((d, .bool true) :: e) w) : WA none P ops Q n D (fuel + 1) listed e w :=
  WA.takeE ho hs hf hr hx (by rw [decide_eq_true h]) hw hd hn hab k
theorem WA.takeF {p : Prop} [Decidable p] (ho : ops[i]? = some o) (hs : Region.noSelect ops = true) (hf : Region.free .any ops listed i = true) (hr : (Region.ready .any ops listed).contains i = true) (hx : ∀ w, Ex P o e w (.bool (decide p)) w) (h : ¬ p) (hw : Wn ops n D e o) (hd : o.dst = some d) (hn : Nat.blt d n = true)
    (hab : ∀ w ρ, o.about P w ρ = none) (k : WA none P ops Q n D fuel (listed.setIfInBounds i true) ((d, .bool false) :: e) w) : WA none P ops Q n D (fuel + 1) listed e w :=
  WA.takeE ho hs hf hr hx (by rw [decide_eq_false h]) hw hd hn hab k
theorem WA.split {p : Prop} [Decidable p] (ho : ops[i]? = some o) (hs : Region.noSelect ops = true) (hf : Region.free .any ops listed i = true) (hr : (Region.ready .any ops listed).contains i = true) (hx : ∀ w, Ex P o e w (.bool (decide p)) w) (hw : Wn ops n D e o) (hd : o.dst = some d) (hn : Nat.blt d n = true)
    (hab : ∀ w ρ, o.about P w ρ = none) (kt : p → WA none P ops Q n D fuel (listed.setIfInBounds i true) ((d, .bool true) :: e) w) (kf : ¬ p → WA none P ops Q n D fuel (listed.setIfInBounds i true) ((d, .bool false) :: e) w) : WA none P ops Q n D (fuel + 1) listed e w := by
  by_cases h : p
  · exact WA.takeT ho hs hf hr hx h hw hd hn hab (kt h)
  · exact WA.takeF ho hs hf hr hx h hw hd hn hab (kf h)
end
end Go.Ph
