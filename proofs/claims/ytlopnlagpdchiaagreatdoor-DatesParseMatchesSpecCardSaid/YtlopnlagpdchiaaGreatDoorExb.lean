/-
  Cuts that are left by exits too; rows that a conversion has made; function values; rows of records. No program in sight.
-/
import Derived.Test.YtlopnlagpdchiaaGreatDoorExt
set_option linter.unusedVariables false
set_option linter.unusedSimpArgs false
namespace Go.Ph
open Go Go.RowKit Pl
/-! ### cuts -/
def lk : List (Nat × (Env → World → Prop)) → Nat → Option (Env → World → Prop)
  | [], _ => none
  | (j, J) :: l, i => bif Nat.beq i j then some J else lk l i
def CutX (JN : Env → World → Prop) (JL : List (Nat × (Env → World → Prop))) (n : Nat) (D : List Deferred) (Q : Exit → Act → World → Prop) : Exit → Act → World → Prop
  | .normal, a, w => ∃ e', Sat n D e' a ∧ JN e' w
  | .exit id, a, w => match lk JL id with
    | some J => ∃ e', Sat n D e' a ∧ J e' w
    | none => Q (.exit id) a w
  | x, a, w => Q x a w
def AllX (Q : Exit → Act → World → Prop) (n : Nat) (D : List Deferred) : List (Nat × (Env → World → Prop)) → Prop
  | [] => True
  | (k, J) :: l => (∀ e' w', J e' w' → WQ Q (.exit k) n D e' w') ∧ AllX Q n D l
section
variable {r : Option Nat} {P : Program} {Q : Exit → Act → World → Prop} {n : Nat} {D : List Deferred} {e : Env} {w : World} {JL : List (Nat × (Env → World → Prop))} {JN : Env → World → Prop}
theorem AllX.at {i : Nat} {J : Env → World → Prop} : ∀ {JL : List (Nat × (Env → World → Prop))}, AllX Q n D JL → lk JL i = some J → ∀ e' w', J e' w' → WQ Q (.exit i) n D e' w'
  | [], _, h => by cases h
  | (j, K) :: l, ha, h => by
    unfold lk at h
    cases hb : Nat.beq i j with
    | true =>
      rw [hb] at h
      have hij : i = j := Nat.eq_of_beq_eq_true hb
      subst hij
      have hk : K = J := Option.some.inj h
      subst hk
      exact ha.1
    | false => rw [hb] at h; exact AllX.at ha.2 h
theorem WC.cutX {x : Code} (JN : Env → World → Prop) (JL : List (Nat × (Env → World → Prop))) (hx : WC r P (CutX JN JL n D Q) n D x e w) (hy : ∀ e' w', JN e' w' → WQ Q .normal n D e' w') (hz : AllX Q n D JL) : WC r P Q n D x e w :=
  fun a ha => wpIn_mono (hx a ha) fun ex a' w' h => by
    cases ex with
    | normal => obtain ⟨e', hs, hJ⟩ := h; exact hy e' w' hJ a' hs
    | exit id =>
      simp only [CutX] at h
      split at h
      · rename_i J hJ
        obtain ⟨e', hs, h1⟩ := h
        exact hz.at hJ e' w' h1 a' hs
      · exact h
    | _ => exact h
theorem WQ.meetN {Q' : Exit → Act → World → Prop} (e' : Env) (hs : Sub e' e) (hJ : JN e' w) : WQ (CutX JN JL n D Q') .normal n D e w := fun _ ha => ⟨e', ha.sub hs, hJ⟩
theorem WQ.meetX {Q' : Exit → Act → World → Prop} {id : Nat} {J : Env → World → Prop} (hl : lk JL id = some J) (e' : Env) (hs : Sub e' e) (hJ : J e' w) : WQ (CutX JN JL n D Q') (.exit id) n D e w := fun a ha => by
  simp only [CutX, hl]
  exact ⟨e', ha.sub hs, hJ⟩
theorem WQ.cutRet {Q' : Exit → Act → World → Prop} (k : WQ Q' .ret n D e w) : WQ (CutX JN JL n D Q') .ret n D e w := fun a ha => k a ha
theorem WQ.no {Q' : Exit → Act → World → Prop} {x : Exit} (h : False) : WQ Q' x n D e w := h.elim
end
/-! ### scopes -/
def Straight (Q : Exit → Act → World → Prop) : Exit → Act → World → Prop
  | .goto _, _, _ => False
  | x, a, w => Q x a w
section
variable {r : Option Nat} {P : Program} {Q : Exit → Act → World → Prop} {n : Nat} {D : List Deferred} {e : Env} {w : World}
theorem stepR_scope' {b : Frame} {a : Act} {k : List Go.Item} {cs : List Frame} {c : Code} : step P (lone (b.atR a (.code (.scope c) :: k)) cs w) = .next (lone (b.atR a (.code c :: .inScope c :: k)) cs w) := step_lone_go (by simp [stepG, stepG.exec, Frame.atR])
theorem stepR_inScope' {b : Frame} {a : Act} {k : List Go.Item} {cs : List Frame} {c : Code} : step P (lone (b.atR a (.inScope c :: k)) cs w) = .next (lone (b.atR a k) cs w) := step_lone_go (by simp [stepG, stepG.exec, Frame.atR])
theorem WC.scope {c : Code} (h : WC r P (Straight Q) n D c e w) : WC r P Q n D (.scope c) e w := by
  intro a ha b k cs hro hb hr
  have h0 : (lone (b.atR a (.code (.scope c) :: k)) cs w).fenced P (Wd r) := fenced_calm hb hr rfl
  obtain ⟨ex, a₁, w₁, hq, harr⟩ := h a ha b (.inScope c :: k) cs hro hb hr
  cases ex with
  | normal => exact ⟨.normal, a₁, w₁, hq, .head h0 stepR_scope' (StepsIn.trans harr (.one (fenced_calm hb hr rfl) stepR_inScope'))⟩
  | exit id =>
    have hx : exitTo id (.inScope c :: k) = exitTo id k := by simp [exitTo]
    exact ⟨.exit id, a₁, w₁, hq, fun k' hk => .head h0 stepR_scope' (harr.1 k' (by rw [hx]; exact hk)),
      fun hr' hk => let ⟨k₁, h1, h2⟩ := harr.2 hr' (by rw [hx]; exact hk); ⟨k₁, h1, .head h0 stepR_scope' h2⟩⟩
  | goto l => exact hq.elim
  | ret => exact ⟨_, a₁, w₁, hq, .of_steps (.one h0 stepR_scope') harr⟩
  | panic ch => exact ⟨_, a₁, w₁, hq, .of_steps (.one h0 stepR_scope') harr⟩
  | outgrown => exact ⟨_, a₁, w₁, hq, .of_steps (.one h0 stepR_scope') harr⟩
theorem WC.label {l : Nat} (k : WQ Q .normal n D e w) : WC r P Q n D (.label l) e w := fun a ha => wpIn_label (k a ha)
theorem WQ.sc (k : WQ Q .normal n D e w) : WQ (Straight Q) .normal n D e w := fun a ha => k a ha
theorem WQ.scRet (k : WQ Q .ret n D e w) : WQ (Straight Q) .ret n D e w := fun a ha => k a ha
theorem WQ.scExit {id : Nat} (k : WQ Q (.exit id) n D e w) : WQ (Straight Q) (.exit id) n D e w := fun a ha => k a ha
end
/-! ### rows that a conversion of a string has made -/
def SOK (M : Mem) (l : List UInt8) (nn cap : Nat) : Prop := l.length = nn ∧ nn ≤ cap ∧ cap ≤ maxLen
theorem SOK.mono {M M' : Mem} {l : List UInt8} {nn cap : Nat} (h : SOK M l nn cap) (hl : M.le M') : SOK M' l nn cap := h
theorem SOK.put {M : Mem} {l l2 : List UInt8} {nn cap : Nat} {i : Int} {c : UInt8} (h : SOK M l nn cap) (hp : put l i c = some l2) : SOK M l2 nn cap := by
  obtain ⟨_, rfl⟩ := put_some hp
  exact ⟨by rw [List.length_set]; exact h.1, h.2⟩
section
variable {C : Nat → Prop} {r : Option Nat} {P : Program} {ops : Array Oper} {Q : Exit → Act → World → Prop} {n : Nat} {D : List Deferred} {rest : List Oper} {e : Env} {w0 w : World} {M0 M : Mem} {L L' : List Item} {d : Nat} {v u z : Value}
  {x y : Operand} {ty t t' te ts tt : TypeId} {pos : String} {af : Array Edge} {g : Option (Nat × Bool)} {dst : Option Tmp} {l l2 m : List UInt8} {gb cap nn : Nat}
theorem WR.toBytesC {d0 : TypeDesc} (H : StX C w0 M0 M L w) (hs : P.underlying t = some d0) (hd : P.underlying t' = some (.slice te)) (he : P.underlying te = some (.int .u8)) (hx : ev e x = some (S l)) (hl : toB l = some m)
    (hw : Wn ops n D e ⟨some d, .convert t t' x, ty, pos, af, g⟩) (hn : Nat.blt d n = true)
    (k : ∀ gb cap w', SOK M m m.length cap → StX C w0 M0 M (SRow gb cap te m :: L) w' → WR r P ops Q n D rest ((d, .slice (some ⟨gb, 0, none⟩) m.length cap) :: e) w') : WR r P ops Q n D (⟨some d, .convert t t' x, ty, pos, af, g⟩ :: rest) e w := by
  obtain ⟨h, rfl⟩ := toB_some hl
  exact WR.toBytes H hs hd he hx (by simp only [maxLen]; exact h) hw hn fun gb cap w' h1 h2 H' => k gb cap w' ⟨rfl, h1, h2⟩ H'
theorem Ex.lenSOK (ht : P.underlying t = some (.slice t')) (h : SOK M l nn cap) (hx : ev e x = some (.slice (some ⟨gb, 0, none⟩) nn cap)) : Ex P ⟨dst, .call ⟨.builtin .len, #[x], #[t]⟩, ty, pos, af, g⟩ e w (I l.length) w := by
  rw [h.1]; exact Ex.lenSlice ht hx
theorem Ex.idxSC {i : Int} {a : UInt8} {k' : IntKind} (ht : P.underlying t = some (.slice te)) (hz : ∀ w, (sizeOf te).run P w = .ok 1 w) (h : SOK M l nn cap) (hx : ev e x = some (.slice (some ⟨gb, 0, none⟩) nn cap)) (hy : ev e y = some (.int k' i)) (hi : idx l i = some a) : Ex P ⟨dst, .indexAddr t x y, ty, pos, af, g⟩ e w (ptr gb i.toNat) w := by
  have h1 := idx_lt hi
  have h2 := h.1
  exact Ex.idxS ht hz hx (by rw [hy, Int.toNat_of_nonneg h1.1]) (by omega)
theorem Ex.loadSC {i : Int} {a : UInt8} (H : StX C w0 M0 M L w) (hx : ev e x = some (ptr gb i.toNat)) (hm : SRow gb cap t l ∈ L) (hi : idx l i = some a) (ha : ∀ w, (isAgg tt).run P w = .ok false w) : Ex P ⟨dst, .load tt x, ty, pos, af, g⟩ e w (encB a) w := Ex.loadS H hx hm (idx_some hi).2 ha
theorem WR.storeSC {i : Int} {c : UInt8} {L' : Item → List Item} (H : StX C w0 M0 M L w) (hx : ev e x = some (ptr gb i.toNat)) (hy : ev e y = some (encB c)) (h : SOK M l nn cap) (hu : ∀ it', Upd L (SRow gb cap t l) it' (L' it')) (hi : put l i c = some l2) (hs : ∀ w, (sizeOf tt).run P w = .ok 1 w)
    (hw : Wn ops n D e ⟨none, .store tt x y, ty, pos, af, g⟩) (k : ∀ w', SOK M l2 nn cap → StX C w0 M0 M (L' (SRow gb cap t l2)) w' → WR r P ops Q n D rest e w') : WR r P ops Q n D (⟨none, .store tt x y, ty, pos, af, g⟩ :: rest) e w := by
  have hok := h.put hi
  obtain ⟨h0, rfl⟩ := put_some hi
  exact WR.storeS H hx hy (hu _) (by omega) (by have := h.1; have := h.2.1; omega) hs hw (fun w' H' => k w' hok H')
theorem StX.freezeSC (H : St w0 M0 M L w) (hr : Rem L (SRow gb cap t l) L') (h : SOK M l nn cap) : ∃ M', M.le M' ∧ Bs M' (.slice (some ⟨gb, 0, none⟩) nn cap) l ∧ St w0 M0 M' L' w := by
  obtain ⟨rfl, h1, h2⟩ := h
  exact H.freezeS hr (H.sbase hr.mem) h1 h2
/-! ### function values -/
def FnV (P : Program) (M : Mem) (v : Value) (args : List Value) (R : Value → Mem → Prop) : Prop := ∃ f cap, v = .func (.func f) #[] (List.toArray cap) ∧ Ct P f (args ++ cap) (fun M' => M.le M') R
theorem FnV.mono {M' : Mem} {args : List Value} {R : Value → Mem → Prop} (h : FnV P M v args R) (hl : M.le M') : FnV P M' v args R := by
  obtain ⟨f, cap, h1, h2⟩ := h
  exact ⟨f, cap, h1, h2.enters, fun w M'' ha hp => h2.calls w M'' ha (hl.trans hp)⟩
theorem FnV.of {f : FuncId} {args : List Value} {Pre : Mem → Prop} {R : Value → Mem → Prop} (h : Ct P f args Pre R) (hp : ∀ M', M.le M' → Pre M') : FnV P M (.func (.func f) #[] #[]) args R :=
  ⟨f, [], rfl, by rw [List.append_nil]; exact ⟨h.enters, fun w M'' ha hm => h.calls w M'' ha (hp M'' hm)⟩⟩
theorem FnV.ofCap {f : FuncId} {args : List Value} {Pre : Mem → Prop} {R : Value → Mem → Prop} (cap : List Value) (h : Ct P f (args ++ cap) Pre R) (hp : ∀ M', M.le M' → Pre M') : FnV P M (.func (.func f) #[] (List.toArray cap)) args R :=
  ⟨f, cap, rfl, h.enters, fun w M'' ha hm => h.calls w M'' ha (hp M'' hm)⟩
theorem WR.callF {as : List Operand} {vs : List Value} {tys : Array TypeId} {R : Value → Mem → Prop} (H : StX C w0 M0 M L w) (hs : FnV P M v vs R) (hx : ev e x = some v) (ha : evs e as = some vs)
    (hw : Wn ops n D e ⟨some d, .call ⟨.value x, as.toArray, tys⟩, ty, pos, af, g⟩) (hn : Nat.blt d n = true)
    (k : ∀ v M' w', StX C w0 M0 M' L w' → M.le M' → R v M' → WR r P ops Q n D rest ((d, v) :: e) w') :
    WR r P ops Q n D (⟨some d, .call ⟨.value x, as.toArray, tys⟩, ty, pos, af, g⟩ :: rest) e w := by
  obtain ⟨f, cap, rfl, hc⟩ := hs
  exact WR.callV H hc hx ha (Mem.le.refl M) hw hn k
end
end Go.Ph
