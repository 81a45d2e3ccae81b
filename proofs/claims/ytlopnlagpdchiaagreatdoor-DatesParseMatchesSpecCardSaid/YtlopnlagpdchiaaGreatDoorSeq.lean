/-
  Regions that draw: runs where one operation is ready at a time, and runs of operations that are not carried out. No program in sight.
-/
import Derived.Test.YtlopnlagpdchiaaGreatDoorMake
set_option linter.unusedVariables false
set_option linter.unusedSimpArgs false
namespace Go.Ph
open Go Go.RowKit
/-- one operation is ready at a time, in this order -/
def chainB (ops : Array Oper) : List Nat → Array Bool → Bool
  | [], _ => true
  | i :: is, l => (Region.ready .any ops l == [i]) && (ops[i]?).isSome && chainB ops is (l.setIfInBounds i true)
def opsAt (ops : Array Oper) : List Nat → List Oper
  | [] => []
  | i :: is => match ops[i]? with
    | some o => o :: opsAt ops is
    | none => []
def finL : List Nat → Array Bool → Array Bool
  | [], l => l
  | i :: is, l => finL is (l.setIfInBounds i true)
def noCall (o : Oper) : Bool := match o.op with
  | .call _ => false
  | _ => true
theorem noCall_about {o : Oper} (h : noCall o = true) (P : Program) (w : World) (ρ : Operand → Value) : o.about P w ρ = none := by
  unfold noCall at h
  unfold Oper.about
  split
  · rename_i c hc; rw [hc] at h; cases h
  · rfl
/-- operations that may be taken first, in this order -/
def freesB (ops : Array Oper) : List Nat → Array Bool → Bool
  | [], _ => true
  | i :: is, l => (match ops[i]? with | some o => noCall o | none => false) && Region.free .any ops l i && (Region.ready .any ops l).contains i && freesB ops is (l.setIfInBounds i true)
section
variable {r : Option Nat} {P : Program} {ops : Array Oper} {Q : Exit → Act → World → Prop} {n fuel : Nat} {D : List Deferred} {e e' : Env} {w : World} {listed : Array Bool}
theorem chain_sound : ∀ (is : List Nat) (listed : Array Bool) (a : Act) (w : World), chainB ops is listed = true → wpListIn (Wd r) 0 P ops (Qa r P ops Q fuel (finL is listed)) (opsAt ops is) a w → wpAnyIn (Wd r) 0 P .any ops (noP Q) (fuel + is.length) listed a w
  | [], listed, a, w, hc, h => h
  | i :: is, listed, a, w, hc, h => by
    rw [chainB, Bool.and_eq_true, Bool.and_eq_true] at hc
    obtain ⟨⟨h1, h2⟩, h3⟩ := hc
    have h1 : Region.ready .any ops listed = [i] := by simpa using h1
    obtain ⟨o, ho⟩ := Option.isSome_iff_exists.1 h2
    rw [opsAt, ho] at h
    refine wpAnyIn_all h1 (by simp) fun x hx => ?_
    obtain rfl : x = i := by simpa using hx
    have h4 : wpOpIn (Wd r) 0 P ops (noP Q) x (wpListIn (Wd r) 0 P ops (Qa r P ops Q fuel (finL (x :: is) listed)) (opsAt ops is)) a w := by
      unfold wpOpIn
      rw [ho]
      simp only [wpListIn] at h ⊢
      exact h
    exact wpOpIn_mono (fun a w hk => chain_sound is (listed.setIfInBounds x true) a w h3 hk) h4
theorem WA.seq (is : List Nat) {f : Nat} (hf : f = fuel + is.length) (hc : chainB ops is listed = true) (k : WR r P ops (Qa r P ops Q fuel (finL is listed)) n D (opsAt ops is) e w) : WA r P ops Q n D f listed e w := fun a ha => by
  subst hf
  exact chain_sound is listed a w hc (k a ha)
theorem skips_one {o : Oper} (h : skips ops n e [o] = some e') : ∃ d, o.dst = some d ∧ d < n ∧ e' = (d, undef) :: e ∧ ∀ D a, Sat n D e a → Region.wanted o (yielded ops a.tmps) = false := by
  rw [skips] at h
  split at h
  case h_2 => cases h
  rename_i j b d hg hd
  split at h
  case h_2 => cases h
  rename_i t ht
  split at h
  · rename_i b' hb
    cases hc : ((b' != b) && Nat.blt d n) with
    | false => rw [hc] at h; cases h
    | true =>
      rw [hc] at h
      rw [Bool.and_eq_true] at hc
      have hne : b' ≠ b := by simpa using hc.1
      rw [cond_true, skips] at h
      exact ⟨d, hd, Nat.le_of_ble_eq_true hc.2, (Option.some.inj h).symm, fun D a ha => by
        have := yielded_of ht ha hb
        simp [Region.wanted, hg, this, hne]⟩
  · rename_i xs hb
    cases hc : Nat.blt d n with
    | false => rw [hc] at h; cases h
    | true =>
      rw [hc] at h
      rw [cond_true, skips] at h
      exact ⟨d, hd, Nat.le_of_ble_eq_true hc, (Option.some.inj h).symm, fun D a ha => by
        have hv := ha.val t _ hb
        have : yielded ops a.tmps j = none := by
          unfold yielded
          rw [ht]
          simp only [Option.bind_some]
          cases htt : a.tmps[t]? with
          | none => rfl
          | some x => simp [htt] at hv; subst hv; rfl
        simp [Region.wanted, hg, this]⟩
  · cases h
theorem skips_cons {o : Oper} {l : List Oper} (h : skips ops n e (o :: l) = some e') : ∃ e1, skips ops n e [o] = some e1 ∧ skips ops n e1 l = some e' := by
  rw [skips] at h
  split at h
  case h_2 => cases h
  rename_i j b d hg hd
  split at h
  case h_2 => cases h
  rename_i t ht
  split at h
  · rename_i b' hb
    cases hc : ((b' != b) && Nat.blt d n) with
    | false => rw [hc] at h; cases h
    | true =>
      rw [hc, cond_true] at h
      refine ⟨_, ?_, h⟩
      rw [skips, hg, hd]
      simp only [ht, hb, hc, cond_true]
      rfl
  · rename_i xs hb
    cases hc : Nat.blt d n with
    | false => rw [hc] at h; cases h
    | true =>
      rw [hc, cond_true] at h
      refine ⟨_, ?_, h⟩
      rw [skips, hg, hd]
      simp only [ht, hb, hc, cond_true]
      rfl
  · cases h
theorem takes_sound (hs : Region.noSelect ops = true) : ∀ (is : List Nat) (e : Env) (listed : Array Bool), freesB ops is listed = true → skips ops n e (opsAt ops is) = some e' → WA none P ops Q n D fuel (finL is listed) e' w → WA none P ops Q n D (fuel + is.length) listed e w
  | [], e, listed, _, h, k => by cases h; exact k
  | i :: is, e, listed, hf, h, k => by
    rw [freesB, Bool.and_eq_true, Bool.and_eq_true, Bool.and_eq_true] at hf
    obtain ⟨⟨⟨h1, h2⟩, h3⟩, h4⟩ := hf
    cases ho : ops[i]? with
    | none => rw [ho] at h1; cases h1
    | some o =>
      rw [ho] at h1
      rw [opsAt, ho] at h
      obtain ⟨e1, g1, g2⟩ := skips_cons h
      obtain ⟨d, hd, hn, rfl, hw⟩ := skips_one g1
      exact WA.takeN ho hs h2 h3 (hw D) hd (Nat.ble_eq_true_of_le hn) (fun w ρ => noCall_about h1 P w ρ) (takes_sound hs is _ _ h4 g2 k)
theorem WA.takes (is : List Nat) {f : Nat} (hf : f = fuel + is.length) (hs : Region.noSelect ops = true) (hc : freesB ops is listed = true) (h : Ph.skips ops n e (opsAt ops is) = some e') (k : WA none P ops Q n D fuel (finL is listed) e' w) : WA none P ops Q n D f listed e w := by
  subst hf
  exact takes_sound hs is e listed hc h k
end
section
variable {P : Program} {e : Env} {w : World} {x y : Operand} {dst : Option Tmp} {ty t t' : TypeId} {pos : String} {af : Array Edge} {g : Option (Nat × Bool)} {a b : Bool}
theorem beq_dec (a b : Bool) : (a == b) = decide (a = b) := by cases a <;> cases b <;> rfl
theorem Ex.eqlBo (ht : P.underlying t = some .bool) (h1 : ev e x = some (.bool a)) (h2 : ev e y = some (.bool b)) : Ex P ⟨dst, .binOp .eql t x y t', ty, pos, af, g⟩ e w (.bool (decide (a = b))) w :=
  ⟨nofun, fun ρ hf => by simp [execOp, hf _ _ h1, hf _ _ h2, run_eql_bool _ t a b ht, eqGuard, beq_dec]⟩
theorem Ex.neqBo (ht : P.underlying t = some .bool) (h1 : ev e x = some (.bool a)) (h2 : ev e y = some (.bool b)) : Ex P ⟨dst, .binOp .neq t x y t', ty, pos, af, g⟩ e w (.bool (!decide (a = b))) w :=
  ⟨nofun, fun ρ hf => by simp [execOp, hf _ _ h1, hf _ _ h2, run_neq_bool _ t a b ht, eqGuard, beq_dec]⟩
end
end Go.Ph
