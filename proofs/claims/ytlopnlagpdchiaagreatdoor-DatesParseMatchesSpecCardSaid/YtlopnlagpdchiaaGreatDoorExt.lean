/-
  Laws of operations that take the plain equation; cuts and loops over what is known of slots and world. No program in sight.
-/
import Derived.Test.YtlopnlagpdchiaaGreatDoorSet
import Derived.Test.YtlopnlagpdchiaaGreatDoorConv
import Derived.Test.YtlopnlagpdchiaaGreatDoorDraw
import Derived.Test.YtlopnlagpdchiaaGreatDoorStr
import Derived.Test.YtlopnlagpdchiaaGreatDoorPl
set_option linter.unusedVariables false
set_option linter.unusedSimpArgs false
namespace Go.Ph
open Go Go.RowKit Pl
section
variable {r : Option Nat} {P : Program} {Q : Exit → Act → World → Prop} {n : Nat} {D : List Deferred} {e : Env} {w : World}
theorem WC.cutP {x : Code} (J : Env → World → Prop) (hx : WC r P (Exit.then (fun a' w' => ∃ e', Sat n D e' a' ∧ J e' w') Q) n D x e w) (hy : ∀ e' w', J e' w' → WQ Q .normal n D e' w') : WC r P Q n D x e w :=
  fun a ha => wpIn_mono (hx a ha) fun ex a' w' h => by
    cases ex with
    | normal => obtain ⟨e', hs, hJ⟩ := h; exact hy e' w' hJ a' hs
    | _ => exact h
theorem WQ.meetP {J : Env → World → Prop} {Q' : Exit → Act → World → Prop} (e' : Env) (hs : Sub e' e) (hJ : J e' w) :
    WQ (Exit.then (fun a' w' => ∃ e', Sat n D e' a' ∧ J e' w') Q') .normal n D e w := fun _ ha => ⟨e', ha.sub hs, hJ⟩
theorem WC.loopP {c : Code} (J : Nat → Env → World → Prop) (m0 : Nat) (e0 : Env) (hs : Sub e0 e) (h0 : J m0 e0 w)
    (round : ∀ m e w, J m e w → WC r P (Exit.then (fun a' w' => ∃ m' e', Sat n D e' a' ∧ J m' e' w' ∧ m' < m) Q) n D c e w) : WC r P Q n D (.loop c) e w :=
  WC.loop (ι := Nat × Env) (fun p => p.2) (fun p => J p.1 p.2) (fun p => p.1) (m0, e0) hs h0 fun p w hp a ha => wpIn_mono (round p.1 p.2 w hp a ha) fun ex a' w' h => by
    cases ex with
    | normal => obtain ⟨m', e', h1, h2, h3⟩ := h; exact ⟨⟨m', e'⟩, h1, h2, h3⟩
    | _ => exact h
theorem WQ.againP {J : Nat → Env → World → Prop} {m : Nat} {Q' : Exit → Act → World → Prop} (m' : Nat) (e' : Env) (hs : Sub e' e) (hJ : J m' e' w) (hm : m' < m) :
    WQ (Exit.then (fun a' w' => ∃ m' e', Sat n D e' a' ∧ J m' e' w' ∧ m' < m) Q') .normal n D e w := fun _ ha => ⟨m', e', ha.sub hs, hJ, hm⟩
end
abbrev encBo (b : Bool) : Value := .bool b
theorem SlS.nil {α : Type} {kk : Nat} (M : Mem) (enc : α → List Value) (h : ∀ x, (enc x).length = kk) : SlS M kk enc (.slice none 0 0) [] := ⟨h, none, 0, rfl, by simp, ⟨by simp [maxLen], fun _ => rfl⟩, fun h => absurd rfl h⟩
/-- some of the things, in another order -/
inductive Pick : List Item → List Item → Prop
  | nil {L : List Item} : Pick L []
  | cons {L L1 L' : List Item} {it : Item} (h : Rem L it L1) (k : Pick L1 L') : Pick L (it :: L')
theorem Pick.sub {L L' : List Item} (h : Pick L L') : ∀ it ∈ L', it ∈ L := by
  induction h with
  | nil => intro it h; cases h
  | cons h k ih => intro it hit; rcases List.mem_cons.1 hit with rfl | hit
                   · exact h.mem
                   · exact h.sublist.subset (ih it hit)
theorem StX.pick {C : Nat → Prop} {w0 w : World} {M0 M : Mem} {L L' : List Item} (H : StX C w0 M0 M L w) (h : Pick L L') : StX C w0 M0 M L' w := by
  refine ⟨H.ext, fun it hit => H.own it (h.sub it hit), ?_⟩
  have hs := H.sep
  clear H
  induction h with
  | nil => exact List.Pairwise.nil
  | cons h k ih => exact List.pairwise_cons.2 ⟨fun y hy => h.pairs (R := Apart) (fun x y h => h.symm) hs y (k.sub y hy), ih (hs.sublist h.sublist)⟩
theorem of_not_decide {p : Prop} [Decidable p] (h : (!decide p) = true) : ¬ p := by simpa using h
theorem of_not_decide' {p : Prop} [Decidable p] (h : (!decide p) = false) : p := by simpa using h
section
variable {P : Program} {e : Env} {w w' : World} {x y c : Operand} {v u : Value} {dst : Option Tmp} {ty t t' : TypeId} {pos : String} {af : Array Edge} {g : Option (Nat × Bool)} {k : IntKind} {a b z : Int} {l m s : List UInt8}
theorem Ex.addC (h1 : ev e x = some (I a)) (h2 : ev e y = some (I b)) (hz : chk (a + b) = some z) : Ex P ⟨dst, .binOp .add t x y t', ty, pos, af, g⟩ e w (I z) w := by
  obtain ⟨h, rfl⟩ := chk_some hz; exact Ex.add64 h1 h2 h
theorem Ex.subC (h1 : ev e x = some (I a)) (h2 : ev e y = some (I b)) (hz : chk (a - b) = some z) : Ex P ⟨dst, .binOp .sub t x y t', ty, pos, af, g⟩ e w (I z) w := by
  obtain ⟨h, rfl⟩ := chk_some hz; exact Ex.sub64 h1 h2 h
theorem Ex.mulC (h1 : ev e x = some (I a)) (h2 : ev e y = some (I b)) (hz : chk (a * b) = some z) : Ex P ⟨dst, .binOp .mul t x y t', ty, pos, af, g⟩ e w (I z) w := by
  obtain ⟨h, rfl⟩ := chk_some hz; exact Ex.mul64 h1 h2 h
theorem Ex.negC (h1 : ev e x = some (I a)) (hz : chk (-a) = some z) : Ex P ⟨dst, .unOp .neg t x, ty, pos, af, g⟩ e w (I z) w := by
  obtain ⟨h, rfl⟩ := chk_some hz; exact Ex.neg64 h1 h
theorem Ex.quoC (h1 : ev e x = some (I a)) (h2 : ev e y = some (I b)) (hz : quo a b = some z) : Ex P ⟨dst, .binOp .quo t x y t', ty, pos, af, g⟩ e w (I z) w := by
  obtain ⟨h0, h, rfl⟩ := quo_some hz
  have := Ex.quoT (P := P) (w := w) (dst := dst) (ty := ty) (t := t) (t' := t') (pos := pos) (af := af) (g := g) h1 h2 h0
  rwa [i64_in h] at this
theorem Ex.remC (h1 : ev e x = some (I a)) (h2 : ev e y = some (I b)) (hz : rem a b = some z) : Ex P ⟨dst, .binOp .rem t x y t', ty, pos, af, g⟩ e w (I z) w := by
  obtain ⟨h0, rfl⟩ := rem_some hz; exact Ex.remT h1 h2 h0
theorem Ex.convC {d0 : TypeDesc} (hs : P.underlying t = some d0) (hd : P.underlying t' = some (.int .i64)) (h : ev e x = some (.int k a)) (hz : chk a = some z) : Ex P ⟨dst, .convert t t' x, ty, pos, af, g⟩ e w (I z) w := by
  obtain ⟨h0, rfl⟩ := chk_some hz; exact Ex.convI hs hd h h0
/-! bytes -/
theorem wrap_u8_nat (n : Nat) : IntKind.u8.wrap (n : Int) = ((n % 256 : Nat) : Int) := by rw [IntKind.wrap_u8]; omega
theorem Ex.addB {c d : UInt8} (h1 : ev e x = some (encB c)) (h2 : ev e y = some (encB d)) : Ex P ⟨dst, .binOp .add t x y t', ty, pos, af, g⟩ e w (encB (c + d)) w := by
  have := Ex.add (P := P) (w := w) (dst := dst) (ty := ty) (t := t) (t' := t') (pos := pos) (af := af) (g := g) h1 h2
  rwa [show IntKind.u8.wrap ((c.toNat : Int) + (d.toNat : Int)) = (((c + d).toNat : Nat) : Int) by
    rw [show (c.toNat : Int) + (d.toNat : Int) = ((c.toNat + d.toNat : Nat) : Int) by omega, wrap_u8_nat, UInt8.toNat_add]] at this
theorem Ex.subB {c d : UInt8} (h1 : ev e x = some (encB c)) (h2 : ev e y = some (encB d)) : Ex P ⟨dst, .binOp .sub t x y t', ty, pos, af, g⟩ e w (encB (c - d)) w := by
  have := Ex.sub (P := P) (w := w) (dst := dst) (ty := ty) (t := t) (t' := t') (pos := pos) (af := af) (g := g) h1 h2
  have h3 := c.toNat_lt
  have h4 := d.toNat_lt
  rwa [show IntKind.u8.wrap ((c.toNat : Int) - (d.toNat : Int)) = (((c - d).toNat : Nat) : Int) by
    rw [IntKind.wrap_u8, UInt8.toNat_sub]; omega] at this
theorem Ex.divB {c : UInt8} {m : Nat} (h1 : ev e x = some (encB c)) (h2 : ev e y = some (.int .u8 (m : Int))) (hm : m ≠ 0) : Ex P ⟨dst, .binOp .quo t x y t', ty, pos, af, g⟩ e w (encB (UInt8.ofNat (c.toNat / m))) w := by
  have := Ex.quoT (P := P) (w := w) (dst := dst) (ty := ty) (t := t) (t' := t') (pos := pos) (af := af) (g := g) h1 h2 (by omega)
  have h3 := c.toNat_lt
  have h5 : c.toNat / m ≤ c.toNat := Nat.div_le_self _ _
  rwa [show IntKind.u8.wrap ((c.toNat : Int).tdiv (m : Int)) = (((UInt8.ofNat (c.toNat / m)).toNat : Nat) : Int) by
    rw [Int.tdiv_eq_ediv_of_nonneg (Int.natCast_nonneg _), ← Int.natCast_ediv, wrap_u8_nat, UInt8.toNat_ofNat']] at this
theorem Ex.modB {c : UInt8} {m : Nat} (h1 : ev e x = some (encB c)) (h2 : ev e y = some (.int .u8 (m : Int))) (hm : m ≠ 0) : Ex P ⟨dst, .binOp .rem t x y t', ty, pos, af, g⟩ e w (encB (UInt8.ofNat (c.toNat % m))) w := by
  have := Ex.remT (P := P) (w := w) (dst := dst) (ty := ty) (t := t) (t' := t') (pos := pos) (af := af) (g := g) h1 h2 (by omega)
  have h3 := c.toNat_lt
  have h5 : c.toNat % m ≤ c.toNat := Nat.mod_le _ _
  rwa [show (c.toNat : Int).tmod (m : Int) = (((UInt8.ofNat (c.toNat % m)).toNat : Nat) : Int) by
    rw [Int.tmod_eq_emod_of_nonneg (Int.natCast_nonneg _), ← Int.natCast_emod, UInt8.toNat_ofNat', Nat.mod_eq_of_lt (show c.toNat % m < 2 ^ 8 by omega)]] at this
theorem Ex.shrB {c : UInt8} {m : Nat} {k' : IntKind} (h1 : ev e x = some (encB c)) (h2 : ev e y = some (.int k' (m : Int))) (hm : m ≤ 8) : Ex P ⟨dst, .binOp .shr t x y t', ty, pos, af, g⟩ e w (encB (UInt8.ofNat (c.toNat / 2 ^ m))) w := by
  have := Ex.shrN (P := P) (w := w) (dst := dst) (ty := ty) (t := t) (t' := t') (pos := pos) (af := af) (g := g) h1 h2 hm
  have h3 := c.toNat_lt
  have h5 : c.toNat / 2 ^ m ≤ c.toNat := Nat.div_le_self _ _
  rwa [show ((c.toNat / 2 ^ m : Nat) : Int) = (((UInt8.ofNat (c.toNat / 2 ^ m)).toNat : Nat) : Int) by rw [UInt8.toNat_ofNat', Nat.mod_eq_of_lt (by omega)]] at this
theorem Ex.shlB {c : UInt8} {m : Nat} {k' : IntKind} (h1 : ev e x = some (encB c)) (h2 : ev e y = some (.int k' (m : Int))) (hm : m ≤ 8) : Ex P ⟨dst, .binOp .shl t x y t', ty, pos, af, g⟩ e w (encB (UInt8.ofNat (c.toNat * 2 ^ m))) w := by
  have := Ex.shlK (P := P) (w := w) (dst := dst) (ty := ty) (t := t) (t' := t') (pos := pos) (af := af) (g := g) h1 h2 hm
  rwa [show IntKind.u8.wrap ((c.toNat * 2 ^ m : Nat) : Int) = (((UInt8.ofNat (c.toNat * 2 ^ m)).toNat : Nat) : Int) by rw [wrap_u8_nat, UInt8.toNat_ofNat']] at this
theorem Ex.andB {c d : UInt8} (h1 : ev e x = some (encB c)) (h2 : ev e y = some (encB d)) : Ex P ⟨dst, .binOp .and t x y t', ty, pos, af, g⟩ e w (encB (c &&& d)) w := by
  have := Ex.andK (P := P) (w := w) (dst := dst) (ty := ty) (t := t) (t' := t') (pos := pos) (af := af) (g := g) h1 h2 c.toNat_lt d.toNat_lt
  have h3 : c.toNat &&& d.toNat < 256 := Nat.and_lt_two_pow (n := 8) _ d.toNat_lt
  rwa [show IntKind.u8.wrap ((c.toNat &&& d.toNat : Nat) : Int) = (((c &&& d).toNat : Nat) : Int) by rw [wrap_u8_nat, UInt8.toNat_and, Nat.mod_eq_of_lt h3]] at this
theorem Ex.orB {c d : UInt8} (h1 : ev e x = some (encB c)) (h2 : ev e y = some (encB d)) : Ex P ⟨dst, .binOp .or t x y t', ty, pos, af, g⟩ e w (encB (c ||| d)) w := by
  have := Ex.orK (P := P) (w := w) (dst := dst) (ty := ty) (t := t) (t' := t') (pos := pos) (af := af) (g := g) h1 h2 c.toNat_lt d.toNat_lt
  have h3 : c.toNat ||| d.toNat < 256 := Nat.or_lt_two_pow (n := 8) c.toNat_lt d.toNat_lt
  rwa [show IntKind.u8.wrap ((c.toNat ||| d.toNat : Nat) : Int) = (((c ||| d).toNat : Nat) : Int) by rw [wrap_u8_nat, UInt8.toNat_or, Nat.mod_eq_of_lt h3]] at this
theorem Ex.lssB {i j : Nat} (h1 : ev e x = some (.int .u8 (i : Int))) (h2 : ev e y = some (.int .u8 (j : Int))) : Ex P ⟨dst, .binOp .lss t x y t', ty, pos, af, g⟩ e w (.bool (decide (i < j))) w := by
  have := Ex.lss (P := P) (w := w) (dst := dst) (ty := ty) (t := t) (t' := t') (pos := pos) (af := af) (g := g) h1 h2
  rwa [show decide ((i : Int) < (j : Int)) = decide (i < j) from decide_eq_decide.2 (by omega)] at this
theorem Ex.leqB {i j : Nat} (h1 : ev e x = some (.int .u8 (i : Int))) (h2 : ev e y = some (.int .u8 (j : Int))) : Ex P ⟨dst, .binOp .leq t x y t', ty, pos, af, g⟩ e w (.bool (decide (i ≤ j))) w := by
  have := Ex.leq (P := P) (w := w) (dst := dst) (ty := ty) (t := t) (t' := t') (pos := pos) (af := af) (g := g) h1 h2
  rwa [show decide ((i : Int) ≤ (j : Int)) = decide (i ≤ j) from decide_eq_decide.2 (by omega)] at this
theorem Ex.gtrB {i j : Nat} (h1 : ev e x = some (.int .u8 (i : Int))) (h2 : ev e y = some (.int .u8 (j : Int))) : Ex P ⟨dst, .binOp .gtr t x y t', ty, pos, af, g⟩ e w (.bool (decide (j < i))) w := by
  have := Ex.gtr (P := P) (w := w) (dst := dst) (ty := ty) (t := t) (t' := t') (pos := pos) (af := af) (g := g) h1 h2
  rwa [show decide ((j : Int) < (i : Int)) = decide (j < i) from decide_eq_decide.2 (by omega)] at this
theorem Ex.geqB {i j : Nat} (h1 : ev e x = some (.int .u8 (i : Int))) (h2 : ev e y = some (.int .u8 (j : Int))) : Ex P ⟨dst, .binOp .geq t x y t', ty, pos, af, g⟩ e w (.bool (decide (j ≤ i))) w := by
  have := Ex.geq (P := P) (w := w) (dst := dst) (ty := ty) (t := t) (t' := t') (pos := pos) (af := af) (g := g) h1 h2
  rwa [show decide ((j : Int) ≤ (i : Int)) = decide (j ≤ i) from decide_eq_decide.2 (by omega)] at this
theorem u8_eq {c d : UInt8} : ((c.toNat : Int) = (d.toNat : Int)) ↔ c = d := ⟨fun h => UInt8.toNat_inj.1 (by omega), fun h => by rw [h]⟩
theorem Ex.eqlB {c d : UInt8} (h1 : ev e x = some (encB c)) (h2 : ev e y = some (encB d)) : Ex P ⟨dst, .binOp .eql t x y t', ty, pos, af, g⟩ e w (.bool (decide (c = d))) w := by
  have := Ex.eql (P := P) (w := w) (dst := dst) (ty := ty) (t := t) (t' := t') (pos := pos) (af := af) (g := g) h1 h2
  rwa [show decide ((c.toNat : Int) = (d.toNat : Int)) = decide (c = d) from decide_eq_decide.2 u8_eq] at this
theorem Ex.neqB {c d : UInt8} (h1 : ev e x = some (encB c)) (h2 : ev e y = some (encB d)) : Ex P ⟨dst, .binOp .neq t x y t', ty, pos, af, g⟩ e w (.bool (!decide (c = d))) w := by
  have := Ex.neq (P := P) (w := w) (dst := dst) (ty := ty) (t := t) (t' := t') (pos := pos) (af := af) (g := g) h1 h2
  rwa [show decide ((c.toNat : Int) ≠ (d.toNat : Int)) = !decide (c = d) by rw [← decide_not]; exact decide_eq_decide.2 (not_congr u8_eq)] at this
theorem Ex.neqC (h1 : ev e x = some (.int k a)) (h2 : ev e y = some (.int k b)) : Ex P ⟨dst, .binOp .neq t x y t', ty, pos, af, g⟩ e w (.bool (!decide (a = b))) w := by
  have := Ex.neq (P := P) (w := w) (dst := dst) (ty := ty) (t := t) (t' := t') (pos := pos) (af := af) (g := g) h1 h2
  rwa [show decide (a ≠ b) = !decide (a = b) by rw [← decide_not]] at this
theorem Ex.neqAggC {xs ys : Array Value} {p : Prop} [Decidable p] (h1 : ev e x = some (.agg xs)) (h2 : ev e y = some (.agg ys)) (hg : P.eqGuardType P.depth t = false) (hr : ∀ w, (Op.equalIn 10000 t (.agg xs) (.agg ys)).run P w = .ok (decide p) w) : Ex P ⟨dst, .binOp .neq t x y t', ty, pos, af, g⟩ e w (.bool (!decide p)) w := by
  have := Ex.neqAgg (P := P) (w := w) (dst := dst) (ty := ty) (t := t) (t' := t') (pos := pos) (af := af) (g := g) h1 h2 hg hr
  rwa [show decide (¬ p) = !decide p by rw [← decide_not]] at this
theorem Ex.convU8C {d0 : TypeDesc} (hs : P.underlying t = some d0) (hd : P.underlying t' = some (.int .u8)) (h : ev e x = some (.int k a)) : Ex P ⟨dst, .convert t t' x, ty, pos, af, g⟩ e w (encB (ub8 a)) w := Ex.convU8 hs hd h
/-! texts -/
theorem Ex.strNeqC (h1 : ev e x = some (S l)) (h2 : ev e y = some (S m)) : Ex P ⟨dst, .binOp .neq t x y t', ty, pos, af, g⟩ e w (.bool (!decide (l = m))) w := by
  have := Ex.strNeq (P := P) (w := w) (dst := dst) (ty := ty) (t := t) (t' := t') (pos := pos) (af := af) (g := g) h1 h2
  rwa [show decide (l ≠ m) = !decide (l = m) by rw [← decide_not]] at this
theorem Ex.strAddC (h1 : ev e x = some (S l)) (h2 : ev e y = some (S m)) (hs : cat l m = some s) : Ex P ⟨dst, .binOp .add t x y t', ty, pos, af, g⟩ e w (S s) w := by
  obtain ⟨h, rfl⟩ := cat_some hs; exact Ex.strAdd h1 h2 h
theorem Ex.idxStrC {c : UInt8} {i : Int} (ht : P.underlying t = some .string) (h : ev e x = some (S l)) (h2 : ev e y = some (.int k i)) (hi : idx l i = some c) : Ex P ⟨dst, .index t x y, ty, pos, af, g⟩ e w (encB c) w := by
  obtain ⟨h0, hc⟩ := idx_some hi
  exact Ex.idxStr (i := i.toNat) ht h (by rw [h2, Int.toNat_of_nonneg h0]) hc
theorem Ex.sliceC {i j : Int} {o1 o2 : Operand} (ht : P.underlying t = some .string) (h : ev e x = some (S l)) (h1 : ev e o1 = some (I i)) (h2 : ev e o2 = some (I j)) (hs : cut l i j = some s) : Ex P ⟨dst, .slice t x (some o1) (some o2) none, ty, pos, af, g⟩ e w (S s) w := by
  obtain ⟨⟨a1, a2, a3⟩, rfl⟩ := cut_some hs
  exact Ex.sliceStr ht h (.inl ⟨_, rfl, by rw [h1, Int.toNat_of_nonneg a1]⟩) (.inl ⟨_, rfl, by rw [h2, Int.toNat_of_nonneg (by omega)]⟩) (by omega) (by omega)
theorem Ex.sliceCK {k1 k2 : IntKind} {i j : Int} {o1 o2 : Operand} (ht : P.underlying t = some .string) (h : ev e x = some (S l)) (h1 : ev e o1 = some (.int k1 i)) (h2 : ev e o2 = some (.int k2 j)) (hs : cut l i j = some s) : Ex P ⟨dst, .slice t x (some o1) (some o2) none, ty, pos, af, g⟩ e w (S s) w := by
  obtain ⟨⟨b1, b2, b3⟩, rfl⟩ := cut_some hs
  obtain ⟨a, rfl⟩ := Int.eq_ofNat_of_zero_le b1
  obtain ⟨b, rfl⟩ := Int.eq_ofNat_of_zero_le (show 0 ≤ j by omega)
  exact ⟨nofun, fun ρ hf => by
    have a1 : (0 : Int) ≤ (a : Int) ∧ (a : Int) ≤ (b : Int) := by omega
    have a2 : (0 : Int) ≤ (b : Int) ∧ (b : Int) ≤ (l.length : Int) := by omega
    have a3 : a ≤ b := by omega
    have a4 : b ≤ l.length := by omega
    simp [execOp, hf _ _ h, hf _ _ h1, hf _ _ h2, Instr.sliceAt, Instr.slice, Instr.sliceBounds, Instr.sliceBound, asIntOf, Sem.run_bind, run_underlying ht, Result.andThen_ok, Sem.run_pure, size_mk, extract_mk, a3, a4, go_sem]⟩
theorem Ex.sliceL {i : Int} {o1 : Operand} (ht : P.underlying t = some .string) (h : ev e x = some (S l)) (h1 : ev e o1 = some (I i)) (hs : cut l i (l.length : Int) = some s) : Ex P ⟨dst, .slice t x (some o1) none none, ty, pos, af, g⟩ e w (S s) w := by
  obtain ⟨⟨a1, a2, a3⟩, rfl⟩ := cut_some hs
  exact Ex.sliceStr ht h (.inl ⟨_, rfl, by rw [h1, Int.toNat_of_nonneg a1]⟩) (.inr ⟨rfl, rfl⟩) (by omega) (by omega)
theorem Ex.sliceH {j : Int} {o2 : Operand} (ht : P.underlying t = some .string) (h : ev e x = some (S l)) (h2 : ev e o2 = some (I j)) (hs : cut l 0 j = some s) : Ex P ⟨dst, .slice t x none (some o2) none, ty, pos, af, g⟩ e w (S s) w := by
  obtain ⟨⟨a1, a2, a3⟩, rfl⟩ := cut_some hs
  exact Ex.sliceStr ht h (.inr ⟨rfl, rfl⟩) (.inl ⟨_, rfl, by rw [h2, Int.toNat_of_nonneg (by omega)]⟩) (by omega) (by omega)
end
section
variable {C : Nat → Prop} {r : Option Nat} {P : Program} {ops : Array Oper} {Q : Exit → Act → World → Prop} {n : Nat} {D : List Deferred} {rest : List Oper} {e : Env} {w0 w : World} {M0 M : Mem} {L L' : List Item} {d : Nat} {v u z : Value}
  {x y : Operand} {ty t ts t' te : TypeId} {pos : String} {af : Array Edge} {g : Option (Nat × Bool)} {dst : Option Tmp} {α : Type} {enc : α → Value} {l l2 l3 : List α}
theorem WR.idxC {i : Int} {a : α} {k' : IntKind} (ht : P.underlying t = some (.slice t')) (hz : ∀ w, (sizeOf t').run P w = .ok 1 w) (h : Sl M enc v l) (hx : ev e x = some v) (hy : ev e y = some (.int k' i)) (hi : idx l i = some a)
    (hw : Wn ops n D e ⟨some d, .indexAddr t x y, ty, pos, af, g⟩) (hn : Nat.blt d n = true) (k : ∀ p, CellM M p (enc a) → WR r P ops Q n D rest ((d, .pointer (some p)) :: e) w) :
    WR r P ops Q n D (⟨some d, .indexAddr t x y, ty, pos, af, g⟩ :: rest) e w := by
  obtain ⟨h0, hc⟩ := idx_some hi
  exact WR.idxSl (i := i.toNat) ht hz h hx (by rw [hy, Int.toNat_of_nonneg h0]) hc hw hn k
theorem WR.idxCS {kk : Nat} {enc : α → List Value} {i : Int} {a : α} {k' : IntKind} (ht : P.underlying t = some (.slice t')) (hz : ∀ w, (sizeOf t').run P w = .ok kk w) (h : SlS M kk enc v l) (hx : ev e x = some v) (hy : ev e y = some (.int k' i)) (hi : idx l i = some a)
    (hw : Wn ops n D e ⟨some d, .indexAddr t x y, ty, pos, af, g⟩) (hn : Nat.blt d n = true) (k : ∀ b o, CellsM M ⟨b, o, none⟩ (enc a) → WR r P ops Q n D rest ((d, ptr b o) :: e) w) :
    WR r P ops Q n D (⟨some d, .indexAddr t x y, ty, pos, af, g⟩ :: rest) e w := by
  obtain ⟨h0, hc⟩ := idx_some hi
  exact WR.idxSlS (i := i.toNat) ht hz h hx (by rw [hy, Int.toNat_of_nonneg h0]) hc hw hn k
theorem WR.idxRowC {i : Int} {a : α} {k' : IntKind} (H : StX C w0 M0 M L w) (ht : P.underlying ts = some (.slice t')) (hz : ∀ w, (sizeOf t').run P w = .ok 1 w) (hm : RowI t enc v l ∈ L) (hx : ev e x = some v) (hy : ev e y = some (.int k' i)) (hi : idx l i = some a)
    (hw : Wn ops n D e ⟨some d, .indexAddr ts x y, ty, pos, af, g⟩) (hn : Nat.blt d n = true) (k : ∀ gb, v.ownBlock = some gb → WR r P ops Q n D rest ((d, ptr gb i.toNat) :: e) w) :
    WR r P ops Q n D (⟨some d, .indexAddr ts x y, ty, pos, af, g⟩ :: rest) e w := by
  obtain ⟨h0, hc⟩ := idx_some hi
  exact WR.idxRow (i := i.toNat) H ht hz hm hx (by rw [hy, Int.toNat_of_nonneg h0]) hc hw hn k
theorem Ex.loadRowC {tt : TypeId} {gb : Nat} {i : Int} {a : α} (H : StX C w0 M0 M L w) (hx : ev e x = some (ptr gb i.toNat)) (hg : v.ownBlock = some gb) (hm : RowI t enc v l ∈ L) (hi : idx l i = some a) (ha : ∀ w, (isAgg tt).run P w = .ok false w) :
    Ex P ⟨dst, .load tt x, ty, pos, af, g⟩ e w (enc a) w := Ex.loadRow H hx hg hm (idx_some hi).2 ha
theorem WR.storeRowC {tt : TypeId} {gb : Nat} {i : Int} {a : α} {L' : Item → List Item} (H : StX C w0 M0 M L w) (hx : ev e x = some (ptr gb i.toNat)) (hy : ev e y = some (enc a)) (ho : One (enc a)) (hg : v.ownBlock = some gb) (hu : ∀ it', Upd L (RowI t enc v l) it' (L' it')) (hi : put l i a = some l2)
    (hs : ∀ w, (sizeOf tt).run P w = .ok 1 w) (hw : Wn ops n D e ⟨none, .store tt x y, ty, pos, af, g⟩) (k : ∀ w', StX C w0 M0 M (L' (RowI t enc v l2)) w' → WR r P ops Q n D rest e w') :
    WR r P ops Q n D (⟨none, .store tt x y, ty, pos, af, g⟩ :: rest) e w := by
  obtain ⟨h0, rfl⟩ := put_some hi
  exact WR.storeRow H hx hy ho hg hu (by omega) hs hw k
theorem WR.sliceC {i j : Int} {o1 o2 : Operand} (ht : P.underlying t = some (.slice t')) (hz : ∀ w, (sizeOf t').run P w = .ok 1 w) (h : Sl M enc v l) (hx : ev e x = some v) (h1 : ev e o1 = some (I i)) (h2 : ev e o2 = some (I j)) (hs : cut l i j = some l2)
    (hw : Wn ops n D e ⟨some d, .slice t x (some o1) (some o2) none, ty, pos, af, g⟩) (hn : Nat.blt d n = true) (k : ∀ v', Sl M enc v' l2 → WR r P ops Q n D rest ((d, v') :: e) w) :
    WR r P ops Q n D (⟨some d, .slice t x (some o1) (some o2) none, ty, pos, af, g⟩ :: rest) e w := by
  obtain ⟨⟨a1, a2, a3⟩, rfl⟩ := cut_some hs
  exact WR.sliceSl ht hz h hx (.inl ⟨_, rfl, by rw [h1, Int.toNat_of_nonneg a1]⟩) (.inl ⟨_, rfl, by rw [h2, Int.toNat_of_nonneg (by omega)]⟩) (by omega) (by omega) hw hn k
theorem WR.sliceL {i : Int} {o1 : Operand} (ht : P.underlying t = some (.slice t')) (hz : ∀ w, (sizeOf t').run P w = .ok 1 w) (h : Sl M enc v l) (hx : ev e x = some v) (h1 : ev e o1 = some (I i)) (hs : cut l i (l.length : Int) = some l2)
    (hw : Wn ops n D e ⟨some d, .slice t x (some o1) none none, ty, pos, af, g⟩) (hn : Nat.blt d n = true) (k : ∀ v', Sl M enc v' l2 → WR r P ops Q n D rest ((d, v') :: e) w) :
    WR r P ops Q n D (⟨some d, .slice t x (some o1) none none, ty, pos, af, g⟩ :: rest) e w := by
  obtain ⟨⟨a1, a2, a3⟩, rfl⟩ := cut_some hs
  exact WR.sliceSl ht hz h hx (.inl ⟨_, rfl, by rw [h1, Int.toNat_of_nonneg a1]⟩) (.inr ⟨rfl, rfl⟩) (by omega) (by omega) hw hn k
theorem WR.sliceH {j : Int} {o2 : Operand} (ht : P.underlying t = some (.slice t')) (hz : ∀ w, (sizeOf t').run P w = .ok 1 w) (h : Sl M enc v l) (hx : ev e x = some v) (h2 : ev e o2 = some (I j)) (hs : cut l 0 j = some l2)
    (hw : Wn ops n D e ⟨some d, .slice t x none (some o2) none, ty, pos, af, g⟩) (hn : Nat.blt d n = true) (k : ∀ v', Sl M enc v' l2 → WR r P ops Q n D rest ((d, v') :: e) w) :
    WR r P ops Q n D (⟨some d, .slice t x none (some o2) none, ty, pos, af, g⟩ :: rest) e w := by
  obtain ⟨⟨a1, a2, a3⟩, rfl⟩ := cut_some hs
  exact WR.sliceSl ht hz h hx (.inr ⟨rfl, rfl⟩) (.inl ⟨_, rfl, by rw [h2, Int.toNat_of_nonneg (by omega)]⟩) (by omega) (by omega) hw hn k
theorem short_of {a b w : Nat} (hw : 0 < w) (h : (a + b) * w ≤ 140737488355328) : a + b ≤ maxLen := by
  have : (a + b) * 1 ≤ (a + b) * w := Nat.mul_le_mul_left _ hw
  simp only [maxLen]; omega
theorem WR.appC {bytes : Nat} {L' : Item → List Item} (T : ElemTy P ts t z 1 bytes) (hbp : Nat.blt 0 bytes = true) (h1 : ∀ a, (enc a).oneCell' = true) (H : StX C w0 M0 M L w) (hx : ev e x = some v) (hu : ∀ it', Upd L (RowI t enc v l) it' (L' it')) (hy : ev e y = some u)
    (hs : Sl M enc u l2) (ha : app bytes l l2 = some l3)
    (hw : Wn ops n D e ⟨some d, .call ⟨.builtin .append, #[x, y], #[ts, ts]⟩, ty, pos, af, g⟩) (hn : Nat.blt d n = true)
    (k : ∀ v' w', StX C w0 M0 M (L' (RowI t enc v' l3)) w' → WR r P ops Q n D rest ((d, v') :: e) w') :
    WR r P ops Q n D (⟨some d, .call ⟨.builtin .append, #[x, y], #[ts, ts]⟩, ty, pos, af, g⟩ :: rest) e w := by
  obtain ⟨h, rfl⟩ := app_some ha
  exact WR.appendSl T h1 H hx hu hy hs h (short_of (Nat.le_of_ble_eq_true hbp) h) hw hn k
theorem WR.appStrC {l l2 l3 : List UInt8} {tx : TypeId} {L' : Item → List Item} (T : ElemTy P ts t z 1 1) (ht : P.underlying tx = some .string) (H : StX C w0 M0 M L w) (hx : ev e x = some v) (hu : ∀ it', Upd L (RowI t encB v l) it' (L' it')) (hy : ev e y = some (S l2))
    (ha : app 1 l l2 = some l3)
    (hw : Wn ops n D e ⟨some d, .call ⟨.builtin .append, #[x, y], #[ts, tx]⟩, ty, pos, af, g⟩) (hn : Nat.blt d n = true)
    (k : ∀ v' w', StX C w0 M0 M (L' (RowI t encB v' l3)) w' → WR r P ops Q n D rest ((d, v') :: e) w') :
    WR r P ops Q n D (⟨some d, .call ⟨.builtin .append, #[x, y], #[ts, tx]⟩, ty, pos, af, g⟩ :: rest) e w := by
  obtain ⟨h, rfl⟩ := app_some ha
  exact WR.appendStr T ht H hx hu hy (by omega) hw hn k
theorem WR.bytesC {d0 : TypeDesc} {l m : List UInt8} (H : StX C w0 M0 M L w) (hs : P.underlying t = some d0) (hd : P.underlying t' = some (.slice te)) (he : P.underlying te = some (.int .u8)) (hx : ev e x = some (S l)) (hl : toB l = some m)
    (hw : Wn ops n D e ⟨some d, .convert t t' x, ty, pos, af, g⟩) (hn : Nat.blt d n = true)
    (k : ∀ v M' w', StX C w0 M0 M' L w' → M.le M' → Bs M' v m → WR r P ops Q n D rest ((d, v) :: e) w') : WR r P ops Q n D (⟨some d, .convert t t' x, ty, pos, af, g⟩ :: rest) e w := by
  obtain ⟨h, rfl⟩ := toB_some hl
  exact WR.bytesOf H hs hd he hx (by simp only [maxLen]; exact h) hw hn k
end
end Go.Ph
