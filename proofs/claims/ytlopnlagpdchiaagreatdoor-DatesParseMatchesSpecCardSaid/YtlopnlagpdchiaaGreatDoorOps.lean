/-
  One law for each kind of operation. No program in sight: what is asked of the program are facts on its types.
-/
import Derived.Test.YtlopnlagpdchiaaGreatDoorMem
import Derived.Laws.StructEq
import Derived.WalkKit
set_option linter.unusedVariables false
set_option linter.unusedSimpArgs false
namespace Go.Ph
open Go Go.RowKit

/-- a string by the list of its bytes -/
abbrev S (l : List UInt8) : Value := .string ⟨l.toArray⟩
abbrev I (n : Int) : Value := .int .i64 n
abbrev ptr (b o : Nat) : Value := .pointer (some ⟨b, o, none⟩)

theorem i64_in {x : Int} (h : -9223372036854775808 ≤ x ∧ x ≤ 9223372036854775807) : IntKind.i64.wrap x = x := by
  rw [IntKind.wrap_i64]; omega
theorem u8_in {x : Int} (h : 0 ≤ x ∧ x < 256) : IntKind.u8.wrap x = x := by
  rw [IntKind.wrap_u8]; omega
theorem u64_in {x : Int} (h : 0 ≤ x ∧ x < 18446744073709551616) : IntKind.u64.wrap x = x := by
  rw [IntKind.wrap_u64]; omega
theorem u32_in {x : Int} (h : 0 ≤ x ∧ x < 4294967296) : IntKind.u32.wrap x = x := by
  rw [IntKind.wrap_u32]; omega
theorem i32_in {x : Int} (h : -2147483648 ≤ x ∧ x ≤ 2147483647) : IntKind.i32.wrap x = x := by
  rw [IntKind.wrap_i32]; omega

section
variable {P : Program} {e : Env} {w w' : World} {x y c : Operand} {v u : Value} {dst : Option Tmp} {ty t t' : TypeId} {pos : String} {af : Array Edge} {g : Option (Nat × Bool)} {k : IntKind} {a b : Int}

theorem Ex.move (h : ev e x = some v) : Ex P ⟨dst, .move x, ty, pos, af, g⟩ e w v w := ⟨nofun, fun ρ hf => by simp [execOp, hf _ _ h]⟩
theorem Ex.assign (h : ev e x = some v) : Ex P ⟨dst, .assign x, ty, pos, af, g⟩ e w v w := ⟨nofun, fun ρ hf => by simp [execOp, hf _ _ h]⟩
theorem Ex.pickT (hc : ev e c = some (.bool true)) (h : ev e x = some v) : Ex P ⟨dst, .pick c x y, ty, pos, af, g⟩ e w v w := ⟨nofun, fun ρ hf => by simp [execOp, asBool, hf _ _ hc, hf _ _ h]⟩
theorem Ex.pickF (hc : ev e c = some (.bool false)) (h : ev e y = some v) : Ex P ⟨dst, .pick c x y, ty, pos, af, g⟩ e w v w := ⟨nofun, fun ρ hf => by simp [execOp, asBool, hf _ _ hc, hf _ _ h]⟩

/-! integers -/
theorem run_guard_int (op : BinOp) (k k' : IntKind) (a b : Int) : (eqGuard op t x y (.int k a) (.int k' b)).run P w = .ok () w := by
  unfold eqGuard
  split <;> rfl
theorem Ex.int {op : BinOp} {k' : IntKind} (h1 : ev e x = some (.int k a)) (h2 : ev e y = some (.int k' b)) (hr : (binOp op t (.int k a) (.int k' b)).run P w = .ok v w) : Ex P ⟨dst, .binOp op t x y t', ty, pos, af, g⟩ e w v w :=
  ⟨nofun, fun ρ hf => by
    have hg := run_guard_int (P := P) (w := w) (t := t) (x := x) (y := y) op k k' a b
    simp only [execOp, hf _ _ h1, hf _ _ h2, Sem.run_bind, hg, hr, Result.andThen_ok, Sem.run_pure]⟩
theorem Ex.add (h1 : ev e x = some (.int k a)) (h2 : ev e y = some (.int k b)) : Ex P ⟨dst, .binOp .add t x y t', ty, pos, af, g⟩ e w (.int k (k.wrap (a + b))) w := Ex.int h1 h2 (by simp [binOp, Op.intArith])
theorem Ex.sub (h1 : ev e x = some (.int k a)) (h2 : ev e y = some (.int k b)) : Ex P ⟨dst, .binOp .sub t x y t', ty, pos, af, g⟩ e w (.int k (k.wrap (a - b))) w := Ex.int h1 h2 (by simp [binOp, Op.intArith])
theorem Ex.mul (h1 : ev e x = some (.int k a)) (h2 : ev e y = some (.int k b)) : Ex P ⟨dst, .binOp .mul t x y t', ty, pos, af, g⟩ e w (.int k (k.wrap (a * b))) w := Ex.int h1 h2 (by simp [binOp, Op.intArith])
theorem Ex.addW (h1 : ev e x = some (.int k a)) (h2 : ev e y = some (.int k b)) (h : k.wrap (a + b) = a + b) : Ex P ⟨dst, .binOp .add t x y t', ty, pos, af, g⟩ e w (.int k (a + b)) w := by
  have := Ex.add (P := P) (w := w) (dst := dst) (ty := ty) (t := t) (t' := t') (pos := pos) (af := af) (g := g) h1 h2
  rwa [h] at this
theorem Ex.subW (h1 : ev e x = some (.int k a)) (h2 : ev e y = some (.int k b)) (h : k.wrap (a - b) = a - b) : Ex P ⟨dst, .binOp .sub t x y t', ty, pos, af, g⟩ e w (.int k (a - b)) w := by
  have := Ex.sub (P := P) (w := w) (dst := dst) (ty := ty) (t := t) (t' := t') (pos := pos) (af := af) (g := g) h1 h2
  rwa [h] at this
theorem Ex.mulW (h1 : ev e x = some (.int k a)) (h2 : ev e y = some (.int k b)) (h : k.wrap (a * b) = a * b) : Ex P ⟨dst, .binOp .mul t x y t', ty, pos, af, g⟩ e w (.int k (a * b)) w := by
  have := Ex.mul (P := P) (w := w) (dst := dst) (ty := ty) (t := t) (t' := t') (pos := pos) (af := af) (g := g) h1 h2
  rwa [h] at this
/-- the sum, the difference, the product where it fits -/
theorem Ex.add64 (h1 : ev e x = some (I a)) (h2 : ev e y = some (I b)) (h : -9223372036854775808 ≤ a + b ∧ a + b ≤ 9223372036854775807) : Ex P ⟨dst, .binOp .add t x y t', ty, pos, af, g⟩ e w (I (a + b)) w := by
  have := Ex.add (P := P) (w := w) (dst := dst) (ty := ty) (t := t) (t' := t') (pos := pos) (af := af) (g := g) h1 h2
  rwa [i64_in h] at this
theorem Ex.sub64 (h1 : ev e x = some (I a)) (h2 : ev e y = some (I b)) (h : -9223372036854775808 ≤ a - b ∧ a - b ≤ 9223372036854775807) : Ex P ⟨dst, .binOp .sub t x y t', ty, pos, af, g⟩ e w (I (a - b)) w := by
  have := Ex.sub (P := P) (w := w) (dst := dst) (ty := ty) (t := t) (t' := t') (pos := pos) (af := af) (g := g) h1 h2
  rwa [i64_in h] at this
theorem Ex.mul64 (h1 : ev e x = some (I a)) (h2 : ev e y = some (I b)) (h : -9223372036854775808 ≤ a * b ∧ a * b ≤ 9223372036854775807) : Ex P ⟨dst, .binOp .mul t x y t', ty, pos, af, g⟩ e w (I (a * b)) w := by
  have := Ex.mul (P := P) (w := w) (dst := dst) (ty := ty) (t := t) (t' := t') (pos := pos) (af := af) (g := g) h1 h2
  rwa [i64_in h] at this
theorem Ex.quo64 (h1 : ev e x = some (I a)) (h2 : ev e y = some (I b)) (h : 0 ≤ a ∧ 0 < b ∧ a ≤ 9223372036854775807) : Ex P ⟨dst, .binOp .quo t x y t', ty, pos, af, g⟩ e w (I (a / b)) w :=
  Ex.int h1 h2 (by
    have hb : b ≠ 0 := by omega
    have h3 : a.tdiv b = a / b := Int.tdiv_eq_ediv_of_nonneg h.1
    have h4 : 0 ≤ a / b := Int.ediv_nonneg h.1 (by omega)
    have h5 : a / b ≤ a := Int.ediv_le_self _ h.1
    simp [binOp, Op.intDiv, hb, h3]
    exact i64_in (by omega))
theorem Ex.rem64 (h1 : ev e x = some (I a)) (h2 : ev e y = some (I b)) (h : 0 ≤ a ∧ 0 < b) : Ex P ⟨dst, .binOp .rem t x y t', ty, pos, af, g⟩ e w (I (a % b)) w :=
  Ex.int h1 h2 (by
    have hb : b ≠ 0 := by omega
    have h3 : a.tmod b = a % b := Int.tmod_eq_emod_of_nonneg h.1
    simp [binOp, Op.intDiv, hb, h3])
theorem Ex.quoT (h1 : ev e x = some (.int k a)) (h2 : ev e y = some (.int k b)) (h : b ≠ 0) : Ex P ⟨dst, .binOp .quo t x y t', ty, pos, af, g⟩ e w (.int k (k.wrap (a.tdiv b))) w :=
  Ex.int h1 h2 (by simp [binOp, Op.intDiv, h])
theorem Ex.remT (h1 : ev e x = some (.int k a)) (h2 : ev e y = some (.int k b)) (h : b ≠ 0) : Ex P ⟨dst, .binOp .rem t x y t', ty, pos, af, g⟩ e w (.int k (a.tmod b)) w :=
  Ex.int h1 h2 (by simp [binOp, Op.intDiv, h])
theorem Ex.shl {k' : IntKind} (h1 : ev e x = some (.int k a)) (h2 : ev e y = some (.int k' b)) (h : 0 ≤ b) : Ex P ⟨dst, .binOp .shl t x y t', ty, pos, af, g⟩ e w (.int k (k.wrap (a * 2 ^ min b.toNat k.bits))) w :=
  Ex.int h1 h2 (by simp [binOp, Op.shift]; omega)
theorem Ex.shr {k' : IntKind} (h1 : ev e x = some (.int k a)) (h2 : ev e y = some (.int k' b)) (h : 0 ≤ b) : Ex P ⟨dst, .binOp .shr t x y t', ty, pos, af, g⟩ e w (.int k (a.fdiv (2 ^ min b.toNat k.bits))) w :=
  Ex.int h1 h2 (by simp [binOp, Op.shift]; omega)
/-- shifts of natural numbers -/
theorem Ex.shrN {m s : Nat} {k' : IntKind} (h1 : ev e x = some (.int k (m : Int))) (h2 : ev e y = some (.int k' (s : Int))) (hs : s ≤ k.bits) : Ex P ⟨dst, .binOp .shr t x y t', ty, pos, af, g⟩ e w (.int k ((m / 2 ^ s : Nat) : Int)) w := by
  have := Ex.shr (P := P) (w := w) (dst := dst) (ty := ty) (t := t) (t' := t') (pos := pos) (af := af) (g := g) h1 h2 (by omega)
  have e1 : (m : Int).fdiv (2 ^ min (s : Int).toNat k.bits) = ((m / 2 ^ s : Nat) : Int) := by
    rw [Int.toNat_natCast, Nat.min_eq_left hs, Int.fdiv_eq_ediv_of_nonneg _ (Int.pow_nonneg (by decide))]
    simp
  rwa [e1] at this
theorem Ex.shlN {m s : Nat} {k' : IntKind} (h1 : ev e x = some (I (m : Int))) (h2 : ev e y = some (.int k' (s : Int))) (hs : s ≤ 64) (hb : m * 2 ^ s ≤ 9223372036854775807) : Ex P ⟨dst, .binOp .shl t x y t', ty, pos, af, g⟩ e w (I ((m * 2 ^ s : Nat) : Int)) w := by
  have := Ex.shl (P := P) (w := w) (dst := dst) (ty := ty) (t := t) (t' := t') (pos := pos) (af := af) (g := g) h1 h2 (by omega)
  have e1 : (m : Int) * 2 ^ min (s : Int).toNat IntKind.i64.bits = ((m * 2 ^ s : Nat) : Int) := by
    rw [Int.toNat_natCast, Nat.min_eq_left (by exact hs)]
    simp
  rw [e1, i64_in (by omega)] at this
  exact this
theorem Ex.shlK {m s : Nat} {k' : IntKind} (h1 : ev e x = some (.int k (m : Int))) (h2 : ev e y = some (.int k' (s : Int))) (hs : s ≤ k.bits) : Ex P ⟨dst, .binOp .shl t x y t', ty, pos, af, g⟩ e w (.int k (k.wrap ((m * 2 ^ s : Nat) : Int))) w := by
  have := Ex.shl (P := P) (w := w) (dst := dst) (ty := ty) (t := t) (t' := t') (pos := pos) (af := af) (g := g) h1 h2 (by omega)
  have e1 : (m : Int) * 2 ^ min (s : Int).toNat k.bits = ((m * 2 ^ s : Nat) : Int) := by
    rw [Int.toNat_natCast, Nat.min_eq_left hs]
    simp
  rwa [e1] at this
theorem ofInt_nat (b a : Nat) (ha : a < 2 ^ b) : (BitVec.ofInt b (a : Int)).toNat = a := by
  rw [BitVec.ofInt_natCast, BitVec.toNat_ofNat]; exact Nat.mod_eq_of_lt ha


theorem ofInt_i64 (a : Nat) (ha : a < 9223372036854775808) : (BitVec.ofInt 64 (a : Int)).toNat = a := by
  rw [BitVec.ofInt_natCast, BitVec.toNat_ofNat]; exact Nat.mod_eq_of_lt (by omega)
theorem Ex.andN {m s : Nat} (h1 : ev e x = some (I (m : Int))) (h2 : ev e y = some (I (s : Int))) (hm : m < 9223372036854775808) (hs : s < 9223372036854775808) : Ex P ⟨dst, .binOp .and t x y t', ty, pos, af, g⟩ e w (I ((m &&& s : Nat) : Int)) w :=
  Ex.int h1 h2 (by
    have hx : m &&& s < 2 ^ 63 := Nat.and_lt_two_pow _ (by omega)
    have hr : IntKind.i64.wrap ((BitVec.ofInt 64 (m : Int) &&& BitVec.ofInt 64 (s : Int)).toNat : Int) = ((m &&& s : Nat) : Int) := by
      rw [BitVec.toNat_and, ofInt_i64 m hm, ofInt_i64 s hs]; exact i64_in (by omega)
    show (Op.intBits .and .i64 (m : Int) (s : Int)).run P w = _
    simp only [Op.intBits, IntKind.bits, Sem.run_pure]
    exact congrArg (fun z => Result.ok (I z) w) hr)
theorem Ex.orN {m s : Nat} (h1 : ev e x = some (I (m : Int))) (h2 : ev e y = some (I (s : Int))) (hm : m < 9223372036854775808) (hs : s < 9223372036854775808) : Ex P ⟨dst, .binOp .or t x y t', ty, pos, af, g⟩ e w (I ((m ||| s : Nat) : Int)) w :=
  Ex.int h1 h2 (by
    have hx : m ||| s < 2 ^ 63 := Nat.or_lt_two_pow (by omega) (by omega)
    have hr : IntKind.i64.wrap ((BitVec.ofInt 64 (m : Int) ||| BitVec.ofInt 64 (s : Int)).toNat : Int) = ((m ||| s : Nat) : Int) := by
      rw [BitVec.toNat_or, ofInt_i64 m hm, ofInt_i64 s hs]; exact i64_in (by omega)
    show (Op.intBits .or .i64 (m : Int) (s : Int)).run P w = _
    simp only [Op.intBits, IntKind.bits, Sem.run_pure]
    exact congrArg (fun z => Result.ok (I z) w) hr)
theorem Ex.convU64 {d0 : TypeDesc} (hs : P.underlying t = some d0) (hd : P.underlying t' = some (.int .u64)) (h : ev e x = some (.int k a)) (hr : 0 ≤ a ∧ a ≤ 9223372036854775807) : Ex P ⟨dst, .convert t t' x, ty, pos, af, g⟩ e w (.int .u64 a) w := ⟨nofun, fun ρ hf => by
  have : IntKind.u64.wrap a = a := by rw [IntKind.wrap_u64]; omega
  simp [execOp, hf _ _ h, convert, underlying, hs, hd, Conv.intToInt, this, go_sem]⟩
/-- bit operations at whatever values: the result is named by an equation -/
theorem Ex.bits {op : BinOp} {r : Int} (h1 : ev e x = some (.int k a)) (h2 : ev e y = some (.int k b)) (hr : ∀ w, (Op.intBits op k a b).run P w = .ok (.int k r) w) (hop : op = .and ∨ op = .or ∨ op = .xor ∨ op = .andNot) : Ex P ⟨dst, .binOp op t x y t', ty, pos, af, g⟩ e w (.int k r) w :=
  Ex.int h1 h2 (by rcases hop with h | h | h | h <;> subst h <;> simp [binOp, hr])
theorem Ex.andK {m s : Nat} (h1 : ev e x = some (.int k (m : Int))) (h2 : ev e y = some (.int k (s : Int))) (hm : m < 2 ^ k.bits) (hs : s < 2 ^ k.bits) : Ex P ⟨dst, .binOp .and t x y t', ty, pos, af, g⟩ e w (.int k (k.wrap ((m &&& s : Nat) : Int))) w :=
  Ex.bits h1 h2 (fun w => by simp only [Op.intBits, Sem.run_pure, BitVec.toNat_and, ofInt_nat _ m hm, ofInt_nat _ s hs]) (.inl rfl)
theorem Ex.orK {m s : Nat} (h1 : ev e x = some (.int k (m : Int))) (h2 : ev e y = some (.int k (s : Int))) (hm : m < 2 ^ k.bits) (hs : s < 2 ^ k.bits) : Ex P ⟨dst, .binOp .or t x y t', ty, pos, af, g⟩ e w (.int k (k.wrap ((m ||| s : Nat) : Int))) w :=
  Ex.bits h1 h2 (fun w => by simp only [Op.intBits, Sem.run_pure, BitVec.toNat_or, ofInt_nat _ m hm, ofInt_nat _ s hs]) (.inr (.inl rfl))
theorem Ex.lss (h1 : ev e x = some (.int k a)) (h2 : ev e y = some (.int k b)) : Ex P ⟨dst, .binOp .lss t x y t', ty, pos, af, g⟩ e w (.bool (decide (a < b))) w := Ex.int h1 h2 (by simp [binOp, Op.intCmp])
theorem Ex.leq (h1 : ev e x = some (.int k a)) (h2 : ev e y = some (.int k b)) : Ex P ⟨dst, .binOp .leq t x y t', ty, pos, af, g⟩ e w (.bool (decide (a ≤ b))) w := Ex.int h1 h2 (by simp [binOp, Op.intCmp])
theorem Ex.gtr (h1 : ev e x = some (.int k a)) (h2 : ev e y = some (.int k b)) : Ex P ⟨dst, .binOp .gtr t x y t', ty, pos, af, g⟩ e w (.bool (decide (b < a))) w := Ex.int h1 h2 (by simp [binOp, Op.intCmp])
theorem Ex.geq (h1 : ev e x = some (.int k a)) (h2 : ev e y = some (.int k b)) : Ex P ⟨dst, .binOp .geq t x y t', ty, pos, af, g⟩ e w (.bool (decide (b ≤ a))) w := Ex.int h1 h2 (by simp [binOp, Op.intCmp])
theorem Ex.eql (h1 : ev e x = some (.int k a)) (h2 : ev e y = some (.int k b)) : Ex P ⟨dst, .binOp .eql t x y t', ty, pos, af, g⟩ e w (.bool (decide (a = b))) w := Ex.int h1 h2 (by simp [binOp, Op.intCmp]; rfl)
theorem Ex.neq (h1 : ev e x = some (.int k a)) (h2 : ev e y = some (.int k b)) : Ex P ⟨dst, .binOp .neq t x y t', ty, pos, af, g⟩ e w (.bool (decide (a ≠ b))) w := Ex.int h1 h2 (by simp [binOp, Op.intCmp, bne]; rfl)
theorem Ex.not {b : Bool} (h : ev e x = some (.bool b)) : Ex P ⟨dst, .unOp .not t x, ty, pos, af, g⟩ e w (.bool (!b)) w := ⟨nofun, fun ρ hf => by simp [execOp, hf _ _ h, Op.unary]⟩
theorem Ex.notT (h : ev e x = some (.bool true)) : Ex P ⟨dst, .unOp .not t x, ty, pos, af, g⟩ e w (.bool false) w := Ex.not h
theorem Ex.notF (h : ev e x = some (.bool false)) : Ex P ⟨dst, .unOp .not t x, ty, pos, af, g⟩ e w (.bool true) w := Ex.not h
theorem Ex.neg64 (h : ev e x = some (I a)) (hr : -9223372036854775808 ≤ -a ∧ -a ≤ 9223372036854775807) : Ex P ⟨dst, .unOp .neg t x, ty, pos, af, g⟩ e w (I (-a)) w := ⟨nofun, fun ρ hf => by
  simp [execOp, hf _ _ h, Op.unary, Op.intArith]; exact i64_in (by omega)⟩
theorem Ex.conv {k' : IntKind} {d0 : TypeDesc} (hs : P.underlying t = some d0) (hd : P.underlying t' = some (.int k')) (h : ev e x = some (.int k a)) : Ex P ⟨dst, .convert t t' x, ty, pos, af, g⟩ e w (.int k' (k'.wrap a)) w :=
  ⟨nofun, fun ρ hf => by simp [execOp, hf _ _ h, convert, underlying, hs, hd, Conv.intToInt, go_sem]⟩
/-- a conversion to int of a number that fits -/
theorem Ex.convI {d0 : TypeDesc} (hs : P.underlying t = some d0) (hd : P.underlying t' = some (.int .i64)) (h : ev e x = some (.int k a)) (hr : -9223372036854775808 ≤ a ∧ a ≤ 9223372036854775807) : Ex P ⟨dst, .convert t t' x, ty, pos, af, g⟩ e w (I a) w := by
  have := Ex.conv (P := P) (w := w) (dst := dst) (ty := ty) (pos := pos) (af := af) (g := g) hs hd h
  rwa [i64_in hr] at this

theorem Ex.convB {c : UInt8} {d0 : TypeDesc} (hs : P.underlying t = some d0) (hd : P.underlying t' = some (.int .i64)) (h : ev e x = some (.int .u8 (c.toNat : Int))) : Ex P ⟨dst, .convert t t' x, ty, pos, af, g⟩ e w (I (c.toNat : Int)) w :=
  Ex.convI hs hd h (by have := c.toNat_lt; omega)
/-- the byte of a number -/
def ub (a : Int) : UInt8 := UInt8.ofNat (a % 256).toNat
theorem ub_toNat (a : Int) : ((ub a).toNat : Int) = a % 256 := by
  have h1 : 0 ≤ a % 256 := Int.emod_nonneg _ (by decide)
  have h2 : a % 256 < 256 := Int.emod_lt_of_pos _ (by decide)
  unfold ub
  rw [UInt8.toNat_ofNat']
  omega
theorem Ex.convU8 {d0 : TypeDesc} (hs : P.underlying t = some d0) (hd : P.underlying t' = some (.int .u8)) (h : ev e x = some (.int k a)) : Ex P ⟨dst, .convert t t' x, ty, pos, af, g⟩ e w (.int .u8 ((ub a).toNat : Int)) w := by
  have := Ex.conv (P := P) (w := w) (dst := dst) (ty := ty) (pos := pos) (af := af) (g := g) hs hd h
  rw [ub_toNat, ← IntKind.wrap_u8]
  exact this

/-! structs that are compared -/
theorem Ex.eqlAgg {xs ys : Array Value} {p : Prop} [Decidable p] (h1 : ev e x = some (.agg xs)) (h2 : ev e y = some (.agg ys)) (hg : P.eqGuardType P.depth t = false) (hr : ∀ w, (Op.equalIn 10000 t (.agg xs) (.agg ys)).run P w = .ok (decide p) w) : Ex P ⟨dst, .binOp .eql t x y t', ty, pos, af, g⟩ e w (.bool (decide p)) w :=
  ⟨nofun, fun ρ hf => by simp only [execOp, hf _ _ h1, hf _ _ h2, Sem.run_bind, run_eqGuard_agg _ _ _ _ _ _ _ hg, Result.andThen_ok, run_eql_struct, hr, Sem.run_pure]⟩
theorem Ex.neqAgg {xs ys : Array Value} {p : Prop} [Decidable p] (h1 : ev e x = some (.agg xs)) (h2 : ev e y = some (.agg ys)) (hg : P.eqGuardType P.depth t = false) (hr : ∀ w, (Op.equalIn 10000 t (.agg xs) (.agg ys)).run P w = .ok (decide p) w) : Ex P ⟨dst, .binOp .neq t x y t', ty, pos, af, g⟩ e w (.bool (decide (¬ p))) w :=
  ⟨nofun, fun ρ hf => by
    have : (!decide p) = decide (¬ p) := by simp
    simp only [execOp, hf _ _ h1, hf _ _ h2, Sem.run_bind, run_eqGuard_agg _ _ _ _ _ _ _ hg, Result.andThen_ok, run_neq_struct, hr, Sem.run_pure, this]⟩

/-! tuples, structs -/
theorem Ex.extract {vs : List Value} {i : Nat} (h : ev e x = some (.tuple vs.toArray)) (hi : vs[i]? = some v) : Ex P ⟨dst, .extract x i, ty, pos, af, g⟩ e w v w :=
  ⟨nofun, fun ρ hf => by simp [execOp, hf _ _ h, Instr.extract, hi]⟩

/-! strings -/
variable {l m : List UInt8}
theorem bytes_toList (l : List UInt8) : (⟨l.toArray⟩ : ByteArray).toList = l := by
  rw [ByteArray.toList_eq]
theorem size_mk (l : List UInt8) : ByteArray.size ⟨l.toArray⟩ = l.length := by simp [ByteArray.size]
theorem Ex.str {op : BinOp} (h1 : ev e x = some (S l)) (h2 : ev e y = some (S m)) (hr : (Op.stringOp op ⟨l.toArray⟩ ⟨m.toArray⟩).run P w = .ok v w) : Ex P ⟨dst, .binOp op t x y t', ty, pos, af, g⟩ e w v w :=
  ⟨nofun, fun ρ hf => by
    have hg : (eqGuard op t x y (S l) (S m)).run P w = .ok () w := by unfold eqGuard; split <;> rfl
    have hb : (binOp op t (S l) (S m)).run P w = .ok v w := by cases op <;> exact hr
    simp only [execOp, hf _ _ h1, hf _ _ h2, Sem.run_bind, hg, hb, Result.andThen_ok, Sem.run_pure]⟩
theorem Ex.strAdd (h1 : ev e x = some (S l)) (h2 : ev e y = some (S m)) (hs : l.length + m.length ≤ 9223372036854775807) : Ex P ⟨dst, .binOp .add t x y t', ty, pos, af, g⟩ e w (S (l ++ m)) w :=
  Ex.str h1 h2 (by
    have e1 : (⟨l.toArray⟩ : ByteArray) ++ ⟨m.toArray⟩ = ⟨(l ++ m).toArray⟩ := by
      apply ByteArray.ext
      simp
    have : ¬ (IntKind.i64.max < ((l.length + m.length : Nat) : Int)) := by
      simp only [IntKind.max, IntKind.signed, IntKind.bits]
      omega
    simp only [Op.stringOp, size_mk, gt_iff_lt, this, if_false, e1, Sem.run_pure])
theorem Ex.strEql (h1 : ev e x = some (S l)) (h2 : ev e y = some (S m)) : Ex P ⟨dst, .binOp .eql t x y t', ty, pos, af, g⟩ e w (.bool (decide (l = m))) w :=
  Ex.str h1 h2 (by
    have : (l == m) = decide (l = m) := by by_cases h : l = m <;> simp [h]
    simp [Op.stringOp, this])
theorem Ex.strNeq (h1 : ev e x = some (S l)) (h2 : ev e y = some (S m)) : Ex P ⟨dst, .binOp .neq t x y t', ty, pos, af, g⟩ e w (.bool (decide (l ≠ m))) w :=
  Ex.str h1 h2 (by
    have : (!(l == m)) = decide (l ≠ m) := by by_cases h : l = m <;> simp [h]
    simp [Op.stringOp, this])
theorem Ex.strConv (h1 : P.underlying t = some .string) (h2 : P.underlying t' = some .string) (h : ev e x = some (S l)) : Ex P ⟨dst, .convert t t' x, ty, pos, af, g⟩ e w (S l) w :=
  ⟨nofun, fun ρ hf => by simp [execOp, hf _ _ h, convert, underlying, h1, h2, go_sem]⟩
theorem extract_mk (l : List UInt8) (i j : Nat) : (⟨l.toArray⟩ : ByteArray).extract i j = ⟨((l.take j).drop i).toArray⟩ := by
  apply ByteArray.ext
  rw [ByteArray.data_extract]
  apply Array.ext'
  simp [List.drop_take]
theorem run_slice_str {i j : Nat} {lo hi : Option Value} (ht : P.underlying t = some .string) (hij : i ≤ j) (hj : j ≤ l.length)
    (hlo : lo = some (I i) ∨ (lo = none ∧ i = 0)) (hhi : hi = some (I j) ∨ (hi = none ∧ j = l.length)) :
    (Instr.sliceAt t (S l) lo hi none).run P w = .ok (S ((l.take j).drop i)) w := by
  have a1 : (0 : Int) ≤ (i : Int) ∧ (i : Int) ≤ (j : Int) := by omega
  have a2 : (0 : Int) ≤ (j : Int) ∧ (j : Int) ≤ (l.length : Int) := by omega
  rcases hlo with rfl | ⟨rfl, rfl⟩ <;> rcases hhi with rfl | ⟨rfl, rfl⟩ <;>
    simp only [Instr.sliceAt, Instr.slice, Instr.sliceBounds, Instr.sliceBound, asIntOf, Sem.run_bind, run_underlying ht, Result.andThen_ok, Sem.run_pure, a1, a2, and_self, if_true, Int.toNat_natCast, Option.isSome_none, size_mk, extract_mk, Bool.false_eq_true, if_false]
theorem Ex.sliceStr {i j : Nat} {lo hi : Option Operand} (ht : P.underlying t = some .string) (h : ev e x = some (S l))
    (hlo : (∃ o, lo = some o ∧ ev e o = some (I i)) ∨ (lo = none ∧ i = 0)) (hhi : (∃ o, hi = some o ∧ ev e o = some (I j)) ∨ (hi = none ∧ j = l.length)) (hij : i ≤ j) (hj : j ≤ l.length) :
    Ex P ⟨dst, .slice t x lo hi none, ty, pos, af, g⟩ e w (S ((l.take j).drop i)) w :=
  ⟨nofun, fun ρ hf => by
    have hr := run_slice_str (P := P) (w := w) (lo := lo.map ρ) (hi := hi.map ρ) ht hij hj
      (by rcases hlo with ⟨o, rfl, ho⟩ | ⟨rfl, h⟩
          · exact .inl (by simp [hf _ _ ho])
          · exact .inr ⟨rfl, h⟩)
      (by rcases hhi with ⟨o, rfl, ho⟩ | ⟨rfl, h⟩
          · exact .inl (by simp [hf _ _ ho])
          · exact .inr ⟨rfl, h⟩)
    simp only [execOp, hf _ _ h, Option.map_none, Sem.run_bind, hr, Result.andThen_ok, Sem.run_pure]⟩
theorem Ex.lenStr (ht : P.underlying t = some .string) (h : ev e x = some (S l)) : Ex P ⟨dst, .call ⟨.builtin .len, #[x], #[t]⟩, ty, pos, af, g⟩ e w (I l.length) w :=
  ⟨nofun, fun ρ hf => by simp [hf _ _ h, Builtin.len_, underlying, ht, goInt, size_mk, go_sem]⟩
theorem Ex.lenSlice {A : Option Addr} {n cp : Nat} {t0 : TypeId} (ht : P.underlying t = some (.slice t0)) (h : ev e x = some (.slice A n cp)) : Ex P ⟨dst, .call ⟨.builtin .len, #[x], #[t]⟩, ty, pos, af, g⟩ e w (I n) w :=
  ⟨nofun, fun ρ hf => by simp [hf _ _ h, Builtin.len_, underlying, ht, goInt, go_sem]⟩
theorem Ex.min2 (h1 : ev e x = some (.int k a)) (h2 : ev e y = some (.int k b)) {ts : Array TypeId} : Ex P ⟨dst, .call ⟨.builtin .min, #[x, y], ts⟩, ty, pos, af, g⟩ e w (.int k (min a b)) w :=
  ⟨nofun, fun ρ hf => by
    have : (if b < a then b else a) = min a b := by omega
    simp [hf _ _ h1, hf _ _ h2, Builtin.min_, Builtin.min2, this, go_sem]⟩
theorem Ex.max2 (h1 : ev e x = some (.int k a)) (h2 : ev e y = some (.int k b)) {ts : Array TypeId} : Ex P ⟨dst, .call ⟨.builtin .max, #[x, y], ts⟩, ty, pos, af, g⟩ e w (.int k (max a b)) w :=
  ⟨nofun, fun ρ hf => by
    have : (if a < b then b else a) = max a b := by omega
    simp [hf _ _ h1, hf _ _ h2, Builtin.max_, Builtin.max2, this, go_sem]⟩
theorem Ex.idxStr {i : Nat} {c : UInt8} {k : IntKind} (ht : P.underlying t = some .string) (h : ev e x = some (S l)) (h2 : ev e y = some (.int k (i : Int))) (hi : l[i]? = some c) : Ex P ⟨dst, .index t x y, ty, pos, af, g⟩ e w (.int .u8 (c.toNat : Int)) w :=
  ⟨nofun, fun ρ hf => by
    have hg : (⟨l.toArray⟩ : ByteArray)[i]? = some c := by
      have hlt := (List.getElem?_eq_some_iff.1 hi).1
      have h2 := (List.getElem?_eq_some_iff.1 hi).2
      rw [getElem?_pos (⟨l.toArray⟩ : ByteArray) i (by simpa [ByteArray.size] using hlt)]
      simp [ByteArray.getElem_eq_getElem_data, h2]
    simp [execOp, hf _ _ h, hf _ _ h2, Instr.index, asIntOf, underlying, ht, hg, go_sem]⟩
end
end Go.Ph
