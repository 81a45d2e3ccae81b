/-
  Plain operations: what the program's operations compute, as partial functions. No program in sight.
-/
set_option linter.unusedVariables false
set_option linter.unusedSimpArgs false
namespace Go.Ph.Pl

/-- fuel of loops: more rounds than any loop needs -/
def FU : Nat := 18446744073709551616
theorem FU_eq : FU = 18446744073709551616 := rfl
theorem FU_pos : FU = 18446744073709551615 + 1 := rfl

theorem bnd {α β : Type} {o : Option α} {k : α → Option β} {r : β} (h : o.bind k = some r) : ∃ x, o = some x ∧ k x = some r := Option.bind_eq_some_iff.1 h
theorem bnd_of {α β : Type} {o : Option α} {k : α → Option β} {x : α} (h : o = some x) : o.bind k = k x := by rw [h]; rfl

/-- (not by 'rfl': the kernel is not asked to look into the rest) -/
theorem bsome {α β : Type} (a : α) (f : α → Option β) : (some a).bind f = f a := by rw [Option.bind_some]
/-- an int -/
def chk (x : Int) : Option Int := if -9223372036854775808 ≤ x ∧ x ≤ 9223372036854775807 then some x else none
theorem chk_ok {x : Int} (h1 : -9223372036854775808 ≤ x) (h2 : x ≤ 9223372036854775807) : chk x = some x := by unfold chk; rw [if_pos ⟨h1, h2⟩]
theorem chk_some {x y : Int} (h : chk x = some y) : (-9223372036854775808 ≤ x ∧ x ≤ 9223372036854775807) ∧ y = x := by
  unfold chk at h; split at h
  · rename_i h1; exact ⟨h1, (Option.some.inj h).symm⟩
  · cases h
theorem chk_succ {i : Nat} (h : i + 1 ≤ 9223372036854775807) : chk ((i : Int) + 1) = some ((i + 1 : Nat) : Int) := chk_ok (by omega) (by omega)
theorem chk_addN {i : Nat} (k : Nat) (h : i + k ≤ 9223372036854775807) : chk ((i : Int) + (k : Int)) = some ((i + k : Nat) : Int) := by rw [Int.natCast_add]; exact chk_ok (by omega) (by omega)
theorem chk_pred {i : Nat} (h0 : 1 ≤ i) (h : i ≤ 9223372036854775807) : chk ((i : Int) - 1) = some ((i - 1 : Nat) : Int) := by rw [show ((i - 1 : Nat) : Int) = (i : Int) - 1 by omega]; exact chk_ok (by omega) (by omega)
/-- l[i] -/
def idx {α : Type} (l : List α) (i : Int) : Option α := if 0 ≤ i then l[i.toNat]? else none
theorem idx_some {α : Type} {l : List α} {i : Int} {a : α} (h : idx l i = some a) : 0 ≤ i ∧ l[i.toNat]? = some a := by
  unfold idx at h; split at h
  · exact ⟨by assumption, h⟩
  · cases h
theorem idx_nat {α : Type} (l : List α) (i : Nat) : idx l (i : Int) = l[i]? := by unfold idx; rw [if_pos (Int.natCast_nonneg i), Int.toNat_natCast]
theorem idx_of {α : Type} {l : List α} {i : Int} {n : Nat} {a : α} (hi : i = (n : Int)) (h : l[n]? = some a) : idx l i = some a := by rw [hi, idx_nat, h]
theorem idx_lt {α : Type} {l : List α} {i : Int} {a : α} (h : idx l i = some a) : 0 ≤ i ∧ i < l.length := by
  obtain ⟨h1, h2⟩ := idx_some h
  have := (List.getElem?_eq_some_iff.1 h2).1
  omega
/-- l[i:j] -/
def cut {α : Type} (l : List α) (i j : Int) : Option (List α) := if 0 ≤ i ∧ i ≤ j ∧ j ≤ (l.length : Int) then some ((l.take j.toNat).drop i.toNat) else none
theorem cut_some {α : Type} {l m : List α} {i j : Int} (h : cut l i j = some m) : (0 ≤ i ∧ i ≤ j ∧ j ≤ (l.length : Int)) ∧ m = (l.take j.toNat).drop i.toNat := by
  unfold cut at h; split at h
  · exact ⟨by assumption, (Option.some.inj h).symm⟩
  · cases h
theorem cut_ok {α : Type} {l : List α} {i j : Int} (h1 : 0 ≤ i) (h2 : i ≤ j) (h3 : j ≤ (l.length : Int)) : cut l i j = some ((l.take j.toNat).drop i.toNat) := by unfold cut; rw [if_pos ⟨h1, h2, h3⟩]
theorem cut_of {α : Type} {l : List α} {i j : Int} {a b : Nat} (hi : i = (a : Int)) (hj : j = (b : Int)) (h : a ≤ b) (hb : b ≤ l.length) : cut l i j = some ((l.take b).drop a) := by
  subst hi hj; rw [cut_ok (by omega) (by omega) (by omega)]; rfl
theorem cut_from {α : Type} {l : List α} {i : Int} {a : Nat} (hi : i = (a : Int)) (h : a ≤ l.length) : cut l i (l.length : Int) = some (l.drop a) := by
  rw [cut_of hi rfl h (Nat.le_refl _), List.take_length]
theorem cut_to {α : Type} {l : List α} {j : Int} {b : Nat} (hj : j = (b : Int)) (h : b ≤ l.length) : cut l 0 j = some (l.take b) := by
  have := cut_of (l := l) (i := 0) (a := 0) rfl hj (Nat.zero_le _) h
  rwa [List.drop_zero] at this
/-- s + t -/
def cat (a b : List UInt8) : Option (List UInt8) := if a.length + b.length ≤ 9223372036854775807 then some (a ++ b) else none
theorem cat_ok {a b : List UInt8} (h : a.length + b.length ≤ 9223372036854775807) : cat a b = some (a ++ b) := by unfold cat; rw [if_pos h]
theorem cat_some {a b c : List UInt8} (h : cat a b = some c) : a.length + b.length ≤ 9223372036854775807 ∧ c = a ++ b := by
  unfold cat at h; split at h
  · exact ⟨by assumption, (Option.some.inj h).symm⟩
  · cases h
/-- append(a, b...) where an element takes w bytes -/
def app {α : Type} (w : Nat) (a b : List α) : Option (List α) := if (a.length + b.length) * w ≤ 140737488355328 then some (a ++ b) else none
theorem app_ok {α : Type} {w : Nat} {a b : List α} (h : (a.length + b.length) * w ≤ 140737488355328) : app w a b = some (a ++ b) := by unfold app; rw [if_pos h]
theorem app_some {α : Type} {w : Nat} {a b c : List α} (h : app w a b = some c) : (a.length + b.length) * w ≤ 140737488355328 ∧ c = a ++ b := by
  unfold app at h; split at h
  · exact ⟨by assumption, (Option.some.inj h).symm⟩
  · cases h
/-- l[i] = a -/
def put {α : Type} (l : List α) (i : Int) (a : α) : Option (List α) := if 0 ≤ i ∧ i < (l.length : Int) then some (l.set i.toNat a) else none
theorem put_some {α : Type} {l m : List α} {i : Int} {a : α} (h : put l i a = some m) : (0 ≤ i ∧ i < (l.length : Int)) ∧ m = l.set i.toNat a := by
  unfold put at h; split at h
  · exact ⟨by assumption, (Option.some.inj h).symm⟩
  · cases h
theorem put_ok {α : Type} {l : List α} {i : Int} {a : α} (h1 : 0 ≤ i) (h2 : i < (l.length : Int)) : put l i a = some (l.set i.toNat a) := by unfold put; rw [if_pos ⟨h1, h2⟩]
/-- arrays of n elements -/
def idxA {α : Type} (n : Nat) (l : List α) (i : Int) : Option α := if l.length = n then idx l i else none
theorem idxA_some {α : Type} {n : Nat} {l : List α} {i : Int} {a : α} (h : idxA n l i = some a) : l.length = n ∧ idx l i = some a := by
  unfold idxA at h; split at h
  · exact ⟨by assumption, h⟩
  · cases h
def putA {α : Type} (n : Nat) (l : List α) (i : Int) (a : α) : Option (List α) := if l.length = n then put l i a else none
theorem putA_some {α : Type} {n : Nat} {l m : List α} {i : Int} {a : α} (h : putA n l i a = some m) : l.length = n ∧ put l i a = some m := by
  unfold putA at h; split at h
  · exact ⟨by assumption, h⟩
  · cases h
def chkA {α : Type} (n : Nat) (l : List α) : Option (List α) := if l.length = n then some l else none
theorem chkA_some {α : Type} {n : Nat} {l m : List α} (h : chkA n l = some m) : l.length = n ∧ m = l := by
  unfold chkA at h; split at h
  · exact ⟨by assumption, (Option.some.inj h).symm⟩
  · cases h
theorem chkA_ok {α : Type} {n : Nat} {l : List α} (h : l.length = n) : chkA n l = some l := by unfold chkA; rw [if_pos h]
/-- a / b, a % b -/
def quo (a b : Int) : Option Int := if b = 0 then none else chk (a.tdiv b)
theorem quo_some {a b c : Int} (h : quo a b = some c) : b ≠ 0 ∧ (-9223372036854775808 ≤ a.tdiv b ∧ a.tdiv b ≤ 9223372036854775807) ∧ c = a.tdiv b := by
  unfold quo at h; split at h
  · cases h
  · exact ⟨by assumption, chk_some h⟩
def rem (a b : Int) : Option Int := if b = 0 then none else some (a.tmod b)
theorem rem_some {a b c : Int} (h : rem a b = some c) : b ≠ 0 ∧ c = a.tmod b := by
  unfold rem at h; split at h
  · cases h
  · exact ⟨by assumption, (Option.some.inj h).symm⟩
/-- a string as bytes -/
def toB (l : List UInt8) : Option (List UInt8) := if l.length ≤ 9223372036854775807 then some l else none
theorem toB_ok {l : List UInt8} (h : l.length ≤ 9223372036854775807) : toB l = some l := by unfold toB; rw [if_pos h]
theorem toB_some {l m : List UInt8} (h : toB l = some m) : l.length ≤ 9223372036854775807 ∧ m = l := by
  unfold toB at h; split at h
  · exact ⟨by assumption, (Option.some.inj h).symm⟩
  · cases h
/-- where a byte first is -/
def ixB (l : List UInt8) (c : UInt8) : Int := if l.idxOf c < l.length then (l.idxOf c : Int) else -1
/-- texts, joined -/
def jn (sep : List UInt8) : List (List UInt8) → List UInt8
  | [] => []
  | [x] => x
  | x :: y :: r => x ++ (sep ++ jn sep (y :: r))
/-- the byte of a number -/
def ub8 (a : Int) : UInt8 := UInt8.ofNat (a % 256).toNat
end Go.Ph.Pl
