/-
  B64Plain, Ref, Dec, Grp, Wpf, Wct1: own texts of this repository (wip/tpl, wip/plans), merged and shaken by wip/tools/pack.py.
-/
import Derived.KernelRfl
import Derived.Test.YtogkmhjnojphiaaGreatDoorProg
import Derived.Test.YtogkmhjnojphiaaGreatDoorE2c
set_option maxRecDepth 100000
section
set_option linter.unusedVariables false
set_option linter.unusedSimpArgs false
namespace Go.Ph.B64
def alpha : List UInt8 := [65, 66, 67, 68, 69, 70, 71, 72, 73, 74, 75, 76, 77, 78, 79, 80, 81, 82, 83, 84, 85, 86, 87, 88, 89, 90, 97, 98, 99, 100, 101, 102, 103, 104, 105, 106, 107, 108, 109, 110, 111, 112, 113, 114, 115, 116, 117, 118, 119, 120, 121, 122, 48, 49, 50, 51, 52, 53, 54, 55, 56, 57, 43, 47]
theorem alpha_len : alpha.length = 64 := rfl
def idx (c : UInt8) : Nat := alpha.idxOf c
def val64 (c : UInt8) : Int := if idx c < 64 then (idx c : Int) else -1
theorem val64_at (c : UInt8) (k : Nat) (hk : k < alpha.length) (h : alpha[k] = c) (hb : ∀ j, (hj : j < alpha.length) → j < k → alpha[j] ≠ c) : val64 c = (k : Int) := by
  have h1 : idx c = k := by
    unfold idx
    rw [List.idxOf, List.findIdx_eq hk]
    refine ⟨by simp [h], fun j hj => ?_⟩
    have := hb j (by omega) hj
    simpa using this
  rw [alpha_len] at hk
  simp [val64, h1, hk]
theorem val64_none (c : UInt8) (hb : ∀ j, (hj : j < alpha.length) → j < 64 → alpha[j] ≠ c) : val64 c = -1 := by
  have h : c ∉ alpha := by
    intro hm
    obtain ⟨j, hj, e⟩ := List.getElem_of_mem hm
    exact hb j hj (by rw [alpha_len] at hj; omega) e
  have h1 : idx c = 64 := by
    unfold idx
    rw [List.idxOf_eq_length h]; rfl
  simp [val64, h1]
def bits8 (u : Nat) : List Nat := [u / 128 % 2, u / 64 % 2, u / 32 % 2, u / 16 % 2, u / 8 % 2, u / 4 % 2, u / 2 % 2, u / 1 % 2]
def bits6 (u : Nat) : List Nat := [u / 32 % 2, u / 16 % 2, u / 8 % 2, u / 4 % 2, u / 2 % 2, u / 1 % 2]
def bitsOf (l : List UInt8) : List Nat := l.flatMap fun u => bits8 u.toNat
def sumN (l : List Nat) : Nat := l.foldl (fun n x => 2 * n + x) 0
theorem bits8_len (u : Nat) : (bits8 u).length = 8 := rfl
theorem bits8_at (u j : Nat) (hj : j < 8) : (bits8 u)[j]'(by rw [bits8_len]; exact hj) = u / 2 ^ (7 - j) % 2 := by
  match j, hj with
  | 0, _ => rfl
  | 1, _ => rfl
  | 2, _ => rfl
  | 3, _ => rfl
  | 4, _ => rfl
  | 5, _ => rfl
  | 6, _ => rfl
  | 7, _ => rfl
theorem bits6_len (u : Nat) : (bits6 u).length = 6 := rfl
theorem bits6_at (u j : Nat) (hj : j < 6) : (bits6 u)[j]'(by rw [bits6_len]; exact hj) = u / 2 ^ (5 - j) % 2 := by
  match j, hj with
  | 0, _ => rfl
  | 1, _ => rfl
  | 2, _ => rfl
  | 3, _ => rfl
  | 4, _ => rfl
  | 5, _ => rfl
theorem bitsOf_len (l : List UInt8) : (bitsOf l).length = 8 * l.length := by
  induction l with
  | nil => rfl
  | cons u l ih => simp only [bitsOf, List.flatMap_cons, List.length_append, bits8_len, List.length_cons] at ih ⊢; omega
theorem bitsOf_take (l : List UInt8) (k : Nat) (hk : k < l.length) : bitsOf (l.take (k + 1)) = bitsOf (l.take k) ++ bits8 (l[k]).toNat := by
  rw [List.take_succ_eq_append_getElem hk]
  unfold bitsOf
  rw [List.flatMap_append]
  simp only [List.flatMap_cons, List.flatMap_nil, List.append_nil]
theorem sumN_snoc (l : List Nat) (x : Nat) : sumN (l ++ [x]) = 2 * sumN l + x := by simp [sumN]
theorem sumN_acc (l : List Nat) (h : ∀ x ∈ l, x ≤ 1) : ∀ a, l.foldl (fun n x => 2 * n + x) a < (a + 1) * 2 ^ l.length := by
  induction l with
  | nil => intro a; simp
  | cons x l ih =>
    intro a
    have h1 := ih (fun y hy => h y (by simp [hy])) (2 * a + x)
    have h2 := h x (by simp)
    rw [List.foldl_cons, List.length_cons, Nat.pow_succ]
    refine Nat.lt_of_lt_of_le h1 ?_
    rw [Nat.mul_comm (2 ^ l.length) 2, ← Nat.mul_assoc]
    exact Nat.mul_le_mul_right _ (by omega)
theorem sumN_lt (l : List Nat) (h : ∀ x ∈ l, x ≤ 1) : sumN l < 2 ^ l.length := by
  have := sumN_acc l h 0
  simpa [sumN] using this
theorem bitsOf_next {l : List UInt8} {k : Nat} {u : UInt8} (hu : l[k]? = some u) : bitsOf (l.take (k + 1)) = bitsOf (l.take k) ++ bits8 u.toNat := by
  obtain ⟨hk, rfl⟩ := List.getElem?_eq_some_iff.1 hu
  exact bitsOf_take l k hk
theorem bits8_next (u j : Nat) (hj : j < 8) : (bits8 u).take (j + 1) = (bits8 u).take j ++ [u / 2 ^ (7 - j) % 2] := by
  rw [List.take_succ_eq_append_getElem (by rw [bits8_len]; exact hj), bits8_at u j hj]
theorem bits6_next (u j : Nat) (hj : j < 6) : (bits6 u).take (j + 1) = (bits6 u).take j ++ [u / 2 ^ (5 - j) % 2] := by
  rw [List.take_succ_eq_append_getElem (by rw [bits6_len]; exact hj), bits6_at u j hj]
def padBits (l : List UInt8) : List Nat := bitsOf l ++ List.replicate ((6 - 8 * l.length % 6) % 6) 0
theorem padBits_len (l : List UInt8) : (padBits l).length = 8 * l.length + (6 - 8 * l.length % 6) % 6 := by simp [padBits, bitsOf_len]
theorem bits8_le (u : Nat) : ∀ x ∈ bits8 u, x ≤ 1 := by
  intro x hx
  simp only [bits8, List.mem_cons, List.not_mem_nil, or_false] at hx
  omega
theorem bits6_le (u : Nat) : ∀ x ∈ bits6 u, x ≤ 1 := by
  intro x hx
  simp only [bits6, List.mem_cons, List.not_mem_nil, or_false] at hx
  omega
theorem bitsOf_le (l : List UInt8) : ∀ x ∈ bitsOf l, x ≤ 1 := by
  intro x hx
  obtain ⟨u, _, h⟩ := List.mem_flatMap.1 hx
  exact bits8_le _ x h
theorem padBits_le (l : List UInt8) : ∀ x ∈ padBits l, x ≤ 1 := by
  intro x hx
  rcases List.mem_append.1 hx with h | h
  · exact bitsOf_le l x h
  · rw [(List.mem_replicate.1 h).2]; omega
theorem part_le {l : List Nat} (h : ∀ x ∈ l, x ≤ 1) (i j : Nat) : ∀ x ∈ (l.take j).drop i, x ≤ 1 := fun x hx => h x (List.mem_of_mem_take (List.mem_of_mem_drop hx))
def six (bits : List Nat) (q : Nat) : Nat := sumN ((bits.take (6 * q + 6)).drop (6 * q))
def eight (bits : List Nat) (q : Nat) : Nat := sumN ((bits.take (8 * q + 8)).drop (8 * q))
theorem six_lt {bits : List Nat} (h : ∀ x ∈ bits, x ≤ 1) (q : Nat) : six bits q < 64 := by
  have h1 := sumN_lt _ (part_le h (6 * q) (6 * q + 6))
  have h2 : 2 ^ ((bits.take (6 * q + 6)).drop (6 * q)).length ≤ 2 ^ 6 := Nat.pow_le_pow_right (by decide) (by simp only [List.length_drop, List.length_take]; omega)
  unfold six
  omega
theorem eight_lt {bits : List Nat} (h : ∀ x ∈ bits, x ≤ 1) (q : Nat) : eight bits q < 256 := by
  have h1 := sumN_lt _ (part_le h (8 * q) (8 * q + 8))
  have h2 : 2 ^ ((bits.take (8 * q + 8)).drop (8 * q)).length ≤ 2 ^ 8 := Nat.pow_le_pow_right (by decide) (by simp only [List.length_drop, List.length_take]; omega)
  unfold eight
  omega
def sext (bits : List Nat) : Nat → List UInt8
  | 0 => []
  | q + 1 => sext bits q ++ (alpha.take (six bits q + 1)).drop (six bits q)
theorem alpha_one (k : Nat) (h : k < 64) : (alpha.take (k + 1)).drop k = [alpha.getD k 0] := by
  have hk : k < alpha.length := by rw [alpha_len]; exact h
  rw [List.take_succ_eq_append_getElem hk, List.drop_append_of_le_length (by rw [List.length_take, alpha_len]; omega), List.drop_eq_nil_of_le (by rw [List.length_take]; omega)]
  simp [List.getD, hk]
theorem sext_len {bits : List Nat} (h : ∀ x ∈ bits, x ≤ 1) (q : Nat) : (sext bits q).length = q := by
  induction q with
  | zero => rfl
  | succ q ih => rw [sext, List.length_append, ih, alpha_one _ (six_lt h q)]; rfl
def chars64 (l : List UInt8) : List UInt8 :=
  let s := sext (padBits l) ((padBits l).length / 6)
  s ++ List.replicate ((4 - s.length % 4) % 4) 61
def wrapTo (cs : List UInt8) : Nat → List UInt8
  | 0 => []
  | m + 1 => wrapTo cs m ++ (cs.drop (76 * m)).take 76 ++ [13, 10]
def lines64 (cs : List UInt8) : List UInt8 := wrapTo cs ((cs.length - 1) / 76) ++ (if cs.drop (76 * ((cs.length - 1) / 76)) = [] then [] else cs.drop (76 * ((cs.length - 1) / 76)) ++ [13, 10])
def vb (c : UInt8) : List Nat := if val64 c < 0 then [] else bits6 (val64 c).toNat
def vbits (l : List UInt8) : List Nat := l.flatMap vb
theorem vbits_next {l : List UInt8} {k : Nat} {u : UInt8} (hu : l[k]? = some u) : vbits (l.take (k + 1)) = vbits (l.take k) ++ vb u := by
  obtain ⟨hk, rfl⟩ := List.getElem?_eq_some_iff.1 hu
  rw [List.take_succ_eq_append_getElem hk]
  unfold vbits
  rw [List.flatMap_append]
  simp only [List.flatMap_cons, List.flatMap_nil, List.append_nil]
theorem vb_done (u : UInt8) (j : Nat) (h : (6 ≤ j ∧ 0 ≤ val64 u) ∨ (j = 0 ∧ val64 u < 0)) : (bits6 (val64 u).toNat).take j = vb u := by
  unfold vb
  rcases h with ⟨h1, h2⟩ | ⟨h1, h2⟩
  · rw [if_neg (by omega), List.take_of_length_le (by rw [bits6_len]; omega)]
  · rw [if_pos h2, h1]; rfl
theorem vb_len (u : UInt8) : (vb u).length ≤ 6 := by unfold vb; split <;> simp [bits6]
theorem vbits_len (l : List UInt8) : (vbits l).length ≤ 6 * l.length := by
  induction l with
  | nil => simp [vbits]
  | cons u l ih => have := vb_len u; simp only [vbits, List.flatMap_cons, List.length_append, List.length_cons] at ih ⊢; omega
theorem vbits_le (l : List UInt8) : ∀ x ∈ vbits l, x ≤ 1 := by
  intro x hx
  obtain ⟨u, _, h⟩ := List.mem_flatMap.1 hx
  unfold vb at h
  split at h
  · cases h
  · exact bits6_le _ x h
def upto61 (l : List UInt8) : List UInt8 := l.takeWhile (· != 61)
theorem upto61_eq (l : List UInt8) (k : Nat) (hb : ∀ j u, l[j]? = some u → j < k → u ≠ 61) (he : l.length ≤ k ∨ l[k]? = some 61) : upto61 l = l.take k := by
  induction l generalizing k with
  | nil => simp [upto61]
  | cons u l ih =>
    cases k with
    | zero =>
      have : u = 61 := by simpa using he
      subst this
      rfl
    | succ k =>
      have h1 : u ≠ 61 := hb 0 u rfl (by omega)
      have h2 := ih k (fun j v hj hk => hb (j + 1) v (by simpa using hj) (by omega)) (by simpa using he)
      unfold upto61 at h2 ⊢
      rw [List.takeWhile_cons_of_pos (by simpa using h1), h2]
      rfl
def octs (bits : List Nat) : Nat → List UInt8
  | 0 => []
  | q + 1 => octs bits q ++ [UInt8.ofNat (eight bits q)]
theorem octs_len (bits : List Nat) (q : Nat) : (octs bits q).length = q := by
  induction q with
  | zero => rfl
  | succ q ih => simp [octs, ih]
def loose64 (l : List UInt8) : List UInt8 := octs (vbits (upto61 l)) ((vbits (upto61 l)).length / 8)
def lstep (s : List UInt8 × Nat × Nat) (c : UInt8) : List UInt8 × Nat × Nat :=
  if val64 c < 0 then s
  else if s.2.2 + 6 < 8 then (s.1, s.2.1 * 64 + idx c, s.2.2 + 6)
  else (s.1 ++ [UInt8.ofNat ((s.2.1 * 64 + idx c) / 2 ^ (s.2.2 + 6 - 8))], (s.2.1 * 64 + idx c) % 2 ^ (s.2.2 + 6 - 8), s.2.2 + 6 - 8)
def lrun (l : List UInt8) : List UInt8 × Nat × Nat := l.foldl lstep ([], 0, 0)
def lenient (l : List UInt8) : List UInt8 := (lrun (upto61 l)).1
theorem lrun_next {l : List UInt8} {k : Nat} {u : UInt8} (hu : l[k]? = some u) : lrun (l.take (k + 1)) = lstep (lrun (l.take k)) u := by
  obtain ⟨hk, rfl⟩ := List.getElem?_eq_some_iff.1 hu
  rw [List.take_succ_eq_append_getElem hk, lrun, List.foldl_append]
  rfl
theorem val64_idx {c : UInt8} (h : 0 ≤ val64 c) : val64 c = (idx c : Int) ∧ idx c < 64 := by
  unfold val64 at h ⊢
  split <;> rename_i hi
  · exact ⟨rfl, hi⟩
  · rw [if_neg hi] at h; omega
theorem lstep_inv (s : List UInt8 × Nat × Nat) (c : UInt8) (h1 : s.2.2 ≤ 6 ∧ s.2.2 % 2 = 0) (h2 : s.2.1 < 2 ^ s.2.2) : ((lstep s c).2.2 ≤ 6 ∧ (lstep s c).2.2 % 2 = 0) ∧ (lstep s c).2.1 < 2 ^ (lstep s c).2.2 := by
  unfold lstep
  by_cases hv : val64 c < 0
  · rw [if_pos hv]; exact ⟨h1, h2⟩
  · rw [if_neg hv]
    have hi := (val64_idx (c := c) (by omega)).2
    by_cases hb : s.2.2 + 6 < 8
    · rw [if_pos hb]
      have h0 : s.2.2 = 0 := by omega
      rw [h0] at h2 ⊢
      exact ⟨by simp, by simp at h2 ⊢; omega⟩
    · rw [if_neg hb]
      exact ⟨by simp only []; omega, Nat.mod_lt _ (Nat.two_pow_pos _)⟩
theorem lrun_inv (l : List UInt8) : ((lrun l).2.2 ≤ 6 ∧ (lrun l).2.2 % 2 = 0) ∧ (lrun l).2.1 < 2 ^ (lrun l).2.2 := by
  have key : ∀ (l : List UInt8) (s : List UInt8 × Nat × Nat), ((s.2.2 ≤ 6 ∧ s.2.2 % 2 = 0) ∧ s.2.1 < 2 ^ s.2.2) → (((l.foldl lstep s).2.2 ≤ 6 ∧ (l.foldl lstep s).2.2 % 2 = 0) ∧ (l.foldl lstep s).2.1 < 2 ^ (l.foldl lstep s).2.2) := by
    intro l
    induction l with
    | nil => exact fun s h => h
    | cons c l ih => exact fun s h => ih _ (lstep_inv s c h.1 h.2)
  exact key l ([], 0, 0) (by simp)
theorem lrun_len (l : List UInt8) : (lrun l).1.length ≤ l.length := by
  have key : ∀ (l : List UInt8) (s : List UInt8 × Nat × Nat), (l.foldl lstep s).1.length ≤ s.1.length + l.length := by
    intro l
    induction l with
    | nil => intro s; simp
    | cons c l ih =>
      intro s
      have h1 := ih (lstep s c)
      have h2 : (lstep s c).1.length ≤ s.1.length + 1 := by unfold lstep; split <;> (try split) <;> simp
      simp only [List.foldl_cons, List.length_cons]
      omega
  have := key l ([], 0, 0)
  simpa [lrun] using this
theorem or_six (x v : Nat) (hv : v < 64) : x * 2 ^ 6 ||| v = x * 64 + v := by
  have := Nat.two_pow_add_eq_or_of_lt (i := 6) (b := v) (by omega) x
  rw [Nat.mul_comm x, ← this, Nat.mul_comm]
theorem and_mask (x s : Nat) : x &&& (2 ^ s - 1) = x % 2 ^ s := Nat.and_two_pow_sub_one_eq_mod x s
theorem oct_lt (x v b : Nat) (h1 : b ≤ 6 ∧ b % 2 = 0) (h2 : x < 2 ^ b) (hv : v < 64) (hb : 8 ≤ b + 6) : (x * 64 + v) / 2 ^ (b + 6 - 8) < 256 := by
  obtain h | h | h : b = 2 ∨ b = 4 ∨ b = 6 := by omega
  all_goals (subst h; simp at h2 ⊢; omega)
theorem getD_out {α : Type} (l : List α) (i : Nat) (d : α) (h : l.length ≤ i) : l.getD i d = d := by
  rw [List.getD_eq_getElem?_getD, List.getElem?_eq_none h]; rfl
theorem getD_in {α : Type} (l : List α) (i : Nat) (d : α) (h : i < l.length) : l.getD i d = l[i] := by
  rw [List.getD_eq_getElem?_getD, List.getElem?_eq_getElem h]; rfl
def accN (l : List UInt8) : Nat → Nat
  | 0 => 0
  | i + 1 => accN l i * 256 + (l.getD i 0).toNat
theorem accN_out (l : List UInt8) (i : Nat) (h : l.length ≤ i) : accN l i * 256 = accN l (i + 1) := by
  rw [accN, getD_out _ _ _ h]; simp
theorem accN_lt (l : List UInt8) (i : Nat) : accN l i < 256 ^ i := by
  induction i with
  | zero => simp [accN]
  | succ i ih =>
    have := (l.getD i 0).toNat_lt
    rw [accN, Nat.pow_succ]
    omega
def ch (l : List UInt8) (i : Nat) : UInt8 := if min 3 l.length < i then 61 else alpha.getD (accN l 3 / 2 ^ (18 - 6 * i) % 64) 0
def outp (l : List UInt8) (j : Nat) : List UInt8 := (List.range 4).map fun i => if i < j then ch l i else 0
theorem outp_set (l : List UInt8) (j : Nat) (hj : j < 4) : (outp l j).set j (ch l j) = outp l (j + 1) := by
  match j, hj with
  | 0, _ => rfl
  | 1, _ => rfl
  | 2, _ => rfl
  | 3, _ => rfl
def grpAt (l : List UInt8) (k : Nat) : List UInt8 := outp (l.drop (3 * k)) 4
def grpsTo (l : List UInt8) (k : Nat) : List (List UInt8) := (List.range k).map (grpAt l)
def grps (l : List UInt8) : List (List UInt8) := grpsTo l ((l.length + 2) / 3)
theorem grpsTo_next (l : List UInt8) (k : Nat) : grpsTo l (k + 1) = grpsTo l k ++ [grpAt l k] := by
  simp [grpsTo, List.range_succ]
theorem grpsTo_ini (l : List UInt8) (k : Nat) (h : 3 * k < l.length) : (grpsTo l k ++ [grpAt l k]) <+: grps l := by
  rw [← grpsTo_next]
  refine ⟨((List.range' (k + 1) ((l.length + 2) / 3 - (k + 1))).map (grpAt l)), ?_⟩
  unfold grps grpsTo
  rw [← List.map_append]
  have h1 : List.range (k + 1) ++ List.range' (k + 1) ((l.length + 2) / 3 - (k + 1)) = List.range ((l.length + 2) / 3) := by
    have h2 := List.range'_append_1 (s := 0) (m := k + 1) (n := (l.length + 2) / 3 - (k + 1))
    rw [Nat.zero_add] at h2
    rw [List.range_eq_range', List.range_eq_range', h2]
    congr 1
    omega
  rw [h1]
theorem drop_next (l : List UInt8) (k n : Nat) (hn : n = min 3 (l.drop (3 * k)).length) : (l.drop (3 * k)).drop n = l.drop (3 * (k + 1)) := by
  rw [List.drop_drop]
  simp only [List.length_drop] at hn
  by_cases h : 3 ≤ l.length - 3 * k
  · rw [show 3 * k + n = 3 * (k + 1) by omega]
  · rw [List.drop_eq_nil_of_le (by omega), List.drop_eq_nil_of_le (by omega)]
theorem or_eight (x : Nat) (v : UInt8) : x * 2 ^ 8 ||| v.toNat = x * 256 + v.toNat := by
  have := Nat.two_pow_add_eq_or_of_lt (i := 8) (b := v.toNat) (by have := v.toNat_lt; omega) x
  rw [Nat.mul_comm x, ← this, Nat.mul_comm]
def encStep (s : List UInt8 × Nat) (g : List UInt8) : List UInt8 × Nat := if s.2 = 76 then (s.1 ++ [13, 10] ++ g, 4) else (s.1 ++ g, s.2 + 4)
def encRun (gs : List (List UInt8)) : List UInt8 × Nat := gs.foldl encStep ([], 0)
def encode (l : List UInt8) : List UInt8 := if 0 < (encRun (grps l)).2 then (encRun (grps l)).1 ++ [13, 10] else (encRun (grps l)).1
theorem encRun_next (gs : List (List UInt8)) (g : List UInt8) : encRun (gs ++ [g]) = encStep (encRun gs) g := by simp [encRun]
theorem grps_len (l : List UInt8) : (grps l).length = (l.length + 2) / 3 := by simp [grps, grpsTo]
theorem ini_len {l x : List UInt8} {pre : List (List UInt8)} (h : (pre ++ [x]) <+: grps l) : x.length = 4 ∧ (∀ g ∈ pre, g.length = 4) ∧ pre.length + 1 ≤ (l.length + 2) / 3 := by
  refine ⟨?_, fun g hg => ?_, ?_⟩
  · obtain ⟨k, _, rfl⟩ := List.mem_map.1 (h.subset (List.mem_append_right _ (List.mem_singleton.2 rfl))); rfl
  · obtain ⟨k, _, rfl⟩ := List.mem_map.1 (h.subset (List.mem_append_left _ hg)); rfl
  · have := h.length_le
    rw [grps_len] at this
    simpa using this
theorem grps_all (l : List UInt8) : ∀ g ∈ grps l, g.length = 4 := fun g hg => by
  obtain ⟨k, _, rfl⟩ := List.mem_map.1 hg; rfl
theorem encRun_inv (gs : List (List UInt8)) (h : ∀ g ∈ gs, g.length = 4) : (encRun gs).1.length ≤ 6 * gs.length ∧ (encRun gs).2 ≤ 76 ∧ (encRun gs).2 % 4 = 0 := by
  have key : ∀ (gs : List (List UInt8)) (s : List UInt8 × Nat), (∀ g ∈ gs, g.length = 4) → s.2 ≤ 76 → s.2 % 4 = 0 → (gs.foldl encStep s).1.length ≤ s.1.length + 6 * gs.length ∧ (gs.foldl encStep s).2 ≤ 76 ∧ (gs.foldl encStep s).2 % 4 = 0 := by
    intro gs
    induction gs with
    | nil => intro s _ h1 h2; exact ⟨by simp, h1, h2⟩
    | cons g gs ih =>
      intro s hg h1 h2
      have hg4 : g.length = 4 := hg g List.mem_cons_self
      have h3 : (encStep s g).1.length ≤ s.1.length + 6 ∧ (encStep s g).2 ≤ 76 ∧ (encStep s g).2 % 4 = 0 := by
        unfold encStep
        split
        · simp [hg4]
        · simp [hg4]; omega
      have := ih (encStep s g) (fun x hx => hg x (List.mem_cons_of_mem _ hx)) h3.2.1 h3.2.2
      simp only [List.foldl_cons, List.length_cons]
      omega
  have := key gs ([], 0) h (by simp) (by simp)
  simpa [encRun] using this
end Go.Ph.B64
end
section
set_option linter.unusedVariables false
set_option linter.unusedSimpArgs false
namespace Go.Proofs.YtogkmhjnojphiaaGreatDoor
open Go Go.RowKit Go.Ph
open Go.Ph.B64
theorem b_eq {a c : UInt8} : ((a.toNat : Int) = (c.toNat : Int)) ↔ a = c := by rw [Int.ofNat_inj, UInt8.toNat_inj]
theorem value64_spec (c : UInt8) : Ct Tryz.prog 141 [encB c] (fun _ => True) (fun r _ => r = I (val64 c)) := by
  refine Ct.of Tryz.func141 (enters Tryz.func141 (by kernel_rfl) rfl) rfl rfl rfl ?_
  intro w0 M0 H hp
  refine SQ (RG (AS rfl rfl (NL (TN (SQ (SQ (RG (AS rfl rfl (NL (TN (BL (WC.loop1 (fun (k : Nat) => [(0, encB c), (3, I (k : Int))]) (fun (k : Nat) w => k ≤ 64 ∧ (∀ j, (hj : j < alpha.length) → j < k → alpha[j] ≠ c) ∧ St w0 M0 M0 [] w) (fun (k : Nat) => 64 - k) (0) ⟨rfl, rfl, trivial⟩ (⟨by omega, fun _ _ h => by omega, H⟩) ?_))))))))))))
  intro k w
  rintro ⟨hk, hb, H⟩
  refine SQ (SQ (RG (MV rfl rfl ?_)))
  refine WR.split (Ex.lss rfl rfl) (Wn.none rfl) rfl rfl (fun h2_1 => ?_) (fun h2_1 => ?_)
  · refine NL (TN (CT rfl (SK (TN (SQ (BL (SQ (RG (MV rfl rfl ?_)))))))))
    refine WR.step (Ex.idxStr (l := alpha) Tryz.underlying9 rfl rfl (List.getElem?_eq_getElem (by rw [alpha_len]; omega))) (Wn.none rfl) rfl rfl ?_
    refine MV rfl rfl ?_
    refine WR.split (Ex.eql rfl rfl) (Wn.none rfl) rfl rfl (fun h4_3 => ?_) (fun h4_3 => ?_)
    · refine NL (TN (CT rfl (SQ (RG (MV rfl rfl (AS rfl rfl (NL (TN (RT ?_)))))))))
      refine WQ.ret1 rfl rfl H.ext ?_
      exact (congrArg I (val64_at c k _ (b_eq.1 h4_3) hb).symm)
    · refine NL (TN (CF rfl (SK (IB (TN (RG (MV rfl rfl (ST (Ex.add64 rfl rfl (by omega)) rfl ?_))))))))
      refine AS rfl rfl (NL ?_)
      refine WQ.again1 (k + 1) ⟨rfl, rfl, trivial⟩ ?_ ?_
      · refine ⟨by omega, fun j hj hjk => ?_, H⟩
        rcases Nat.lt_or_ge j k with h | h
        · exact hb j hj h
        · obtain rfl : j = k := by omega
          exact fun h => h4_3 (b_eq.2 h)
      · omega
  · refine NL (TN (CF rfl (WC.exit (WQ.thenExit (WQ.thenExit (WQ.exitHere (TN (SQ (RG (AS rfl rfl (NL (TN (RT ?_)))))))))))))
    refine WQ.ret1 rfl rfl H.ext ?_
    exact (congrArg I (val64_none c (fun j hj h => hb j hj (by omega))).symm)
theorem sum_spec (v : Value) (l : List Nat) (hs : l.length ≤ 8) (h1 : ∀ x ∈ l, x ≤ 1) : Ct Tryz.prog 136 [v] (fun M => Sl M encN v l) (fun r _ => r = encN (sumN l)) := by
  refine Ct.of Tryz.func136 (enters Tryz.func136 (by kernel_rfl) rfl) rfl rfl rfl ?_
  intro w0 M0 H hp
  refine SQ (RG (AS rfl rfl (NL (TN (SQ (RG (AS rfl rfl (NL (TN (SQ (SQ (RG (AS rfl rfl (NL (TN (BL (WC.loop1 (fun (k : Nat) => [(0, v), (3, encN (sumN (l.take k))), (4, I (k : Int))]) (fun (k : Nat) w => k ≤ l.length ∧ St w0 M0 M0 [] w) (fun (k : Nat) => l.length - k) (0) ⟨rfl, rfl, rfl, trivial⟩ (⟨by omega, H⟩) ?_)))))))))))))))))
  intro k w
  rintro ⟨hk, H⟩
  have hb := sumN_lt (l.take k) (fun x hx => h1 x (List.mem_of_mem_take hx))
  have hb2 : 2 ^ (l.take k).length ≤ 2 ^ 8 := Nat.pow_le_pow_right (by decide) (by rw [List.length_take]; omega)
  refine SQ (SQ (RG (MV rfl rfl (MV rfl rfl ?_))))
  first | refine WR.step (Ex.lenSl Tryz.underlying107 (by assumption) rfl) (Wn.none rfl) rfl rfl ?_ | refine WR.step (Ex.lenRow Tryz.underlying107 H (by repeat (first | exact List.Mem.head _ | apply List.Mem.tail)) rfl) (Wn.none rfl) rfl rfl ?_ | refine WR.step (Ex.lenSlice Tryz.underlying107 rfl) (Wn.none rfl) rfl rfl ?_
  refine WR.split (Ex.lss rfl rfl) (Wn.none rfl) rfl rfl (fun h3_3 => ?_) (fun h3_3 => ?_)
  · refine NL (TN (CT rfl (SK (TN (SQ (BL (RG (MV rfl rfl (ST (Ex.mul64 rfl rfl (by omega)) rfl ?_)))))))))
    refine MV rfl rfl (MV rfl rfl ?_)
    refine WR.idxSl Tryz.underlying107 Tryz.sizeOf3 (by assumption) rfl rfl (List.getElem?_eq_getElem (by omega)) (Wn.none rfl) rfl ?_
    intro p15 hc15
    first | refine WR.step (Ex.loadM H rfl (by assumption) Tryz.isAgg3) (Wn.none rfl) rfl rfl ?_ | refine WR.step (Ex.load1 H rfl (by repeat (first | exact List.Mem.head _ | apply List.Mem.tail)) Tryz.isAgg3 (by rfl)) (Wn.none rfl) rfl rfl ?_
    have hx1 := h1 l[k] (List.getElem_mem _)
    refine WR.stepE (v' := encN (sumN (l.take (k + 1)))) (Ex.add64 rfl rfl (by omega)) (by rw [List.take_succ_eq_append_getElem (by omega), sumN_snoc]; simp) (Wn.none rfl) rfl rfl ?_
    refine AS rfl rfl (NL (IB (TN (RG (MV rfl rfl (ST (Ex.add64 rfl rfl (by omega)) rfl ?_))))))
    refine AS rfl rfl (NL ?_)
    refine WQ.again1 (k + 1) ⟨rfl, rfl, rfl, trivial⟩ ?_ ?_
    · exact ⟨by omega, H⟩
    · omega
  · refine NL (TN (CF rfl (WC.exit (WQ.thenExit (WQ.thenExit (WQ.exitHere (TN (SQ (RG (MV rfl rfl (AS rfl rfl (NL (TN (RT ?_))))))))))))))
    refine WQ.ret1 rfl rfl H.ext ?_
    exact (by rw [List.take_of_length_le (by omega)])
theorem ub_nat (n : Nat) (h : n < 256) : ub (n : Int) = UInt8.ofNat n := by unfold ub; congr 1; omega
theorem mod2 (x : Nat) : I ((x : Int) % 2) = encN (x % 2) := rfl
theorem bits_spec (b : Value) (l : List UInt8) (hs : l.length ≤ 1000000) : CtO Tryz.prog 135 [b] (fun M => Bs M b l) (fun r _ its => its = [RowI 3 encN r (bitsOf l)]) := by
  refine CtO.of Tryz.func135 (enters Tryz.func135 (by kernel_rfl) rfl) rfl rfl rfl ?_
  intro w0 M0 H hp
  refine SQ (RG (AS rfl rfl (NL (TN (SQ (RG (AS rfl rfl (NL (TN (SQ (SQ (RG (AS rfl rfl (NL (TN (BL (WC.loop2 (fun (k : Nat) (v : Value) => [(0, b), (3, v), (4, I (k : Int))]) (fun (k : Nat) (v : Value) w => k ≤ l.length ∧ ∃ M, St w0 M0 M [RowI 3 encN v (bitsOf (l.take k))] w) (fun (k : Nat) (v : Value) => l.length - k) (0) (_) ⟨rfl, rfl, rfl, trivial⟩ (⟨by omega, M0, H.newRow 3 encN⟩) ?_)))))))))))))))))
  intro k v w
  rintro ⟨hk, M, H⟩
  have hb := hp.mono H.ext.le
  refine SQ (SQ (RG (MV rfl rfl (MV rfl rfl ?_))))
  first | refine WR.step (Ex.lenSl Tryz.underlying30 (by assumption) rfl) (Wn.none rfl) rfl rfl ?_ | refine WR.step (Ex.lenRow Tryz.underlying30 H (by repeat (first | exact List.Mem.head _ | apply List.Mem.tail)) rfl) (Wn.none rfl) rfl rfl ?_ | refine WR.step (Ex.lenSlice Tryz.underlying30 rfl) (Wn.none rfl) rfl rfl ?_
  refine WR.split (Ex.lss rfl rfl) (Wn.none rfl) rfl rfl (fun h3_3 => ?_) (fun h3_3 => ?_)
  · obtain ⟨u, hu⟩ : ∃ u, l[k]? = some u := ⟨_, List.getElem?_eq_getElem (by omega)⟩
    refine NL (TN (CT rfl (SK (TN (SQ (BL (SQ (RG (AS rfl rfl (NL (TN (BL (WC.loop2 (fun (j : Nat) (v : Value) => [(0, b), (3, v), (4, I (k : Int)), (5, I (7 - (j : Int)))]) (fun (j : Nat) (v : Value) w => j ≤ 8 ∧ ∃ M, St w0 M0 M [RowI 3 encN v (bitsOf (l.take k) ++ (bits8 u.toNat).take j)] w) (fun (j : Nat) (v : Value) => 8 - j) (0) (_) ⟨rfl, rfl, rfl, rfl, trivial⟩ (⟨by omega, M, by simpa using H⟩) ?_)))))))))))))
    intro j v w
    rintro ⟨hj, M, H⟩
    have hb := hp.mono H.ext.le
    have e1 := bitsOf_len (l.take k)
    have e2 : (l.take k).length ≤ l.length := List.length_take_le' _ _
    have e3 : ((bits8 u.toNat).take j).length ≤ 8 := by rw [List.length_take, bits8_len]; omega
    refine SQ (SQ (RG (MV rfl rfl ?_)))
    refine WR.split (Ex.geq rfl rfl) (Wn.none rfl) rfl rfl (fun h6_1 => ?_) (fun h6_1 => ?_)
    · refine NL (TN (CT rfl (SK (TN (SQ (BL (RG (MV rfl rfl (MV rfl rfl (MV rfl rfl (WR.idxSl Tryz.underlying30 Tryz.sizeOf5 (by assumption) rfl rfl (hu) (Wn.none rfl) rfl ?_)))))))))))
      intro p19 hc19
      first | refine WR.step (Ex.loadM H rfl (by assumption) Tryz.isAgg5) (Wn.none rfl) rfl rfl ?_ | refine WR.step (Ex.load1 H rfl (by repeat (first | exact List.Mem.head _ | apply List.Mem.tail)) Tryz.isAgg5 (by rfl)) (Wn.none rfl) rfl rfl ?_
      first | refine WR.step (Ex.convB Tryz.underlying5 Tryz.underlying3 rfl) (Wn.none rfl) rfl rfl ?_ | refine WR.step (Ex.convI Tryz.underlying5 Tryz.underlying3 rfl (by omega)) (Wn.none rfl) rfl rfl ?_
      refine WR.stepE (v' := I ((7 - j : Nat) : Int)) (Ex.move rfl) (congrArg I (by omega)) (Wn.none rfl) rfl rfl ?_
      refine ST (Ex.convU64 Tryz.underlying3 Tryz.underlying102 rfl (by omega)) rfl ?_
      refine ST (Ex.shrN (m := _) (s := _) rfl rfl (by first | (show _ ≤ 64; omega) | (show _ ≤ 8; omega) | decide)) rfl ?_
      refine WR.stepE (v' := encN (u.toNat / 2 ^ (7 - j) % 2)) (Ex.rem64 rfl rfl (by first | omega | exact ⟨Int.natCast_nonneg _, by decide⟩)) (mod2 _) (Wn.none rfl) rfl rfl ?_
      refine WR.lit (enc := encN) ty107 [_] H rfl (by rfl) (fun _ => rfl) rfl rfl (Wn.none rfl) rfl ?_
      intro v26 M w H hle hl26
      replace hb := hb.mono hle
      replace hc19 := hc19.mono hle
      refine WR.appendSl ty107 (fun _ => rfl) H rfl (fun _ => by repeat first | exact .head | apply Upd.tail) rfl (by assumption) (by first | omega | (simp only [List.length_append, List.length_cons, List.length_nil, List.length_take, List.length_drop]; omega) | (simp only [List.length_append, List.length_cons, List.length_nil, List.length_take, List.length_drop, List.length_replicate, bitsOf_len] at *; omega)) (by first | (simp only [maxLen]; omega) | (simp only [maxLen, List.length_append, List.length_cons, List.length_nil, List.length_take, List.length_drop]; omega) | (simp only [maxLen, List.length_append, List.length_cons, List.length_nil, List.length_take, List.length_drop, List.length_replicate, bitsOf_len] at *; omega)) (Wn.none rfl) rfl ?_
      intro v27 w H
      refine AS rfl rfl (NL (IB (TN (RG (MV rfl rfl (WR.stepE (v' := I (7 - ((j + 1 : Nat) : Int))) (Ex.sub64 rfl rfl (by omega)) (congrArg I (by omega)) (Wn.none rfl) rfl rfl ?_))))))
      refine AS rfl rfl (NL ?_)
      refine WQ.again2 (j + 1) (v27) ⟨rfl, rfl, rfl, rfl, trivial⟩ ?_ ?_
      · refine ⟨by omega, M, ?_⟩
        rw [bits8_next _ _ (by omega), ← List.append_assoc]
        exact H
      · omega
    · refine NL (TN (CF rfl (WC.exit (WQ.thenExit (WQ.thenExit (WQ.exitHere (IB (TN (RG (MV rfl rfl (ST (Ex.add64 rfl rfl (by omega)) rfl ?_)))))))))))
      refine AS rfl rfl (NL ?_)
      refine WQ.again2 (k + 1) (v) ⟨rfl, rfl, rfl, trivial⟩ ?_ ?_
      · refine ⟨by omega, M, ?_⟩
        rw [bitsOf_next hu]
        rw [List.take_of_length_le (l := bits8 u.toNat) (by rw [bits8_len]; omega)] at H
        exact H
      · omega
  · refine NL (TN (CF rfl (WC.exit (WQ.thenExit (WQ.thenExit (WQ.exitHere (TN (SQ (RG (MV rfl rfl (AS rfl rfl (NL (TN (RT ?_))))))))))))))
    rw [List.take_of_length_le (by omega)] at H
    refine WQ.ret1O rfl rfl H (List.Sublist.refl _) ?_
    exact rfl
theorem chars64_spec (b : Value) (l : List UInt8) (hs : l.length ≤ 1000000) : Ct Tryz.prog 93 [b] (fun M => Bs M b l) (fun r _ => r = S (chars64 l)) := by
  refine Ct.of Tryz.func93 (enters Tryz.func93 (by kernel_rfl) rfl) rfl rfl rfl ?_
  intro w0 M0 H hp
  refine SQ (RG (AS rfl rfl (NL (TN (SQ (RG (MV rfl rfl (WR.callO H (bits_spec _ _ (by omega)) rfl (by assumption) (Wn.none rfl) rfl ?_))))))))
  intro v8 M w its H hle hr8
  replace hp := hp.mono hle
  obtain rfl := hr8
  simp only [List.cons_append, List.nil_append] at H
  refine AS rfl rfl (NL (TN (SQ (BL (WC.loop2 (fun (j : Nat) (v : Value) => [(3, v)]) (fun (j : Nat) (v : Value) w => j ≤ (6 - 8 * l.length % 6) % 6 ∧ ∃ M, St w0 M0 M [RowI 3 encN v (bitsOf l ++ List.replicate j 0)] w) (fun (j : Nat) (v : Value) => 6 - j) (0) (_) ⟨rfl, trivial⟩ (⟨by omega, M, by simpa using H⟩) ?_)))))
  intro j v w
  rintro ⟨hj, M, H⟩
  have hL : (bitsOf l ++ List.replicate j 0).length = 8 * l.length + j := by simp [bitsOf_len]
  refine SQ (SQ (RG (MV rfl rfl ?_)))
  first | refine WR.step (Ex.lenSl Tryz.underlying107 (by assumption) rfl) (Wn.none rfl) rfl rfl ?_ | refine WR.step (Ex.lenRow Tryz.underlying107 H (by repeat (first | exact List.Mem.head _ | apply List.Mem.tail)) rfl) (Wn.none rfl) rfl rfl ?_ | refine WR.step (Ex.lenSlice Tryz.underlying107 rfl) (Wn.none rfl) rfl rfl ?_
  refine ST (Ex.rem64 rfl rfl (by first | omega | exact ⟨Int.natCast_nonneg _, by decide⟩)) rfl ?_
  refine WR.split (Ex.neq rfl rfl) (Wn.none rfl) rfl rfl (fun h2_3 => ?_) (fun h2_3 => ?_)
  · refine NL (TN (CT rfl (SK (TN (BL (RG (MV rfl rfl (WR.lit (enc := encN) ty107 [(0)] H rfl (by rfl) (fun _ => rfl) rfl rfl (Wn.none rfl) rfl ?_))))))))
    intro v14 M w H hle hl14
    refine WR.appendSl ty107 (fun _ => rfl) H rfl (fun _ => by repeat first | exact .head | apply Upd.tail) rfl (by assumption) (by first | omega | (simp only [List.length_append, List.length_cons, List.length_nil, List.length_take, List.length_drop]; omega) | (simp only [List.length_append, List.length_cons, List.length_nil, List.length_take, List.length_drop, List.length_replicate, bitsOf_len] at *; omega)) (by first | (simp only [maxLen]; omega) | (simp only [maxLen, List.length_append, List.length_cons, List.length_nil, List.length_take, List.length_drop]; omega) | (simp only [maxLen, List.length_append, List.length_cons, List.length_nil, List.length_take, List.length_drop, List.length_replicate, bitsOf_len] at *; omega)) (Wn.none rfl) rfl ?_
    intro v15 w H
    refine AS rfl rfl (NL (IB ?_))
    refine WQ.again2 (j + 1) (v15) ⟨rfl, trivial⟩ ?_ ?_
    · refine ⟨by omega, M, ?_⟩
      rw [List.replicate_succ', ← List.append_assoc]
      exact H
    · omega
  · refine NL (TN (CF rfl (WC.exit (WQ.thenExit (WQ.thenExit (WQ.exitHere (TN (SQ (RG (AS rfl rfl (NL (TN (SQ (SQ (RG (AS rfl rfl (NL (TN (BL ?_)))))))))))))))))))
    obtain ⟨M, hle, hf, H⟩ := H.freezeRow (v := v) (enc := encN) (t := 3) (by repeat first | exact .head | apply Rem.tail)
    rw [show bitsOf l ++ List.replicate j 0 = padBits l by rw [padBits]; congr; omega] at hf
    refine WC.loop1 (fun (q : Nat) => [(3, v), (4, S (sext (padBits l) q)), (5, I ((6 * q : Nat) : Int))]) (fun (q : Nat) w => 6 * q ≤ (padBits l).length ∧ ∃ M, St w0 M0 M [] w ∧ Sl M encN v (padBits l)) (fun (q : Nat) => (padBits l).length - 6 * q) (0) ⟨rfl, rfl, rfl, trivial⟩ (⟨by omega, M, H, hf⟩) ?_
    intro q w
    rintro ⟨hq, M, H, hf⟩
    have e1 := padBits_len l
    have e2 := sext_len (padBits_le l) q
    have e3 := six_lt (padBits_le l) q
    refine SQ (SQ (RG (MV rfl rfl (MV rfl rfl ?_))))
    first | refine WR.step (Ex.lenSl Tryz.underlying107 (by assumption) rfl) (Wn.none rfl) rfl rfl ?_ | refine WR.step (Ex.lenRow Tryz.underlying107 H (by repeat (first | exact List.Mem.head _ | apply List.Mem.tail)) rfl) (Wn.none rfl) rfl rfl ?_ | refine WR.step (Ex.lenSlice Tryz.underlying107 rfl) (Wn.none rfl) rfl rfl ?_
    refine WR.split (Ex.lss rfl rfl) (Wn.none rfl) rfl rfl (fun h6_3 => ?_) (fun h6_3 => ?_)
    · refine NL (TN (CT rfl (SK (TN (SQ (BL (SQ (RG (MV rfl rfl (MV rfl rfl (MV rfl rfl (ST (Ex.add64 rfl rfl (by omega)) rfl ?_))))))))))))
      refine WR.sliceSl (i := 6 * q) (j := 6 * q + 6) Tryz.underlying107 Tryz.sizeOf3 (by assumption) rfl (.inl ⟨_, rfl, rfl⟩) (.inl ⟨_, rfl, rfl⟩) (by omega) (by omega) (Wn.none rfl) rfl ?_
      intro v26 hs26
      refine WR.call H (sum_spec _ (((padBits l).take (6 * q + 6)).drop (6 * q)) (by simp only [List.length_drop, List.length_take]; omega) (part_le (padBits_le l) _ _)) rfl (by assumption) (Wn.none rfl) rfl ?_
      intro v27 M w H hle hr27
      replace hf := hf.mono hle
      replace hs26 := hs26.mono hle
      obtain rfl := hr27
      refine WR.stepE (v' := encN (six (padBits l) q)) (Ex.assign rfl) rfl (Wn.none rfl) rfl rfl (NL (TN (RG (MV rfl rfl (MV rfl rfl (MV rfl rfl (ST (Ex.add64 rfl rfl (by omega)) rfl ?_)))))))
      refine ST (Ex.sliceStr (l := alpha) (i := six (padBits l) q) (j := six (padBits l) q + 1) Tryz.underlying9 rfl (.inl ⟨_, rfl, rfl⟩) (.inl ⟨_, rfl, rfl⟩) (by omega) (by rw [alpha_len]; omega)) rfl ?_
      refine WR.stepE (v' := S (sext (padBits l) (q + 1))) (Ex.strAdd rfl rfl (by first | omega | (simp only [List.length_cons, List.length_nil]; omega) | (simp only [List.length_append, List.length_cons, List.length_nil, List.length_drop, List.length_take]; omega))) rfl (Wn.none rfl) rfl rfl ?_
      refine AS rfl rfl (NL (IB (TN (RG (MV rfl rfl (WR.stepE (v' := I ((6 * (q + 1) : Nat) : Int)) (Ex.add64 rfl rfl (by omega)) (congrArg I (by omega)) (Wn.none rfl) rfl rfl ?_))))))
      refine AS rfl rfl (NL ?_)
      refine WQ.again1 (q + 1) ⟨rfl, rfl, rfl, trivial⟩ ?_ ?_
      · exact ⟨by omega, M, H, hf⟩
      · omega
    · refine NL (TN (CF rfl (WC.exit (WQ.thenExit (WQ.thenExit (WQ.exitHere (TN (SQ (BL (WC.loop1 (fun (m : Nat) => [(4, S (sext (padBits l) q ++ List.replicate m 61))]) (fun (m : Nat) w => m ≤ (4 - (sext (padBits l) q).length % 4) % 4 ∧ ∃ M, St w0 M0 M [] w) (fun (m : Nat) => 4 - m) (0) ⟨(by rw [List.replicate_zero, List.append_nil]; rfl), trivial⟩ (⟨by omega, M, H⟩) ?_))))))))))
      intro m w
      rintro ⟨hm, M, H⟩
      have hL2 : (sext (padBits l) q ++ List.replicate m 61).length = (sext (padBits l) q).length + m := by simp
      refine SQ (SQ (RG (MV rfl rfl (ST (Ex.lenStr Tryz.underlying9 rfl) rfl (ST (Ex.rem64 rfl rfl (by first | omega | exact ⟨Int.natCast_nonneg _, by decide⟩)) rfl ?_)))))
      refine WR.split (Ex.neq rfl rfl) (Wn.none rfl) rfl rfl (fun h10_3 => ?_) (fun h10_3 => ?_)
      · refine NL (TN (CT rfl (SK (TN (BL (RG (MV rfl rfl (WR.stepE (v' := S (sext (padBits l) q ++ List.replicate (m + 1) 61)) (Ex.strAdd rfl rfl (by first | omega | (simp only [List.length_cons, List.length_nil]; omega) | (simp only [List.length_append, List.length_cons, List.length_nil, List.length_drop, List.length_take]; omega))) (by rw [List.replicate_succ', ← List.append_assoc]) (Wn.none rfl) rfl rfl ?_))))))))
        refine AS rfl rfl (NL (IB ?_))
        refine WQ.again1 (m + 1) ⟨rfl, trivial⟩ ?_ ?_
        · exact ⟨by omega, M, H⟩
        · omega
      · refine NL (TN (CF rfl (WC.exit (WQ.thenExit (WQ.thenExit (WQ.exitHere (TN (SQ (RG (MV rfl rfl (AS rfl rfl (NL (TN (RT ?_))))))))))))))
        refine WQ.ret1 rfl rfl H.ext ?_
        exact (by
            have hq2 : q = (padBits l).length / 6 := by omega
            have hm2 : m = (4 - (sext (padBits l) q).length % 4) % 4 := by omega
            subst hq2
            rw [hm2, chars64])
theorem loose64_spec (b : Value) (l : List UInt8) (hs : l.length ≤ 1000000) : Ct Tryz.prog 99 [b] (fun M => Bs M b l) (fun r M => Bs M r (loose64 l)) := by
  refine Ct.of Tryz.func99 (enters Tryz.func99 (by kernel_rfl) rfl) rfl rfl rfl ?_
  intro w0 M0 H hp
  refine SQ (RG (AS rfl rfl (NL (TN (SQ (RG (AS rfl rfl (NL (TN ?_)))))))))
  refine WC.cut1 (fun (v : Value) => [(3, v)]) (fun (v : Value) w => ∃ M, St w0 M0 M [RowI 3 encN v (vbits (upto61 l))] w) ?_ ?_
  · refine SQ (RG (AS rfl rfl (NL (TN (BL (WC.loop2 (fun (k : Nat) (v : Value) => [(0, b), (3, v), (4, I (k : Int))]) (fun (k : Nat) (v : Value) w => k ≤ l.length ∧ (∀ j u, l[j]? = some u → j < k → u ≠ 61) ∧ ∃ M, St w0 M0 M [RowI 3 encN v (vbits (l.take k))] w) (fun (k : Nat) (v : Value) => l.length - k) (0) (_) ⟨rfl, rfl, rfl, trivial⟩ (⟨by omega, fun _ _ _ h => absurd h (by omega), M0, H.newRow 3 encN⟩) ?_))))))
    intro k v w
    rintro ⟨hk, hb61, M, H⟩
    have hb := hp.mono H.ext.le
    refine SQ (SQ (RG (MV rfl rfl (MV rfl rfl ?_))))
    first | refine WR.step (Ex.lenSl Tryz.underlying30 (by assumption) rfl) (Wn.none rfl) rfl rfl ?_ | refine WR.step (Ex.lenRow Tryz.underlying30 H (by repeat (first | exact List.Mem.head _ | apply List.Mem.tail)) rfl) (Wn.none rfl) rfl rfl ?_ | refine WR.step (Ex.lenSlice Tryz.underlying30 rfl) (Wn.none rfl) rfl rfl ?_
    refine WR.split (Ex.lss rfl rfl) (Wn.none rfl) rfl rfl (fun h3_3 => ?_) (fun h3_3 => ?_)
    · obtain ⟨u, hu⟩ : ∃ u, l[k]? = some u := ⟨_, List.getElem?_eq_getElem (by omega)⟩
      refine MV rfl rfl (SG (Ex.move rfl) rfl rfl rfl (SG (Ex.move rfl) rfl rfl rfl (WR.idxSl Tryz.underlying30 Tryz.sizeOf5 (by assumption) rfl rfl (hu) (Wn.some rfl rfl rfl) rfl ?_)))
      intro p16 hc16
      first | refine WR.step (Ex.loadM H rfl (by assumption) Tryz.isAgg5) (Wn.some rfl rfl rfl) rfl rfl ?_ | refine WR.step (Ex.load1 H rfl (by repeat (first | exact List.Mem.head _ | apply List.Mem.tail)) Tryz.isAgg5 (by rfl)) (Wn.some rfl rfl rfl) rfl rfl ?_
      refine WR.split (Ex.neq rfl rfl) (Wn.some rfl rfl rfl) rfl rfl (fun h3_9 => ?_) (fun h3_9 => ?_)
      · refine PT rfl rfl rfl (NL (TN (CT rfl (SK (TN (SQ (BL (SQ (RG (MV rfl rfl (MV rfl rfl (WR.idxSl Tryz.underlying30 Tryz.sizeOf5 (by assumption) rfl rfl (hu) (Wn.none rfl) rfl ?_))))))))))))
        intro p24 hc24
        first | refine WR.step (Ex.loadM H rfl (by assumption) Tryz.isAgg5) (Wn.none rfl) rfl rfl ?_ | refine WR.step (Ex.load1 H rfl (by repeat (first | exact List.Mem.head _ | apply List.Mem.tail)) Tryz.isAgg5 (by rfl)) (Wn.none rfl) rfl rfl ?_
        refine WR.call H (value64_spec _) rfl (trivial) (Wn.none rfl) rfl ?_
        intro v26 M w H hle hr26
        replace hb := hb.mono hle
        replace hc16 := hc16.mono hle
        replace hc24 := hc24.mono hle
        obtain rfl := hr26
        refine AS rfl rfl (NL (TN (SQ (RG (AS rfl rfl (NL (TN (BL (WC.loop2 (fun (j : Nat) (v : Value) => [(0, b), (3, v), (4, I (k : Int)), (5, I (val64 u)), (6, I (5 - (j : Int)))]) (fun (j : Nat) (v : Value) w => j ≤ 6 ∧ (val64 u < 0 → j = 0) ∧ ∃ M, St w0 M0 M [RowI 3 encN v (vbits (l.take k) ++ (bits6 (val64 u).toNat).take j)] w) (fun (j : Nat) (v : Value) => 6 - j) (0) (_) ⟨rfl, rfl, rfl, rfl, rfl, trivial⟩ (⟨by omega, fun _ => rfl, M, by simpa using H⟩) ?_)))))))))
        intro j v w
        rintro ⟨hj, hz, M, H⟩
        have hb := hp.mono H.ext.le
        have e1 := vbits_len (l.take k)
        have e2 : (l.take k).length ≤ l.length := List.length_take_le' _ _
        have e3 : ((bits6 (val64 u).toNat).take j).length ≤ 6 := by rw [List.length_take, bits6_len]; omega
        have e4 : val64 u < 64 := by unfold val64; split <;> omega
        refine SQ (SQ (RG (MV rfl rfl ?_)))
        refine WR.split (Ex.geq rfl rfl) (Wn.none rfl) rfl rfl (fun h7_1 => ?_) (fun h7_1 => ?_)
        · refine MV rfl rfl (SG (Ex.move rfl) rfl rfl rfl ?_)
          refine WR.split (Ex.geq rfl rfl) (Wn.some rfl rfl rfl) rfl rfl (fun h7_4 => ?_) (fun h7_4 => ?_)
          · refine PT rfl rfl rfl (NL (TN (CT rfl (SK (TN (SQ (BL (RG (MV rfl rfl (WR.stepE (v' := encN (val64 u).toNat) (Ex.move rfl) (congrArg I (by omega)) (Wn.none rfl) rfl rfl ?_))))))))))
            refine WR.stepE (v' := I ((5 - j : Nat) : Int)) (Ex.move rfl) (congrArg I (by omega)) (Wn.none rfl) rfl rfl ?_
            refine ST (Ex.convU64 Tryz.underlying3 Tryz.underlying102 rfl (by omega)) rfl ?_
            refine ST (Ex.shrN (m := _) (s := _) rfl rfl (by first | (show _ ≤ 64; omega) | (show _ ≤ 8; omega) | decide)) rfl ?_
            refine WR.stepE (v' := encN ((val64 u).toNat / 2 ^ (5 - j) % 2)) (Ex.rem64 rfl rfl (by first | omega | exact ⟨Int.natCast_nonneg _, by decide⟩)) (mod2 _) (Wn.none rfl) rfl rfl ?_
            refine WR.lit (enc := encN) ty107 [_] H rfl (by rfl) (fun _ => rfl) rfl rfl (Wn.none rfl) rfl ?_
            intro v41 M w H hle hl41
            replace hb := hb.mono hle
            refine WR.appendSl ty107 (fun _ => rfl) H rfl (fun _ => by repeat first | exact .head | apply Upd.tail) rfl (by assumption) (by first | omega | (simp only [List.length_append, List.length_cons, List.length_nil, List.length_take, List.length_drop]; omega) | (simp only [List.length_append, List.length_cons, List.length_nil, List.length_take, List.length_drop, List.length_replicate, bitsOf_len] at *; omega)) (by first | (simp only [maxLen]; omega) | (simp only [maxLen, List.length_append, List.length_cons, List.length_nil, List.length_take, List.length_drop]; omega) | (simp only [maxLen, List.length_append, List.length_cons, List.length_nil, List.length_take, List.length_drop, List.length_replicate, bitsOf_len] at *; omega)) (Wn.none rfl) rfl ?_
            intro v42 w H
            refine AS rfl rfl (NL (IB (TN (RG (MV rfl rfl (WR.stepE (v' := I (5 - ((j + 1 : Nat) : Int))) (Ex.sub64 rfl rfl (by omega)) (congrArg I (by omega)) (Wn.none rfl) rfl rfl ?_))))))
            refine AS rfl rfl (NL ?_)
            refine WQ.again2 (j + 1) (v42) ⟨rfl, rfl, rfl, rfl, rfl, trivial⟩ ?_ ?_
            · refine ⟨by omega, fun h => absurd h (by omega), M, ?_⟩
              rw [bits6_next _ _ (by omega), ← List.append_assoc]
              exact H
            · omega
          · refine PT rfl rfl rfl (NL (TN (CF rfl (WC.exit (WQ.thenExit (WQ.thenExit (WQ.exitHere (IB (TN (RG (MV rfl rfl (ST (Ex.add64 rfl rfl (by omega)) rfl ?_))))))))))))
            refine AS rfl rfl (NL ?_)
            refine WQ.again2 (k + 1) (v) ⟨rfl, rfl, rfl, trivial⟩ ?_ ?_
            · refine ⟨by omega, fun j x hj hjk => ?_, M, ?_⟩
              · rcases Nat.lt_or_ge j k with h | h
                · exact hb61 j x hj h
                · obtain rfl : j = k := by omega
                  rw [hu] at hj; cases hj
                  exact fun h => h3_9 (by rw [h]; rfl)
              · rw [vbits_next hu, ← vb_done u j (by omega)]
                exact H
            · omega
        · refine MV rfl rfl (GF rfl rfl rfl (GF rfl rfl rfl (PF rfl rfl rfl (NL (TN (CF rfl (WC.exit (WQ.thenExit (WQ.thenExit (WQ.exitHere (IB (TN (RG (MV rfl rfl (ST (Ex.add64 rfl rfl (by omega)) rfl ?_)))))))))))))))
          refine AS rfl rfl (NL ?_)
          refine WQ.again2 (k + 1) (v) ⟨rfl, rfl, rfl, trivial⟩ ?_ ?_
          · refine ⟨by omega, fun j x hj hjk => ?_, M, ?_⟩
            · rcases Nat.lt_or_ge j k with h | h
              · exact hb61 j x hj h
              · obtain rfl : j = k := by omega
                rw [hu] at hj; cases hj
                exact fun h => h3_9 (by rw [h]; rfl)
            · rw [vbits_next hu, ← vb_done u j (by omega)]
              exact H
          · omega
      · refine PT rfl rfl rfl (NL (TN (CF rfl (WC.exit (WQ.thenExit (WQ.thenExit (WQ.exitHere (WQ.meet1 (v) ⟨rfl, trivial⟩ ?_))))))))
        refine ⟨M, ?_⟩
        rw [upto61_eq l k hb61 (.inr (by rw [hu]; congr 1; exact b_eq.1 (Decidable.not_not.1 h3_9)))]
        exact H
    · refine MV rfl rfl (GF rfl rfl rfl (GF rfl rfl rfl (GF rfl rfl rfl (GF rfl rfl rfl (GF rfl rfl rfl (PF rfl rfl rfl (NL (TN (CF rfl (WC.exit (WQ.thenExit (WQ.thenExit (WQ.exitHere (WQ.meet1 (v) ⟨rfl, trivial⟩ ?_))))))))))))))
      refine ⟨M, ?_⟩
      rw [upto61_eq l k hb61 (.inl (by omega))]
      exact H
  · intro v w
    rintro ⟨M, H⟩
    refine SQ (RG (AS rfl rfl (NL (TN (SQ (SQ (RG (AS rfl rfl (NL (TN (BL ?_)))))))))))
    obtain ⟨M, hle, hf, H⟩ := H.freezeRow (v := v) (enc := encN) (t := 3) (by repeat first | exact .head | apply Rem.tail)
    replace H := H.newRow 5 encB
    refine WC.loop2 (fun (q : Nat) (vo : Value) => [(3, v), (7, vo), (8, I ((8 * q : Nat) : Int))]) (fun (q : Nat) (vo : Value) w => 8 * q ≤ (vbits (upto61 l)).length ∧ ∃ M, St w0 M0 M [RowI 5 encB vo (octs (vbits (upto61 l)) q)] w ∧ Sl M encN v (vbits (upto61 l))) (fun (q : Nat) (vo : Value) => (vbits (upto61 l)).length - 8 * q) (0) (_) ⟨rfl, rfl, rfl, trivial⟩ (⟨by omega, M, H, hf⟩) ?_
    intro q vo w
    rintro ⟨hq, M, H, hf⟩
    have e1 := vbits_len (upto61 l)
    have e2 := octs_len (vbits (upto61 l)) q
    have e3 := eight_lt (vbits_le (upto61 l)) q
    have e4 : (upto61 l).length ≤ l.length := (List.takeWhile_sublist _).length_le
    refine SQ (SQ (RG (MV rfl rfl (ST (Ex.add64 rfl rfl (by omega)) rfl ?_))))
    refine MV rfl rfl ?_
    first | refine WR.step (Ex.lenSl Tryz.underlying107 (by assumption) rfl) (Wn.none rfl) rfl rfl ?_ | refine WR.step (Ex.lenRow Tryz.underlying107 H (by repeat (first | exact List.Mem.head _ | apply List.Mem.tail)) rfl) (Wn.none rfl) rfl rfl ?_ | refine WR.step (Ex.lenSlice Tryz.underlying107 rfl) (Wn.none rfl) rfl rfl ?_
    refine WR.split (Ex.leq rfl rfl) (Wn.none rfl) rfl rfl (fun h12_4 => ?_) (fun h12_4 => ?_)
    · refine NL (TN (CT rfl (SK (TN (SQ (BL (RG (MV rfl rfl (MV rfl rfl (MV rfl rfl (MV rfl rfl (ST (Ex.add64 rfl rfl (by omega)) rfl ?_))))))))))))
      refine WR.sliceSl (i := 8 * q) (j := 8 * q + 8) Tryz.underlying107 Tryz.sizeOf3 (by assumption) rfl (.inl ⟨_, rfl, rfl⟩) (.inl ⟨_, rfl, rfl⟩) (by omega) (by omega) (Wn.none rfl) rfl ?_
      intro v55 hs55
      refine WR.call H (sum_spec _ (((vbits (upto61 l)).take (8 * q + 8)).drop (8 * q)) (by simp only [List.length_drop, List.length_take]; omega) (part_le (vbits_le _) _ _)) rfl (by assumption) (Wn.none rfl) rfl ?_
      intro v56 M w H hle hr56
      replace hf := hf.mono hle
      replace hs55 := hs55.mono hle
      obtain rfl := hr56
      refine WR.stepE (v' := encB (UInt8.ofNat (eight (vbits (upto61 l)) q))) (Ex.convU8 Tryz.underlying3 Tryz.underlying5 rfl) (congrArg encB (ub_nat _ e3)) (Wn.none rfl) rfl rfl (WR.lit (enc := encB) ty30 [UInt8.ofNat (eight (vbits (upto61 l)) q)] H rfl (by rfl) (fun _ => rfl) rfl rfl (Wn.none rfl) rfl ?_)
      intro v58 M w H hle hl58
      replace hf := hf.mono hle
      replace hs55 := hs55.mono hle
      refine WR.appendSl ty30 (fun _ => rfl) H rfl (fun _ => by repeat first | exact .head | apply Upd.tail) rfl (by assumption) (by first | omega | (simp only [List.length_append, List.length_cons, List.length_nil, List.length_take, List.length_drop]; omega) | (simp only [List.length_append, List.length_cons, List.length_nil, List.length_take, List.length_drop, List.length_replicate, bitsOf_len] at *; omega)) (by first | (simp only [maxLen]; omega) | (simp only [maxLen, List.length_append, List.length_cons, List.length_nil, List.length_take, List.length_drop]; omega) | (simp only [maxLen, List.length_append, List.length_cons, List.length_nil, List.length_take, List.length_drop, List.length_replicate, bitsOf_len] at *; omega)) (Wn.none rfl) rfl ?_
      intro v59 w H
      refine AS rfl rfl (NL (IB (TN (RG (MV rfl rfl (WR.stepE (v' := I ((8 * (q + 1) : Nat) : Int)) (Ex.add64 rfl rfl (by omega)) (congrArg I (by omega)) (Wn.none rfl) rfl rfl ?_))))))
      refine AS rfl rfl (NL ?_)
      refine WQ.again2 (q + 1) (v59) ⟨rfl, rfl, rfl, trivial⟩ ?_ ?_
      · exact ⟨by omega, M, H, hf⟩
      · omega
    · refine NL (TN (CF rfl (WC.exit (WQ.thenExit (WQ.thenExit (WQ.exitHere (TN (SQ (RG (MV rfl rfl (AS rfl rfl (NL (TN (RT ?_))))))))))))))
      obtain ⟨M, hle, hfo, H⟩ := H.freezeRow (v := vo) (enc := encB) (t := 5) (by repeat first | exact .head | apply Rem.tail)
      rw [show q = (vbits (upto61 l)).length / 8 by omega] at hfo
      refine WQ.ret1 rfl rfl H.ext ?_
      exact hfo
end Go.Proofs.YtogkmhjnojphiaaGreatDoor
end
section
set_option linter.unusedVariables false
set_option linter.unusedSimpArgs false
namespace Go.Proofs.YtogkmhjnojphiaaGreatDoor
open Go Go.RowKit Go.Ph
theorem bytesOf_natsB (l : List UInt8) : Lib.bytesOf (l.map fun u => (u.toNat : Int)) = l := by
  unfold Lib.bytesOf
  rw [List.map_map]
  conv => rhs; rw [← List.map_id l]
  apply List.map_congr_left
  intro u _
  simp
theorem indexByte_idx (l : List UInt8) (c : UInt8) : Lib.indexByte l c = if l.idxOf c < l.length then (l.idxOf c : Int) else -1 := by
  induction l with
  | nil => simp [Lib.indexByte]
  | cons b l ih =>
    simp only [Lib.indexByte, List.idxOf_cons, List.length_cons]
    by_cases h : b = c
    · subst h; simp
    · have h' : (b == c) = false := by simpa using h
      rw [h', ih]
      simp only [Bool.false_eq_true, if_false, cond_false]
      by_cases hl : l.idxOf c < l.length
      · have h1 : l.idxOf c + 1 < l.length + 1 := by omega
        have h2 : ¬ (((l.idxOf c : Int) == -1) = true) := by simp only [beq_iff_eq]; omega
        simp only [hl, h1, if_true, h2, if_false, Bool.false_eq_true]
        omega
      · have h1 : ¬ (l.idxOf c + 1 < l.length + 1) := by omega
        simp only [hl, h1, if_false]
        rfl
theorem indexByte_alpha (c : UInt8) : Lib.indexByte B64.alpha c = B64.val64 c := by
  rw [indexByte_idx, B64.alpha_len]; rfl
theorem indexByte_spec (b : Value) (l : List UInt8) (c : UInt8) : Ct Tryz.prog 102 [b, encB c] (fun M => Bs M b l) (fun r _ => r = I (Lib.indexByte l c)) := by
  refine ⟨enters Tryz.func102 (by kernel_rfl) rfl, fun w M ha hp => ?_⟩
  obtain ⟨A, cp, rfl, hc, hn⟩ := hp.cells ha
  have hcv : ((c.toNat : Int)).toNat.toUInt8 = c := by simp
  cases A with
  | none =>
    obtain ⟨rfl, rfl⟩ := hn rfl
    exact (Tryz.bytes_IndexByte_nil (c.toNat : Int) w).mono fun e w' ⟨he, hw⟩ => ⟨_, M, he, by subst hw; exact Ext.refl ha, rfl⟩
  | some ad =>
    refine (Tryz.bytes_IndexByte_at ad l.length cp (l.map fun u => (u.toNat : Int)) (c.toNat : Int) w (by simp) (fun i hi => ?_)).mono fun e w' ⟨he, hw⟩ => ⟨_, M, he, by subst hw; exact Ext.refl ha, ?_⟩
    · have := hc ad rfl i (encB l[i]) (by simp [hi])
      rw [this]
      simp [hi]
    · rw [bytesOf_natsB, hcv]
open Go.Ph.B64
theorem next61 {l : List UInt8} {k : Nat} {u : UInt8} (hb : ∀ j u, l[j]? = some u → j < k → u ≠ 61) (hu : l[k]? = some u) (h : ¬ ((u.toNat : Int) = 61)) : ∀ j u, l[j]? = some u → j < k + 1 → u ≠ 61 := by
  intro j x hj hjk
  rcases Nat.lt_or_ge j k with h1 | h1
  · exact hb j x hj h1
  · obtain rfl : j = k := by omega
    rw [hu] at hj; cases hj
    exact fun e => h (by rw [e]; rfl)
theorem lenient_spec (bv : Value) (l : List UInt8) (hs : l.length ≤ 24000) : Ct Tryz.prog 138 [bv] (fun M => Bs M bv l) (fun r M => ∃ v, r = .tuple #[v, fault 0 0] ∧ Bs M v (lenient l)) := by
  refine Ct.of Tryz.func138 (enters Tryz.func138 (by kernel_rfl) rfl) rfl rfl rfl ?_
  intro w0 M0 H hp
  refine SQ (RG (AS rfl rfl (WR.alloc [_, _] H Tryz.zeroValue24 rfl (Wn.none rfl) rfl ?_)))
  intro b3 w H
  refine NL (TN (SQ (SQ (RG (MV rfl rfl ?_)))))
  first | refine WR.step (Ex.lenSl Tryz.underlying30 (by assumption) rfl) (Wn.none rfl) rfl rfl ?_ | refine WR.step (Ex.lenRow Tryz.underlying30 H (by repeat (first | exact List.Mem.head _ | apply List.Mem.tail)) rfl) (Wn.none rfl) rfl rfl ?_ | refine WR.step (Ex.lenSlice Tryz.underlying30 rfl) (Wn.none rfl) rfl rfl ?_
  refine WR.stepF (Ex.gtr rfl rfl) (by omega) (Wn.none rfl) rfl rfl ?_
  refine NL (TN (CF rfl (SK (TN (SQ (RG (AS rfl rfl (NL (TN (SQ (RG (AS rfl rfl (AS rfl rfl (NL (TN ?_)))))))))))))))
  refine WC.cut1 (fun (v : Value) => [(3, ptr b3 0), (4, v)]) (fun (v : Value) w => ∃ M, St w0 M0 M [RowI 5 encB v (lenient l), .blk b3 (.cells #[I 0, I 0] 24)] w) ?_ ?_
  · refine SQ (RG (MV rfl rfl ?_))
    first | refine WR.step (Ex.lenSl Tryz.underlying30 (by assumption) rfl) (Wn.none rfl) rfl rfl ?_ | refine WR.step (Ex.lenRow Tryz.underlying30 H (by repeat (first | exact List.Mem.head _ | apply List.Mem.tail)) rfl) (Wn.none rfl) rfl rfl ?_ | refine WR.step (Ex.lenSlice Tryz.underlying30 rfl) (Wn.none rfl) rfl rfl ?_
    refine MV rfl rfl (NL (TN (BL ?_)))
    replace H := H.newRow 5 encB
    refine WC.loop5 (fun (k : Nat) (v : Value) (o : List UInt8) (x : Nat) (b : Nat) => [(3, ptr b3 0), (4, v), (5, encN x), (6, encN b), (14, bv), (15, I (l.length : Int)), (16, I (k : Int))]) (fun (k : Nat) (v : Value) (o : List UInt8) (x : Nat) (b : Nat) w => k ≤ l.length ∧ (∀ j u, l[j]? = some u → j < k → u ≠ 61) ∧ lrun (l.take k) = (o, x, b) ∧ ∃ M, St w0 M0 M [RowI 5 encB v o, .blk b3 (.cells #[I 0, I 0] 24)] w) (fun (k : Nat) (v : Value) (o : List UInt8) (x : Nat) (b : Nat) => l.length - k) (0) (_) (_) (0) (0) ⟨rfl, rfl, rfl, rfl, rfl, rfl, rfl, trivial⟩ (⟨by omega, fun _ _ _ h => absurd h (by omega), rfl, M0, H⟩) ?_
    intro k v o x b w
    rintro ⟨hk, hb61, hst, M, H⟩
    have hb := hp.mono H.ext.le
    have hi := lrun_inv (l.take k)
    have hl2 := lrun_len (l.take k)
    have hl3 : (l.take k).length ≤ l.length := List.length_take_le' _ _
    rw [hst] at hi hl2
    simp only [] at hi hl2
    have hx2 : 2 ^ b ≤ 2 ^ 6 := Nat.pow_le_pow_right (by decide) hi.1.1
    refine SQ (RG ?_)
    refine WR.split (Ex.lss rfl rfl) (Wn.none rfl) rfl rfl (fun h6_0 => ?_) (fun h6_0 => ?_)
    · obtain ⟨u, hu⟩ : ∃ u, l[k]? = some u := ⟨_, List.getElem?_eq_getElem (by omega)⟩
      refine NL (TN (SQ (CT rfl (SK (TN (SQ (BL (SQ (RG (WR.idxSl Tryz.underlying30 Tryz.sizeOf5 (by assumption) rfl rfl (hu) (Wn.none rfl) rfl ?_))))))))))
      intro p18 hc18
      first | refine WR.step (Ex.loadM H rfl (by assumption) Tryz.isAgg5) (Wn.none rfl) rfl rfl ?_ | refine WR.step (Ex.load1 H rfl (by repeat (first | exact List.Mem.head _ | apply List.Mem.tail)) Tryz.isAgg5 (by rfl)) (Wn.none rfl) rfl rfl ?_
      refine AS rfl rfl (NL (TN (SQ (SQ (RG (MV rfl rfl ?_))))))
      refine WR.split (Ex.eql rfl rfl) (Wn.none rfl) rfl rfl (fun h8_1 => ?_) (fun h8_1 => ?_)
      · refine NL (TN (CT rfl (WC.exit (WQ.thenExit (WQ.exitOut rfl (WQ.thenExit (WQ.thenExit (WQ.exitHere (WQ.meet1 (v) ⟨rfl, rfl, trivial⟩ ?_)))))))))
        refine ⟨M, ?_⟩
        have hlen : lenient l = o := by rw [lenient, upto61_eq l k hb61 (.inr (by rw [hu]; congr 1; exact b_eq.1 h8_1)), hst]
        rw [hlen]
        exact H
      · refine NL (TN (CF rfl (SK (TN (SQ (RG (WR.litC ty30 Tryz.underlying5 alpha H rfl (by rfl) rfl rfl (Wn.none rfl) rfl (fun _ => Wn.none rfl) rfl ?_)))))))
        intro v23 M w H hle hl23
        replace hb := hb.mono hle
        replace hc18 := hc18.mono hle
        refine MV rfl rfl (WR.call H (indexByte_spec _ alpha _) rfl (by assumption) (Wn.none rfl) rfl ?_)
        intro v25 M w H hle hr25
        replace hb := hb.mono hle
        replace hc18 := hc18.mono hle
        replace hl23 := hl23.mono hle
        obtain rfl := hr25
        rw [indexByte_alpha]
        refine AS rfl rfl (NL (TN (SQ (SQ (RG (MV rfl rfl ?_))))))
        refine WR.split (Ex.lss rfl rfl) (Wn.none rfl) rfl rfl (fun h10_1 => ?_) (fun h10_1 => ?_)
        · refine NL (TN (CT rfl (WC.exit (WQ.thenExit (WQ.exitHere (TN (RG (ST (Ex.add64 rfl rfl (by omega)) rfl ?_))))))))
          refine MV rfl rfl (NL ?_)
          refine WQ.again5 (k + 1) (v) (o) (x) (b) ⟨rfl, rfl, rfl, rfl, rfl, rfl, rfl, trivial⟩ ?_ ?_
          · exact ⟨by omega, next61 hb61 hu h8_1, by rw [lrun_next hu, hst, lstep, if_pos h10_1], M, H⟩
          · omega
        · have hix := val64_idx (c := u) (by omega)
          refine NL (TN (CF rfl (SK (TN (SQ (RG (MV rfl rfl (ST (Ex.shlN (m := x) (s := 6) rfl rfl (by first | (show _ ≤ 64; omega) | (show _ ≤ 8; omega) | decide) (by first | omega | (simp; omega))) rfl ?_))))))))
          refine WR.stepE (v' := encN (idx u)) (Ex.move rfl) (congrArg I hix.1) (Wn.none rfl) rfl rfl (WR.stepE (v' := encN (x * 64 + idx u)) (Ex.orN (m := _) (s := _) rfl rfl (by omega) (by omega)) (congrArg encN (or_six x (idx u) hix.2)) (Wn.none rfl) rfl rfl ?_)
          refine MV rfl rfl (WR.stepE (v' := encN (b + 6)) (Ex.add64 rfl rfl (by omega)) rfl (Wn.none rfl) rfl rfl ?_)
          refine AS rfl rfl (AS rfl rfl (NL (TN (SQ (RG (MV rfl rfl ?_))))))
          refine WR.split (Ex.geq rfl rfl) (Wn.none rfl) rfl rfl (fun h12_1 => ?_) (fun h12_1 => ?_)
          · refine NL (TN (CT rfl (SQ (RG (MV rfl rfl (WR.stepE (v' := encN (b + 6 - 8)) (Ex.sub64 rfl rfl (by omega)) (congrArg I (by omega)) (Wn.none rfl) rfl rfl ?_))))))
            refine AS rfl rfl (NL (TN (SQ (RG (MV rfl rfl (MV rfl rfl (MV rfl rfl (ST (Ex.shrN (m := _) (s := _) rfl rfl (by first | (show _ ≤ 64; omega) | (show _ ≤ 8; omega) | decide)) rfl ?_))))))))
            refine WR.stepE (v' := encB (UInt8.ofNat ((x * 64 + idx u) / 2 ^ (b + 6 - 8)))) (Ex.convU8 Tryz.underlying3 Tryz.underlying5 rfl) (congrArg encB (ub_nat _ (oct_lt x (idx u) b hi.1 hi.2 hix.2 (by omega)))) (Wn.none rfl) rfl rfl ?_
            refine WR.lit (enc := encB) ty30 [_] H rfl (by rfl) (fun _ => rfl) rfl rfl (Wn.none rfl) rfl ?_
            intro v43 M w H hle hl43
            replace hb := hb.mono hle
            replace hc18 := hc18.mono hle
            replace hl23 := hl23.mono hle
            refine WR.appendSl ty30 (fun _ => rfl) H rfl (fun _ => by repeat first | exact .head | apply Upd.tail) rfl (by assumption) (by first | omega | (simp only [List.length_append, List.length_cons, List.length_nil, List.length_take, List.length_drop]; omega)) (by first | (simp only [maxLen]; omega) | (simp only [maxLen, List.length_append, List.length_cons, List.length_nil, List.length_take, List.length_drop]; omega)) (Wn.none rfl) rfl ?_
            intro v44 w H
            refine AS rfl rfl (NL (TN (RG (MV rfl rfl (MV rfl rfl ?_)))))
            obtain ⟨P2, hP2⟩ : ∃ P2, P2 = 2 ^ (b + 6 - 8) := ⟨_, rfl⟩
            have hp2 : P2 ≤ 16 := by rw [hP2]; exact Nat.pow_le_pow_right (n := 2) (j := 4) (by decide) (by omega)
            have hp3 : 0 < P2 := by rw [hP2]; exact Nat.two_pow_pos _
            refine WR.stepE (v' := encN P2) (Ex.shlN (m := 1) (s := b + 6 - 8) rfl rfl (by first | (show _ ≤ 64; omega) | (show _ ≤ 8; omega) | decide) (by first | omega | (simp; omega))) (congrArg encN (by rw [hP2, Nat.one_mul])) (Wn.none rfl) rfl rfl ?_
            refine WR.stepE (v' := encN (P2 - 1)) (Ex.sub64 rfl rfl (by omega)) (congrArg I (by omega)) (Wn.none rfl) rfl rfl ?_
            refine WR.stepE (v' := encN ((x * 64 + idx u) % 2 ^ (b + 6 - 8))) (Ex.andN (m := _) (s := _) rfl rfl (by omega) (by omega)) (congrArg encN (by rw [hP2]; exact and_mask _ _)) (Wn.none rfl) rfl rfl ?_
            refine AS rfl rfl (NL (IB (TN (RG (ST (Ex.add64 rfl rfl (by omega)) rfl ?_)))))
            refine MV rfl rfl (NL ?_)
            refine WQ.again5 (k + 1) (v44) (o ++ [UInt8.ofNat ((x * 64 + idx u) / 2 ^ (b + 6 - 8))]) (_) (_) ⟨rfl, rfl, rfl, rfl, rfl, rfl, rfl, trivial⟩ ?_ ?_
            · exact ⟨by omega, next61 hb61 hu h8_1, by rw [lrun_next hu, hst, lstep, if_neg h10_1, if_neg (by simp only []; omega)], M, H⟩
            · omega
          · refine NL (TN (CF rfl (SK (IB (TN (RG (ST (Ex.add64 rfl rfl (by omega)) rfl ?_)))))))
            refine MV rfl rfl (NL ?_)
            refine WQ.again5 (k + 1) (v) (o) (_) (_) ⟨rfl, rfl, rfl, rfl, rfl, rfl, rfl, trivial⟩ ?_ ?_
            · exact ⟨by omega, next61 hb61 hu h8_1, by rw [lrun_next hu, hst, lstep, if_neg h10_1, if_pos (by simp only []; omega)], M, H⟩
            · omega
    · refine NL (TN (SQ (CF rfl (WC.exit (WQ.thenExit (WQ.thenExit (WQ.exitHere (WQ.meet1 (v) ⟨rfl, rfl, trivial⟩ ?_))))))))
      refine ⟨M, ?_⟩
      have hlen : lenient l = o := by rw [lenient, upto61_eq l k hb61 (.inl (by omega)), hst]
      rw [hlen]
      exact H
  · intro v w
    rintro ⟨M, H⟩
    refine SQ (RG (MV rfl rfl (WR.call H (none_spec) rfl (trivial) (Wn.none rfl) rfl ?_)))
    intro v52 M w H hle hr52
    obtain rfl := hr52
    refine AS rfl rfl (WR.store [_, _] H rfl rfl rfl (by repeat first | exact .head | apply Upd.tail) Tryz.sizeOf24 rfl (by rfl) (by rfl) (Wn.none rfl) ?_)
    intro w H
    refine NL (TN (RT ?_))
    obtain ⟨M, hle, hf, H⟩ := H.freezeRow (v := v) (enc := encB) (t := 5) (by repeat first | exact .head | apply Rem.tail)
    refine WQ.ret2 rfl rfl ⟨_, rfl, H.loadAgg (by repeat (first | exact List.Mem.head _ | apply List.Mem.tail)) Tryz.isAgg24 Tryz.sizeOf24 (by rfl)⟩ H.ext ?_
    exact ⟨_, rfl, hf⟩
end Go.Proofs.YtogkmhjnojphiaaGreatDoor
end
section
set_option linter.unusedVariables false
set_option linter.unusedSimpArgs false
namespace Go.Proofs.YtogkmhjnojphiaaGreatDoor
open Go Go.RowKit Go.Ph
open Go.Ph.B64
abbrev encG (x : List UInt8) : Value := .agg (x.map encB).toArray
theorem groups_iter (bb : Nat) (v0 : Value) (l : List UInt8) (hs : l.length ≤ 1000000) : IterCt Tryz.prog 190 [ptr bb 0] [.blk bb (.cells #[v0] 30)] (fun M => Bs M v0 l) encG (grps l) := by
  refine ⟨enters Tryz.func190 (by kernel_rfl) rfl, fun lid Z Zx hZ hY L0 w0 M0 hz H hp => calls_of_WC Tryz.func190 rfl rfl rfl ?_⟩
  generalize hC : feet ([.blk bb (.cells #[v0] 30)] ++ L0) = C at H ⊢
  simp only [List.cons_append, List.nil_append] at H
  refine BL (WC.loop3 (fun (k : Nat) (v : Value) (Lc : List Ph.Item) => [(0, yv lid), (1, ptr bb 0)]) (fun (k : Nat) (v : Value) (Lc : List Ph.Item) w => k ≤ (l.length + 2) / 3 ∧ ∃ M, StX C w0 M0 M (.blk bb (.cells #[v] 30) :: Lc) w ∧ Bs M v (l.drop (3 * k)) ∧ Z (grpsTo l k) Lc M) (fun (k : Nat) (v : Value) (Lc : List Ph.Item) => l.length + 2 - 3 * k) (0) (_) (_) ⟨rfl, rfl, trivial⟩ (⟨by omega, M0, H, hp, hz⟩) ?_)
  intro k v Lc w
  rintro ⟨hk, M, H, hb, hzc⟩
  have hlen : (l.drop (3 * k)).length = l.length - 3 * k := List.length_drop
  refine SQ (SQ (RG ?_))
  first | refine WR.step (Ex.loadM H rfl (by assumption) Tryz.isAgg30) (Wn.none rfl) rfl rfl ?_ | refine WR.step (Ex.load1 H rfl (by repeat (first | exact List.Mem.head _ | apply List.Mem.tail)) Tryz.isAgg30 (by rfl)) (Wn.none rfl) rfl rfl ?_
  first | refine WR.step (Ex.lenSl Tryz.underlying30 (by assumption) rfl) (Wn.none rfl) rfl rfl ?_ | refine WR.step (Ex.lenRow Tryz.underlying30 H (by repeat (first | exact List.Mem.head _ | apply List.Mem.tail)) rfl) (Wn.none rfl) rfl rfl ?_ | refine WR.step (Ex.lenSlice Tryz.underlying30 rfl) (Wn.none rfl) rfl rfl ?_
  refine WR.split (Ex.gtr rfl rfl) (Wn.none rfl) rfl rfl (fun h0_2 => ?_) (fun h0_2 => ?_)
  · refine NL (TN (CT rfl (SK (TN (BL (SQ (RG ?_)))))))
    first | refine WR.step (Ex.loadM H rfl (by assumption) Tryz.isAgg30) (Wn.none rfl) rfl rfl ?_ | refine WR.step (Ex.load1 H rfl (by repeat (first | exact List.Mem.head _ | apply List.Mem.tail)) Tryz.isAgg30 (by rfl)) (Wn.none rfl) rfl rfl ?_
    first | refine WR.step (Ex.lenSl Tryz.underlying30 (by assumption) rfl) (Wn.none rfl) rfl rfl ?_ | refine WR.step (Ex.lenRow Tryz.underlying30 H (by repeat (first | exact List.Mem.head _ | apply List.Mem.tail)) rfl) (Wn.none rfl) rfl rfl ?_ | refine WR.step (Ex.lenSlice Tryz.underlying30 rfl) (Wn.none rfl) rfl rfl ?_
    refine WR.stepE (v' := encN (min 3 (l.drop (3 * k)).length)) (Ex.min2 rfl rfl) (congrArg I (by omega)) (Wn.none rfl) rfl rfl ?_
    refine AS rfl rfl (NL (TN (SQ (RG (AS rfl rfl (NL (TN (SQ (SQ (RG (MV rfl rfl (NL (TN (BL (WC.loop1 (fun (i : Nat) => [(0, yv lid), (1, ptr bb 0), (3, encN (min 3 (l.drop (3 * k)).length)), (4, encN (accN (l.drop (3 * k)) i)), (14, I (i : Int))]) (fun (i : Nat) w => i ≤ 3 ∧ StX C w0 M0 M (.blk bb (.cells #[v] 30) :: Lc) w) (fun (i : Nat) => 3 - i) (0) ⟨rfl, rfl, rfl, rfl, rfl, trivial⟩ (⟨by omega, H⟩) ?_)))))))))))))))
    intro i w
    rintro ⟨hi, H⟩
    have hac := accN_lt (l.drop (3 * k)) i
    have hac2 : 256 ^ i ≤ 256 ^ 3 := Nat.pow_le_pow_right (by decide) hi
    refine SQ (RG ?_)
    refine WR.split (Ex.lss rfl rfl) (Wn.none rfl) rfl rfl (fun h4_0 => ?_) (fun h4_0 => ?_)
    · refine NL (TN (SQ (CT rfl (SK (TN (SQ (BL (SQ (RG (MV rfl rfl (AS rfl rfl (NL (TN (SQ (RG (MV rfl rfl (WR.stepE (v' := encN (accN (l.drop (3 * k)) i * 256)) (Ex.shlN (m := accN (l.drop (3 * k)) i) (s := 8) rfl rfl (by first | (show _ ≤ 64; omega) | (show _ ≤ 8; omega) | decide) (by first | omega | (simp; omega))) rfl (Wn.none rfl) rfl rfl ?_)))))))))))))))))
      refine AS rfl rfl (NL (TN (SQ (RG (MV rfl rfl (MV rfl rfl ?_))))))
      refine WR.split (Ex.lss rfl rfl) (Wn.none rfl) rfl rfl (fun h7_2 => ?_) (fun h7_2 => ?_)
      · obtain ⟨u, hu⟩ : ∃ u, (l.drop (3 * k))[i]? = some u := ⟨_, List.getElem?_eq_getElem (by omega)⟩
        have hult := u.toNat_lt
        refine NL (TN (CT rfl (RG (MV rfl rfl ?_))))
        first | refine WR.step (Ex.loadM H rfl (by assumption) Tryz.isAgg30) (Wn.none rfl) rfl rfl ?_ | refine WR.step (Ex.load1 H rfl (by repeat (first | exact List.Mem.head _ | apply List.Mem.tail)) Tryz.isAgg30 (by rfl)) (Wn.none rfl) rfl rfl ?_
        refine MV rfl rfl (WR.idxSl Tryz.underlying30 Tryz.sizeOf5 (by assumption) rfl rfl (hu) (Wn.none rfl) rfl ?_)
        intro p25 hc25
        first | refine WR.step (Ex.loadM H rfl (by assumption) Tryz.isAgg5) (Wn.none rfl) rfl rfl ?_ | refine WR.step (Ex.load1 H rfl (by repeat (first | exact List.Mem.head _ | apply List.Mem.tail)) Tryz.isAgg5 (by rfl)) (Wn.none rfl) rfl rfl ?_
        first | refine WR.step (Ex.convB Tryz.underlying5 Tryz.underlying3 rfl) (Wn.none rfl) rfl rfl ?_ | refine WR.step (Ex.convI Tryz.underlying5 Tryz.underlying3 rfl (by omega)) (Wn.none rfl) rfl rfl ?_
        refine WR.stepE (v' := encN (accN (l.drop (3 * k)) (i + 1))) (Ex.orN (m := accN (l.drop (3 * k)) i * 256) (s := u.toNat) rfl rfl (by omega) (by omega)) (congrArg encN (by rw [show accN (l.drop (3 * k)) i * 256 = accN (l.drop (3 * k)) i * 2 ^ 8 from rfl, or_eight, accN]; simp [List.getD_eq_getElem?_getD, hu])) (Wn.none rfl) rfl rfl ?_
        refine AS rfl rfl (NL (IB (TN (RG (ST (Ex.add64 rfl rfl (by omega)) rfl ?_)))))
        refine MV rfl rfl (NL ?_)
        refine WQ.again1 (i + 1) ⟨rfl, rfl, rfl, rfl, rfl, trivial⟩ ?_ ?_
        · exact ⟨by omega, H⟩
        · omega
      · refine NL (TN (CF rfl (SK (IB (TN (RG (ST (Ex.add64 rfl rfl (by omega)) rfl ?_)))))))
        refine MV rfl rfl (NL ?_)
        refine WQ.again1 (i + 1) ⟨rfl, rfl, rfl, (congrArg (fun x => some (encN x)) (accN_out _ _ (by omega))), rfl, trivial⟩ ?_ ?_
        · exact ⟨by omega, H⟩
        · omega
    · refine NL (TN (SQ (CF rfl (WC.exit (WQ.thenExit (WQ.thenExit (WQ.exitHere (TN (SQ (RG (WR.alloc [_, _, _, _] H Tryz.zeroValue189 rfl (Wn.none rfl) rfl ?_)))))))))))
      intro b6 w H
      refine NL (TN (SQ (SQ (RG (MV rfl rfl (NL (TN (BL ?_))))))))
      obtain rfl : i = 3 := by omega
      refine WC.loop1 (fun (j : Nat) => [(0, yv lid), (1, ptr bb 0), (3, encN (min 3 (l.drop (3 * k)).length)), (4, encN (accN (l.drop (3 * k)) 3)), (6, ptr b6 0), (30, I (j : Int))]) (fun (j : Nat) w => j ≤ 4 ∧ StX C w0 M0 M (.blk b6 (.cells ((outp (l.drop (3 * k)) j).map encB).toArray 189) :: .blk bb (.cells #[v] 30) :: Lc) w) (fun (j : Nat) => 4 - j) (0) ⟨rfl, rfl, rfl, rfl, rfl, rfl, trivial⟩ (⟨by omega, H⟩) ?_
      intro j w
      rintro ⟨hj, H⟩
      have hac := accN_lt (l.drop (3 * k)) 3
      have hol : (outp (l.drop (3 * k)) j).length = 4 := rfl
      refine SQ (RG ?_)
      refine WR.split (Ex.lss rfl rfl) (Wn.none rfl) rfl rfl (fun h12_0 => ?_) (fun h12_0 => ?_)
      · refine NL (TN (SQ (CT rfl (SK (TN (SQ (BL (SQ (RG (MV rfl rfl (AS rfl rfl (NL (TN (SQ (RG (MV rfl rfl (MV rfl rfl (MV rfl rfl (ST (Ex.mul64 rfl rfl (by omega)) rfl ?_)))))))))))))))))))
        refine WR.stepE (v' := I ((18 - 6 * j : Nat) : Int)) (Ex.sub64 rfl rfl (by omega)) (congrArg I (by omega)) (Wn.none rfl) rfl rfl ?_
        refine ST (Ex.shrN (m := _) (s := _) rfl rfl (by first | (show _ ≤ 64; omega) | (show _ ≤ 8; omega) | decide)) rfl ?_
        have hdv : accN (l.drop (3 * k)) 3 / 2 ^ (18 - 6 * j) ≤ accN (l.drop (3 * k)) 3 := Nat.div_le_self _ _
        refine WR.stepE (v' := encN (accN (l.drop (3 * k)) 3 / 2 ^ (18 - 6 * j) % 64)) (Ex.andN (m := _) (s := 63) rfl rfl (by omega) (by omega)) (congrArg encN (Nat.and_two_pow_sub_one_eq_mod _ 6)) (Wn.none rfl) rfl rfl ?_
        refine WR.stepE (v' := encB (alpha.getD (accN (l.drop (3 * k)) 3 / 2 ^ (18 - 6 * j) % 64) 0)) (Ex.idxStr (l := alpha) Tryz.underlying9 rfl rfl (List.getElem?_eq_getElem (by rw [alpha_len]; omega))) (congrArg encB (by rw [getD_in _ _ _ (by rw [alpha_len]; omega)])) (Wn.none rfl) rfl rfl ?_
        refine ST (Ex.idxArr Tryz.underlying189 Tryz.sizeOf5 rfl rfl (by omega)) rfl ?_
        refine WR.store1 (((outp (l.drop (3 * k)) j).set j (alpha.getD (accN (l.drop (3 * k)) 3 / 2 ^ (18 - 6 * j) % 64) 0)).map encB) H rfl rfl (by repeat first | exact .head | apply Upd.tail) (by simp [List.map_set]) Tryz.sizeOf5 (by simp [hol]; omega) rfl rfl (Wn.none rfl) ?_
        intro w H
        refine NL (TN (SQ (RG (MV rfl rfl (MV rfl rfl ?_)))))
        refine WR.split (Ex.gtr rfl rfl) (Wn.none rfl) rfl rfl (fun h15_2 => ?_) (fun h15_2 => ?_)
        · refine NL (TN (CT rfl (RG (MV rfl rfl (ST (Ex.idxArr Tryz.underlying189 Tryz.sizeOf5 rfl rfl (by omega)) rfl ?_)))))
          refine WR.store1 (((outp (l.drop (3 * k)) j).set j 61).map encB) H rfl rfl (by repeat first | exact .head | apply Upd.tail) (by simp [List.map_set]; rfl) Tryz.sizeOf5 (by simp [hol]; omega) rfl rfl (Wn.none rfl) ?_
          intro w H
          refine NL (IB (TN (RG (ST (Ex.add64 rfl rfl (by omega)) rfl ?_))))
          refine MV rfl rfl (NL ?_)
          refine WQ.again1 (j + 1) ⟨rfl, rfl, rfl, rfl, rfl, rfl, trivial⟩ ?_ ?_
          · refine ⟨by omega, ?_⟩
            rw [← outp_set _ _ (by omega), ch, if_pos (by omega)]
            exact H
          · omega
        · refine NL (TN (CF rfl (SK (IB (TN (RG (ST (Ex.add64 rfl rfl (by omega)) rfl ?_)))))))
          refine MV rfl rfl (NL ?_)
          refine WQ.again1 (j + 1) ⟨rfl, rfl, rfl, rfl, rfl, rfl, trivial⟩ ?_ ?_
          · refine ⟨by omega, ?_⟩
            rw [← outp_set _ _ (by omega), ch, if_neg (by omega)]
            exact H
          · omega
      · refine NL (TN (SQ (CF rfl (WC.exit (WQ.thenExit (WQ.thenExit (WQ.exitHere (TN (SQ (SQ (RG (MV rfl rfl ?_))))))))))))
        first | refine WR.step (Ex.loadAgg H rfl (by repeat (first | exact List.Mem.head _ | apply List.Mem.tail)) Tryz.isAgg189 Tryz.sizeOf189 (by rfl)) (Wn.none rfl) rfl rfl ?_ | refine WR.step (Ex.loadAggM H rfl (by assumption) Tryz.isAgg189 Tryz.sizeOf189 (by rfl)) (Wn.none rfl) rfl rfl ?_
        obtain rfl : j = 4 := by omega
        have hpre : (grpsTo l k ++ [outp (l.drop (3 * k)) 4]) <+: grps l := grpsTo_ini l k (by omega)
        refine WR.yield (hY _ _ _ _ _ hpre hzc (H.hand (.right (.right (Spl.whole _))))) rfl rfl (Wn.none rfl) rfl ?_
        rintro en w ⟨M, Lc, Hs, hcase⟩
        replace H := (H.back (.right (.right (Spl.whole _))) Hs).perm List.perm_append_comm
        simp only [List.cons_append, List.nil_append] at H
        replace hb := hb.mono Hs.ext.le
        rcases hcase with ⟨rfl, hzc⟩ | ⟨rfl, hzc⟩
        · refine ⟨true, rfl, ?_⟩
          refine ST (Ex.notT rfl) rfl (NL (TN (CF rfl (SK (TN (RG ?_))))))
          first | refine WR.step (Ex.loadM H rfl (by assumption) Tryz.isAgg30) (Wn.none rfl) rfl rfl ?_ | refine WR.step (Ex.load1 H rfl (by repeat (first | exact List.Mem.head _ | apply List.Mem.tail)) Tryz.isAgg30 (by rfl)) (Wn.none rfl) rfl rfl ?_
          refine MV rfl rfl (WR.sliceSl (i := min 3 (l.drop (3 * k)).length) (j := (l.drop (3 * k)).length) Tryz.underlying30 Tryz.sizeOf5 (by assumption) rfl (.inl ⟨_, rfl, rfl⟩) (.inr ⟨rfl, rfl⟩) (by omega) (by omega) (Wn.none rfl) rfl ?_)
          intro v54 hs54
          refine WR.putV [_] H rfl rfl (by first | exact One.slice _ _ _ | exact Sl.one (by assumption) | exact StX.rowOne H (by repeat (first | exact List.Mem.head _ | apply List.Mem.tail))) (by repeat first | exact .head | apply Upd.tail) (by rfl) Tryz.sizeOf30 (by first | decide | (simp; done) | (simp; omega)) (Wn.none rfl) ?_
          intro w H
          refine NL (IB ?_)
          refine WQ.again3 (k + 1) (v54) (Lc) ⟨rfl, rfl, trivial⟩ ?_ ?_
          · refine ⟨by omega, M, H.drop (List.sublist_cons_self _ _), ?_, ?_⟩
            · have := drop_next l k (min 3 (l.drop (3 * k)).length) rfl
              rw [List.take_of_length_le (Nat.le_refl _), this] at hs54
              exact hs54
            · rw [grpsTo_next]; exact hzc
          · omega
        · refine ⟨false, rfl, ?_⟩
          refine ST (Ex.notF rfl) rfl (NL (TN (CT rfl (RT ?_))))
          refine WQ.ret0X rfl ?_
          subst hC
          exact ⟨_, M, Lc, rfl, H.drop (by exact (List.sublist_cons_self _ _).trans (List.sublist_cons_self _ _)), .inr ⟨_, hpre, hzc⟩⟩
  · refine NL (TN (CF rfl (WC.exit (WQ.thenExit (WQ.thenExit (WQ.exitHere (WQ.end0X rfl ?_)))))))
    subst hC
    rw [show k = (l.length + 2) / 3 by omega] at hzc
    exact ⟨_, M, Lc, rfl, H.drop (List.sublist_cons_self _ _), .inl hzc⟩
theorem groups_spec (bv : Value) (l : List UInt8) : CtO Tryz.prog 163 [bv] (fun M => Bs M bv l) (fun r _ its => ∃ bb, r = .func (.func 190) #[] #[ptr bb 0] ∧ its = [.blk bb (.cells #[bv] 30)]) := by
  refine CtO.of Tryz.func163 (enters Tryz.func163 (by kernel_rfl) rfl) rfl rfl rfl ?_
  intro w0 M0 H hp
  refine SQ (RG (WR.box [_] H rfl (One.cells (by first | exact One.slice _ _ _ | exact Sl.one (by assumption) | exact StX.rowOne H (by repeat (first | exact List.Mem.head _ | apply List.Mem.tail)))) (Wn.none rfl) rfl ?_))
  intro b1 w H
  refine AS rfl rfl (NL (TN (SQ (RG (ST (Ex.makeFunc rfl) rfl (AS rfl rfl (NL (TN (RT ?_)))))))))
  refine WQ.ret1O rfl rfl H (List.Sublist.refl _) ?_
  exact ⟨_, rfl, rfl⟩
theorem encode_spec (bv : Value) (l : List UInt8) (hs : l.length ≤ 12000) : Ct Tryz.prog 127 [bv] (fun M => Bs M bv l) (fun r M => ∃ v, r = .tuple #[v, fault 0 0] ∧ Bs M v (encode l)) := by
  refine Ct.ofM Tryz.func127 (enters Tryz.func127 (by kernel_rfl) rfl) rfl rfl rfl ?_
  intro w0 M0 H hp
  refine SQ (RG (AS rfl rfl (WR.alloc [_, _] H Tryz.zeroValue24 rfl (Wn.none rfl) rfl ?_)))
  intro b3 w H
  refine NL (TN (SQ (SQ (RG (MV rfl rfl ?_)))))
  first | refine WR.step (Ex.lenSl Tryz.underlying30 (by assumption) rfl) (Wn.none rfl) rfl rfl ?_ | refine WR.step (Ex.lenRow Tryz.underlying30 H (by repeat (first | exact List.Mem.head _ | apply List.Mem.tail)) rfl) (Wn.none rfl) rfl rfl ?_ | refine WR.step (Ex.lenSlice Tryz.underlying30 rfl) (Wn.none rfl) rfl rfl ?_
  refine WR.stepF (Ex.gtr rfl rfl) (by omega) (Wn.none rfl) rfl rfl ?_
  refine NL (TN (CF rfl (SK (TN (SQ (RG (WR.alloc [_] H Tryz.zeroValue30 rfl (Wn.none rfl) rfl ?_)))))))
  intro b4 w H
  refine NL (TN (SQ (RG (WR.alloc [_] H Tryz.zeroValue3 rfl (Wn.none rfl) rfl ?_))))
  intro b5 w H
  refine WR.store [_] H rfl rfl rfl (by repeat first | exact .head | apply Upd.tail) Tryz.sizeOf3 rfl (by rfl) (by rfl) (Wn.none rfl) ?_
  intro w H
  refine NL (TN (SQ (SQ (RG (MV rfl rfl ?_)))))
  replace H := H.newRow 5 encB
  refine WR.callO H (groups_spec _ _) rfl (by assumption) (Wn.none rfl) rfl ?_
  intro v12 M w its H hle hr12
  replace hp := hp.mono hle
  obtain ⟨bb, rfl, rfl⟩ := hr12
  simp only [List.cons_append, List.nil_append] at H
  refine NL (TN (BL ?_))
  refine WC.rangeFunc H rfl (groups_iter bb bv l (by omega)) (.left (.left (.left (.left (.right .nil))))) (hp) rfl (fun pre Lc _ => ∃ v, Lc = [RowI 5 encB v (encRun pre).1, .blk b5 (.cells #[encN (encRun pre).2] 3), .blk b4 (.cells #[v] 30)]) (fun _ _ _ _ => False) (fun _ _ _ _ h _ => h) (⟨_, rfl⟩) ?_ ?_ ?_
  · intro lid rc hrc pre x Lc w M hpre hz H
    obtain ⟨v, rfl⟩ := hz
    have hi4 := ini_len hpre
    have hiv := encRun_inv pre hi4.2.1
    have hx4 := hi4.1
    refine RG (WR.alloc [_, _, _, _] H Tryz.zeroValue189 rfl (Wn.none rfl) rfl ?_)
    intro b6 w H
    refine WR.store (x.map encB) H rfl rfl rfl (by repeat first | exact .head | apply Upd.tail) Tryz.sizeOf189 (by simp [hx4]) rfl (by simp; exact fun _ _ => rfl) (Wn.none rfl) ?_
    intro w H
    refine NL (WQ.begin hrc H (by repeat first | exact .head | apply Upd.tail) ?_)
    intro w H
    refine BL (SQ (SQ (RG ?_)))
    first | refine WR.step (Ex.loadM H rfl (by assumption) Tryz.isAgg3) (Wn.none rfl) rfl rfl ?_ | refine WR.step (Ex.load1 H rfl (by repeat (first | exact List.Mem.head _ | apply List.Mem.tail)) Tryz.isAgg3 (by rfl)) (Wn.none rfl) rfl rfl ?_
    refine WR.split (Ex.eql rfl rfl) (Wn.none rfl) rfl rfl (fun h7_1 => ?_) (fun h7_1 => ?_)
    · refine NL (TN (CT rfl (SQ (RG ?_))))
      first | refine WR.step (Ex.loadM H rfl (by assumption) Tryz.isAgg30) (Wn.none rfl) rfl rfl ?_ | refine WR.step (Ex.load1 H rfl (by repeat (first | exact List.Mem.head _ | apply List.Mem.tail)) Tryz.isAgg30 (by rfl)) (Wn.none rfl) rfl rfl ?_
      refine WR.lit (enc := encB) ty30 [13, 10] H rfl (by rfl) (fun _ => rfl) rfl rfl (Wn.none rfl) rfl ?_
      intro v17 M w H hle hl17
      refine WR.appendSl ty30 (fun _ => rfl) H rfl (fun _ => by repeat first | exact .head | apply Upd.tail) rfl (by assumption) (by first | omega | (simp only [List.length_append, List.length_cons, List.length_nil, List.length_take, List.length_drop]; omega)) (by first | (simp only [maxLen]; omega) | (simp only [maxLen, List.length_append, List.length_cons, List.length_nil, List.length_take, List.length_drop]; omega)) (Wn.none rfl) rfl ?_
      intro v18 w H
      refine WR.putV [_] H rfl rfl (by first | exact One.slice _ _ _ | exact Sl.one (by assumption) | exact StX.rowOne H (by repeat (first | exact List.Mem.head _ | apply List.Mem.tail))) (by repeat first | exact .head | apply Upd.tail) (by rfl) Tryz.sizeOf30 (by first | decide | (simp; done) | (simp; omega)) (Wn.none rfl) ?_
      intro w H
      refine NL (TN (RG (WR.store [_] H rfl rfl rfl (by repeat first | exact .head | apply Upd.tail) Tryz.sizeOf3 rfl (by rfl) (by rfl) (Wn.none rfl) ?_)))
      intro w H
      refine NL (TN (SQ (WC.draw (m := 4) rfl rfl H ?_)))
      intro w H
      refine WA.two (i := 0) (j := 1) (by kernel_rfl) rfl rfl ?_ ?_
      · first | refine WR.step (Ex.loadM H rfl (by assumption) Tryz.isAgg30) (Wn.none rfl) rfl rfl ?_ | refine WR.step (Ex.load1 H rfl (by repeat (first | exact List.Mem.head _ | apply List.Mem.tail)) Tryz.isAgg30 (by rfl)) (Wn.none rfl) rfl rfl ?_
        refine NA (ON 1 (by kernel_rfl) rfl (WR.stepE (v' := .slice (some ⟨b6, 0, none⟩) x.length x.length) (Ex.sliceArr Tryz.underlying189 Tryz.sizeOf5 rfl) (by rw [hx4]) (Wn.none rfl) rfl rfl ?_))
        refine NA (ON 2 (by kernel_rfl) rfl (WR.appendBlk ty30 (fun _ => rfl) H rfl (fun _ => by repeat first | exact .head | apply Upd.tail) rfl (by repeat (first | exact List.Mem.head _ | apply List.Mem.tail)) (by first | omega | (simp only [List.length_append, List.length_cons, List.length_nil, List.length_take, List.length_drop]; omega)) (by first | (simp only [maxLen]; omega) | (simp only [maxLen, List.length_append, List.length_cons, List.length_nil, List.length_take, List.length_drop]; omega)) (Wn.none rfl) rfl ?_))
        intro v21 w H
        refine NA (ON 3 (by kernel_rfl) rfl (WR.putV [_] H rfl rfl (by first | exact One.slice _ _ _ | exact Sl.one (by assumption) | exact StX.rowOne H (by repeat (first | exact List.Mem.head _ | apply List.Mem.tail))) (by repeat first | exact .head | apply Upd.tail) (by rfl) Tryz.sizeOf30 (by first | decide | (simp; done) | (simp; omega)) (Wn.none rfl) ?_))
        intro w H
        refine NA (WA.done (by kernel_rfl) (TN (RG ?_)))
        first | refine WR.step (Ex.loadM H rfl (by assumption) Tryz.isAgg3) (Wn.none rfl) rfl rfl ?_ | refine WR.step (Ex.load1 H rfl (by repeat (first | exact List.Mem.head _ | apply List.Mem.tail)) Tryz.isAgg3 (by rfl)) (Wn.none rfl) rfl rfl ?_
        refine ST (Ex.add64 rfl rfl (by omega)) rfl ?_
        refine WR.store [_] H rfl rfl rfl (by repeat first | exact .head | apply Upd.tail) Tryz.sizeOf3 rfl (by rfl) (by rfl) (Wn.none rfl) ?_
        intro w H
        refine NL (IB ?_)
        refine WQ.roundOn hrc (H.drop (List.sublist_cons_self _ _)) ⟨v21, ?_⟩
        rw [encRun_next, encStep, if_pos (by omega)]
        rfl
      · refine WR.stepE (v' := .slice (some ⟨b6, 0, none⟩) x.length x.length) (Ex.sliceArr Tryz.underlying189 Tryz.sizeOf5 rfl) (by rw [hx4]) (Wn.none rfl) rfl rfl ?_
        refine NA (ON 0 (by kernel_rfl) rfl ?_)
        first | refine WR.step (Ex.loadM H rfl (by assumption) Tryz.isAgg30) (Wn.none rfl) rfl rfl ?_ | refine WR.step (Ex.load1 H rfl (by repeat (first | exact List.Mem.head _ | apply List.Mem.tail)) Tryz.isAgg30 (by rfl)) (Wn.none rfl) rfl rfl ?_
        refine NA (ON 2 (by kernel_rfl) rfl (WR.appendBlk ty30 (fun _ => rfl) H rfl (fun _ => by repeat first | exact .head | apply Upd.tail) rfl (by repeat (first | exact List.Mem.head _ | apply List.Mem.tail)) (by first | omega | (simp only [List.length_append, List.length_cons, List.length_nil, List.length_take, List.length_drop]; omega)) (by first | (simp only [maxLen]; omega) | (simp only [maxLen, List.length_append, List.length_cons, List.length_nil, List.length_take, List.length_drop]; omega)) (Wn.none rfl) rfl ?_))
        intro v21 w H
        refine NA (ON 3 (by kernel_rfl) rfl (WR.putV [_] H rfl rfl (by first | exact One.slice _ _ _ | exact Sl.one (by assumption) | exact StX.rowOne H (by repeat (first | exact List.Mem.head _ | apply List.Mem.tail))) (by repeat first | exact .head | apply Upd.tail) (by rfl) Tryz.sizeOf30 (by first | decide | (simp; done) | (simp; omega)) (Wn.none rfl) ?_))
        intro w H
        refine NA (WA.done (by kernel_rfl) (TN (RG ?_)))
        first | refine WR.step (Ex.loadM H rfl (by assumption) Tryz.isAgg3) (Wn.none rfl) rfl rfl ?_ | refine WR.step (Ex.load1 H rfl (by repeat (first | exact List.Mem.head _ | apply List.Mem.tail)) Tryz.isAgg3 (by rfl)) (Wn.none rfl) rfl rfl ?_
        refine ST (Ex.add64 rfl rfl (by omega)) rfl ?_
        refine WR.store [_] H rfl rfl rfl (by repeat first | exact .head | apply Upd.tail) Tryz.sizeOf3 rfl (by rfl) (by rfl) (Wn.none rfl) ?_
        intro w H
        refine NL (IB ?_)
        refine WQ.roundOn hrc (H.drop (List.sublist_cons_self _ _)) ⟨v21, ?_⟩
        rw [encRun_next, encStep, if_pos (by omega)]
        rfl
    · refine NL (TN (CF rfl (SK (TN (SQ (WC.draw (m := 4) rfl rfl H ?_))))))
      intro w H
      refine WA.two (i := 0) (j := 1) (by kernel_rfl) rfl rfl ?_ ?_
      · first | refine WR.step (Ex.loadM H rfl (by assumption) Tryz.isAgg30) (Wn.none rfl) rfl rfl ?_ | refine WR.step (Ex.load1 H rfl (by repeat (first | exact List.Mem.head _ | apply List.Mem.tail)) Tryz.isAgg30 (by rfl)) (Wn.none rfl) rfl rfl ?_
        refine NA (ON 1 (by kernel_rfl) rfl (WR.stepE (v' := .slice (some ⟨b6, 0, none⟩) x.length x.length) (Ex.sliceArr Tryz.underlying189 Tryz.sizeOf5 rfl) (by rw [hx4]) (Wn.none rfl) rfl rfl ?_))
        refine NA (ON 2 (by kernel_rfl) rfl (WR.appendBlk ty30 (fun _ => rfl) H rfl (fun _ => by repeat first | exact .head | apply Upd.tail) rfl (by repeat (first | exact List.Mem.head _ | apply List.Mem.tail)) (by first | omega | (simp only [List.length_append, List.length_cons, List.length_nil, List.length_take, List.length_drop]; omega)) (by first | (simp only [maxLen]; omega) | (simp only [maxLen, List.length_append, List.length_cons, List.length_nil, List.length_take, List.length_drop]; omega)) (Wn.none rfl) rfl ?_))
        intro v21 w H
        refine NA (ON 3 (by kernel_rfl) rfl (WR.putV [_] H rfl rfl (by first | exact One.slice _ _ _ | exact Sl.one (by assumption) | exact StX.rowOne H (by repeat (first | exact List.Mem.head _ | apply List.Mem.tail))) (by repeat first | exact .head | apply Upd.tail) (by rfl) Tryz.sizeOf30 (by first | decide | (simp; done) | (simp; omega)) (Wn.none rfl) ?_))
        intro w H
        refine NA (WA.done (by kernel_rfl) (TN (RG ?_)))
        first | refine WR.step (Ex.loadM H rfl (by assumption) Tryz.isAgg3) (Wn.none rfl) rfl rfl ?_ | refine WR.step (Ex.load1 H rfl (by repeat (first | exact List.Mem.head _ | apply List.Mem.tail)) Tryz.isAgg3 (by rfl)) (Wn.none rfl) rfl rfl ?_
        refine ST (Ex.add64 rfl rfl (by omega)) rfl ?_
        refine WR.store [_] H rfl rfl rfl (by repeat first | exact .head | apply Upd.tail) Tryz.sizeOf3 rfl (by rfl) (by rfl) (Wn.none rfl) ?_
        intro w H
        refine NL (IB ?_)
        refine WQ.roundOn hrc (H.drop (List.sublist_cons_self _ _)) ⟨v21, ?_⟩
        rw [encRun_next, encStep, if_neg (by omega)]
        rfl
      · refine WR.stepE (v' := .slice (some ⟨b6, 0, none⟩) x.length x.length) (Ex.sliceArr Tryz.underlying189 Tryz.sizeOf5 rfl) (by rw [hx4]) (Wn.none rfl) rfl rfl ?_
        refine NA (ON 0 (by kernel_rfl) rfl ?_)
        first | refine WR.step (Ex.loadM H rfl (by assumption) Tryz.isAgg30) (Wn.none rfl) rfl rfl ?_ | refine WR.step (Ex.load1 H rfl (by repeat (first | exact List.Mem.head _ | apply List.Mem.tail)) Tryz.isAgg30 (by rfl)) (Wn.none rfl) rfl rfl ?_
        refine NA (ON 2 (by kernel_rfl) rfl (WR.appendBlk ty30 (fun _ => rfl) H rfl (fun _ => by repeat first | exact .head | apply Upd.tail) rfl (by repeat (first | exact List.Mem.head _ | apply List.Mem.tail)) (by first | omega | (simp only [List.length_append, List.length_cons, List.length_nil, List.length_take, List.length_drop]; omega)) (by first | (simp only [maxLen]; omega) | (simp only [maxLen, List.length_append, List.length_cons, List.length_nil, List.length_take, List.length_drop]; omega)) (Wn.none rfl) rfl ?_))
        intro v21 w H
        refine NA (ON 3 (by kernel_rfl) rfl (WR.putV [_] H rfl rfl (by first | exact One.slice _ _ _ | exact Sl.one (by assumption) | exact StX.rowOne H (by repeat (first | exact List.Mem.head _ | apply List.Mem.tail))) (by repeat first | exact .head | apply Upd.tail) (by rfl) Tryz.sizeOf30 (by first | decide | (simp; done) | (simp; omega)) (Wn.none rfl) ?_))
        intro w H
        refine NA (WA.done (by kernel_rfl) (TN (RG ?_)))
        first | refine WR.step (Ex.loadM H rfl (by assumption) Tryz.isAgg3) (Wn.none rfl) rfl rfl ?_ | refine WR.step (Ex.load1 H rfl (by repeat (first | exact List.Mem.head _ | apply List.Mem.tail)) Tryz.isAgg3 (by rfl)) (Wn.none rfl) rfl rfl ?_
        refine ST (Ex.add64 rfl rfl (by omega)) rfl ?_
        refine WR.store [_] H rfl rfl rfl (by repeat first | exact .head | apply Upd.tail) Tryz.sizeOf3 rfl (by rfl) (by rfl) (Wn.none rfl) ?_
        intro w H
        refine NL (IB ?_)
        refine WQ.roundOn hrc (H.drop (List.sublist_cons_self _ _)) ⟨v21, ?_⟩
        rw [encRun_next, encStep, if_neg (by omega)]
        rfl
  · intro Dm w M Lc H hle hz
    obtain ⟨v, rfl⟩ := hz
    simp only [List.cons_append, List.nil_append] at H
    have hiv := encRun_inv (grps l) (grps_all l)
    have hgl := grps_len l
    refine IB (TN (SQ (SQ (RG ?_))))
    first | refine WR.step (Ex.loadM H rfl (by assumption) Tryz.isAgg3) (Wn.none rfl) rfl rfl ?_ | refine WR.step (Ex.load1 H rfl (by repeat (first | exact List.Mem.head _ | apply List.Mem.tail)) Tryz.isAgg3 (by rfl)) (Wn.none rfl) rfl rfl ?_
    refine WR.split (Ex.gtr rfl rfl) (Wn.none rfl) rfl rfl (fun h12_1 => ?_) (fun h12_1 => ?_)
    · refine NL (TN (CT rfl (RG ?_)))
      first | refine WR.step (Ex.loadM H rfl (by assumption) Tryz.isAgg30) (Wn.none rfl) rfl rfl ?_ | refine WR.step (Ex.load1 H rfl (by repeat (first | exact List.Mem.head _ | apply List.Mem.tail)) Tryz.isAgg30 (by rfl)) (Wn.none rfl) rfl rfl ?_
      refine WR.lit (enc := encB) ty30 [13, 10] H rfl (by rfl) (fun _ => rfl) rfl rfl (Wn.none rfl) rfl ?_
      intro v27 M w H hle hl27
      refine WR.appendSl ty30 (fun _ => rfl) H rfl (fun _ => by repeat first | exact .head | apply Upd.tail) rfl (by assumption) (by first | omega | (simp only [List.length_append, List.length_cons, List.length_nil, List.length_take, List.length_drop]; omega)) (by first | (simp only [maxLen]; omega) | (simp only [maxLen, List.length_append, List.length_cons, List.length_nil, List.length_take, List.length_drop]; omega)) (Wn.none rfl) rfl ?_
      intro v28 w H
      refine WR.putV [_] H rfl rfl (by first | exact One.slice _ _ _ | exact Sl.one (by assumption) | exact StX.rowOne H (by repeat (first | exact List.Mem.head _ | apply List.Mem.tail))) (by repeat first | exact .head | apply Upd.tail) (by rfl) Tryz.sizeOf30 (by first | decide | (simp; done) | (simp; omega)) (Wn.none rfl) ?_
      intro w H
      refine NL (TN (SQ (WC.draw (m := 4) rfl rfl H ?_)))
      intro w H
      refine WA.two (i := 0) (j := 1) (by kernel_rfl) rfl rfl ?_ ?_
      · first | refine WR.step (Ex.loadM H rfl (by assumption) Tryz.isAgg30) (Wn.none rfl) rfl rfl ?_ | refine WR.step (Ex.load1 H rfl (by repeat (first | exact List.Mem.head _ | apply List.Mem.tail)) Tryz.isAgg30 (by rfl)) (Wn.none rfl) rfl rfl ?_
        refine NA (ON 1 (by kernel_rfl) rfl (WR.call H (none_spec) rfl (trivial) (Wn.none rfl) rfl ?_))
        intro v30 M w H hle hr30
        replace hl27 := hl27.mono hle
        obtain rfl := hr30
        refine NA (ON 2 (by kernel_rfl) rfl (AS rfl rfl (NA (ON 3 (by kernel_rfl) rfl (WR.store [_, _] H rfl rfl rfl (by repeat first | exact .head | apply Upd.tail) Tryz.sizeOf24 rfl (by rfl) (by rfl) (Wn.none rfl) ?_)))))
        intro w H
        refine NA (WA.done (by kernel_rfl) (TN (RT ?_)))
        obtain ⟨M, hle, hf, H⟩ := H.freezeRow (v := v28) (enc := encB) (t := 5) (by repeat first | exact .head | apply Rem.tail)
        refine WQ.retM1 H (by repeat first | exact .head | apply Rem.tail) ?_
        intro w H
        refine ⟨_, resv_run2 rfl rfl ⟨_, rfl, H.loadAgg (by repeat (first | exact List.Mem.head _ | apply List.Mem.tail)) Tryz.isAgg24 Tryz.sizeOf24 (by rfl)⟩, _, _, rfl, H.ext, ?_⟩
        refine ⟨_, rfl, ?_⟩
        rw [encode, if_pos (by omega)]
        exact hf
      · refine WR.call H (none_spec) rfl (trivial) (Wn.none rfl) rfl ?_
        intro v30 M w H hle hr30
        replace hl27 := hl27.mono hle
        obtain rfl := hr30
        refine NA (ON 0 (by kernel_rfl) rfl ?_)
        first | refine WR.step (Ex.loadM H rfl (by assumption) Tryz.isAgg30) (Wn.none rfl) rfl rfl ?_ | refine WR.step (Ex.load1 H rfl (by repeat (first | exact List.Mem.head _ | apply List.Mem.tail)) Tryz.isAgg30 (by rfl)) (Wn.none rfl) rfl rfl ?_
        refine NA (ON 2 (by kernel_rfl) rfl (AS rfl rfl (NA (ON 3 (by kernel_rfl) rfl (WR.store [_, _] H rfl rfl rfl (by repeat first | exact .head | apply Upd.tail) Tryz.sizeOf24 rfl (by rfl) (by rfl) (Wn.none rfl) ?_)))))
        intro w H
        refine NA (WA.done (by kernel_rfl) (TN (RT ?_)))
        obtain ⟨M, hle, hf, H⟩ := H.freezeRow (v := v28) (enc := encB) (t := 5) (by repeat first | exact .head | apply Rem.tail)
        refine WQ.retM1 H (by repeat first | exact .head | apply Rem.tail) ?_
        intro w H
        refine ⟨_, resv_run2 rfl rfl ⟨_, rfl, H.loadAgg (by repeat (first | exact List.Mem.head _ | apply List.Mem.tail)) Tryz.isAgg24 Tryz.sizeOf24 (by rfl)⟩, _, _, rfl, H.ext, ?_⟩
        refine ⟨_, rfl, ?_⟩
        rw [encode, if_pos (by omega)]
        exact hf
    · refine NL (TN (CF rfl (SK (TN (SQ (WC.draw (m := 4) rfl rfl H ?_))))))
      intro w H
      refine WA.two (i := 0) (j := 1) (by kernel_rfl) rfl rfl ?_ ?_
      · first | refine WR.step (Ex.loadM H rfl (by assumption) Tryz.isAgg30) (Wn.none rfl) rfl rfl ?_ | refine WR.step (Ex.load1 H rfl (by repeat (first | exact List.Mem.head _ | apply List.Mem.tail)) Tryz.isAgg30 (by rfl)) (Wn.none rfl) rfl rfl ?_
        refine NA (ON 1 (by kernel_rfl) rfl (WR.call H (none_spec) rfl (trivial) (Wn.none rfl) rfl ?_))
        intro v30 M w H hle hr30
        obtain rfl := hr30
        refine NA (ON 2 (by kernel_rfl) rfl (AS rfl rfl (NA (ON 3 (by kernel_rfl) rfl (WR.store [_, _] H rfl rfl rfl (by repeat first | exact .head | apply Upd.tail) Tryz.sizeOf24 rfl (by rfl) (by rfl) (Wn.none rfl) ?_)))))
        intro w H
        refine NA (WA.done (by kernel_rfl) (TN (RT ?_)))
        obtain ⟨M, hle, hf, H⟩ := H.freezeRow (v := v) (enc := encB) (t := 5) (by repeat first | exact .head | apply Rem.tail)
        refine WQ.retM1 H (by repeat first | exact .head | apply Rem.tail) ?_
        intro w H
        refine ⟨_, resv_run2 rfl rfl ⟨_, rfl, H.loadAgg (by repeat (first | exact List.Mem.head _ | apply List.Mem.tail)) Tryz.isAgg24 Tryz.sizeOf24 (by rfl)⟩, _, _, rfl, H.ext, ?_⟩
        refine ⟨_, rfl, ?_⟩
        rw [encode, if_neg (by omega)]
        exact hf
      · refine WR.call H (none_spec) rfl (trivial) (Wn.none rfl) rfl ?_
        intro v30 M w H hle hr30
        obtain rfl := hr30
        refine NA (ON 0 (by kernel_rfl) rfl ?_)
        first | refine WR.step (Ex.loadM H rfl (by assumption) Tryz.isAgg30) (Wn.none rfl) rfl rfl ?_ | refine WR.step (Ex.load1 H rfl (by repeat (first | exact List.Mem.head _ | apply List.Mem.tail)) Tryz.isAgg30 (by rfl)) (Wn.none rfl) rfl rfl ?_
        refine NA (ON 2 (by kernel_rfl) rfl (AS rfl rfl (NA (ON 3 (by kernel_rfl) rfl (WR.store [_, _] H rfl rfl rfl (by repeat first | exact .head | apply Upd.tail) Tryz.sizeOf24 rfl (by rfl) (by rfl) (Wn.none rfl) ?_)))))
        intro w H
        refine NA (WA.done (by kernel_rfl) (TN (RT ?_)))
        obtain ⟨M, hle, hf, H⟩ := H.freezeRow (v := v) (enc := encB) (t := 5) (by repeat first | exact .head | apply Rem.tail)
        refine WQ.retM1 H (by repeat first | exact .head | apply Rem.tail) ?_
        intro w H
        refine ⟨_, resv_run2 rfl rfl ⟨_, rfl, H.loadAgg (by repeat (first | exact List.Mem.head _ | apply List.Mem.tail)) Tryz.isAgg24 Tryz.sizeOf24 (by rfl)⟩, _, _, rfl, H.ext, ?_⟩
        refine ⟨_, rfl, ?_⟩
        rw [encode, if_neg (by omega)]
        exact hf
  · intro Dm w M Lc c pre H hle hpre hz
    exact hz.elim
end Go.Proofs.YtogkmhjnojphiaaGreatDoor
end
section
set_option linter.unusedVariables false
namespace Go.Ph.Pf
open Go.Ph.Pl
def utf8_ValidString (p0 : List UInt8) : Option Bool :=
  if p0.length ≤ 4611686018427387904 then some (Chs.vld p0) else none
def grapheme_Split (p0 : List UInt8) : Option (List (List UInt8)) :=
  if p0.length ≤ 1048576 then some (Gr.pieces p0) else none
def R_Lower (p0 : List UInt8) : Option (List UInt8) :=
  if p0.length ≤ 9223372036854775807 then some (Chs.lower p0) else none
def R_SetOf (p0 : List UInt8) : Option Int :=
  if p0.length ≤ 9223372036854775807 then some (match Chs.setOf p0 with | some k => (k : Int) | none => -1) else none
def charset_Best (p0 : List UInt8) : Option (List UInt8) :=
  some (Chs.setN.getD (Chs.bestK p0) [])
def charset_Decode (p0 : List UInt8) (p1 : List UInt8) : Option (List UInt8 × (Int × Int)) :=
  if p0.length ≤ 9223372036854775807 ∧ p1.length ≤ 12000 then (match Chs.setOf p0 with | some k => some (Chs.decoded k p1, (0, 0)) | none => some ([], (18, -2))) else none
def charset_Encode (p0 : List UInt8) (p1 : List UInt8) : Option (List UInt8 × (Int × Int)) :=
  if p0.length ≤ 9223372036854775807 ∧ p1.length ≤ 12000 then (match Chs.setOf p0 with | some k => (if Chs.vld p1 = true then (match Chs.encGo (Chs.encK k) (Gr.chars p1) 0 with | .ok b => some (b, (0, 0)) | .error e => some ([], (17, (e : Int)))) else some ([], (5, -3))) | none => some ([], (18, -2))) else none
def R_Decoded (p0 : Int) (p1 : List UInt8) : Option (List UInt8) :=
  if 0 ≤ p0 ∧ p0 < 4 ∧ p1.length ≤ 1048576 then some (Chs.decoded p0.toNat p1) else none
def base64_Encode (p0 : List UInt8) : Option (List UInt8 × (Int × Int)) :=
  if p0.length ≤ 12000 then some (B64.encode p0, (0, 0)) else none
def base64_Lenient (p0 : List UInt8) : Option (List UInt8 × (Int × Int)) :=
  if p0.length ≤ 24000 then some (B64.lenient p0, (0, 0)) else none
def R_Chars64 (p0 : List UInt8) : Option (List UInt8) :=
  if p0.length ≤ 1000000 then some (B64.chars64 p0) else none
def R_Loose64 (p0 : List UInt8) : Option (List UInt8) :=
  if p0.length ≤ 1000000 then some (B64.loose64 p0) else none
def strings_Join (p0 : List (List UInt8)) (p1 : List UInt8) : Option (List UInt8) :=
  if p0.length ≤ 140737488355328 ∧ (jn p1 p0).length ≤ 140737488355328 then some (jn p1 p0) else none
def strings_SplitN (p0 : List UInt8) (p1 : List UInt8) (p2 : Int) : Option (List (List UInt8)) :=
  if p0.length < 4294967281 ∧ 1 ≤ p1.length ∧ 1 ≤ p2 ∧ p2 ≤ 9223372036854775807 then some (Lib.splitN p0 p1 p2.toNat) else none
def strings_ReplaceAll (p0 : List UInt8) (p1 : List UInt8) (p2 : List UInt8) : Option (List UInt8) :=
  if p0.length < 4294967281 ∧ 1 ≤ p1.length ∧ p0.length + p0.length * p2.length ≤ 140737488355328 then some (Lib.replaceAll p0 p1 p2) else none
def strings_Contains (p0 : List UInt8) (p1 : List UInt8) : Option Bool :=
  if p0.length < 4294967281 then some (Lib.contains p0 p1) else none
def basic_Fault (p0 : Int) (p1 : Int) : Option (Int × Int) :=
  some (p0, p1)
def stringslite_HasPrefix (p0 : List UInt8) (p1 : List UInt8) : Option Bool :=
  ((if (p1.length : Int) ≤ (p0.length : Int) then (cut p0 0 (p1.length : Int)).bind fun s5 => some (decide (s5 = p1)) else some false)).bind fun b3 => some b3
def strings_HasPrefix (p0 : List UInt8) (p1 : List UInt8) : Option Bool :=
  (stringslite_HasPrefix p0 p1).bind fun b1 => some b1
def stringslite_HasSuffix (p0 : List UInt8) (p1 : List UInt8) : Option Bool :=
  ((if (p1.length : Int) ≤ (p0.length : Int) then (chk ((p0.length : Int) - (p1.length : Int))).bind fun n5 => (cut p0 n5 (p0.length : Int)).bind fun s6 => some (decide (s6 = p1)) else some false)).bind fun b3 => some b3
def strings_HasSuffix (p0 : List UInt8) (p1 : List UInt8) : Option Bool :=
  (stringslite_HasSuffix p0 p1).bind fun b1 => some b1
def words_plain_L1 (p0 : List UInt8) : Nat → Int → Option (Unit ⊕ Bool)
  | 0, _ => none
  | m4 + 1, n3 => (if n3 < (p0.length : Int) then ((idx p0 n3).bind fun c9 => (if c9.toNat < 32 then some true else (idx p0 n3).bind fun c11 => some (decide (126 < c11.toNat)))).bind fun b8 => (if b8 = true then some (.inr false) else (chk (n3 + 1)).bind fun n14 => words_plain_L1 p0 m4 n14) else some (.inl ()))
def words_plain (p0 : List UInt8) : Option Bool :=
  ((words_plain_L1 p0 FU 0 : Option (Unit ⊕ Bool))).bind fun o27 => (match o27 with | .inl _ => ((strings_HasPrefix p0 [32]).bind fun b19 => (if b19 = true then some false else (strings_HasSuffix p0 [32]).bind fun b21 => (if b21 = true then some false else (strings_Contains p0 [61, 63]).bind fun b23 => some (!b23)))).bind fun b18 => some b18 | .inr r26 => some r26)
def basic_None  : Option (Int × Int) :=
  some (0, 0)
def words_units (p0 : List UInt8) (p1 : List UInt8) : Option (List UInt8 × List UInt8) :=
  some (p1, p0)
def words_flat (p0 : List UInt8) : Option (List UInt8) :=
  (base64_Encode p0).bind fun (l1, (n2, n3)) => (strings_ReplaceAll l1 [13, 10] []).bind fun s5 => some s5
def strings_Builder_WriteByte (p0 : List UInt8) (p1 : UInt8) : Option (Bool × List UInt8) :=
  (app 1 p0 ([p1] : List UInt8)).bind fun l2 => some (true, l2)
def basic_Letter (p0 : UInt8) : Option Bool :=
  ((if 97 ≤ p0.toNat then (if p0.toNat ≤ 122 then some true else (if 65 ≤ p0.toNat then (if p0.toNat ≤ 90 then some true else (if 48 ≤ p0.toNat then some (decide (p0.toNat ≤ 57)) else some false)) else (if 48 ≤ p0.toNat then some (decide (p0.toNat ≤ 57)) else some false))) else (if 65 ≤ p0.toNat then (if p0.toNat ≤ 90 then some true else (if 48 ≤ p0.toNat then some (decide (p0.toNat ≤ 57)) else some false)) else (if 48 ≤ p0.toNat then some (decide (p0.toNat ≤ 57)) else some false)))).bind fun b3 => some b3
def basic_Digit (p0 : UInt8) : Option UInt8 :=
  (idx [48, 49, 50, 51, 52, 53, 54, 55, 56, 57, 65, 66, 67, 68, 69, 70] ((p0 &&& (15 : UInt8)).toNat : Int)).bind fun c1 => some c1
def strings_Builder_Write (p0 : List UInt8) (p1 : List UInt8) : Option (Int × Bool × List UInt8) :=
  (app 1 p0 p1).bind fun l2 => some ((p1.length : Int), true, l2)
def strings_Builder_String (p0 : List UInt8) : Option (List UInt8) :=
  some p0
def words_data_L1 (p0 : List UInt8) : Nat → List UInt8 → Int → Option (List UInt8)
  | 0, _, _ => none
  | m14 + 1, l11, n13 => (if n13 < (p0.length : Int) then (idx p0 n13).bind fun c17 => (if c17 = 32 then (strings_Builder_WriteByte l11 95).bind fun (b19, l20) => (chk (n13 + 1)).bind fun n22 => words_data_L1 p0 m14 l20 n22 else (basic_Letter c17).bind fun b23 => (if b23 = true then (strings_Builder_WriteByte l11 c17).bind fun (b26, l27) => (chk (n13 + 1)).bind fun n29 => words_data_L1 p0 m14 l27 n29 else (basic_Digit (UInt8.ofNat (c17.toNat / 2 ^ 4))).bind fun c30 => (basic_Digit c17).bind fun c32 => (strings_Builder_Write l11 ([61, c30, c32] : List UInt8)).bind fun (n34, b35, l36) => (chk (n13 + 1)).bind fun n38 => words_data_L1 p0 m14 l36 n38)) else some l11)
def words_data (p0 : List UInt8) : Option (List UInt8) :=
  (words_data_L1 p0 FU [] 0).bind fun l6 => (strings_Builder_String l6).bind fun s40 => some s40
def words_word (p0 : List UInt8) (p1 : List UInt8) : Option (List UInt8) :=
  (charset_Encode p0 p1).bind fun (l1, (n2, n3)) => (if p0 = [117, 116, 102, 56] then (cat [61, 63] p0).bind fun s6 => (cat s6 [63, 66, 63]).bind fun s7 => (words_flat l1).bind fun s8 => (cat s7 s8).bind fun s10 => (cat s10 [63, 61]).bind fun s11 => some s11 else (cat [61, 63] p0).bind fun s12 => (cat s12 [63, 81, 63]).bind fun s13 => (words_data l1).bind fun s14 => (cat s13 s14).bind fun s16 => (cat s16 [63, 61]).bind fun s17 => some s17)
def words_units_1_L2 {σ : Type} (Y : σ → (List UInt8) → Option (σ × Bool)) (a10 : List UInt8) : Nat → Nat → σ → Option (σ ⊕ σ)
  | 0, _, _ => none
  | m24 + 1, ps22, s23 => (if ps22 < a10.length then (Y s23 (Chs.utf8 ((Utf.dr (a10.drop ps22)).1 : Int))).bind fun (s26, b27) => (if b27 = true then words_units_1_L2 Y a10 m24 (ps22 + (Utf.dr (a10.drop ps22)).2) s26 else some (.inr s26)) else some (.inl s23))
def words_units_1_L1 {σ : Type} (Y : σ → (List UInt8) → Option (σ × Bool)) (p2 : List UInt8) (l1 : List (List UInt8)) : Nat → Int → σ → Option (σ ⊕ σ)
  | 0, _, _ => none
  | m8 + 1, n6, s7 => (if n6 < (l1.length : Int) then (idx l1 n6).bind fun a10 => (words_word p2 a10).bind fun s11 => (if (s11.length : Int) ≤ (75 : Int) then (Y s7 a10).bind fun (s14, b15) => (if b15 = true then (chk (n6 + 1)).bind fun n18 => words_units_1_L1 Y p2 l1 m8 n18 s14 else some (.inr s14)) else ((words_units_1_L2 Y a10 FU 0 s7 : Option (σ ⊕ σ))).bind fun o33 => (match o33 with | .inl s21 => (chk (n6 + 1)).bind fun n31 => words_units_1_L1 Y p2 l1 m8 n31 s21 | .inr r32 => some (.inr r32))) else some (.inl s7))
def words_units_1 (p1 : List UInt8) (p2 : List UInt8) (σ : Type) (Y : σ → (List UInt8) → Option (σ × Bool)) (s0 : σ) : Option σ :=
  (grapheme_Split p1).bind fun l1 => ((words_units_1_L1 Y p2 l1 FU 0 s0 : Option (σ ⊕ σ))).bind fun o36 => (match o36 with | .inl s5 => some s5 | .inr r35 => some r35)
def words_Encode_Y28 (s17 : List UInt8) (s : (List (List UInt8) × List UInt8)) (x32 : List UInt8) : Option (List (List UInt8) × List UInt8) :=
  match s with
  | (l25, s27) => ((if s27 = [] then some false else (cat s27 x32).bind fun s38 => (words_word s17 s38).bind fun s39 => some (decide ((75 : Int) < (s39.length : Int))))).bind fun b36 => (if b36 = true then (words_word s17 s27).bind fun s43 => (app 16 l25 ([s43] : List (List UInt8))).bind fun l45 => (cat [] x32).bind fun s47 => some (l45, s47) else (cat s27 x32).bind fun s48 => some (l25, s48))
def words_Encode (p0 : List UInt8) : Option (List UInt8 × (Int × Int)) :=
  (if (1000 : Int) < (p0.length : Int) then (basic_Fault 1 (-1)).bind fun (n2, n3) => some ([], (n2, n3)) else (utf8_ValidString p0).bind fun b5 => (if b5 = true then (words_plain p0).bind fun b11 => (if b11 = true then (basic_None).bind fun (n14, n15) => some (p0, (n14, n15)) else (charset_Best p0).bind fun s17 => (words_units s17 p0).bind fun (z19, z21) => (words_units_1 z19 z21 (List (List UInt8) × List UInt8) (stepY goOn (words_Encode_Y28 s17)) ([], [])).bind fun (l25, s27) => (words_word s17 s27).bind fun s49 => (app 16 l25 ([s49] : List (List UInt8))).bind fun l51 => (strings_Join l51 [32]).bind fun s53 => (basic_None).bind fun (n55, n56) => some (s53, (n55, n56))) else (basic_Fault 5 (-2)).bind fun (n8, n9) => some ([], (n8, n9))))
def basic_Hex (p0 : UInt8) : Option (UInt8 × Bool) :=
  ((if 48 ≤ p0.toNat then some (decide (p0.toNat ≤ 57)) else some false)).bind fun b3 => (if b3 = true then some ((p0 - (48 : UInt8)), true) else ((if 65 ≤ p0.toNat then some (decide (p0.toNat ≤ 70)) else some false)).bind fun b9 => (if b9 = true then some (((p0 - (65 : UInt8)) + (10 : UInt8)), true) else ((if 97 ≤ p0.toNat then some (decide (p0.toNat ≤ 102)) else some false)).bind fun b15 => (if b15 = true then some (((p0 - (97 : UInt8)) + (10 : UInt8)), true) else some (0, false))))
def basic_Pair (p0 : List UInt8) : Option (UInt8 × Bool) :=
  (if (p0.length : Int) < (2 : Int) then some (0, false) else (idx p0 0).bind fun c2 => (basic_Hex c2).bind fun (c3, b4) => (idx p0 1).bind fun c6 => (basic_Hex c6).bind fun (c7, b8) => ((if b4 = true then some (((UInt8.ofNat (c3.toNat * 2 ^ 4)) ||| c7), b8) else some (((UInt8.ofNat (c3.toNat * 2 ^ 4)) ||| c7), false))).bind fun (c12, b13) => some (c12, b13))
def words_bytesOf_L1 (p1 : List UInt8) : Nat → List UInt8 → Int → Option (List UInt8 ⊕ (List UInt8 × Bool))
  | 0, _, _ => none
  | m29 + 1, l26, n28 => (if n28 < (p1.length : Int) then (idx p1 n28).bind fun c32 => (if c32 = 95 then (app 1 l26 ([32] : List UInt8)).bind fun l34 => (chk (n28 + 1)).bind fun n35 => words_bytesOf_L1 p1 m29 l34 n35 else (idx p1 n28).bind fun c36 => (if c36 = 61 then (chk (n28 + 1)).bind fun n38 => (cut p1 n38 (p1.length : Int)).bind fun s39 => (basic_Pair s39).bind fun (c40, b41) => (if b41 = true then (app 1 l26 ([c40] : List UInt8)).bind fun l44 => (chk (n28 + 2)).bind fun n45 => (chk (n45 + 1)).bind fun n46 => words_bytesOf_L1 p1 m29 l44 n46 else some (.inr ([], false))) else ((idx p1 n28).bind fun c50 => (if 33 ≤ c50.toNat then (idx p1 n28).bind fun c52 => some (decide (c52.toNat ≤ 126)) else some false)).bind fun b49 => (if b49 = true then (idx p1 n28).bind fun c55 => (app 1 l26 ([c55] : List UInt8)).bind fun l56 => (chk (n28 + 1)).bind fun n57 => words_bytesOf_L1 p1 m29 l56 n57 else some (.inr ([], false))))) else some (.inl l26))
def words_bytesOf (p0 : List UInt8) (p1 : List UInt8) : Option (List UInt8 × Bool) :=
  ((if p0 = [66] then some (decide (p0 = [66])) else some (decide (p0 = [98])))).bind fun b3 => (if b3 = true then (toB p1).bind fun l7 => (base64_Lenient l7).bind fun (l8, (n9, n10)) => (words_flat l8).bind fun s12 => some (l8, decide (s12 = p1)) else ((if p0 = [81] then some (decide (p0 = [81])) else some (decide (p0 = [113])))).bind fun b16 => (if b16 = true then ((words_bytesOf_L1 p1 FU [] 0 : Option (List UInt8 ⊕ (List UInt8 × Bool)))).bind fun o61 => (match o61 with | .inl l23 => some (l23, true) | .inr r60 => some r60) else some ([], false)))
def basic_Failed (p0 : (Int × Int)) : Option Bool :=
  some (!decide (p0.1 = (0 : Int)))
def words_read (p0 : List UInt8) : Option (List UInt8 × Int × Bool) :=
  (strings_HasPrefix p0 [61, 63]).bind fun b1 => (if b1 = true then (cut p0 2 (min (p0.length : Int) 75)).bind fun s4 => (strings_SplitN s4 [63] 4).bind fun l5 => ((if (l5.length : Int) < (4 : Int) then some true else (idx l5 3).bind fun a11 => (strings_HasPrefix a11 [61]).bind fun b12 => some (!b12))).bind fun b9 => (if b9 = true then some ([], 0, false) else (idx l5 1).bind fun a16 => (idx l5 2).bind fun a17 => (words_bytesOf a16 a17).bind fun (l18, b19) => (idx l5 0).bind fun a21 => (charset_Decode a21 l18).bind fun (s22, (n23, n24)) => ((idx l5 0).bind fun a31 => (chk ((2 : Int) + (a31.length : Int))).bind fun n32 => (idx l5 1).bind fun a33 => (chk (n32 + (a33.length : Int))).bind fun n34 => (idx l5 2).bind fun a35 => (chk (n34 + (a35.length : Int))).bind fun n36 => (chk (n36 + 4)).bind fun n37 => (if b19 = true then (basic_Failed (n23, n24)).bind fun b38 => some (s22, n37, !b38) else some (s22, n37, false))).bind fun (s28, n29, b30) => some (s28, n29, b30)) else some ([], 0, false))
def basic_Blank (p0 : UInt8) : Option Bool :=
  ((if p0 = 32 then some true else some (decide (p0 = 9)))).bind fun b3 => some b3
def strings_Builder_WriteString (p0 : List UInt8) (p1 : List UInt8) : Option (Int × Bool × List UInt8) :=
  (app 1 p0 p1).bind fun l2 => some ((p1.length : Int), true, l2)
def words_Decode_L1 (p0 : List UInt8) : Nat → List UInt8 → Int → Int → Option (List UInt8 × Int)
  | 0, _, _, _ => none
  | m20 + 1, l16, n18, n19 => (if n19 < (p0.length : Int) then (cut p0 n19 (p0.length : Int)).bind fun s23 => (words_read s23).bind fun (s24, n25, b26) => (if b26 = true then (strings_Builder_WriteString l16 s24).bind fun (n67, b68, l69) => (chk (n19 + n25)).bind fun n71 => words_Decode_L1 p0 m20 l69 n71 n71 else ((if n18 < (0 : Int) then (idx p0 n19).bind fun c37 => (strings_Builder_WriteByte l16 c37).bind fun (b38, l39) => some l39 else some l16)).bind fun l34 => ((if (0 : Int) ≤ n18 then (idx p0 n19).bind fun c46 => (basic_Blank c46).bind fun b47 => some (!b47) else some false)).bind fun b44 => ((if b44 = true then (chk (n19 + 1)).bind fun n59 => (cut p0 n18 n59).bind fun s60 => (strings_Builder_WriteString l34 s60).bind fun (n61, b62, l63) => some (l63, (-1)) else some (l34, n18))).bind fun (l55, n57) => (chk (n19 + 1)).bind fun n66 => words_Decode_L1 p0 m20 l55 n57 n66) else some (l16, n18))
def words_Decode (p0 : List UInt8) : Option (List UInt8 × (Int × Int)) :=
  (if (4000 : Int) < (p0.length : Int) then (basic_Fault 1 (-1)).bind fun (n2, n3) => some ([], (n2, n3)) else (words_Decode_L1 p0 FU [] (-1) 0).bind fun (l10, n12) => ((if (0 : Int) ≤ n12 then (cut p0 n12 (p0.length : Int)).bind fun s81 => (strings_Builder_WriteString l10 s81).bind fun (n82, b83, l84) => some l84 else some l10)).bind fun l78 => (strings_Builder_String l78).bind fun s87 => (basic_None).bind fun (n89, n90) => some (s87, (n89, n90)))
def L_wordsExample  : Option Bool :=
  (words_Encode [195, 164, 32, 98]).bind fun (s1, (n2, n3)) => (words_Decode [61, 63, 108, 97, 116, 105, 110, 49, 63, 81, 63, 61, 69, 52, 95, 98, 63, 61]).bind fun (s5, (n6, n7)) => ((if n2 = (0 : Int) then (if n6 = (0 : Int) then (if s1 = [61, 63, 108, 97, 116, 105, 110, 49, 63, 81, 63, 61, 69, 52, 95, 98, 63, 61] then some (decide (s5 = [195, 164, 32, 98])) else some false) else some false) else some false)).bind fun b11 => some b11
def R_At (p0 : Int) (p1 : Int) : Option (Int × Int) :=
  some (p0, p1)
def R_In (p0 : Int) (p1 : Int) (p2 : Int) : Option Bool :=
  ((if p1 ≤ p0 then some (decide (p0 ≤ p2)) else some false)).bind fun b3 => some b3
def R_Find_L1 (p0 : List UInt8) (p1 : List UInt8) : Nat → Int → Option (Unit ⊕ Int)
  | 0, _ => none
  | m4 + 1, n3 => (chk (n3 + (p1.length : Int))).bind fun n5 => (if n5 ≤ (p0.length : Int) then (chk (n3 + (p1.length : Int))).bind fun n7 => (cut p0 n3 n7).bind fun s8 => (if s8 = p1 then some (.inr n3) else (chk (n3 + 1)).bind fun n10 => R_Find_L1 p0 p1 m4 n10) else some (.inl ()))
def R_Find (p0 : List UInt8) (p1 : List UInt8) (p2 : Int) : Option Int :=
  ((R_Find_L1 p0 p1 FU p2 : Option (Unit ⊕ Int))).bind fun o13 => (match o13 with | .inl _ => some (-1) | .inr r12 => some r12)
def R_Hex_L1 (p0 : UInt8) : Nat → Int → Option (Unit ⊕ Int)
  | 0, _ => none
  | m4 + 1, n3 => (if n3 < (16 : Int) then ((idx [48, 49, 50, 51, 52, 53, 54, 55, 56, 57, 65, 66, 67, 68, 69, 70] n3).bind fun c9 => (if c9 = p0 then some true else (R_Lower [48, 49, 50, 51, 52, 53, 54, 55, 56, 57, 65, 66, 67, 68, 69, 70]).bind fun s11 => (idx s11 n3).bind fun c13 => some (decide (c13 = p0)))).bind fun b8 => (if b8 = true then some (.inr n3) else (chk (n3 + 1)).bind fun n16 => R_Hex_L1 p0 m4 n16) else some (.inl ()))
def R_Hex (p0 : UInt8) : Option Int :=
  ((R_Hex_L1 p0 FU 0 : Option (Unit ⊕ Int))).bind fun o19 => (match o19 with | .inl _ => some (-1) | .inr r18 => some r18)
def R_WordAt_L1 (s37 : List UInt8) : Nat → List UInt8 → Int → Option (List UInt8 ⊕ (List UInt8 × Int))
  | 0, _, _ => none
  | m61 + 1, l58, n60 => (if n60 < (s37.length : Int) then (idx s37 n60).bind fun c64 => (if c64 = 95 then (app 1 l58 ([32] : List UInt8)).bind fun l66 => (chk (n60 + 1)).bind fun n67 => R_WordAt_L1 s37 m61 l66 n67 else ((if c64 = 61 then (chk (n60 + 2)).bind fun n72 => (if n72 < (s37.length : Int) then (chk (n60 + 1)).bind fun n74 => (idx s37 n74).bind fun c75 => (R_Hex c75).bind fun n76 => (if (0 : Int) ≤ n76 then (chk (n60 + 2)).bind fun n79 => (idx s37 n79).bind fun c80 => (R_Hex c80).bind fun n81 => some (decide ((0 : Int) ≤ n81)) else some false) else some false) else some false)).bind fun b70 => (if b70 = true then (chk (n60 + 1)).bind fun n85 => (idx s37 n85).bind fun c86 => (R_Hex c86).bind fun n87 => (chk ((16 : Int) * n87)).bind fun n89 => (chk (n60 + 2)).bind fun n90 => (idx s37 n90).bind fun c91 => (R_Hex c91).bind fun n92 => (chk (n89 + n92)).bind fun n94 => (app 1 l58 ([(ub8 n94)] : List UInt8)).bind fun l95 => (chk (n60 + 2)).bind fun n96 => (chk (n96 + 1)).bind fun n97 => R_WordAt_L1 s37 m61 l95 n97 else ((if c64 = 61 then some true else (R_In (c64.toNat : Int) 33 126).bind fun b102 => some (!b102))).bind fun b100 => (if b100 = true then some (.inr ([], 0)) else (app 1 l58 ([c64] : List UInt8)).bind fun l106 => (chk (n60 + 1)).bind fun n107 => R_WordAt_L1 s37 m61 l106 n107))) else some (.inl l58))
def R_WordAt (p0 : List UInt8) (p1 : Int) : Option (List UInt8 × Int) :=
  (R_Find p0 [61, 63] p1).bind fun n1 => (if n1 = p1 then (chk (p1 + 2)).bind fun n4 => (R_Find p0 [63] n4).bind fun n5 => (if n5 < (0 : Int) then some ([], 0) else (chk (n5 + 1)).bind fun n8 => (R_Find p0 [63] n8).bind fun n9 => (if n9 < (0 : Int) then some ([], 0) else (chk (n9 + 1)).bind fun n12 => (R_Find p0 [63] n12).bind fun n13 => ((if n13 < (0 : Int) then some true else (chk (n13 + 1)).bind fun n19 => (if (p0.length : Int) ≤ n19 then some true else (chk (n13 + 1)).bind fun n21 => (idx p0 n21).bind fun c22 => (if c22 = 61 then (chk (n13 + 2)).bind fun n24 => (chk (n24 - p1)).bind fun n25 => some (decide ((75 : Int) < n25)) else some true)))).bind fun b17 => (if b17 = true then some ([], 0) else (chk (p1 + 2)).bind fun n28 => (cut p0 n28 n5).bind fun s29 => (R_SetOf s29).bind fun n30 => (chk (n5 + 1)).bind fun n32 => (cut p0 n32 n9).bind fun s33 => (R_Lower s33).bind fun s34 => (chk (n9 + 1)).bind fun n36 => (cut p0 n36 n13).bind fun s37 => (if n30 < (0 : Int) then some ([], 0) else (((if s34 = [98] then (toB s37).bind fun l45 => (R_Loose64 l45).bind fun l46 => (R_Chars64 l46).bind fun s48 => (if s48 = s37 then some (.inl l46) else some (.inr ([], 0))) else (if s34 = [113] then ((R_WordAt_L1 s37 FU [] 0 : Option (List UInt8 ⊕ (List UInt8 × Int)))).bind fun o111 => (match o111 with | .inl l55 => some (.inl l55) | .inr r110 => some (.inr r110)) else some (.inr ([], 0)))) : Option (List UInt8 ⊕ (List UInt8 × Int)))).bind fun o118 => (match o118 with | .inl l41 => (R_Decoded n30 l41).bind fun s113 => (chk (n13 + 2)).bind fun n115 => (chk (n115 - p1)).bind fun n116 => some (s113, n116) | .inr r117 => some r117))))) else some ([], 0))
def R_Blank (p0 : UInt8) : Option Bool :=
  ((if p0 = 32 then some true else some (decide (p0 = 9)))).bind fun b3 => some b3
def R_Unworded_L2 (p0 : List UInt8) : Nat → Int → Option Int
  | 0, _ => none
  | m22 + 1, n21 => ((if n21 < (p0.length : Int) then (idx p0 n21).bind fun c27 => (R_Blank c27).bind fun b28 => some b28 else some false)).bind fun b25 => (if b25 = true then (chk (n21 + 1)).bind fun n32 => R_Unworded_L2 p0 m22 n32 else some n21)
def R_Unworded_L1 (p0 : List UInt8) : Nat → List UInt8 → Int → Option (List UInt8)
  | 0, _, _ => none
  | m6 + 1, s4, n5 => (if n5 < (p0.length : Int) then (R_WordAt p0 n5).bind fun (s8, n9) => (if n9 = (0 : Int) then (chk (n5 + 1)).bind fun n12 => (cut p0 n5 n12).bind fun s13 => (cat s4 s13).bind fun s14 => (chk (n5 + 1)).bind fun n15 => R_Unworded_L1 p0 m6 s14 n15 else (cat s4 s8).bind fun s16 => (chk (n5 + n9)).bind fun n17 => (R_Unworded_L2 p0 FU n17).bind fun n20 => ((if n17 < n20 then some (decide (n20 < (p0.length : Int))) else some false)).bind fun b36 => (if b36 = true then (R_WordAt p0 n20).bind fun (s40, n41) => (if (0 : Int) < n41 then R_Unworded_L1 p0 m6 s16 n20 else R_Unworded_L1 p0 m6 s16 n17) else R_Unworded_L1 p0 m6 s16 n17)) else some s4)
def R_Unworded (p0 : List UInt8) : Option (List UInt8) :=
  (R_Unworded_L1 p0 FU [] 0).bind fun s3 => some s3
def L_WordsDecodeMatchesSpec (p0 : List UInt8) : Option Bool :=
  (L_wordsExample).bind fun b1 => (if b1 = true then (words_Decode p0).bind fun (s4, (n5, n6)) => (if (4000 : Int) < (p0.length : Int) then ((R_At 1 (-1)).bind fun (n12, n13) => (if n5 = n12 ∧ n6 = n13 then some (decide (s4 = [])) else some false)).bind fun b11 => some b11 else ((if n5 = (0 : Int) then (R_Unworded p0).bind fun s21 => some (decide (s4 = s21)) else some false)).bind fun b19 => some b19) else some false)
end Go.Ph.Pf
end
section
set_option maxRecDepth 100000
set_option linter.unusedVariables false
set_option linter.unusedSimpArgs false
namespace Go.Proofs.YtogkmhjnojphiaaGreatDoor
open Go Go.RowKit Go.Ph Go.Ph.Pl Go.Ph.Pf
theorem xplaces24 : ∀ {fs : Array Field}, Tryz.prog.underlying 24 = some (.struct fs) → ∀ w, (fs.mapM fun f => do pure (f.offset, ← sizeOf f.type) : Sem (Array (Nat × Nat))).run Tryz.prog w = .ok #[(0, 1), (1, 1)] w := by
  intro fs h w
  rw [Tryz.underlying24] at h
  cases h
  simp
theorem xty30 : ElemTy Tryz.prog 30 5 (.int .u8 0) 1 1 := ElemTy.mk' Tryz.underlying30 (by kernel_rfl) rfl (by decide)
theorem xty43 : ElemTy Tryz.prog 43 9 (.string ⟨#[]⟩) 1 16 := ElemTy.mk' Tryz.underlying43 (by kernel_rfl) rfl (by decide)
theorem xeq24 (a0 b0 : Int) (a1 b1 : Int) (w : World) : (Op.equalIn 10000 24 (.agg #[.int .i64 a0, .int .i64 a1]) (.agg #[.int .i64 b0, .int .i64 b1])).run Tryz.prog w = .ok (decide (a0 = b0 ∧ a1 = b1)) w := by
  rw [run_equalIn_struct w 9999 24 _ _ (by rw [Program.fieldsOf, Tryz.underlying24]) (by kernel_rfl)]
  rw [Program.fieldsOf, Tryz.underlying24]
  by_cases h0 : a0 = b0
  rotate_left
  · simp [Op.eqFields, part, h0, Tryz.isAgg3, run_equalIn_int _ _ _ _ _ _ _ Tryz.underlying3]
  by_cases h1 : a1 = b1
  rotate_left
  · simp [Op.eqFields, part, h0, h1, Tryz.isAgg3, run_equalIn_int _ _ _ _ _ _ _ Tryz.underlying3]
  simp [Op.eqFields, part, h0, h1, Tryz.isAgg3, run_equalIn_int _ _ _ _ _ _ _ Tryz.underlying3]
theorem join_jn (sep : List UInt8) : ∀ l : List (List UInt8), Lib.join l sep = jn sep l
  | [] => rfl
  | [x] => Lib.join_one x sep
  | x :: y :: r => by
    have h := join_jn sep (y :: r)
    rw [Lib.join_cons] at h ⊢
    rw [jn, ← h]
    simp [Lib.joinTail]
theorem utf8_ValidString_ct {p0 : List UInt8} {r : Bool} (h : utf8_ValidString p0 = some r) : Ct Tryz.prog 38 [S p0] (fun M => Tabs M) (fun v M => v = Value.bool r) := by
  unfold utf8_ValidString at h
  split at h
  case isFalse => cases h
  rename_i hb
  cases h
  exact validString_spec p0 hb
theorem grapheme_Split_ct {p0 : List UInt8} {r : List (List UInt8)} (h : grapheme_Split p0 = some r) : Ct Tryz.prog 83 [S p0] (fun M => Tabs M) (fun v M => Sl M encS v r) := by
  unfold grapheme_Split at h
  split at h
  case isFalse => cases h
  rename_i hb
  cases h
  exact split_spec p0 hb
theorem R_Lower_ct {p0 : List UInt8} {r : List UInt8} (h : R_Lower p0 = some r) : Ct Tryz.prog 72 [S p0] (fun M => True) (fun v M => v = S r) := by
  unfold R_Lower at h
  split at h
  case isFalse => cases h
  rename_i hb
  cases h
  exact rlower_spec p0 hb
theorem R_SetOf_ct {p0 : List UInt8} {r : Int} (h : R_SetOf p0 = some r) : Ct Tryz.prog 92 [S p0] (fun M => True) (fun v M => v = I r) := by
  unfold R_SetOf at h
  split at h
  case isFalse => cases h
  rename_i hb
  cases h
  exact setOf_spec p0 hb
theorem charset_Best_ct {p0 : List UInt8} {r : List UInt8} (h : charset_Best p0 = some r) : Ct Tryz.prog 41 [S p0] (fun M => True) (fun v M => v = S r) := by
  unfold charset_Best at h
  cases h
  exact best_spec p0
theorem charset_Decode_ct {p0 : List UInt8} {p1 : List UInt8} {vp1 : Value} {r : (List UInt8 × (Int × Int))} (h : charset_Decode p0 p1 = some r) : Ct Tryz.prog 97 [S p0, vp1] (fun M => Sl M encB vp1 p1) (fun v M => v = Value.tuple #[S r.1, Value.agg #[I r.2.1, I r.2.2]]) := by
  unfold charset_Decode at h
  split at h
  case isFalse => cases h
  rename_i hb
  split at h
  · rename_i k hk; cases h; exact decode_spec_k p0 vp1 p1 hb.1 hb.2 k hk
  · rename_i hk; cases h; exact decode_unk p0 vp1 p1 hb.1 hb.2 hk
theorem charset_Encode_ct {p0 : List UInt8} {p1 : List UInt8} {r : (List UInt8 × (Int × Int))} (h : charset_Encode p0 p1 = some r) : Ct Tryz.prog 84 [S p0, S p1] (fun M => Tabs M) (fun v M => ∃ x0, v = Value.tuple #[x0, Value.agg #[I r.2.1, I r.2.2]] ∧ Sl M encB x0 r.1) := by
  unfold charset_Encode at h
  split at h
  case isFalse => cases h
  rename_i hb
  split at h
  · rename_i k hk
    split at h
    · rename_i hv
      split at h
      · rename_i b he; cases h; exact encode_ok hb.1 hb.2 hk hv he
      · rename_i e he; cases h; exact (encode_err hb.1 hb.2 hk hv he).mono fun v M hv => ⟨_, hv, Sl.nil _ _⟩
    · rename_i hv; cases h; exact (encode_mal p0 p1 hb.1 hb.2 k hk (by simpa using hv)).mono fun v M hv => ⟨_, hv, Sl.nil _ _⟩
  · rename_i hk; cases h; exact (encode_unk p0 p1 hb.1 hb.2 hk).mono fun v M hv => ⟨_, hv, Sl.nil _ _⟩
theorem R_Decoded_ct {p0 : Int} {p1 : List UInt8} {vp1 : Value} {r : List UInt8} (h : R_Decoded p0 p1 = some r) : Ct Tryz.prog 101 [I p0, vp1] (fun M => Sl M encB vp1 p1) (fun v M => v = S r) := by
  unfold R_Decoded at h
  split at h
  case isFalse => cases h
  rename_i hb
  cases h
  obtain ⟨k, rfl⟩ := Int.eq_ofNat_of_zero_le hb.1
  exact decoded_spec_k vp1 p1 hb.2.2 k (by omega)
theorem base64_Encode_ct {p0 : List UInt8} {vp0 : Value} {r : (List UInt8 × (Int × Int))} (h : base64_Encode p0 = some r) : Ct Tryz.prog 127 [vp0] (fun M => Sl M encB vp0 p0) (fun v M => ∃ x0, v = Value.tuple #[x0, Value.agg #[I r.2.1, I r.2.2]] ∧ Sl M encB x0 r.1) := by
  unfold base64_Encode at h
  split at h
  case isFalse => cases h
  rename_i hb
  cases h
  exact encode_spec vp0 p0 hb
theorem base64_Lenient_ct {p0 : List UInt8} {vp0 : Value} {r : (List UInt8 × (Int × Int))} (h : base64_Lenient p0 = some r) : Ct Tryz.prog 138 [vp0] (fun M => Sl M encB vp0 p0) (fun v M => ∃ x0, v = Value.tuple #[x0, Value.agg #[I r.2.1, I r.2.2]] ∧ Sl M encB x0 r.1) := by
  unfold base64_Lenient at h
  split at h
  case isFalse => cases h
  rename_i hb
  cases h
  exact lenient_spec vp0 p0 hb
theorem R_Chars64_ct {p0 : List UInt8} {vp0 : Value} {r : List UInt8} (h : R_Chars64 p0 = some r) : Ct Tryz.prog 93 [vp0] (fun M => Sl M encB vp0 p0) (fun v M => v = S r) := by
  unfold R_Chars64 at h
  split at h
  case isFalse => cases h
  rename_i hb
  cases h
  exact chars64_spec vp0 p0 hb
theorem R_Loose64_ct {p0 : List UInt8} {vp0 : Value} {r : List UInt8} (h : R_Loose64 p0 = some r) : Ct Tryz.prog 99 [vp0] (fun M => Sl M encB vp0 p0) (fun v M => Sl M encB v r) := by
  unfold R_Loose64 at h
  split at h
  case isFalse => cases h
  rename_i hb
  cases h
  exact loose64_spec vp0 p0 hb
theorem strings_Join_ct {p0 : List (List UInt8)} {p1 : List UInt8} {vp0 : Value} {r : List UInt8} (h : strings_Join p0 p1 = some r) : Ct Tryz.prog 44 [vp0, S p1] (fun M => Sl M encS vp0 p0) (fun v M => v = S r) := by
  unfold strings_Join at h
  split at h
  case isFalse => cases h
  rename_i hb
  cases h
  refine ⟨enters Tryz.func44 (by kernel_rfl) rfl, fun w M ha hp => ?_⟩
  obtain ⟨A, cp, rfl, hc, hn⟩ := Sl.cells hp ha
  rcases Nat.eq_zero_or_pos p0.length with h0 | h0
  · obtain rfl := List.eq_nil_of_length_eq_zero h0
    exact (Tryz.strings_Join_none A cp ⟨p1.toArray⟩ w).mono fun e w' ⟨he, hw⟩ => ⟨_, M, he, by subst hw; exact Ext.refl ha, rfl⟩
  · cases A with
    | none => obtain ⟨rfl, _⟩ := hn rfl; simp at h0
    | some ad =>
      obtain ⟨A', c', he', h1, ⟨h2, h3⟩, h4⟩ := hp
      cases he'
      obtain ⟨b, o, cs, t0, fz, e1, e2, e3⟩ := h4 (fun h => by rw [h] at h0; simp at h0)
      cases e1
      have hmap : (p0.map (fun l => (⟨l.toArray⟩ : ByteArray))).map (·.data.toList) = p0 := by
        rw [List.map_map]
        conv => rhs; rw [← List.map_id p0]
        exact List.map_congr_left (fun l _ => rfl)
      have hcall := Tryz.strings_Join b o cp (p0.map (fun l => (⟨l.toArray⟩ : ByteArray))) ⟨p1.toArray⟩ w (fun j x hx => by
        rw [List.getElem?_map] at hx
        obtain ⟨y, hy, rfl⟩ := Option.map_eq_some_iff.1 hx
        have := hc ⟨b, o, none⟩ rfl j (encS y) (by rw [List.getElem?_map, hy]; rfl)
        simpa [Addr.add_lit] using this) (ha.lt e2) (by simpa using hb.1) (by simpa using h1) (by rw [hmap, join_jn]; simpa using hb.2)
      rw [hmap, join_jn] at hcall
      simp only [List.length_map] at hcall
      exact hcall.mono fun e w' ⟨he, hw⟩ => ⟨_, M, he, ⟨BelowX.of hw _, Mem.le.refl M, fun b' o' hb' => by rw [hw.block b' (ha.lt hb')]; exact ha b' o' hb', fun b' hb' => rfl⟩, by simp⟩
theorem strings_SplitN_ct {p0 : List UInt8} {p1 : List UInt8} {p2 : Int} {r : List (List UInt8)} (h : strings_SplitN p0 p1 p2 = some r) : Ct Tryz.prog 95 [S p0, S p1, I p2] (fun M => GlF (fun w => ∃ m, w.cell? ⟨2, 0, none⟩ = some (.int .i64 m)) M) (fun v M => Sl M encS v r) := by
  unfold strings_SplitN at h
  split at h
  case isFalse => cases h
  rename_i hb
  cases h
  refine ⟨enters Tryz.func95 (by kernel_rfl) rfl, fun w M ha hp => ?_⟩
  obtain ⟨m, hm⟩ := hp w ha
  obtain ⟨n, rfl⟩ := Int.eq_ofNat_of_zero_le (Int.le_trans (by decide) hb.2.2.1)
  have hs : (⟨p0.toArray⟩ : ByteArray).size = p0.length := by simp [ByteArray.size]
  have hd : (Lib.splitB ⟨p1.toArray⟩ 0 (min n ((⟨p0.toArray⟩ : ByteArray).size + 1) - 1) ⟨p0.toArray⟩).map (·.data.toList) = Lib.splitN p0 p1 ((n : Int).toNat) := by rw [Lib.splitB_data, hs]; rfl
  have hl := Lib.splitB_length_le ⟨p1.toArray⟩ 0 (min n ((⟨p0.toArray⟩ : ByteArray).size + 1) - 1) ⟨p0.toArray⟩
  have hlen := congrArg List.length hd
  rw [List.length_map] at hlen
  refine (Tryz.strings_SplitN ⟨p0.toArray⟩ ⟨p1.toArray⟩ n m w (by omega) hm (by simpa [ByteArray.size] using hb.2.1) (by omega) (by omega)).mono fun e w' ⟨he, hw⟩ => ⟨_, M.set w.heap.size _, he, by subst hw; exact Ext.ofAlloc ha _, ?_⟩
  rw [hlen]
  exact Sl.splitN (t := 9) (fz := (0, 0)) hd (by omega) (by omega) (by simp [Mem.set])
theorem strings_ReplaceAll_ct {p0 : List UInt8} {p1 : List UInt8} {p2 : List UInt8} {r : List UInt8} (h : strings_ReplaceAll p0 p1 p2 = some r) : Ct Tryz.prog 128 [S p0, S p1, S p2] (fun M => GlF (fun w => ∃ m, w.cell? ⟨2, 0, none⟩ = some (.int .i64 m)) M) (fun v M => v = S r) := by
  unfold strings_ReplaceAll at h
  split at h
  case isFalse => cases h
  rename_i hb
  cases h
  refine ⟨enters Tryz.func128 (by kernel_rfl) rfl, fun w M ha hp => ?_⟩
  obtain ⟨m, hm⟩ := hp w ha
  have hs : (⟨p0.toArray⟩ : ByteArray).size = p0.length := by simp [ByteArray.size]
  have hc : Lib.countB ⟨p0.toArray⟩ ⟨p1.toArray⟩ ≤ p0.length := by simpa [ByteArray.size] using Lib.countB_le ⟨p1.toArray⟩ (by simpa [ByteArray.size] using hb.2.1) _ ⟨p0.toArray⟩ (Nat.le_refl _)
  have hc2 := Nat.mul_le_mul_right p2.length hc
  exact (Tryz.strings_ReplaceAll ⟨p0.toArray⟩ ⟨p1.toArray⟩ ⟨p2.toArray⟩ m w (by omega) hm (by simpa [ByteArray.size] using hb.2.1) (by simp only [ByteArray.size, List.size_toArray]; omega)).mono fun e w' ⟨he, hw⟩ => ⟨_, M, he, Ext.ofBelow ha hw, rfl⟩
theorem strings_Contains_ct {p0 : List UInt8} {p1 : List UInt8} {r : Bool} (h : strings_Contains p0 p1 = some r) : Ct Tryz.prog 81 [S p0, S p1] (fun M => GlF (fun w => ∃ m, w.cell? ⟨2, 0, none⟩ = some (.int .i64 m)) M) (fun v M => v = Value.bool r) := by
  unfold strings_Contains at h
  split at h
  case isFalse => cases h
  rename_i hb
  cases h
  refine ⟨enters Tryz.func81 (by kernel_rfl) rfl, fun w M ha hp => ?_⟩
  obtain ⟨m, hm⟩ := hp w ha
  exact (Tryz.strings_Contains ⟨p0.toArray⟩ ⟨p1.toArray⟩ m w (by simpa [ByteArray.size] using hb) hm).mono fun e w' ⟨he, hw⟩ => ⟨_, M, he, by subst hw; exact Ext.refl ha, rfl⟩
theorem copyCheck_ct {b : Nat} {p v : Value} {M0 : Mem} (hb : BPM M0 b p) : CtX Tryz.prog 98 [ptr b 0] [.blk b (.cells #[p, v] 70)] (fun _ => True) (fun r _ its => r = .tuple #[] ∧ its = [.blk b (.cells #[ptr b 0, v] 70)]) := by
  refine CtX.of Tryz.func98 (enters Tryz.func98 (by kernel_rfl) rfl) rfl rfl rfl ?_
  intro w M H _
  obtain ⟨j, hj, hjs⟩ := Option.map_eq_some_iff.1 (show (Tryz.prog.info? 70).map (·.size) = some 2 by kernel_rfl)
  have hl : liesAt Tryz.prog Tryz.prog.depth 70 (2 / Tryz.prog.cellsOf 70) 0 70 1 = true := by kernel_rfl
  have hbk := H.blk (List.Mem.head _)
  refine WC.seq (WC.region ?_)
  refine MV rfl rfl (ST (Ex.nilCheckP rfl) rfl (ST (Ex.fieldAddr Tryz.underlying70 rfl Tryz.sizeOf68 (by decide) rfl) rfl (ST (Ex.load1 H rfl (by repeat (first | exact List.Mem.head _ | apply List.Mem.tail)) Tryz.isAgg68 (by rfl)) rfl ?_)))
  rcases hb with rfl | rfl
  · refine WR.step (Ex.ptrNil Tryz.underlying68 rfl) (Wn.none rfl) rfl rfl ?_
    refine WR.nil (WQ.then (WC.condT rfl (WC.region ?_)))
    refine MV rfl rfl (MV rfl rfl (ST (Ex.toUnsafe Tryz.underlying68 Tryz.underlying171 hj (by rw [hjs]; decide) (T := 70) (cells := 2) (a := ⟨b, 0, none⟩) (by simp [World.shape?, hbk]) (by show (0 : Nat) < 2; decide) rfl) rfl ?_))
    refine ST (Ex.noEscape Tryz.func140 (by kernel_rfl) (by kernel_rfl) (by kernel_rfl) (by kernel_rfl) rfl) rfl (ST (Ex.fromUnsafe Tryz.underlying171 Tryz.underlying68 hj (T := 70) (cells := 2) (a := ⟨b, 0, none⟩) (by simp [World.shape?, hbk]) hl rfl) rfl ?_)
    refine ST (Ex.nilCheckP rfl) rfl (ST (Ex.fieldAddr Tryz.underlying70 rfl Tryz.sizeOf68 (by decide) rfl) rfl (WR.putV [_, _] H rfl rfl ⟨rfl, rfl⟩ (by repeat first | exact .head | apply Upd.tail) (by rfl) Tryz.sizeOf68 (by first | decide | (simp; done) | (simp; omega)) (Wn.none rfl) ?_))
    intro w H
    refine NL ?_
    exact WQ.endX0 rfl H (by repeat (first | exact Pick.nil | refine Pick.cons (by repeat first | exact .head | apply Rem.tail) ?_)) ⟨rfl, rfl⟩
  · refine WR.step (Ex.ptrNil Tryz.underlying68 rfl) (Wn.none rfl) rfl rfl ?_
    refine WR.nil (WQ.then (WC.condF rfl (WC.seq (WC.region ?_))))
    refine MV rfl rfl (ST (Ex.nilCheckP rfl) rfl (ST (Ex.fieldAddr Tryz.underlying70 rfl Tryz.sizeOf68 (by decide) rfl) rfl (ST (Ex.load1 H rfl (by repeat (first | exact List.Mem.head _ | apply List.Mem.tail)) Tryz.isAgg68 (by rfl)) rfl ?_)))
    refine MV rfl rfl (ST (Ex.ptrNeqSame Tryz.underlying68 hj rfl rfl) rfl ?_)
    refine WR.nil (WQ.then (WC.condF rfl (WC.skip ?_)))
    exact WQ.endX0 rfl H (by repeat (first | exact Pick.nil | refine Pick.cons (by repeat first | exact .head | apply Rem.tail) ?_)) ⟨rfl, rfl⟩
theorem basic_Fault_ct {p0 : Int} {p1 : Int} {r : (Int × Int)} (h : basic_Fault p0 p1 = some r) : Ct Tryz.prog 37 [I p0, I p1] (fun M => True) (fun v M => v = Value.agg #[I r.1, I r.2]) := by
  refine Ct.of Tryz.func37 (enters Tryz.func37 (by kernel_rfl) rfl) rfl rfl rfl ?_
  intro w0 M0 H hp
  unfold basic_Fault at h
  refine SQ (RG (WR.alloc [_, _] H Tryz.zeroValue24 rfl (Wn.none rfl) rfl ?_))
  intro b4 w H
  refine NL (TN (SQ (RG (MV rfl rfl (MV rfl rfl (ST (Ex.build [I p0, I p1] Tryz.underlying24 Tryz.zeroValue24 (xplaces24 Tryz.underlying24) rfl rfl) rfl (WR.store [_, _] H rfl rfl rfl (by repeat first | exact .head | apply Upd.tail) Tryz.sizeOf24 rfl (by rfl) (by rfl) (Wn.none rfl) ?_)))))))
  intro w H
  refine NL (TN (RT ?_))
  obtain rfl := Option.some.inj h
  exact WQ.ret1 rfl ⟨_, rfl, H.loadAgg (by repeat (first | exact List.Mem.head _ | apply List.Mem.tail)) Tryz.isAgg24 Tryz.sizeOf24 (by rfl)⟩ H.ext rfl
theorem stringslite_HasPrefix_ct {p0 : List UInt8} {p1 : List UInt8} {r : Bool} (h : stringslite_HasPrefix p0 p1 = some r) : Ct Tryz.prog 122 [S p0, S p1] (fun M => True) (fun v M => v = Value.bool r) := by
  refine Ct.of Tryz.func122 (enters Tryz.func122 (by kernel_rfl) rfl) rfl rfl rfl ?_
  intro w0 M0 H hp
  unfold stringslite_HasPrefix at h
  refine SQ (RG (AS rfl rfl (NL (TN (SQ ?_)))))
  obtain ⟨o1, e2, h⟩ := bnd h
  refine WC.cutX (fun e w => ∃ (b3 : Bool) (M : Mem), e = [(4, Value.bool b3)] ∧ St w0 M0 M [] w ∧ some b3 = some o1) [] ?_ ?_ (trivial)
  ·
   refine RG (MV rfl rfl (ST (Ex.lenStr Tryz.underlying9 rfl) rfl (MV rfl rfl (ST (Ex.lenStr Tryz.underlying9 rfl) rfl ?_))))
   by_cases hk4 : (p1.length : Int) ≤ (p0.length : Int)
   ·
    rw [if_pos hk4] at e2
    obtain ⟨s5, hxs5, e2⟩ := bnd e2
    refine WR.stepE (v' := .bool true) (Ex.geq rfl rfl) (congrArg Value.bool (decide_eq_true hk4)) (Wn.none rfl) rfl rfl (MV rfl rfl (SG (Ex.move rfl) rfl rfl rfl (SG (Ex.move rfl) rfl rfl rfl (SG (Ex.lenStr Tryz.underlying9 rfl) rfl rfl rfl (SG (Ex.sliceH Tryz.underlying9 rfl rfl hxs5) rfl rfl rfl (SG (Ex.move rfl) rfl rfl rfl (SG (Ex.strEql rfl rfl) rfl rfl rfl (PT rfl rfl rfl (AS rfl rfl (NL ?_))))))))))
    exact WQ.meetN [(4, _)] ⟨rfl, trivial⟩ ⟨_, _, rfl, H, e2⟩
   ·
    rw [if_neg hk4] at e2
    refine WR.stepE (v' := .bool false) (Ex.geq rfl rfl) (congrArg Value.bool (decide_eq_false hk4)) (Wn.none rfl) rfl rfl (MV rfl rfl (WR.skipN 6 rfl rfl (PF rfl rfl rfl (AS rfl rfl (NL ?_)))))
    exact WQ.meetN [(4, _)] ⟨rfl, trivial⟩ ⟨_, _, rfl, H, e2⟩
  ·
   rintro e w ⟨b3, M, rfl, H, q6⟩
   obtain rfl := Option.some.inj q6
   refine TN (RT ?_)
   obtain rfl := Option.some.inj h
   exact WQ.ret1 rfl rfl H.ext rfl
theorem strings_HasPrefix_ct {p0 : List UInt8} {p1 : List UInt8} {r : Bool} (h : strings_HasPrefix p0 p1 = some r) : Ct Tryz.prog 79 [S p0, S p1] (fun M => True) (fun v M => v = Value.bool r) := by
  refine Ct.of Tryz.func79 (enters Tryz.func79 (by kernel_rfl) rfl) rfl rfl rfl ?_
  intro w0 M0 H hp
  unfold strings_HasPrefix at h
  refine SQ (RG (AS rfl rfl (NL (TN (SQ ?_)))))
  obtain ⟨b1, hx2, h⟩ := bnd h
  refine RG (MV rfl rfl (MV rfl rfl (WR.call H (stringslite_HasPrefix_ct hx2) rfl trivial (Wn.none rfl) rfl ?_)))
  intro v7 M w H hle hR
  obtain rfl := hR
  refine AS rfl rfl (NL (TN (RT ?_)))
  obtain rfl := Option.some.inj h
  exact WQ.ret1 rfl rfl H.ext rfl
theorem stringslite_HasSuffix_ct {p0 : List UInt8} {p1 : List UInt8} {r : Bool} (h : stringslite_HasSuffix p0 p1 = some r) : Ct Tryz.prog 123 [S p0, S p1] (fun M => True) (fun v M => v = Value.bool r) := by
  refine Ct.of Tryz.func123 (enters Tryz.func123 (by kernel_rfl) rfl) rfl rfl rfl ?_
  intro w0 M0 H hp
  unfold stringslite_HasSuffix at h
  refine SQ (RG (AS rfl rfl (NL (TN (SQ ?_)))))
  obtain ⟨o1, e2, h⟩ := bnd h
  refine WC.cutX (fun e w => ∃ (b3 : Bool) (M : Mem), e = [(4, Value.bool b3)] ∧ St w0 M0 M [] w ∧ some b3 = some o1) [] ?_ ?_ (trivial)
  ·
   refine RG (MV rfl rfl (ST (Ex.lenStr Tryz.underlying9 rfl) rfl (MV rfl rfl (ST (Ex.lenStr Tryz.underlying9 rfl) rfl ?_))))
   by_cases hk4 : (p1.length : Int) ≤ (p0.length : Int)
   ·
    rw [if_pos hk4] at e2
    obtain ⟨n5, hxn5, e2⟩ := bnd e2
    obtain ⟨s6, hxs6, e2⟩ := bnd e2
    refine WR.stepE (v' := .bool true) (Ex.geq rfl rfl) (congrArg Value.bool (decide_eq_true hk4)) (Wn.none rfl) rfl rfl (MV rfl rfl (SG (Ex.move rfl) rfl rfl rfl (SG (Ex.move rfl) rfl rfl rfl (SG (Ex.lenStr Tryz.underlying9 rfl) rfl rfl rfl (SG (Ex.move rfl) rfl rfl rfl (SG (Ex.lenStr Tryz.underlying9 rfl) rfl rfl rfl (SG (Ex.subC rfl rfl hxn5) rfl rfl rfl (SG (Ex.sliceL Tryz.underlying9 rfl rfl hxs6) rfl rfl rfl (SG (Ex.move rfl) rfl rfl rfl (SG (Ex.strEql rfl rfl) rfl rfl rfl (PT rfl rfl rfl (AS rfl rfl (NL ?_)))))))))))))
    exact WQ.meetN [(4, _)] ⟨rfl, trivial⟩ ⟨_, _, rfl, H, e2⟩
   ·
    rw [if_neg hk4] at e2
    refine WR.stepE (v' := .bool false) (Ex.geq rfl rfl) (congrArg Value.bool (decide_eq_false hk4)) (Wn.none rfl) rfl rfl (MV rfl rfl (WR.skipN 9 rfl rfl (PF rfl rfl rfl (AS rfl rfl (NL ?_)))))
    exact WQ.meetN [(4, _)] ⟨rfl, trivial⟩ ⟨_, _, rfl, H, e2⟩
  ·
   rintro e w ⟨b3, M, rfl, H, q7⟩
   obtain rfl := Option.some.inj q7
   refine TN (RT ?_)
   obtain rfl := Option.some.inj h
   exact WQ.ret1 rfl rfl H.ext rfl
theorem strings_HasSuffix_ct {p0 : List UInt8} {p1 : List UInt8} {r : Bool} (h : strings_HasSuffix p0 p1 = some r) : Ct Tryz.prog 80 [S p0, S p1] (fun M => True) (fun v M => v = Value.bool r) := by
  refine Ct.of Tryz.func80 (enters Tryz.func80 (by kernel_rfl) rfl) rfl rfl rfl ?_
  intro w0 M0 H hp
  unfold strings_HasSuffix at h
  refine SQ (RG (AS rfl rfl (NL (TN (SQ ?_)))))
  obtain ⟨b1, hx2, h⟩ := bnd h
  refine RG (MV rfl rfl (MV rfl rfl (WR.call H (stringslite_HasSuffix_ct hx2) rfl trivial (Wn.none rfl) rfl ?_)))
  intro v7 M w H hle hR
  obtain rfl := hR
  refine AS rfl rfl (NL (TN (RT ?_)))
  obtain rfl := Option.some.inj h
  exact WQ.ret1 rfl rfl H.ext rfl
theorem words_plain_ct {p0 : List UInt8} {r : Bool} (h : words_plain p0 = some r) : Ct Tryz.prog 39 [S p0] (fun M => GlF (fun w => ∃ m, w.cell? ⟨2, 0, none⟩ = some (.int .i64 m)) M) (fun v M => v = Value.bool r) := by
  refine Ct.of Tryz.func39 (enters Tryz.func39 (by kernel_rfl) rfl) rfl rfl rfl ?_
  intro w0 M0 H hp
  have hg_maxl := hp
  unfold words_plain at h
  refine SQ (RG (AS rfl rfl (NL (TN (SQ (SQ (RG (MV rfl rfl (ST (Ex.lenStr Tryz.underlying9 rfl) rfl (MV rfl rfl (NL (TN ?_))))))))))))
  obtain ⟨o1, e2, h⟩ := bnd h
  refine WC.cutX (fun e w => ∃  (M : Mem), e = [(0, S p0)] ∧ St w0 M0 M [] w ∧ GlF (fun w => ∃ m, w.cell? ⟨2, 0, none⟩ = some (.int .i64 m)) M ∧ some (.inl ()) = some o1) [] ?_ ?_ (trivial)
  ·
   refine BL (WC.loopP (fun m e w => ∃ (n3 : Int) (M : Mem), e = [(0, S p0), (5, I (p0.length : Int)), (6, I n3)] ∧ St w0 M0 M [] w ∧ GlF (fun w => ∃ m, w.cell? ⟨2, 0, none⟩ = some (.int .i64 m)) M ∧ words_plain_L1 p0 m n3 = some o1) FU [(0, _), (5, _), (6, _)] ⟨rfl, rfl, rfl, trivial⟩ ⟨_, _, rfl, H, hg_maxl, e2⟩ ?_)
   rintro m4 e w ⟨n3, M, rfl, H, hg_maxl, e2⟩
   rcases m4 with _ | m4
   · rw [words_plain_L1] at e2; cases e2
   rw [words_plain_L1] at e2
   refine SQ (RG (ST (Ex.lss rfl rfl) rfl (NL (TN (SQ ?_)))))
   refine WC.condB rfl (fun hk5 => ?_) (fun hk5 => ?_)
   ·
    replace hk5 : n3 < (p0.length : Int) := of_decide_eq_true hk5
    rw [if_pos hk5] at e2
    refine SK (TN (SQ (BL (SQ (RG (MV rfl rfl (AS rfl rfl (NL (TN (SQ ?_))))))))))
    obtain ⟨o6, e7, e2⟩ := bnd e2
    refine WC.cutX (fun e w => ∃ (b8 : Bool) (M : Mem), e = [(0, S p0), (5, I (p0.length : Int)), (6, I n3), (18, Value.bool b8)] ∧ St w0 M0 M [] w ∧ GlF (fun w => ∃ m, w.cell? ⟨2, 0, none⟩ = some (.int .i64 m)) M ∧ some b8 = some o6) [] ?_ ?_ (trivial)
    ·
     obtain ⟨c9, hxc9, e7⟩ := bnd e7
     refine RG (MV rfl rfl (MV rfl rfl (ST (Ex.idxStrC Tryz.underlying9 rfl rfl hxc9) rfl ?_)))
     by_cases hk10 : c9.toNat < 32
     ·
      rw [if_pos hk10] at e7
      refine WR.stepE (v' := .bool true) (Ex.lssB (i := c9.toNat) (j := 32) rfl rfl) (congrArg Value.bool (decide_eq_true hk10)) (Wn.none rfl) rfl rfl (MV rfl rfl (WR.skipN 4 rfl rfl (PT rfl rfl rfl (NL ?_))))
      exact WQ.meetN [(0, _), (5, _), (6, _), (18, _)] ⟨rfl, rfl, rfl, rfl, trivial⟩ ⟨_, _, rfl, H, hg_maxl, e7⟩
     ·
      rw [if_neg hk10] at e7
      obtain ⟨c11, hxc11, e7⟩ := bnd e7
      refine WR.stepE (v' := .bool false) (Ex.lssB (i := c9.toNat) (j := 32) rfl rfl) (congrArg Value.bool (decide_eq_false hk10)) (Wn.none rfl) rfl rfl (MV rfl rfl (SG (Ex.move rfl) rfl rfl rfl (SG (Ex.move rfl) rfl rfl rfl (SG (Ex.idxStrC Tryz.underlying9 rfl rfl hxc11) rfl rfl rfl (SG (Ex.gtrB (i := c11.toNat) (j := 126) rfl rfl) rfl rfl rfl (PF rfl rfl rfl (NL ?_)))))))
      exact WQ.meetN [(0, _), (5, _), (6, _), (18, _)] ⟨rfl, rfl, rfl, rfl, trivial⟩ ⟨_, _, rfl, H, hg_maxl, e7⟩
    ·
     rintro e w ⟨b8, M, rfl, H, hg_maxl, q12⟩
     obtain rfl := Option.some.inj q12
     refine TN ?_
     refine WC.condB rfl (fun hk13 => ?_) (fun hk13 => ?_)
     ·
      subst hk13
      rw [if_pos rfl] at e2
      refine SQ (RG (AS rfl rfl (NL (TN (RT ?_)))))
      obtain rfl := Option.some.inj e2
      try dsimp only at h
      obtain rfl := Option.some.inj h
      exact WQ.ret1 rfl rfl H.ext rfl
     ·
      subst hk13
      rw [if_neg Bool.false_ne_true] at e2
      refine SK (IB (TN ?_))
      obtain ⟨n14, hxn14, e2⟩ := bnd e2
      refine RG (ST (Ex.addC rfl rfl hxn14) rfl (MV rfl rfl (NL ?_)))
      exact WQ.againP m4 [(0, _), (5, _), (6, _)] ⟨rfl, rfl, rfl, trivial⟩ ⟨_, _, rfl, H, hg_maxl, e2⟩ (Nat.lt_succ_self _)
   ·
    replace hk5 : ¬ (n3 < (p0.length : Int)) := of_decide_eq_false hk5
    rw [if_neg hk5] at e2
    refine WC.exit (WQ.thenExit (WQ.thenExit (WQ.exitHere ?_)))
    exact WQ.meetN [(0, _)] ⟨rfl, trivial⟩ ⟨_, rfl, H, hg_maxl, e2⟩
  ·
   rintro e w ⟨M, rfl, H, hg_maxl, q15⟩
   obtain rfl := Option.some.inj q15
   try dsimp only at h
   refine TN (SQ ?_)
   obtain ⟨o16, e17, h⟩ := bnd h
   refine WC.cutX (fun e w => ∃ (b18 : Bool) (M : Mem), e = [(2, Value.bool b18)] ∧ St w0 M0 M [] w ∧ GlF (fun w => ∃ m, w.cell? ⟨2, 0, none⟩ = some (.int .i64 m)) M ∧ some b18 = some o16) [] ?_ ?_ (trivial)
   ·
    obtain ⟨b19, hx20, e17⟩ := bnd e17
    refine RG (MV rfl rfl (WR.call H (strings_HasPrefix_ct hx20) rfl trivial (Wn.none rfl) rfl ?_))
    intro v21 M w H hle hR
    replace hg_maxl := hg_maxl.mono hle
    obtain rfl := hR
    refine ST (Ex.not rfl) rfl (MV rfl rfl ?_)
    rcases b19 with _ | _
    ·
     rw [if_neg Bool.false_ne_true] at e17
     obtain ⟨b21, hx22, e17⟩ := bnd e17
     refine SG (Ex.move rfl) rfl rfl rfl (WR.call H (strings_HasSuffix_ct hx22) rfl trivial (Wn.some rfl rfl rfl) rfl ?_)
     intro v25 M w H hle hR
     replace hg_maxl := hg_maxl.mono hle
     obtain rfl := hR
     refine SG (Ex.not rfl) rfl rfl rfl (PT rfl rfl rfl (MV rfl rfl ?_))
     rcases b21 with _ | _
     ·
      rw [if_neg Bool.false_ne_true] at e17
      obtain ⟨b23, hx24, e17⟩ := bnd e17
      refine SG (Ex.move rfl) rfl rfl rfl (WR.call H (strings_Contains_ct hx24) rfl (hg_maxl) (Wn.some rfl rfl rfl) rfl ?_)
      intro v30 M w H hle hR
      replace hg_maxl := hg_maxl.mono hle
      obtain rfl := hR
      refine SG (Ex.not rfl) rfl rfl rfl (PT rfl rfl rfl (AS rfl rfl (NL ?_)))
      exact WQ.meetN [(2, _)] ⟨rfl, trivial⟩ ⟨_, _, rfl, H, hg_maxl, e17⟩
     ·
      rw [if_pos rfl] at e17
      refine WR.skipN 3 rfl rfl (PF rfl rfl rfl (AS rfl rfl (NL ?_)))
      exact WQ.meetN [(2, _)] ⟨rfl, trivial⟩ ⟨_, _, rfl, H, hg_maxl, e17⟩
    ·
     rw [if_pos rfl] at e17
     refine WR.skipN 3 rfl rfl (PF rfl rfl rfl (MV rfl rfl (WR.skipN 3 rfl rfl (PF rfl rfl rfl (AS rfl rfl (NL ?_))))))
     exact WQ.meetN [(2, _)] ⟨rfl, trivial⟩ ⟨_, _, rfl, H, hg_maxl, e17⟩
   ·
    rintro e w ⟨b18, M, rfl, H, hg_maxl, q25⟩
    obtain rfl := Option.some.inj q25
    refine TN (RT ?_)
    obtain rfl := Option.some.inj h
    exact WQ.ret1 rfl rfl H.ext rfl
theorem basic_None_ct  {r : (Int × Int)} (h : basic_None = some r) : Ct Tryz.prog 40 [] (fun M => True) (fun v M => v = Value.agg #[I r.1, I r.2]) := by
  refine Ct.of Tryz.func40 (enters Tryz.func40 (by kernel_rfl) rfl) rfl rfl rfl ?_
  intro w0 M0 H hp
  unfold basic_None at h
  refine SQ (RG (WR.alloc [_, _] H Tryz.zeroValue24 rfl (Wn.none rfl) rfl ?_))
  intro b0 w H
  refine NL (TN (SQ (RG (ST (Ex.build [I 0, I 0] Tryz.underlying24 Tryz.zeroValue24 (xplaces24 Tryz.underlying24) rfl rfl) rfl (WR.store [_, _] H rfl rfl rfl (by repeat first | exact .head | apply Upd.tail) Tryz.sizeOf24 rfl (by rfl) (by rfl) (Wn.none rfl) ?_)))))
  intro w H
  refine NL (TN (RT ?_))
  obtain rfl := Option.some.inj h
  exact WQ.ret1 rfl ⟨_, rfl, H.loadAgg (by repeat (first | exact List.Mem.head _ | apply List.Mem.tail)) Tryz.isAgg24 Tryz.sizeOf24 (by rfl)⟩ H.ext rfl
theorem words_units_ct {p0 : List UInt8} {p1 : List UInt8} {r : (List UInt8 × List UInt8)} (h : words_units p0 p1 = some r) : Ct Tryz.prog 42 [S p0, S p1] (fun M => True) (fun v M => ∃ b0_0 b0_1, v = (Value.func (.func 82) #[] #[ptr b0_0 0, ptr b0_1 0]) ∧ PtM M b0_0 (.cells #[S r.1] 9) ∧ PtM M b0_1 (.cells #[S r.2] 9)) := by
  refine Ct.of Tryz.func42 (enters Tryz.func42 (by kernel_rfl) rfl) rfl rfl rfl ?_
  intro w0 M0 H hp
  unfold words_units at h
  refine SQ (RG (WR.box [_] H rfl rfl (Wn.none rfl) rfl ?_))
  intro b2 w H
  refine WR.box [_] H rfl rfl (Wn.none rfl) rfl ?_
  intro b3 w H
  refine AS rfl rfl (NL (TN (SQ (RG ?_))))
  obtain ⟨M, hle, hb1, H⟩ := H.freezeVar (b := b3) (by repeat first | exact .head | apply Rem.tail)
  obtain ⟨M, hle, hb2, H⟩ := H.freezeVar (b := b2) (by repeat first | exact .head | apply Rem.tail)
  replace hb1 := hb1.mono hle
  refine ST (Ex.makeFunc rfl) rfl (AS rfl rfl (NL (TN (RT ?_))))
  obtain rfl := Option.some.inj h
  exact WQ.ret1 rfl rfl H.ext (⟨_, _, rfl, hb1, hb2⟩)
theorem words_flat_ct {p0 : List UInt8} {vp0 : Value} {r : List UInt8} (h : words_flat p0 = some r) : Ct Tryz.prog 85 [vp0] (fun M => GlF (fun w => ∃ m, w.cell? ⟨2, 0, none⟩ = some (.int .i64 m)) M ∧ Sl M encB vp0 p0) (fun v M => v = S r) := by
  refine Ct.of Tryz.func85 (enters Tryz.func85 (by kernel_rfl) rfl) rfl rfl rfl ?_
  intro w0 M0 H hp
  obtain ⟨hg_maxl, hp0⟩ := hp
  unfold words_flat at h
  refine SQ (RG (AS rfl rfl (NL (TN (SQ ?_)))))
  obtain ⟨⟨l1, ⟨n2, n3⟩⟩, hx4, h⟩ := bnd h
  try dsimp only at h
  refine RG (MV rfl rfl (WR.call H (base64_Encode_ct hx4) rfl (hp0) (Wn.none rfl) rfl ?_))
  intro v7 M w H hle hR
  replace hg_maxl := hg_maxl.mono hle
  replace hp0 := hp0.mono hle
  try dsimp only at hR
  obtain ⟨x7_0, rfl, f7_0⟩ := hR
  refine MV rfl rfl (ST (Ex.extract rfl rfl) rfl (ST (Ex.extract rfl rfl) rfl (WR.alloc [_, _] H Tryz.zeroValue24 rfl (Wn.none rfl) rfl ?_)))
  intro b4 w H
  refine AS rfl rfl (WR.store [_, _] H rfl rfl rfl (by repeat first | exact .head | apply Upd.tail) Tryz.sizeOf24 rfl (by rfl) (by rfl) (Wn.none rfl) ?_)
  intro w H
  refine NL (TN (SQ ?_))
  obtain ⟨s5, hx6, h⟩ := bnd h
  refine RG (MV rfl rfl (ST (Ex.toStr Tryz.underlying30 Tryz.underlying5 Tryz.underlying9 H (f7_0) rfl) rfl (WR.call H (strings_ReplaceAll_ct hx6) rfl (hg_maxl) (Wn.none rfl) rfl ?_)))
  intro v12 M w H hle hR
  replace hg_maxl := hg_maxl.mono hle
  replace hp0 := hp0.mono hle
  replace f7_0 := f7_0.mono hle
  obtain rfl := hR
  refine AS rfl rfl (NL (TN (RT ?_)))
  obtain rfl := Option.some.inj h
  exact WQ.ret1 rfl rfl H.ext rfl
theorem strings_Builder_WriteByte_ct {p0 : List UInt8} {p1 : UInt8} {bp0 : Nat} {pp0 : Value} {vp0 : Value} {r : (Bool × List UInt8)} (h : strings_Builder_WriteByte p0 p1 = some r) : CtX Tryz.prog 51 [ptr bp0 0, encB p1] [.blk bp0 (.cells #[pp0, vp0] 70), RowI 5 encB vp0 p0] (fun M => BPM M bp0 pp0) (fun v M its => ∃ x0 qp0 up0, v = x0 ∧ NilB M x0 r.1 ∧ BPM M bp0 qp0 ∧ its = [.blk bp0 (.cells #[qp0, up0] 70), RowI 5 encB up0 r.2]) := by
  refine CtX.of Tryz.func51 (enters Tryz.func51 (by kernel_rfl) rfl) rfl rfl rfl ?_
  intro w0 M0 H hp
  have hp0 := hp
  unfold strings_Builder_WriteByte at h
  refine SQ (RG (AS rfl rfl (NL (TN (SQ (RG (MV rfl rfl ?_)))))))
  refine WR.callX (A := [.blk bp0 (.cells #[pp0, vp0] 70)]) (B := [RowI 5 encB vp0 p0]) (H.pick (L' := [.blk bp0 (.cells #[pp0, vp0] 70), RowI 5 encB vp0 p0]) (by repeat (first | exact Pick.nil | refine Pick.cons (by repeat first | exact .head | apply Rem.tail) ?_))) (copyCheck_ct hp0) (.left (Spl.all _)) rfl trivial (Wn.none rfl) rfl ?_
  intro v6 M w its H hle hR
  replace hp0 := hp0.mono hle
  obtain ⟨rfl, rfl⟩ := hR
  simp only [List.cons_append, List.nil_append] at H
  refine NL (TN (SQ ?_))
  obtain ⟨l2, hxl2, h⟩ := bnd h
  refine RG (MV rfl rfl (MV rfl rfl (ST (Ex.nilCheckP rfl) rfl (ST (Ex.fieldAddr Tryz.underlying70 rfl Tryz.sizeOf30 (by decide) rfl) rfl (ST (Ex.load1 H rfl (by repeat (first | exact List.Mem.head _ | apply List.Mem.tail)) Tryz.isAgg30 (by rfl)) rfl ?_)))))
  refine MV rfl rfl (WR.lit (enc := encB) xty30 ([p1] : List UInt8) H rfl (by rfl) (fun _ => rfl) rfl rfl (Wn.none rfl) rfl ?_)
  intro v13 M w H hle hs13
  refine WR.appC (l := p0) xty30 rfl (fun _ => rfl) H rfl (fun _ => by repeat first | exact .head | apply Upd.tail) rfl (hs13) hxl2 (Wn.none rfl) rfl ?_
  intro v14 w H
  refine ST (Ex.nilCheckP rfl) rfl (ST (Ex.fieldAddr Tryz.underlying70 rfl Tryz.sizeOf30 (by decide) rfl) rfl (WR.putV [_, _] H rfl rfl (H.rowOne (by repeat (first | exact List.Mem.head _ | apply List.Mem.tail))) (by repeat first | exact .head | apply Upd.tail) (by rfl) Tryz.sizeOf30 (by first | decide | (simp; done) | (simp; omega)) (Wn.none rfl) ?_))
  intro w H
  refine NL (TN (SQ (RG (AS rfl rfl (NL (TN (RT ?_)))))))
  obtain rfl := Option.some.inj h
  exact WQ.retX1 (its := [.blk bp0 (.cells #[(ptr bp0 0), v14] 70), RowI 5 encB v14 l2]) rfl rfl H (by repeat (first | exact Pick.nil | refine Pick.cons (by repeat first | exact .head | apply Rem.tail) ?_)) ⟨_, _, _, rfl, (.inl ⟨rfl, rfl⟩), BPM.self, rfl⟩
theorem basic_Letter_ct {p0 : UInt8} {r : Bool} (h : basic_Letter p0 = some r) : Ct Tryz.prog 129 [encB p0] (fun M => True) (fun v M => v = Value.bool r) := by
  refine Ct.of Tryz.func129 (enters Tryz.func129 (by kernel_rfl) rfl) rfl rfl rfl ?_
  intro w0 M0 H hp
  unfold basic_Letter at h
  refine SQ (RG (AS rfl rfl (NL (TN (SQ ?_)))))
  obtain ⟨o1, e2, h⟩ := bnd h
  refine WC.cutX (fun e w => ∃ (b3 : Bool) (M : Mem), e = [(2, Value.bool b3)] ∧ St w0 M0 M [] w ∧ some b3 = some o1) [] ?_ ?_ (trivial)
  ·
   by_cases hk4 : 97 ≤ p0.toNat
   ·
    rw [if_pos hk4] at e2
    refine RG (MV rfl rfl (WR.stepE (v' := .bool true) (Ex.geqB (i := p0.toNat) (j := 97) rfl rfl) (congrArg Value.bool (decide_eq_true hk4)) (Wn.none rfl) rfl rfl ?_))
    by_cases hk5 : p0.toNat ≤ 122
    ·
     rw [if_pos hk5] at e2
     refine MV rfl rfl (SG (Ex.move rfl) rfl rfl rfl (WR.stepE (v' := .bool true) (Ex.leqB (i := p0.toNat) (j := 122) rfl rfl) (congrArg Value.bool (decide_eq_true hk5)) (Wn.some rfl rfl rfl) rfl rfl (PT rfl rfl rfl (MV rfl rfl (WR.skipN 6 rfl rfl (PT rfl rfl rfl (MV rfl rfl (WR.skipN 6 rfl rfl (PT rfl rfl rfl (AS rfl rfl (NL ?_)))))))))))
     exact WQ.meetN [(2, _)] ⟨rfl, trivial⟩ ⟨_, _, rfl, H, e2⟩
    ·
     rw [if_neg hk5] at e2
     by_cases hk6 : 65 ≤ p0.toNat
     ·
      rw [if_pos hk6] at e2
      by_cases hk7 : p0.toNat ≤ 90
      ·
       rw [if_pos hk7] at e2
       refine MV rfl rfl (SG (Ex.move rfl) rfl rfl rfl (WR.stepE (v' := .bool false) (Ex.leqB (i := p0.toNat) (j := 122) rfl rfl) (congrArg Value.bool (decide_eq_false hk5)) (Wn.some rfl rfl rfl) rfl rfl (PT rfl rfl rfl (MV rfl rfl (SG (Ex.move rfl) rfl rfl rfl (WR.stepE (v' := .bool true) (Ex.geqB (i := p0.toNat) (j := 65) rfl rfl) (congrArg Value.bool (decide_eq_true hk6)) (Wn.some rfl rfl rfl) rfl rfl (SG (Ex.move rfl) rfl rfl rfl (SG (Ex.move rfl) rfl rfl rfl (WR.stepE (v' := .bool true) (Ex.leqB (i := p0.toNat) (j := 90) rfl rfl) (congrArg Value.bool (decide_eq_true hk7)) (Wn.some rfl rfl rfl) rfl rfl (SG (Ex.pickT rfl rfl) rfl rfl rfl (PF rfl rfl rfl (MV rfl rfl (WR.skipN 6 rfl rfl (PT rfl rfl rfl (AS rfl rfl (NL ?_))))))))))))))))
       exact WQ.meetN [(2, _)] ⟨rfl, trivial⟩ ⟨_, _, rfl, H, e2⟩
      ·
       rw [if_neg hk7] at e2
       by_cases hk8 : 48 ≤ p0.toNat
       ·
        rw [if_pos hk8] at e2
        refine MV rfl rfl (SG (Ex.move rfl) rfl rfl rfl (WR.stepE (v' := .bool false) (Ex.leqB (i := p0.toNat) (j := 122) rfl rfl) (congrArg Value.bool (decide_eq_false hk5)) (Wn.some rfl rfl rfl) rfl rfl (PT rfl rfl rfl (MV rfl rfl (SG (Ex.move rfl) rfl rfl rfl (WR.stepE (v' := .bool true) (Ex.geqB (i := p0.toNat) (j := 65) rfl rfl) (congrArg Value.bool (decide_eq_true hk6)) (Wn.some rfl rfl rfl) rfl rfl (SG (Ex.move rfl) rfl rfl rfl (SG (Ex.move rfl) rfl rfl rfl (WR.stepE (v' := .bool false) (Ex.leqB (i := p0.toNat) (j := 90) rfl rfl) (congrArg Value.bool (decide_eq_false hk7)) (Wn.some rfl rfl rfl) rfl rfl (SG (Ex.pickT rfl rfl) rfl rfl rfl (PF rfl rfl rfl (MV rfl rfl (SG (Ex.move rfl) rfl rfl rfl (WR.stepE (v' := .bool true) (Ex.geqB (i := p0.toNat) (j := 48) rfl rfl) (congrArg Value.bool (decide_eq_true hk8)) (Wn.some rfl rfl rfl) rfl rfl (SG (Ex.move rfl) rfl rfl rfl (SG (Ex.move rfl) rfl rfl rfl ?_))))))))))))))))
        refine SG (Ex.leqB (i := p0.toNat) (j := 57) rfl rfl) rfl rfl rfl (SG (Ex.pickT rfl rfl) rfl rfl rfl (PF rfl rfl rfl (AS rfl rfl (NL ?_))))
        exact WQ.meetN [(2, _)] ⟨rfl, trivial⟩ ⟨_, _, rfl, H, e2⟩
       ·
        rw [if_neg hk8] at e2
        refine MV rfl rfl (SG (Ex.move rfl) rfl rfl rfl (WR.stepE (v' := .bool false) (Ex.leqB (i := p0.toNat) (j := 122) rfl rfl) (congrArg Value.bool (decide_eq_false hk5)) (Wn.some rfl rfl rfl) rfl rfl (PT rfl rfl rfl (MV rfl rfl (SG (Ex.move rfl) rfl rfl rfl (WR.stepE (v' := .bool true) (Ex.geqB (i := p0.toNat) (j := 65) rfl rfl) (congrArg Value.bool (decide_eq_true hk6)) (Wn.some rfl rfl rfl) rfl rfl (SG (Ex.move rfl) rfl rfl rfl (SG (Ex.move rfl) rfl rfl rfl (WR.stepE (v' := .bool false) (Ex.leqB (i := p0.toNat) (j := 90) rfl rfl) (congrArg Value.bool (decide_eq_false hk7)) (Wn.some rfl rfl rfl) rfl rfl (SG (Ex.pickT rfl rfl) rfl rfl rfl (PF rfl rfl rfl (MV rfl rfl (SG (Ex.move rfl) rfl rfl rfl (WR.stepE (v' := .bool false) (Ex.geqB (i := p0.toNat) (j := 48) rfl rfl) (congrArg Value.bool (decide_eq_false hk8)) (Wn.some rfl rfl rfl) rfl rfl (SG (Ex.move rfl) rfl rfl rfl (GF rfl rfl rfl ?_))))))))))))))))
        refine GF rfl rfl rfl (SG (Ex.pickF rfl rfl) rfl rfl rfl (PF rfl rfl rfl (AS rfl rfl (NL ?_))))
        exact WQ.meetN [(2, _)] ⟨rfl, trivial⟩ ⟨_, _, rfl, H, e2⟩
     ·
      rw [if_neg hk6] at e2
      by_cases hk9 : 48 ≤ p0.toNat
      ·
       rw [if_pos hk9] at e2
       refine MV rfl rfl (SG (Ex.move rfl) rfl rfl rfl (WR.stepE (v' := .bool false) (Ex.leqB (i := p0.toNat) (j := 122) rfl rfl) (congrArg Value.bool (decide_eq_false hk5)) (Wn.some rfl rfl rfl) rfl rfl (PT rfl rfl rfl (MV rfl rfl (SG (Ex.move rfl) rfl rfl rfl (WR.stepE (v' := .bool false) (Ex.geqB (i := p0.toNat) (j := 65) rfl rfl) (congrArg Value.bool (decide_eq_false hk6)) (Wn.some rfl rfl rfl) rfl rfl (SG (Ex.move rfl) rfl rfl rfl (GF rfl rfl rfl (GF rfl rfl rfl (SG (Ex.pickF rfl rfl) rfl rfl rfl (PF rfl rfl rfl (MV rfl rfl (SG (Ex.move rfl) rfl rfl rfl (WR.stepE (v' := .bool true) (Ex.geqB (i := p0.toNat) (j := 48) rfl rfl) (congrArg Value.bool (decide_eq_true hk9)) (Wn.some rfl rfl rfl) rfl rfl (SG (Ex.move rfl) rfl rfl rfl (SG (Ex.move rfl) rfl rfl rfl (SG (Ex.leqB (i := p0.toNat) (j := 57) rfl rfl) rfl rfl rfl (SG (Ex.pickT rfl rfl) rfl rfl rfl (PF rfl rfl rfl (AS rfl rfl (NL ?_)))))))))))))))))))))
       exact WQ.meetN [(2, _)] ⟨rfl, trivial⟩ ⟨_, _, rfl, H, e2⟩
      ·
       rw [if_neg hk9] at e2
       refine MV rfl rfl (SG (Ex.move rfl) rfl rfl rfl (WR.stepE (v' := .bool false) (Ex.leqB (i := p0.toNat) (j := 122) rfl rfl) (congrArg Value.bool (decide_eq_false hk5)) (Wn.some rfl rfl rfl) rfl rfl (PT rfl rfl rfl (MV rfl rfl (SG (Ex.move rfl) rfl rfl rfl (WR.stepE (v' := .bool false) (Ex.geqB (i := p0.toNat) (j := 65) rfl rfl) (congrArg Value.bool (decide_eq_false hk6)) (Wn.some rfl rfl rfl) rfl rfl (SG (Ex.move rfl) rfl rfl rfl (GF rfl rfl rfl (GF rfl rfl rfl (SG (Ex.pickF rfl rfl) rfl rfl rfl (PF rfl rfl rfl (MV rfl rfl (SG (Ex.move rfl) rfl rfl rfl (WR.stepE (v' := .bool false) (Ex.geqB (i := p0.toNat) (j := 48) rfl rfl) (congrArg Value.bool (decide_eq_false hk9)) (Wn.some rfl rfl rfl) rfl rfl (SG (Ex.move rfl) rfl rfl rfl (GF rfl rfl rfl (GF rfl rfl rfl (SG (Ex.pickF rfl rfl) rfl rfl rfl (PF rfl rfl rfl (AS rfl rfl (NL ?_)))))))))))))))))))))
       exact WQ.meetN [(2, _)] ⟨rfl, trivial⟩ ⟨_, _, rfl, H, e2⟩
   ·
    rw [if_neg hk4] at e2
    refine RG (MV rfl rfl (WR.stepE (v' := .bool false) (Ex.geqB (i := p0.toNat) (j := 97) rfl rfl) (congrArg Value.bool (decide_eq_false hk4)) (Wn.none rfl) rfl rfl ?_))
    by_cases hk10 : 65 ≤ p0.toNat
    ·
     rw [if_pos hk10] at e2
     by_cases hk11 : p0.toNat ≤ 90
     ·
      rw [if_pos hk11] at e2
      refine MV rfl rfl (GF rfl rfl rfl (GF rfl rfl rfl (PF rfl rfl rfl (MV rfl rfl (SG (Ex.move rfl) rfl rfl rfl (WR.stepE (v' := .bool true) (Ex.geqB (i := p0.toNat) (j := 65) rfl rfl) (congrArg Value.bool (decide_eq_true hk10)) (Wn.some rfl rfl rfl) rfl rfl (SG (Ex.move rfl) rfl rfl rfl (SG (Ex.move rfl) rfl rfl rfl (WR.stepE (v' := .bool true) (Ex.leqB (i := p0.toNat) (j := 90) rfl rfl) (congrArg Value.bool (decide_eq_true hk11)) (Wn.some rfl rfl rfl) rfl rfl (SG (Ex.pickT rfl rfl) rfl rfl rfl (PF rfl rfl rfl (MV rfl rfl (WR.skipN 6 rfl rfl (PT rfl rfl rfl (AS rfl rfl (NL ?_))))))))))))))))
      exact WQ.meetN [(2, _)] ⟨rfl, trivial⟩ ⟨_, _, rfl, H, e2⟩
     ·
      rw [if_neg hk11] at e2
      by_cases hk12 : 48 ≤ p0.toNat
      ·
       rw [if_pos hk12] at e2
       refine MV rfl rfl (GF rfl rfl rfl (GF rfl rfl rfl (PF rfl rfl rfl (MV rfl rfl (SG (Ex.move rfl) rfl rfl rfl (WR.stepE (v' := .bool true) (Ex.geqB (i := p0.toNat) (j := 65) rfl rfl) (congrArg Value.bool (decide_eq_true hk10)) (Wn.some rfl rfl rfl) rfl rfl (SG (Ex.move rfl) rfl rfl rfl (SG (Ex.move rfl) rfl rfl rfl (WR.stepE (v' := .bool false) (Ex.leqB (i := p0.toNat) (j := 90) rfl rfl) (congrArg Value.bool (decide_eq_false hk11)) (Wn.some rfl rfl rfl) rfl rfl (SG (Ex.pickT rfl rfl) rfl rfl rfl (PF rfl rfl rfl (MV rfl rfl (SG (Ex.move rfl) rfl rfl rfl (WR.stepE (v' := .bool true) (Ex.geqB (i := p0.toNat) (j := 48) rfl rfl) (congrArg Value.bool (decide_eq_true hk12)) (Wn.some rfl rfl rfl) rfl rfl (SG (Ex.move rfl) rfl rfl rfl (SG (Ex.move rfl) rfl rfl rfl (SG (Ex.leqB (i := p0.toNat) (j := 57) rfl rfl) rfl rfl rfl (SG (Ex.pickT rfl rfl) rfl rfl rfl (PF rfl rfl rfl (AS rfl rfl (NL ?_)))))))))))))))))))))
       exact WQ.meetN [(2, _)] ⟨rfl, trivial⟩ ⟨_, _, rfl, H, e2⟩
      ·
       rw [if_neg hk12] at e2
       refine MV rfl rfl (GF rfl rfl rfl (GF rfl rfl rfl (PF rfl rfl rfl (MV rfl rfl (SG (Ex.move rfl) rfl rfl rfl (WR.stepE (v' := .bool true) (Ex.geqB (i := p0.toNat) (j := 65) rfl rfl) (congrArg Value.bool (decide_eq_true hk10)) (Wn.some rfl rfl rfl) rfl rfl (SG (Ex.move rfl) rfl rfl rfl (SG (Ex.move rfl) rfl rfl rfl (WR.stepE (v' := .bool false) (Ex.leqB (i := p0.toNat) (j := 90) rfl rfl) (congrArg Value.bool (decide_eq_false hk11)) (Wn.some rfl rfl rfl) rfl rfl (SG (Ex.pickT rfl rfl) rfl rfl rfl (PF rfl rfl rfl (MV rfl rfl (SG (Ex.move rfl) rfl rfl rfl (WR.stepE (v' := .bool false) (Ex.geqB (i := p0.toNat) (j := 48) rfl rfl) (congrArg Value.bool (decide_eq_false hk12)) (Wn.some rfl rfl rfl) rfl rfl (SG (Ex.move rfl) rfl rfl rfl (GF rfl rfl rfl (GF rfl rfl rfl (SG (Ex.pickF rfl rfl) rfl rfl rfl (PF rfl rfl rfl (AS rfl rfl (NL ?_)))))))))))))))))))))
       exact WQ.meetN [(2, _)] ⟨rfl, trivial⟩ ⟨_, _, rfl, H, e2⟩
    ·
     rw [if_neg hk10] at e2
     by_cases hk13 : 48 ≤ p0.toNat
     ·
      rw [if_pos hk13] at e2
      refine MV rfl rfl (GF rfl rfl rfl (GF rfl rfl rfl (PF rfl rfl rfl (MV rfl rfl (SG (Ex.move rfl) rfl rfl rfl (WR.stepE (v' := .bool false) (Ex.geqB (i := p0.toNat) (j := 65) rfl rfl) (congrArg Value.bool (decide_eq_false hk10)) (Wn.some rfl rfl rfl) rfl rfl (SG (Ex.move rfl) rfl rfl rfl (GF rfl rfl rfl (GF rfl rfl rfl (SG (Ex.pickF rfl rfl) rfl rfl rfl (PF rfl rfl rfl (MV rfl rfl (SG (Ex.move rfl) rfl rfl rfl (WR.stepE (v' := .bool true) (Ex.geqB (i := p0.toNat) (j := 48) rfl rfl) (congrArg Value.bool (decide_eq_true hk13)) (Wn.some rfl rfl rfl) rfl rfl (SG (Ex.move rfl) rfl rfl rfl (SG (Ex.move rfl) rfl rfl rfl (SG (Ex.leqB (i := p0.toNat) (j := 57) rfl rfl) rfl rfl rfl (SG (Ex.pickT rfl rfl) rfl rfl rfl (PF rfl rfl rfl (AS rfl rfl (NL ?_)))))))))))))))))))))
      exact WQ.meetN [(2, _)] ⟨rfl, trivial⟩ ⟨_, _, rfl, H, e2⟩
     ·
      rw [if_neg hk13] at e2
      refine MV rfl rfl (GF rfl rfl rfl (GF rfl rfl rfl (PF rfl rfl rfl (MV rfl rfl (SG (Ex.move rfl) rfl rfl rfl (WR.stepE (v' := .bool false) (Ex.geqB (i := p0.toNat) (j := 65) rfl rfl) (congrArg Value.bool (decide_eq_false hk10)) (Wn.some rfl rfl rfl) rfl rfl (SG (Ex.move rfl) rfl rfl rfl (GF rfl rfl rfl (GF rfl rfl rfl (SG (Ex.pickF rfl rfl) rfl rfl rfl (PF rfl rfl rfl (MV rfl rfl (SG (Ex.move rfl) rfl rfl rfl (WR.stepE (v' := .bool false) (Ex.geqB (i := p0.toNat) (j := 48) rfl rfl) (congrArg Value.bool (decide_eq_false hk13)) (Wn.some rfl rfl rfl) rfl rfl (SG (Ex.move rfl) rfl rfl rfl (GF rfl rfl rfl (GF rfl rfl rfl (SG (Ex.pickF rfl rfl) rfl rfl rfl (PF rfl rfl rfl (AS rfl rfl (NL ?_)))))))))))))))))))))
      exact WQ.meetN [(2, _)] ⟨rfl, trivial⟩ ⟨_, _, rfl, H, e2⟩
  ·
   rintro e w ⟨b3, M, rfl, H, q14⟩
   obtain rfl := Option.some.inj q14
   refine TN (RT ?_)
   obtain rfl := Option.some.inj h
   exact WQ.ret1 rfl rfl H.ext rfl
theorem basic_Digit_ct {p0 : UInt8} {r : UInt8} (h : basic_Digit p0 = some r) : Ct Tryz.prog 131 [encB p0] (fun M => True) (fun v M => v = encB r) := by
  refine Ct.of Tryz.func131 (enters Tryz.func131 (by kernel_rfl) rfl) rfl rfl rfl ?_
  intro w0 M0 H hp
  unfold basic_Digit at h
  refine SQ (RG (AS rfl rfl (NL (TN (SQ ?_)))))
  obtain ⟨c1, hxc1, h⟩ := bnd h
  refine RG (MV rfl rfl (ST (Ex.andB (c := p0) (d := 15) rfl rfl) rfl (ST (Ex.idxStrC Tryz.underlying9 rfl rfl hxc1) rfl (AS rfl rfl (NL (TN (RT ?_)))))))
  obtain rfl := Option.some.inj h
  exact WQ.ret1 rfl rfl H.ext rfl
theorem strings_Builder_Write_ct {p0 : List UInt8} {p1 : List UInt8} {bp0 : Nat} {pp0 : Value} {vp0 : Value} {vp1 : Value} {r : (Int × Bool × List UInt8)} (h : strings_Builder_Write p0 p1 = some r) : CtX Tryz.prog 130 [ptr bp0 0, vp1] [.blk bp0 (.cells #[pp0, vp0] 70), RowI 5 encB vp0 p0] (fun M => BPM M bp0 pp0 ∧ Sl M encB vp1 p1) (fun v M its => ∃ x1 qp0 up0, v = Value.tuple #[I r.1, x1] ∧ NilB M x1 r.2.1 ∧ BPM M bp0 qp0 ∧ its = [.blk bp0 (.cells #[qp0, up0] 70), RowI 5 encB up0 r.2.2]) := by
  refine CtX.of Tryz.func130 (enters Tryz.func130 (by kernel_rfl) rfl) rfl rfl rfl ?_
  intro w0 M0 H hp
  obtain ⟨hp0, hp1⟩ := hp
  unfold strings_Builder_Write at h
  refine SQ (RG (AS rfl rfl (AS rfl rfl (NL (TN (SQ (RG (MV rfl rfl ?_))))))))
  refine WR.callX (A := [.blk bp0 (.cells #[pp0, vp0] 70)]) (B := [RowI 5 encB vp0 p0]) (H.pick (L' := [.blk bp0 (.cells #[pp0, vp0] 70), RowI 5 encB vp0 p0]) (by repeat (first | exact Pick.nil | refine Pick.cons (by repeat first | exact .head | apply Rem.tail) ?_))) (copyCheck_ct hp0) (.left (Spl.all _)) rfl trivial (Wn.none rfl) rfl ?_
  intro v7 M w its H hle hR
  replace hp1 := hp1.mono hle
  replace hp0 := hp0.mono hle
  obtain ⟨rfl, rfl⟩ := hR
  simp only [List.cons_append, List.nil_append] at H
  refine NL (TN (SQ ?_))
  obtain ⟨l2, hxl2, h⟩ := bnd h
  refine RG (MV rfl rfl (MV rfl rfl (ST (Ex.nilCheckP rfl) rfl (ST (Ex.fieldAddr Tryz.underlying70 rfl Tryz.sizeOf30 (by decide) rfl) rfl (ST (Ex.load1 H rfl (by repeat (first | exact List.Mem.head _ | apply List.Mem.tail)) Tryz.isAgg30 (by rfl)) rfl ?_)))))
  refine MV rfl rfl (WR.appC (l := p0) xty30 rfl (fun _ => rfl) H rfl (fun _ => by repeat first | exact .head | apply Upd.tail) rfl (hp1) hxl2 (Wn.none rfl) rfl ?_)
  intro v14 w H
  refine ST (Ex.nilCheckP rfl) rfl (ST (Ex.fieldAddr Tryz.underlying70 rfl Tryz.sizeOf30 (by decide) rfl) rfl (WR.putV [_, _] H rfl rfl (H.rowOne (by repeat (first | exact List.Mem.head _ | apply List.Mem.tail))) (by repeat first | exact .head | apply Upd.tail) (by rfl) Tryz.sizeOf30 (by first | decide | (simp; done) | (simp; omega)) (Wn.none rfl) ?_))
  intro w H
  refine NL (TN (SQ (RG (MV rfl rfl (ST (Ex.lenSl Tryz.underlying30 hp1 rfl) rfl (AS rfl rfl (AS rfl rfl (NL (TN (RT ?_))))))))))
  obtain rfl := Option.some.inj h
  exact WQ.retX2 (its := [.blk bp0 (.cells #[(ptr bp0 0), v14] 70), RowI 5 encB v14 l2]) rfl rfl rfl H (by repeat (first | exact Pick.nil | refine Pick.cons (by repeat first | exact .head | apply Rem.tail) ?_)) ⟨_, _, _, rfl, (.inl ⟨rfl, rfl⟩), BPM.self, rfl⟩
theorem strings_Builder_String_ct {p0 : List UInt8} {bp0 : Nat} {pp0 : Value} {vp0 : Value} {r : List UInt8} (h : strings_Builder_String p0 = some r) : CtX Tryz.prog 54 [ptr bp0 0] [.blk bp0 (.cells #[pp0, vp0] 70), RowI 5 encB vp0 p0] (fun M => BPM M bp0 pp0) (fun v M its => v = S r ∧ its = []) := by
  refine CtX.of Tryz.func54 (enters Tryz.func54 (by kernel_rfl) rfl) rfl rfl rfl ?_
  intro w0 M0 H hp
  have hp0 := hp
  unfold strings_Builder_String at h
  refine SQ (RG (AS rfl rfl (NL (TN (SQ ?_)))))
  refine WC.cutP (fun e w => ∃  (M : Mem), e = [(2, S p0)] ∧ StX (feet [.blk bp0 (.cells #[pp0, vp0] 70), RowI 5 encB vp0 p0]) w0 M0 M [.blk bp0 (.cells #[pp0, vp0] 70)] w) ?_ ?_
  ·
   refine WC.draw (m := 12) rfl rfl H ?_
   intro w H
   refine WA.take (i := 0) rfl (by kernel_rfl) (by kernel_rfl) (by kernel_rfl) (fun _ => Ex.move rfl) (Wn.none rfl) rfl rfl (fun _ _ => rfl) (WA.take (i := 1) rfl (by kernel_rfl) (by kernel_rfl) (by kernel_rfl) (fun _ => Ex.nilCheckP rfl) (Wn.none rfl) rfl rfl (fun _ _ => rfl) (WA.take (i := 2) rfl (by kernel_rfl) (by kernel_rfl) (by kernel_rfl) (fun _ => Ex.fieldAddr Tryz.underlying70 rfl Tryz.sizeOf30 (by decide) rfl) (Wn.none rfl) rfl rfl (fun _ _ => rfl) (WA.take (i := 5) rfl (by kernel_rfl) (by kernel_rfl) (by kernel_rfl) (fun _ => Ex.move rfl) (Wn.none rfl) rfl rfl (fun _ _ => rfl) (WA.take (i := 6) rfl (by kernel_rfl) (by kernel_rfl) (by kernel_rfl) (fun _ => Ex.nilCheckP rfl) (Wn.none rfl) rfl rfl (fun _ _ => rfl) (WA.take (i := 7) rfl (by kernel_rfl) (by kernel_rfl) (by kernel_rfl) (fun _ => Ex.fieldAddr Tryz.underlying70 rfl Tryz.sizeOf30 (by decide) rfl) (Wn.none rfl) rfl rfl (fun _ _ => rfl) ?_)))))
   refine WA.two (i := 3) (j := 8) (by kernel_rfl) rfl rfl ?_ ?_
   ·
    refine ST (Ex.load1 H rfl (by repeat (first | exact List.Mem.head _ | apply List.Mem.tail)) Tryz.isAgg30 (by rfl)) rfl ?_
    refine NA ?_
    refine WA.two (i := 4) (j := 8) (by kernel_rfl) rfl rfl ?_ ?_
    ·
     refine WR.sliceData Tryz.underlying118 H (by repeat (first | exact List.Mem.head _ | apply List.Mem.tail)) rfl (Wn.none rfl) rfl ?_
     intro q7 w H hq7
     refine NA (WA.seq (fuel := 0) [8, 9, 10, 11] rfl (by kernel_rfl) (ST (Ex.load1 H rfl (by repeat (first | exact List.Mem.head _ | apply List.Mem.tail)) Tryz.isAgg30 (by rfl)) rfl ?_))
     refine ST (Ex.lenRow (l := p0) Tryz.underlying30 H (by repeat (first | exact List.Mem.head _ | apply List.Mem.tail)) rfl) rfl ?_
     refine WR.unsafeStr Tryz.underlying118 (by kernel_rfl) H (by repeat first | exact .head | apply Rem.tail) hq7 rfl rfl (Wn.none rfl) rfl ?_
     intro w H
     refine AS rfl rfl (NA (WA.done (by kernel_rfl) ?_))
     exact WQ.meetP [(2, _)] ⟨rfl, trivial⟩ ⟨_, rfl, H⟩
    ·
     refine ST (Ex.load1 H rfl (by repeat (first | exact List.Mem.head _ | apply List.Mem.tail)) Tryz.isAgg30 (by rfl)) rfl ?_
     refine NA ?_
     refine WA.two (i := 4) (j := 9) (by kernel_rfl) rfl rfl ?_ ?_
     ·
      refine WR.sliceData Tryz.underlying118 H (by repeat (first | exact List.Mem.head _ | apply List.Mem.tail)) rfl (Wn.none rfl) rfl ?_
      intro q7 w H hq7
      refine NA (WA.seq (fuel := 0) [9, 10, 11] rfl (by kernel_rfl) (ST (Ex.lenRow (l := p0) Tryz.underlying30 H (by repeat (first | exact List.Mem.head _ | apply List.Mem.tail)) rfl) rfl ?_))
      refine WR.unsafeStr Tryz.underlying118 (by kernel_rfl) H (by repeat first | exact .head | apply Rem.tail) hq7 rfl rfl (Wn.none rfl) rfl ?_
      intro w H
      refine AS rfl rfl (NA (WA.done (by kernel_rfl) ?_))
      exact WQ.meetP [(2, _)] ⟨rfl, trivial⟩ ⟨_, rfl, H⟩
     ·
      refine ST (Ex.lenRow (l := p0) Tryz.underlying30 H (by repeat (first | exact List.Mem.head _ | apply List.Mem.tail)) rfl) rfl ?_
      refine NA (WA.seq (fuel := 0) [4, 10, 11] rfl (by kernel_rfl) (WR.sliceData Tryz.underlying118 H (by repeat (first | exact List.Mem.head _ | apply List.Mem.tail)) rfl (Wn.none rfl) rfl ?_))
      intro q7 w H hq7
      refine WR.unsafeStr Tryz.underlying118 (by kernel_rfl) H (by repeat first | exact .head | apply Rem.tail) hq7 rfl rfl (Wn.none rfl) rfl ?_
      intro w H
      refine AS rfl rfl (NA (WA.done (by kernel_rfl) ?_))
      exact WQ.meetP [(2, _)] ⟨rfl, trivial⟩ ⟨_, rfl, H⟩
   ·
    refine ST (Ex.load1 H rfl (by repeat (first | exact List.Mem.head _ | apply List.Mem.tail)) Tryz.isAgg30 (by rfl)) rfl ?_
    refine NA ?_
    refine WA.two (i := 3) (j := 9) (by kernel_rfl) rfl rfl ?_ ?_
    ·
     refine ST (Ex.load1 H rfl (by repeat (first | exact List.Mem.head _ | apply List.Mem.tail)) Tryz.isAgg30 (by rfl)) rfl ?_
     refine NA ?_
     refine WA.two (i := 4) (j := 9) (by kernel_rfl) rfl rfl ?_ ?_
     ·
      refine WR.sliceData Tryz.underlying118 H (by repeat (first | exact List.Mem.head _ | apply List.Mem.tail)) rfl (Wn.none rfl) rfl ?_
      intro q7 w H hq7
      refine NA (WA.seq (fuel := 0) [9, 10, 11] rfl (by kernel_rfl) (ST (Ex.lenRow (l := p0) Tryz.underlying30 H (by repeat (first | exact List.Mem.head _ | apply List.Mem.tail)) rfl) rfl ?_))
      refine WR.unsafeStr Tryz.underlying118 (by kernel_rfl) H (by repeat first | exact .head | apply Rem.tail) hq7 rfl rfl (Wn.none rfl) rfl ?_
      intro w H
      refine AS rfl rfl (NA (WA.done (by kernel_rfl) ?_))
      exact WQ.meetP [(2, _)] ⟨rfl, trivial⟩ ⟨_, rfl, H⟩
     ·
      refine ST (Ex.lenRow (l := p0) Tryz.underlying30 H (by repeat (first | exact List.Mem.head _ | apply List.Mem.tail)) rfl) rfl ?_
      refine NA (WA.seq (fuel := 0) [4, 10, 11] rfl (by kernel_rfl) (WR.sliceData Tryz.underlying118 H (by repeat (first | exact List.Mem.head _ | apply List.Mem.tail)) rfl (Wn.none rfl) rfl ?_))
      intro q7 w H hq7
      refine WR.unsafeStr Tryz.underlying118 (by kernel_rfl) H (by repeat first | exact .head | apply Rem.tail) hq7 rfl rfl (Wn.none rfl) rfl ?_
      intro w H
      refine AS rfl rfl (NA (WA.done (by kernel_rfl) ?_))
      exact WQ.meetP [(2, _)] ⟨rfl, trivial⟩ ⟨_, rfl, H⟩
    ·
     refine ST (Ex.lenRow (l := p0) Tryz.underlying30 H (by repeat (first | exact List.Mem.head _ | apply List.Mem.tail)) rfl) rfl ?_
     refine NA (WA.seq (fuel := 0) [3, 4, 10, 11] rfl (by kernel_rfl) (ST (Ex.load1 H rfl (by repeat (first | exact List.Mem.head _ | apply List.Mem.tail)) Tryz.isAgg30 (by rfl)) rfl ?_))
     refine WR.sliceData Tryz.underlying118 H (by repeat (first | exact List.Mem.head _ | apply List.Mem.tail)) rfl (Wn.none rfl) rfl ?_
     intro q7 w H hq7
     refine WR.unsafeStr Tryz.underlying118 (by kernel_rfl) H (by repeat first | exact .head | apply Rem.tail) hq7 rfl rfl (Wn.none rfl) rfl ?_
     intro w H
     refine AS rfl rfl (NA (WA.done (by kernel_rfl) ?_))
     exact WQ.meetP [(2, _)] ⟨rfl, trivial⟩ ⟨_, rfl, H⟩
  ·
   rintro e w ⟨M, rfl, H⟩
   refine TN (RT ?_)
   obtain rfl := Option.some.inj h
   exact WQ.retX1 (its := []) rfl rfl H (by repeat (first | exact Pick.nil | refine Pick.cons (by repeat first | exact .head | apply Rem.tail) ?_)) ⟨rfl, rfl⟩
theorem words_data_ct {p0 : List UInt8} {vp0 : Value} {r : List UInt8} (h : words_data p0 = some r) : Ct Tryz.prog 86 [vp0] (fun M => Sl M encB vp0 p0) (fun v M => v = S r) := by
  refine Ct.of Tryz.func86 (enters Tryz.func86 (by kernel_rfl) rfl) rfl rfl rfl ?_
  intro w0 M0 H hp
  have hp0 := hp
  unfold words_data at h
  refine SQ (RG (AS rfl rfl (NL (TN (SQ (RG (WR.alloc [_, _] H Tryz.zeroValue70 rfl (Wn.none rfl) rfl ?_)))))))
  intro b3 w H
  refine NL (TN (SQ (SQ (RG (MV rfl rfl (ST (Ex.lenSl Tryz.underlying30 hp0 rfl) rfl (MV rfl rfl (NL (TN ?_)))))))))
  obtain ⟨o1, e2, h⟩ := bnd h
  refine WC.cutX (fun e w => ∃ (v3 : Value) (l6 : List UInt8) (v7 : Value) (M : Mem), e = [(3, ptr b3 0)] ∧ St w0 M0 M [.blk b3 (.cells #[v3, v7] 70), RowI 5 encB v7 l6] w ∧ BPM M b3 v3 ∧ some l6 = some o1) [] ?_ ?_ (trivial)
  ·
   refine BL ?_
   replace H := H.newRow 5 encB
   refine WC.loopP (fun m e w => ∃ (v8 : Value) (l11 : List UInt8) (v12 : Value) (n13 : Int) (M : Mem), e = [(3, ptr b3 0), (6, vp0), (7, I (p0.length : Int)), (8, I n13)] ∧ St w0 M0 M [.blk b3 (.cells #[v8, v12] 70), RowI 5 encB v12 l11] w ∧ BPM M b3 v8 ∧ Sl M encB vp0 p0 ∧ words_data_L1 p0 m l11 n13 = some o1) FU [(3, _), (6, _), (7, _), (8, _)] ⟨rfl, rfl, rfl, rfl, trivial⟩ ⟨_, _, _, _, _, rfl, (H.pick (L' := [.blk b3 (.cells #[(Value.pointer none), (Value.slice none 0 0)] 70), RowI 5 encB (Value.slice none 0 0) []]) (by repeat (first | exact Pick.nil | refine Pick.cons (by repeat first | exact .head | apply Rem.tail) ?_))), BPM.nil, hp0, e2⟩ ?_
   rintro m14 e w ⟨v8, l11, v12, n13, M, rfl, H, hs9, hp0, e2⟩
   rcases m14 with _ | m14
   · rw [words_data_L1] at e2; cases e2
   rw [words_data_L1] at e2
   refine SQ (RG (ST (Ex.lss rfl rfl) rfl (NL (TN (SQ ?_)))))
   refine WC.condB rfl (fun hk16 => ?_) (fun hk16 => ?_)
   ·
    replace hk16 : n13 < (p0.length : Int) := of_decide_eq_true hk16
    rw [if_pos hk16] at e2
    refine SK (TN (SQ (BL (SQ ?_))))
    obtain ⟨c17, hxc17, e2⟩ := bnd e2
    obtain ⟨b10, o10, ha10, hc10⟩ := hp0.atC hxc17
    refine RG (ST (Ex.idxAt ha10 Tryz.underlying30 Tryz.sizeOf5 rfl rfl) rfl (ST (Ex.loadM H rfl hc10 Tryz.isAgg5) rfl (AS rfl rfl (NL (TN (BL (SQ (RG (MV rfl rfl (ST (Ex.eqlB (c := c17) (d := 32) rfl rfl) rfl (AS rfl rfl (NL (TN ?_)))))))))))))
    refine WC.condB rfl (fun hk18 => ?_) (fun hk18 => ?_)
    ·
     replace hk18 : c17 = 32 := of_decide_eq_true hk18
     rw [if_pos hk18] at e2
     obtain ⟨⟨b19, l20⟩, hx21, e2⟩ := bnd e2
     try dsimp only at e2
     refine RG ?_
     refine WR.callX (A := [.blk b3 (.cells #[v8, v12] 70), RowI 5 encB v12 l11]) (B := []) (H.pick (L' := [.blk b3 (.cells #[v8, v12] 70), RowI 5 encB v12 l11]) (by repeat (first | exact Pick.nil | refine Pick.cons (by repeat first | exact .head | apply Rem.tail) ?_))) (strings_Builder_WriteByte_ct hx21) (.left (.left (Spl.all _))) rfl (hs9) (Wn.none rfl) rfl ?_
     intro v22 M w its H hle hR
     replace hp0 := hp0.mono hle
     replace hc10 := hc10.mono hle
     replace hs9 := hs9.mono hle
     try dsimp only at hR
     obtain ⟨x22_0, q22_0, u22_0, rfl, f22_0, hq22_0, rfl⟩ := hR
     simp only [List.cons_append, List.nil_append] at H
     refine NL (IB (IB (TN ?_)))
     obtain ⟨n22, hxn22, e2⟩ := bnd e2
     refine RG (ST (Ex.addC rfl rfl hxn22) rfl (MV rfl rfl (NL ?_)))
     exact WQ.againP m14 [(3, _), (6, _), (7, _), (8, _)] ⟨rfl, rfl, rfl, rfl, trivial⟩ ⟨_, _, _, _, _, rfl, H, hq22_0, hp0, e2⟩ (Nat.lt_succ_self _)
    ·
     replace hk18 : ¬ (c17 = 32) := of_decide_eq_false hk18
     rw [if_neg hk18] at e2
     refine SQ ?_
     obtain ⟨b23, hx24, e2⟩ := bnd e2
     refine RG (MV rfl rfl (WR.call H (basic_Letter_ct hx24) rfl trivial (Wn.none rfl) rfl ?_))
     intro v25 M w H hle hR
     replace hp0 := hp0.mono hle
     replace hc10 := hc10.mono hle
     replace hs9 := hs9.mono hle
     obtain rfl := hR
     refine AS rfl rfl (NL (TN ?_))
     refine WC.condB rfl (fun hk25 => ?_) (fun hk25 => ?_)
     ·
      subst hk25
      rw [if_pos rfl] at e2
      obtain ⟨⟨b26, l27⟩, hx28, e2⟩ := bnd e2
      try dsimp only at e2
      refine RG (MV rfl rfl ?_)
      refine WR.callX (A := [.blk b3 (.cells #[v8, v12] 70), RowI 5 encB v12 l11]) (B := []) (H.pick (L' := [.blk b3 (.cells #[v8, v12] 70), RowI 5 encB v12 l11]) (by repeat (first | exact Pick.nil | refine Pick.cons (by repeat first | exact .head | apply Rem.tail) ?_))) (strings_Builder_WriteByte_ct hx28) (.left (.left (Spl.all _))) rfl (hs9) (Wn.none rfl) rfl ?_
      intro v27 M w its H hle hR
      replace hp0 := hp0.mono hle
      replace hc10 := hc10.mono hle
      replace hs9 := hs9.mono hle
      try dsimp only at hR
      obtain ⟨x27_0, q27_0, u27_0, rfl, f27_0, hq27_0, rfl⟩ := hR
      simp only [List.cons_append, List.nil_append] at H
      refine NL (IB (IB (TN ?_)))
      obtain ⟨n29, hxn29, e2⟩ := bnd e2
      refine RG (ST (Ex.addC rfl rfl hxn29) rfl (MV rfl rfl (NL ?_)))
      exact WQ.againP m14 [(3, _), (6, _), (7, _), (8, _)] ⟨rfl, rfl, rfl, rfl, trivial⟩ ⟨_, _, _, _, _, rfl, H, hq27_0, hp0, e2⟩ (Nat.lt_succ_self _)
     ·
      subst hk25
      rw [if_neg Bool.false_ne_true] at e2
      obtain ⟨c30, hx31, e2⟩ := bnd e2
      obtain ⟨c32, hx33, e2⟩ := bnd e2
      obtain ⟨⟨n34, b35, l36⟩, hx37, e2⟩ := bnd e2
      try dsimp only at e2
      refine RG (MV rfl rfl (ST (Ex.shrB (c := c17) (m := 4) rfl rfl (by decide)) rfl (WR.call H (basic_Digit_ct hx31) rfl trivial (Wn.none rfl) rfl ?_)))
      intro v14 M w H hle hR
      replace hp0 := hp0.mono hle
      replace hc10 := hc10.mono hle
      replace hs9 := hs9.mono hle
      obtain rfl := hR
      refine MV rfl rfl (WR.call H (basic_Digit_ct hx33) rfl trivial (Wn.none rfl) rfl ?_)
      intro v16 M w H hle hR
      replace hp0 := hp0.mono hle
      replace hc10 := hc10.mono hle
      replace hs9 := hs9.mono hle
      obtain rfl := hR
      refine WR.lit (enc := encB) xty30 ([61, c30, c32] : List UInt8) H rfl (by rfl) (fun _ => rfl) rfl rfl (Wn.none rfl) rfl ?_
      intro v17 M w H hle hs17
      replace hp0 := hp0.mono hle
      replace hc10 := hc10.mono hle
      replace hs9 := hs9.mono hle
      refine WR.callX (A := [.blk b3 (.cells #[v8, v12] 70), RowI 5 encB v12 l11]) (B := []) (H.pick (L' := [.blk b3 (.cells #[v8, v12] 70), RowI 5 encB v12 l11]) (by repeat (first | exact Pick.nil | refine Pick.cons (by repeat first | exact .head | apply Rem.tail) ?_))) (strings_Builder_Write_ct hx37) (.left (.left (Spl.all _))) rfl ⟨hs9, hs17⟩ (Wn.none rfl) rfl ?_
      intro v18 M w its H hle hR
      replace hp0 := hp0.mono hle
      replace hc10 := hc10.mono hle
      replace hs9 := hs9.mono hle
      replace hs17 := hs17.mono hle
      try dsimp only at hR
      obtain ⟨x18_1, q18_0, u18_0, rfl, f18_1, hq18_0, rfl⟩ := hR
      simp only [List.cons_append, List.nil_append] at H
      refine NL (IB (IB (TN ?_)))
      obtain ⟨n38, hxn38, e2⟩ := bnd e2
      refine RG (ST (Ex.addC rfl rfl hxn38) rfl (MV rfl rfl (NL ?_)))
      exact WQ.againP m14 [(3, _), (6, _), (7, _), (8, _)] ⟨rfl, rfl, rfl, rfl, trivial⟩ ⟨_, _, _, _, _, rfl, H, hq18_0, hp0, e2⟩ (Nat.lt_succ_self _)
   ·
    replace hk16 : ¬ (n13 < (p0.length : Int)) := of_decide_eq_false hk16
    rw [if_neg hk16] at e2
    refine WC.exit (WQ.thenExit (WQ.thenExit (WQ.exitHere ?_)))
    exact WQ.meetN [(3, _)] ⟨rfl, trivial⟩ ⟨_, _, _, _, rfl, H, hs9, e2⟩
  ·
   rintro e w ⟨v3, l6, v7, M, rfl, H, hs4, q39⟩
   obtain rfl := Option.some.inj q39
   refine TN (SQ ?_)
   obtain ⟨s40, hx41, h⟩ := bnd h
   refine RG ?_
   refine WR.callX (A := [.blk b3 (.cells #[v3, v7] 70), RowI 5 encB v7 l6]) (B := []) (H.pick (L' := [.blk b3 (.cells #[v3, v7] 70), RowI 5 encB v7 l6]) (by repeat (first | exact Pick.nil | refine Pick.cons (by repeat first | exact .head | apply Rem.tail) ?_))) (strings_Builder_String_ct hx41) (.left (.left (Spl.all _))) rfl (hs4) (Wn.none rfl) rfl ?_
   intro v29 M w its H hle hR
   replace hs4 := hs4.mono hle
   obtain ⟨rfl, rfl⟩ := hR
   simp only [List.cons_append, List.nil_append] at H
   refine AS rfl rfl (NL (TN (RT ?_)))
   obtain rfl := Option.some.inj h
   exact WQ.ret1 rfl rfl H.ext rfl
theorem words_word_ct {p0 : List UInt8} {p1 : List UInt8} {r : List UInt8} (h : words_word p0 p1 = some r) : Ct Tryz.prog 43 [S p0, S p1] (fun M => GlF (fun w => ∃ m, w.cell? ⟨2, 0, none⟩ = some (.int .i64 m)) M ∧ Tabs M) (fun v M => v = S r) := by
  refine Ct.of Tryz.func43 (enters Tryz.func43 (by kernel_rfl) rfl) rfl rfl rfl ?_
  intro w0 M0 H hp
  obtain ⟨hg_maxl, hg_tabs⟩ := hp
  unfold words_word at h
  refine SQ (RG (AS rfl rfl (NL (TN (SQ ?_)))))
  obtain ⟨⟨l1, ⟨n2, n3⟩⟩, hx4, h⟩ := bnd h
  try dsimp only at h
  refine RG (MV rfl rfl (MV rfl rfl (WR.call H (charset_Encode_ct hx4) rfl (hg_tabs) (Wn.none rfl) rfl ?_)))
  intro v10 M w H hle hR
  replace hg_maxl := hg_maxl.mono hle
  replace hg_tabs := hg_tabs.mono hle
  try dsimp only at hR
  obtain ⟨x10_0, rfl, f10_0⟩ := hR
  refine MV rfl rfl (ST (Ex.extract rfl rfl) rfl (ST (Ex.extract rfl rfl) rfl (WR.alloc [_, _] H Tryz.zeroValue24 rfl (Wn.none rfl) rfl ?_)))
  intro b6 w H
  refine AS rfl rfl (WR.store [_, _] H rfl rfl rfl (by repeat first | exact .head | apply Upd.tail) Tryz.sizeOf24 rfl (by rfl) (by rfl) (Wn.none rfl) ?_)
  intro w H
  refine NL (TN (SQ (SQ (RG (MV rfl rfl (ST (Ex.strEql rfl rfl) rfl (NL (TN ?_))))))))
  refine WC.condB rfl (fun hk5 => ?_) (fun hk5 => ?_)
  ·
   replace hk5 : p0 = [117, 116, 102, 56] := of_decide_eq_true hk5
   rw [if_pos hk5] at h
   refine SQ ?_
   obtain ⟨s6, hxs6, h⟩ := bnd h
   obtain ⟨s7, hxs7, h⟩ := bnd h
   obtain ⟨s8, hx9, h⟩ := bnd h
   obtain ⟨s10, hxs10, h⟩ := bnd h
   obtain ⟨s11, hxs11, h⟩ := bnd h
   refine RG (MV rfl rfl (ST (Ex.strAddC rfl rfl hxs6) rfl (ST (Ex.strAddC rfl rfl hxs7) rfl (MV rfl rfl (WR.call H (words_flat_ct hx9) rfl ⟨hg_maxl, f10_0⟩ (Wn.none rfl) rfl ?_)))))
   intro v19 M w H hle hR
   replace hg_maxl := hg_maxl.mono hle
   replace hg_tabs := hg_tabs.mono hle
   replace f10_0 := f10_0.mono hle
   obtain rfl := hR
   refine ST (Ex.strAddC rfl rfl hxs10) rfl (ST (Ex.strAddC rfl rfl hxs11) rfl (AS rfl rfl (NL (TN (RT ?_)))))
   obtain rfl := Option.some.inj h
   exact WQ.ret1 rfl rfl H.ext rfl
  ·
   replace hk5 : ¬ (p0 = [117, 116, 102, 56]) := of_decide_eq_false hk5
   rw [if_neg hk5] at h
   refine SK (TN (SQ ?_))
   obtain ⟨s12, hxs12, h⟩ := bnd h
   obtain ⟨s13, hxs13, h⟩ := bnd h
   obtain ⟨s14, hx15, h⟩ := bnd h
   obtain ⟨s16, hxs16, h⟩ := bnd h
   obtain ⟨s17, hxs17, h⟩ := bnd h
   refine RG (MV rfl rfl (ST (Ex.strAddC rfl rfl hxs12) rfl (ST (Ex.strAddC rfl rfl hxs13) rfl (MV rfl rfl (WR.call H (words_data_ct hx15) rfl (f10_0) (Wn.none rfl) rfl ?_)))))
   intro v26 M w H hle hR
   replace hg_maxl := hg_maxl.mono hle
   replace hg_tabs := hg_tabs.mono hle
   replace f10_0 := f10_0.mono hle
   obtain rfl := hR
   refine ST (Ex.strAddC rfl rfl hxs16) rfl (ST (Ex.strAddC rfl rfl hxs17) rfl (AS rfl rfl (NL (TN (RT ?_)))))
   obtain rfl := Option.some.inj h
   exact WQ.ret1 rfl rfl H.ext rfl
theorem words_units_1_ct {p1 : List UInt8} {p2 : List UInt8} {bp1 : Nat} {bp2 : Nat} : ItS Tryz.prog 82 [ptr bp1 0, ptr bp2 0] [] (fun M => GlF (fun w => ∃ m, w.cell? ⟨2, 0, none⟩ = some (.int .i64 m)) M ∧ Tabs M ∧ PtM M bp1 (.cells #[S p1] 9) ∧ PtM M bp2 (.cells #[S p2] 9)) encS (words_units_1 p1 p2) := by
  refine ItS.of Tryz.func82 (enters Tryz.func82 (by kernel_rfl) rfl) rfl rfl rfl ?_
  intro lid σ Y Z C hY s0 r L0 w0 M0 h hzz H hp
  simp only [List.cons_append, List.nil_append] at H
  obtain ⟨hg_maxl, hg_tabs, hp1, hp2⟩ := hp
  unfold words_units_1 at h
  refine SQ ?_
  obtain ⟨l1, hx2, h⟩ := bnd h
  refine RG (ST (Ex.loadM H rfl (hp1.cell (j := 0) rfl) Tryz.isAgg9) rfl (WR.call H (grapheme_Split_ct hx2) rfl (hg_tabs) (Wn.none rfl) rfl ?_))
  intro v9 M w H hle hR
  replace hg_maxl := hg_maxl.mono hle
  replace hg_tabs := hg_tabs.mono hle
  replace hzz := hzz.mono hle
  replace hp1 := hp1.mono hle
  replace hp2 := hp2.mono hle
  have f9_0 := hR
  refine ST (Ex.lenSl Tryz.underlying43 f9_0 rfl) rfl (MV rfl rfl (NL (TN ?_)))
  obtain ⟨o3, e4, h⟩ := bnd h
  refine WC.cutX (fun e w => ∃ (s5 : σ) (Lc : List Ph.Item) (M : Mem), e = [] ∧ StX C w0 M0 M (Lc) w ∧ GlF (fun w => ∃ m, w.cell? ⟨2, 0, none⟩ = some (.int .i64 m)) M ∧ Tabs M ∧ ZH Z s5 Lc M ∧ some (.inl s5) = some o3) [] ?_ ?_ (trivial)
  ·
   refine BL (WC.loopP (fun m e w => ∃ (n6 : Int) (s7 : σ) (Lc : List Ph.Item) (M : Mem), e = [(0, (yv lid)), (2, ptr bp2 0), (9, v9), (10, I (l1.length : Int)), (11, I n6)] ∧ StX C w0 M0 M (Lc) w ∧ GlF (fun w => ∃ m, w.cell? ⟨2, 0, none⟩ = some (.int .i64 m)) M ∧ Tabs M ∧ PtM M bp2 (.cells #[S p2] 9) ∧ Sl M encS v9 l1 ∧ ZH Z s7 Lc M ∧ words_units_1_L1 Y p2 l1 m n6 s7 = some o3) FU [(0, _), (2, _), (9, _), (10, _), (11, _)] ⟨rfl, rfl, rfl, rfl, rfl, trivial⟩ ⟨_, _, _, _, rfl, H, hg_maxl, hg_tabs, hp2, f9_0, hzz, e4⟩ ?_)
   rintro m8 e w ⟨n6, s7, Lc, M, rfl, H, hg_maxl, hg_tabs, hp2, f9_0, hzz, e4⟩
   rcases m8 with _ | m8
   · rw [words_units_1_L1] at e4; cases e4
   rw [words_units_1_L1] at e4
   refine SQ (RG (ST (Ex.lss rfl rfl) rfl (NL (TN (SQ ?_)))))
   refine WC.condB rfl (fun hk9 => ?_) (fun hk9 => ?_)
   ·
    replace hk9 : n6 < (l1.length : Int) := of_decide_eq_true hk9
    rw [if_pos hk9] at e4
    refine SK (TN (SQ (BL (SQ ?_))))
    obtain ⟨a10, hxa10, e4⟩ := bnd e4
    obtain ⟨b13, o13, ha13, hc13⟩ := f9_0.atC hxa10
    refine RG (ST (Ex.idxAt ha13 Tryz.underlying43 Tryz.sizeOf9 rfl rfl) rfl (ST (Ex.loadM H rfl hc13 Tryz.isAgg9) rfl (AS rfl rfl (NL (TN (SQ (SQ ?_)))))))
    obtain ⟨s11, hx12, e4⟩ := bnd e4
    refine RG (ST (Ex.loadM H rfl (hp2.cell (j := 0) rfl) Tryz.isAgg9) rfl (MV rfl rfl (WR.call H (words_word_ct hx12) rfl ⟨hg_maxl, hg_tabs⟩ (Wn.none rfl) rfl ?_)))
    intro v17 M w H hle hR
    replace hg_maxl := hg_maxl.mono hle
    replace hg_tabs := hg_tabs.mono hle
    replace hzz := hzz.mono hle
    replace f9_0 := f9_0.mono hle
    replace hc13 := hc13.mono hle
    replace hp2 := hp2.mono hle
    obtain rfl := hR
    refine ST (Ex.lenStr Tryz.underlying9 rfl) rfl (ST (Ex.leq rfl rfl) rfl (NL (TN ?_)))
    refine WC.condB rfl (fun hk13 => ?_) (fun hk13 => ?_)
    ·
     replace hk13 : (s11.length : Int) ≤ (75 : Int) := of_decide_eq_true hk13
     rw [if_pos hk13] at e4
     refine SQ (SQ ?_)
     obtain ⟨⟨s14, b15⟩, hx16, e4⟩ := bnd e4
     try dsimp only at e4
     refine RG (MV rfl rfl (MV rfl rfl (WR.yieldS H (Spl.whole _) hY hzz hx16 rfl rfl (Wn.none rfl) rfl ?_)))
     intro w M Lc H hle hzz
     simp only [List.cons_append, List.nil_append] at H
     replace hg_maxl := hg_maxl.mono hle
     replace hg_tabs := hg_tabs.mono hle
     replace f9_0 := f9_0.mono hle
     replace hc13 := hc13.mono hle
     replace hp2 := hp2.mono hle
     refine ST (Ex.not rfl) rfl (NL (TN ?_))
     refine WC.condB rfl (fun hk17 => ?_) (fun hk17 => ?_)
     ·
      replace hk17 : b15 = false := by simpa using hk17
      subst hk17
      rw [if_neg Bool.false_ne_true] at e4
      refine RT ?_
      obtain rfl := Option.some.inj e4
      try dsimp only at h
      obtain rfl := Option.some.inj h
      exact WQ.retZ rfl H (by repeat (first | exact List.Sublist.refl _ | apply List.Sublist.cons)) hzz rfl
     ·
      replace hk17 : b15 = true := by simpa using hk17
      subst hk17
      rw [if_pos rfl] at e4
      refine SK (TN (WC.exit (WQ.thenExit (WQ.exitHere (TN ?_)))))
      obtain ⟨n18, hxn18, e4⟩ := bnd e4
      refine RG (ST (Ex.addC rfl rfl hxn18) rfl (MV rfl rfl (NL ?_)))
      exact WQ.againP m8 [(0, _), (2, _), (9, _), (10, _), (11, _)] ⟨rfl, rfl, rfl, rfl, rfl, trivial⟩ ⟨_, _, _, _, rfl, H, hg_maxl, hg_tabs, hp2, f9_0, hzz, e4⟩ (Nat.lt_succ_self _)
    ·
     replace hk13 : ¬ ((s11.length : Int) ≤ (75 : Int)) := of_decide_eq_false hk13
     rw [if_neg hk13] at e4
     refine SK (TN (SQ (RG (MV rfl rfl (WR.rangeStr H Tryz.underlying9 rfl (Wn.none rfl) rfl ?_)))))
     intro b25 w H
     refine NL (TN ?_)
     obtain ⟨o19, e20, e4⟩ := bnd e4
     refine WC.cutX (fun e w => ∃ (s21 : σ) (Lc : List Ph.Item) (M : Mem), e = [(0, (yv lid)), (2, ptr bp2 0), (9, v9), (10, I (l1.length : Int)), (11, I n6)] ∧ StX C w0 M0 M (Lc) w ∧ GlF (fun w => ∃ m, w.cell? ⟨2, 0, none⟩ = some (.int .i64 m)) M ∧ Tabs M ∧ PtM M bp2 (.cells #[S p2] 9) ∧ Sl M encS v9 l1 ∧ ZH Z s21 Lc M ∧ some (.inl s21) = some o19) [] ?_ ?_ (trivial)
     ·
      refine BL (WC.loopP (fun m e w => ∃ (ps22 : Nat) (s23 : σ) (Lc : List Ph.Item) (M : Mem), e = [(0, (yv lid)), (2, ptr bp2 0), (9, v9), (10, I (l1.length : Int)), (11, I n6), (25, ptr b25 0)] ∧ StX C w0 M0 M (.blk b25 (.stringIter ⟨((a10) : List UInt8).toArray⟩ ps22) :: Lc) w ∧ GlF (fun w => ∃ m, w.cell? ⟨2, 0, none⟩ = some (.int .i64 m)) M ∧ Tabs M ∧ PtM M bp2 (.cells #[S p2] 9) ∧ Sl M encS v9 l1 ∧ ZH Z s23 Lc M ∧ words_units_1_L2 Y a10 m ps22 s23 = some o19) FU [(0, _), (2, _), (9, _), (10, _), (11, _), (25, _)] ⟨rfl, rfl, rfl, rfl, rfl, rfl, trivial⟩ ⟨_, _, _, _, rfl, H, hg_maxl, hg_tabs, hp2, f9_0, hzz, e20⟩ ?_)
      rintro m24 e w ⟨ps22, s23, Lc, M, rfl, H, hg_maxl, hg_tabs, hp2, f9_0, hzz, e20⟩
      rcases m24 with _ | m24
      · rw [words_units_1_L2] at e20; cases e20
      rw [words_units_1_L2] at e20
      refine SQ ?_
      by_cases hk25 : ps22 < a10.length
      ·
       rw [if_pos hk25] at e20
       refine RG (WR.nextT H hk25 rfl (by repeat first | exact .head | apply Upd.tail) (Wn.none rfl) rfl ?_)
       intro w H
       refine ST (Ex.extract rfl rfl) rfl (NL (TN (SQ (CT rfl (SK (TN (BL (SQ (RG (ST (Ex.extract rfl rfl) rfl (AS rfl rfl (NL (TN (SQ ?_))))))))))))))
       obtain ⟨⟨s26, b27⟩, hx28, e20⟩ := bnd e20
       try dsimp only at e20
       refine RG (MV rfl rfl (MV rfl rfl (ST (Ex.runeStr Tryz.underlying21 Tryz.underlying9 rfl) rfl (WR.yieldS H (.right (Spl.whole _)) hY hzz hx28 rfl rfl (Wn.none rfl) rfl ?_))))
       intro w M Lc H hle hzz
       simp only [List.cons_append, List.nil_append] at H
       replace hg_maxl := hg_maxl.mono hle
       replace hg_tabs := hg_tabs.mono hle
       replace f9_0 := f9_0.mono hle
       replace hp2 := hp2.mono hle
       refine ST (Ex.not rfl) rfl (NL (TN ?_))
       refine WC.condB rfl (fun hk29 => ?_) (fun hk29 => ?_)
       ·
        replace hk29 : b27 = false := by simpa using hk29
        subst hk29
        rw [if_neg Bool.false_ne_true] at e20
        refine RT ?_
        obtain rfl := Option.some.inj e20
        try dsimp only at e4
        obtain rfl := Option.some.inj e4
        try dsimp only at h
        obtain rfl := Option.some.inj h
        exact WQ.retZ rfl H (by repeat (first | exact List.Sublist.refl _ | apply List.Sublist.cons)) hzz rfl
       ·
        replace hk29 : b27 = true := by simpa using hk29
        subst hk29
        rw [if_pos rfl] at e20
        refine SK (IB ?_)
        exact WQ.againP m24 [(0, _), (2, _), (9, _), (10, _), (11, _), (25, _)] ⟨rfl, rfl, rfl, rfl, rfl, rfl, trivial⟩ ⟨_, _, _, _, rfl, H, hg_maxl, hg_tabs, hp2, f9_0, hzz, e20⟩ (Nat.lt_succ_self _)
      ·
       rw [if_neg hk25] at e20
       refine RG (WR.nextF H (Nat.le_of_not_lt hk25) rfl (by repeat (first | exact List.Mem.head _ | apply List.Mem.tail)) (Wn.none rfl) rfl ?_)
       refine ST (Ex.extract rfl rfl) rfl (NL (TN (SQ (CF rfl (WC.exit (WQ.thenExit (WQ.thenExit (WQ.exitHere ?_))))))))
       exact WQ.meetN [(0, _), (2, _), (9, _), (10, _), (11, _)] ⟨rfl, rfl, rfl, rfl, rfl, trivial⟩ ⟨_, _, _, rfl, (H.pick (L' := (Lc)) (by repeat (first | exact Pick.ofSub (by repeat (first | exact List.Sublist.refl _ | apply List.Sublist.cons)) | refine Pick.cons (by repeat first | exact .head | apply Rem.tail) ?_))), hg_maxl, hg_tabs, hp2, f9_0, hzz, e20⟩
     ·
      rintro e w ⟨s21, Lc, M, rfl, H, hg_maxl, hg_tabs, hp2, f9_0, hzz, q30⟩
      obtain rfl := Option.some.inj q30
      try dsimp only at e4
      refine IB (TN ?_)
      obtain ⟨n31, hxn31, e4⟩ := bnd e4
      refine RG (ST (Ex.addC rfl rfl hxn31) rfl (MV rfl rfl (NL ?_)))
      exact WQ.againP m8 [(0, _), (2, _), (9, _), (10, _), (11, _)] ⟨rfl, rfl, rfl, rfl, rfl, trivial⟩ ⟨_, _, _, _, rfl, H, hg_maxl, hg_tabs, hp2, f9_0, hzz, e4⟩ (Nat.lt_succ_self _)
   ·
    replace hk9 : ¬ (n6 < (l1.length : Int)) := of_decide_eq_false hk9
    rw [if_neg hk9] at e4
    refine WC.exit (WQ.thenExit (WQ.thenExit (WQ.exitHere ?_)))
    exact WQ.meetN [] trivial ⟨_, _, _, rfl, H, hg_maxl, hg_tabs, hzz, e4⟩
  ·
   rintro e w ⟨s5, Lc, M, rfl, H, hg_maxl, hg_tabs, hzz, q34⟩
   obtain rfl := Option.some.inj q34
   try dsimp only at h
   obtain rfl := Option.some.inj h
   exact WQ.endZ rfl H (by repeat (first | exact List.Sublist.refl _ | apply List.Sublist.cons)) hzz rfl
set_option maxHeartbeats 4000000 in
theorem words_Encode_ct {p0 : List UInt8} {r : (List UInt8 × (Int × Int))} (h : words_Encode p0 = some r) : Ct Tryz.prog 13 [S p0] (fun M => GlF (fun w => ∃ m, w.cell? ⟨2, 0, none⟩ = some (.int .i64 m)) M ∧ Tabs M) (fun v M => v = Value.tuple #[S r.1, Value.agg #[I r.2.1, I r.2.2]]) := by
  refine Ct.ofM Tryz.func13 (enters Tryz.func13 (by kernel_rfl) rfl) rfl rfl rfl ?_
  intro w0 M0 H hp
  obtain ⟨hg_maxl, hg_tabs⟩ := hp
  unfold words_Encode at h
  refine SQ (RG (AS rfl rfl (WR.alloc [_, _] H Tryz.zeroValue24 rfl (Wn.none rfl) rfl ?_)))
  intro b3 w H
  refine NL (TN (SQ (SQ (RG (MV rfl rfl (ST (Ex.lenStr Tryz.underlying9 rfl) rfl (ST (Ex.gtr rfl rfl) rfl (NL (TN ?_)))))))))
  refine WC.condB rfl (fun hk1 => ?_) (fun hk1 => ?_)
  ·
   replace hk1 : (1000 : Int) < (p0.length : Int) := of_decide_eq_true hk1
   rw [if_pos hk1] at h
   refine SQ ?_
   obtain ⟨⟨n2, n3⟩, hx4, h⟩ := bnd h
   try dsimp only at h
   refine RG (WR.call H (basic_Fault_ct hx4) rfl trivial (Wn.none rfl) rfl ?_)
   intro v11 M w H hle hR
   replace hg_maxl := hg_maxl.mono hle
   replace hg_tabs := hg_tabs.mono hle
   try dsimp only at hR
   obtain rfl := hR
   refine AS rfl rfl (WR.store [_, _] H rfl rfl rfl (by repeat first | exact .head | apply Upd.tail) Tryz.sizeOf24 rfl (by rfl) (by rfl) (Wn.none rfl) ?_)
   intro w H
   refine NL (TN (RT ?_))
   obtain rfl := Option.some.inj h
   exact WQ.mret2 rfl rfl ⟨_, rfl, H.loadAgg (by repeat (first | exact List.Mem.head _ | apply List.Mem.tail)) Tryz.isAgg24 Tryz.sizeOf24 (by rfl)⟩ H.ext rfl
  ·
   replace hk1 : ¬ ((1000 : Int) < (p0.length : Int)) := of_decide_eq_false hk1
   rw [if_neg hk1] at h
   refine SK (TN (SQ (SQ ?_)))
   obtain ⟨b5, hx6, h⟩ := bnd h
   refine RG (MV rfl rfl (WR.call H (utf8_ValidString_ct hx6) rfl (hg_tabs) (Wn.none rfl) rfl ?_))
   intro v13 M w H hle hR
   replace hg_maxl := hg_maxl.mono hle
   replace hg_tabs := hg_tabs.mono hle
   obtain rfl := hR
   refine ST (Ex.not rfl) rfl (NL (TN ?_))
   refine WC.condB rfl (fun hk7 => ?_) (fun hk7 => ?_)
   ·
    replace hk7 : b5 = false := by simpa using hk7
    subst hk7
    rw [if_neg Bool.false_ne_true] at h
    refine SQ ?_
    obtain ⟨⟨n8, n9⟩, hx10, h⟩ := bnd h
    try dsimp only at h
    refine RG (WR.call H (basic_Fault_ct hx10) rfl trivial (Wn.none rfl) rfl ?_)
    intro v15 M w H hle hR
    replace hg_maxl := hg_maxl.mono hle
    replace hg_tabs := hg_tabs.mono hle
    try dsimp only at hR
    obtain rfl := hR
    refine AS rfl rfl (WR.store [_, _] H rfl rfl rfl (by repeat first | exact .head | apply Upd.tail) Tryz.sizeOf24 rfl (by rfl) (by rfl) (Wn.none rfl) ?_)
    intro w H
    refine NL (TN (RT ?_))
    obtain rfl := Option.some.inj h
    exact WQ.mret2 rfl rfl ⟨_, rfl, H.loadAgg (by repeat (first | exact List.Mem.head _ | apply List.Mem.tail)) Tryz.isAgg24 Tryz.sizeOf24 (by rfl)⟩ H.ext rfl
   ·
    replace hk7 : b5 = true := by simpa using hk7
    subst hk7
    rw [if_pos rfl] at h
    refine SK (TN (SQ (SQ ?_)))
    obtain ⟨b11, hx12, h⟩ := bnd h
    refine RG (MV rfl rfl (WR.call H (words_plain_ct hx12) rfl (hg_maxl) (Wn.none rfl) rfl ?_))
    intro v17 M w H hle hR
    replace hg_maxl := hg_maxl.mono hle
    replace hg_tabs := hg_tabs.mono hle
    obtain rfl := hR
    refine NL (TN ?_)
    refine WC.condB rfl (fun hk13 => ?_) (fun hk13 => ?_)
    ·
     subst hk13
     rw [if_pos rfl] at h
     refine SQ ?_
     obtain ⟨⟨n14, n15⟩, hx16, h⟩ := bnd h
     try dsimp only at h
     refine RG (MV rfl rfl (WR.call H (basic_None_ct hx16) rfl trivial (Wn.none rfl) rfl ?_))
     intro v19 M w H hle hR
     replace hg_maxl := hg_maxl.mono hle
     replace hg_tabs := hg_tabs.mono hle
     try dsimp only at hR
     obtain rfl := hR
     refine AS rfl rfl (WR.store [_, _] H rfl rfl rfl (by repeat first | exact .head | apply Upd.tail) Tryz.sizeOf24 rfl (by rfl) (by rfl) (Wn.none rfl) ?_)
     intro w H
     refine NL (TN (RT ?_))
     obtain rfl := Option.some.inj h
     exact WQ.mret2 rfl rfl ⟨_, rfl, H.loadAgg (by repeat (first | exact List.Mem.head _ | apply List.Mem.tail)) Tryz.isAgg24 Tryz.sizeOf24 (by rfl)⟩ H.ext rfl
    ·
     subst hk13
     rw [if_neg Bool.false_ne_true] at h
     refine SK (TN (SQ ?_))
     obtain ⟨s17, hx18, h⟩ := bnd h
     refine RG (MV rfl rfl (WR.call H (charset_Best_ct hx18) rfl trivial (Wn.none rfl) rfl ?_))
     intro v21 M w H hle hR
     replace hg_maxl := hg_maxl.mono hle
     replace hg_tabs := hg_tabs.mono hle
     obtain rfl := hR
     refine WR.alloc [_] H Tryz.zeroValue9 rfl (Wn.none rfl) rfl ?_
     intro b4 w H
     refine WR.store [_] H rfl rfl rfl (by repeat first | exact .head | apply Upd.tail) Tryz.sizeOf9 rfl (by rfl) (by rfl) (Wn.none rfl) ?_
     intro w H
     refine NL (TN (SQ (RG (WR.alloc [_] H Tryz.zeroValue43 rfl (Wn.none rfl) rfl ?_))))
     intro b5 w H
     refine NL (TN (SQ (RG (WR.alloc [_] H Tryz.zeroValue9 rfl (Wn.none rfl) rfl ?_))))
     intro b6 w H
     refine WR.store [_] H rfl rfl rfl (by repeat first | exact .head | apply Upd.tail) Tryz.sizeOf9 rfl (by rfl) (by rfl) (Wn.none rfl) ?_
     intro w H
     refine NL (TN (SQ (SQ ?_)))
     obtain ⟨⟨z19, z21⟩, hx23, h⟩ := bnd h
     try dsimp only at h
     refine RG (ST (Ex.load1 H rfl (by repeat (first | exact List.Mem.head _ | apply List.Mem.tail)) Tryz.isAgg9 (by rfl)) rfl ?_)
     refine MV rfl rfl (WR.call H (words_units_ct hx23) rfl trivial (Wn.none rfl) rfl ?_)
     intro v24 M w H hle hR
     replace hg_maxl := hg_maxl.mono hle
     replace hg_tabs := hg_tabs.mono hle
     try dsimp only at hR
     obtain ⟨b24_0_0, b24_0_1, rfl, f24_0_0, f24_0_1⟩ := hR
     refine NL (TN (BL ?_))
     replace H := H.newRow 9 encS
     obtain ⟨o30, e31, h⟩ := bnd h
     refine WC.rangeS (A := []) (L := [.blk b3 (.cells #[I 0, I 0] 24), .blk b4 (.cells #[S s17] 9), .blk b5 (.cells #[(Value.slice none 0 0)] 43), RowI 9 encS (Value.slice none 0 0) [], .blk b6 (.cells #[S []] 9)]) (B := []) (H.pick (L' := [.blk b3 (.cells #[I 0, I 0] 24), .blk b4 (.cells #[S s17] 9), .blk b5 (.cells #[(Value.slice none 0 0)] 43), RowI 9 encS (Value.slice none 0 0) [], .blk b6 (.cells #[S []] 9)]) (by repeat (first | exact Pick.nil | refine Pick.cons (by repeat first | exact .head | apply Rem.tail) ?_))) rfl words_units_1_ct (.left (.left (.left (.left (.left (Spl.all _)))))) ⟨hg_maxl, hg_tabs, f24_0_0, f24_0_1⟩ rfl (fun s L M => ∃ (l25 : List (List UInt8)) (v26 : Value) (s27 : List UInt8), s = (l25, s27) ∧ L = [.blk b3 (.cells #[I 0, I 0] 24), .blk b4 (.cells #[S s17] 9), .blk b5 (.cells #[v26] 43), RowI 9 encS v26 l25, .blk b6 (.cells #[S s27] 9)] ∧ GlF (fun w => ∃ m, w.cell? ⟨2, 0, none⟩ = some (.int .i64 m)) M ∧ Tabs M) (fun _ => none) goOn (fun _ => rfl) (words_Encode_Y28 s17) ([], []) o30 e31 (by rintro s L M M' ⟨l25, v26, s27, rfl, rfl, hg_maxl, hg_tabs⟩ hle; exact ⟨_, _, _, rfl, rfl, hg_maxl.mono hle, hg_tabs.mono hle⟩) rfl ⟨_, _, _, rfl, rfl, hg_maxl, hg_tabs⟩ ?_ ?_ ?_
     ·
      rintro lid28 rc28 hrc28 s x32 sx28 L wb28 Mb28 hE e33 ⟨l25, v26, s27, rfl, rfl, hg_maxl, hg_tabs⟩ H
      unfold words_Encode_Y28 at e33
      try dsimp only at e33
      refine RG (AS rfl rfl (NL (WQ.begin hrc28 H (by repeat first | exact .head | apply Upd.tail) ?_)))
      intro w H
      refine BL (SQ (SQ ?_))
      obtain ⟨o34, e35, e33⟩ := bnd e33
      refine WC.cutX (fun e w => ∃ (b36 : Bool) (M : Mem), e = [(3, ptr b3 0), (4, ptr b4 0), (5, ptr b5 0), (6, ptr b6 0), (7, S x32), (36, Value.bool b36)] ∧ StX (feet (.blk lid28 (.loop (rc28 .ready none)) :: [.blk b3 (.cells #[I 0, I 0] 24), .blk b4 (.cells #[S s17] 9), .blk b5 (.cells #[v26] 43), RowI 9 encS v26 l25, .blk b6 (.cells #[S s27] 9)])) wb28 Mb28 M [.blk b3 (.cells #[I 0, I 0] 24), .blk b4 (.cells #[S s17] 9), .blk b5 (.cells #[v26] 43), RowI 9 encS v26 l25, .blk b6 (.cells #[S s27] 9), .blk lid28 (.loop (rc28 .busy none))] w ∧ GlF (fun w => ∃ m, w.cell? ⟨2, 0, none⟩ = some (.int .i64 m)) M ∧ Tabs M ∧ some b36 = some o34) [] ?_ ?_ (trivial)
      ·
       by_cases hk37 : s27 = []
       ·
        rw [if_pos hk37] at e35
        refine RG (ST (Ex.load1 H rfl (by repeat (first | exact List.Mem.head _ | apply List.Mem.tail)) Tryz.isAgg9 (by rfl)) rfl ?_)
        refine WR.stepE (v' := .bool false) (Ex.strNeqC rfl rfl) (congrArg Value.bool (by rw [decide_eq_true hk37]; rfl)) (Wn.none rfl) rfl rfl ?_
        refine MV rfl rfl (WR.skipN 7 rfl rfl (PF rfl rfl rfl (NL ?_)))
        exact WQ.meetN [(3, _), (4, _), (5, _), (6, _), (7, _), (36, _)] ⟨rfl, rfl, rfl, rfl, rfl, rfl, trivial⟩ ⟨_, _, rfl, (H.pick (L' := [.blk b3 (.cells #[I 0, I 0] 24), .blk b4 (.cells #[S s17] 9), .blk b5 (.cells #[v26] 43), RowI 9 encS v26 l25, .blk b6 (.cells #[S s27] 9), .blk lid28 (.loop (rc28 .busy none))]) (by repeat (first | exact Pick.nil | refine Pick.cons (by repeat first | exact .head | apply Rem.tail) ?_))), hg_maxl, hg_tabs, e35⟩
       ·
        rw [if_neg hk37] at e35
        obtain ⟨s38, hxs38, e35⟩ := bnd e35
        obtain ⟨s39, hx40, e35⟩ := bnd e35
        refine RG (ST (Ex.load1 H rfl (by repeat (first | exact List.Mem.head _ | apply List.Mem.tail)) Tryz.isAgg9 (by rfl)) rfl ?_)
        refine WR.stepE (v' := .bool true) (Ex.strNeqC rfl rfl) (congrArg Value.bool (by rw [decide_eq_false hk37]; rfl)) (Wn.none rfl) rfl rfl ?_
        refine MV rfl rfl (SG (Ex.load1 H rfl (by repeat (first | exact List.Mem.head _ | apply List.Mem.tail)) Tryz.isAgg9 (by rfl)) rfl rfl rfl ?_)
        refine SG (Ex.load1 H rfl (by repeat (first | exact List.Mem.head _ | apply List.Mem.tail)) Tryz.isAgg9 (by rfl)) rfl rfl rfl ?_
        refine SG (Ex.move rfl) rfl rfl rfl (SG (Ex.strAddC rfl rfl hxs38) rfl rfl rfl (WR.call H (words_word_ct hx40) rfl ⟨hg_maxl, hg_tabs⟩ (Wn.some rfl rfl rfl) rfl ?_))
        intro v33 M w H hle hR
        replace hg_maxl := hg_maxl.mono hle
        replace hg_tabs := hg_tabs.mono hle
        obtain rfl := hR
        refine SG (Ex.lenStr Tryz.underlying9 rfl) rfl rfl rfl (SG (Ex.gtr rfl rfl) rfl rfl rfl (PT rfl rfl rfl (NL ?_)))
        exact WQ.meetN [(3, _), (4, _), (5, _), (6, _), (7, _), (36, _)] ⟨rfl, rfl, rfl, rfl, rfl, rfl, trivial⟩ ⟨_, _, rfl, (H.pick (L' := [.blk b3 (.cells #[I 0, I 0] 24), .blk b4 (.cells #[S s17] 9), .blk b5 (.cells #[v26] 43), RowI 9 encS v26 l25, .blk b6 (.cells #[S s27] 9), .blk lid28 (.loop (rc28 .busy none))]) (by repeat (first | exact Pick.nil | refine Pick.cons (by repeat first | exact .head | apply Rem.tail) ?_))), hg_maxl, hg_tabs, e35⟩
      ·
       rintro e w ⟨b36, M, rfl, H, hg_maxl, hg_tabs, q41⟩
       obtain rfl := Option.some.inj q41
       refine TN ?_
       refine WC.condB rfl (fun hk42 => ?_) (fun hk42 => ?_)
       ·
        subst hk42
        rw [if_pos rfl] at e33
        refine SQ ?_
        obtain ⟨s43, hx44, e33⟩ := bnd e33
        obtain ⟨l45, hxl45, e33⟩ := bnd e33
        refine WC.cutP (fun e w => ∃ (v46 : Value) (M : Mem), e = [(3, ptr b3 0), (4, ptr b4 0), (5, ptr b5 0), (6, ptr b6 0), (7, S x32)] ∧ StX (feet (.blk lid28 (.loop (rc28 .ready none)) :: [.blk b3 (.cells #[I 0, I 0] 24), .blk b4 (.cells #[S s17] 9), .blk b5 (.cells #[v26] 43), RowI 9 encS v26 l25, .blk b6 (.cells #[S s27] 9)])) wb28 Mb28 M [.blk b3 (.cells #[I 0, I 0] 24), .blk b4 (.cells #[S s17] 9), .blk b5 (.cells #[v46] 43), RowI 9 encS v46 l45, .blk b6 (.cells #[S s27] 9), .blk lid28 (.loop (rc28 .busy none))] w ∧ GlF (fun w => ∃ m, w.cell? ⟨2, 0, none⟩ = some (.int .i64 m)) M ∧ Tabs M) ?_ ?_
        ·
         refine WC.draw (m := 7) rfl rfl H ?_
         intro w H
         refine WA.three (i := 0) (j := 1) (k := 2) (by kernel_rfl) rfl rfl rfl ?_ ?_ ?_
         ·
          refine ST (Ex.load1 H rfl (by repeat (first | exact List.Mem.head _ | apply List.Mem.tail)) Tryz.isAgg43 (by rfl)) rfl ?_
          refine NA ?_
          refine WA.two (i := 1) (j := 2) (by kernel_rfl) rfl rfl ?_ ?_
          ·
           refine ST (Ex.load1 H rfl (by repeat (first | exact List.Mem.head _ | apply List.Mem.tail)) Tryz.isAgg9 (by rfl)) rfl ?_
           refine NA (WA.seq (fuel := 0) [2, 3, 4, 5, 6] rfl (by kernel_rfl) (ST (Ex.load1 H rfl (by repeat (first | exact List.Mem.head _ | apply List.Mem.tail)) Tryz.isAgg9 (by rfl)) rfl ?_))
           refine WR.call H (words_word_ct hx44) rfl ⟨hg_maxl, hg_tabs⟩ (Wn.none rfl) rfl ?_
           intro v40 M w H hle hR
           replace hg_maxl := hg_maxl.mono hle
           replace hg_tabs := hg_tabs.mono hle
           obtain rfl := hR
           refine WR.lit (enc := encS) xty43 ([s43] : List (List UInt8)) H rfl (by rfl) (fun _ => rfl) rfl rfl (Wn.none rfl) rfl ?_
           intro v41 M w H hle hs41
           replace hg_maxl := hg_maxl.mono hle
           replace hg_tabs := hg_tabs.mono hle
           refine WR.appC (l := l25) xty43 rfl (fun _ => rfl) H rfl (fun _ => by repeat first | exact .head | apply Upd.tail) rfl (hs41) hxl45 (Wn.none rfl) rfl ?_
           intro v42 w H
           refine WR.putV [_] H rfl rfl (H.rowOne (by repeat (first | exact List.Mem.head _ | apply List.Mem.tail))) (by repeat first | exact .head | apply Upd.tail) (by rfl) Tryz.sizeOf43 (by first | decide | (simp; done) | (simp; omega)) (Wn.none rfl) ?_
           intro w H
           refine NA (WA.done (by kernel_rfl) ?_)
           exact WQ.meetP [(3, _), (4, _), (5, _), (6, _), (7, _)] ⟨rfl, rfl, rfl, rfl, rfl, trivial⟩ ⟨_, _, rfl, H, hg_maxl, hg_tabs⟩
          ·
           refine ST (Ex.load1 H rfl (by repeat (first | exact List.Mem.head _ | apply List.Mem.tail)) Tryz.isAgg9 (by rfl)) rfl ?_
           refine NA (WA.seq (fuel := 0) [1, 3, 4, 5, 6] rfl (by kernel_rfl) (ST (Ex.load1 H rfl (by repeat (first | exact List.Mem.head _ | apply List.Mem.tail)) Tryz.isAgg9 (by rfl)) rfl ?_))
           refine WR.call H (words_word_ct hx44) rfl ⟨hg_maxl, hg_tabs⟩ (Wn.none rfl) rfl ?_
           intro v40 M w H hle hR
           replace hg_maxl := hg_maxl.mono hle
           replace hg_tabs := hg_tabs.mono hle
           obtain rfl := hR
           refine WR.lit (enc := encS) xty43 ([s43] : List (List UInt8)) H rfl (by rfl) (fun _ => rfl) rfl rfl (Wn.none rfl) rfl ?_
           intro v41 M w H hle hs41
           replace hg_maxl := hg_maxl.mono hle
           replace hg_tabs := hg_tabs.mono hle
           refine WR.appC (l := l25) xty43 rfl (fun _ => rfl) H rfl (fun _ => by repeat first | exact .head | apply Upd.tail) rfl (hs41) hxl45 (Wn.none rfl) rfl ?_
           intro v42 w H
           refine WR.putV [_] H rfl rfl (H.rowOne (by repeat (first | exact List.Mem.head _ | apply List.Mem.tail))) (by repeat first | exact .head | apply Upd.tail) (by rfl) Tryz.sizeOf43 (by first | decide | (simp; done) | (simp; omega)) (Wn.none rfl) ?_
           intro w H
           refine NA (WA.done (by kernel_rfl) ?_)
           exact WQ.meetP [(3, _), (4, _), (5, _), (6, _), (7, _)] ⟨rfl, rfl, rfl, rfl, rfl, trivial⟩ ⟨_, _, rfl, H, hg_maxl, hg_tabs⟩
         ·
          refine ST (Ex.load1 H rfl (by repeat (first | exact List.Mem.head _ | apply List.Mem.tail)) Tryz.isAgg9 (by rfl)) rfl ?_
          refine NA ?_
          refine WA.two (i := 0) (j := 2) (by kernel_rfl) rfl rfl ?_ ?_
          ·
           refine ST (Ex.load1 H rfl (by repeat (first | exact List.Mem.head _ | apply List.Mem.tail)) Tryz.isAgg43 (by rfl)) rfl ?_
           refine NA (WA.seq (fuel := 0) [2, 3, 4, 5, 6] rfl (by kernel_rfl) (ST (Ex.load1 H rfl (by repeat (first | exact List.Mem.head _ | apply List.Mem.tail)) Tryz.isAgg9 (by rfl)) rfl ?_))
           refine WR.call H (words_word_ct hx44) rfl ⟨hg_maxl, hg_tabs⟩ (Wn.none rfl) rfl ?_
           intro v40 M w H hle hR
           replace hg_maxl := hg_maxl.mono hle
           replace hg_tabs := hg_tabs.mono hle
           obtain rfl := hR
           refine WR.lit (enc := encS) xty43 ([s43] : List (List UInt8)) H rfl (by rfl) (fun _ => rfl) rfl rfl (Wn.none rfl) rfl ?_
           intro v41 M w H hle hs41
           replace hg_maxl := hg_maxl.mono hle
           replace hg_tabs := hg_tabs.mono hle
           refine WR.appC (l := l25) xty43 rfl (fun _ => rfl) H rfl (fun _ => by repeat first | exact .head | apply Upd.tail) rfl (hs41) hxl45 (Wn.none rfl) rfl ?_
           intro v42 w H
           refine WR.putV [_] H rfl rfl (H.rowOne (by repeat (first | exact List.Mem.head _ | apply List.Mem.tail))) (by repeat first | exact .head | apply Upd.tail) (by rfl) Tryz.sizeOf43 (by first | decide | (simp; done) | (simp; omega)) (Wn.none rfl) ?_
           intro w H
           refine NA (WA.done (by kernel_rfl) ?_)
           exact WQ.meetP [(3, _), (4, _), (5, _), (6, _), (7, _)] ⟨rfl, rfl, rfl, rfl, rfl, trivial⟩ ⟨_, _, rfl, H, hg_maxl, hg_tabs⟩
          ·
           refine ST (Ex.load1 H rfl (by repeat (first | exact List.Mem.head _ | apply List.Mem.tail)) Tryz.isAgg9 (by rfl)) rfl ?_
           refine NA ?_
           refine WA.two (i := 0) (j := 3) (by kernel_rfl) rfl rfl ?_ ?_
           ·
            refine ST (Ex.load1 H rfl (by repeat (first | exact List.Mem.head _ | apply List.Mem.tail)) Tryz.isAgg43 (by rfl)) rfl ?_
            refine NA (WA.seq (fuel := 0) [3, 4, 5, 6] rfl (by kernel_rfl) (WR.call H (words_word_ct hx44) rfl ⟨hg_maxl, hg_tabs⟩ (Wn.none rfl) rfl ?_))
            intro v40 M w H hle hR
            replace hg_maxl := hg_maxl.mono hle
            replace hg_tabs := hg_tabs.mono hle
            obtain rfl := hR
            refine WR.lit (enc := encS) xty43 ([s43] : List (List UInt8)) H rfl (by rfl) (fun _ => rfl) rfl rfl (Wn.none rfl) rfl ?_
            intro v41 M w H hle hs41
            replace hg_maxl := hg_maxl.mono hle
            replace hg_tabs := hg_tabs.mono hle
            refine WR.appC (l := l25) xty43 rfl (fun _ => rfl) H rfl (fun _ => by repeat first | exact .head | apply Upd.tail) rfl (hs41) hxl45 (Wn.none rfl) rfl ?_
            intro v42 w H
            refine WR.putV [_] H rfl rfl (H.rowOne (by repeat (first | exact List.Mem.head _ | apply List.Mem.tail))) (by repeat first | exact .head | apply Upd.tail) (by rfl) Tryz.sizeOf43 (by first | decide | (simp; done) | (simp; omega)) (Wn.none rfl) ?_
            intro w H
            refine NA (WA.done (by kernel_rfl) ?_)
            exact WQ.meetP [(3, _), (4, _), (5, _), (6, _), (7, _)] ⟨rfl, rfl, rfl, rfl, rfl, trivial⟩ ⟨_, _, rfl, H, hg_maxl, hg_tabs⟩
           ·
            refine WR.call H (words_word_ct hx44) rfl ⟨hg_maxl, hg_tabs⟩ (Wn.none rfl) rfl ?_
            intro v40 M w H hle hR
            replace hg_maxl := hg_maxl.mono hle
            replace hg_tabs := hg_tabs.mono hle
            obtain rfl := hR
            refine NA ?_
            refine WA.two (i := 0) (j := 4) (by kernel_rfl) rfl rfl ?_ ?_
            ·
             refine ST (Ex.load1 H rfl (by repeat (first | exact List.Mem.head _ | apply List.Mem.tail)) Tryz.isAgg43 (by rfl)) rfl ?_
             refine NA (WA.seq (fuel := 0) [4, 5, 6] rfl (by kernel_rfl) (WR.lit (enc := encS) xty43 ([s43] : List (List UInt8)) H rfl (by rfl) (fun _ => rfl) rfl rfl (Wn.none rfl) rfl ?_))
             intro v41 M w H hle hs41
             replace hg_maxl := hg_maxl.mono hle
             replace hg_tabs := hg_tabs.mono hle
             refine WR.appC (l := l25) xty43 rfl (fun _ => rfl) H rfl (fun _ => by repeat first | exact .head | apply Upd.tail) rfl (hs41) hxl45 (Wn.none rfl) rfl ?_
             intro v42 w H
             refine WR.putV [_] H rfl rfl (H.rowOne (by repeat (first | exact List.Mem.head _ | apply List.Mem.tail))) (by repeat first | exact .head | apply Upd.tail) (by rfl) Tryz.sizeOf43 (by first | decide | (simp; done) | (simp; omega)) (Wn.none rfl) ?_
             intro w H
             refine NA (WA.done (by kernel_rfl) ?_)
             exact WQ.meetP [(3, _), (4, _), (5, _), (6, _), (7, _)] ⟨rfl, rfl, rfl, rfl, rfl, trivial⟩ ⟨_, _, rfl, H, hg_maxl, hg_tabs⟩
            ·
             refine WR.lit (enc := encS) xty43 ([s43] : List (List UInt8)) H rfl (by rfl) (fun _ => rfl) rfl rfl (Wn.none rfl) rfl ?_
             intro v41 M w H hle hs41
             replace hg_maxl := hg_maxl.mono hle
             replace hg_tabs := hg_tabs.mono hle
             refine NA (WA.seq (fuel := 0) [0, 5, 6] rfl (by kernel_rfl) (ST (Ex.load1 H rfl (by repeat (first | exact List.Mem.head _ | apply List.Mem.tail)) Tryz.isAgg43 (by rfl)) rfl ?_))
             refine WR.appC (l := l25) xty43 rfl (fun _ => rfl) H rfl (fun _ => by repeat first | exact .head | apply Upd.tail) rfl (hs41) hxl45 (Wn.none rfl) rfl ?_
             intro v42 w H
             refine WR.putV [_] H rfl rfl (H.rowOne (by repeat (first | exact List.Mem.head _ | apply List.Mem.tail))) (by repeat first | exact .head | apply Upd.tail) (by rfl) Tryz.sizeOf43 (by first | decide | (simp; done) | (simp; omega)) (Wn.none rfl) ?_
             intro w H
             refine NA (WA.done (by kernel_rfl) ?_)
             exact WQ.meetP [(3, _), (4, _), (5, _), (6, _), (7, _)] ⟨rfl, rfl, rfl, rfl, rfl, trivial⟩ ⟨_, _, rfl, H, hg_maxl, hg_tabs⟩
         ·
          refine ST (Ex.load1 H rfl (by repeat (first | exact List.Mem.head _ | apply List.Mem.tail)) Tryz.isAgg9 (by rfl)) rfl ?_
          refine NA ?_
          refine WA.two (i := 0) (j := 1) (by kernel_rfl) rfl rfl ?_ ?_
          ·
           refine ST (Ex.load1 H rfl (by repeat (first | exact List.Mem.head _ | apply List.Mem.tail)) Tryz.isAgg43 (by rfl)) rfl ?_
           refine NA (WA.seq (fuel := 0) [1, 3, 4, 5, 6] rfl (by kernel_rfl) (ST (Ex.load1 H rfl (by repeat (first | exact List.Mem.head _ | apply List.Mem.tail)) Tryz.isAgg9 (by rfl)) rfl ?_))
           refine WR.call H (words_word_ct hx44) rfl ⟨hg_maxl, hg_tabs⟩ (Wn.none rfl) rfl ?_
           intro v40 M w H hle hR
           replace hg_maxl := hg_maxl.mono hle
           replace hg_tabs := hg_tabs.mono hle
           obtain rfl := hR
           refine WR.lit (enc := encS) xty43 ([s43] : List (List UInt8)) H rfl (by rfl) (fun _ => rfl) rfl rfl (Wn.none rfl) rfl ?_
           intro v41 M w H hle hs41
           replace hg_maxl := hg_maxl.mono hle
           replace hg_tabs := hg_tabs.mono hle
           refine WR.appC (l := l25) xty43 rfl (fun _ => rfl) H rfl (fun _ => by repeat first | exact .head | apply Upd.tail) rfl (hs41) hxl45 (Wn.none rfl) rfl ?_
           intro v42 w H
           refine WR.putV [_] H rfl rfl (H.rowOne (by repeat (first | exact List.Mem.head _ | apply List.Mem.tail))) (by repeat first | exact .head | apply Upd.tail) (by rfl) Tryz.sizeOf43 (by first | decide | (simp; done) | (simp; omega)) (Wn.none rfl) ?_
           intro w H
           refine NA (WA.done (by kernel_rfl) ?_)
           exact WQ.meetP [(3, _), (4, _), (5, _), (6, _), (7, _)] ⟨rfl, rfl, rfl, rfl, rfl, trivial⟩ ⟨_, _, rfl, H, hg_maxl, hg_tabs⟩
          ·
           refine ST (Ex.load1 H rfl (by repeat (first | exact List.Mem.head _ | apply List.Mem.tail)) Tryz.isAgg9 (by rfl)) rfl ?_
           refine NA ?_
           refine WA.two (i := 0) (j := 3) (by kernel_rfl) rfl rfl ?_ ?_
           ·
            refine ST (Ex.load1 H rfl (by repeat (first | exact List.Mem.head _ | apply List.Mem.tail)) Tryz.isAgg43 (by rfl)) rfl ?_
            refine NA (WA.seq (fuel := 0) [3, 4, 5, 6] rfl (by kernel_rfl) (WR.call H (words_word_ct hx44) rfl ⟨hg_maxl, hg_tabs⟩ (Wn.none rfl) rfl ?_))
            intro v40 M w H hle hR
            replace hg_maxl := hg_maxl.mono hle
            replace hg_tabs := hg_tabs.mono hle
            obtain rfl := hR
            refine WR.lit (enc := encS) xty43 ([s43] : List (List UInt8)) H rfl (by rfl) (fun _ => rfl) rfl rfl (Wn.none rfl) rfl ?_
            intro v41 M w H hle hs41
            replace hg_maxl := hg_maxl.mono hle
            replace hg_tabs := hg_tabs.mono hle
            refine WR.appC (l := l25) xty43 rfl (fun _ => rfl) H rfl (fun _ => by repeat first | exact .head | apply Upd.tail) rfl (hs41) hxl45 (Wn.none rfl) rfl ?_
            intro v42 w H
            refine WR.putV [_] H rfl rfl (H.rowOne (by repeat (first | exact List.Mem.head _ | apply List.Mem.tail))) (by repeat first | exact .head | apply Upd.tail) (by rfl) Tryz.sizeOf43 (by first | decide | (simp; done) | (simp; omega)) (Wn.none rfl) ?_
            intro w H
            refine NA (WA.done (by kernel_rfl) ?_)
            exact WQ.meetP [(3, _), (4, _), (5, _), (6, _), (7, _)] ⟨rfl, rfl, rfl, rfl, rfl, trivial⟩ ⟨_, _, rfl, H, hg_maxl, hg_tabs⟩
           ·
            refine WR.call H (words_word_ct hx44) rfl ⟨hg_maxl, hg_tabs⟩ (Wn.none rfl) rfl ?_
            intro v40 M w H hle hR
            replace hg_maxl := hg_maxl.mono hle
            replace hg_tabs := hg_tabs.mono hle
            obtain rfl := hR
            refine NA ?_
            refine WA.two (i := 0) (j := 4) (by kernel_rfl) rfl rfl ?_ ?_
            ·
             refine ST (Ex.load1 H rfl (by repeat (first | exact List.Mem.head _ | apply List.Mem.tail)) Tryz.isAgg43 (by rfl)) rfl ?_
             refine NA (WA.seq (fuel := 0) [4, 5, 6] rfl (by kernel_rfl) (WR.lit (enc := encS) xty43 ([s43] : List (List UInt8)) H rfl (by rfl) (fun _ => rfl) rfl rfl (Wn.none rfl) rfl ?_))
             intro v41 M w H hle hs41
             replace hg_maxl := hg_maxl.mono hle
             replace hg_tabs := hg_tabs.mono hle
             refine WR.appC (l := l25) xty43 rfl (fun _ => rfl) H rfl (fun _ => by repeat first | exact .head | apply Upd.tail) rfl (hs41) hxl45 (Wn.none rfl) rfl ?_
             intro v42 w H
             refine WR.putV [_] H rfl rfl (H.rowOne (by repeat (first | exact List.Mem.head _ | apply List.Mem.tail))) (by repeat first | exact .head | apply Upd.tail) (by rfl) Tryz.sizeOf43 (by first | decide | (simp; done) | (simp; omega)) (Wn.none rfl) ?_
             intro w H
             refine NA (WA.done (by kernel_rfl) ?_)
             exact WQ.meetP [(3, _), (4, _), (5, _), (6, _), (7, _)] ⟨rfl, rfl, rfl, rfl, rfl, trivial⟩ ⟨_, _, rfl, H, hg_maxl, hg_tabs⟩
            ·
             refine WR.lit (enc := encS) xty43 ([s43] : List (List UInt8)) H rfl (by rfl) (fun _ => rfl) rfl rfl (Wn.none rfl) rfl ?_
             intro v41 M w H hle hs41
             replace hg_maxl := hg_maxl.mono hle
             replace hg_tabs := hg_tabs.mono hle
             refine NA (WA.seq (fuel := 0) [0, 5, 6] rfl (by kernel_rfl) (ST (Ex.load1 H rfl (by repeat (first | exact List.Mem.head _ | apply List.Mem.tail)) Tryz.isAgg43 (by rfl)) rfl ?_))
             refine WR.appC (l := l25) xty43 rfl (fun _ => rfl) H rfl (fun _ => by repeat first | exact .head | apply Upd.tail) rfl (hs41) hxl45 (Wn.none rfl) rfl ?_
             intro v42 w H
             refine WR.putV [_] H rfl rfl (H.rowOne (by repeat (first | exact List.Mem.head _ | apply List.Mem.tail))) (by repeat first | exact .head | apply Upd.tail) (by rfl) Tryz.sizeOf43 (by first | decide | (simp; done) | (simp; omega)) (Wn.none rfl) ?_
             intro w H
             refine NA (WA.done (by kernel_rfl) ?_)
             exact WQ.meetP [(3, _), (4, _), (5, _), (6, _), (7, _)] ⟨rfl, rfl, rfl, rfl, rfl, trivial⟩ ⟨_, _, rfl, H, hg_maxl, hg_tabs⟩
        ·
         rintro e w ⟨v46, M, rfl, H, hg_maxl, hg_tabs⟩
         refine TN (RG (WR.store [_] H rfl rfl rfl (by repeat first | exact .head | apply Upd.tail) Tryz.sizeOf9 rfl (by rfl) (by rfl) (Wn.none rfl) ?_))
         intro w H
         refine NL (TN ?_)
         obtain ⟨s47, hxs47, e33⟩ := bnd e33
         refine RG (ST (Ex.load1 H rfl (by repeat (first | exact List.Mem.head _ | apply List.Mem.tail)) Tryz.isAgg9 (by rfl)) rfl ?_)
         refine MV rfl rfl (ST (Ex.strAddC rfl rfl hxs47) rfl (WR.store [_] H rfl rfl rfl (by repeat first | exact .head | apply Upd.tail) Tryz.sizeOf9 rfl (by rfl) (by rfl) (Wn.none rfl) ?_))
         intro w H
         refine NL (IB ?_)
         obtain rfl := Option.some.inj e33
         exact WQ.rsOn hrc28 (H.pick (L' := [.blk lid28 (.loop (rc28 .busy none)), .blk b3 (.cells #[I 0, I 0] 24), .blk b4 (.cells #[S s17] 9), .blk b5 (.cells #[v46] 43), RowI 9 encS v46 l45, .blk b6 (.cells #[S s47] 9)]) (by repeat (first | exact Pick.nil | refine Pick.cons (by repeat first | exact .head | apply Rem.tail) ?_))) rfl ⟨_, _, _, rfl, rfl, hg_maxl, hg_tabs⟩
       ·
        subst hk42
        rw [if_neg Bool.false_ne_true] at e33
        refine SK (TN ?_)
        obtain ⟨s48, hxs48, e33⟩ := bnd e33
        refine RG (ST (Ex.load1 H rfl (by repeat (first | exact List.Mem.head _ | apply List.Mem.tail)) Tryz.isAgg9 (by rfl)) rfl ?_)
        refine MV rfl rfl (ST (Ex.strAddC rfl rfl hxs48) rfl (WR.store [_] H rfl rfl rfl (by repeat first | exact .head | apply Upd.tail) Tryz.sizeOf9 rfl (by rfl) (by rfl) (Wn.none rfl) ?_))
        intro w H
        refine NL (IB ?_)
        obtain rfl := Option.some.inj e33
        exact WQ.rsOn hrc28 (H.pick (L' := [.blk lid28 (.loop (rc28 .busy none)), .blk b3 (.cells #[I 0, I 0] 24), .blk b4 (.cells #[S s17] 9), .blk b5 (.cells #[v26] 43), RowI 9 encS v26 l25, .blk b6 (.cells #[S s48] 9)]) (by repeat (first | exact Pick.nil | refine Pick.cons (by repeat first | exact .head | apply Rem.tail) ?_))) rfl ⟨_, _, _, rfl, rfl, hg_maxl, hg_tabs⟩
     ·
      rintro Dm28 w M L H hle hE ⟨l25, v26, s27, rfl, rfl, hg_maxl, hg_tabs⟩
      simp only [List.cons_append, List.nil_append, List.append_nil] at H
      try dsimp only at h
      refine IB (TN (SQ ?_))
      obtain ⟨s49, hx50, h⟩ := bnd h
      obtain ⟨l51, hxl51, h⟩ := bnd h
      obtain ⟨s53, hx54, h⟩ := bnd h
      obtain ⟨⟨n55, n56⟩, hx57, h⟩ := bnd h
      try dsimp only at h
      refine WC.cutP (fun e w => ∃  (M : Mem), e = [(2, S s53), (3, ptr b3 0)] ∧ St w0 M0 M [.blk b3 (.cells #[I n55, I n56] 24), .blk Dm28 (.deferred (some []))] w ∧ GlF (fun w => ∃ m, w.cell? ⟨2, 0, none⟩ = some (.int .i64 m)) M ∧ Tabs M) ?_ ?_
      ·
       refine WC.draw (m := 10) rfl rfl H ?_
       intro w H
       refine WA.takeM (i := 1) [0, 2] rfl (by kernel_rfl) (by kernel_rfl) (by kernel_rfl) (Ex.load1 H rfl (by repeat (first | exact List.Mem.head _ | apply List.Mem.tail)) Tryz.isAgg9 (by rfl)) (Wn.none rfl) rfl rfl (fun _ _ => rfl) ?_
       refine WA.takeM (i := 2) [0] rfl (by kernel_rfl) (by kernel_rfl) (by kernel_rfl) (Ex.load1 H rfl (by repeat (first | exact List.Mem.head _ | apply List.Mem.tail)) Tryz.isAgg9 (by rfl)) (Wn.none rfl) rfl rfl (fun _ _ => rfl) ?_
       refine WA.two (i := 0) (j := 3) (by kernel_rfl) rfl rfl ?_ ?_
       ·
        refine ST (Ex.load1 H rfl (by repeat (first | exact List.Mem.head _ | apply List.Mem.tail)) Tryz.isAgg43 (by rfl)) rfl ?_
        refine NA (WA.seq (fuel := 0) [3, 4, 5, 6, 7, 8, 9] rfl (by kernel_rfl) (WR.call H (words_word_ct hx50) rfl ⟨hg_maxl, hg_tabs⟩ (Wn.none rfl) rfl ?_))
        intro v49 M w H hle hR
        replace hg_maxl := hg_maxl.mono hle
        replace hg_tabs := hg_tabs.mono hle
        obtain rfl := hR
        refine WR.lit (enc := encS) xty43 ([s49] : List (List UInt8)) H rfl (by rfl) (fun _ => rfl) rfl rfl (Wn.none rfl) rfl ?_
        intro v50 M w H hle hs50
        replace hg_maxl := hg_maxl.mono hle
        replace hg_tabs := hg_tabs.mono hle
        refine WR.appC (l := l25) xty43 rfl (fun _ => rfl) H rfl (fun _ => by repeat first | exact .head | apply Upd.tail) rfl (hs50) hxl51 (Wn.none rfl) rfl ?_
        intro v51 w H
        obtain ⟨M, hle, hs52, H⟩ := H.freezeRow (v := v51) (enc := encS) (t := 9) (by repeat first | exact .head | apply Rem.tail)
        replace hg_maxl := hg_maxl.mono hle
        replace hg_tabs := hg_tabs.mono hle
        replace hs50 := hs50.mono hle
        refine WR.call H (strings_Join_ct hx54) rfl (hs52) (Wn.none rfl) rfl ?_
        intro v52 M w H hle hR
        replace hg_maxl := hg_maxl.mono hle
        replace hg_tabs := hg_tabs.mono hle
        replace hs50 := hs50.mono hle
        replace hs52 := hs52.mono hle
        obtain rfl := hR
        refine WR.call H (basic_None_ct hx57) rfl trivial (Wn.none rfl) rfl ?_
        intro v53 M w H hle hR
        replace hg_maxl := hg_maxl.mono hle
        replace hg_tabs := hg_tabs.mono hle
        replace hs50 := hs50.mono hle
        replace hs52 := hs52.mono hle
        try dsimp only at hR
        obtain rfl := hR
        refine AS rfl rfl (WR.store [_, _] H rfl rfl rfl (by repeat first | exact .head | apply Upd.tail) Tryz.sizeOf24 rfl (by rfl) (by rfl) (Wn.none rfl) ?_)
        intro w H
        refine NA (WA.done (by kernel_rfl) ?_)
        exact WQ.meetP [(2, _), (3, _)] ⟨rfl, rfl, trivial⟩ ⟨_, rfl, (H.pick (L' := [.blk b3 (.cells #[I n55, I n56] 24), .blk Dm28 (.deferred (some []))]) (by repeat (first | exact Pick.nil | refine Pick.cons (by repeat first | exact .head | apply Rem.tail) ?_))), hg_maxl, hg_tabs⟩
       ·
        refine WR.call H (words_word_ct hx50) rfl ⟨hg_maxl, hg_tabs⟩ (Wn.none rfl) rfl ?_
        intro v49 M w H hle hR
        replace hg_maxl := hg_maxl.mono hle
        replace hg_tabs := hg_tabs.mono hle
        obtain rfl := hR
        refine NA ?_
        refine WA.two (i := 0) (j := 4) (by kernel_rfl) rfl rfl ?_ ?_
        ·
         refine ST (Ex.load1 H rfl (by repeat (first | exact List.Mem.head _ | apply List.Mem.tail)) Tryz.isAgg43 (by rfl)) rfl ?_
         refine NA (WA.seq (fuel := 0) [4, 5, 6, 7, 8, 9] rfl (by kernel_rfl) (WR.lit (enc := encS) xty43 ([s49] : List (List UInt8)) H rfl (by rfl) (fun _ => rfl) rfl rfl (Wn.none rfl) rfl ?_))
         intro v50 M w H hle hs50
         replace hg_maxl := hg_maxl.mono hle
         replace hg_tabs := hg_tabs.mono hle
         refine WR.appC (l := l25) xty43 rfl (fun _ => rfl) H rfl (fun _ => by repeat first | exact .head | apply Upd.tail) rfl (hs50) hxl51 (Wn.none rfl) rfl ?_
         intro v51 w H
         obtain ⟨M, hle, hs52, H⟩ := H.freezeRow (v := v51) (enc := encS) (t := 9) (by repeat first | exact .head | apply Rem.tail)
         replace hg_maxl := hg_maxl.mono hle
         replace hg_tabs := hg_tabs.mono hle
         replace hs50 := hs50.mono hle
         refine WR.call H (strings_Join_ct hx54) rfl (hs52) (Wn.none rfl) rfl ?_
         intro v52 M w H hle hR
         replace hg_maxl := hg_maxl.mono hle
         replace hg_tabs := hg_tabs.mono hle
         replace hs50 := hs50.mono hle
         replace hs52 := hs52.mono hle
         obtain rfl := hR
         refine WR.call H (basic_None_ct hx57) rfl trivial (Wn.none rfl) rfl ?_
         intro v53 M w H hle hR
         replace hg_maxl := hg_maxl.mono hle
         replace hg_tabs := hg_tabs.mono hle
         replace hs50 := hs50.mono hle
         replace hs52 := hs52.mono hle
         try dsimp only at hR
         obtain rfl := hR
         refine AS rfl rfl (WR.store [_, _] H rfl rfl rfl (by repeat first | exact .head | apply Upd.tail) Tryz.sizeOf24 rfl (by rfl) (by rfl) (Wn.none rfl) ?_)
         intro w H
         refine NA (WA.done (by kernel_rfl) ?_)
         exact WQ.meetP [(2, _), (3, _)] ⟨rfl, rfl, trivial⟩ ⟨_, rfl, (H.pick (L' := [.blk b3 (.cells #[I n55, I n56] 24), .blk Dm28 (.deferred (some []))]) (by repeat (first | exact Pick.nil | refine Pick.cons (by repeat first | exact .head | apply Rem.tail) ?_))), hg_maxl, hg_tabs⟩
        ·
         refine WR.lit (enc := encS) xty43 ([s49] : List (List UInt8)) H rfl (by rfl) (fun _ => rfl) rfl rfl (Wn.none rfl) rfl ?_
         intro v50 M w H hle hs50
         replace hg_maxl := hg_maxl.mono hle
         replace hg_tabs := hg_tabs.mono hle
         refine NA (WA.seq (fuel := 0) [0, 5, 6, 7, 8, 9] rfl (by kernel_rfl) (ST (Ex.load1 H rfl (by repeat (first | exact List.Mem.head _ | apply List.Mem.tail)) Tryz.isAgg43 (by rfl)) rfl ?_))
         refine WR.appC (l := l25) xty43 rfl (fun _ => rfl) H rfl (fun _ => by repeat first | exact .head | apply Upd.tail) rfl (hs50) hxl51 (Wn.none rfl) rfl ?_
         intro v51 w H
         obtain ⟨M, hle, hs52, H⟩ := H.freezeRow (v := v51) (enc := encS) (t := 9) (by repeat first | exact .head | apply Rem.tail)
         replace hg_maxl := hg_maxl.mono hle
         replace hg_tabs := hg_tabs.mono hle
         replace hs50 := hs50.mono hle
         refine WR.call H (strings_Join_ct hx54) rfl (hs52) (Wn.none rfl) rfl ?_
         intro v52 M w H hle hR
         replace hg_maxl := hg_maxl.mono hle
         replace hg_tabs := hg_tabs.mono hle
         replace hs50 := hs50.mono hle
         replace hs52 := hs52.mono hle
         obtain rfl := hR
         refine WR.call H (basic_None_ct hx57) rfl trivial (Wn.none rfl) rfl ?_
         intro v53 M w H hle hR
         replace hg_maxl := hg_maxl.mono hle
         replace hg_tabs := hg_tabs.mono hle
         replace hs50 := hs50.mono hle
         replace hs52 := hs52.mono hle
         try dsimp only at hR
         obtain rfl := hR
         refine AS rfl rfl (WR.store [_, _] H rfl rfl rfl (by repeat first | exact .head | apply Upd.tail) Tryz.sizeOf24 rfl (by rfl) (by rfl) (Wn.none rfl) ?_)
         intro w H
         refine NA (WA.done (by kernel_rfl) ?_)
         exact WQ.meetP [(2, _), (3, _)] ⟨rfl, rfl, trivial⟩ ⟨_, rfl, (H.pick (L' := [.blk b3 (.cells #[I n55, I n56] 24), .blk Dm28 (.deferred (some []))]) (by repeat (first | exact Pick.nil | refine Pick.cons (by repeat first | exact .head | apply Rem.tail) ?_))), hg_maxl, hg_tabs⟩
      ·
       rintro e w ⟨M, rfl, H, hg_maxl, hg_tabs⟩
       refine TN (RT ?_)
       obtain rfl := Option.some.inj h
       exact WQ.nret2 rfl H (by repeat first | exact .head | apply Rem.tail) (fun w H => ⟨rfl, ⟨_, rfl, H.loadAgg (by repeat (first | exact List.Mem.head _ | apply List.Mem.tail)) Tryz.isAgg24 Tryz.sizeOf24 (by rfl)⟩⟩) rfl
     ·
      intro Dm w M L c H hle hE; cases hE
theorem basic_Hex_ct {p0 : UInt8} {r : (UInt8 × Bool)} (h : basic_Hex p0 = some r) : Ct Tryz.prog 168 [encB p0] (fun M => True) (fun v M => v = Value.tuple #[encB r.1, Value.bool r.2]) := by
  refine Ct.of Tryz.func168 (enters Tryz.func168 (by kernel_rfl) rfl) rfl rfl rfl ?_
  intro w0 M0 H hp
  unfold basic_Hex at h
  refine SQ (RG (AS rfl rfl (AS rfl rfl (NL (TN (SQ (BL (SQ ?_))))))))
  obtain ⟨o1, e2, h⟩ := bnd h
  refine WC.cutX (fun e w => ∃ (b3 : Bool) (M : Mem), e = [(0, encB p0), (4, Value.bool b3)] ∧ St w0 M0 M [] w ∧ some b3 = some o1) [] ?_ ?_ (trivial)
  ·
   by_cases hk4 : 48 ≤ p0.toNat
   ·
    rw [if_pos hk4] at e2
    refine RG (MV rfl rfl (WR.stepE (v' := .bool true) (Ex.geqB (i := p0.toNat) (j := 48) rfl rfl) (congrArg Value.bool (decide_eq_true hk4)) (Wn.none rfl) rfl rfl (MV rfl rfl (SG (Ex.move rfl) rfl rfl rfl (SG (Ex.leqB (i := p0.toNat) (j := 57) rfl rfl) rfl rfl rfl (PT rfl rfl rfl (AS rfl rfl (NL ?_))))))))
    exact WQ.meetN [(0, _), (4, _)] ⟨rfl, rfl, trivial⟩ ⟨_, _, rfl, H, e2⟩
   ·
    rw [if_neg hk4] at e2
    refine RG (MV rfl rfl (WR.stepE (v' := .bool false) (Ex.geqB (i := p0.toNat) (j := 48) rfl rfl) (congrArg Value.bool (decide_eq_false hk4)) (Wn.none rfl) rfl rfl (MV rfl rfl (GF rfl rfl rfl (GF rfl rfl rfl (PF rfl rfl rfl (AS rfl rfl (NL ?_))))))))
    exact WQ.meetN [(0, _), (4, _)] ⟨rfl, rfl, trivial⟩ ⟨_, _, rfl, H, e2⟩
  ·
   rintro e w ⟨b3, M, rfl, H, q5⟩
   obtain rfl := Option.some.inj q5
   refine TN ?_
   refine WC.condB rfl (fun hk6 => ?_) (fun hk6 => ?_)
   ·
    subst hk6
    rw [if_pos rfl] at h
    refine SQ (RG (MV rfl rfl (ST (Ex.subB (c := p0) (d := 48) rfl rfl) rfl (AS rfl rfl (AS rfl rfl (NL (TN (RT ?_))))))))
    obtain rfl := Option.some.inj h
    exact WQ.ret2 rfl rfl rfl H.ext rfl
   ·
    subst hk6
    rw [if_neg Bool.false_ne_true] at h
    refine SQ ?_
    obtain ⟨o7, e8, h⟩ := bnd h
    refine WC.cutX (fun e w => ∃ (b9 : Bool) (M : Mem), e = [(0, encB p0), (13, Value.bool b9)] ∧ St w0 M0 M [] w ∧ some b9 = some o7) [] ?_ ?_ (trivial)
    ·
     by_cases hk10 : 65 ≤ p0.toNat
     ·
      rw [if_pos hk10] at e8
      refine RG (MV rfl rfl (WR.stepE (v' := .bool true) (Ex.geqB (i := p0.toNat) (j := 65) rfl rfl) (congrArg Value.bool (decide_eq_true hk10)) (Wn.none rfl) rfl rfl (MV rfl rfl (SG (Ex.move rfl) rfl rfl rfl (SG (Ex.leqB (i := p0.toNat) (j := 70) rfl rfl) rfl rfl rfl (PT rfl rfl rfl (AS rfl rfl (NL ?_))))))))
      exact WQ.meetN [(0, _), (13, _)] ⟨rfl, rfl, trivial⟩ ⟨_, _, rfl, H, e8⟩
     ·
      rw [if_neg hk10] at e8
      refine RG (MV rfl rfl (WR.stepE (v' := .bool false) (Ex.geqB (i := p0.toNat) (j := 65) rfl rfl) (congrArg Value.bool (decide_eq_false hk10)) (Wn.none rfl) rfl rfl (MV rfl rfl (GF rfl rfl rfl (GF rfl rfl rfl (PF rfl rfl rfl (AS rfl rfl (NL ?_))))))))
      exact WQ.meetN [(0, _), (13, _)] ⟨rfl, rfl, trivial⟩ ⟨_, _, rfl, H, e8⟩
    ·
     rintro e w ⟨b9, M, rfl, H, q11⟩
     obtain rfl := Option.some.inj q11
     refine TN ?_
     refine WC.condB rfl (fun hk12 => ?_) (fun hk12 => ?_)
     ·
      subst hk12
      rw [if_pos rfl] at h
      refine SQ (RG (MV rfl rfl (ST (Ex.subB (c := p0) (d := 65) rfl rfl) rfl (ST (Ex.addB (c := (p0 - (65 : UInt8))) (d := 10) rfl rfl) rfl (AS rfl rfl (AS rfl rfl (NL (TN (RT ?_)))))))))
      obtain rfl := Option.some.inj h
      exact WQ.ret2 rfl rfl rfl H.ext rfl
     ·
      subst hk12
      rw [if_neg Bool.false_ne_true] at h
      refine SQ ?_
      obtain ⟨o13, e14, h⟩ := bnd h
      refine WC.cutX (fun e w => ∃ (b15 : Bool) (M : Mem), e = [(0, encB p0), (23, Value.bool b15)] ∧ St w0 M0 M [] w ∧ some b15 = some o13) [] ?_ ?_ (trivial)
      ·
       by_cases hk16 : 97 ≤ p0.toNat
       ·
        rw [if_pos hk16] at e14
        refine RG (MV rfl rfl (WR.stepE (v' := .bool true) (Ex.geqB (i := p0.toNat) (j := 97) rfl rfl) (congrArg Value.bool (decide_eq_true hk16)) (Wn.none rfl) rfl rfl (MV rfl rfl (SG (Ex.move rfl) rfl rfl rfl (SG (Ex.leqB (i := p0.toNat) (j := 102) rfl rfl) rfl rfl rfl (PT rfl rfl rfl (AS rfl rfl (NL ?_))))))))
        exact WQ.meetN [(0, _), (23, _)] ⟨rfl, rfl, trivial⟩ ⟨_, _, rfl, H, e14⟩
       ·
        rw [if_neg hk16] at e14
        refine RG (MV rfl rfl (WR.stepE (v' := .bool false) (Ex.geqB (i := p0.toNat) (j := 97) rfl rfl) (congrArg Value.bool (decide_eq_false hk16)) (Wn.none rfl) rfl rfl (MV rfl rfl (GF rfl rfl rfl (GF rfl rfl rfl (PF rfl rfl rfl (AS rfl rfl (NL ?_))))))))
        exact WQ.meetN [(0, _), (23, _)] ⟨rfl, rfl, trivial⟩ ⟨_, _, rfl, H, e14⟩
      ·
       rintro e w ⟨b15, M, rfl, H, q17⟩
       obtain rfl := Option.some.inj q17
       refine TN ?_
       refine WC.condB rfl (fun hk18 => ?_) (fun hk18 => ?_)
       ·
        subst hk18
        rw [if_pos rfl] at h
        refine SQ (RG (MV rfl rfl (ST (Ex.subB (c := p0) (d := 97) rfl rfl) rfl (ST (Ex.addB (c := (p0 - (97 : UInt8))) (d := 10) rfl rfl) rfl (AS rfl rfl (AS rfl rfl (NL (TN (RT ?_)))))))))
        obtain rfl := Option.some.inj h
        exact WQ.ret2 rfl rfl rfl H.ext rfl
       ·
        subst hk18
        rw [if_neg Bool.false_ne_true] at h
        refine SK (IB (TN (SQ (RG (AS rfl rfl (AS rfl rfl (NL (TN (RT ?_)))))))))
        obtain rfl := Option.some.inj h
        exact WQ.ret2 rfl rfl rfl H.ext rfl
theorem basic_Pair_ct {p0 : List UInt8} {r : (UInt8 × Bool)} (h : basic_Pair p0 = some r) : Ct Tryz.prog 139 [S p0] (fun M => True) (fun v M => v = Value.tuple #[encB r.1, Value.bool r.2]) := by
  refine Ct.of Tryz.func139 (enters Tryz.func139 (by kernel_rfl) rfl) rfl rfl rfl ?_
  intro w0 M0 H hp
  unfold basic_Pair at h
  refine SQ (RG (AS rfl rfl (AS rfl rfl (NL (TN (SQ (SQ (RG (MV rfl rfl (ST (Ex.lenStr Tryz.underlying9 rfl) rfl (ST (Ex.lss rfl rfl) rfl (NL (TN ?_)))))))))))))
  refine WC.condB rfl (fun hk1 => ?_) (fun hk1 => ?_)
  ·
   replace hk1 : (p0.length : Int) < (2 : Int) := of_decide_eq_true hk1
   rw [if_pos hk1] at h
   refine SQ (RG (AS rfl rfl (AS rfl rfl (NL (TN (RT ?_))))))
   obtain rfl := Option.some.inj h
   exact WQ.ret2 rfl rfl rfl H.ext rfl
  ·
   replace hk1 : ¬ ((p0.length : Int) < (2 : Int)) := of_decide_eq_false hk1
   rw [if_neg hk1] at h
   refine SK (TN (SQ ?_))
   obtain ⟨c2, hxc2, h⟩ := bnd h
   obtain ⟨⟨c3, b4⟩, hx5, h⟩ := bnd h
   try dsimp only at h
   refine RG (MV rfl rfl (ST (Ex.idxStrC Tryz.underlying9 rfl rfl hxc2) rfl (WR.call H (basic_Hex_ct hx5) rfl trivial (Wn.none rfl) rfl ?_)))
   intro v14 M w H hle hR
   try dsimp only at hR
   obtain rfl := hR
   refine MV rfl rfl (ST (Ex.extract rfl rfl) rfl (ST (Ex.extract rfl rfl) rfl (AS rfl rfl (AS rfl rfl (NL (TN (SQ ?_)))))))
   obtain ⟨c6, hxc6, h⟩ := bnd h
   obtain ⟨⟨c7, b8⟩, hx9, h⟩ := bnd h
   try dsimp only at h
   refine RG (MV rfl rfl (ST (Ex.idxStrC Tryz.underlying9 rfl rfl hxc6) rfl (WR.call H (basic_Hex_ct hx9) rfl trivial (Wn.none rfl) rfl ?_)))
   intro v20 M w H hle hR
   try dsimp only at hR
   obtain rfl := hR
   refine MV rfl rfl (ST (Ex.extract rfl rfl) rfl (ST (Ex.extract rfl rfl) rfl (AS rfl rfl (AS rfl rfl (NL (TN (SQ ?_)))))))
   obtain ⟨o10, e11, h⟩ := bnd h
   refine WC.cutX (fun e w => ∃ (c12 : UInt8) (b13 : Bool) (M : Mem), e = [(2, encB c12), (3, Value.bool b13)] ∧ St w0 M0 M [] w ∧ some (c12, b13) = some o10) [] ?_ ?_ (trivial)
   ·
    refine RG (MV rfl rfl (ST (Ex.shlB (c := c3) (m := 4) rfl rfl (by decide)) rfl (MV rfl rfl (ST (Ex.orB (c := (UInt8.ofNat (c3.toNat * 2 ^ 4))) (d := c7) rfl rfl) rfl (MV rfl rfl (MV rfl rfl ?_))))))
    rcases b4 with _ | _
    ·
     rw [if_neg Bool.false_ne_true] at e11
     refine GF rfl rfl rfl (PF rfl rfl rfl (AS rfl rfl (AS rfl rfl (NL ?_))))
     exact WQ.meetN [(2, _), (3, _)] ⟨rfl, rfl, trivial⟩ ⟨_, _, _, rfl, H, e11⟩
    ·
     rw [if_pos rfl] at e11
     refine SG (Ex.move rfl) rfl rfl rfl (PT rfl rfl rfl (AS rfl rfl (AS rfl rfl (NL ?_))))
     exact WQ.meetN [(2, _), (3, _)] ⟨rfl, rfl, trivial⟩ ⟨_, _, _, rfl, H, e11⟩
   ·
    rintro e w ⟨c12, b13, M, rfl, H, q14⟩
    obtain rfl := Option.some.inj q14
    try dsimp only at h
    refine TN (RT ?_)
    obtain rfl := Option.some.inj h
    exact WQ.ret2 rfl rfl rfl H.ext rfl
theorem words_bytesOf_ct {p0 : List UInt8} {p1 : List UInt8} {r : (List UInt8 × Bool)} (h : words_bytesOf p0 p1 = some r) : Ct Tryz.prog 96 [S p0, S p1] (fun M => GlF (fun w => ∃ m, w.cell? ⟨2, 0, none⟩ = some (.int .i64 m)) M) (fun v M => ∃ x0, v = Value.tuple #[x0, Value.bool r.2] ∧ Sl M encB x0 r.1) := by
  refine Ct.of Tryz.func96 (enters Tryz.func96 (by kernel_rfl) rfl) rfl rfl rfl ?_
  intro w0 M0 H hp
  have hg_maxl := hp
  unfold words_bytesOf at h
  refine SQ (RG (AS rfl rfl (AS rfl rfl (NL (TN (SQ (SQ (RG (MV rfl rfl (NL (TN (BL (SQ (SQ (RG (ST (Ex.strEql rfl rfl) rfl (AS rfl rfl (NL (TN ?_)))))))))))))))))))
  obtain ⟨o1, e2, h⟩ := bnd h
  refine WC.cutX (fun e w => ∃ (b3 : Bool) (M : Mem), e = [(1, S p1), (12, S p0), (13, Value.bool b3)] ∧ St w0 M0 M [] w ∧ GlF (fun w => ∃ m, w.cell? ⟨2, 0, none⟩ = some (.int .i64 m)) M ∧ some b3 = some o1) [] ?_ ?_ (trivial)
  ·
   refine WC.condB rfl (fun hk4 => ?_) (fun hk4 => ?_)
   ·
    replace hk4 : p0 = [66] := of_decide_eq_true hk4
    rw [if_pos hk4] at e2
    refine SK ?_
    exact WQ.meetN [(1, _), (12, _), (13, _)] ⟨rfl, rfl, rfl, trivial⟩ ⟨_, _, rfl, H, hg_maxl, e2⟩
   ·
    replace hk4 : ¬ (p0 = [66]) := of_decide_eq_false hk4
    rw [if_neg hk4] at e2
    refine RG (ST (Ex.strEql rfl rfl) rfl (AS rfl rfl (NL ?_)))
    exact WQ.meetN [(1, _), (12, _), (13, _)] ⟨rfl, rfl, rfl, trivial⟩ ⟨_, _, rfl, H, hg_maxl, e2⟩
  ·
   rintro e w ⟨b3, M, rfl, H, hg_maxl, q5⟩
   obtain rfl := Option.some.inj q5
   refine TN ?_
   refine WC.condB rfl (fun hk6 => ?_) (fun hk6 => ?_)
   ·
    subst hk6
    rw [if_pos rfl] at h
    refine SQ ?_
    obtain ⟨l7, hxl7, h⟩ := bnd h
    obtain ⟨⟨l8, ⟨n9, n10⟩⟩, hx11, h⟩ := bnd h
    try dsimp only at h
    refine RG (MV rfl rfl (WR.bytesC H Tryz.underlying9 Tryz.underlying30 Tryz.underlying5 rfl hxl7 (Wn.none rfl) rfl ?_))
    intro v18 M w H hle hs18
    replace hg_maxl := hg_maxl.mono hle
    refine WR.call H (base64_Lenient_ct hx11) rfl (hs18) (Wn.none rfl) rfl ?_
    intro v19 M w H hle hR
    replace hg_maxl := hg_maxl.mono hle
    replace hs18 := hs18.mono hle
    try dsimp only at hR
    obtain ⟨x19_0, rfl, f19_0⟩ := hR
    refine MV rfl rfl (ST (Ex.extract rfl rfl) rfl (ST (Ex.extract rfl rfl) rfl (WR.alloc [_, _] H Tryz.zeroValue24 rfl (Wn.none rfl) rfl ?_)))
    intro b7 w H
    refine AS rfl rfl (WR.store [_, _] H rfl rfl rfl (by repeat first | exact .head | apply Upd.tail) Tryz.sizeOf24 rfl (by rfl) (by rfl) (Wn.none rfl) ?_)
    intro w H
    refine NL (TN (SQ ?_))
    obtain ⟨s12, hx13, h⟩ := bnd h
    refine RG (MV rfl rfl (MV rfl rfl (WR.call H (words_flat_ct hx13) rfl ⟨hg_maxl, f19_0⟩ (Wn.none rfl) rfl ?_)))
    intro v24 M w H hle hR
    replace hg_maxl := hg_maxl.mono hle
    replace hs18 := hs18.mono hle
    replace f19_0 := f19_0.mono hle
    obtain rfl := hR
    refine MV rfl rfl (ST (Ex.strEql rfl rfl) rfl (AS rfl rfl (AS rfl rfl (NL (TN (RT ?_))))))
    obtain rfl := Option.some.inj h
    exact WQ.ret2 rfl rfl rfl H.ext (⟨_, rfl, f19_0⟩)
   ·
    subst hk6
    rw [if_neg Bool.false_ne_true] at h
    refine SQ (SQ (RG (ST (Ex.strEql rfl rfl) rfl (AS rfl rfl (NL (TN ?_))))))
    obtain ⟨o14, e15, h⟩ := bnd h
    refine WC.cutX (fun e w => ∃ (b16 : Bool) (M : Mem), e = [(1, S p1), (27, Value.bool b16)] ∧ St w0 M0 M [] w ∧ GlF (fun w => ∃ m, w.cell? ⟨2, 0, none⟩ = some (.int .i64 m)) M ∧ some b16 = some o14) [] ?_ ?_ (trivial)
    ·
     refine WC.condB rfl (fun hk17 => ?_) (fun hk17 => ?_)
     ·
      replace hk17 : p0 = [81] := of_decide_eq_true hk17
      rw [if_pos hk17] at e15
      refine SK ?_
      exact WQ.meetN [(1, _), (27, _)] ⟨rfl, rfl, trivial⟩ ⟨_, _, rfl, H, hg_maxl, e15⟩
     ·
      replace hk17 : ¬ (p0 = [81]) := of_decide_eq_false hk17
      rw [if_neg hk17] at e15
      refine RG (ST (Ex.strEql rfl rfl) rfl (AS rfl rfl (NL ?_)))
      exact WQ.meetN [(1, _), (27, _)] ⟨rfl, rfl, trivial⟩ ⟨_, _, rfl, H, hg_maxl, e15⟩
    ·
     rintro e w ⟨b16, M, rfl, H, hg_maxl, q18⟩
     obtain rfl := Option.some.inj q18
     refine TN ?_
     refine WC.condB rfl (fun hk19 => ?_) (fun hk19 => ?_)
     ·
      subst hk19
      rw [if_pos rfl] at h
      refine SQ (RG (AS rfl rfl (NL (TN (SQ (SQ (RG (AS rfl rfl (NL (TN ?_))))))))))
      obtain ⟨o20, e21, h⟩ := bnd h
      refine WC.cutX (fun e w => ∃ (l23 : List UInt8) (v24 : Value) (M : Mem), e = [(8, v24)] ∧ St w0 M0 M [RowI 5 encB v24 l23] w ∧ GlF (fun w => ∃ m, w.cell? ⟨2, 0, none⟩ = some (.int .i64 m)) M ∧ some (.inl l23) = some o20) [] ?_ ?_ (trivial)
      ·
       refine BL ?_
       replace H := H.newRow 5 encB
       refine WC.loopP (fun m e w => ∃ (l26 : List UInt8) (v27 : Value) (n28 : Int) (M : Mem), e = [(1, S p1), (8, v27), (9, I n28)] ∧ St w0 M0 M [RowI 5 encB v27 l26] w ∧ GlF (fun w => ∃ m, w.cell? ⟨2, 0, none⟩ = some (.int .i64 m)) M ∧ words_bytesOf_L1 p1 m l26 n28 = some o20) FU [(1, _), (8, _), (9, _)] ⟨rfl, rfl, rfl, trivial⟩ ⟨_, _, _, _, rfl, H, hg_maxl, e21⟩ ?_
       rintro m29 e w ⟨l26, v27, n28, M, rfl, H, hg_maxl, e21⟩
       rcases m29 with _ | m29
       · rw [words_bytesOf_L1] at e21; cases e21
       rw [words_bytesOf_L1] at e21
       refine SQ (SQ (RG (MV rfl rfl (MV rfl rfl (ST (Ex.lenStr Tryz.underlying9 rfl) rfl (ST (Ex.lss rfl rfl) rfl (NL (TN ?_))))))))
       refine WC.condB rfl (fun hk31 => ?_) (fun hk31 => ?_)
       ·
        replace hk31 : n28 < (p1.length : Int) := of_decide_eq_true hk31
        rw [if_pos hk31] at e21
        refine SK (TN (SQ (BL (BL (SQ ?_)))))
        obtain ⟨c32, hxc32, e21⟩ := bnd e21
        refine RG (MV rfl rfl (MV rfl rfl (ST (Ex.idxStrC Tryz.underlying9 rfl rfl hxc32) rfl (ST (Ex.eqlB (c := c32) (d := 95) rfl rfl) rfl (AS rfl rfl (NL (TN ?_)))))))
        refine WC.condB rfl (fun hk33 => ?_) (fun hk33 => ?_)
        ·
         replace hk33 : c32 = 95 := of_decide_eq_true hk33
         rw [if_pos hk33] at e21
         obtain ⟨l34, hxl34, e21⟩ := bnd e21
         refine RG (MV rfl rfl (WR.lit (enc := encB) xty30 ([32] : List UInt8) H rfl (by rfl) (fun _ => rfl) rfl rfl (Wn.none rfl) rfl ?_))
         intro v42 M w H hle hs42
         replace hg_maxl := hg_maxl.mono hle
         refine WR.appC (l := l26) xty30 rfl (fun _ => rfl) H rfl (fun _ => by repeat first | exact .head | apply Upd.tail) rfl (hs42) hxl34 (Wn.none rfl) rfl ?_
         intro v43 w H
         refine AS rfl rfl (NL (IB (IB (TN ?_))))
         obtain ⟨n35, hxn35, e21⟩ := bnd e21
         refine RG (MV rfl rfl (ST (Ex.addC rfl rfl hxn35) rfl (AS rfl rfl (NL ?_))))
         exact WQ.againP m29 [(1, _), (8, _), (9, _)] ⟨rfl, rfl, rfl, trivial⟩ ⟨_, _, _, _, rfl, H, hg_maxl, e21⟩ (Nat.lt_succ_self _)
        ·
         replace hk33 : ¬ (c32 = 95) := of_decide_eq_false hk33
         rw [if_neg hk33] at e21
         refine SQ ?_
         obtain ⟨c36, hxc36, e21⟩ := bnd e21
         refine RG (MV rfl rfl (MV rfl rfl (ST (Ex.idxStrC Tryz.underlying9 rfl rfl hxc36) rfl (ST (Ex.eqlB (c := c36) (d := 61) rfl rfl) rfl (AS rfl rfl (NL (TN ?_)))))))
         refine WC.condB rfl (fun hk37 => ?_) (fun hk37 => ?_)
         ·
          replace hk37 : c36 = 61 := of_decide_eq_true hk37
          rw [if_pos hk37] at e21
          refine SQ ?_
          obtain ⟨n38, hxn38, e21⟩ := bnd e21
          obtain ⟨s39, hxs39, e21⟩ := bnd e21
          obtain ⟨⟨c40, b41⟩, hx42, e21⟩ := bnd e21
          try dsimp only at e21
          refine RG (MV rfl rfl (MV rfl rfl (ST (Ex.addC rfl rfl hxn38) rfl (ST (Ex.sliceL Tryz.underlying9 rfl rfl hxs39) rfl (WR.call H (basic_Pair_ct hx42) rfl trivial (Wn.none rfl) rfl ?_)))))
          intro v54 M w H hle hR
          replace hg_maxl := hg_maxl.mono hle
          try dsimp only at hR
          obtain rfl := hR
          refine MV rfl rfl (ST (Ex.extract rfl rfl) rfl (ST (Ex.extract rfl rfl) rfl (AS rfl rfl (AS rfl rfl (NL (TN (SQ (SQ (RG (MV rfl rfl (ST (Ex.not rfl) rfl (NL (TN ?_)))))))))))))
          refine WC.condB rfl (fun hk43 => ?_) (fun hk43 => ?_)
          ·
           replace hk43 : b41 = false := by simpa using hk43
           subst hk43
           rw [if_neg Bool.false_ne_true] at e21
           refine SQ (RG (AS rfl rfl (AS rfl rfl (NL (TN (RT ?_))))))
           obtain rfl := Option.some.inj e21
           try dsimp only at h
           obtain rfl := Option.some.inj h
           exact WQ.ret2 rfl rfl rfl H.ext (⟨_, rfl, Sl.nil _ _⟩)
          ·
           replace hk43 : b41 = true := by simpa using hk43
           subst hk43
           rw [if_pos rfl] at e21
           refine SK (TN (SQ ?_))
           obtain ⟨l44, hxl44, e21⟩ := bnd e21
           refine RG (MV rfl rfl (MV rfl rfl (WR.lit (enc := encB) xty30 ([c40] : List UInt8) H rfl (by rfl) (fun _ => rfl) rfl rfl (Wn.none rfl) rfl ?_)))
           intro v61 M w H hle hs61
           replace hg_maxl := hg_maxl.mono hle
           refine WR.appC (l := l26) xty30 rfl (fun _ => rfl) H rfl (fun _ => by repeat first | exact .head | apply Upd.tail) rfl (hs61) hxl44 (Wn.none rfl) rfl ?_
           intro v62 w H
           refine AS rfl rfl (NL (TN ?_))
           obtain ⟨n45, hxn45, e21⟩ := bnd e21
           refine RG (MV rfl rfl (ST (Ex.addC rfl rfl hxn45) rfl (AS rfl rfl (NL (IB (IB (TN ?_)))))))
           obtain ⟨n46, hxn46, e21⟩ := bnd e21
           refine RG (MV rfl rfl (ST (Ex.addC rfl rfl hxn46) rfl (AS rfl rfl (NL ?_))))
           exact WQ.againP m29 [(1, _), (8, _), (9, _)] ⟨rfl, rfl, rfl, trivial⟩ ⟨_, _, _, _, rfl, H, hg_maxl, e21⟩ (Nat.lt_succ_self _)
         ·
          replace hk37 : ¬ (c36 = 61) := of_decide_eq_false hk37
          rw [if_neg hk37] at e21
          refine SQ ?_
          obtain ⟨o47, e48, e21⟩ := bnd e21
          refine WC.cutX (fun e w => ∃ (b49 : Bool) (M : Mem), e = [(1, S p1), (8, v27), (9, I n28), (65, Value.bool b49)] ∧ St w0 M0 M [RowI 5 encB v27 l26] w ∧ GlF (fun w => ∃ m, w.cell? ⟨2, 0, none⟩ = some (.int .i64 m)) M ∧ some b49 = some o47) [] ?_ ?_ (trivial)
          ·
           obtain ⟨c50, hxc50, e48⟩ := bnd e48
           refine RG (MV rfl rfl (MV rfl rfl (ST (Ex.idxStrC Tryz.underlying9 rfl rfl hxc50) rfl ?_)))
           by_cases hk51 : 33 ≤ c50.toNat
           ·
            rw [if_pos hk51] at e48
            obtain ⟨c52, hxc52, e48⟩ := bnd e48
            refine WR.stepE (v' := .bool true) (Ex.geqB (i := c50.toNat) (j := 33) rfl rfl) (congrArg Value.bool (decide_eq_true hk51)) (Wn.none rfl) rfl rfl (MV rfl rfl (SG (Ex.move rfl) rfl rfl rfl (SG (Ex.move rfl) rfl rfl rfl (SG (Ex.idxStrC Tryz.underlying9 rfl rfl hxc52) rfl rfl rfl (SG (Ex.leqB (i := c52.toNat) (j := 126) rfl rfl) rfl rfl rfl (PT rfl rfl rfl (AS rfl rfl (NL ?_))))))))
            exact WQ.meetN [(1, _), (8, _), (9, _), (65, _)] ⟨rfl, rfl, rfl, rfl, trivial⟩ ⟨_, _, rfl, H, hg_maxl, e48⟩
           ·
            rw [if_neg hk51] at e48
            refine WR.stepE (v' := .bool false) (Ex.geqB (i := c50.toNat) (j := 33) rfl rfl) (congrArg Value.bool (decide_eq_false hk51)) (Wn.none rfl) rfl rfl (MV rfl rfl (WR.skipN 4 rfl rfl (PF rfl rfl rfl (AS rfl rfl (NL ?_)))))
            exact WQ.meetN [(1, _), (8, _), (9, _), (65, _)] ⟨rfl, rfl, rfl, rfl, trivial⟩ ⟨_, _, rfl, H, hg_maxl, e48⟩
          ·
           rintro e w ⟨b49, M, rfl, H, hg_maxl, q53⟩
           obtain rfl := Option.some.inj q53
           refine TN ?_
           refine WC.condB rfl (fun hk54 => ?_) (fun hk54 => ?_)
           ·
            subst hk54
            rw [if_pos rfl] at e21
            obtain ⟨c55, hxc55, e21⟩ := bnd e21
            obtain ⟨l56, hxl56, e21⟩ := bnd e21
            refine RG (MV rfl rfl (MV rfl rfl (MV rfl rfl (ST (Ex.idxStrC Tryz.underlying9 rfl rfl hxc55) rfl (WR.lit (enc := encB) xty30 ([c55] : List UInt8) H rfl (by rfl) (fun _ => rfl) rfl rfl (Wn.none rfl) rfl ?_)))))
            intro v80 M w H hle hs80
            replace hg_maxl := hg_maxl.mono hle
            refine WR.appC (l := l26) xty30 rfl (fun _ => rfl) H rfl (fun _ => by repeat first | exact .head | apply Upd.tail) rfl (hs80) hxl56 (Wn.none rfl) rfl ?_
            intro v81 w H
            refine AS rfl rfl (NL (IB (IB (TN ?_))))
            obtain ⟨n57, hxn57, e21⟩ := bnd e21
            refine RG (MV rfl rfl (ST (Ex.addC rfl rfl hxn57) rfl (AS rfl rfl (NL ?_))))
            exact WQ.againP m29 [(1, _), (8, _), (9, _)] ⟨rfl, rfl, rfl, trivial⟩ ⟨_, _, _, _, rfl, H, hg_maxl, e21⟩ (Nat.lt_succ_self _)
           ·
            subst hk54
            rw [if_neg Bool.false_ne_true] at e21
            refine SQ (RG (AS rfl rfl (AS rfl rfl (NL (TN (RT ?_))))))
            obtain rfl := Option.some.inj e21
            try dsimp only at h
            obtain rfl := Option.some.inj h
            exact WQ.ret2 rfl rfl rfl H.ext (⟨_, rfl, Sl.nil _ _⟩)
       ·
        replace hk31 : ¬ (n28 < (p1.length : Int)) := of_decide_eq_false hk31
        rw [if_neg hk31] at e21
        refine WC.exit (WQ.thenExit (WQ.thenExit (WQ.exitHere ?_)))
        exact WQ.meetN [(8, _)] ⟨rfl, trivial⟩ ⟨_, _, _, rfl, H, hg_maxl, e21⟩
      ·
       rintro e w ⟨l23, v24, M, rfl, H, hg_maxl, q58⟩
       obtain rfl := Option.some.inj q58
       try dsimp only at h
       refine TN (SQ (RG (MV rfl rfl (AS rfl rfl (AS rfl rfl (NL (TN (RT ?_))))))))
       obtain ⟨M, hle, hs59, H⟩ := H.freezeRow (v := v24) (enc := encB) (t := 5) (by repeat first | exact .head | apply Rem.tail)
       replace hg_maxl := hg_maxl.mono hle
       obtain rfl := Option.some.inj h
       exact WQ.ret2 rfl rfl rfl H.ext (⟨_, rfl, hs59⟩)
     ·
      subst hk19
      rw [if_neg Bool.false_ne_true] at h
      refine SK (IB (TN (SQ (RG (AS rfl rfl (AS rfl rfl (NL (TN (RT ?_)))))))))
      obtain rfl := Option.some.inj h
      exact WQ.ret2 rfl rfl rfl H.ext (⟨_, rfl, Sl.nil _ _⟩)
theorem basic_Failed_ct {p0 : (Int × Int)} {r : Bool} (h : basic_Failed p0 = some r) : Ct Tryz.prog 64 [Value.agg #[I p0.1, I p0.2]] (fun M => True) (fun v M => v = Value.bool r) := by
  refine Ct.of Tryz.func64 (enters Tryz.func64 (by kernel_rfl) rfl) rfl rfl rfl ?_
  intro w0 M0 H hp
  unfold basic_Failed at h
  refine SQ (RG (WR.box [_, _] H rfl rfl (Wn.none rfl) rfl ?_))
  intro b1 w H
  refine AS rfl rfl (NL (TN (SQ (RG (ST (Ex.fieldAddr Tryz.underlying24 rfl Tryz.sizeOf3 (by decide) rfl) rfl (ST (Ex.load1 H rfl (by repeat (first | exact List.Mem.head _ | apply List.Mem.tail)) Tryz.isAgg3 (by rfl)) rfl ?_))))))
  refine ST (Ex.neqC rfl rfl) rfl (AS rfl rfl (NL (TN (RT ?_))))
  obtain rfl := Option.some.inj h
  exact WQ.ret1 rfl rfl H.ext rfl
end Go.Proofs.YtogkmhjnojphiaaGreatDoor
end
