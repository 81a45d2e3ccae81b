/-
  What the functions of base64 compute, in plain Lean. No program in sight.
-/
namespace Go.Ph.B64

def alpha : List UInt8 := [65, 66, 67, 68, 69, 70, 71, 72, 73, 74, 75, 76, 77, 78, 79, 80, 81, 82, 83, 84, 85, 86, 87, 88, 89, 90, 97, 98, 99, 100, 101, 102, 103, 104, 105, 106, 107, 108, 109, 110, 111, 112, 113, 114, 115, 116, 117, 118, 119, 120, 121, 122, 48, 49, 50, 51, 52, 53, 54, 55, 56, 57, 43, 47]
theorem alpha_len : alpha.length = 64 := rfl

/-- the first place of a byte in the alphabet, from a place on -/
def idx (c : UInt8) : Nat := alpha.idxOf c
def val64 (c : UInt8) : Int := if idx c < 64 then (idx c : Int) else -1
theorem val64_at (c : UInt8) (k : Nat) (hk : k < alpha.length) (h : alpha[k] = c) (hb : ∀ j, (hj : j < alpha.length) → j < k → alpha[j] ≠ c) : val64 c = (k : Int) := by
  have h1 : idx c = k := by
    unfold idx
    rw [List.idxOf, List.findIdx_eq hk]
    refine ⟨by simp [h], fun j hj => ?_⟩
    have := hb j (by omega) hj
    simpa using this
  rw [alpha_len] at hk
  simp [val64, h1, hk]
theorem val64_none (c : UInt8) (hb : ∀ j, (hj : j < alpha.length) → j < 64 → alpha[j] ≠ c) : val64 c = -1 := by
  have h : c ∉ alpha := by
    intro hm
    obtain ⟨j, hj, e⟩ := List.getElem_of_mem hm
    exact hb j hj (by rw [alpha_len] at hj; omega) e
  have h1 : idx c = 64 := by
    unfold idx
    rw [List.idxOf_eq_length h]; rfl
  simp [val64, h1]

/-- the bits of a byte, the highest first -/
def bits8 (u : Nat) : List Nat := [u / 128 % 2, u / 64 % 2, u / 32 % 2, u / 16 % 2, u / 8 % 2, u / 4 % 2, u / 2 % 2, u / 1 % 2]
def bits6 (u : Nat) : List Nat := [u / 32 % 2, u / 16 % 2, u / 8 % 2, u / 4 % 2, u / 2 % 2, u / 1 % 2]
def bitsOf (l : List UInt8) : List Nat := l.flatMap fun u => bits8 u.toNat
def sumN (l : List Nat) : Nat := l.foldl (fun n x => 2 * n + x) 0

theorem bits8_len (u : Nat) : (bits8 u).length = 8 := rfl
theorem bits8_at (u j : Nat) (hj : j < 8) : (bits8 u)[j]'(by rw [bits8_len]; exact hj) = u / 2 ^ (7 - j) % 2 := by
  match j, hj with
  | 0, _ => rfl
  | 1, _ => rfl
  | 2, _ => rfl
  | 3, _ => rfl
  | 4, _ => rfl
  | 5, _ => rfl
  | 6, _ => rfl
  | 7, _ => rfl
theorem bits6_len (u : Nat) : (bits6 u).length = 6 := rfl
theorem bits6_at (u j : Nat) (hj : j < 6) : (bits6 u)[j]'(by rw [bits6_len]; exact hj) = u / 2 ^ (5 - j) % 2 := by
  match j, hj with
  | 0, _ => rfl
  | 1, _ => rfl
  | 2, _ => rfl
  | 3, _ => rfl
  | 4, _ => rfl
  | 5, _ => rfl
theorem bitsOf_len (l : List UInt8) : (bitsOf l).length = 8 * l.length := by
  induction l with
  | nil => rfl
  | cons u l ih => simp only [bitsOf, List.flatMap_cons, List.length_append, bits8_len, List.length_cons] at ih ⊢; omega
theorem bitsOf_take (l : List UInt8) (k : Nat) (hk : k < l.length) : bitsOf (l.take (k + 1)) = bitsOf (l.take k) ++ bits8 (l[k]).toNat := by
  rw [List.take_succ_eq_append_getElem hk]
  unfold bitsOf
  rw [List.flatMap_append]
  simp only [List.flatMap_cons, List.flatMap_nil, List.append_nil]
theorem sumN_snoc (l : List Nat) (x : Nat) : sumN (l ++ [x]) = 2 * sumN l + x := by simp [sumN]
theorem sumN_acc (l : List Nat) (h : ∀ x ∈ l, x ≤ 1) : ∀ a, l.foldl (fun n x => 2 * n + x) a < (a + 1) * 2 ^ l.length := by
  induction l with
  | nil => intro a; simp
  | cons x l ih =>
    intro a
    have h1 := ih (fun y hy => h y (by simp [hy])) (2 * a + x)
    have h2 := h x (by simp)
    rw [List.foldl_cons, List.length_cons, Nat.pow_succ]
    refine Nat.lt_of_lt_of_le h1 ?_
    rw [Nat.mul_comm (2 ^ l.length) 2, ← Nat.mul_assoc]
    exact Nat.mul_le_mul_right _ (by omega)
theorem sumN_lt (l : List Nat) (h : ∀ x ∈ l, x ≤ 1) : sumN l < 2 ^ l.length := by
  have := sumN_acc l h 0
  simpa [sumN] using this
theorem bitsOf_next {l : List UInt8} {k : Nat} {u : UInt8} (hu : l[k]? = some u) : bitsOf (l.take (k + 1)) = bitsOf (l.take k) ++ bits8 u.toNat := by
  obtain ⟨hk, rfl⟩ := List.getElem?_eq_some_iff.1 hu
  exact bitsOf_take l k hk
theorem bits8_next (u j : Nat) (hj : j < 8) : (bits8 u).take (j + 1) = (bits8 u).take j ++ [u / 2 ^ (7 - j) % 2] := by
  rw [List.take_succ_eq_append_getElem (by rw [bits8_len]; exact hj), bits8_at u j hj]
theorem bits6_next (u j : Nat) (hj : j < 6) : (bits6 u).take (j + 1) = (bits6 u).take j ++ [u / 2 ^ (5 - j) % 2] := by
  rw [List.take_succ_eq_append_getElem (by rw [bits6_len]; exact hj), bits6_at u j hj]
/-! the reference's characters -/
def padBits (l : List UInt8) : List Nat := bitsOf l ++ List.replicate ((6 - 8 * l.length % 6) % 6) 0
theorem padBits_len (l : List UInt8) : (padBits l).length = 8 * l.length + (6 - 8 * l.length % 6) % 6 := by simp [padBits, bitsOf_len]
theorem bits8_le (u : Nat) : ∀ x ∈ bits8 u, x ≤ 1 := by
  intro x hx
  simp only [bits8, List.mem_cons, List.not_mem_nil, or_false] at hx
  omega
theorem bits6_le (u : Nat) : ∀ x ∈ bits6 u, x ≤ 1 := by
  intro x hx
  simp only [bits6, List.mem_cons, List.not_mem_nil, or_false] at hx
  omega
theorem bitsOf_le (l : List UInt8) : ∀ x ∈ bitsOf l, x ≤ 1 := by
  intro x hx
  obtain ⟨u, _, h⟩ := List.mem_flatMap.1 hx
  exact bits8_le _ x h
theorem padBits_le (l : List UInt8) : ∀ x ∈ padBits l, x ≤ 1 := by
  intro x hx
  rcases List.mem_append.1 hx with h | h
  · exact bitsOf_le l x h
  · rw [(List.mem_replicate.1 h).2]; omega
theorem part_le {l : List Nat} (h : ∀ x ∈ l, x ≤ 1) (i j : Nat) : ∀ x ∈ (l.take j).drop i, x ≤ 1 := fun x hx => h x (List.mem_of_mem_take (List.mem_of_mem_drop hx))
/-- the number at a place of six bits -/
def six (bits : List Nat) (q : Nat) : Nat := sumN ((bits.take (6 * q + 6)).drop (6 * q))
def eight (bits : List Nat) (q : Nat) : Nat := sumN ((bits.take (8 * q + 8)).drop (8 * q))
theorem six_lt {bits : List Nat} (h : ∀ x ∈ bits, x ≤ 1) (q : Nat) : six bits q < 64 := by
  have h1 := sumN_lt _ (part_le h (6 * q) (6 * q + 6))
  have h2 : 2 ^ ((bits.take (6 * q + 6)).drop (6 * q)).length ≤ 2 ^ 6 := Nat.pow_le_pow_right (by decide) (by simp only [List.length_drop, List.length_take]; omega)
  unfold six
  omega
theorem eight_lt {bits : List Nat} (h : ∀ x ∈ bits, x ≤ 1) (q : Nat) : eight bits q < 256 := by
  have h1 := sumN_lt _ (part_le h (8 * q) (8 * q + 8))
  have h2 : 2 ^ ((bits.take (8 * q + 8)).drop (8 * q)).length ≤ 2 ^ 8 := Nat.pow_le_pow_right (by decide) (by simp only [List.length_drop, List.length_take]; omega)
  unfold eight
  omega
def sext (bits : List Nat) : Nat → List UInt8
  | 0 => []
  | q + 1 => sext bits q ++ (alpha.take (six bits q + 1)).drop (six bits q)
theorem alpha_one (k : Nat) (h : k < 64) : (alpha.take (k + 1)).drop k = [alpha.getD k 0] := by
  have hk : k < alpha.length := by rw [alpha_len]; exact h
  rw [List.take_succ_eq_append_getElem hk, List.drop_append_of_le_length (by rw [List.length_take, alpha_len]; omega), List.drop_eq_nil_of_le (by rw [List.length_take]; omega)]
  simp [List.getD, hk]
theorem sext_len {bits : List Nat} (h : ∀ x ∈ bits, x ≤ 1) (q : Nat) : (sext bits q).length = q := by
  induction q with
  | zero => rfl
  | succ q ih => rw [sext, List.length_append, ih, alpha_one _ (six_lt h q)]; rfl
def chars64 (l : List UInt8) : List UInt8 :=
  let s := sext (padBits l) ((padBits l).length / 6)
  s ++ List.replicate ((4 - s.length % 4) % 4) 61

/-! lines -/
def wrapTo (cs : List UInt8) : Nat → List UInt8
  | 0 => []
  | m + 1 => wrapTo cs m ++ (cs.drop (76 * m)).take 76 ++ [13, 10]
def lines64 (cs : List UInt8) : List UInt8 := wrapTo cs ((cs.length - 1) / 76) ++ (if cs.drop (76 * ((cs.length - 1) / 76)) = [] then [] else cs.drop (76 * ((cs.length - 1) / 76)) ++ [13, 10])
theorem wrapTo_len (cs : List UInt8) (m : Nat) : (wrapTo cs m).length ≤ 78 * m := by
  induction m with
  | zero => simp [wrapTo]
  | succ m ih => simp only [wrapTo, List.length_append, List.length_take, List.length_drop, List.length_cons, List.length_nil]; omega

/-! the reference's lenient decoding -/
def vb (c : UInt8) : List Nat := if val64 c < 0 then [] else bits6 (val64 c).toNat
def vbits (l : List UInt8) : List Nat := l.flatMap vb
theorem vbits_next {l : List UInt8} {k : Nat} {u : UInt8} (hu : l[k]? = some u) : vbits (l.take (k + 1)) = vbits (l.take k) ++ vb u := by
  obtain ⟨hk, rfl⟩ := List.getElem?_eq_some_iff.1 hu
  rw [List.take_succ_eq_append_getElem hk]
  unfold vbits
  rw [List.flatMap_append]
  simp only [List.flatMap_cons, List.flatMap_nil, List.append_nil]
theorem vb_done (u : UInt8) (j : Nat) (h : (6 ≤ j ∧ 0 ≤ val64 u) ∨ (j = 0 ∧ val64 u < 0)) : (bits6 (val64 u).toNat).take j = vb u := by
  unfold vb
  rcases h with ⟨h1, h2⟩ | ⟨h1, h2⟩
  · rw [if_neg (by omega), List.take_of_length_le (by rw [bits6_len]; omega)]
  · rw [if_pos h2, h1]; rfl
theorem vb_len (u : UInt8) : (vb u).length ≤ 6 := by unfold vb; split <;> simp [bits6]
theorem vbits_len (l : List UInt8) : (vbits l).length ≤ 6 * l.length := by
  induction l with
  | nil => simp [vbits]
  | cons u l ih => have := vb_len u; simp only [vbits, List.flatMap_cons, List.length_append, List.length_cons] at ih ⊢; omega
theorem vbits_le (l : List UInt8) : ∀ x ∈ vbits l, x ≤ 1 := by
  intro x hx
  obtain ⟨u, _, h⟩ := List.mem_flatMap.1 hx
  unfold vb at h
  split at h
  · cases h
  · exact bits6_le _ x h
def upto61 (l : List UInt8) : List UInt8 := l.takeWhile (· != 61)
theorem upto61_eq (l : List UInt8) (k : Nat) (hb : ∀ j u, l[j]? = some u → j < k → u ≠ 61) (he : l.length ≤ k ∨ l[k]? = some 61) : upto61 l = l.take k := by
  induction l generalizing k with
  | nil => simp [upto61]
  | cons u l ih =>
    cases k with
    | zero =>
      have : u = 61 := by simpa using he
      subst this
      rfl
    | succ k =>
      have h1 : u ≠ 61 := hb 0 u rfl (by omega)
      have h2 := ih k (fun j v hj hk => hb (j + 1) v (by simpa using hj) (by omega)) (by simpa using he)
      unfold upto61 at h2 ⊢
      rw [List.takeWhile_cons_of_pos (by simpa using h1), h2]
      rfl
def octs (bits : List Nat) : Nat → List UInt8
  | 0 => []
  | q + 1 => octs bits q ++ [UInt8.ofNat (eight bits q)]
theorem octs_len (bits : List Nat) (q : Nat) : (octs bits q).length = q := by
  induction q with
  | zero => rfl
  | succ q ih => simp [octs, ih]
def loose64 (l : List UInt8) : List UInt8 := octs (vbits (upto61 l)) ((vbits (upto61 l)).length / 8)
/-! the program's lenient decoding -/
def lstep (s : List UInt8 × Nat × Nat) (c : UInt8) : List UInt8 × Nat × Nat :=
  if val64 c < 0 then s
  else if s.2.2 + 6 < 8 then (s.1, s.2.1 * 64 + idx c, s.2.2 + 6)
  else (s.1 ++ [UInt8.ofNat ((s.2.1 * 64 + idx c) / 2 ^ (s.2.2 + 6 - 8))], (s.2.1 * 64 + idx c) % 2 ^ (s.2.2 + 6 - 8), s.2.2 + 6 - 8)
def lrun (l : List UInt8) : List UInt8 × Nat × Nat := l.foldl lstep ([], 0, 0)
def lenient (l : List UInt8) : List UInt8 := (lrun (upto61 l)).1
theorem lrun_next {l : List UInt8} {k : Nat} {u : UInt8} (hu : l[k]? = some u) : lrun (l.take (k + 1)) = lstep (lrun (l.take k)) u := by
  obtain ⟨hk, rfl⟩ := List.getElem?_eq_some_iff.1 hu
  rw [List.take_succ_eq_append_getElem hk, lrun, List.foldl_append]
  rfl
theorem val64_idx {c : UInt8} (h : 0 ≤ val64 c) : val64 c = (idx c : Int) ∧ idx c < 64 := by
  unfold val64 at h ⊢
  split <;> rename_i hi
  · exact ⟨rfl, hi⟩
  · rw [if_neg hi] at h; omega
theorem lstep_inv (s : List UInt8 × Nat × Nat) (c : UInt8) (h1 : s.2.2 ≤ 6 ∧ s.2.2 % 2 = 0) (h2 : s.2.1 < 2 ^ s.2.2) : ((lstep s c).2.2 ≤ 6 ∧ (lstep s c).2.2 % 2 = 0) ∧ (lstep s c).2.1 < 2 ^ (lstep s c).2.2 := by
  unfold lstep
  by_cases hv : val64 c < 0
  · rw [if_pos hv]; exact ⟨h1, h2⟩
  · rw [if_neg hv]
    have hi := (val64_idx (c := c) (by omega)).2
    by_cases hb : s.2.2 + 6 < 8
    · rw [if_pos hb]
      have h0 : s.2.2 = 0 := by omega
      rw [h0] at h2 ⊢
      exact ⟨by simp, by simp at h2 ⊢; omega⟩
    · rw [if_neg hb]
      exact ⟨by simp only []; omega, Nat.mod_lt _ (Nat.two_pow_pos _)⟩
theorem lrun_inv (l : List UInt8) : ((lrun l).2.2 ≤ 6 ∧ (lrun l).2.2 % 2 = 0) ∧ (lrun l).2.1 < 2 ^ (lrun l).2.2 := by
  have key : ∀ (l : List UInt8) (s : List UInt8 × Nat × Nat), ((s.2.2 ≤ 6 ∧ s.2.2 % 2 = 0) ∧ s.2.1 < 2 ^ s.2.2) → (((l.foldl lstep s).2.2 ≤ 6 ∧ (l.foldl lstep s).2.2 % 2 = 0) ∧ (l.foldl lstep s).2.1 < 2 ^ (l.foldl lstep s).2.2) := by
    intro l
    induction l with
    | nil => exact fun s h => h
    | cons c l ih => exact fun s h => ih _ (lstep_inv s c h.1 h.2)
  exact key l ([], 0, 0) (by simp)
theorem lrun_len (l : List UInt8) : (lrun l).1.length ≤ l.length := by
  have key : ∀ (l : List UInt8) (s : List UInt8 × Nat × Nat), (l.foldl lstep s).1.length ≤ s.1.length + l.length := by
    intro l
    induction l with
    | nil => intro s; simp
    | cons c l ih =>
      intro s
      have h1 := ih (lstep s c)
      have h2 : (lstep s c).1.length ≤ s.1.length + 1 := by unfold lstep; split <;> (try split) <;> simp
      simp only [List.foldl_cons, List.length_cons]
      omega
  have := key l ([], 0, 0)
  simpa [lrun] using this
theorem or_six (x v : Nat) (hv : v < 64) : x * 2 ^ 6 ||| v = x * 64 + v := by
  have := Nat.two_pow_add_eq_or_of_lt (i := 6) (b := v) (by omega) x
  rw [Nat.mul_comm x, ← this, Nat.mul_comm]
theorem and_mask (x s : Nat) : x &&& (2 ^ s - 1) = x % 2 ^ s := Nat.and_two_pow_sub_one_eq_mod x s
theorem oct_lt (x v b : Nat) (h1 : b ≤ 6 ∧ b % 2 = 0) (h2 : x < 2 ^ b) (hv : v < 64) (hb : 8 ≤ b + 6) : (x * 64 + v) / 2 ^ (b + 6 - 8) < 256 := by
  obtain h | h | h : b = 2 ∨ b = 4 ∨ b = 6 := by omega
  all_goals (subst h; simp at h2 ⊢; omega)
/-! the program's groups -/
theorem getD_out {α : Type} (l : List α) (i : Nat) (d : α) (h : l.length ≤ i) : l.getD i d = d := by
  rw [List.getD_eq_getElem?_getD, List.getElem?_eq_none h]; rfl
theorem getD_in {α : Type} (l : List α) (i : Nat) (d : α) (h : i < l.length) : l.getD i d = l[i] := by
  rw [List.getD_eq_getElem?_getD, List.getElem?_eq_getElem h]; rfl
def accN (l : List UInt8) : Nat → Nat
  | 0 => 0
  | i + 1 => accN l i * 256 + (l.getD i 0).toNat
theorem accN_out (l : List UInt8) (i : Nat) (h : l.length ≤ i) : accN l i * 256 = accN l (i + 1) := by
  rw [accN, getD_out _ _ _ h]; simp
theorem accN_lt (l : List UInt8) (i : Nat) : accN l i < 256 ^ i := by
  induction i with
  | zero => simp [accN]
  | succ i ih =>
    have := (l.getD i 0).toNat_lt
    rw [accN, Nat.pow_succ]
    omega
def ch (l : List UInt8) (i : Nat) : UInt8 := if min 3 l.length < i then 61 else alpha.getD (accN l 3 / 2 ^ (18 - 6 * i) % 64) 0
def outp (l : List UInt8) (j : Nat) : List UInt8 := (List.range 4).map fun i => if i < j then ch l i else 0
theorem outp_set (l : List UInt8) (j : Nat) (hj : j < 4) : (outp l j).set j (ch l j) = outp l (j + 1) := by
  match j, hj with
  | 0, _ => rfl
  | 1, _ => rfl
  | 2, _ => rfl
  | 3, _ => rfl
def grpAt (l : List UInt8) (k : Nat) : List UInt8 := outp (l.drop (3 * k)) 4
def grpsTo (l : List UInt8) (k : Nat) : List (List UInt8) := (List.range k).map (grpAt l)
def grps (l : List UInt8) : List (List UInt8) := grpsTo l ((l.length + 2) / 3)
theorem grpsTo_next (l : List UInt8) (k : Nat) : grpsTo l (k + 1) = grpsTo l k ++ [grpAt l k] := by
  simp [grpsTo, List.range_succ]
theorem grpsTo_ini (l : List UInt8) (k : Nat) (h : 3 * k < l.length) : (grpsTo l k ++ [grpAt l k]) <+: grps l := by
  rw [← grpsTo_next]
  refine ⟨((List.range' (k + 1) ((l.length + 2) / 3 - (k + 1))).map (grpAt l)), ?_⟩
  unfold grps grpsTo
  rw [← List.map_append]
  have h1 : List.range (k + 1) ++ List.range' (k + 1) ((l.length + 2) / 3 - (k + 1)) = List.range ((l.length + 2) / 3) := by
    have h2 := List.range'_append_1 (s := 0) (m := k + 1) (n := (l.length + 2) / 3 - (k + 1))
    rw [Nat.zero_add] at h2
    rw [List.range_eq_range', List.range_eq_range', h2]
    congr 1
    omega
  rw [h1]
theorem drop_next (l : List UInt8) (k n : Nat) (hn : n = min 3 (l.drop (3 * k)).length) : (l.drop (3 * k)).drop n = l.drop (3 * (k + 1)) := by
  rw [List.drop_drop]
  simp only [List.length_drop] at hn
  by_cases h : 3 ≤ l.length - 3 * k
  · rw [show 3 * k + n = 3 * (k + 1) by omega]
  · rw [List.drop_eq_nil_of_le (by omega), List.drop_eq_nil_of_le (by omega)]
theorem or_eight (x : Nat) (v : UInt8) : x * 2 ^ 8 ||| v.toNat = x * 256 + v.toNat := by
  have := Nat.two_pow_add_eq_or_of_lt (i := 8) (b := v.toNat) (by have := v.toNat_lt; omega) x
  rw [Nat.mul_comm x, ← this, Nat.mul_comm]

/-! the program's lines -/
def encStep (s : List UInt8 × Nat) (g : List UInt8) : List UInt8 × Nat := if s.2 = 76 then (s.1 ++ [13, 10] ++ g, 4) else (s.1 ++ g, s.2 + 4)
def encRun (gs : List (List UInt8)) : List UInt8 × Nat := gs.foldl encStep ([], 0)
def encode (l : List UInt8) : List UInt8 := if 0 < (encRun (grps l)).2 then (encRun (grps l)).1 ++ [13, 10] else (encRun (grps l)).1
theorem encRun_next (gs : List (List UInt8)) (g : List UInt8) : encRun (gs ++ [g]) = encStep (encRun gs) g := by simp [encRun]
theorem grps_len (l : List UInt8) : (grps l).length = (l.length + 2) / 3 := by simp [grps, grpsTo]
theorem ini_len {l x : List UInt8} {pre : List (List UInt8)} (h : (pre ++ [x]) <+: grps l) : x.length = 4 ∧ (∀ g ∈ pre, g.length = 4) ∧ pre.length + 1 ≤ (l.length + 2) / 3 := by
  refine ⟨?_, fun g hg => ?_, ?_⟩
  · obtain ⟨k, _, rfl⟩ := List.mem_map.1 (h.subset (List.mem_append_right _ (List.mem_singleton.2 rfl))); rfl
  · obtain ⟨k, _, rfl⟩ := List.mem_map.1 (h.subset (List.mem_append_left _ hg)); rfl
  · have := h.length_le
    rw [grps_len] at this
    simpa using this
theorem grps_all (l : List UInt8) : ∀ g ∈ grps l, g.length = 4 := fun g hg => by
  obtain ⟨k, _, rfl⟩ := List.mem_map.1 hg; rfl
theorem encRun_inv (gs : List (List UInt8)) (h : ∀ g ∈ gs, g.length = 4) : (encRun gs).1.length ≤ 6 * gs.length ∧ (encRun gs).2 ≤ 76 ∧ (encRun gs).2 % 4 = 0 := by
  have key : ∀ (gs : List (List UInt8)) (s : List UInt8 × Nat), (∀ g ∈ gs, g.length = 4) → s.2 ≤ 76 → s.2 % 4 = 0 → (gs.foldl encStep s).1.length ≤ s.1.length + 6 * gs.length ∧ (gs.foldl encStep s).2 ≤ 76 ∧ (gs.foldl encStep s).2 % 4 = 0 := by
    intro gs
    induction gs with
    | nil => intro s _ h1 h2; exact ⟨by simp, h1, h2⟩
    | cons g gs ih =>
      intro s hg h1 h2
      have hg4 : g.length = 4 := hg g List.mem_cons_self
      have h3 : (encStep s g).1.length ≤ s.1.length + 6 ∧ (encStep s g).2 ≤ 76 ∧ (encStep s g).2 % 4 = 0 := by
        unfold encStep
        split
        · simp [hg4]
        · simp [hg4]; omega
      have := ih (encStep s g) (fun x hx => hg x (List.mem_cons_of_mem _ hx)) h3.2.1 h3.2.2
      simp only [List.foldl_cons, List.length_cons]
      omega
  have := key gs ([], 0) h (by simp) (by simp)
  simpa [encRun] using this
end Go.Ph.B64
