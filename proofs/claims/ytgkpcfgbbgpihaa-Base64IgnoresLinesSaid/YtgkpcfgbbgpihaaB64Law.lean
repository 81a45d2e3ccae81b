/-
  The plain laws of base64: what the program computes is what the reference computes. No program in sight.
-/
import Derived.Test.YtgkpcfgbbgpihaaB64Plain
namespace Go.Ph.B64

/-! three bytes at a time -/
theorem byThree {P : List UInt8 → Prop} (h0 : P []) (h1 : ∀ a, P [a]) (h2 : ∀ a b, P [a, b]) (h3 : ∀ a b c l, P l → P (a :: b :: c :: l)) : ∀ l, P l
  | [] => h0
  | [a] => h1 a
  | [a, b] => h2 a b
  | a :: b :: c :: l => h3 a b c l (byThree h0 h1 h2 h3 l)
abbrev A (k : Nat) : UInt8 := alpha.getD k 0
theorem grps_nil : grps [] = [] := rfl
theorem outp_eq (l : List UInt8) : outp l 4 = [ch l 0, ch l 1, ch l 2, ch l 3] := rfl
theorem ch_of (l : List UInt8) (i : Nat) (h : i ≤ min 3 l.length) : ch l i = A (accN l 3 / 2 ^ (18 - 6 * i) % 64) := by
  unfold ch; rw [if_neg (by omega)]
theorem acc3 (l : List UInt8) : accN l 3 = (l.getD 0 0).toNat * 65536 + (l.getD 1 0).toNat * 256 + (l.getD 2 0).toNat := by
  simp only [accN]; omega
theorem grp3 (a b c : UInt8) (l : List UInt8) : outp (a :: b :: c :: l) 4 = [A (a.toNat / 4), A (a.toNat % 4 * 16 + b.toNat / 16), A (b.toNat % 16 * 4 + c.toNat / 64), A (c.toNat % 64)] := by
  have ha := a.toNat_lt
  have hb := b.toNat_lt
  have hc := c.toNat_lt
  have h := acc3 (a :: b :: c :: l)
  simp only [List.getD_cons_zero, List.getD_cons_succ] at h
  rw [outp_eq, ch_of _ _ (by simp), ch_of _ _ (by simp), ch_of _ _ (by simp), ch_of _ _ (by simp), h]
  congr 2
  · simp only [Nat.mul_zero, Nat.sub_zero]; omega
  congr 2
  · simp only [Nat.mul_one]; omega
  congr 2
  · omega
  rw [show (a.toNat * 65536 + b.toNat * 256 + c.toNat) / 2 ^ (18 - 6 * 3) % 64 = c.toNat % 64 by rw [show 2 ^ (18 - 6 * 3) = 1 from rfl, Nat.div_one]; omega]
theorem grp1 (a : UInt8) : outp [a] 4 = [A (a.toNat / 4), A (a.toNat % 4 * 16), 61, 61] := by
  have ha := a.toNat_lt
  have h := acc3 [a]
  simp only [List.getD_cons_zero, List.getD_cons_succ, List.getD_nil] at h
  rw [outp_eq, ch_of _ _ (by simp), ch_of _ _ (by simp), h]
  congr 2
  · simp; omega
  congr 2
  simp; omega
theorem grp2 (a b : UInt8) : outp [a, b] 4 = [A (a.toNat / 4), A (a.toNat % 4 * 16 + b.toNat / 16), A (b.toNat % 16 * 4), 61] := by
  have ha := a.toNat_lt
  have hb := b.toNat_lt
  have h := acc3 [a, b]
  simp only [List.getD_cons_zero, List.getD_cons_succ, List.getD_nil] at h
  rw [outp_eq, ch_of _ _ (by simp), ch_of _ _ (by simp), ch_of _ _ (by simp), h]
  congr 2
  · simp; omega
  congr 2
  · simp; omega
  congr 2
  simp; omega
theorem grps_three (a b c : UInt8) (l : List UInt8) : grps (a :: b :: c :: l) = outp (a :: b :: c :: l) 4 :: grps l := by
  unfold grps
  have h1 : ((a :: b :: c :: l).length + 2) / 3 = (l.length + 2) / 3 + 1 := by simp only [List.length_cons]; omega
  rw [h1]
  unfold grpsTo
  rw [List.range_succ_eq_map, List.map_cons, List.map_map]
  congr 1
theorem grps_one (a : UInt8) : grps [a] = [outp [a] 4] := by
  unfold grps
  rw [show ([a].length + 2) / 3 = 1 by simp]
  simp [grpsTo, grpAt, List.range_succ]
theorem grps_two (a b : UInt8) : grps [a, b] = [outp [a, b] 4] := by
  unfold grps
  rw [show ([a, b].length + 2) / 3 = 1 by simp]
  simp [grpsTo, grpAt, List.range_succ]

/-! the reference's characters -/
theorem sumN6 (x y z u v w : Nat) : sumN [x, y, z, u, v, w] = 32 * x + 16 * y + 8 * z + 4 * u + 2 * v + w := by simp [sumN]; omega
theorem sumN8 (u : Nat) (h : u < 256) : sumN (bits8 u) = u := by simp [sumN, bits8]; omega
theorem six_add (x bits : List Nat) (m q : Nat) (hx : x.length = 6 * m) : six (x ++ bits) (m + q) = six bits q := by
  unfold six
  congr 1
  rw [List.drop_take, List.drop_take]
  rw [show 6 * (m + q) = x.length + 6 * q by omega, List.drop_length_add_append]
  congr 1
  omega
theorem sext_add (x bits : List Nat) (m : Nat) (hx : x.length = 6 * m) (q : Nat) : sext (x ++ bits) (m + q) = sext (x ++ bits) m ++ sext bits q := by
  induction q with
  | zero => simp [sext]
  | succ q ih => rw [← Nat.add_assoc, sext, sext, ih, six_add x bits m q hx, List.append_assoc]
theorem padBits_three (a b c : UInt8) (l : List UInt8) : padBits (a :: b :: c :: l) = (bits8 a.toNat ++ bits8 b.toNat ++ bits8 c.toNat) ++ padBits l := by
  unfold padBits bitsOf
  simp only [List.flatMap_cons, List.append_assoc, List.length_cons]
  rw [show (6 - 8 * (l.length + 1 + 1 + 1) % 6) % 6 = (6 - 8 * l.length % 6) % 6 by omega]
theorem sext_lit (x : List Nat) (bits : List Nat) (n1 n2 n3 n4 : Nat) (h1 : six (x ++ bits) 0 = n1) (h2 : six (x ++ bits) 1 = n2) (h3 : six (x ++ bits) 2 = n3) (h4 : six (x ++ bits) 3 = n4) (l1 : n1 < 64) (l2 : n2 < 64) (l3 : n3 < 64) (l4 : n4 < 64) :
    sext (x ++ bits) 4 = [A n1, A n2, A n3, A n4] := by
  simp only [sext, h1, h2, h3, h4, alpha_one _ l1, alpha_one _ l2, alpha_one _ l3, alpha_one _ l4]
  rfl
theorem chars_three (a b c : UInt8) (l : List UInt8) : chars64 (a :: b :: c :: l) = outp (a :: b :: c :: l) 4 ++ chars64 l := by
  have ha := a.toNat_lt
  have hb := b.toNat_lt
  have hc := c.toNat_lt
  have hlen : (padBits (a :: b :: c :: l)).length / 6 = 4 + (padBits l).length / 6 := by
    rw [padBits_three, List.length_append]
    simp only [List.length_append, bits8_len]
    omega
  have h4 : sext (padBits (a :: b :: c :: l)) 4 = outp (a :: b :: c :: l) 4 := by
    rw [grp3, padBits_three]
    refine sext_lit _ _ _ _ _ _ ?_ ?_ ?_ ?_ (by omega) (by omega) (by omega) (by omega)
    · simp only [six, bits8, List.cons_append, List.nil_append, List.take_succ_cons, List.take_zero, List.drop_zero, Nat.mul_zero, Nat.zero_add, sumN6]; omega
    · simp only [six, bits8, List.cons_append, List.nil_append, List.take_succ_cons, List.take_zero, List.drop_succ_cons, List.drop_zero, Nat.mul_one, sumN6]; omega
    · simp only [six, bits8, List.cons_append, List.nil_append, List.take_succ_cons, List.take_zero, List.drop_succ_cons, List.drop_zero, sumN6]; omega
    · simp only [six, bits8, List.cons_append, List.nil_append, List.take_succ_cons, List.take_zero, List.drop_succ_cons, List.drop_zero, sumN6]; omega
  have hs : sext (padBits (a :: b :: c :: l)) ((padBits (a :: b :: c :: l)).length / 6) = outp (a :: b :: c :: l) 4 ++ sext (padBits l) ((padBits l).length / 6) := by
    rw [hlen, ← h4, padBits_three]
    exact sext_add _ _ 4 (by simp [bits8_len]) _
  unfold chars64
  simp only [hs, List.append_assoc, List.length_append]
  congr 3
  rw [show (outp (a :: b :: c :: l) 4).length = 4 from rfl]
  omega
theorem padBits_one (a : UInt8) : padBits [a] = bits8 a.toNat ++ [0, 0, 0, 0] := by simp [padBits, bitsOf, List.replicate]
theorem padBits_two (a b : UInt8) : padBits [a, b] = bits8 a.toNat ++ bits8 b.toNat ++ [0, 0] := by simp [padBits, bitsOf, List.replicate]
theorem chars_of {l : List UInt8} {q : Nat} {s : List UInt8} (hq : (padBits l).length / 6 = q) (h : sext (padBits l) q = s) : chars64 l = s ++ List.replicate ((4 - s.length % 4) % 4) 61 := by
  unfold chars64; rw [hq, h]
theorem chars_one (a : UInt8) : chars64 [a] = outp [a] 4 := by
  have ha := a.toNat_lt
  rw [grp1]
  have h : sext (padBits [a]) 2 = [A (a.toNat / 4), A (a.toNat % 4 * 16)] := by
    rw [padBits_one]
    have h1 : six (bits8 a.toNat ++ [0, 0, 0, 0]) 0 = a.toNat / 4 := by
      simp only [six, bits8, List.cons_append, List.nil_append, List.take_succ_cons, List.take_zero, List.drop_zero, Nat.mul_zero, Nat.zero_add, sumN6]; omega
    have h2 : six (bits8 a.toNat ++ [0, 0, 0, 0]) 1 = a.toNat % 4 * 16 := by
      simp only [six, bits8, List.cons_append, List.nil_append, List.take_succ_cons, List.take_zero, List.drop_succ_cons, List.drop_zero, Nat.mul_one, sumN6]; omega
    simp only [sext, h1, h2, alpha_one _ (show a.toNat / 4 < 64 by omega), alpha_one _ (show a.toNat % 4 * 16 < 64 by omega)]
    rfl
  rw [chars_of (by rw [padBits_one]; simp [bits8_len]) h]; rfl
theorem chars_two (a b : UInt8) : chars64 [a, b] = outp [a, b] 4 := by
  have ha := a.toNat_lt
  have hb := b.toNat_lt
  rw [grp2]
  have h : sext (padBits [a, b]) 3 = [A (a.toNat / 4), A (a.toNat % 4 * 16 + b.toNat / 16), A (b.toNat % 16 * 4)] := by
    rw [padBits_two]
    have h1 : six (bits8 a.toNat ++ bits8 b.toNat ++ [0, 0]) 0 = a.toNat / 4 := by
      simp only [six, bits8, List.cons_append, List.nil_append, List.take_succ_cons, List.take_zero, List.drop_zero, Nat.mul_zero, Nat.zero_add, sumN6]; omega
    have h2 : six (bits8 a.toNat ++ bits8 b.toNat ++ [0, 0]) 1 = a.toNat % 4 * 16 + b.toNat / 16 := by
      simp only [six, bits8, List.cons_append, List.nil_append, List.take_succ_cons, List.take_zero, List.drop_succ_cons, List.drop_zero, Nat.mul_one, sumN6]; omega
    have h3 : six (bits8 a.toNat ++ bits8 b.toNat ++ [0, 0]) 2 = b.toNat % 16 * 4 := by
      simp only [six, bits8, List.cons_append, List.nil_append, List.take_succ_cons, List.take_zero, List.drop_succ_cons, List.drop_zero, sumN6]; omega
    simp only [sext, h1, h2, h3, alpha_one _ (show a.toNat / 4 < 64 by omega), alpha_one _ (show a.toNat % 4 * 16 + b.toNat / 16 < 64 by omega), alpha_one _ (show b.toNat % 16 * 4 < 64 by omega)]
    rfl
  rw [chars_of (by rw [padBits_two]; simp [bits8_len]) h]; rfl
theorem chars_grps (l : List UInt8) : chars64 l = (grps l).flatten := by
  induction l using byThree with
  | h0 => rfl
  | h1 a => rw [chars_one, grps_one]; simp
  | h2 a b => rw [chars_two, grps_two]; simp
  | h3 a b c l ih => rw [chars_three, grps_three, List.flatten_cons, ih]

/-! lines -/
theorem flat_len (gs : List (List UInt8)) (h : ∀ g ∈ gs, g.length = 4) : gs.flatten.length = 4 * gs.length := by
  induction gs with
  | nil => rfl
  | cons g gs ih =>
    rw [List.flatten_cons, List.length_append, h g List.mem_cons_self, ih (fun x hx => h x (List.mem_cons_of_mem _ hx)), List.length_cons]
    omega
theorem wrapTo_app (cs t : List UInt8) (m : Nat) (h : 76 * m ≤ cs.length) : wrapTo (cs ++ t) m = wrapTo cs m := by
  induction m with
  | zero => rfl
  | succ m ih =>
    rw [wrapTo, wrapTo, ih (by omega)]
    congr 2
    rw [List.drop_append_of_le_length (by omega), List.take_append_of_le_length (by rw [List.length_drop]; omega)]
theorem encRun_wrap (gs : List (List UInt8)) (h : ∀ g ∈ gs, g.length = 4) : ∃ k, k = (gs.flatten.length - 1) / 76 ∧ (encRun gs).1 = wrapTo gs.flatten k ++ gs.flatten.drop (76 * k) ∧ (encRun gs).2 = gs.flatten.length - 76 * k := by
  have key : ∀ (n : Nat) (gs : List (List UInt8)), gs.length = n → (∀ g ∈ gs, g.length = 4) → ∃ k, k = (gs.flatten.length - 1) / 76 ∧ (encRun gs).1 = wrapTo gs.flatten k ++ gs.flatten.drop (76 * k) ∧ (encRun gs).2 = gs.flatten.length - 76 * k := by
    intro n
    induction n with
    | zero =>
      intro gs hn _
      obtain rfl := List.eq_nil_of_length_eq_zero hn
      exact ⟨0, rfl, rfl, rfl⟩
    | succ n ih =>
      intro gs hn hg
      obtain ⟨g0, g, rfl⟩ : ∃ g0 g, gs = g0 ++ [g] := ⟨gs.dropLast, gs.getLast (by rintro rfl; cases hn), (List.dropLast_concat_getLast _).symm⟩
      have hl0 : g0.length = n := by simpa using hn
      have hg0 : ∀ x ∈ g0, x.length = 4 := fun x hx => hg x (List.mem_append_left _ hx)
      have hg4 : g.length = 4 := hg g (List.mem_append_right _ (List.mem_singleton.2 rfl))
      obtain ⟨k, hk, h1, h2⟩ := ih g0 hl0 hg0
      have hfl := flat_len g0 hg0
      have hflat : (g0 ++ [g]).flatten = g0.flatten ++ g := by simp
      rw [hflat, encRun_next, encStep, h1, h2, List.length_append, hg4]
      generalize g0.flatten = cs at *
      by_cases hf : cs.length - 76 * k = 76
      · rw [if_pos hf]
        refine ⟨k + 1, by omega, ?_, by simp only []; omega⟩
        have e0 : cs.length = 76 * (k + 1) := by omega
        have e1 : (cs ++ g).drop (76 * (k + 1)) = g := by rw [← e0]; exact List.drop_left
        have e2 : ((cs ++ g).drop (76 * k)).take 76 = cs.drop (76 * k) := by
          have e3 : (cs.drop (76 * k)).length = 76 := by rw [List.length_drop]; omega
          rw [List.drop_append_of_le_length (by omega)]
          exact List.take_left' e3
        rw [wrapTo, wrapTo_app _ _ _ (by omega), e1, e2]
      · rw [if_neg hf]
        refine ⟨k, by omega, ?_, by simp only []; omega⟩
        simp only []
        rw [wrapTo_app _ _ _ (by omega), List.drop_append_of_le_length (by omega), List.append_assoc]
  exact key _ gs rfl h
theorem encode_lines (l : List UInt8) : encode l = lines64 (chars64 l) := by
  obtain ⟨k, hk, h1, h2⟩ := encRun_wrap (grps l) (grps_all l)
  rw [chars_grps]
  unfold encode lines64
  rw [h1, h2, ← hk]
  generalize (grps l).flatten = cs at *
  by_cases hc : cs.drop (76 * k) = []
  · have : cs.length ≤ 76 * k := List.drop_eq_nil_iff.1 hc
    rw [if_neg (by omega), if_pos hc, hc]
  · have : 76 * k < cs.length := by
      rcases Nat.lt_or_ge (76 * k) cs.length with h | h
      · exact h
      · exact absurd (List.drop_eq_nil_of_le h) hc
    rw [if_pos (by omega), if_neg hc, List.append_assoc]
theorem encode_len (l : List UInt8) : (encode l).length ≤ 4 * ((l.length + 2) / 3) + 2 * (4 * ((l.length + 2) / 3) / 76) + 2 := by
  obtain ⟨k, hk, h1, h2⟩ := encRun_wrap (grps l) (grps_all l)
  have hfl := flat_len (grps l) (grps_all l)
  rw [grps_len] at hfl
  have hw : ∀ (cs : List UInt8) (m : Nat), 76 * m ≤ cs.length → (wrapTo cs m).length = 78 * m := by
    intro cs m
    induction m with
    | zero => intro _; rfl
    | succ m ih => intro h; simp only [wrapTo, List.length_append, List.length_take, List.length_drop, List.length_cons, List.length_nil, ih (by omega)]; omega
  have h3 : (encRun (grps l)).1.length = 78 * k + ((grps l).flatten.length - 76 * k) := by
    rw [h1, List.length_append, hw _ _ (by omega), List.length_drop]
  unfold encode
  split
  · rw [List.length_append, h3]; simp only [List.length_cons, List.length_nil]; omega
  · rw [h3]; omega
theorem chars_len (l : List UInt8) : (chars64 l).length = 4 * ((l.length + 2) / 3) := by
  rw [chars_grps, flat_len _ (grps_all l), grps_len]

/-! decoding: the program's run and the reference's bits -/
def low (n y : Nat) : List Nat := (List.range n).map fun i => y / 2 ^ (n - 1 - i) % 2
theorem low_len (n y : Nat) : (low n y).length = n := by simp [low]
theorem lrun_bits (m : List UInt8) : vbits m = bitsOf (lrun m).1 ++ low (lrun m).2.2 (lrun m).2.1 := by
  have key : ∀ (m : List UInt8) (s : List UInt8 × Nat × Nat) (pre : List Nat), ((s.2.2 ≤ 6 ∧ s.2.2 % 2 = 0) ∧ s.2.1 < 2 ^ s.2.2) → pre = bitsOf s.1 ++ low s.2.2 s.2.1 → pre ++ vbits m = bitsOf (m.foldl lstep s).1 ++ low (m.foldl lstep s).2.2 (m.foldl lstep s).2.1 := by
    intro m
    induction m with
    | nil => intro s pre _ h; simpa [vbits] using h
    | cons c m ih =>
      intro s pre hi h
      have hn := lstep_inv s c hi.1 hi.2
      have : pre ++ vb c = bitsOf (lstep s c).1 ++ low (lstep s c).2.2 (lstep s c).2.1 := by
        unfold vb lstep
        by_cases hv : val64 c < 0
        · rw [if_pos hv, if_pos hv]; simpa using h
        · rw [if_neg hv, if_neg hv]
          obtain ⟨e1, e2⟩ := val64_idx (c := c) (by omega)
          rw [e1, Int.toNat_natCast, h]
          obtain ⟨o, x, b⟩ := s
          simp only [] at hi ⊢
          obtain hb | hb | hb | hb : b = 0 ∨ b = 2 ∨ b = 4 ∨ b = 6 := by omega
          · subst hb
            simp only [Nat.pow_zero] at hi
            have hx : x = 0 := by omega
            subst hx
            simp [low, List.range_succ, bits6]
          all_goals
            subst hb
            simp only [show ¬ (2 + 6 < 8) by omega, show ¬ (4 + 6 < 8) by omega, show ¬ (6 + 6 < 8) by omega, if_false]
            have hx := hi.2
            simp only [Nat.reducePow] at hx
            unfold bitsOf
            rw [List.flatMap_append, List.append_assoc, List.append_assoc]
            congr 1
            simp only [List.flatMap_cons, List.flatMap_nil, List.append_nil, bits8, low, bits6, List.range_succ, List.range_zero, List.nil_append, List.cons_append, List.map_cons, List.map_nil, UInt8.toNat_ofNat', Nat.reduceAdd, Nat.reduceSub, Nat.reducePow]
            simp only [List.cons.injEq, and_true]
            omega
      have h2 := ih (lstep s c) (pre ++ vb c) hn this
      rw [List.foldl_cons, ← h2]
      simp [vbits]
  have := key m ([], 0, 0) [] (by simp) rfl
  simpa [lrun] using this
theorem eight_add (x bits : List Nat) (q : Nat) (hx : x.length = 8) : eight (x ++ bits) (q + 1) = eight bits q := by
  unfold eight
  congr 1
  rw [List.drop_take, List.drop_take, show 8 * (q + 1) = x.length + 8 * q by omega, List.drop_length_add_append]
  congr 1
  omega
theorem octs_cons (u : UInt8) (bits : List Nat) (q : Nat) : octs (bits8 u.toNat ++ bits) (q + 1) = u :: octs bits q := by
  induction q with
  | zero =>
    have : eight (bits8 u.toNat ++ bits) 0 = u.toNat := by
      unfold eight
      rw [show (List.take (8 * 0 + 8) (bits8 u.toNat ++ bits)).drop (8 * 0) = bits8 u.toNat by simp [bits8]]
      exact sumN8 _ u.toNat_lt
    simp [octs, this]
  | succ q ih => rw [octs, ih, eight_add _ _ _ (bits8_len _), octs, List.cons_append]
theorem octs_bits (o : List UInt8) (t : List Nat) : octs (bitsOf o ++ t) o.length = o := by
  induction o with
  | nil => rfl
  | cons u o ih =>
    have : bitsOf (u :: o) ++ t = bits8 u.toNat ++ (bitsOf o ++ t) := by simp [bitsOf]
    rw [this, List.length_cons, octs_cons, ih]
theorem lenient_loose (l : List UInt8) : lenient l = loose64 l := by
  unfold lenient loose64
  have h := lrun_bits (upto61 l)
  have hi := lrun_inv (upto61 l)
  have hl : (vbits (upto61 l)).length / 8 = (lrun (upto61 l)).1.length := by
    rw [h, List.length_append, bitsOf_len, low_len]; omega
  rw [hl, h, octs_bits]

/-! what is decoded of an encoding -/
def vis (l : List UInt8) : List Nat := vbits (upto61 l)
theorem loose_vis (l m : List UInt8) (h : vis l = vis m) : lenient l = lenient m := by
  rw [lenient_loose, lenient_loose]; unfold loose64; unfold vis at h; rw [h]
theorem upto61_mem {a : List UInt8} (b : List UInt8) (h : 61 ∈ a) : upto61 (a ++ b) = upto61 a := by
  induction a with
  | nil => cases h
  | cons u a ih =>
    unfold upto61 at *
    by_cases hu : u = 61
    · subst hu; rfl
    · have h1 : 61 ∈ a := by
        rcases List.mem_cons.1 h with e | e
        · exact absurd e.symm hu
        · exact e
      rw [List.cons_append, List.takeWhile_cons_of_pos (by simpa using hu), List.takeWhile_cons_of_pos (by simpa using hu), ih h1]
theorem upto61_not {a : List UInt8} (b : List UInt8) (h : 61 ∉ a) : upto61 (a ++ b) = a ++ upto61 b := by
  induction a with
  | nil => rfl
  | cons u a ih =>
    have hu : u ≠ 61 := fun e => h (by rw [e]; exact List.mem_cons_self)
    unfold upto61 at *
    rw [List.cons_append, List.takeWhile_cons_of_pos (by simpa using hu), ih (fun hm => h (List.mem_cons_of_mem _ hm)), List.cons_append]
theorem vbits_app (a b : List UInt8) : vbits (a ++ b) = vbits a ++ vbits b := by simp [vbits]
theorem vis_skip (a s b : List UInt8) (hs : 61 ∉ s) (hv : vbits s = []) : vis (a ++ s ++ b) = vis (a ++ b) := by
  unfold vis
  by_cases h : (61 : UInt8) ∈ a
  · rw [List.append_assoc, upto61_mem _ h, upto61_mem _ h]
  · rw [List.append_assoc, upto61_not _ h, upto61_not _ h, upto61_not _ hs, vbits_app, vbits_app, vbits_app, hv, List.nil_append]
theorem vis_not (a b : List UInt8) (h : 61 ∉ a) : vis (a ++ b) = vbits a ++ vis b := by unfold vis; rw [upto61_not _ h, vbits_app]
theorem vis_enc (gs : List (List UInt8)) (t : List UInt8) : vis ((encRun gs).1 ++ t) = vis (gs.flatten ++ t) := by
  have key : ∀ (gs : List (List UInt8)) (s : List UInt8 × Nat) (p : List UInt8), (∀ t, vis (s.1 ++ t) = vis (p ++ t)) → ∀ t, vis ((gs.foldl encStep s).1 ++ t) = vis (p ++ gs.flatten ++ t) := by
    intro gs
    induction gs with
    | nil => intro s p h t; simpa using h t
    | cons g gs ih =>
      intro s p h t
      have := ih (encStep s g) (p ++ g) (fun t => by
        unfold encStep
        split
        · simp only []
          rw [List.append_assoc, vis_skip _ [13, 10] _ (by decide) (by decide), h, List.append_assoc]
        · simp only []
          rw [List.append_assoc, h, List.append_assoc]) t
      rw [List.foldl_cons, this, List.flatten_cons, List.append_assoc p]
  have := key gs ([], 0) [] (fun _ => rfl) t
  simpa [encRun] using this
theorem A_val (k : Nat) (h : k < 64) : val64 (A k) = (k : Int) ∧ A k ≠ 61 := by
  have key : ∀ k, k < 64 → val64 (A k) = (k : Int) ∧ A k ≠ 61 := by decide
  exact key k h
theorem vb_A (k : Nat) (h : k < 64) : vb (A k) = bits6 k := by
  unfold vb; rw [(A_val k h).1, if_neg (by omega), Int.toNat_natCast]
theorem vis_chars (l : List UInt8) : ∃ z, vis (grps l).flatten = bitsOf l ++ z ∧ z.length < 8 := by
  induction l using byThree with
  | h0 => exact ⟨[], rfl, by simp⟩
  | h1 a =>
    have ha := a.toNat_lt
    refine ⟨[0, 0, 0, 0], ?_, by simp⟩
    rw [grps_one, grp1, List.flatten_cons, List.flatten_nil, List.append_nil]
    have h1 := A_val (a.toNat / 4) (by omega)
    have h2 := A_val (a.toNat % 4 * 16) (by omega)
    rw [show [A (a.toNat / 4), A (a.toNat % 4 * 16), 61, 61] = [A (a.toNat / 4), A (a.toNat % 4 * 16)] ++ [61, 61] from rfl, vis_not _ _ (by simp only [List.mem_cons, List.not_mem_nil, or_false, not_or]; exact ⟨Ne.symm h1.2, Ne.symm h2.2⟩)]
    simp only [vbits, List.flatMap_cons, List.flatMap_nil, List.append_nil, vb_A _ (show a.toNat / 4 < 64 by omega), vb_A _ (show a.toNat % 4 * 16 < 64 by omega), bitsOf, bits6, bits8, List.cons_append, List.nil_append, vis, upto61, List.takeWhile_cons]
    simp
    omega
  | h2 a b =>
    have ha := a.toNat_lt
    have hb := b.toNat_lt
    refine ⟨[0, 0], ?_, by simp⟩
    rw [grps_two, grp2, List.flatten_cons, List.flatten_nil, List.append_nil]
    have h1 := A_val (a.toNat / 4) (by omega)
    have h2 := A_val (a.toNat % 4 * 16 + b.toNat / 16) (by omega)
    have h3 := A_val (b.toNat % 16 * 4) (by omega)
    rw [show [A (a.toNat / 4), A (a.toNat % 4 * 16 + b.toNat / 16), A (b.toNat % 16 * 4), 61] = [A (a.toNat / 4), A (a.toNat % 4 * 16 + b.toNat / 16), A (b.toNat % 16 * 4)] ++ [61] from rfl, vis_not _ _ (by simp only [List.mem_cons, List.not_mem_nil, or_false, not_or]; exact ⟨Ne.symm h1.2, Ne.symm h2.2, Ne.symm h3.2⟩)]
    simp only [vbits, List.flatMap_cons, List.flatMap_nil, List.append_nil, vb_A _ (show a.toNat / 4 < 64 by omega), vb_A _ (show a.toNat % 4 * 16 + b.toNat / 16 < 64 by omega), vb_A _ (show b.toNat % 16 * 4 < 64 by omega), bitsOf, bits6, bits8, List.cons_append, List.nil_append, vis, upto61, List.takeWhile_cons]
    simp
    omega
  | h3 a b c l ih =>
    have ha := a.toNat_lt
    have hb := b.toNat_lt
    have hc := c.toNat_lt
    obtain ⟨z, hz, hl⟩ := ih
    refine ⟨z, ?_, hl⟩
    rw [grps_three, grp3, List.flatten_cons]
    have h1 := A_val (a.toNat / 4) (by omega)
    have h2 := A_val (a.toNat % 4 * 16 + b.toNat / 16) (by omega)
    have h3 := A_val (b.toNat % 16 * 4 + c.toNat / 64) (by omega)
    have h4 := A_val (c.toNat % 64) (by omega)
    rw [vis_not _ _ (by simp only [List.mem_cons, List.not_mem_nil, or_false, not_or]; exact ⟨Ne.symm h1.2, Ne.symm h2.2, Ne.symm h3.2, Ne.symm h4.2⟩), hz]
    have h5 : bitsOf (a :: b :: c :: l) = (bits8 a.toNat ++ bits8 b.toNat ++ bits8 c.toNat) ++ bitsOf l := by simp [bitsOf]
    rw [h5, List.append_assoc _ (bitsOf l)]
    congr 1
    simp only [vbits, List.flatMap_cons, List.flatMap_nil, List.append_nil, vb_A _ (show a.toNat / 4 < 64 by omega), vb_A _ (show a.toNat % 4 * 16 + b.toNat / 16 < 64 by omega), vb_A _ (show b.toNat % 16 * 4 + c.toNat / 64 < 64 by omega), vb_A _ (show c.toNat % 64 < 64 by omega), bits6, bits8, List.cons_append, List.nil_append, List.cons.injEq, and_true]
    omega
theorem vis_encode (l : List UInt8) : vis (encode l) = vis (grps l).flatten := by
  unfold encode
  split
  · rw [vis_enc]
    have := vis_skip (grps l).flatten [13, 10] [] (by decide) (by decide)
    simpa using this
  · have := vis_enc (grps l) []
    simpa using this
theorem lenient_of_vis (m l : List UInt8) (h : vis m = vis (grps l).flatten) : lenient m = l := by
  obtain ⟨z, hz, hl⟩ := vis_chars l
  rw [lenient_loose]
  unfold loose64
  rw [show vbits (upto61 m) = bitsOf l ++ z from h.trans hz, List.length_append, bitsOf_len, show (8 * l.length + z.length) / 8 = l.length by omega, octs_bits]
theorem lenient_encode (l : List UInt8) : lenient (encode l) = l := lenient_of_vis _ _ (vis_encode l)
theorem lenient_broken (l : List UInt8) (k : Nat) : lenient ((encode l).take k ++ [32, 13, 10] ++ (encode l).drop k) = l :=
  lenient_of_vis _ _ (by rw [vis_skip _ _ _ (by decide) (by decide), List.take_append_drop, vis_encode])
end Go.Ph.B64
