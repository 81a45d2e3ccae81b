/-
  Wd, We, Wf, Wg: own texts of this repository (wip/tpl, wip/plans), merged and shaken by wip/tools/pack.py.
-/
import Derived.Test.YtogkmhjnojphiaaDoorE2d
set_option maxRecDepth 100000
section
set_option linter.unusedVariables false
set_option linter.unusedSimpArgs false
namespace Go.Ph.Wd
open Go.Ph.Pl Go.Ph.Pf
open Go.Ph.Gr (chars Ch pieces byts segs)
open Go.Ph.Chs (vld setN setOf encK encGo decoded utf8 bestK)
open Go.Ph.Utf (rune dr)
theorem prefix_eq (s p : List UInt8) (hs : s.length ≤ 9223372036854775807) : strings_HasPrefix s p = some (decide (p <+: s)) := by
  unfold strings_HasPrefix stringslite_HasPrefix
  by_cases h : p.length ≤ s.length
  · rw [if_pos (by omega), cut_to rfl h, bsome, bsome, bsome]
    congr 1
    rw [decide_eq_decide, List.prefix_iff_eq_take]
    exact ⟨fun e => e.symm, fun e => e.symm⟩
  · rw [if_neg (by omega), bsome, bsome, decide_eq_false (fun e => h e.length_le)]
theorem suffix_eq (s p : List UInt8) (hs : s.length ≤ 9223372036854775807) : strings_HasSuffix s p = some (decide (p <:+ s)) := by
  unfold strings_HasSuffix stringslite_HasSuffix
  by_cases h : p.length ≤ s.length
  · rw [if_pos (by omega), chk_ok (by omega) (by omega), bsome, show (s.length : Int) - (p.length : Int) = ((s.length - p.length : Nat) : Int) by omega, cut_from rfl (by omega), bsome, bsome, bsome]
    congr 1
    rw [decide_eq_decide, List.suffix_iff_eq_drop]
    exact ⟨fun e => e.symm, fun e => e.symm⟩
  · rw [if_neg (by omega), bsome, bsome, decide_eq_false (fun e => h e.length_le)]
def fnd (s sub : List UInt8) (i : Nat) : Int := if Lib.index (s.drop i) sub = -1 then -1 else (i : Int) + Lib.index (s.drop i) sub
theorem fnd_here {s sub : List UInt8} {i : Nat} (hi : i < s.length) (h : sub <+: s.drop i) : fnd s sub i = (i : Int) := by
  unfold fnd
  rw [List.drop_eq_getElem_cons hi] at h ⊢
  have : Lib.index (s[i] :: s.drop (i + 1)) sub = 0 := by rw [Lib.index, if_pos (List.isPrefixOf_iff_prefix.2 h)]
  rw [this]; simp
theorem fnd_next {s sub : List UInt8} {i : Nat} (hi : i < s.length) (h : ¬ sub <+: s.drop i) : fnd s sub i = fnd s sub (i + 1) := by
  unfold fnd
  have hd := List.drop_eq_getElem_cons hi
  rw [hd] at h ⊢
  have hn : ¬ sub.isPrefixOf (s[i] :: s.drop (i + 1)) = true := fun e => h (List.isPrefixOf_iff_prefix.1 e)
  have h1 := Lib.index_ge (s.drop (i + 1)) sub
  rw [Lib.index, if_neg hn]
  by_cases h2 : Lib.index (s.drop (i + 1)) sub = -1
  · rw [h2]; simp
  · have h3 : ¬ (Lib.index (s.drop (i + 1)) sub == -1) = true := by simpa using h2
    rw [if_neg h3, if_neg h2, if_neg (by omega)]; omega
def okc (c : UInt8) : Bool := decide (32 ≤ c.toNat ∧ c.toNat ≤ 126)
def pln (s : List UInt8) : Bool := s.all okc && (!decide ([32] <+: s) && (!decide ([32] <:+ s) && !Lib.contains s [61, 63]))
theorem all_any (s : List UInt8) : s.all okc = !s.any fun c => !okc c := by
  induction s with
  | nil => rfl
  | cons c s ih => rw [List.all_cons, List.any_cons, ih]; cases okc c <;> simp
theorem okc_prog (c : UInt8) : (if c.toNat < 32 then some true else some (decide (126 < c.toNat))) = some (!okc c) := by
  unfold okc
  by_cases h : c.toNat < 32
  · rw [if_pos h, decide_eq_false (by omega)]; rfl
  · rw [if_neg h]
    by_cases h2 : 126 < c.toNat
    · rw [decide_eq_true h2, decide_eq_false (by omega)]; rfl
    · rw [decide_eq_false h2, decide_eq_true (by omega)]; rfl
theorem plain_eq (s : List UInt8) (hs : s.length ≤ 1000000) : words_plain s = some (pln s) := by
  unfold words_plain strings_Contains pln
  rw [all_any, scan0 (L := fun m i => words_plain_L1 s m i) (l := s) (p := fun c => !okc c) (stop := .inl ()) (r := .inr false) (by rw [FU_eq]; omega) (fun m => by rw [words_plain_L1, if_neg (by omega)]) (fun m i h => by
    rw [words_plain_L1, if_pos (by omega), idx_nat, List.getElem?_eq_getElem h, bsome, bsome, okc_prog, bsome]
    by_cases hc : (!okc s[i]) = true
    · rw [if_pos hc, if_pos hc]
    · rw [if_neg hc, if_neg hc, chk_succ (by omega), bsome]), bsome]
  by_cases ha : (s.any fun c => !okc c) = true
  · rw [if_pos ha, ha]; rfl
  · have ha' := (Bool.not_eq_true _).mp ha
    rw [if_neg ha, ha']
    dsimp only
    rw [prefix_eq s [32] (by omega), bsome]
    by_cases h1 : [32] <+: s
    · rw [decide_eq_true h1, if_pos rfl, bsome]; rfl
    · rw [decide_eq_false h1, if_neg Bool.false_ne_true, suffix_eq s [32] (by omega), bsome]
      by_cases h2 : [32] <:+ s
      · rw [decide_eq_true h2, if_pos rfl, bsome]; rfl
      · rw [decide_eq_false h2, if_neg Bool.false_ne_true, if_pos (by omega), bsome, bsome]; rfl
theorem pre1 (s : List UInt8) (c : UInt8) : [c] <+: s ↔ s.head? = some c := by
  cases s with
  | nil => simp
  | cons a s => simp [List.cons_prefix_cons, eq_comm]
theorem contains_fnd (s sub : List UInt8) : Lib.contains s sub = !decide (fnd s sub 0 < 0) := by
  unfold Lib.contains fnd
  have h1 := Lib.index_ge s sub
  rw [List.drop_zero]
  by_cases h : Lib.index s sub = -1
  · rw [if_pos h, h]; rfl
  · rw [if_neg h, decide_eq_true (by omega), decide_eq_false (by omega)]; rfl
theorem bestK_le (l : List UInt8) : bestK l ≤ 2 := by unfold bestK; split; · omega
                                                      split <;> omega
theorem best_ok {l : List UInt8} (hv : vld l = true) : okE (bestK l) l := by
  refine ⟨hv, fun c hc => ?_⟩
  have h0 : 0 ≤ c.1 := by
    unfold vld at hv
    exact of_decide_eq_true (List.all_eq_true.1 hv c hc)
  have hf : Chs.fix0 c.1 = c.1 := by unfold Chs.fix0; rw [if_neg (by omega)]
  unfold bestK encK
  by_cases h1 : (chars l).any (fun c => decide (255 < Chs.fix0 c.1)) = true
  · rw [if_pos h1]; exact ⟨_, rfl⟩
  · rw [if_neg h1]
    have h1' : c.1 ≤ 255 := by
      have := mt (List.any_eq_true.2) h1
      have h2 : ¬ 255 < Chs.fix0 c.1 := fun e => this ⟨c, hc, decide_eq_true e⟩
      omega
    by_cases h2 : (chars l).any (fun c => decide (127 < Chs.fix0 c.1)) = true
    · rw [if_pos h2]
      refine ⟨[ub c.1], ?_⟩
      show Chs.encS 256 c.1 = _
      unfold Chs.encS; rw [if_pos (by omega)]
    · rw [if_neg h2]
      have h3 : c.1 ≤ 127 := by
        have := mt (List.any_eq_true.2) h2
        have h4 : ¬ 127 < Chs.fix0 c.1 := fun e => this ⟨c, hc, decide_eq_true e⟩
        omega
      refine ⟨[ub c.1], ?_⟩
      show Chs.encS 128 c.1 = _
      unfold Chs.encS; rw [if_pos (by omega)]
theorem example_eq : L_wordsExample = some true := by decide +kernel
theorem encode_big {s : List UInt8} (h : 1000 < s.length) : words_Encode s = some ([], (1, -1)) := by
  unfold words_Encode basic_Fault
  rw [if_pos (by omega), bsome]
theorem encode_mal {s : List UInt8} (h : s.length ≤ 1000) (hv : vld s = false) : words_Encode s = some ([], (5, -2)) := by
  unfold words_Encode basic_Fault utf8_ValidString
  rw [if_neg (by omega), if_pos (by omega), bsome, hv, if_neg Bool.false_ne_true, bsome]
theorem encode_own {s : List UInt8} (h : s.length ≤ 1000) (hv : vld s = true) (hp : pln s = true) : words_Encode s = some (s, (0, 0)) := by
  unfold words_Encode basic_None utf8_ValidString
  rw [if_neg (by omega), if_pos (by omega), bsome, hv, if_pos rfl, plain_eq _ (by omega), bsome, hp, if_pos rfl, bsome]
theorem encode_rep {s : List UInt8} (h : s.length ≤ 1000) (hv : vld s = true) (hp : pln s = false) : words_Encode s = some (rep (bestK s) s, (0, 0)) := by
  have hb := bestK_le s
  have h0 : s ≠ [] := by rintro rfl; revert hp; decide
  have ht := encTail (k := bestK s) (by omega) h h0 (best_ok hv)
  unfold words_Encode utf8_ValidString charset_Best
  rw [if_neg (by omega), if_pos (by omega), bsome, hv, if_pos rfl, plain_eq _ (by omega), bsome, hp, if_neg Bool.false_ne_true, bsome]
  exact ht
theorem dq1_ok (c : UInt8) : ∀ x ∈ dq1 c, 33 ≤ x.toNat ∧ x.toNat ≤ 126 ∧ x ≠ 63 := by
  refine allB (p := fun c => ∀ x ∈ dq1 c, 33 ≤ x.toNat ∧ x.toNat ≤ 126 ∧ x ≠ 63) ?_ c
  decide +kernel
theorem alpha_ok : ∀ c ∈ (61 :: B64.alpha), 33 ≤ c.toNat ∧ c.toNat ≤ 126 ∧ c ≠ 63 := by decide
theorem chars64_ok (l : List UInt8) : ∀ x ∈ B64.chars64 l, 33 ≤ x.toNat ∧ x.toNat ≤ 126 ∧ x ≠ 63 := fun c hc => by
  rw [B64.chars_grps] at hc
  obtain ⟨g, hg, hc⟩ := List.mem_flatten.1 hc
  unfold B64.grps B64.grpsTo at hg
  obtain ⟨q, _, rfl⟩ := List.mem_map.1 hg
  have hch : ∀ (m : List UInt8) i, 33 ≤ (B64.ch m i).toNat ∧ (B64.ch m i).toNat ≤ 126 ∧ B64.ch m i ≠ 63 := fun m i => by
    unfold B64.ch
    split
    · decide
    · have hlt : B64.accN m 3 / 2 ^ (18 - 6 * i) % 64 < B64.alpha.length := Nat.mod_lt _ (by decide)
      rw [B64.getD_in _ _ _ hlt]
      exact alpha_ok _ (List.mem_cons_of_mem _ (List.getElem_mem hlt))
  unfold B64.grpAt at hc
  rw [B64.outp_eq] at hc
  simp only [List.mem_cons, List.not_mem_nil, or_false] at hc
  rcases hc with rfl | rfl | rfl | rfl <;> exact hch _ _
theorem nam_ok : ∀ k, k < 4 → ∀ x ∈ nam k, 33 ≤ x.toNat ∧ x.toNat ≤ 126 ∧ x ≠ 63 := by decide
theorem unit_75 {k : Nat} (hk : k < 4) {l : List UInt8} : ∀ u ∈ unitsC k l, (W k (byts u)).length ≤ 75 := fun u hu => by
  obtain ⟨g, hg, hu⟩ := List.mem_flatMap.1 hu
  obtain ⟨A, B, hAB⟩ := seg_mid (Gr.segs_flat (chars l)) hg
  unfold usC at hu
  split at hu
  · rename_i hw
    simp only [List.mem_cons, List.not_mem_nil, or_false] at hu
    rw [hu]; exact hw
  · obtain ⟨c, hc, rfl⟩ := List.mem_map.1 hu
    obtain ⟨a, b, rfl⟩ := List.append_of_mem hc
    have h1 : chars (byts [c]) = [c] := chars_mid (l := l) (A := A ++ a) (g := [c]) (B := b ++ B) (by rw [hAB]; simp)
    have h2 : (enc k (byts [c])).length ≤ 4 := by
      unfold enc
      rw [h1]
      simp only [List.flatMap_cons, List.flatMap_nil, List.append_nil]
      cases he : encK k c.1 with
      | none => simp
      | some b => exact Chs.encK_len he
    have h3 := wrap_len k hk (enc k (byts [c]))
    unfold W; omega
theorem p2_75 (k : Nat) : ∀ (us : List (List Ch)) (now : List Ch), (W k (byts now)).length ≤ 75 → (∀ u ∈ us, (W k (byts u)).length ≤ 75) → ∀ g ∈ p2 k now us, (W k (byts g)).length ≤ 75
  | [], now, h, _ => by intro g hg; simp [p2] at hg; rw [hg]; exact h
  | u :: us, now, h, hu => by
    rw [p2]
    split
    · rename_i hw; exact p2_75 k us (now ++ u) hw (fun x hx => hu x (by simp [hx]))
    · intro g hg
      rcases List.mem_cons.1 hg with rfl | hg
      · exact h
      · exact p2_75 k us u (hu u (by simp)) (fun x hx => hu x (by simp [hx])) g hg
theorem part_75 {k : Nat} (hk : k < 4) {l : List UInt8} : ∀ g ∈ parts k (unitsC k l), (W k (byts g)).length ≤ 75 := by
  have h := unit_75 hk (l := l)
  cases hus : unitsC k l with
  | nil => intro g hg; cases hg
  | cons u us => rw [hus] at h; exact p2_75 k us u (h u (by simp)) (fun x hx => h x (by simp [hx]))
end Go.Ph.Wd
end
section
set_option linter.unusedVariables false
set_option linter.unusedSimpArgs false
namespace Go.Ph.Wd
open Go.Ph.Pl Go.Ph.Pf
open Go.Ph.Gr (chars Ch pieces byts segs)
open Go.Ph.Chs (vld setN setOf encK encGo decoded utf8 bestK lower lowB)
open Go.Ph.Utf (rune dr)
def q1 : List UInt8 → Option (List UInt8 × List UInt8)
  | [] => none
  | c :: t => if c = 63 then some ([], t) else (q1 t).map fun p => (c :: p.1, p.2)
theorem q1_some : ∀ {x A r : List UInt8}, q1 x = some (A, r) → x = A ++ 63 :: r ∧ 63 ∉ A
  | [], A, r, h => by cases h
  | c :: t, A, r, h => by
    rw [q1] at h
    split at h
    · rename_i hc; cases h; exact ⟨by rw [hc]; rfl, by simp⟩
    · rename_i hc
      obtain ⟨⟨A', r'⟩, h1, h2⟩ := Option.map_eq_some_iff.1 h
      cases h2
      obtain ⟨h3, h4⟩ := q1_some h1
      exact ⟨by rw [h3]; rfl, by simp [Ne.symm hc, h4]⟩
theorem q1_of : ∀ {A r : List UInt8}, 63 ∉ A → q1 (A ++ 63 :: r) = some (A, r)
  | [], r, _ => by simp [q1]
  | c :: A, r, h => by
    simp only [List.mem_cons, not_or] at h
    rw [List.cons_append, q1, if_neg (fun e => h.1 e.symm), q1_of h.2]; rfl
theorem q1_none : ∀ {x : List UInt8}, q1 x = none ↔ 63 ∉ x
  | [] => by simp [q1]
  | c :: t => by
    rw [q1]
    split
    · rename_i hc; simp [hc]
    · rename_i hc; rw [Option.map_eq_none_iff, q1_none]; simp [Ne.symm hc]
theorem q1_take (x : List UInt8) (n : Nat) : q1 (x.take n) = match q1 x with | some (A, r) => if A.length < n then some (A, r.take (n - A.length - 1)) else none | none => none := by
  cases hq : q1 x with
  | none =>
    have := q1_none.1 hq
    exact q1_none.2 (fun hm => this (List.mem_of_mem_take hm))
  | some p =>
    obtain ⟨A, r⟩ := p
    obtain ⟨h1, h2⟩ := q1_some hq
    dsimp only
    split
    · rename_i hn
      rw [h1, List.take_append, List.take_of_length_le (by omega), show n - A.length = (n - A.length - 1) + 1 by omega, List.take_succ_cons]
      exact q1_of h2
    · rename_i hn
      refine q1_none.2 (fun hm => h2 ?_)
      rw [h1, List.take_append, show n - A.length = 0 by omega, List.take_zero, List.append_nil] at hm
      exact List.mem_of_mem_take hm
theorem index_q1 : ∀ x : List UInt8, Lib.index x [63] = match q1 x with | some p => (p.1.length : Int) | none => -1
  | [] => rfl
  | c :: t => by
    rw [Lib.index, q1]
    by_cases hc : c = 63
    · rw [if_pos (by simp [List.isPrefixOf, hc]), if_pos hc]; rfl
    · rw [if_neg (by simp [List.isPrefixOf, Ne.symm hc]), if_neg hc, index_q1 t]
      cases q1 t with
      | none => rfl
      | some p =>
        have : ¬ (((p.1.length : Int) == -1) = true) := by simp
        rw [Option.map_some]
        dsimp only
        rw [if_neg this, List.length_cons]
        exact (Int.natCast_succ _).symm
theorem splitK_q1 (k : Nat) (x : List UInt8) : Lib.splitK [63] 0 (k + 1) x = match q1 x with | some p => p.1 :: Lib.splitK [63] 0 k p.2 | none => [x] := by
  rw [Lib.splitK, index_q1]
  cases hq : q1 x with
  | none => rfl
  | some p =>
    obtain ⟨A, r⟩ := p
    obtain ⟨h1, h2⟩ := q1_some hq
    have : ¬ (((A.length : Int) == -1) = true) := by simp
    simp only [if_neg this, Int.toNat_natCast, Nat.add_zero, List.length_cons, List.length_nil, Nat.zero_add]
    rw [h1, List.take_left' rfl, List.drop_append, List.drop_eq_nil_of_le (by omega), show A.length + 1 - A.length = 1 by omega]
    rfl
def sp3 (x : List UInt8) : Option (List UInt8 × List UInt8 × List UInt8 × List UInt8) :=
  (q1 x).bind fun a => (q1 a.2).bind fun b => (q1 b.2).bind fun c => some (a.1, b.1, c.1, c.2)
theorem splitK_len : ∀ (k : Nat) (x : List UInt8), (Lib.splitK [63] 0 k x).length ≤ k + 1
  | 0, x => by simp [Lib.splitK]
  | k + 1, x => by
    rw [splitK_q1]
    cases q1 x with
    | none => simp
    | some p => have := splitK_len k p.2; simp; omega
theorem sp3_some {x A K D r : List UInt8} (h : sp3 x = some (A, K, D, r)) : x = A ++ 63 :: (K ++ 63 :: (D ++ 63 :: r)) ∧ 63 ∉ A ∧ 63 ∉ K ∧ 63 ∉ D := by
  unfold sp3 at h
  obtain ⟨⟨A', r1⟩, h1, h⟩ := bnd h
  obtain ⟨⟨K', r2⟩, h2, h⟩ := bnd h
  obtain ⟨⟨D', r3⟩, h3, h⟩ := bnd h
  cases h
  obtain ⟨e1, n1⟩ := q1_some h1
  obtain ⟨e2, n2⟩ := q1_some h2
  obtain ⟨e3, n3⟩ := q1_some h3
  dsimp only at e2 e3
  exact ⟨by rw [e1, e2, e3], n1, n2, n3⟩
theorem sp3_of {A K D r : List UInt8} (h1 : 63 ∉ A) (h2 : 63 ∉ K) (h3 : 63 ∉ D) : sp3 (A ++ 63 :: (K ++ 63 :: (D ++ 63 :: r))) = some (A, K, D, r) := by
  unfold sp3
  rw [q1_of h1, bsome, q1_of h2, bsome, q1_of h3, bsome]
theorem split4_some {x A K D r : List UInt8} (h : sp3 x = some (A, K, D, r)) : Lib.splitN x [63] 4 = [A, K, D, r] := by
  have hx := (sp3_some h).1
  have hl : 3 ≤ x.length := by rw [hx]; simp; omega
  unfold sp3 at h
  obtain ⟨a, h1, h⟩ := bnd h
  obtain ⟨b, h2, h⟩ := bnd h
  obtain ⟨c, h3, h⟩ := bnd h
  cases h
  unfold Lib.splitN
  rw [show min 4 (x.length + 1) - 1 = 3 by omega, splitK_q1, h1]
  dsimp only
  rw [splitK_q1, h2]
  dsimp only
  rw [splitK_q1, h3]
  rfl
theorem split4_none {x : List UInt8} (h : sp3 x = none) : (Lib.splitN x [63] 4).length < 4 := by
  unfold Lib.splitN
  by_cases hl : 3 ≤ x.length
  · rw [show min 4 (x.length + 1) - 1 = 3 by omega, splitK_q1]
    unfold sp3 at h
    cases h1 : q1 x with
    | none => simp
    | some a =>
      rw [h1, bsome] at h
      dsimp only
      rw [splitK_q1]
      cases h2 : q1 a.2 with
      | none => simp
      | some b =>
        rw [h2, bsome] at h
        dsimp only
        rw [splitK_q1]
        cases h3 : q1 b.2 with
        | none => simp
        | some c => rw [h3, bsome] at h; cases h
  · have := splitK_len (min 4 (x.length + 1) - 1) x
    omega
theorem sp3_take (x : List UInt8) (n : Nat) : sp3 (x.take n) = match sp3 x with | some (A, K, D, r) => if A.length + K.length + D.length + 2 < n then some (A, K, D, r.take (n - (A.length + K.length + D.length + 3))) else none | none => none := by
  cases h : sp3 x with
  | none =>
    unfold sp3 at h ⊢
    rw [q1_take]
    cases h1 : q1 x with
    | none => rfl
    | some a =>
      rw [h1, bsome] at h
      dsimp only
      split
      · rw [bsome, q1_take]
        dsimp only
        cases h2 : q1 a.2 with
        | none => rfl
        | some b =>
          rw [h2, bsome] at h
          dsimp only
          split
          · rw [bsome, q1_take]
            dsimp only
            cases h3 : q1 b.2 with
            | none => rfl
            | some c => rw [h3, bsome] at h; cases h
          · rfl
      · rfl
  | some p =>
    obtain ⟨A, K, D, r⟩ := p
    unfold sp3 at h ⊢
    obtain ⟨⟨A', r1⟩, h1, h⟩ := bnd h
    obtain ⟨⟨K', r2⟩, h2, h⟩ := bnd h
    obtain ⟨⟨D', r3⟩, h3, h⟩ := bnd h
    cases h
    dsimp only at h2 h3 ⊢
    rw [q1_take, h1]
    dsimp only
    by_cases n1 : A'.length < n
    · rw [if_pos n1, bsome, q1_take, h2]
      dsimp only
      by_cases n2 : K'.length < n - A'.length - 1
      · rw [if_pos n2, bsome, q1_take, h3]
        dsimp only
        by_cases n3 : D'.length < n - A'.length - 1 - K'.length - 1
        · rw [if_pos n3, bsome, if_pos (by show A'.length + K'.length + D'.length + 2 < n; omega)]
          rw [show n - A'.length - 1 - K'.length - 1 - D'.length - 1 = n - (A'.length + K'.length + D'.length + 3) by omega]
        · rw [if_neg n3, if_neg (by show ¬ A'.length + K'.length + D'.length + 2 < n; omega)]; rfl
      · rw [if_neg n2, if_neg (by show ¬ A'.length + K'.length + D'.length + 2 < n; omega)]; rfl
    · rw [if_neg n1, if_neg (by show ¬ A'.length + K'.length + D'.length + 2 < n; omega)]; rfl
def hexv (c : UInt8) : Option Nat := if 48 ≤ c.toNat ∧ c.toNat ≤ 57 then some (c.toNat - 48) else if 65 ≤ c.toNat ∧ c.toNat ≤ 70 then some (c.toNat - 55) else if 97 ≤ c.toNat ∧ c.toNat ≤ 102 then some (c.toNat - 87) else none
theorem hexv_lt {c : UInt8} {x : Nat} (h : hexv c = some x) : x < 16 := by
  have : ∀ c : UInt8, ∀ x, hexv c = some x → x < 16 := fun c => by
    refine allB (p := fun c => ∀ x, hexv c = some x → x < 16) ?_ c
    intro n hn x hx
    have h2 : ∀ n, n < 256 → (hexv (UInt8.ofNat n)).all (fun x => decide (x < 16)) = true := by decide +kernel
    have := h2 n hn
    rw [hx] at this
    exact of_decide_eq_true this
  exact this c x h
theorem hex_eq (c : UInt8) : basic_Hex c = some ((match hexv c with | some x => UInt8.ofNat x | none => 0), (hexv c).isSome) := by
  refine allB (p := fun c => basic_Hex c = some ((match hexv c with | some x => UInt8.ofNat x | none => 0), (hexv c).isSome)) ?_ c
  decide +kernel
theorem two16 : ∀ x, x < 16 → ∀ y, y < 16 → (UInt8.ofNat ((UInt8.ofNat x).toNat * 2 ^ 4)) ||| UInt8.ofNat y = UInt8.ofNat (16 * x + y) := by decide +kernel
def hex2 (a b : UInt8) : Option UInt8 := match hexv a, hexv b with | some x, some y => some (UInt8.ofNat (16 * x + y)) | _, _ => none
theorem pair_short {s : List UInt8} (h : s.length < 2) : basic_Pair s = some (0, false) := by
  unfold basic_Pair; rw [if_pos (by omega)]
theorem pair_eq (a b : UInt8) (t : List UInt8) : ∃ c, basic_Pair (a :: b :: t) = some (c, (hex2 a b).isSome) ∧ ∀ z, hex2 a b = some z → c = z := by
  unfold basic_Pair
  rw [if_neg (by simp; omega), show (0 : Int) = ((0 : Nat) : Int) from rfl, idx_nat, show (1 : Int) = ((1 : Nat) : Int) from rfl, idx_nat]
  simp only [List.getElem?_cons_zero, List.getElem?_cons_succ, bsome, hex_eq]
  unfold hex2
  cases ha : hexv a with
  | none => exact ⟨_, by rfl, fun z hz => by cases hz⟩
  | some x =>
    cases hb : hexv b with
    | none => exact ⟨_, by rfl, fun z hz => by cases hz⟩
    | some y => exact ⟨_, by rfl, fun z hz => by cases hz; exact two16 x (hexv_lt ha) y (hexv_lt hb)⟩
def hexd2 : List UInt8 → Option (UInt8 × List UInt8)
  | a :: b :: t => (hex2 a b).map fun z => (z, t)
  | _ => none
theorem hexd2_len {t : List UInt8} {p : UInt8 × List UInt8} (h : hexd2 t = some p) : p.2 = t.drop 2 ∧ 2 ≤ t.length := by
  rcases t with _ | ⟨a, _ | ⟨b, t⟩⟩
  · cases h
  · cases h
  · obtain ⟨z, _, rfl⟩ := Option.map_eq_some_iff.1 h
    exact ⟨rfl, by simp⟩
def uqF : Nat → List UInt8 → Option (List UInt8)
  | 0, _ => none
  | n + 1, [] => some []
  | n + 1, c :: t => if c = 95 then (uqF n t).map (32 :: ·) else if c = 61 then (hexd2 t).bind fun p => (uqF n p.2).map (p.1 :: ·) else if 33 ≤ c.toNat ∧ c.toNat ≤ 126 then (uqF n t).map (c :: ·) else none
theorem uqF_more : ∀ (n m : Nat) (l : List UInt8), l.length < n → l.length < m → uqF n l = uqF m l
  | n + 1, m + 1, [], _, _ => rfl
  | n + 1, m + 1, c :: t, h1, h2 => by
    simp only [List.length_cons] at h1 h2
    rw [uqF, uqF]
    have h0 := uqF_more n m t (by omega) (by omega)
    rw [h0]
    cases hp : hexd2 t with
    | none => rfl
    | some p =>
      obtain ⟨h3, h4⟩ := hexd2_len hp
      rw [bsome, bsome, uqF_more n m p.2 (by rw [h3, List.length_drop]; omega) (by rw [h3, List.length_drop]; omega)]
def uq (l : List UInt8) : Option (List UInt8) := uqF (l.length + 1) l
theorem uq_nil : uq [] = some [] := rfl
theorem uq_cons (c : UInt8) (t : List UInt8) : uq (c :: t) = if c = 95 then (uq t).map (32 :: ·) else if c = 61 then (hexd2 t).bind fun p => (uq p.2).map (p.1 :: ·) else if 33 ≤ c.toNat ∧ c.toNat ≤ 126 then (uq t).map (c :: ·) else none := by
  unfold uq
  rw [List.length_cons, uqF]
  cases hp : hexd2 t with
  | none => rfl
  | some p =>
    obtain ⟨h3, h4⟩ := hexd2_len hp
    rw [bsome, bsome, uqF_more (t.length + 1) (p.2.length + 1) p.2 (by rw [h3, List.length_drop]; omega) (by omega)]
theorem uq_L1 (D : List UInt8) (hD : D.length ≤ 1000000) : ∀ (d i m : Nat) (acc : List UInt8), D.length - i ≤ d → d < m → i ≤ D.length → acc.length ≤ i →
    words_bytesOf_L1 D m acc (i : Int) = some (match uq (D.drop i) with | some r => .inl (acc ++ r) | none => .inr ([], false)) := by
  intro d
  induction d using Nat.strongRecOn with
  | ind d ih =>
    intro i m acc h1 h2 h3 h4
    obtain ⟨m, rfl⟩ : ∃ k, m = k + 1 := ⟨m - 1, by omega⟩
    rw [words_bytesOf_L1]
    by_cases hi : i < D.length
    · have hd := List.drop_eq_getElem_cons hi
      rw [if_pos (by omega), idx_nat, List.getElem?_eq_getElem hi, bsome, hd, uq_cons]
      by_cases c1 : D[i] = 95
      · rw [if_pos c1, if_pos c1, app_ok (by simp; omega), bsome, chk_succ (by omega), bsome, ih (d - 1) (by omega) (i + 1) m _ (by omega) (by omega) (by omega) (by simp; omega)]
        cases uq (D.drop (i + 1)) <;> simp
      · rw [if_neg c1, if_neg c1, bsome]
        by_cases c2 : D[i] = 61
        · rw [if_pos c2, if_pos c2, chk_succ (by omega), bsome, cut_from rfl (by omega), bsome]
          by_cases hs : (D.drop (i + 1)).length < 2
          · rw [pair_short hs, bsome]
            dsimp only
            rw [if_neg Bool.false_ne_true]
            have : hexd2 (D.drop (i + 1)) = none := by
              cases hx : hexd2 (D.drop (i + 1)) with
              | none => rfl
              | some p => have := hexd2_len hx; omega
            rw [this]; rfl
          · rw [List.length_drop] at hs
            have e1 := List.drop_eq_getElem_cons (show i + 1 < D.length by omega)
            have e2 := List.drop_eq_getElem_cons (show i + 1 + 1 < D.length by omega)
            rw [e1, e2]
            obtain ⟨c, hc1, hc2⟩ := pair_eq D[i + 1] D[i + 1 + 1] (D.drop (i + 1 + 1 + 1))
            rw [hc1, bsome]
            dsimp only [hexd2]
            cases hx : hex2 D[i + 1] D[i + 1 + 1] with
            | none => rw [if_neg (by simp)]; rfl
            | some z =>
              obtain rfl := hc2 z hx
              rw [if_pos (by simp), app_ok (by simp; omega), bsome, show (i : Int) + 2 = ((i + 1 + 1 : Nat) : Int) by omega, chk_ok (by omega) (by omega), bsome, chk_succ (by omega), bsome, ih (d - 3) (by omega) (i + 1 + 1 + 1) m _ (by omega) (by omega) (by omega) (by simp; omega)]
              rw [Option.map_some, bsome]
              dsimp only
              cases uq (D.drop (i + 1 + 1 + 1)) <;> simp
        · rw [if_neg c2, if_neg c2, bsome]
          by_cases c3 : 33 ≤ D[i].toNat
          · rw [if_pos c3, bsome, bsome]
            by_cases c4 : D[i].toNat ≤ 126
            · rw [if_pos (decide_eq_true c4), if_pos ⟨c3, c4⟩, bsome, app_ok (by simp; omega), bsome, chk_succ (by omega), bsome, ih (d - 1) (by omega) (i + 1) m _ (by omega) (by omega) (by omega) (by simp; omega)]
              cases uq (D.drop (i + 1)) <;> simp
            · rw [if_neg (by rw [decide_eq_true_eq]; exact c4), if_neg (fun e => c4 e.2)]
          · rw [if_neg c3, bsome, if_neg Bool.false_ne_true, if_neg (fun e => c3 e.1)]
    · rw [if_neg (by omega), List.drop_eq_nil_of_le (by omega), uq_nil]; simp
def bytesP (K D : List UInt8) : Option (List UInt8) := if lower K = [98] then (if B64.chars64 (B64.lenient D) = D then some (B64.lenient D) else none) else if lower K = [113] then uq D else none
theorem lower_one (K : List UInt8) (a b : UInt8) (h : ∀ c, lowB c = b ↔ c = a ∨ c = b) : lower K = [b] ↔ K = [a] ∨ K = [b] := by
  rcases K with _ | ⟨c, _ | ⟨d, K⟩⟩
  · simp [lower]
  · simp [lower, h c]
  · simp [lower]
theorem lowB_b (c : UInt8) : lowB c = 98 ↔ c = 66 ∨ c = 98 := by
  refine allB (p := fun c => lowB c = 98 ↔ c = 66 ∨ c = 98) ?_ c
  decide +kernel
theorem lowB_q (c : UInt8) : lowB c = 113 ↔ c = 81 ∨ c = 113 := by
  refine allB (p := fun c => lowB c = 113 ↔ c = 81 ∨ c = 113) ?_ c
  decide +kernel
theorem kind_b (K : List UInt8) : (if K = [66] then some (decide (K = [66])) else some (decide (K = [98]))) = some (decide (lower K = [98])) := by
  have h := lower_one K 66 98 lowB_b
  by_cases h1 : K = [66]
  · rw [if_pos h1, decide_eq_true h1, decide_eq_true (h.2 (.inl h1))]
  · rw [if_neg h1]; congr 1; rw [decide_eq_decide, h]; simp [h1]
theorem kind_q (K : List UInt8) : (if K = [81] then some (decide (K = [81])) else some (decide (K = [113]))) = some (decide (lower K = [113])) := by
  have h := lower_one K 81 113 lowB_q
  by_cases h1 : K = [81]
  · rw [if_pos h1, decide_eq_true h1, decide_eq_true (h.2 (.inl h1))]
  · rw [if_neg h1]; congr 1; rw [decide_eq_decide, h]; simp [h1]
theorem lenient_len (D : List UInt8) : (B64.lenient D).length ≤ D.length := by
  unfold B64.lenient
  refine Nat.le_trans (B64.lrun_len _) ?_
  unfold B64.upto61
  exact (List.takeWhile_sublist _).length_le
theorem uqF_len : ∀ (n : Nat) (l r : List UInt8), uqF n l = some r → r.length ≤ l.length := by
  intro n
  induction n with
  | zero => intro l r h; cases h
  | succ n ih =>
    intro l r h
    cases l with
    | nil => rw [uqF] at h; cases h; simp
    | cons c t =>
      rw [uqF] at h
      split at h
      · obtain ⟨y, hy, rfl⟩ := Option.map_eq_some_iff.1 h
        have := ih t y hy; simp; omega
      · split at h
        · obtain ⟨p, hp, h⟩ := bnd h
          obtain ⟨y, hy, rfl⟩ := Option.map_eq_some_iff.1 h
          have := ih p.2 y hy
          obtain ⟨h3, h4⟩ := hexd2_len hp
          rw [h3, List.length_drop] at this
          simp; omega
        · split at h
          · obtain ⟨y, hy, rfl⟩ := Option.map_eq_some_iff.1 h
            have := ih t y hy; simp; omega
          · cases h
theorem bytes_eq (K D : List UInt8) (hD : D.length ≤ 10000) : ∃ b, words_bytesOf K D = some (b, (bytesP K D).isSome) ∧ b.length ≤ D.length ∧ ∀ x, bytesP K D = some x → b = x := by
  have hl := lenient_len D
  unfold words_bytesOf bytesP
  rw [kind_b, bsome]
  by_cases h1 : lower K = [98]
  · rw [if_pos (decide_eq_true h1), if_pos h1, toB_ok (by omega), bsome]
    unfold base64_Lenient
    rw [if_pos (by omega), bsome]
    dsimp only
    rw [flat_eq _ (by omega), bsome]
    refine ⟨B64.lenient D, ?_, hl, fun x hx => ?_⟩
    · by_cases h2 : B64.chars64 (B64.lenient D) = D
      · rw [decide_eq_true h2, if_pos h2]; rfl
      · rw [decide_eq_false h2, if_neg h2]; rfl
    · split at hx
      · cases hx; rfl
      · cases hx
  · rw [if_neg (by rw [decide_eq_true_eq]; exact h1), if_neg h1, kind_q, bsome]
    by_cases h2 : lower K = [113]
    · rw [if_pos (decide_eq_true h2), if_pos h2]
      have := uq_L1 D (by omega) D.length 0 FU [] (by omega) (by rw [FU_eq]; omega) (by omega) (by simp)
      rw [show ((0 : Nat) : Int) = 0 from rfl, List.drop_zero] at this
      rw [this, bsome]
      cases hq : uq D with
      | none => exact ⟨[], rfl, by simp, fun x hx => by cases hx⟩
      | some r => exact ⟨r, rfl, uqF_len _ _ _ hq, fun x hx => by cases hx; rfl⟩
    · rw [if_neg (by rw [decide_eq_true_eq]; exact h2), if_neg h2]
      exact ⟨[], rfl, by simp, fun x hx => by cases hx⟩
def body (A K D : List UInt8) : Option (List UInt8) := (setOf A).bind fun k => (bytesP K D).map (decoded k)
def pw (t : List UInt8) : Option (List UInt8 × Nat) :=
  if [61, 63] <+: t then (sp3 (t.drop 2)).bind fun p => if [61] <+: p.2.2.2 ∧ p.1.length + p.2.1.length + p.2.2.1.length + 6 ≤ 75 then (body p.1 p.2.1 p.2.2.1).map fun x => (x, p.1.length + p.2.1.length + p.2.2.1.length + 6) else none else none
theorem pre_take {c : UInt8} {r : List UInt8} {n : Nat} (hn : 1 ≤ n) : [c] <+: r.take n ↔ [c] <+: r := by
  rw [pre1, pre1]
  cases r with
  | nil => simp
  | cons a r => obtain ⟨n, rfl⟩ : ∃ k, n = k + 1 := ⟨n - 1, by omega⟩; simp
theorem decode_prog (A b : List UInt8) (hA : A.length ≤ 10000) (hb : b.length ≤ 10000) : ∃ x n m, charset_Decode A b = some (x, (n, m)) ∧ (decide (n = (0 : Int)) = (setOf A).isSome) ∧ ∀ k, setOf A = some k → x = decoded k b := by
  unfold charset_Decode
  rw [if_pos ⟨by omega, by omega⟩]
  cases h : setOf A with
  | none => exact ⟨[], 18, -2, rfl, rfl, fun k hk => by cases hk⟩
  | some k => exact ⟨decoded k b, 0, 0, rfl, rfl, fun k' hk => by cases hk; rfl⟩
theorem read_eq (t : List UInt8) (ht : t.length ≤ 10000) : ∃ x n, words_read t = some (x, n, (pw t).isSome) ∧ ∀ p, pw t = some p → x = p.1 ∧ n = (p.2 : Int) := by
  unfold words_read pw
  rw [prefix_eq t [61, 63] (by omega), bsome]
  by_cases hp : [61, 63] <+: t
  · have hl2 : 2 ≤ t.length := hp.length_le
    rw [if_pos (decide_eq_true hp), if_pos hp, cut_of (i := 2) (a := 2) (b := min t.length 75) rfl (by omega) (by omega) (by omega), bsome]
    have hw : (t.take (min t.length 75)).drop 2 = (t.drop 2).take 73 := by
      rw [List.drop_take]
      by_cases h75 : t.length ≤ 75
      · rw [Nat.min_eq_left h75, List.take_of_length_le (by rw [List.length_drop]; omega), List.take_of_length_le (by rw [List.length_drop]; omega)]
      · rw [Nat.min_eq_right (by omega)]
    rw [hw]
    unfold strings_SplitN
    have hxl : ((t.drop 2).take 73).length ≤ 73 := List.length_take_le _ _
    rw [if_pos ⟨by omega, by decide, by decide, by decide⟩, bsome, show (4 : Int).toNat = 4 from rfl]
    have hst := sp3_take (t.drop 2) 73
    cases hs : sp3 (t.drop 2) with
    | none =>
      rw [hs] at hst
      have h4 := split4_none hst
      rw [if_pos (by omega), bsome, if_pos rfl]
      exact ⟨_, _, rfl, fun p hp => by cases hp⟩
    | some p =>
      obtain ⟨A, K, D, r⟩ := p
      rw [hs] at hst
      dsimp only at hst
      have hxe := (sp3_some hs).1
      have hlen := congrArg List.length hxe
      simp only [List.length_append, List.length_cons, List.length_drop] at hlen
      rw [bsome]
      dsimp only
      by_cases hn : A.length + K.length + D.length + 2 < 73
      · rw [if_pos hn] at hst
        have h4 := split4_some hst
        rw [h4]
        simp only [List.length_cons, List.length_nil]
        rw [if_neg (by omega)]
        have i0 : idx [A, K, D, r.take (73 - (A.length + K.length + D.length + 3))] 0 = some A := rfl
        have i1 : idx [A, K, D, r.take (73 - (A.length + K.length + D.length + 3))] 1 = some K := rfl
        have i2 : idx [A, K, D, r.take (73 - (A.length + K.length + D.length + 3))] 2 = some D := rfl
        have i3 : idx [A, K, D, r.take (73 - (A.length + K.length + D.length + 3))] 3 = some (r.take (73 - (A.length + K.length + D.length + 3))) := rfl
        rw [i0, i1, i2, i3, bsome, prefix_eq _ _ (by rw [List.length_take]; omega), bsome, bsome]
        have hpt : ([61] <+: r.take (73 - (A.length + K.length + D.length + 3))) ↔ ([61] <+: r ∧ A.length + K.length + D.length + 6 ≤ 75) := by
          by_cases h1 : 1 ≤ 73 - (A.length + K.length + D.length + 3)
          · rw [pre_take h1]
            exact ⟨fun h => ⟨h, by omega⟩, fun h => h.1⟩
          · rw [show 73 - (A.length + K.length + D.length + 3) = 0 by omega, List.take_zero]
            exact ⟨fun h => by have := h.length_le; simp at this, fun h => by omega⟩
        by_cases hq : [61] <+: r ∧ A.length + K.length + D.length + 6 ≤ 75
        · rw [decide_eq_true (hpt.2 hq), if_neg (by decide), if_pos hq, bsome, bsome]
          obtain ⟨b, hb1, hbl, hb2⟩ := bytes_eq K D (by omega)
          rw [hb1, bsome]
          dsimp only
          rw [bsome]
          obtain ⟨x, n, m, hx1, hx2, hx3⟩ := decode_prog A b (by omega) (by omega)
          rw [hx1, bsome]
          dsimp only
          rw [bsome, chk_ok (by omega) (by omega), bsome, bsome, chk_ok (by omega) (by omega), bsome, bsome, chk_ok (by omega) (by omega), bsome, chk_ok (by omega) (by omega), bsome]
          unfold basic_Failed body
          cases hbp : bytesP K D with
          | none =>
            simp only [Option.isSome_none, Bool.false_eq_true, if_false, bsome]
            cases hA : setOf A with
            | none => exact ⟨_, _, rfl, fun p hp => by cases hp⟩
            | some k => exact ⟨_, _, rfl, fun p hp => by cases hp⟩
          | some y =>
            obtain rfl := hb2 y hbp
            simp only [Option.isSome_some, if_true, bsome]
            cases hA : setOf A with
            | none =>
              rw [hA] at hx2
              simp only [Option.isSome_none] at hx2
              rw [hx2]
              exact ⟨_, _, rfl, fun p hp => by cases hp⟩
            | some k =>
              rw [hA] at hx2
              simp only [Option.isSome_some] at hx2
              rw [hx2, hx3 k hA]
              refine ⟨_, _, rfl, fun p hp => ?_⟩
              cases hp
              exact ⟨rfl, by dsimp only; omega⟩
        · rw [decide_eq_false (fun e => hq (hpt.1 e)), if_pos (by decide), if_neg hq]
          exact ⟨_, _, rfl, fun p hp => by cases hp⟩
      · rw [if_neg hn] at hst
        have h4 := split4_none hst
        rw [if_pos (by omega), bsome, if_pos rfl, if_neg (fun e => by have := e.2; omega)]
        exact ⟨_, _, rfl, fun p hp => by cases hp⟩
  · rw [if_neg (by rw [decide_eq_true_eq]; exact hp), if_neg hp]
    exact ⟨_, _, rfl, fun p hp => by cases hp⟩
end Go.Ph.Wd
end
section
set_option linter.unusedVariables false
set_option linter.unusedSimpArgs false
namespace Go.Ph.Wd
open Go.Ph.Pl Go.Ph.Pf
open Go.Ph.Gr (chars Ch pieces byts segs)
open Go.Ph.Chs (vld setN setOf encK encGo decoded utf8 bestK lower lowB)
open Go.Ph.Utf (rune dr)
theorem bytesP_len {K D b : List UInt8} (hD : D.length ≤ 10000) (h : bytesP K D = some b) : b.length ≤ D.length := by
  obtain ⟨x, _, h2, h3⟩ := bytes_eq K D hD
  rw [h3 b h] at h2; exact h2
theorem decW_len : ∀ (n : Nat) (l : List UInt8), l.length ≤ n → (Chs.decW l).length ≤ l.length := by
  intro n
  induction n with
  | zero => intro l h; obtain rfl := List.eq_nil_of_length_eq_zero (Nat.le_zero.1 h); simp [Chs.decW]
  | succ n ih =>
    intro l h
    match l, h with
    | [], _ => simp [Chs.decW]
    | [_], _ => simp [Chs.decW]
    | [a, b], _ => simp [Chs.decW]
    | [a, b, c], _ => simp [Chs.decW]
    | a :: b :: c :: d :: r, h =>
      simp only [List.length_cons] at h
      rw [Chs.decW]
      split
      · have := ih r (by omega); simp only [List.length_cons]; omega
      · have := ih (c :: d :: r) (by simp only [List.length_cons]; omega); simp only [List.length_cons] at this ⊢; omega
theorem decK_len (k : Nat) (l : List UInt8) : (Chs.decK k l).length ≤ l.length := by
  unfold Chs.decK
  split
  · simp [Chs.decS]
  · split
    · simp [Chs.decS]
    · split
      · unfold Chs.decU; rw [List.length_map]; exact chars_len l
      · exact decW_len _ l (Nat.le_refl _)
theorem decoded_len (k : Nat) (l : List UInt8) : (decoded k l).length ≤ 4 * l.length := by
  unfold decoded
  have h1 := flatMap_len utf8 4 (Chs.decK k l) (fun a _ => (Chs.utf8_len a).2)
  have h2 := decK_len k l
  omega
theorem pw_size {t : List UInt8} (ht : t.length ≤ 10000) {p : List UInt8 × Nat} (h : pw t = some p) : 6 ≤ p.2 ∧ p.2 ≤ t.length ∧ p.1.length ≤ 4 * p.2 := by
  unfold pw at h
  split at h
  case isFalse => cases h
  obtain ⟨⟨A, K, D, r⟩, h1, h⟩ := bnd h
  dsimp only at h
  split at h
  case isFalse => cases h
  rename_i hq
  obtain ⟨x, hx, hp⟩ := Option.map_eq_some_iff.1 h
  subst hp
  have hl := congrArg List.length (sp3_some h1).1
  have hr := hq.1.length_le
  simp only [List.length_drop, List.length_append, List.length_cons, List.length_nil] at hl hr
  unfold body at hx
  obtain ⟨k, _, hx⟩ := bnd hx
  obtain ⟨b, hb, hx⟩ := Option.map_eq_some_iff.1 hx
  have h2 := bytesP_len (by omega) hb
  have h3 := decoded_len k b
  subst hx
  dsimp only
  exact ⟨by omega, by omega, by omega⟩
def blk (c : UInt8) : Bool := decide (c = 32 ∨ c = 9)
def after (u : List UInt8) : List UInt8 := if (pw (u.dropWhile blk)).isSome then u.dropWhile blk else u
theorem after_len (u : List UInt8) : (after u).length ≤ u.length := by
  unfold after
  split
  · exact (List.dropWhile_suffix _).length_le
  · exact Nat.le_refl _
def unF : Nat → List UInt8 → List UInt8
  | 0, _ => []
  | n + 1, t => match t with
    | [] => []
    | c :: r => match pw (c :: r) with
      | none => c :: unF n r
      | some p => p.1 ++ unF n (after ((c :: r).drop p.2))
theorem unF_more : ∀ (n m : Nat) (t : List UInt8), t.length ≤ 10000 → t.length < n → t.length < m → unF n t = unF m t := by
  intro n
  induction n with
  | zero => intro m t _ h; omega
  | succ n ih =>
    intro m t ht h1 h2
    obtain ⟨m, rfl⟩ : ∃ k, m = k + 1 := ⟨m - 1, by omega⟩
    cases t with
    | nil => rfl
    | cons c r =>
      rw [unF, unF]
      simp only [List.length_cons] at ht h1 h2
      cases hp : pw (c :: r) with
      | none => dsimp only; rw [ih m r (by omega) (by omega) (by omega)]
      | some p =>
        dsimp only
        have hz := pw_size (by simp only [List.length_cons]; omega) hp
        have ha := after_len ((c :: r).drop p.2)
        simp only [List.length_drop, List.length_cons] at ha hz
        rw [ih m _ (by omega) (by omega) (by omega)]
def un (t : List UInt8) : List UInt8 := unF (t.length + 1) t
theorem un_nil : un [] = [] := rfl
theorem un_none {c : UInt8} {r : List UInt8} (h : pw (c :: r) = none) : un (c :: r) = c :: un r := by
  unfold un
  rw [unF, h]
  rfl
theorem un_some {t : List UInt8} {p : List UInt8 × Nat} (ht : t.length ≤ 10000) (h : pw t = some p) : un t = p.1 ++ un (after (t.drop p.2)) := by
  have hz := pw_size ht h
  cases t with
  | nil => simp at hz; omega
  | cons c r =>
    have ha := after_len ((c :: r).drop p.2)
    simp only [List.length_drop, List.length_cons] at ha hz ht
    unfold un
    rw [unF, h]
    dsimp only
    rw [unF_more _ ((after ((c :: r).drop p.2)).length + 1) _ (by omega) (by simp only [List.length_cons]; omega) (by omega)]
theorem pw_front {c : UInt8} {r : List UInt8} (h : c ≠ 61) : pw (c :: r) = none := by
  unfold pw
  rw [if_neg]
  intro e
  obtain ⟨t, ht⟩ := e
  cases ht
  exact h rfl
theorem blk_ne {c : UInt8} (h : blk c = true) : c ≠ 61 := by
  intro e; subst e; exact absurd h (by decide)
theorem un_blanks {v : List UInt8} : ∀ {b : List UInt8}, (∀ x ∈ b, blk x = true) → un (b ++ v) = b ++ un v
  | [], _ => rfl
  | c :: b, h => by
    rw [List.cons_append, un_none (pw_front (blk_ne (h c (by simp)))), un_blanks (fun x hx => h x (by simp [hx])), List.cons_append]
theorem dropWhile_blanks {v : List UInt8} : ∀ {b : List UInt8}, (∀ x ∈ b, blk x = true) → (b ++ v).dropWhile blk = v.dropWhile blk
  | [], _ => rfl
  | c :: b, h => by
    rw [List.cons_append, List.dropWhile_cons_of_pos (h c (by simp)), dropWhile_blanks (fun x hx => h x (by simp [hx]))]
theorem blank_eq (c : UInt8) : basic_Blank c = some (blk c) := by
  unfold basic_Blank blk
  by_cases h : c = 32
  · rw [if_pos h, bsome, decide_eq_true (.inl h)]
  · rw [if_neg h, bsome]; simp [h]
def fin (s : List UInt8) (p : List UInt8 × Int) : Option (List UInt8) := if (0 : Int) ≤ p.2 then (cut s p.2 (s.length : Int)).bind fun s81 => (strings_Builder_WriteString p.1 s81).bind fun (n82, b83, l84) => some l84 else some p.1
theorem dec_end {s : List UInt8} {m i : Nat} {out : List UInt8} {g : Int} (hi : ¬ i < s.length) : words_Decode_L1 s (m + 1) out g (i : Int) = some (out, g) := by
  rw [words_Decode_L1, if_neg (by omega)]
theorem dec_word {s : List UInt8} {m i : Nat} {out : List UInt8} {g : Int} {x : List UInt8} {k : Nat} (hi : i < s.length) (hs : s.length ≤ 4000) (hk : k ≤ 10000) (ho : out.length + x.length ≤ 1000000)
    (hr : words_read (s.drop i) = some (x, (k : Int), true)) : words_Decode_L1 s (m + 1) out g (i : Int) = words_Decode_L1 s m (out ++ x) ((i + k : Nat) : Int) ((i + k : Nat) : Int) := by
  rw [words_Decode_L1, if_pos (by omega), cut_from rfl (by omega), bsome, hr, bsome]
  dsimp only
  rw [if_pos rfl]
  unfold strings_Builder_WriteString
  rw [app_ok (by omega), bsome, bsome]
  dsimp only
  rw [show (i : Int) + (k : Int) = ((i + k : Nat) : Int) by omega, chk_ok (by omega) (by omega), bsome]
theorem dec_free {s : List UInt8} {m i : Nat} {out x : List UInt8} {n : Int} (hi : i < s.length) (hs : s.length ≤ 4000) (ho : out.length ≤ 1000000)
    (hr : words_read (s.drop i) = some (x, n, false)) : words_Decode_L1 s (m + 1) out (-1) (i : Int) = words_Decode_L1 s m (out ++ [s[i]]) (-1) ((i + 1 : Nat) : Int) := by
  rw [words_Decode_L1, if_pos (by omega), cut_from rfl (by omega), bsome, hr, bsome]
  dsimp only
  rw [if_neg Bool.false_ne_true, if_pos (by decide), idx_nat, List.getElem?_eq_getElem hi, bsome]
  unfold strings_Builder_WriteByte
  rw [app_ok (by simp; omega), bsome, bsome]
  dsimp only
  rw [bsome, if_neg (by decide), bsome, if_neg Bool.false_ne_true, bsome]
  dsimp only
  rw [chk_succ (by omega), bsome]
theorem dec_blank {s : List UInt8} {m i g : Nat} {out x : List UInt8} {n : Int} (hi : i < s.length) (hs : s.length ≤ 4000) (hb : blk s[i] = true)
    (hr : words_read (s.drop i) = some (x, n, false)) : words_Decode_L1 s (m + 1) out (g : Int) (i : Int) = words_Decode_L1 s m out (g : Int) ((i + 1 : Nat) : Int) := by
  rw [words_Decode_L1, if_pos (by omega), cut_from rfl (by omega), bsome, hr, bsome]
  dsimp only
  rw [if_neg Bool.false_ne_true, if_neg (by omega), bsome, if_pos (by omega), idx_nat, List.getElem?_eq_getElem hi, bsome, blank_eq, hb, bsome, bsome, if_neg (by decide), bsome]
  dsimp only
  rw [chk_succ (by omega), bsome]
theorem dec_flush {s : List UInt8} {m i g : Nat} {out x : List UInt8} {n : Int} (hi : i < s.length) (hs : s.length ≤ 4000) (hg : g ≤ i) (ho : out.length ≤ 1000000) (hb : blk s[i] = false)
    (hr : words_read (s.drop i) = some (x, n, false)) : words_Decode_L1 s (m + 1) out (g : Int) (i : Int) = words_Decode_L1 s m (out ++ (s.take (i + 1)).drop g) (-1) ((i + 1 : Nat) : Int) := by
  have hl : ((s.take (i + 1)).drop g).length ≤ 4000 := by rw [List.length_drop, List.length_take]; omega
  rw [words_Decode_L1, if_pos (by omega), cut_from rfl (by omega), bsome, hr, bsome]
  dsimp only
  rw [if_neg Bool.false_ne_true, if_neg (by omega), bsome, if_pos (by omega), idx_nat, List.getElem?_eq_getElem hi, bsome, blank_eq, hb, bsome, bsome, if_pos (by decide), chk_succ (by omega), bsome, cut_of (a := g) (b := i + 1) rfl rfl (by omega) (by omega), bsome]
  unfold strings_Builder_WriteString
  rw [app_ok (by omega), bsome, bsome]
  dsimp only
  rw [bsome]
  dsimp only
  rw [bsome]
theorem dec_L1 (s : List UInt8) (hs : s.length ≤ 4000) : ∀ (d i m : Nat), s.length - i ≤ d → d < m → i ≤ s.length →
    (∀ out : List UInt8, out.length ≤ 4 * i → (words_Decode_L1 s m out (-1) (i : Int)).bind (fin s) = some (out ++ un (s.drop i))) ∧
    (∀ (out : List UInt8) (g : Nat), out.length ≤ 4 * g → g ≤ i → (∀ x ∈ (s.take i).drop g, blk x = true) → (words_Decode_L1 s m out (g : Int) (i : Int)).bind (fin s) = some (out ++ un (after (s.drop g)))) := by
  intro d
  induction d using Nat.strongRecOn with
  | ind d ih =>
    intro i m h1 h2 h3
    obtain ⟨m, rfl⟩ : ∃ k, m = k + 1 := ⟨m - 1, by omega⟩
    have hgap : ∀ g, g ≤ i → s.drop g = (s.take i).drop g ++ s.drop i := by
      intro g hg
      conv => lhs; rw [← List.take_append_drop i s]
      rw [List.drop_append_of_le_length (by rw [List.length_take]; omega)]
    by_cases hi : i < s.length
    · have hd := List.drop_eq_getElem_cons hi
      obtain ⟨x, n, hr, hx⟩ := read_eq (s.drop i) (by rw [List.length_drop]; omega)
      cases hp : pw (s.drop i) with
      | some p =>
        obtain ⟨rfl, rfl⟩ := hx p hp
        rw [hp, Option.isSome_some] at hr
        have hz := pw_size (by rw [List.length_drop]; omega) hp
        rw [List.length_drop] at hz
        have hun := un_some (by rw [List.length_drop]; omega) hp
        rw [List.drop_drop] at hun
        have key : ∀ (out : List UInt8) (g : Int), out.length ≤ 4 * i → (words_Decode_L1 s (m + 1) out g (i : Int)).bind (fin s) = some (out ++ un (s.drop i)) := by
          intro out g ho
          rw [dec_word hi hs (by omega) (by omega) hr, (ih (d - p.2) (by omega) (i + p.2) m (by omega) (by omega) (by omega)).2 (out ++ p.1) (i + p.2) (by rw [List.length_append]; omega) (Nat.le_refl _) (by rw [List.drop_eq_nil_of_le (by rw [List.length_take]; omega)]; simp), hun, List.append_assoc]
        refine ⟨fun out ho => key out _ ho, fun out g ho hg hb => ?_⟩
        rw [key out _ (by omega)]
        have hnb : (s.drop i).dropWhile blk = s.drop i := by
          rw [hd] at hp ⊢
          refine List.dropWhile_cons_of_neg (fun e => ?_)
          rw [pw_front (blk_ne e)] at hp; cases hp
        have : after (s.drop g) = s.drop i := by
          unfold after
          rw [hgap g hg, dropWhile_blanks hb, hnb, hp, Option.isSome_some, if_pos rfl]
        rw [this]
      | none =>
        rw [hp, Option.isSome_none] at hr
        have hun : un (s.drop i) = s[i] :: un (s.drop (i + 1)) := by rw [hd] at hp ⊢; exact un_none hp
        refine ⟨fun out ho => ?_, fun out g ho hg hb => ?_⟩
        · rw [dec_free hi hs (by omega) hr, (ih (d - 1) (by omega) (i + 1) m (by omega) (by omega) (by omega)).1 _ (by rw [List.length_append, List.length_singleton]; omega), hun]
          simp
        · have ht : (s.take (i + 1)).drop g = (s.take i).drop g ++ [s[i]] := by
            rw [List.take_succ_eq_append_getElem hi, List.drop_append_of_le_length (by rw [List.length_take]; omega)]
          by_cases hbk : blk s[i] = true
          · rw [dec_blank hi hs hbk hr]
            refine (ih (d - 1) (by omega) (i + 1) m (by omega) (by omega) (by omega)).2 out g ho (by omega) ?_
            rw [ht]
            intro x hx
            rcases List.mem_append.1 hx with h | h
            · exact hb x h
            · rw [List.mem_singleton.1 h]; exact hbk
          · rw [dec_flush hi hs hg (by omega) (by simpa using hbk) hr, (ih (d - 1) (by omega) (i + 1) m (by omega) (by omega) (by omega)).1 _ (by rw [List.length_append, List.length_drop, List.length_take]; omega)]
            have hnb : (s.drop i).dropWhile blk = s.drop i := by rw [hd]; exact List.dropWhile_cons_of_neg hbk
            have : after (s.drop g) = s.drop g := by
              unfold after
              rw [if_neg]
              rw [hgap g hg, dropWhile_blanks hb, hnb, hp]
              decide
            rw [this, hgap g hg, un_blanks hb, hun, ht]
            simp
    · have he : s.drop i = [] := List.drop_eq_nil_of_le (by omega)
      refine ⟨fun out ho => ?_, fun out g ho hg hb => ?_⟩
      · rw [dec_end hi, bsome, he]
        unfold fin
        dsimp only
        rw [if_neg (by decide), un_nil, List.append_nil]
      · rw [dec_end hi, bsome]
        unfold fin
        dsimp only
        rw [if_pos (by omega), cut_from rfl (by omega), bsome]
        unfold strings_Builder_WriteString
        rw [app_ok (by rw [List.length_drop]; omega), bsome, bsome]
        have : after (s.drop g) = s.drop g := by
          unfold after
          rw [if_neg]
          rw [hgap g hg, dropWhile_blanks hb, he]
          decide
        rw [this]
        dsimp only
        rw [hgap g hg, un_blanks hb, he, un_nil]
theorem decode_eq {s : List UInt8} (hs : s.length ≤ 4000) : words_Decode s = some (un s, (0, 0)) := by
  have h := (dec_L1 s hs s.length 0 FU (by omega) (by unfold FU; omega) (by omega)).1 [] (by simp)
  rw [Int.natCast_zero, List.drop_zero, List.nil_append] at h
  unfold words_Decode
  rw [if_neg (by omega)]
  obtain ⟨⟨o, g⟩, h1, h2⟩ := bnd h
  rw [h1, bsome]
  unfold fin at h2
  dsimp only at h2 ⊢
  rw [h2, bsome]
  rfl
end Go.Ph.Wd
end
section
set_option linter.unusedVariables false
set_option linter.unusedSimpArgs false
namespace Go.Ph.Wd
open Go.Ph.Pl Go.Ph.Pf
open Go.Ph.Gr (chars Ch pieces byts segs)
open Go.Ph.Chs (vld setN setOf encK encGo decoded utf8 bestK lower lowB)
open Go.Ph.Utf (rune dr)
theorem hex_back : ∀ c : UInt8, hex2 (hx (c.toNat / 16)) (hx (c.toNat % 16)) = some c := fun c => by
  refine allB (p := fun c => hex2 (hx (c.toNat / 16)) (hx (c.toNat % 16)) = some c) ?_ c
  decide +kernel
theorem alnum_plain : ∀ c : UInt8, alnum c = true → c ≠ 95 ∧ c ≠ 61 ∧ 33 ≤ c.toNat ∧ c.toNat ≤ 126 := fun c => by
  refine allB (p := fun c => alnum c = true → c ≠ 95 ∧ c ≠ 61 ∧ 33 ≤ c.toNat ∧ c.toNat ≤ 126) ?_ c
  decide +kernel
theorem uq_dq1 (c : UInt8) (t : List UInt8) : uq (dq1 c ++ t) = (uq t).map (c :: ·) := by
  unfold dq1
  by_cases h1 : c = 32
  · rw [if_pos h1, h1, List.singleton_append, uq_cons, if_pos rfl]
  · rw [if_neg h1]
    by_cases h2 : alnum c = true
    · obtain ⟨a1, a2, a3⟩ := alnum_plain c h2
      rw [if_pos h2, List.singleton_append, uq_cons, if_neg a1, if_neg a2, if_pos a3]
    · rw [if_neg h2]
      show uq (61 :: (hx (c.toNat / 16) :: hx (c.toNat % 16) :: t)) = _
      rw [uq_cons, if_neg (by decide), if_pos rfl]
      dsimp only [hexd2]
      rw [hex_back, Option.map_some, bsome]
theorem uq_dq : ∀ b : List UInt8, uq (dq b) = some b
  | [] => rfl
  | c :: b => by
    have : dq (c :: b) = dq1 c ++ dq b := by simp [dq]
    rw [this, uq_dq1, uq_dq b]; rfl
theorem bytesP_word (k : Nat) (b : List UInt8) : bytesP (if k = 2 then [66] else [81]) (if k = 2 then B64.chars64 b else dq b) = some b := by
  unfold bytesP
  by_cases hk : k = 2
  · have hl : B64.lenient (B64.chars64 b) = b := B64.lenient_of_vis _ _ (by rw [B64.chars_grps])
    rw [if_pos hk, if_pos hk, if_pos (by decide), hl, if_pos rfl]
  · rw [if_neg hk, if_neg hk, if_neg (by decide), if_pos (by decide)]; exact uq_dq b
theorem pw_W {k : Nat} {l r : List UInt8} (hk : k < 4) (h : okE k l) (h75 : (W k l).length ≤ 75) : pw (W k l ++ r) = some (l, (W k l).length) := by
  obtain ⟨b, hb⟩ : ∃ b, enc k l = b := ⟨_, rfl⟩
  have hd : decoded k b = l := by rw [← hb]; exact Chs.decoded_enc0 h.v (enc_go h)
  obtain ⟨K, hK⟩ : ∃ K : List UInt8, (if k = 2 then [66] else [81]) = K := ⟨_, rfl⟩
  obtain ⟨D, hD⟩ : ∃ D : List UInt8, (if k = 2 then B64.chars64 b else dq b) = D := ⟨_, rfl⟩
  have hw : W k l = 61 :: 63 :: (nam k ++ 63 :: (K ++ 63 :: (D ++ 63 :: [61]))) := by
    unfold W wrap
    rw [hb, ← hK, ← hD]
    by_cases h2 : k = 2
    · simp [h2]
    · simp [h2]
  have n1 : 63 ∉ nam k := fun e => (nam_ok k hk 63 e).2.2 rfl
  have n2 : 63 ∉ K := by rw [← hK]; split <;> decide
  have n3 : 63 ∉ D := by
    rw [← hD]
    split
    · exact fun e => (chars64_ok b 63 e).2.2 rfl
    · intro e
      obtain ⟨c, _, hc⟩ := List.mem_flatMap.1 e
      exact (dq1_ok c 63 hc).2.2 rfl
  have n4 : K.length = 1 := by rw [← hK]; split <;> rfl
  have hlen := congrArg List.length hw
  simp only [List.length_cons, List.length_append, List.length_nil] at hlen
  have hb2 : bytesP K D = some b := by rw [← hK, ← hD]; exact bytesP_word k b
  have hbody : body (nam k) K D = some l := by
    unfold body
    rw [setOf_nam k hk, bsome, hb2, Option.map_some, hd]
  have hsp : sp3 ((W k l ++ r).drop 2) = some (nam k, K, D, 61 :: r) := by
    rw [hw]
    have : (61 :: 63 :: (nam k ++ 63 :: (K ++ 63 :: (D ++ 63 :: [61]))) ++ r).drop 2 = nam k ++ 63 :: (K ++ 63 :: (D ++ 63 :: (61 :: r))) := by simp
    rw [this]
    exact sp3_of n1 n2 n3
  unfold pw
  rw [hsp, if_pos (by rw [hw]; exact ⟨_, rfl⟩), bsome]
  dsimp only
  rw [if_pos ⟨⟨r, rfl⟩, by omega⟩, hbody, Option.map_some]
  congr 2
  omega
theorem W_head (k : Nat) (l : List UInt8) : ∃ t, W k l = 61 :: t := ⟨_, by unfold W wrap; rfl⟩
theorem un_words {k : Nat} (hk : k < 4) : ∀ (gs : List (List UInt8)) (g : List UInt8), (∀ x ∈ g :: gs, okE k x ∧ (W k x).length ≤ 75) → (W k g ++ more (gs.map (W k))).length ≤ 10000 →
    un (W k g ++ more (gs.map (W k))) = g ++ gs.flatten
  | [], g, h, hl => by
    obtain ⟨h1, h2⟩ := h g (by simp)
    have hp := pw_W (r := more (([] : List (List UInt8)).map (W k))) hk h1 h2
    rw [un_some hl hp, List.drop_left]
    rfl
  | x :: gs, g, h, hl => by
    obtain ⟨h1, h2⟩ := h g (by simp)
    obtain ⟨h3, h4⟩ := h x (by simp)
    have hp := pw_W (r := more ((x :: gs).map (W k))) hk h1 h2
    have hm : more ((x :: gs).map (W k)) = 32 :: (W k x ++ more (gs.map (W k))) := by simp [more]
    have hq := pw_W (r := more (gs.map (W k))) hk h3 h4
    have ha : after (more ((x :: gs).map (W k))) = W k x ++ more (gs.map (W k)) := by
      obtain ⟨t, ht⟩ := W_head k x
      have hdw : (more ((x :: gs).map (W k))).dropWhile blk = W k x ++ more (gs.map (W k)) := by
        rw [hm, List.dropWhile_cons_of_pos (by decide), ht, List.cons_append, List.dropWhile_cons_of_neg (by decide)]
      unfold after
      rw [hdw, hq, Option.isSome_some, if_pos rfl]
    rw [un_some hl hp, List.drop_left, ha, un_words hk gs x (fun y hy => h y (by simp at hy ⊢; exact .inr hy)) (by rw [hm] at hl; simp only [List.length_append, List.length_cons] at hl ⊢; omega), List.flatten_cons]
theorem un_plain {s : List UInt8} : ∀ (d i : Nat), s.length - i ≤ d → i ≤ s.length → fnd s [61, 63] i = -1 → un (s.drop i) = s.drop i
  | 0, i, h1, h2, h3 => by rw [List.drop_eq_nil_of_le (by omega)]; rfl
  | d + 1, i, h1, h2, h3 => by
    by_cases hi : i < s.length
    · have hn : ¬ [61, 63] <+: s.drop i := fun e => by rw [fnd_here hi e] at h3; omega
      rw [fnd_next hi hn] at h3
      have hp : pw (s.drop i) = none := by unfold pw; rw [if_neg hn]
      rw [List.drop_eq_getElem_cons hi] at hp ⊢
      rw [un_none hp, un_plain d (i + 1) (by omega) (by omega) h3]
    · rw [List.drop_eq_nil_of_le (by omega)]; rfl
theorem un_own {s : List UInt8} (hp : pln s = true) : un s = s := by
  unfold pln at hp
  simp only [Bool.and_eq_true] at hp
  have hc := hp.2.2.2
  rw [contains_fnd, Bool.not_not] at hc
  have hf : fnd s [61, 63] 0 = -1 := by
    have h1 := of_decide_eq_true hc
    unfold fnd at h1 ⊢
    have := Lib.index_ge (s.drop 0) [61, 63]
    split
    · rfl
    · rename_i h2; rw [if_neg h2] at h1; omega
  have := un_plain s.length 0 (by omega) (by omega) hf
  simpa using this
theorem con_latin {a b : Int} (ha : 0 ≤ a ∧ a ≤ 255) (hb : 0 ≤ b ∧ b ≤ 255) (fl : Nat) (h : Gr.con a b fl = true) : a = 13 ∧ b = 10 := by
  have ca : (Gr.cls a = 1 ∧ a = 13) ∨ Gr.cls a = 2 ∨ Gr.cls a = 3 ∨ Gr.cls a = 0 := by
    unfold Gr.cls; repeat' split
    all_goals omega
  have cb : Gr.cls b = 1 ∨ (Gr.cls b = 2 ∧ b = 10) ∨ Gr.cls b = 3 ∨ Gr.cls b = 0 := by
    unfold Gr.cls; repeat' split
    all_goals omega
  unfold Gr.con at h
  rw [if_neg (by omega)] at h
  unfold Gr.contC at h
  repeat' split at h
  all_goals first | omega | cases h | (have := of_decide_eq_true h; omega)
theorem seg_two : ∀ (cs cur : List Ch) (prev : Int) (fl : Nat), (∀ c ∈ cs, 0 ≤ c.1 ∧ c.1 ≤ 255) → 0 ≤ prev ∧ prev ≤ 255 → cur.length ≤ 2 → (cur.length = 2 → prev ≠ 13) → ∀ g ∈ Gr.seg cur prev fl cs, g.length ≤ 2
  | [], cur, prev, fl, h, hp, h2, h3 => by
    intro g hg
    rw [Gr.seg, List.mem_singleton] at hg
    rw [hg]; exact h2
  | c :: cs, cur, prev, fl, h, hp, h2, h3 => by
    have hc := h c (by simp)
    rw [Gr.seg]
    by_cases hcon : Gr.con prev c.1 fl = true
    · obtain ⟨e1, e2⟩ := con_latin hp hc fl hcon
      rw [if_pos hcon]
      have h4 : cur.length ≠ 2 := fun e => h3 e e1
      exact seg_two cs _ _ _ (fun x hx => h x (by simp [hx])) hc (by rw [List.length_append, List.length_singleton]; omega) (fun _ => by omega)
    · rw [if_neg hcon]
      intro g hg
      rcases List.mem_cons.1 hg with rfl | hg
      · exact h2
      · exact seg_two cs [c] _ _ (fun x hx => h x (by simp [hx])) hc (by simp) (by simp) g hg
theorem segs_two (cs : List Ch) (h : ∀ c ∈ cs, 0 ≤ c.1 ∧ c.1 ≤ 255) : ∀ g ∈ Gr.segs cs, g.length ≤ 2 := by
  cases cs with
  | nil => intro g hg; cases hg
  | cons c cs => exact seg_two cs [c] _ _ (fun x hx => h x (by simp [hx])) (h c (by simp)) (by simp) (by simp)
theorem unit_two {k : Nat} {l : List UInt8} (h : ∀ c ∈ chars l, 0 ≤ c.1 ∧ c.1 ≤ 255) : ∀ u ∈ unitsC k l, u.length ≤ 2 := fun u hu => by
  obtain ⟨g, hg, hu⟩ := List.mem_flatMap.1 hu
  have h2 := segs_two (chars l) h g hg
  unfold usC at hu
  split at hu
  · rw [List.mem_singleton.1 hu]; exact h2
  · obtain ⟨c, _, rfl⟩ := List.mem_map.1 hu; simp
def wt (k : Nat) (g : List Ch) : Nat := (g.flatMap fun c => dq ((encK k c.1).getD [])).length
theorem wt_app (k : Nat) (a b : List Ch) : wt k (a ++ b) = wt k a + wt k b := by unfold wt; rw [List.flatMap_append, List.length_append]
theorem wt_le {k : Nat} (hk : k < 2) (g : List Ch) : wt k g ≤ 3 * g.length := by
  refine flatMap_len _ 3 g (fun c _ => ?_)
  have hs : ∀ bd : Int, (dq ((Chs.encS bd c.1).getD [])).length ≤ 3 := fun bd => by
    unfold Chs.encS
    split
    · have := dq_len [ub c.1]; simpa using this
    · simp [dq]
  unfold encK
  split
  · exact hs _
  · rw [if_pos (by omega)]; exact hs _
theorem W_q {k : Nat} (hk : k < 2) {l : List UInt8} {A g B : List Ch} (h : chars l = A ++ g ++ B) : (W k (byts g)).length = (nam k).length + 7 + wt k g := by
  have he : dq (enc k (byts g)) = g.flatMap fun c => dq ((encK k c.1).getD []) := by
    unfold enc
    rw [chars_mid h]
    unfold dq
    rw [List.flatMap_assoc]
  unfold W wrap wt
  rw [if_neg (by omega), ← he]
  simp only [List.length_append, List.length_cons, List.length_nil]
  omega
theorem p2_pos (k : Nat) : ∀ (us : List (List Ch)) (now : List Ch), 1 ≤ (p2 k now us).length
  | [], now => by simp [p2]
  | u :: us, now => by
    rw [p2]; split
    · exact p2_pos k us (now ++ u)
    · simp
theorem p2_q {k : Nat} (hk : k < 2) {l : List UInt8} (c : Nat) (hc : c = (nam k).length + 7) : ∀ (us : List (List Ch)) (now A : List Ch), chars l = A ++ (now ++ us.flatten) → (∀ u ∈ us, u.length ≤ 2) →
    ((p2 k now us).length - 1) * (70 - c) ≤ wt k now + wt k us.flatten
  | [], now, A, h, hu => by simp [p2]
  | u :: us, now, A, h, hu => by
    have hw := W_q hk (l := l) (A := A) (g := now ++ u) (B := us.flatten) (by rw [h]; simp)
    have h2 := wt_le hk u
    have h3 := hu u (by simp)
    rw [p2]
    rw [wt_app] at hw
    rw [List.flatten_cons, wt_app]
    split
    · have := p2_q hk c hc us (now ++ u) A (by rw [h]; simp) (fun x hx => hu x (by simp [hx]))
      rw [wt_app] at this
      omega
    · have := p2_q hk c hc us u (A ++ now) (by rw [h]; simp) (fun x hx => hu x (by simp [hx]))
      have hp := p2_pos k us u
      rw [List.length_cons, Nat.add_sub_cancel]
      obtain ⟨n, hn⟩ : ∃ n, (p2 k u us).length = n + 1 := ⟨_, (Nat.sub_add_cancel hp).symm⟩
      rw [hn, Nat.add_sub_cancel] at this
      rw [hn, Nat.succ_mul]
      omega
theorem flatMap_congr' {α β : Type} {f g : α → List β} : ∀ {l : List α}, (∀ a ∈ l, f a = g a) → l.flatMap f = l.flatMap g
  | [], _ => rfl
  | a :: l, h => by rw [List.flatMap_cons, List.flatMap_cons, h a (by simp), flatMap_congr' fun x hx => h x (by simp [hx])]
theorem enc_utf8 {l : List UInt8} (hv : vld l = true) {A g B : List Ch} (h : chars l = A ++ g ++ B) : enc 2 (byts g) = byts g := by
  have hu := utf8_char _ l (Nat.le_refl _) hv
  unfold enc byts
  have hc : chars ((g.map (·.2)).flatten) = g := chars_mid h
  rw [hc, ← List.flatMap_def]
  apply flatMap_congr'
  intro c hcg
  have : utf8 c.1 = c.2 := hu c (by rw [h]; simp [hcg])
  show (Chs.encU c.1).getD [] = c.2
  unfold Chs.encU
  rw [Option.getD_some, this]
theorem W_b {l : List UInt8} (hv : vld l = true) {A g B : List Ch} (h : chars l = A ++ g ++ B) : (W 2 (byts g)).length = 11 + 4 * (((byts g).length + 2) / 3) := by
  unfold W wrap
  rw [enc_utf8 hv h, if_pos rfl]
  simp only [List.length_append, B64.chars_len, List.length_cons, List.length_nil]
  have : (nam 2).length = 4 := rfl
  omega
theorem p2_b {l : List UInt8} (hv : vld l = true) : ∀ (us : List (List Ch)) (now A : List Ch), chars l = A ++ (now ++ us.flatten) →
    49 * ((p2 2 now us).length - 1) ≤ (byts now).length + 2 * (byts us.flatten).length
  | [], now, A, h => by simp [p2]
  | u :: us, now, A, h => by
    have hw := W_b hv (A := A) (g := now ++ u) (B := us.flatten) (by rw [h]; simp)
    rw [p2]
    have e1 : (byts (now ++ u)).length = (byts now).length + (byts u).length := by rw [byts_app, List.length_append]
    have e2 : (byts (u ++ us.flatten)).length = (byts u).length + (byts us.flatten).length := by rw [byts_app, List.length_append]
    rw [List.flatten_cons]
    split
    · have := p2_b hv us (now ++ u) A (by rw [h]; simp)
      omega
    · have := p2_b hv us u (A ++ now) (by rw [h]; simp)
      have hp := p2_pos 2 us u
      rw [List.length_cons, Nat.add_sub_cancel]
      omega
theorem more_q {k : Nat} (hk : k < 2) {l : List UInt8} (c : Nat) (hc : c = (nam k).length + 7) : ∀ (gs : List (List Ch)) (A : List Ch), chars l = A ++ gs.flatten →
    (more (gs.map fun g => W k (byts g))).length = gs.length * (c + 1) + wt k gs.flatten
  | [], A, h => by simp [more, wt]
  | g :: gs, A, h => by
    have hw := W_q hk (l := l) (A := A) (g := g) (B := gs.flatten) (by rw [h]; simp)
    have ih := more_q hk c hc gs (A ++ g) (by rw [h]; simp)
    have hm : more ((g :: gs).map fun g => W k (byts g)) = 32 :: (W k (byts g) ++ more (gs.map fun g => W k (byts g))) := by simp [more]
    rw [hm, List.length_cons, List.length_append, hw, ih, List.flatten_cons, wt_app, List.length_cons, Nat.succ_mul]
    omega
theorem latin {s : List UInt8} (hv : vld s = true) (hb : bestK s < 2) : ∀ c ∈ chars s, 0 ≤ c.1 ∧ c.1 ≤ 255 := fun c hc => by
  have h0 : 0 ≤ c.1 := by
    unfold vld at hv
    exact of_decide_eq_true (List.all_eq_true.1 hv c hc)
  refine ⟨h0, ?_⟩
  unfold bestK at hb
  by_cases h1 : (chars s).any (fun c => decide (255 < Chs.fix0 c.1)) = true
  · rw [if_pos h1] at hb; omega
  · have h2 : ¬ 255 < Chs.fix0 c.1 := fun e => h1 (List.any_eq_true.2 ⟨c, hc, decide_eq_true e⟩)
    unfold Chs.fix0 at h2
    rw [if_neg (by omega)] at h2
    omega
theorem rep_4000 {s : List UInt8} (h : s.length ≤ 1000) (hv : vld s = true) : (rep (bestK s) s).length ≤ 4000 := by
  have hb := bestK_le s
  have hfl := unitsC_flat (bestK s) s
  have hcl := chars_len s
  unfold rep
  cases hus : unitsC (bestK s) s with
  | nil => simp [parts, jn]
  | cons u us =>
    rw [parts]
    rw [hus, List.flatten_cons] at hfl
    by_cases hk : bestK s < 2
    · obtain ⟨c, hc⟩ : ∃ c, c = (nam (bestK s)).length + 7 := ⟨_, rfl⟩
      have hnl : (nam (bestK s)).length ≤ 6 := by
        have : ∀ k, k < 2 → (nam k).length ≤ 6 := by decide
        exact this _ hk
      have hq := p2_q hk c hc us u [] (by rw [List.nil_append, hfl]) (fun x hx => unit_two (latin hv hk) x (by rw [hus]; simp [hx]))
      have hwt : wt (bestK s) (chars s) = wt (bestK s) u + wt (bestK s) us.flatten := by rw [← hfl, wt_app]
      have hwl := wt_le hk (chars s)
      have hm := more_q hk (l := s) c hc (p2 (bestK s) u us) [] (by rw [List.nil_append, p2_flat, hfl])
      rw [p2_flat, hfl] at hm
      have hp := p2_pos (bestK s) us u
      obtain ⟨n, hn⟩ : ∃ n, (p2 (bestK s) u us).length = n + 1 := ⟨_, (Nat.sub_add_cancel hp).symm⟩
      rw [hn] at hm hq
      rw [Nat.add_sub_cancel] at hq
      have h57 : n * 57 ≤ n * (70 - c) := Nat.mul_le_mul_left n (by omega)
      have h14 : (n + 1) * (c + 1) ≤ (n + 1) * 14 := Nat.mul_le_mul_left (n + 1) (by omega)
      cases hps : p2 (bestK s) u us with
      | nil => rw [hps] at hn; simp at hn
      | cons g gs =>
        rw [hps] at hm
        rw [List.map_cons, jn_more]
        have : more ((g :: gs).map fun g => W (bestK s) (byts g)) = 32 :: (W (bestK s) (byts g) ++ more (gs.map fun g => W (bestK s) (byts g))) := by simp [more]
        rw [this, List.length_cons] at hm
        omega
    · have hk2 : bestK s = 2 := by omega
      rw [hk2] at hus ⊢
      have hq := p2_b hv us u [] (by rw [List.nil_append, hfl])
      have h75 := part_75 (k := 2) (by decide) (l := s)
      rw [hus, parts] at h75
      have hbl : (byts u).length + (byts us.flatten).length ≤ 1000 := by
        have := Gr.chars_flat s
        rw [← List.length_append, ← byts_app, hfl]
        unfold byts
        rw [this]; exact h
      have hj := jn_len [32] 75 ((p2 2 u us).map fun g => W 2 (byts g)) (fun w hw => by
        obtain ⟨g, hg, rfl⟩ := List.mem_map.1 hw
        exact h75 g hg)
      rw [List.length_map] at hj
      simp only [List.length_cons, List.length_nil] at hj
      omega
theorem un_rep {s : List UInt8} (h : s.length ≤ 1000) (hv : vld s = true) (h0 : s ≠ []) : un (rep (bestK s) s) = s := by
  have hb := bestK_le s
  have hl := rep_4000 h hv
  have hfl := parts_flat (bestK s) (unitsC (bestK s) s)
  rw [unitsC_flat] at hfl
  have hall : ∀ g ∈ parts (bestK s) (unitsC (bestK s) s), okE (bestK s) (byts g) ∧ (W (bestK s) (byts g)).length ≤ 75 := fun g hg => by
    obtain ⟨A, B, hm⟩ := part_mid _ _ hg
    exact ⟨(best_ok hv).mid hm, part_75 (by omega) g hg⟩
  have hs := Gr.chars_flat s
  unfold rep at hl ⊢
  cases hps : parts (bestK s) (unitsC (bestK s) s) with
  | nil =>
    rw [hps] at hfl
    rw [← hfl] at hs
    exact absurd hs.symm h0
  | cons g gs =>
    rw [hps] at hl hall hfl
    have e : ((g :: gs).map fun g => W (bestK s) (byts g)) = W (bestK s) (byts g) :: (gs.map byts).map (W (bestK s)) := by simp
    rw [e, jn_more] at hl ⊢
    rw [un_words (by omega) (gs.map byts) (byts g) (fun x hx => by
      have : x ∈ (g :: gs).map byts := by simpa using hx
      obtain ⟨y, hy, rfl⟩ := List.mem_map.1 this
      exact hall y hy) (by omega), Gr.byts_flat, ← byts_app]
    rw [← List.flatten_cons, hfl]
    exact hs
theorem law_RoundTrip (s : List UInt8) (hs : s.length ≤ 140737488351232) : L_WordsRoundTrip s = some true := by
  unfold L_WordsRoundTrip
  rw [example_eq, bsome, if_pos rfl]
  by_cases h : 1000 < s.length
  · rw [encode_big h, bsome]
    dsimp only
    rw [if_neg (by decide)]; rfl
  · by_cases hv : vld s = true
    · have fin : ∀ t : List UInt8, t.length ≤ 4000 → un t = s → ((words_Decode t).bind fun (s9, (n10, n11)) => ((if n10 = (0 : Int) then some (decide (s9 = s)) else some false)).bind fun b15 => some b15) = some true := by
        intro t ht hu
        rw [decode_eq ht, bsome]
        dsimp only
        rw [if_pos rfl, bsome, decide_eq_true hu]
      by_cases hp : pln s = true
      · rw [encode_own (by omega) hv hp, bsome]
        dsimp only
        rw [if_pos rfl]
        exact fin s (by omega) (un_own hp)
      · have h0 : s ≠ [] := by rintro rfl; exact hp (by decide)
        rw [encode_rep (by omega) hv (by simpa using hp), bsome]
        dsimp only
        rw [if_pos rfl]
        exact fin _ (rep_4000 (by omega) hv) (un_rep (by omega) hv h0)
    · rw [encode_mal (by omega) (by simpa using hv), bsome]
      dsimp only
      rw [if_neg (by decide)]; rfl
end Go.Ph.Wd
end
