/-
  Wf, Wg, Qp, Fd, Wfo, Wh: own texts of this repository (wip/tpl, wip/plans), merged and shaken by wip/tools/pack.py.
-/
import Derived.Test.YtogkmhjnojphiaaGreatDoorE3e
set_option maxRecDepth 100000
section
set_option linter.unusedVariables false
set_option linter.unusedSimpArgs false
namespace Go.Ph.Wd
open Go.Ph.Pl Go.Ph.Pf
open Go.Ph.Gr (chars Ch pieces byts segs)
open Go.Ph.Chs (vld setN setOf encK encGo decoded utf8 bestK lower lowB)
open Go.Ph.Utf (rune dr)
theorem bytesP_len {K D b : List UInt8} (hD : D.length ≤ 10000) (h : bytesP K D = some b) : b.length ≤ D.length := by
  obtain ⟨x, _, h2, h3⟩ := bytes_eq K D hD
  rw [h3 b h] at h2; exact h2
theorem decW_len : ∀ (n : Nat) (l : List UInt8), l.length ≤ n → (Chs.decW l).length ≤ l.length := by
  intro n
  induction n with
  | zero => intro l h; obtain rfl := List.eq_nil_of_length_eq_zero (Nat.le_zero.1 h); simp [Chs.decW]
  | succ n ih =>
    intro l h
    match l, h with
    | [], _ => simp [Chs.decW]
    | [_], _ => simp [Chs.decW]
    | [a, b], _ => simp [Chs.decW]
    | [a, b, c], _ => simp [Chs.decW]
    | a :: b :: c :: d :: r, h =>
      simp only [List.length_cons] at h
      rw [Chs.decW]
      split
      · have := ih r (by omega); simp only [List.length_cons]; omega
      · have := ih (c :: d :: r) (by simp only [List.length_cons]; omega); simp only [List.length_cons] at this ⊢; omega
theorem decK_len (k : Nat) (l : List UInt8) : (Chs.decK k l).length ≤ l.length := by
  unfold Chs.decK
  split
  · simp [Chs.decS]
  · split
    · simp [Chs.decS]
    · split
      · unfold Chs.decU; rw [List.length_map]; exact chars_len l
      · exact decW_len _ l (Nat.le_refl _)
theorem decoded_len (k : Nat) (l : List UInt8) : (decoded k l).length ≤ 4 * l.length := by
  unfold decoded
  have h1 := flatMap_len utf8 4 (Chs.decK k l) (fun a _ => (Chs.utf8_len a).2)
  have h2 := decK_len k l
  omega
theorem pw_size {t : List UInt8} (ht : t.length ≤ 10000) {p : List UInt8 × Nat} (h : pw t = some p) : 6 ≤ p.2 ∧ p.2 ≤ t.length ∧ p.1.length ≤ 4 * p.2 := by
  unfold pw at h
  split at h
  case isFalse => cases h
  obtain ⟨⟨A, K, D, r⟩, h1, h⟩ := bnd h
  dsimp only at h
  split at h
  case isFalse => cases h
  rename_i hq
  obtain ⟨x, hx, hp⟩ := Option.map_eq_some_iff.1 h
  subst hp
  have hl := congrArg List.length (sp3_some h1).1
  have hr := hq.1.length_le
  simp only [List.length_drop, List.length_append, List.length_cons, List.length_nil] at hl hr
  unfold body at hx
  obtain ⟨k, _, hx⟩ := bnd hx
  obtain ⟨b, hb, hx⟩ := Option.map_eq_some_iff.1 hx
  have h2 := bytesP_len (by omega) hb
  have h3 := decoded_len k b
  subst hx
  dsimp only
  exact ⟨by omega, by omega, by omega⟩
def blk (c : UInt8) : Bool := decide (c = 32 ∨ c = 9)
def after (u : List UInt8) : List UInt8 := if (pw (u.dropWhile blk)).isSome then u.dropWhile blk else u
theorem after_len (u : List UInt8) : (after u).length ≤ u.length := by
  unfold after
  split
  · exact (List.dropWhile_suffix _).length_le
  · exact Nat.le_refl _
def unF : Nat → List UInt8 → List UInt8
  | 0, _ => []
  | n + 1, t => match t with
    | [] => []
    | c :: r => match pw (c :: r) with
      | none => c :: unF n r
      | some p => p.1 ++ unF n (after ((c :: r).drop p.2))
theorem unF_more : ∀ (n m : Nat) (t : List UInt8), t.length ≤ 10000 → t.length < n → t.length < m → unF n t = unF m t := by
  intro n
  induction n with
  | zero => intro m t _ h; omega
  | succ n ih =>
    intro m t ht h1 h2
    obtain ⟨m, rfl⟩ : ∃ k, m = k + 1 := ⟨m - 1, by omega⟩
    cases t with
    | nil => rfl
    | cons c r =>
      rw [unF, unF]
      simp only [List.length_cons] at ht h1 h2
      cases hp : pw (c :: r) with
      | none => dsimp only; rw [ih m r (by omega) (by omega) (by omega)]
      | some p =>
        dsimp only
        have hz := pw_size (by simp only [List.length_cons]; omega) hp
        have ha := after_len ((c :: r).drop p.2)
        simp only [List.length_drop, List.length_cons] at ha hz
        rw [ih m _ (by omega) (by omega) (by omega)]
def un (t : List UInt8) : List UInt8 := unF (t.length + 1) t
theorem un_nil : un [] = [] := rfl
theorem un_none {c : UInt8} {r : List UInt8} (h : pw (c :: r) = none) : un (c :: r) = c :: un r := by
  unfold un
  rw [unF, h]
  rfl
theorem un_some {t : List UInt8} {p : List UInt8 × Nat} (ht : t.length ≤ 10000) (h : pw t = some p) : un t = p.1 ++ un (after (t.drop p.2)) := by
  have hz := pw_size ht h
  cases t with
  | nil => simp at hz; omega
  | cons c r =>
    have ha := after_len ((c :: r).drop p.2)
    simp only [List.length_drop, List.length_cons] at ha hz ht
    unfold un
    rw [unF, h]
    dsimp only
    rw [unF_more _ ((after ((c :: r).drop p.2)).length + 1) _ (by omega) (by simp only [List.length_cons]; omega) (by omega)]
theorem pw_front {c : UInt8} {r : List UInt8} (h : c ≠ 61) : pw (c :: r) = none := by
  unfold pw
  rw [if_neg]
  intro e
  obtain ⟨t, ht⟩ := e
  cases ht
  exact h rfl
theorem blk_ne {c : UInt8} (h : blk c = true) : c ≠ 61 := by
  intro e; subst e; exact absurd h (by decide)
theorem un_blanks {v : List UInt8} : ∀ {b : List UInt8}, (∀ x ∈ b, blk x = true) → un (b ++ v) = b ++ un v
  | [], _ => rfl
  | c :: b, h => by
    rw [List.cons_append, un_none (pw_front (blk_ne (h c (by simp)))), un_blanks (fun x hx => h x (by simp [hx])), List.cons_append]
theorem dropWhile_blanks {v : List UInt8} : ∀ {b : List UInt8}, (∀ x ∈ b, blk x = true) → (b ++ v).dropWhile blk = v.dropWhile blk
  | [], _ => rfl
  | c :: b, h => by
    rw [List.cons_append, List.dropWhile_cons_of_pos (h c (by simp)), dropWhile_blanks (fun x hx => h x (by simp [hx]))]
theorem blank_eq (c : UInt8) : basic_Blank c = some (blk c) := by
  unfold basic_Blank blk
  by_cases h : c = 32
  · rw [if_pos h, bsome, decide_eq_true (.inl h)]
  · rw [if_neg h, bsome]; simp [h]
def fin (s : List UInt8) (p : List UInt8 × Int) : Option (List UInt8) := if (0 : Int) ≤ p.2 then (cut s p.2 (s.length : Int)).bind fun s81 => (strings_Builder_WriteString p.1 s81).bind fun (n82, b83, l84) => some l84 else some p.1
theorem dec_end {s : List UInt8} {m i : Nat} {out : List UInt8} {g : Int} (hi : ¬ i < s.length) : words_Decode_L1 s (m + 1) out g (i : Int) = some (out, g) := by
  rw [words_Decode_L1, if_neg (by omega)]
theorem dec_word {s : List UInt8} {m i : Nat} {out : List UInt8} {g : Int} {x : List UInt8} {k : Nat} (hi : i < s.length) (hs : s.length ≤ 4000) (hk : k ≤ 10000) (ho : out.length + x.length ≤ 1000000)
    (hr : words_read (s.drop i) = some (x, (k : Int), true)) : words_Decode_L1 s (m + 1) out g (i : Int) = words_Decode_L1 s m (out ++ x) ((i + k : Nat) : Int) ((i + k : Nat) : Int) := by
  rw [words_Decode_L1, if_pos (by omega), cut_from rfl (by omega), bsome, hr, bsome]
  dsimp only
  rw [if_pos rfl]
  unfold strings_Builder_WriteString
  rw [app_ok (by omega), bsome, bsome]
  dsimp only
  rw [show (i : Int) + (k : Int) = ((i + k : Nat) : Int) by omega, chk_ok (by omega) (by omega), bsome]
theorem dec_free {s : List UInt8} {m i : Nat} {out x : List UInt8} {n : Int} (hi : i < s.length) (hs : s.length ≤ 4000) (ho : out.length ≤ 1000000)
    (hr : words_read (s.drop i) = some (x, n, false)) : words_Decode_L1 s (m + 1) out (-1) (i : Int) = words_Decode_L1 s m (out ++ [s[i]]) (-1) ((i + 1 : Nat) : Int) := by
  rw [words_Decode_L1, if_pos (by omega), cut_from rfl (by omega), bsome, hr, bsome]
  dsimp only
  rw [if_neg Bool.false_ne_true, if_pos (by decide), idx_nat, List.getElem?_eq_getElem hi, bsome]
  unfold strings_Builder_WriteByte
  rw [app_ok (by simp; omega), bsome, bsome]
  dsimp only
  rw [bsome, if_neg (by decide), bsome, if_neg Bool.false_ne_true, bsome]
  dsimp only
  rw [chk_succ (by omega), bsome]
theorem dec_blank {s : List UInt8} {m i g : Nat} {out x : List UInt8} {n : Int} (hi : i < s.length) (hs : s.length ≤ 4000) (hb : blk s[i] = true)
    (hr : words_read (s.drop i) = some (x, n, false)) : words_Decode_L1 s (m + 1) out (g : Int) (i : Int) = words_Decode_L1 s m out (g : Int) ((i + 1 : Nat) : Int) := by
  rw [words_Decode_L1, if_pos (by omega), cut_from rfl (by omega), bsome, hr, bsome]
  dsimp only
  rw [if_neg Bool.false_ne_true, if_neg (by omega), bsome, if_pos (by omega), idx_nat, List.getElem?_eq_getElem hi, bsome, blank_eq, hb, bsome, bsome, if_neg (by decide), bsome]
  dsimp only
  rw [chk_succ (by omega), bsome]
theorem dec_flush {s : List UInt8} {m i g : Nat} {out x : List UInt8} {n : Int} (hi : i < s.length) (hs : s.length ≤ 4000) (hg : g ≤ i) (ho : out.length ≤ 1000000) (hb : blk s[i] = false)
    (hr : words_read (s.drop i) = some (x, n, false)) : words_Decode_L1 s (m + 1) out (g : Int) (i : Int) = words_Decode_L1 s m (out ++ (s.take (i + 1)).drop g) (-1) ((i + 1 : Nat) : Int) := by
  have hl : ((s.take (i + 1)).drop g).length ≤ 4000 := by rw [List.length_drop, List.length_take]; omega
  rw [words_Decode_L1, if_pos (by omega), cut_from rfl (by omega), bsome, hr, bsome]
  dsimp only
  rw [if_neg Bool.false_ne_true, if_neg (by omega), bsome, if_pos (by omega), idx_nat, List.getElem?_eq_getElem hi, bsome, blank_eq, hb, bsome, bsome, if_pos (by decide), chk_succ (by omega), bsome, cut_of (a := g) (b := i + 1) rfl rfl (by omega) (by omega), bsome]
  unfold strings_Builder_WriteString
  rw [app_ok (by omega), bsome, bsome]
  dsimp only
  rw [bsome]
  dsimp only
  rw [bsome]
theorem dec_L1 (s : List UInt8) (hs : s.length ≤ 4000) : ∀ (d i m : Nat), s.length - i ≤ d → d < m → i ≤ s.length →
    (∀ out : List UInt8, out.length ≤ 4 * i → (words_Decode_L1 s m out (-1) (i : Int)).bind (fin s) = some (out ++ un (s.drop i))) ∧
    (∀ (out : List UInt8) (g : Nat), out.length ≤ 4 * g → g ≤ i → (∀ x ∈ (s.take i).drop g, blk x = true) → (words_Decode_L1 s m out (g : Int) (i : Int)).bind (fin s) = some (out ++ un (after (s.drop g)))) := by
  intro d
  induction d using Nat.strongRecOn with
  | ind d ih =>
    intro i m h1 h2 h3
    obtain ⟨m, rfl⟩ : ∃ k, m = k + 1 := ⟨m - 1, by omega⟩
    have hgap : ∀ g, g ≤ i → s.drop g = (s.take i).drop g ++ s.drop i := by
      intro g hg
      conv => lhs; rw [← List.take_append_drop i s]
      rw [List.drop_append_of_le_length (by rw [List.length_take]; omega)]
    by_cases hi : i < s.length
    · have hd := List.drop_eq_getElem_cons hi
      obtain ⟨x, n, hr, hx⟩ := read_eq (s.drop i) (by rw [List.length_drop]; omega)
      cases hp : pw (s.drop i) with
      | some p =>
        obtain ⟨rfl, rfl⟩ := hx p hp
        rw [hp, Option.isSome_some] at hr
        have hz := pw_size (by rw [List.length_drop]; omega) hp
        rw [List.length_drop] at hz
        have hun := un_some (by rw [List.length_drop]; omega) hp
        rw [List.drop_drop] at hun
        have key : ∀ (out : List UInt8) (g : Int), out.length ≤ 4 * i → (words_Decode_L1 s (m + 1) out g (i : Int)).bind (fin s) = some (out ++ un (s.drop i)) := by
          intro out g ho
          rw [dec_word hi hs (by omega) (by omega) hr, (ih (d - p.2) (by omega) (i + p.2) m (by omega) (by omega) (by omega)).2 (out ++ p.1) (i + p.2) (by rw [List.length_append]; omega) (Nat.le_refl _) (by rw [List.drop_eq_nil_of_le (by rw [List.length_take]; omega)]; simp), hun, List.append_assoc]
        refine ⟨fun out ho => key out _ ho, fun out g ho hg hb => ?_⟩
        rw [key out _ (by omega)]
        have hnb : (s.drop i).dropWhile blk = s.drop i := by
          rw [hd] at hp ⊢
          refine List.dropWhile_cons_of_neg (fun e => ?_)
          rw [pw_front (blk_ne e)] at hp; cases hp
        have : after (s.drop g) = s.drop i := by
          unfold after
          rw [hgap g hg, dropWhile_blanks hb, hnb, hp, Option.isSome_some, if_pos rfl]
        rw [this]
      | none =>
        rw [hp, Option.isSome_none] at hr
        have hun : un (s.drop i) = s[i] :: un (s.drop (i + 1)) := by rw [hd] at hp ⊢; exact un_none hp
        refine ⟨fun out ho => ?_, fun out g ho hg hb => ?_⟩
        · rw [dec_free hi hs (by omega) hr, (ih (d - 1) (by omega) (i + 1) m (by omega) (by omega) (by omega)).1 _ (by rw [List.length_append, List.length_singleton]; omega), hun]
          simp
        · have ht : (s.take (i + 1)).drop g = (s.take i).drop g ++ [s[i]] := by
            rw [List.take_succ_eq_append_getElem hi, List.drop_append_of_le_length (by rw [List.length_take]; omega)]
          by_cases hbk : blk s[i] = true
          · rw [dec_blank hi hs hbk hr]
            refine (ih (d - 1) (by omega) (i + 1) m (by omega) (by omega) (by omega)).2 out g ho (by omega) ?_
            rw [ht]
            intro x hx
            rcases List.mem_append.1 hx with h | h
            · exact hb x h
            · rw [List.mem_singleton.1 h]; exact hbk
          · rw [dec_flush hi hs hg (by omega) (by simpa using hbk) hr, (ih (d - 1) (by omega) (i + 1) m (by omega) (by omega) (by omega)).1 _ (by rw [List.length_append, List.length_drop, List.length_take]; omega)]
            have hnb : (s.drop i).dropWhile blk = s.drop i := by rw [hd]; exact List.dropWhile_cons_of_neg hbk
            have : after (s.drop g) = s.drop g := by
              unfold after
              rw [if_neg]
              rw [hgap g hg, dropWhile_blanks hb, hnb, hp]
              decide
            rw [this, hgap g hg, un_blanks hb, hun, ht]
            simp
    · have he : s.drop i = [] := List.drop_eq_nil_of_le (by omega)
      refine ⟨fun out ho => ?_, fun out g ho hg hb => ?_⟩
      · rw [dec_end hi, bsome, he]
        unfold fin
        dsimp only
        rw [if_neg (by decide), un_nil, List.append_nil]
      · rw [dec_end hi, bsome]
        unfold fin
        dsimp only
        rw [if_pos (by omega), cut_from rfl (by omega), bsome]
        unfold strings_Builder_WriteString
        rw [app_ok (by rw [List.length_drop]; omega), bsome, bsome]
        have : after (s.drop g) = s.drop g := by
          unfold after
          rw [if_neg]
          rw [hgap g hg, dropWhile_blanks hb, he]
          decide
        rw [this]
        dsimp only
        rw [hgap g hg, un_blanks hb, he, un_nil]
theorem decode_eq {s : List UInt8} (hs : s.length ≤ 4000) : words_Decode s = some (un s, (0, 0)) := by
  have h := (dec_L1 s hs s.length 0 FU (by omega) (by unfold FU; omega) (by omega)).1 [] (by simp)
  rw [Int.natCast_zero, List.drop_zero, List.nil_append] at h
  unfold words_Decode
  rw [if_neg (by omega)]
  obtain ⟨⟨o, g⟩, h1, h2⟩ := bnd h
  rw [h1, bsome]
  unfold fin at h2
  dsimp only at h2 ⊢
  rw [h2, bsome]
  rfl
end Go.Ph.Wd
end
section
set_option linter.unusedVariables false
set_option linter.unusedSimpArgs false
namespace Go.Ph.Wd
open Go.Ph.Pl Go.Ph.Pf
open Go.Ph.Gr (chars Ch pieces byts segs)
open Go.Ph.Chs (vld setN setOf encK encGo decoded utf8 bestK lower lowB)
open Go.Ph.Utf (rune dr)
theorem hex_back : ∀ c : UInt8, hex2 (hx (c.toNat / 16)) (hx (c.toNat % 16)) = some c := fun c => by
  refine allB (p := fun c => hex2 (hx (c.toNat / 16)) (hx (c.toNat % 16)) = some c) ?_ c
  decide +kernel
theorem alnum_plain : ∀ c : UInt8, alnum c = true → c ≠ 95 ∧ c ≠ 61 ∧ 33 ≤ c.toNat ∧ c.toNat ≤ 126 := fun c => by
  refine allB (p := fun c => alnum c = true → c ≠ 95 ∧ c ≠ 61 ∧ 33 ≤ c.toNat ∧ c.toNat ≤ 126) ?_ c
  decide +kernel
theorem uq_dq1 (c : UInt8) (t : List UInt8) : uq (dq1 c ++ t) = (uq t).map (c :: ·) := by
  unfold dq1
  by_cases h1 : c = 32
  · rw [if_pos h1, h1, List.singleton_append, uq_cons, if_pos rfl]
  · rw [if_neg h1]
    by_cases h2 : alnum c = true
    · obtain ⟨a1, a2, a3⟩ := alnum_plain c h2
      rw [if_pos h2, List.singleton_append, uq_cons, if_neg a1, if_neg a2, if_pos a3]
    · rw [if_neg h2]
      show uq (61 :: (hx (c.toNat / 16) :: hx (c.toNat % 16) :: t)) = _
      rw [uq_cons, if_neg (by decide), if_pos rfl]
      dsimp only [hexd2]
      rw [hex_back, Option.map_some, bsome]
theorem uq_dq : ∀ b : List UInt8, uq (dq b) = some b
  | [] => rfl
  | c :: b => by
    have : dq (c :: b) = dq1 c ++ dq b := by simp [dq]
    rw [this, uq_dq1, uq_dq b]; rfl
theorem bytesP_word (k : Nat) (b : List UInt8) : bytesP (if k = 2 then [66] else [81]) (if k = 2 then B64.chars64 b else dq b) = some b := by
  unfold bytesP
  by_cases hk : k = 2
  · have hl : B64.lenient (B64.chars64 b) = b := B64.lenient_of_vis _ _ (by rw [B64.chars_grps])
    rw [if_pos hk, if_pos hk, if_pos (by decide), hl, if_pos rfl]
  · rw [if_neg hk, if_neg hk, if_neg (by decide), if_pos (by decide)]; exact uq_dq b
theorem pw_W {k : Nat} {l r : List UInt8} (hk : k < 4) (h : okE k l) (h75 : (W k l).length ≤ 75) : pw (W k l ++ r) = some (l, (W k l).length) := by
  obtain ⟨b, hb⟩ : ∃ b, enc k l = b := ⟨_, rfl⟩
  have hd : decoded k b = l := by rw [← hb]; exact Chs.decoded_enc0 h.v (enc_go h)
  obtain ⟨K, hK⟩ : ∃ K : List UInt8, (if k = 2 then [66] else [81]) = K := ⟨_, rfl⟩
  obtain ⟨D, hD⟩ : ∃ D : List UInt8, (if k = 2 then B64.chars64 b else dq b) = D := ⟨_, rfl⟩
  have hw : W k l = 61 :: 63 :: (nam k ++ 63 :: (K ++ 63 :: (D ++ 63 :: [61]))) := by
    unfold W wrap
    rw [hb, ← hK, ← hD]
    by_cases h2 : k = 2
    · simp [h2]
    · simp [h2]
  have n1 : 63 ∉ nam k := fun e => (nam_ok k hk 63 e).2.2 rfl
  have n2 : 63 ∉ K := by rw [← hK]; split <;> decide
  have n3 : 63 ∉ D := by
    rw [← hD]
    split
    · exact fun e => (chars64_ok b 63 e).2.2 rfl
    · intro e
      obtain ⟨c, _, hc⟩ := List.mem_flatMap.1 e
      exact (dq1_ok c 63 hc).2.2 rfl
  have n4 : K.length = 1 := by rw [← hK]; split <;> rfl
  have hlen := congrArg List.length hw
  simp only [List.length_cons, List.length_append, List.length_nil] at hlen
  have hb2 : bytesP K D = some b := by rw [← hK, ← hD]; exact bytesP_word k b
  have hbody : body (nam k) K D = some l := by
    unfold body
    rw [setOf_nam k hk, bsome, hb2, Option.map_some, hd]
  have hsp : sp3 ((W k l ++ r).drop 2) = some (nam k, K, D, 61 :: r) := by
    rw [hw]
    have : (61 :: 63 :: (nam k ++ 63 :: (K ++ 63 :: (D ++ 63 :: [61]))) ++ r).drop 2 = nam k ++ 63 :: (K ++ 63 :: (D ++ 63 :: (61 :: r))) := by simp
    rw [this]
    exact sp3_of n1 n2 n3
  unfold pw
  rw [hsp, if_pos (by rw [hw]; exact ⟨_, rfl⟩), bsome]
  dsimp only
  rw [if_pos ⟨⟨r, rfl⟩, by omega⟩, hbody, Option.map_some]
  congr 2
  omega
theorem W_head (k : Nat) (l : List UInt8) : ∃ t, W k l = 61 :: t := ⟨_, by unfold W wrap; rfl⟩
theorem un_words {k : Nat} (hk : k < 4) : ∀ (gs : List (List UInt8)) (g : List UInt8), (∀ x ∈ g :: gs, okE k x ∧ (W k x).length ≤ 75) → (W k g ++ more (gs.map (W k))).length ≤ 10000 →
    un (W k g ++ more (gs.map (W k))) = g ++ gs.flatten
  | [], g, h, hl => by
    obtain ⟨h1, h2⟩ := h g (by simp)
    have hp := pw_W (r := more (([] : List (List UInt8)).map (W k))) hk h1 h2
    rw [un_some hl hp, List.drop_left]
    rfl
  | x :: gs, g, h, hl => by
    obtain ⟨h1, h2⟩ := h g (by simp)
    obtain ⟨h3, h4⟩ := h x (by simp)
    have hp := pw_W (r := more ((x :: gs).map (W k))) hk h1 h2
    have hm : more ((x :: gs).map (W k)) = 32 :: (W k x ++ more (gs.map (W k))) := by simp [more]
    have hq := pw_W (r := more (gs.map (W k))) hk h3 h4
    have ha : after (more ((x :: gs).map (W k))) = W k x ++ more (gs.map (W k)) := by
      obtain ⟨t, ht⟩ := W_head k x
      have hdw : (more ((x :: gs).map (W k))).dropWhile blk = W k x ++ more (gs.map (W k)) := by
        rw [hm, List.dropWhile_cons_of_pos (by decide), ht, List.cons_append, List.dropWhile_cons_of_neg (by decide)]
      unfold after
      rw [hdw, hq, Option.isSome_some, if_pos rfl]
    rw [un_some hl hp, List.drop_left, ha, un_words hk gs x (fun y hy => h y (by simp at hy ⊢; exact .inr hy)) (by rw [hm] at hl; simp only [List.length_append, List.length_cons] at hl ⊢; omega), List.flatten_cons]
theorem un_plain {s : List UInt8} : ∀ (d i : Nat), s.length - i ≤ d → i ≤ s.length → fnd s [61, 63] i = -1 → un (s.drop i) = s.drop i
  | 0, i, h1, h2, h3 => by rw [List.drop_eq_nil_of_le (by omega)]; rfl
  | d + 1, i, h1, h2, h3 => by
    by_cases hi : i < s.length
    · have hn : ¬ [61, 63] <+: s.drop i := fun e => by rw [fnd_here hi e] at h3; omega
      rw [fnd_next hi hn] at h3
      have hp : pw (s.drop i) = none := by unfold pw; rw [if_neg hn]
      rw [List.drop_eq_getElem_cons hi] at hp ⊢
      rw [un_none hp, un_plain d (i + 1) (by omega) (by omega) h3]
    · rw [List.drop_eq_nil_of_le (by omega)]; rfl
theorem un_own {s : List UInt8} (hp : pln s = true) : un s = s := by
  unfold pln at hp
  simp only [Bool.and_eq_true] at hp
  have hc := hp.2.2.2
  rw [contains_fnd, Bool.not_not] at hc
  have hf : fnd s [61, 63] 0 = -1 := by
    have h1 := of_decide_eq_true hc
    unfold fnd at h1 ⊢
    have := Lib.index_ge (s.drop 0) [61, 63]
    split
    · rfl
    · rename_i h2; rw [if_neg h2] at h1; omega
  have := un_plain s.length 0 (by omega) (by omega) hf
  simpa using this
theorem con_latin {a b : Int} (ha : 0 ≤ a ∧ a ≤ 255) (hb : 0 ≤ b ∧ b ≤ 255) (fl : Nat) (h : Gr.con a b fl = true) : a = 13 ∧ b = 10 := by
  have ca : (Gr.cls a = 1 ∧ a = 13) ∨ Gr.cls a = 2 ∨ Gr.cls a = 3 ∨ Gr.cls a = 0 := by
    unfold Gr.cls; repeat' split
    all_goals omega
  have cb : Gr.cls b = 1 ∨ (Gr.cls b = 2 ∧ b = 10) ∨ Gr.cls b = 3 ∨ Gr.cls b = 0 := by
    unfold Gr.cls; repeat' split
    all_goals omega
  unfold Gr.con at h
  rw [if_neg (by omega)] at h
  unfold Gr.contC at h
  repeat' split at h
  all_goals first | omega | cases h | (have := of_decide_eq_true h; omega)
theorem seg_two : ∀ (cs cur : List Ch) (prev : Int) (fl : Nat), (∀ c ∈ cs, 0 ≤ c.1 ∧ c.1 ≤ 255) → 0 ≤ prev ∧ prev ≤ 255 → cur.length ≤ 2 → (cur.length = 2 → prev ≠ 13) → ∀ g ∈ Gr.seg cur prev fl cs, g.length ≤ 2
  | [], cur, prev, fl, h, hp, h2, h3 => by
    intro g hg
    rw [Gr.seg, List.mem_singleton] at hg
    rw [hg]; exact h2
  | c :: cs, cur, prev, fl, h, hp, h2, h3 => by
    have hc := h c (by simp)
    rw [Gr.seg]
    by_cases hcon : Gr.con prev c.1 fl = true
    · obtain ⟨e1, e2⟩ := con_latin hp hc fl hcon
      rw [if_pos hcon]
      have h4 : cur.length ≠ 2 := fun e => h3 e e1
      exact seg_two cs _ _ _ (fun x hx => h x (by simp [hx])) hc (by rw [List.length_append, List.length_singleton]; omega) (fun _ => by omega)
    · rw [if_neg hcon]
      intro g hg
      rcases List.mem_cons.1 hg with rfl | hg
      · exact h2
      · exact seg_two cs [c] _ _ (fun x hx => h x (by simp [hx])) hc (by simp) (by simp) g hg
theorem segs_two (cs : List Ch) (h : ∀ c ∈ cs, 0 ≤ c.1 ∧ c.1 ≤ 255) : ∀ g ∈ Gr.segs cs, g.length ≤ 2 := by
  cases cs with
  | nil => intro g hg; cases hg
  | cons c cs => exact seg_two cs [c] _ _ (fun x hx => h x (by simp [hx])) (h c (by simp)) (by simp) (by simp)
theorem unit_two {k : Nat} {l : List UInt8} (h : ∀ c ∈ chars l, 0 ≤ c.1 ∧ c.1 ≤ 255) : ∀ u ∈ unitsC k l, u.length ≤ 2 := fun u hu => by
  obtain ⟨g, hg, hu⟩ := List.mem_flatMap.1 hu
  have h2 := segs_two (chars l) h g hg
  unfold usC at hu
  split at hu
  · rw [List.mem_singleton.1 hu]; exact h2
  · obtain ⟨c, _, rfl⟩ := List.mem_map.1 hu; simp
def wt (k : Nat) (g : List Ch) : Nat := (g.flatMap fun c => dq ((encK k c.1).getD [])).length
theorem wt_app (k : Nat) (a b : List Ch) : wt k (a ++ b) = wt k a + wt k b := by unfold wt; rw [List.flatMap_append, List.length_append]
theorem wt_le {k : Nat} (hk : k < 2) (g : List Ch) : wt k g ≤ 3 * g.length := by
  refine flatMap_len _ 3 g (fun c _ => ?_)
  have hs : ∀ bd : Int, (dq ((Chs.encS bd c.1).getD [])).length ≤ 3 := fun bd => by
    unfold Chs.encS
    split
    · have := dq_len [ub c.1]; simpa using this
    · simp [dq]
  unfold encK
  split
  · exact hs _
  · rw [if_pos (by omega)]; exact hs _
theorem W_q {k : Nat} (hk : k < 2) {l : List UInt8} {A g B : List Ch} (h : chars l = A ++ g ++ B) : (W k (byts g)).length = (nam k).length + 7 + wt k g := by
  have he : dq (enc k (byts g)) = g.flatMap fun c => dq ((encK k c.1).getD []) := by
    unfold enc
    rw [chars_mid h]
    unfold dq
    rw [List.flatMap_assoc]
  unfold W wrap wt
  rw [if_neg (by omega), ← he]
  simp only [List.length_append, List.length_cons, List.length_nil]
  omega
theorem p2_pos (k : Nat) : ∀ (us : List (List Ch)) (now : List Ch), 1 ≤ (p2 k now us).length
  | [], now => by simp [p2]
  | u :: us, now => by
    rw [p2]; split
    · exact p2_pos k us (now ++ u)
    · simp
theorem p2_q {k : Nat} (hk : k < 2) {l : List UInt8} (c : Nat) (hc : c = (nam k).length + 7) : ∀ (us : List (List Ch)) (now A : List Ch), chars l = A ++ (now ++ us.flatten) → (∀ u ∈ us, u.length ≤ 2) →
    ((p2 k now us).length - 1) * (70 - c) ≤ wt k now + wt k us.flatten
  | [], now, A, h, hu => by simp [p2]
  | u :: us, now, A, h, hu => by
    have hw := W_q hk (l := l) (A := A) (g := now ++ u) (B := us.flatten) (by rw [h]; simp)
    have h2 := wt_le hk u
    have h3 := hu u (by simp)
    rw [p2]
    rw [wt_app] at hw
    rw [List.flatten_cons, wt_app]
    split
    · have := p2_q hk c hc us (now ++ u) A (by rw [h]; simp) (fun x hx => hu x (by simp [hx]))
      rw [wt_app] at this
      omega
    · have := p2_q hk c hc us u (A ++ now) (by rw [h]; simp) (fun x hx => hu x (by simp [hx]))
      have hp := p2_pos k us u
      rw [List.length_cons, Nat.add_sub_cancel]
      obtain ⟨n, hn⟩ : ∃ n, (p2 k u us).length = n + 1 := ⟨_, (Nat.sub_add_cancel hp).symm⟩
      rw [hn, Nat.add_sub_cancel] at this
      rw [hn, Nat.succ_mul]
      omega
theorem flatMap_congr' {α β : Type} {f g : α → List β} : ∀ {l : List α}, (∀ a ∈ l, f a = g a) → l.flatMap f = l.flatMap g
  | [], _ => rfl
  | a :: l, h => by rw [List.flatMap_cons, List.flatMap_cons, h a (by simp), flatMap_congr' fun x hx => h x (by simp [hx])]
theorem enc_utf8 {l : List UInt8} (hv : vld l = true) {A g B : List Ch} (h : chars l = A ++ g ++ B) : enc 2 (byts g) = byts g := by
  have hu := utf8_char _ l (Nat.le_refl _) hv
  unfold enc byts
  have hc : chars ((g.map (·.2)).flatten) = g := chars_mid h
  rw [hc, ← List.flatMap_def]
  apply flatMap_congr'
  intro c hcg
  have : utf8 c.1 = c.2 := hu c (by rw [h]; simp [hcg])
  show (Chs.encU c.1).getD [] = c.2
  unfold Chs.encU
  rw [Option.getD_some, this]
theorem W_b {l : List UInt8} (hv : vld l = true) {A g B : List Ch} (h : chars l = A ++ g ++ B) : (W 2 (byts g)).length = 11 + 4 * (((byts g).length + 2) / 3) := by
  unfold W wrap
  rw [enc_utf8 hv h, if_pos rfl]
  simp only [List.length_append, B64.chars_len, List.length_cons, List.length_nil]
  have : (nam 2).length = 4 := rfl
  omega
theorem p2_b {l : List UInt8} (hv : vld l = true) : ∀ (us : List (List Ch)) (now A : List Ch), chars l = A ++ (now ++ us.flatten) →
    49 * ((p2 2 now us).length - 1) ≤ (byts now).length + 2 * (byts us.flatten).length
  | [], now, A, h => by simp [p2]
  | u :: us, now, A, h => by
    have hw := W_b hv (A := A) (g := now ++ u) (B := us.flatten) (by rw [h]; simp)
    rw [p2]
    have e1 : (byts (now ++ u)).length = (byts now).length + (byts u).length := by rw [byts_app, List.length_append]
    have e2 : (byts (u ++ us.flatten)).length = (byts u).length + (byts us.flatten).length := by rw [byts_app, List.length_append]
    rw [List.flatten_cons]
    split
    · have := p2_b hv us (now ++ u) A (by rw [h]; simp)
      omega
    · have := p2_b hv us u (A ++ now) (by rw [h]; simp)
      have hp := p2_pos 2 us u
      rw [List.length_cons, Nat.add_sub_cancel]
      omega
theorem more_q {k : Nat} (hk : k < 2) {l : List UInt8} (c : Nat) (hc : c = (nam k).length + 7) : ∀ (gs : List (List Ch)) (A : List Ch), chars l = A ++ gs.flatten →
    (more (gs.map fun g => W k (byts g))).length = gs.length * (c + 1) + wt k gs.flatten
  | [], A, h => by simp [more, wt]
  | g :: gs, A, h => by
    have hw := W_q hk (l := l) (A := A) (g := g) (B := gs.flatten) (by rw [h]; simp)
    have ih := more_q hk c hc gs (A ++ g) (by rw [h]; simp)
    have hm : more ((g :: gs).map fun g => W k (byts g)) = 32 :: (W k (byts g) ++ more (gs.map fun g => W k (byts g))) := by simp [more]
    rw [hm, List.length_cons, List.length_append, hw, ih, List.flatten_cons, wt_app, List.length_cons, Nat.succ_mul]
    omega
theorem latin {s : List UInt8} (hv : vld s = true) (hb : bestK s < 2) : ∀ c ∈ chars s, 0 ≤ c.1 ∧ c.1 ≤ 255 := fun c hc => by
  have h0 : 0 ≤ c.1 := by
    unfold vld at hv
    exact of_decide_eq_true (List.all_eq_true.1 hv c hc)
  refine ⟨h0, ?_⟩
  unfold bestK at hb
  by_cases h1 : (chars s).any (fun c => decide (255 < Chs.fix0 c.1)) = true
  · rw [if_pos h1] at hb; omega
  · have h2 : ¬ 255 < Chs.fix0 c.1 := fun e => h1 (List.any_eq_true.2 ⟨c, hc, decide_eq_true e⟩)
    unfold Chs.fix0 at h2
    rw [if_neg (by omega)] at h2
    omega
theorem rep_4000 {s : List UInt8} (h : s.length ≤ 1000) (hv : vld s = true) : (rep (bestK s) s).length ≤ 4000 := by
  have hb := bestK_le s
  have hfl := unitsC_flat (bestK s) s
  have hcl := chars_len s
  unfold rep
  cases hus : unitsC (bestK s) s with
  | nil => simp [parts, jn]
  | cons u us =>
    rw [parts]
    rw [hus, List.flatten_cons] at hfl
    by_cases hk : bestK s < 2
    · obtain ⟨c, hc⟩ : ∃ c, c = (nam (bestK s)).length + 7 := ⟨_, rfl⟩
      have hnl : (nam (bestK s)).length ≤ 6 := by
        have : ∀ k, k < 2 → (nam k).length ≤ 6 := by decide
        exact this _ hk
      have hq := p2_q hk c hc us u [] (by rw [List.nil_append, hfl]) (fun x hx => unit_two (latin hv hk) x (by rw [hus]; simp [hx]))
      have hwt : wt (bestK s) (chars s) = wt (bestK s) u + wt (bestK s) us.flatten := by rw [← hfl, wt_app]
      have hwl := wt_le hk (chars s)
      have hm := more_q hk (l := s) c hc (p2 (bestK s) u us) [] (by rw [List.nil_append, p2_flat, hfl])
      rw [p2_flat, hfl] at hm
      have hp := p2_pos (bestK s) us u
      obtain ⟨n, hn⟩ : ∃ n, (p2 (bestK s) u us).length = n + 1 := ⟨_, (Nat.sub_add_cancel hp).symm⟩
      rw [hn] at hm hq
      rw [Nat.add_sub_cancel] at hq
      have h57 : n * 57 ≤ n * (70 - c) := Nat.mul_le_mul_left n (by omega)
      have h14 : (n + 1) * (c + 1) ≤ (n + 1) * 14 := Nat.mul_le_mul_left (n + 1) (by omega)
      cases hps : p2 (bestK s) u us with
      | nil => rw [hps] at hn; simp at hn
      | cons g gs =>
        rw [hps] at hm
        rw [List.map_cons, jn_more]
        have : more ((g :: gs).map fun g => W (bestK s) (byts g)) = 32 :: (W (bestK s) (byts g) ++ more (gs.map fun g => W (bestK s) (byts g))) := by simp [more]
        rw [this, List.length_cons] at hm
        omega
    · have hk2 : bestK s = 2 := by omega
      rw [hk2] at hus ⊢
      have hq := p2_b hv us u [] (by rw [List.nil_append, hfl])
      have h75 := part_75 (k := 2) (by decide) (l := s)
      rw [hus, parts] at h75
      have hbl : (byts u).length + (byts us.flatten).length ≤ 1000 := by
        have := Gr.chars_flat s
        rw [← List.length_append, ← byts_app, hfl]
        unfold byts
        rw [this]; exact h
      have hj := jn_len [32] 75 ((p2 2 u us).map fun g => W 2 (byts g)) (fun w hw => by
        obtain ⟨g, hg, rfl⟩ := List.mem_map.1 hw
        exact h75 g hg)
      rw [List.length_map] at hj
      simp only [List.length_cons, List.length_nil] at hj
      omega
theorem un_rep {s : List UInt8} (h : s.length ≤ 1000) (hv : vld s = true) (h0 : s ≠ []) : un (rep (bestK s) s) = s := by
  have hb := bestK_le s
  have hl := rep_4000 h hv
  have hfl := parts_flat (bestK s) (unitsC (bestK s) s)
  rw [unitsC_flat] at hfl
  have hall : ∀ g ∈ parts (bestK s) (unitsC (bestK s) s), okE (bestK s) (byts g) ∧ (W (bestK s) (byts g)).length ≤ 75 := fun g hg => by
    obtain ⟨A, B, hm⟩ := part_mid _ _ hg
    exact ⟨(best_ok hv).mid hm, part_75 (by omega) g hg⟩
  have hs := Gr.chars_flat s
  unfold rep at hl ⊢
  cases hps : parts (bestK s) (unitsC (bestK s) s) with
  | nil =>
    rw [hps] at hfl
    rw [← hfl] at hs
    exact absurd hs.symm h0
  | cons g gs =>
    rw [hps] at hl hall hfl
    have e : ((g :: gs).map fun g => W (bestK s) (byts g)) = W (bestK s) (byts g) :: (gs.map byts).map (W (bestK s)) := by simp
    rw [e, jn_more] at hl ⊢
    rw [un_words (by omega) (gs.map byts) (byts g) (fun x hx => by
      have : x ∈ (g :: gs).map byts := by simpa using hx
      obtain ⟨y, hy, rfl⟩ := List.mem_map.1 this
      exact hall y hy) (by omega), Gr.byts_flat, ← byts_app]
    rw [← List.flatten_cons, hfl]
    exact hs
end Go.Ph.Wd
end
section
set_option linter.unusedVariables false
set_option linter.unusedSimpArgs false
namespace Go.Ph.Qp
open Go
def digs : List UInt8 := [48, 49, 50, 51, 52, 53, 54, 55, 56, 57, 65, 66, 67, 68, 69, 70]
def dig (n : Nat) : UInt8 := digs.getD (n % 16) 0
def hexV (c : UInt8) : Option Nat :=
  if 48 ≤ c.toNat ∧ c.toNat ≤ 57 then some (c.toNat - 48) else if 65 ≤ c.toNat ∧ c.toNat ≤ 70 then some (c.toNat - 55) else if 97 ≤ c.toNat ∧ c.toNat ≤ 102 then some (c.toNat - 87) else none
abbrev bl (c : UInt8) : Prop := c.toNat = 32 ∨ c.toNat = 9
abbrev lineAt (l : List UInt8) : Prop := l.take 2 = [13, 10]
theorem lineAt_iff {l : List UInt8} : lineAt l ↔ ∃ r, l = 13 :: 10 :: r := by
  constructor
  · intro h
    cases l with
    | nil => cases h
    | cons a l => cases l with
      | nil =>
        have := congrArg List.length (show [a] = [13, 10] from h)
        simp at this
      | cons b r =>
        have h' : [a, b] = [13, 10] := h
        simp only [List.cons.injEq, and_true] at h'
        exact ⟨r, by rw [h'.1, h'.2]⟩
  · rintro ⟨r, rfl⟩; rfl
abbrev lit (c : UInt8) (r : List UInt8) : Prop := (33 ≤ c.toNat ∧ c.toNat ≤ 126 ∧ c.toNat ≠ 61) ∨ (bl c ∧ ¬ (r = [] ∨ lineAt r))
def hex (c : UInt8) : List UInt8 := [61, dig (c.toNat / 16), dig c.toNat]
def sg (c : UInt8) (r : List UInt8) : List UInt8 := if lit c r then [c] else hex c
theorem sg_len (c : UInt8) (r : List UInt8) : 1 ≤ (sg c r).length ∧ (sg c r).length ≤ 3 := by
  unfold sg hex; split <;> simp
def most (r : List UInt8) : Nat := if r ≠ [] ∧ ¬ lineAt r then 75 else 76
def encF : Nat → Nat → List UInt8 → List UInt8
  | 0, _, _ => []
  | _ + 1, _, [] => []
  | f + 1, col, c :: r =>
    if lineAt (c :: r) then 13 :: 10 :: encF f 0 (r.drop 1)
    else if most r < col + (sg c r).length then [61, 13, 10] ++ (sg c r ++ encF f (sg c r).length r) else sg c r ++ encF f (col + (sg c r).length) r
theorem encF_more : ∀ (f g col : Nat) (l : List UInt8), l.length ≤ f → l.length ≤ g → encF f col l = encF g col l := by
  intro f
  induction f with
  | zero =>
    intro g col l hf _
    obtain rfl := List.eq_nil_of_length_eq_zero (Nat.le_zero.1 hf)
    cases g <;> rfl
  | succ f ih =>
    intro g col l hf hg
    cases l with
    | nil => cases g <;> rfl
    | cons c r =>
      cases g with
      | zero => simp at hg
      | succ g =>
        simp only [List.length_cons] at hf hg
        simp only [encF]
        rw [ih g 0 (r.drop 1) (by rw [List.length_drop]; omega) (by rw [List.length_drop]; omega), ih g _ r (by omega) (by omega), ih g _ r (by omega) (by omega)]
def enc (col : Nat) (l : List UInt8) : List UInt8 := encF l.length col l
theorem enc_nil (col : Nat) : enc col [] = [] := rfl
theorem enc_line (col : Nat) (r : List UInt8) : enc col (13 :: 10 :: r) = 13 :: 10 :: enc 0 r := by
  unfold enc
  simp only [List.length_cons, encF]
  rw [if_pos (show lineAt (13 :: 10 :: r) from rfl), List.drop_one, List.tail_cons, encF_more _ r.length 0 r (by omega) (Nat.le_refl _)]
theorem enc_cons {col : Nat} {c : UInt8} {r : List UInt8} (h : ¬ lineAt (c :: r)) : enc col (c :: r) = if most r < col + (sg c r).length then [61, 13, 10] ++ (sg c r ++ enc (sg c r).length r) else sg c r ++ enc (col + (sg c r).length) r := by
  unfold enc
  simp only [List.length_cons, encF]
  rw [if_neg h]
theorem enc_len : ∀ (n col : Nat) (l : List UInt8), l.length ≤ n → (enc col l).length ≤ 6 * l.length := by
  intro n
  induction n with
  | zero => intro col l h; obtain rfl := List.eq_nil_of_length_eq_zero (Nat.le_zero.1 h); simp [enc_nil]
  | succ n ih =>
    intro col l h
    cases l with
    | nil => simp [enc_nil]
    | cons c r =>
      simp only [List.length_cons] at h
      by_cases hl : lineAt (c :: r)
      · obtain ⟨r', hr⟩ := lineAt_iff.1 hl
        cases hr
        simp only [List.length_cons] at h
        have := ih 0 r' (by omega)
        rw [enc_line]
        simp only [List.length_cons]; omega
      · rw [enc_cons hl]
        have h1 := sg_len c r
        have h2 := ih (sg c r).length r (by omega)
        have h3 := ih (col + (sg c r).length) r (by omega)
        split
        · simp only [List.length_append, List.length_cons, List.length_nil]; omega
        · simp only [List.length_append, List.length_cons]; omega
def esc (l : List UInt8) : Option UInt8 :=
  if l[0]? = some 61 then match (l[1]?).bind hexV, (l[2]?).bind hexV with
    | some x, some y => some (UInt8.ofNat (16 * x + y))
    | _, _ => none
  else none
def plainF : Nat → List UInt8 → List UInt8
  | 0, _ => []
  | _ + 1, [] => []
  | f + 1, c :: r => match esc (c :: r) with
    | some x => x :: plainF f (r.drop 2)
    | none => c :: plainF f r
def plain (l : List UInt8) : List UInt8 := plainF l.length l
def trimR (l : List UInt8) : List UInt8 := (l.reverse.dropWhile (fun c => decide (bl c))).reverse
def nlen (l : List UInt8) : Nat := min (l.findIdx (fun c => decide (c = 10)) + 1) l.length
def chop (x : UInt8) (l : List UInt8) : List UInt8 := if l.getLast? = some x then l.dropLast else l
def body (s : List UInt8) : List UInt8 := if s.getLast? = some 10 then chop 13 s.dropLast else s
def one (s : List UInt8) : List UInt8 := if (trimR (body s)).getLast? = some 61 then plain (trimR (body s)).dropLast else plain (trimR (body s)) ++ s.drop (body s).length
def lenF : Nat → List UInt8 → List UInt8
  | 0, _ => []
  | f + 1, l => if l = [] then [] else one (l.take (nlen l)) ++ lenF f (l.drop (nlen l))
def lenient (l : List UInt8) : List UInt8 := lenF l.length l
theorem trimR_snoc {P : List UInt8} {c : UInt8} (h : ¬ bl c) : trimR (P ++ [c]) = P ++ [c] := by
  unfold trimR
  rw [List.reverse_append, List.reverse_singleton, List.singleton_append, List.dropWhile_cons_of_neg (by simpa using h), List.reverse_cons, List.reverse_reverse]
theorem trimR_nil : trimR [] = [] := rfl
theorem trimR_blank {X Y : List UInt8} (h : ∀ c ∈ Y, bl c) : trimR (X ++ Y) = trimR X := by
  unfold trimR
  rw [List.reverse_append, List.dropWhile_append_of_pos (fun c hc => by simpa using h c (List.mem_reverse.1 hc))]
end Go.Ph.Qp
end
section
set_option linter.unusedVariables false
set_option linter.unusedSimpArgs false
namespace Go.Ph.Fd
open Go Go.Ph.Qp
def bk (s : List UInt8) (i : Nat) : Bool := match s[i - 1]?, s[i]? with
  | some a, some b => decide (0 < i ∧ bl b ∧ ¬ bl a)
  | _, _ => false
theorem bk_at {s : List UInt8} {i : Nat} {a b : UInt8} (h0 : 0 < i) (ha : s[i - 1]? = some a) (hb : s[i]? = some b) : bk s i = decide (bl b ∧ ¬ bl a) := by
  unfold bk
  rw [ha, hb]
  simp [h0]
theorem bk_drop (s : List UInt8) (a i : Nat) (hi : 0 < i) : bk (s.drop a) i = bk s (a + i) := by
  unfold bk
  rw [List.getElem?_drop, List.getElem?_drop, show a + (i - 1) = a + i - 1 by omega]
  have : 0 < a + i := by omega
  simp [hi, this]
def sc (s : List UInt8) : Nat → Nat → Nat → Nat
  | 0, _, best => best
  | f + 1, i, best => if bk s i then (if best = 0 ∨ i ≤ 78 then sc s f (i + 1) i else sc s f (i + 1) best) else sc s f (i + 1) best
theorem sc_stay (s : List UInt8) : ∀ (f i best : Nat), 0 < best → 78 < i → sc s f i best = best := by
  intro f
  induction f with
  | zero => intro i best _ _; rfl
  | succ f ih =>
    intro i best h1 h2
    rw [sc]
    split
    · rw [if_neg (by omega), ih _ _ h1 (by omega)]
    · exact ih _ _ h1 (by omega)
def pt (s : List UInt8) (k : Nat) : Nat := sc s (s.length - k) k 0
theorem sc_le (s : List UInt8) : ∀ (f i best : Nat), sc s f i best = best ∨ (i ≤ sc s f i best ∧ sc s f i best < i + f ∧ bk s (sc s f i best) = true) := by
  intro f
  induction f with
  | zero => intro i best; exact .inl rfl
  | succ f ih =>
    intro i best
    rw [sc]
    split
    · rename_i hb
      split
      · rcases ih (i + 1) i with h | ⟨h1, h2, h3⟩
        · exact .inr ⟨by omega, by omega, by rw [h]; exact hb⟩
        · exact .inr ⟨by omega, by omega, h3⟩
      · rcases ih (i + 1) best with h | ⟨h1, h2, h3⟩
        · exact .inl h
        · exact .inr ⟨by omega, by omega, h3⟩
    · rcases ih (i + 1) best with h | ⟨h1, h2, h3⟩
      · exact .inl h
      · exact .inr ⟨by omega, by omega, h3⟩
theorem pt_lt {s : List UInt8} {k : Nat} (hk : 0 < k) (h : pt s k ≠ 0) : k ≤ pt s k ∧ pt s k < s.length ∧ bk s (pt s k) = true := by
  unfold pt at h ⊢
  rcases sc_le s (s.length - k) k 0 with h1 | ⟨h1, h2, h3⟩
  · exact absurd h1 h
  · exact ⟨h1, by omega, h3⟩
def flF : Nat → List UInt8 → Nat → List (List UInt8)
  | 0, s, _ => [s]
  | f + 1, s, k => if 78 < s.length ∧ pt s k ≠ 0 then s.take (pt s k) :: flF f (s.drop (pt s k)) 1 else [s]
theorem flF_more : ∀ (f g : Nat) (s : List UInt8) (k : Nat), 0 < k → s.length ≤ f → s.length ≤ g → flF f s k = flF g s k := by
  intro f
  induction f with
  | zero =>
    intro g s k hk hf hg
    cases g with
    | zero => rfl
    | succ g => rw [flF, flF, if_neg (by omega)]
  | succ f ih =>
    intro g s k hk hf hg
    cases g with
    | zero => rw [flF, flF, if_neg (by omega)]
    | succ g =>
      rw [flF, flF]
      split
      · rename_i h
        have h1 := pt_lt hk h.2
        rw [ih g _ 1 (by omega) (by rw [List.length_drop]; omega) (by rw [List.length_drop]; omega)]
      · rfl
def fl (s : List UInt8) (k : Nat) : List (List UInt8) := flF s.length s k
theorem fl_more {s : List UInt8} {k : Nat} (hk : 0 < k) (h : 78 < s.length ∧ pt s k ≠ 0) : fl s k = s.take (pt s k) :: fl (s.drop (pt s k)) 1 := by
  have h1 := pt_lt hk h.2
  unfold fl
  rw [flF_more s.length (s.length - 1 + 1) s k hk (Nat.le_refl _) (by omega), flF, if_pos h, flF_more _ (s.drop (pt s k)).length _ 1 (by omega) (by rw [List.length_drop]; omega) (Nat.le_refl _)]
theorem fl_end {s : List UInt8} {k : Nat} (h : ¬ (78 < s.length ∧ pt s k ≠ 0)) : fl s k = [s] := by
  unfold fl
  cases hl : s.length with
  | zero => rfl
  | succ n => rw [flF, if_neg h]
theorem fl_flat : ∀ (n : Nat) (s : List UInt8) (k : Nat), 0 < k → s.length ≤ n → (fl s k).flatten = s := by
  intro n
  induction n with
  | zero =>
    intro s k _ h
    obtain rfl := List.eq_nil_of_length_eq_zero (Nat.le_zero.1 h)
    rfl
  | succ n ih =>
    intro s k hk h
    by_cases hc : 78 < s.length ∧ pt s k ≠ 0
    · have h1 := pt_lt hk hc.2
      rw [fl_more hk hc, List.flatten_cons, ih _ 1 (by omega) (by rw [List.length_drop]; omega), List.take_append_drop]
    · rw [fl_end hc]; simp
def step (at_ : Nat) (best : Int) (p : Nat) : Int := if at_ < p ∧ ((p : Int) - (at_ : Int) ≤ 78 ∨ best < 0) then (p : Int) else best
end Go.Ph.Fd
end
section
set_option linter.unusedVariables false
set_option linter.unusedSimpArgs false
namespace Go.Ph.Pf
open Go.Ph.Pl Go.Ph.Qp Go.Ph.Fd
abbrev Big (l : List UInt8) : Prop := l.length ≤ 140737488355328
theorem R_Blank_eq (c : UInt8) : R_Blank c = some (decide (bl c)) := by
  unfold R_Blank bl
  have e1 : (c = 32) ↔ c.toNat = 32 := u8_lit c 32
  have e2 : (c = 9) ↔ c.toNat = 9 := u8_lit c 9
  by_cases h : c = 32
  · simp [h]
  · rw [if_neg h]
    have h' : ¬ c.toNat = 32 := fun x => h (e1.2 x)
    simp [h', e2]
theorem basic_Blank_eq (c : UInt8) : basic_Blank c = some (decide (bl c)) := R_Blank_eq c
theorem basic_All_eq (l : List UInt8) (hl : Big l) (g : UInt8 → Option Bool) (p : UInt8 → Bool) (hg : ∀ c, g c = some (p c)) : basic_All l g = some (l.all p) := by
  unfold basic_All
  rw [scan0 (L := basic_All_L1 l g) (l := l) (p := fun c => !p c) (stop := .inl ()) (r := .inr false) (FU_gt (by omega)) (fun m => by rw [basic_All_L1, if_neg (by omega)]) (fun m i h => by
    rw [basic_All_L1, if_pos (by omega), idx_nat, List.getElem?_eq_getElem h, chk_succ (by have := hl; omega)]
    simp only [bsome, hg]
    cases p l[i] <;> simp)]
  simp only [bsome]
  rw [List.all_eq_not_any_not]
  cases l.any (fun c => !p c) <;> simp
def nmB (c : UInt8) : Bool := decide (33 ≤ c.toNat ∧ c.toNat ≤ 126 ∧ c.toNat ≠ 58)
theorem fold_name_1_eq (c : UInt8) : fold_name_1 c = some (nmB c) := by
  unfold fold_name_1 nmB
  have e : (c = 58) ↔ c.toNat = 58 := u8_lit c 58
  by_cases h1 : 33 ≤ c.toNat <;> by_cases h2 : c.toNat ≤ 126 <;> by_cases h3 : c.toNat = 58 <;> simp [h1, h2, h3, e]
def nmL (l : List UInt8) : Bool := l.all nmB && decide (1 ≤ l.length ∧ l.length ≤ 60)
theorem fold_name_eq (l : List UInt8) (hl : Big l) : fold_name l = some (nmL l) := by
  unfold fold_name nmL
  by_cases h : l = []
  · subst h; rfl
  · have hpos : 1 ≤ l.length := by cases l <;> simp_all
    rw [if_neg h]
    by_cases h2 : l.length ≤ 60
    · rw [if_pos (by omega), basic_All_eq l hl _ nmB fold_name_1_eq]
      simp [hpos, h2]
    · rw [if_neg (by omega)]
      simp [h2]
def endB (c : UInt8) : Bool := decide (c.toNat = 13 ∨ c.toNat = 10 ∨ c.toNat = 0)
def trimL (l : List UInt8) : List UInt8 := l.dropWhile (fun c => decide (bl c))
theorem trimL_nil : trimL [] = [] := rfl
theorem trimL_pos {c : UInt8} {r : List UInt8} (h : bl c) : trimL (c :: r) = trimL r := by unfold trimL; rw [List.dropWhile_cons_of_pos (by simpa using h)]
theorem trimL_neg {c : UInt8} {r : List UInt8} (h : ¬ bl c) : trimL (c :: r) = c :: r := by unfold trimL; rw [List.dropWhile_cons_of_neg (by simpa using h)]
theorem trimL_len (l : List UInt8) : (trimL l).length ≤ l.length := (List.dropWhile_sublist _).length_le
theorem trimR_len (l : List UInt8) : (trimR l).length ≤ l.length := by
  unfold trimR; rw [List.length_reverse]; have := (List.dropWhile_sublist (l := l.reverse) (fun c => decide (bl c))).length_le; simpa using this
theorem snoc_cases (l : List UInt8) : l = [] ∨ ∃ a c, l = a ++ [c] := by
  rcases List.eq_nil_or_concat l with h | ⟨a, c, h⟩
  · exact .inl h
  · exact .inr ⟨a, c, by rw [h, List.concat_eq_append]⟩
theorem trimR_bl {a : List UInt8} {c : UInt8} (h : bl c) : trimR (a ++ [c]) = trimR a := trimR_blank (fun x hx => by simp at hx; rw [hx]; exact h)
theorem trimR_nb {a : List UInt8} {c : UInt8} (h : ¬ bl c) : trimR (a ++ [c]) = a ++ [c] := trimR_snoc h
theorem trim_comm : ∀ (n : Nat) (l : List UInt8), l.length ≤ n → trimR (trimL l) = trimL (trimR l)
  | 0, l, h => by obtain rfl : l = [] := List.eq_nil_of_length_eq_zero (by omega); rfl
  | n + 1, l, h => by
    cases l with
    | nil => rfl
    | cons c r =>
      by_cases hc : bl c
      · rw [trimL_pos hc, trim_comm n r (by simpa using h)]
        rcases snoc_cases r with rfl | ⟨a, d, rfl⟩
        · have : trimR [c] = [] := by have := trimR_bl (a := []) hc; simpa [trimR_nil] using this
          rw [this]; rfl
        · by_cases hd : bl d
          · rw [← List.cons_append, trimR_bl hd, trimR_bl hd]
            have ih := trim_comm n (c :: a) (by simp at h ⊢; omega)
            rw [← ih, trimL_pos hc, trim_comm n a (by simp at h; omega)]
          · rw [← List.cons_append, trimR_nb hd, trimR_nb hd, List.cons_append, trimL_pos hc]
      · rw [trimL_neg hc]
        rcases snoc_cases r with rfl | ⟨a, d, rfl⟩
        · have : trimR [c] = [c] := by have := trimR_nb (a := []) hc; simpa using this
          rw [this, trimL_neg hc]
        · by_cases hd : bl d
          · rw [← List.cons_append, trimR_bl hd]
            have ih := trim_comm n (c :: a) (by simp at h ⊢; omega)
            rw [trimL_neg hc] at ih
            rw [← ih]
          · rw [← List.cons_append, trimR_nb hd, List.cons_append, trimL_neg hc]
def trimB (l : List UInt8) : List UInt8 := trimR (trimL l)
theorem set_blank : strings_makeASCIISet [32, 9] = some ((List.range 256).map (fun n => decide (n = 32 ∨ n = 9)), true) := by decide +kernel
theorem set_end : strings_makeASCIISet [13, 10, 0] = some ((List.range 256).map (fun n => decide (n = 13 ∨ n = 10 ∨ n = 0)), true) := by decide +kernel
theorem contains_at (f : Nat → Bool) (c : UInt8) : strings_asciiSet_contains ((List.range 256).map f) c = some (f c.toNat) := by
  have hc := c.toNat_lt
  unfold strings_asciiSet_contains idxA
  rw [if_pos (by simp), idx_nat, List.getElem?_map, List.getElem?_range (by omega)]
  rfl
theorem trimRA_eq : ∀ (k m : Nat) (l : List UInt8), l.length ≤ k → k < m → Big l → strings_trimRightASCII_L1 ((List.range 256).map (fun n => decide (n = 32 ∨ n = 9))) m l = some (trimR l)
  | k, m, l, h1, h2, h3 => by
    obtain ⟨m, rfl⟩ : ∃ k, m = k + 1 := ⟨m - 1, by omega⟩
    rcases snoc_cases l with rfl | ⟨a, c, rfl⟩
    · rw [strings_trimRightASCII_L1, if_neg (by simp)]; rfl
    · have hl : (a ++ [c]).length = a.length + 1 := by simp
      simp only [Big, hl] at h3
      rw [strings_trimRightASCII_L1, if_pos (by rw [hl]; omega), hl, show ((a.length + 1 : Nat) : Int) - 1 = ((a.length : Nat) : Int) by omega, chk_ok (by omega) (by omega)]
      simp only [bsome]
      rw [idx_nat, List.getElem?_append_right (Nat.le_refl _)]
      simp only [Nat.sub_self, List.getElem?_cons_zero, bsome, contains_at]
      by_cases hc : bl c
      · rw [decide_eq_true (show c.toNat = 32 ∨ c.toNat = 9 from hc), if_pos rfl, cut_to rfl (by rw [hl]; omega)]
        simp only [bsome, List.take_left]
        cases k with
        | zero => rw [hl] at h1; omega
        | succ k => rw [trimRA_eq k m a (by rw [hl] at h1; omega) (by omega) (by unfold Big; omega), trimR_bl hc]
      · rw [decide_eq_false (show ¬ (c.toNat = 32 ∨ c.toNat = 9) from hc), if_neg (by simp), trimR_nb hc]
theorem trimLA_eq : ∀ (k m : Nat) (l : List UInt8), l.length ≤ k → k < m → Big l → strings_trimLeftASCII_L1 ((List.range 256).map (fun n => decide (n = 32 ∨ n = 9))) m l = some (trimL l)
  | k, m, l, h1, h2, h3 => by
    obtain ⟨m, rfl⟩ : ∃ k, m = k + 1 := ⟨m - 1, by omega⟩
    cases l with
    | nil => rw [strings_trimLeftASCII_L1, if_neg (by simp)]; rfl
    | cons c r =>
      rw [strings_trimLeftASCII_L1, if_pos (by simp only [List.length_cons]; omega), show (0 : Int) = ((0 : Nat) : Int) from rfl, idx_nat]
      simp only [bsome, List.getElem?_cons_zero, contains_at]
      by_cases hc : bl c
      · rw [decide_eq_true (show c.toNat = 32 ∨ c.toNat = 9 from hc), if_pos rfl, cut_from (i := 1) (a := 1) rfl (by simp)]
        simp only [bsome, List.drop_succ_cons, List.drop_zero]
        cases k with
        | zero => simp at h1
        | succ k => rw [trimLA_eq k m r (by simpa using h1) (by omega) (by simp only [Big, List.length_cons] at h3 ⊢; omega), trimL_pos hc]
      · rw [decide_eq_false (show ¬ (c.toNat = 32 ∨ c.toNat = 9) from hc), if_neg (by simp), trimL_neg hc]
theorem rep_len : chkA 256 (List.replicate 256 false : List Bool) = some (List.replicate 256 false) := chkA_ok List.length_replicate
theorem rng_len (f : Nat → Bool) : chkA 256 ((List.range 256).map f) = some ((List.range 256).map f) := chkA_ok (by rw [List.length_map, List.length_range])
theorem strings_Trim_eq (l : List UInt8) (hl : Big l) : strings_Trim l [32, 9] = some (trimB l) := by
  unfold strings_Trim
  by_cases h : l = []
  · subst h; rfl
  · rw [if_neg h]
    simp only [bsome, show (decide (([32, 9] : List UInt8) = [])) = false from rfl, Bool.false_eq_true, if_false]
    rw [if_neg (by decide)]
    simp only [bsome, Bool.false_eq_true, if_false, set_blank, rep_len, rng_len, if_true]
    unfold strings_trimRightASCII strings_trimLeftASCII
    rw [trimRA_eq l.length FU l (Nat.le_refl _) (FU_gt (by omega)) hl]
    simp only [bsome]
    have := trimR_len l
    rw [trimLA_eq (trimR l).length FU (trimR l) (Nat.le_refl _) (FU_gt (by omega)) (by unfold Big; omega)]
    simp only [bsome]
    rw [trimB, trim_comm l.length l (Nat.le_refl _)]
theorem dr_facts (l : List UInt8) : 1 ≤ (Utf.dr l).2 ∧ (Utf.dr l).2 ≤ 4 ∧ (Utf.nat l 0 < 128 → (Utf.dr l).1 = Utf.nat l 0 ∧ (Utf.dr l).2 = 1) ∧ (128 ≤ Utf.nat l 0 → 128 ≤ (Utf.dr l).1) ∧
    (2 ≤ (Utf.dr l).2 → 128 ≤ Utf.nat l 1 ∧ 1 < l.length) ∧ (3 ≤ (Utf.dr l).2 → 128 ≤ Utf.nat l 2 ∧ 2 < l.length) ∧ (4 ≤ (Utf.dr l).2 → 128 ≤ Utf.nat l 3 ∧ 3 < l.length) ∧ (Utf.dr l).1 ≤ 1114111 := by
  have h0 := Utf.nat_lt l 0
  have h1 := Utf.nat_lt l 1
  have h2 := Utf.nat_lt l 2
  have h3 := Utf.nat_lt l 3
  unfold Utf.dr Lib.decodeN
  split
  · refine ⟨by omega, by omega, fun _ => ⟨rfl, rfl⟩, fun h => by omega, fun h => by omega, fun h => by omega, fun h => by omega, by omega⟩
  · split
    · split <;> simp only [] <;> omega
    · split
      · split <;> simp only [] <;> omega
      · split
        · split <;> simp only [] <;> omega
        · simp only []; omega
theorem endB_lt {c : UInt8} (h : endB c = true) : c.toNat < 128 := by unfold endB at h; rw [decide_eq_true_eq] at h; omega
theorem any_rune {l : List UInt8} {ps : Nat} (h : ps < l.length) : (l.drop ps).any endB = (decide ((Utf.dr (l.drop ps)).1 = 13 ∨ (Utf.dr (l.drop ps)).1 = 10 ∨ (Utf.dr (l.drop ps)).1 = 0) || (l.drop (ps + (Utf.dr (l.drop ps)).2)).any endB) := by
  obtain ⟨a1, a2, a3, a4, a5, a6, a7, a8⟩ := dr_facts (l.drop ps)
  have hl : (l.drop ps).length = l.length - ps := List.length_drop
  have hn : ∀ j, ps + j < l.length → Utf.nat (l.drop ps) j = (l[ps + j]?.getD 0).toNat := fun j hj => by rw [Utf.nat_drop]; unfold Utf.nat; rw [List.getD_eq_getElem?_getD]
  have hnb : ∀ j (hj : ps + j < l.length), 128 ≤ Utf.nat (l.drop ps) j → endB l[ps + j] = false := fun j hj h8 => by
    rw [hn j hj, List.getElem?_eq_getElem hj] at h8
    cases hb : endB l[ps + j] with
    | false => rfl
    | true => have := endB_lt hb; simp at h8; omega
  have hd : ∀ j, ps + j < l.length → (l.drop (ps + j)).any endB = ((l[ps + j]?.elim false endB) || (l.drop (ps + j + 1)).any endB) := fun j hj => by
    rw [drop_cons hj, List.any_cons, List.getElem?_eq_getElem hj]; rfl
  have hfirst : (l[ps]?.elim false endB) = decide ((Utf.dr (l.drop ps)).1 = 13 ∨ (Utf.dr (l.drop ps)).1 = 10 ∨ (Utf.dr (l.drop ps)).1 = 0) := by
    rw [List.getElem?_eq_getElem h]
    have h0 := hn 0 (by omega)
    rw [Nat.add_zero, List.getElem?_eq_getElem h] at h0
    simp only [Option.getD_some] at h0
    show endB l[ps] = _
    rcases Nat.lt_or_ge (Utf.nat (l.drop ps) 0) 128 with hc | hc
    · rw [(a3 hc).1, h0]; rfl
    · have := hnb 0 (by omega) hc
      simp only [Nat.add_zero] at this
      rw [this]
      have := a4 hc
      exact (decide_eq_false (by omega)).symm
  have d0 := hd 0 (by omega)
  simp only [Nat.add_zero] at d0
  rw [d0, hfirst]
  congr 1
  have skip : ∀ j, ps + j < l.length → 128 ≤ Utf.nat (l.drop ps) j → (l.drop (ps + j)).any endB = (l.drop (ps + j + 1)).any endB := fun j hj h8 => by
    rw [hd j hj, List.getElem?_eq_getElem hj]
    show (endB l[ps + j] || _) = _
    rw [hnb j hj h8, Bool.false_or]
  rcases (show (Utf.dr (l.drop ps)).2 = 1 ∨ (Utf.dr (l.drop ps)).2 = 2 ∨ (Utf.dr (l.drop ps)).2 = 3 ∨ (Utf.dr (l.drop ps)).2 = 4 by omega) with e | e | e | e
  · rw [e]
  · rw [e, skip 1 (by omega) (a5 (by omega)).1]
  · rw [e, skip 1 (by have := (a5 (by omega)).2; omega) (a5 (by omega)).1, skip 2 (by have := (a6 (by omega)).2; omega) (a6 (by omega)).1]
  · rw [e, skip 1 (by have := (a5 (by omega)).2; omega) (a5 (by omega)).1, skip 2 (by have := (a6 (by omega)).2; omega) (a6 (by omega)).1, skip 3 (by have := (a7 (by omega)).2; omega) (a7 (by omega)).1]
theorem ub_high {a : Int} (h1 : 128 ≤ a) (h2 : a < 256) : 128 ≤ (Ph.ub a).toNat := by
  unfold Ph.ub
  rw [UInt8.toNat_ofNat']
  omega
theorem utf8_high {r : Int} (h : 128 ≤ r) : 2 ≤ (Chs.utf8 r).length ∧ (Chs.utf8 r).length ≤ 4 ∧ ∀ c ∈ Chs.utf8 r, 128 ≤ c.toNat := by
  have hf : 128 ≤ Chs.fixN r := by unfold Chs.fixN; split <;> omega
  have hk := Chs.fixN_ok r
  unfold Chs.utf8 Chs.utf8M
  rw [if_neg (by omega)]
  split
  · refine ⟨by simp, by simp, fun c hc => ?_⟩
    simp only [List.mem_cons, List.not_mem_nil, or_false] at hc
    rcases hc with rfl | rfl <;> exact ub_high (by omega) (by omega)
  · split
    · refine ⟨by simp, by simp, fun c hc => ?_⟩
      simp only [List.mem_cons, List.not_mem_nil, or_false] at hc
      rcases hc with rfl | rfl | rfl <;> exact ub_high (by omega) (by omega)
    · refine ⟨by simp, by simp, fun c hc => ?_⟩
      simp only [List.mem_cons, List.not_mem_nil, or_false] at hc
      rcases hc with rfl | rfl | rfl | rfl <;> exact ub_high (by omega) (by omega)
theorem ix_low : ∀ n : Nat, n < 128 → decide ((0 : Int) ≤ ixB [13, 10, 0] (ub8 (n : Int))) = decide (n = 13 ∨ n = 10 ∨ n = 0) := by decide +kernel
theorem ix_high : ∀ k, k < 4 → ∀ n, n < 256 → 128 ≤ n → ixB (([13, 10, 0] : List UInt8).drop k) (UInt8.ofNat n) = -1 := by decide +kernel
theorem IndexRune_end (r : Nat) : ∃ n, strings_IndexRune [13, 10, 0] (r : Int) = some n ∧ decide ((0 : Int) ≤ n) = decide (r = 13 ∨ r = 10 ∨ r = 0) := by
  unfold strings_IndexRune
  rw [if_pos (by omega)]
  simp only [bsome]
  by_cases h1 : r < 128
  · rw [decide_eq_true (by omega), if_pos rfl]
    exact ⟨_, rfl, ix_low r h1⟩
  · rw [decide_eq_false (by omega), if_neg (by simp), decide_eq_false (show ¬ (r = 13 ∨ r = 10 ∨ r = 0) by omega)]
    have neg : ∀ {x : Option Int}, x = some (-1) → ∃ n, x = some n ∧ decide ((0 : Int) ≤ n) = false := fun h => ⟨-1, h, by decide⟩
    refine neg ?_
    by_cases h2 : (r : Int) = 65533
    · rw [if_pos h2]; decide +kernel
    · rw [if_neg h2]
      have hv : ∃ b, utf8_ValidRune (r : Int) = some b := by
        unfold utf8_ValidRune
        rw [if_pos (by omega)]
        simp only [bsome]
        split
        · exact ⟨_, rfl⟩
        · split
          · simp only [bsome]; split <;> exact ⟨_, rfl⟩
          · simp only [bsome]; exact ⟨_, rfl⟩
      obtain ⟨b, hb⟩ := hv
      rw [hb]
      simp only [bsome]
      cases b with
      | false => rfl
      | true =>
        rw [if_pos rfl]
        obtain ⟨u1, u2, u3⟩ := utf8_high (r := (r : Int)) (by omega)
        rw [show ((Chs.utf8 (r : Int)).length : Int) - 1 = (((Chs.utf8 (r : Int)).length - 1 : Nat) : Int) by omega, chk_ok (by omega) (by omega)]
        simp only [bsome]
        generalize hk : (Chs.utf8 (r : Int)).length - 1 = k
        rw [show FU = 18446744073709551615 + 1 from rfl, strings_IndexRune_L2]
        have hkl : k < (Chs.utf8 (r : Int)).length := by omega
        have hc := u3 _ (List.getElem_mem hkl)
        by_cases h3 : k < 3
        · rw [if_pos (by simp; omega), idx_nat, idx_nat, List.getElem?_eq_getElem hkl, List.getElem?_eq_getElem (show k < ([13, 10, 0] : List UInt8).length from h3)]
          simp only [bsome]
          have hne : ¬ (([13, 10, 0] : List UInt8)[k]'h3 = (Chs.utf8 (r : Int))[k]) := by
            intro he
            rw [← he] at hc
            have : ∀ k (h : k < 3), (([13, 10, 0] : List UInt8)[k]'h).toNat < 128 := by decide
            have := this k h3
            omega
          rw [if_neg hne, chk_succ (by omega)]
          simp only [bsome]
          rw [cut_from rfl (by simp; omega)]
          simp only [bsome]
          unfold strings_IndexByte
          have hx := ix_high (k + 1) (by omega) ((Chs.utf8 (r : Int))[k]).toNat (UInt8.toNat_lt _) hc
          rw [UInt8.ofNat_toNat] at hx
          rw [hx]
          simp only [bsome]
          rw [if_pos (by omega)]
          simp only [bsome]
        · rw [if_neg (by simp; omega)]
          simp only [bsome]
theorem IndexAny_L2_end (l : List UInt8) : ∀ (k ps m : Nat), l.length - ps ≤ k → k < m → ∃ o, strings_IndexAny_L2 l [13, 10, 0] m ps = some o ∧ ((l.drop ps).any endB = true → ∃ n, o = .inr n ∧ 0 ≤ n) ∧ ((l.drop ps).any endB = false → o = .inl ())
  | k, ps, m, h1, h2 => by
    obtain ⟨m, rfl⟩ : ∃ k, m = k + 1 := ⟨m - 1, by omega⟩
    by_cases h : ps < l.length
    · rw [strings_IndexAny_L2, if_pos h]
      obtain ⟨n, hn1, hn2⟩ := IndexRune_end (Utf.dr (l.drop ps)).1
      rw [hn1]
      simp only [bsome]
      rw [any_rune h]
      by_cases hc : 0 ≤ n
      · rw [if_pos hc]
        rw [decide_eq_true hc] at hn2
        rw [← hn2]
        exact ⟨_, rfl, fun _ => ⟨_, rfl, by omega⟩, fun h => by simp at h⟩
      · rw [if_neg hc]
        rw [decide_eq_false hc] at hn2
        rw [← hn2, Bool.false_or]
        have hs := (dr_facts (l.drop ps)).1
        cases k with
        | zero => omega
        | succ k => exact IndexAny_L2_end l k (ps + (Utf.dr (l.drop ps)).2) m (by omega) (by omega)
    · rw [strings_IndexAny_L2, if_neg h, List.drop_of_length_le (by omega)]
      exact ⟨_, rfl, fun h => by simp at h, fun _ => rfl⟩
theorem fold_ends_eq (l : List UInt8) (hl : Big l) : fold_ends l = some (l.any endB) := by
  unfold fold_ends strings_ContainsAny strings_IndexAny strings_shouldUseASCIISet
  rw [if_neg (by decide), if_neg (by decide)]
  simp only [bsome]
  by_cases h8 : 8 < l.length
  · rw [decide_eq_true (by omega), if_pos rfl, set_end]
    simp only [bsome, rep_len, rng_len, if_true]
    rcases scanP (strings_IndexAny_L1 l ((List.range 256).map (fun n => decide (n = 13 ∨ n = 10 ∨ n = 0)))) l (fun i c => if endB c = true then some (Sum.inr (i : Int)) else none) (.inl ()) (fun m => by rw [strings_IndexAny_L1, if_neg (by omega)]) (fun m i h => by
      rw [strings_IndexAny_L1, if_pos (by omega), idx_nat, List.getElem?_eq_getElem h, chk_succ (by have := hl; omega)]
      simp only [bsome, contains_at]
      show (if endB l[i] = true then _ else _) = _
      by_cases he : endB l[i] = true
      · rw [if_pos he, if_pos he]
      · rw [if_neg he, if_neg he]) l.length 0 FU (by omega) (FU_gt (by omega)) (by omega) with ⟨j, hj, r, a1, a2, a3, a4⟩ | ⟨a1, a2⟩
    · rw [show ((0 : Nat) : Int) = 0 from rfl] at a4
      rw [a4]
      split at a2
      · rename_i he
        cases a2
        have : l.any endB = true := List.any_eq_true.2 ⟨_, List.getElem_mem hj, he⟩
        rw [this]
        simp only [bsome]
        rw [decide_eq_true (by omega)]
      · cases a2
    · rw [show ((0 : Nat) : Int) = 0 from rfl] at a2
      rw [a2]
      have : l.any endB = false := by
        rw [List.any_eq_false]
        intro c hc
        obtain ⟨i, hi, rfl⟩ := List.getElem_of_mem hc
        have := a1 i hi (by omega)
        intro he
        rw [if_pos he] at this
        cases this
      rw [this]
      simp only [bsome]
      rfl
  · rw [decide_eq_false (by omega), if_neg (by simp)]
    simp only [bsome]
    obtain ⟨o, ho, h1, h2⟩ := IndexAny_L2_end l l.length 0 FU (by omega) (FU_gt (by omega))
    rw [List.drop_zero] at h1 h2
    rw [ho]
    simp only [bsome]
    cases hb : l.any endB with
    | true =>
      obtain ⟨n, rfl, hn⟩ := h1 hb
      simp only [bsome]
      rw [decide_eq_true hn]
    | false =>
      rw [h2 hb]
      simp only [bsome]
      rfl
theorem trimB_self (l : List UInt8) : trimB l = l ↔ (l = [] ∨ ((∀ c, l.head? = some c → ¬ bl c) ∧ (∀ c, l.getLast? = some c → ¬ bl c))) := by
  unfold trimB
  cases l with
  | nil => simp [trimL_nil, trimR_nil]
  | cons c r =>
    constructor
    · intro h
      have hc : ¬ bl c := by
        intro hb
        rw [trimL_pos hb] at h
        have h1 := trimR_len (trimL r)
        have h2 := trimL_len r
        rw [h] at h1
        simp at h1
        omega
      rw [trimL_neg hc] at h
      refine .inr ⟨fun d hd => by simp at hd; rw [← hd]; exact hc, fun d hd hb => ?_⟩
      rcases snoc_cases (c :: r) with h0 | ⟨a, x, hax⟩
      · cases h0
      · rw [hax] at hd h
        simp at hd
        subst hd
        rw [trimR_bl hb] at h
        have := trimR_len a
        rw [h] at this
        simp at this
        omega
    · rintro (h | ⟨h1, h2⟩)
      · cases h
      · rw [trimL_neg (h1 c rfl)]
        rcases snoc_cases (c :: r) with h0 | ⟨a, x, hax⟩
        · cases h0
        · rw [hax] at h2 ⊢
          exact trimR_nb (h2 x (by simp))
def valB (l : List UInt8) : Bool := !l.any endB && decide (trimB l = l)
theorem fold_value_eq (l : List UInt8) (hl : Big l) : fold_value l = some (valB l) := by
  unfold fold_value valB
  rw [fold_ends_eq l hl]
  simp only [bsome]
  cases hb : l.any endB with
  | true => rfl
  | false =>
    simp only [Bool.false_eq_true, if_false]
    rw [show decide (trimB l = l) = decide (l = [] ∨ ((∀ c, l.head? = some c → ¬ bl c) ∧ (∀ c, l.getLast? = some c → ¬ bl c))) from decide_eq_decide.2 (trimB_self l)]
    by_cases h : l = []
    · rw [if_pos h, decide_eq_true (.inl h)]; rfl
    · rw [if_neg h]
      have hpos : 0 < l.length := by cases l <;> simp_all
      have hh : l.head? = some l[0] := by rw [List.head?_eq_getElem?, List.getElem?_eq_getElem hpos]
      have hg : l.getLast? = some (l[l.length - 1]'(by omega)) := by rw [List.getLast?_eq_getElem?, List.getElem?_eq_getElem]
      rw [show (0 : Int) = ((0 : Nat) : Int) from rfl, idx_nat, List.getElem?_eq_getElem hpos, chk_pred (by omega) (by omega)]
      simp only [bsome, basic_Blank_eq]
      rw [idx_nat, List.getElem?_eq_getElem (by omega)]
      simp only [bsome, basic_Blank_eq, hh, hg, Option.some.injEq]
      by_cases h1 : bl l[0]
      · rw [decide_eq_true h1, if_pos rfl]
        simp only [bsome]
        rw [decide_eq_false (fun x => x.elim h (fun y => y.1 _ hh h1))]; rfl
      · rw [decide_eq_false h1, if_neg (by simp)]
        simp only [bsome]
        by_cases h2 : bl (l[l.length - 1]'(by omega))
        · rw [decide_eq_true h2, decide_eq_false (fun x => x.elim h (fun y => y.2 _ hg h2))]; rfl
        · rw [decide_eq_false h2, decide_eq_true (.inr ⟨fun c hc => by rw [hh] at hc; cases hc; exact h1, fun c hc => by rw [hg] at hc; cases hc; exact h2⟩)]; rfl
def codeF (n v : List UInt8) : Int := if nmL n = true then (if 4000 < v.length then 1 else if valB v = true then 0 else 11) else 10
theorem bk_at' {s : List UInt8} {i : Nat} (h0 : 0 < i) (h : i < s.length) : bk s i = decide (bl s[i] ∧ ¬ bl (s[i - 1]'(by omega))) := bk_at h0 (List.getElem?_eq_getElem _) (List.getElem?_eq_getElem _)
theorem point_loop (s : List UInt8) (hs : s.length ≤ 1000000) : ∀ (k i m best : Nat), s.length - i ≤ k → k < m → 0 < i → fold_point_L1 s m (best : Int) (i : Int) = some ((sc s (s.length - i) i best : Nat) : Int)
  | k, i, m, best, h1, h2, h3 => by
    obtain ⟨m, rfl⟩ : ∃ k, m = k + 1 := ⟨m - 1, by omega⟩
    by_cases hi : i < s.length
    · cases k with
      | zero => omega
      | succ k =>
      rw [fold_point_L1, if_pos (by omega), idx_nat, List.getElem?_eq_getElem hi, chk_pred (by omega) (by omega), chk_succ (by omega)]
      simp only [bsome, basic_Blank_eq, idx_nat]
      rw [List.getElem?_eq_getElem (show i - 1 < s.length by omega)]
      simp only [bsome, basic_Blank_eq]
      have hc : (if decide (bl s[i]) = true then some (decide (bl (s[i - 1]'(by omega)))) else some true) = some (!bk s i) := by
        rw [bk_at' h3 hi]
        by_cases c1 : bl s[i] <;> by_cases c2 : bl (s[i - 1]'(by omega)) <;> simp [c1, c2]
      rw [hc]
      simp only [bsome]
      rw [show s.length - i = (s.length - (i + 1)) + 1 by omega, sc]
      cases hb : bk s i with
      | false =>
        simp only [Bool.not_false, if_true, Bool.false_eq_true, if_false]
        exact point_loop s hs k (i + 1) m best (by omega) (by omega) (by omega)
      | true =>
        simp only [Bool.not_true, if_true, Bool.false_eq_true, if_false]
        by_cases hbest : 0 < best
        · rw [if_pos (by omega)]
          simp only [bsome]
          by_cases h78 : 78 < i
          · rw [decide_eq_true (by omega), if_pos rfl, if_neg (by omega), sc_stay _ _ _ _ hbest (by omega)]
          · rw [decide_eq_false (by omega), if_neg (by simp), if_pos (by omega)]
            exact point_loop s hs k (i + 1) m i (by omega) (by omega) (by omega)
        · rw [if_neg (by omega)]
          simp only [bsome, Bool.false_eq_true, if_false]
          rw [if_pos (by omega)]
          exact point_loop s hs k (i + 1) m i (by omega) (by omega) (by omega)
    · rw [fold_point_L1, if_neg (by omega), show s.length - i = 0 by omega]; rfl
theorem fold_point_eq (s : List UInt8) (hs : s.length ≤ 1000000) (k : Nat) : fold_point s (k : Int) = some ((pt s (max k 1) : Nat) : Int) := by
  unfold fold_point pt
  rw [show max (k : Int) 1 = ((max k 1 : Nat) : Int) by omega]
  have := point_loop s hs s.length (max k 1) FU 0 (by omega) (FU_gt (by omega)) (by omega)
  rw [show ((0 : Nat) : Int) = 0 from rfl] at this
  rw [this]
  rfl
theorem fold_L1_eq : ∀ (f m k : Nat) (s : List UInt8) (o : List (List UInt8)), s.length ≤ f → f < m → s.length ≤ 1000000 → o.length + s.length ≤ 1000000 →
    ∃ a b, fold_Fold_L1 m s (k : Int) o = some (a, b) ∧ b ++ [a] = o ++ fl s (max k 1) ∧ a.length ≤ s.length ∧ b.length ≤ o.length + s.length
  | f, m, k, s, o, h1, h2, h3, h4 => by
    obtain ⟨m, rfl⟩ : ∃ k, m = k + 1 := ⟨m - 1, by omega⟩
    by_cases h78 : 78 < s.length
    · rw [fold_Fold_L1, if_pos (by omega), fold_point_eq s h3]
      simp only [bsome]
      by_cases h0 : pt s (max k 1) = 0
      · rw [if_pos (by omega), fl_end (fun h => h.2 h0)]
        exact ⟨_, _, rfl, rfl, Nat.le_refl _, by omega⟩
      · obtain ⟨p1, p2, p3⟩ := pt_lt (by omega) h0
        rw [if_neg (by omega), cut_to rfl (by omega), cut_from rfl (by omega)]
        simp only [bsome]
        rw [app_ok (by simp only [List.length_cons, List.length_nil]; omega)]
        simp only [bsome]
        cases f with
        | zero => omega
        | succ f =>
          obtain ⟨a, b, e1, e2, e3, e4⟩ := fold_L1_eq f m 0 (s.drop (pt s (max k 1))) (o ++ [s.take (pt s (max k 1))]) (by rw [List.length_drop]; omega) (by omega) (by rw [List.length_drop]; omega) (by rw [List.length_append, List.length_drop]; simp; omega)
          rw [List.length_drop] at e3 e4
          simp only [List.length_append, List.length_cons, List.length_nil] at e4
          refine ⟨a, b, e1, ?_, by omega, by omega⟩
          rw [e2, fl_more (by omega) ⟨h78, h0⟩]
          simp
    · rw [fold_Fold_L1, if_neg (by omega), fl_end (fun h => h78 h.1)]
      exact ⟨_, _, rfl, rfl, Nat.le_refl _, by omega⟩
def bigL (a : List UInt8) : Bool := decide (998 < a.length)
theorem first_big {β : Type} (L : Nat → Int → Option β) (l : List (List UInt8)) (hl : l.length ≤ 1000000) (r : Nat → β) (stop : β) (hend : ∀ m, L (m + 1) (l.length : Int) = some stop)
    (hstep : ∀ m i (h : i < l.length), L (m + 1) (i : Int) = if bigL l[i] = true then some (r i) else L m ((i + 1 : Nat) : Int)) : L FU 0 = some (match l.findIdx? bigL with | some j => r j | none => stop) := by
  rcases scanP L l (fun i a => if bigL a = true then some (r i) else none) stop hend (fun m i h => by
    rw [hstep m i h]; split <;> rfl) l.length 0 FU (by omega) (FU_gt (by omega)) (by omega) with ⟨j, hj, x, a1, a2, a3, a4⟩ | ⟨a1, a2⟩
  · rw [show ((0 : Nat) : Int) = 0 from rfl] at a4
    rw [a4]
    have hb : bigL l[j] = true := by
      by_cases hb : bigL l[j] = true
      · exact hb
      · simp only [hb, if_false, Bool.false_eq_true] at a2; cases a2
    simp only [hb, if_true] at a2
    cases a2
    have : l.findIdx? bigL = some j := by
      rw [List.findIdx?_eq_some_iff_getElem]
      refine ⟨hj, hb, fun a ha => ?_⟩
      have := a3 a (by omega) (by omega) ha
      intro hc
      simp only [hc, if_true] at this
      cases this
    rw [this]
  · rw [show ((0 : Nat) : Int) = 0 from rfl] at a2
    rw [a2]
    have : l.findIdx? bigL = none := by
      rw [List.findIdx?_eq_none_iff]
      intro x hx
      obtain ⟨i, hi, rfl⟩ := List.getElem_of_mem hx
      have := a1 i hi (by omega)
      cases hc : bigL l[i] with
      | false => rfl
      | true => simp only [hc, if_true] at this; cases this
    rw [this]
theorem fl_len : ∀ (n : Nat) (s : List UInt8) (k : Nat), 0 < k → s.length ≤ n → (fl s k).length ≤ s.length + 1
  | 0, s, k, hk, h => by
    rw [fl_end (fun h' => by omega)]; simp
  | n + 1, s, k, hk, h => by
    by_cases hc : 78 < s.length ∧ pt s k ≠ 0
    · have h1 := pt_lt hk hc.2
      have := fl_len n (s.drop (pt s k)) 1 (by omega) (by rw [List.length_drop]; omega)
      rw [fl_more hk hc, List.length_cons]
      rw [List.length_drop] at this
      omega
    · rw [fl_end hc]; simp
def fieldS (n v : List UInt8) : List UInt8 := n ++ [58, 32] ++ v
def foldR (n v : List UInt8) : List (List UInt8) × (Int × Int) :=
  if codeF n v = 0 then (match (fl (fieldS n v) (n.length + 2)).findIdx? bigL with | some j => ([], (1, (j : Int))) | none => (fl (fieldS n v) (n.length + 2), (0, 0))) else ([], (codeF n v, -1))
theorem nmL_len {n : List UInt8} (h : nmL n = true) : 1 ≤ n.length ∧ n.length ≤ 60 := by
  unfold nmL at h
  rw [Bool.and_eq_true, decide_eq_true_eq] at h
  exact h.2
theorem fold_Fold_eq (n v : List UInt8) (hn : Big n) (hv : Big v) : fold_Fold n v = some (foldR n v) := by
  unfold fold_Fold foldR codeF
  rw [fold_name_eq n hn]
  simp only [bsome]
  cases h : nmL n with
  | false => rfl
  | true =>
    have h60 := nmL_len h
    simp only [if_true]
    by_cases hv4 : 4000 < v.length
    · rw [if_pos (by omega), if_pos hv4]; rfl
    · rw [if_neg (by omega), if_neg hv4, fold_value_eq v hv]
      simp only [bsome]
      cases hb : valB v with
      | false => rfl
      | true =>
        simp only [if_true]
        have e1 : (n ++ [58, 32] ++ v) = fieldS n v := rfl
        have hsl : (fieldS n v).length = n.length + 2 + v.length := by unfold fieldS; simp; omega
        rw [cat_ok (by simp only [List.length_cons, List.length_nil]; omega)]
        simp only [bsome]
        rw [cat_ok (by rw [List.length_append]; simp only [List.length_cons, List.length_nil]; omega), show ((n.length : Int) + 2) = ((n.length + 2 : Nat) : Int) by omega, chk_ok (by omega) (by omega)]
        simp only [bsome, e1]
        obtain ⟨a, b, f1, f2, f3, f4⟩ := fold_L1_eq (fieldS n v).length FU (n.length + 2) (fieldS n v) [] (Nat.le_refl _) (FU_gt (by omega)) (by omega) (by simp; omega)
        rw [f1]
        simp only [bsome]
        rw [app_ok (by simp only [List.length_cons, List.length_nil] at f4 ⊢; omega)]
        simp only [bsome]
        rw [f2, List.nil_append, show max (n.length + 2) 1 = n.length + 2 by omega]
        have hfl := fl_len (fieldS n v).length (fieldS n v) (n.length + 2) (by omega) (Nat.le_refl _)
        rw [first_big (fun m i => fold_Fold_L2 (fl (fieldS n v) (n.length + 2)) m 0 0 i) (fl (fieldS n v) (n.length + 2)) (by omega) (fun i => .inr ([], (1, (i : Int)))) (.inl (0, 0)) (fun m => by rw [fold_Fold_L2, if_neg (by omega)]) (fun m i h => by
          rw [fold_Fold_L2, if_pos (by omega), idx_nat, List.getElem?_eq_getElem h, chk_succ (by omega)]
          simp only [bsome]
          unfold bigL basic_Fault
          by_cases hbig : 998 < ((fl (fieldS n v) (n.length + 2))[i]).length
          · rw [if_pos (by omega), if_pos (decide_eq_true hbig)]; rfl
          · rw [if_neg (by omega), if_neg (by rw [decide_eq_true_eq]; exact hbig)])]
        simp only [bsome]
        cases (fl (fieldS n v) (n.length + 2)).findIdx? bigL with
        | none => rfl
        | some j => rfl
theorem codeF_zero {n v : List UInt8} (h : codeF n v = 0) : nmL n = true ∧ v.length ≤ 4000 ∧ valB v = true := by
  unfold codeF at h
  split at h
  · split at h
    · cases h
    · split at h
      · exact ⟨by assumption, by omega, by assumption⟩
      · cases h
  · cases h
theorem ixB_cons (b : UInt8) (l : List UInt8) (c : UInt8) : ixB (b :: l) c = if b = c then 0 else if ixB l c < 0 then -1 else ixB l c + 1 := by
  unfold ixB
  rw [List.idxOf_cons, List.length_cons]
  by_cases h : b = c
  · subst h; simp
  · have h' : (b == c) = false := by simpa using h
    rw [h', if_neg h]
    simp only [cond_false]
    by_cases hl : l.idxOf c < l.length
    · rw [if_pos (by omega), if_pos hl, if_neg (by omega)]; omega
    · rw [if_neg (by omega), if_neg hl, if_pos (by omega)]
theorem ixB_lt (l : List UInt8) (c : UInt8) : -1 ≤ ixB l c ∧ ixB l c < l.length := by
  unfold ixB; split <;> omega
theorem index_ixB : ∀ l : List UInt8, Lib.index l [58] = ixB l 58
  | [] => rfl
  | c :: t => by
    rw [Lib.index, ixB_cons, index_ixB t]
    have hx := ixB_lt t 58
    by_cases hc : c = 58
    · rw [if_pos (by simp [List.isPrefixOf, hc]), if_pos hc]
    · rw [if_neg (by simp [List.isPrefixOf, Ne.symm hc]), if_neg hc]
      by_cases hn : ixB t 58 < 0
      · have : ixB t 58 = -1 := by omega
        rw [this]; rfl
      · have : ¬ ((ixB t 58 == -1) = true) := by simp; omega
        rw [if_neg this, if_neg hn]
theorem strings_Cut_eq (l : List UInt8) (hl : l.length ≤ 1000000) : strings_Cut l [58] = some (if ixB l 58 < 0 then (l, [], false) else (l.take (ixB l 58).toNat, l.drop ((ixB l 58).toNat + 1), true)) := by
  have hi : stringslite_Index l [58] = some (ixB l 58) := by
    unfold stringslite_Index
    rw [if_pos (by omega), index_ixB]
  have hx := ixB_lt l 58
  unfold strings_Cut stringslite_Cut
  rw [hi]
  simp only [bsome]
  by_cases hn : ixB l 58 < 0
  · rw [if_neg (by omega), if_pos hn]
    simp only [bsome]
  · obtain ⟨n, hn'⟩ := Int.eq_ofNat_of_zero_le (show 0 ≤ ixB l 58 by omega)
    rw [if_pos (by omega), if_neg hn, hn']
    rw [cut_to rfl (by omega)]
    simp only [bsome]
    rw [show ((n : Int) + (([58] : List UInt8).length : Int)) = ((n + 1 : Nat) : Int) by simp, chk_ok (by omega) (by omega)]
    simp only [bsome]
    rw [cut_from rfl (by omega)]
    simp only [bsome, Int.toNat_natCast]
theorem jn_flat : ∀ l : List (List UInt8), jn [] l = l.flatten
  | [] => rfl
  | [x] => by simp [jn]
  | x :: y :: r => by rw [jn, jn_flat (y :: r)]; simp
def hd (a : List UInt8) : Bool := match a with | [] => true | c :: _ => !decide (bl c)
def badL (i : Nat) (a : List UInt8) : Bool := a.any endB || (decide (0 < i) && hd a)
def ufz : Nat → List (List UInt8) → Option Nat
  | _, [] => none
  | i, a :: r => if badL i a = true then some i else ufz (i + 1) r
theorem unf_loop (p : List (List UInt8)) (hp : ∀ a ∈ p, Big a) (hl : p.length ≤ 1000) : ∀ (k i m sz : Nat), p.length - i ≤ k → k < m → i ≤ p.length → sz ≤ i * 140737488355328 →
    fold_Unfold_L1 p m 0 0 (sz : Int) (i : Int) = some (match ufz i (p.drop i) with | some j => .inr ([], [], (11, (j : Int))) | none => .inl (0, 0, ((sz + (p.drop i).flatten.length : Nat) : Int))) := by
  intro k
  induction k with
  | zero =>
    intro i m sz h1 h2 h3 h4
    obtain ⟨m, rfl⟩ : ∃ k, m = k + 1 := ⟨m - 1, by omega⟩
    rw [fold_Unfold_L1, if_neg (by omega), List.drop_of_length_le (by omega), ufz]; rfl
  | succ k ih =>
    intro i m sz h1 h2 h3 h4
    obtain ⟨m, rfl⟩ : ∃ k, m = k + 1 := ⟨m - 1, by omega⟩
    by_cases hi : i < p.length
    · have hb := hp p[i] (List.getElem_mem hi)
      have hb' : (p[i]).length ≤ 140737488355328 := hb
      rw [fold_Unfold_L1, if_pos (by omega), idx_nat, List.getElem?_eq_getElem hi, drop_cons hi, ufz]
      simp only [bsome, fold_ends_eq _ hb]
      have hc : (if (p[i]).any endB = true then some true else (if (0 : Int) < (i : Int) then (if p[i] = [] then some true else (idx p[i] 0).bind fun c24 => (basic_Blank c24).bind fun b25 => some (!b25)) else some false)) = some (badL i p[i]) := by
        unfold badL
        cases (p[i]).any endB with
        | true => rfl
        | false =>
          simp only [Bool.false_eq_true, if_false, Bool.false_or]
          by_cases h0 : 0 < i
          · rw [if_pos (by omega), decide_eq_true h0, Bool.true_and]
            generalize p[i] = a
            cases a with
            | nil => rfl
            | cons c r =>
              rw [if_neg (by simp), show (0 : Int) = ((0 : Nat) : Int) from rfl, idx_nat]
              simp only [List.getElem?_cons_zero, bsome, basic_Blank_eq]
              rfl
          · rw [if_neg (by omega), decide_eq_false h0, Bool.false_and]
      rw [hc]
      simp only [bsome]
      cases hbad : badL i p[i] with
      | true => rfl
      | false =>
        simp only [Bool.false_eq_true, if_false]
        have hm : (i + 1) * 140737488355328 ≤ 1000 * 140737488355328 := Nat.mul_le_mul_right _ (by omega)
        rw [Nat.add_mul] at hm
        rw [chk_addN _ (by omega), chk_succ (by omega)]
        simp only [bsome]
        rw [ih (i + 1) m (sz + (p[i]).length) (by omega) (by omega) (by omega) (by rw [Nat.add_mul]; omega)]
        cases ufz (i + 1) (p.drop (i + 1)) with
        | some j => rfl
        | none =>
          simp only [List.flatten_cons, List.length_append]
          congr 4
          omega
    · rw [fold_Unfold_L1, if_neg (by omega), List.drop_of_length_le (by omega), ufz]; rfl
def unfoldR (p : List (List UInt8)) : List UInt8 × List UInt8 × (Int × Int) :=
  if 300 < p.length then ([], [], (2, -1)) else match ufz 0 p with
    | some j => ([], [], (11, (j : Int)))
    | none => if 8000 < p.flatten.length then ([], [], (1, -1)) else
        if ixB p.flatten 58 < 0 ∨ nmL (p.flatten.take (ixB p.flatten 58).toNat) = false then ([], [], (11, -2)) else
          if 4000 < (trimB (p.flatten.drop ((ixB p.flatten 58).toNat + 1))).length then ([], [], (1, -1)) else (p.flatten.take (ixB p.flatten 58).toNat, trimB (p.flatten.drop ((ixB p.flatten 58).toNat + 1)), (0, 0))
theorem fold_Unfold_eq (p : List (List UInt8)) (hp : ∀ a ∈ p, Big a) : fold_Unfold p = some (unfoldR p) := by
  unfold fold_Unfold unfoldR
  by_cases h300 : 300 < p.length
  · rw [if_pos (by omega), if_pos h300]; rfl
  · rw [if_neg (by omega), if_neg h300]
    have := unf_loop p hp (by omega) p.length 0 FU 0 (by omega) (FU_gt (by omega)) (by omega) (by omega)
    rw [show ((0 : Nat) : Int) = 0 from rfl, List.drop_zero] at this
    rw [this]
    simp only [bsome]
    cases ufz 0 p with
    | some j => rfl
    | none =>
      simp only [Nat.zero_add]
      by_cases h8 : 8000 < p.flatten.length
      · rw [if_pos (by omega), if_pos h8]; rfl
      · rw [if_neg (by omega), if_neg h8]
        unfold strings_Join
        rw [if_pos ⟨by omega, by rw [jn_flat]; omega⟩, jn_flat]
        simp only [bsome]
        rw [strings_Cut_eq _ (by omega)]
        have hx := ixB_lt p.flatten 58
        by_cases hn : ixB p.flatten 58 < 0
        · rw [if_pos hn, if_pos (.inl hn)]; rfl
        · rw [if_neg hn]
          simp only [bsome, if_true]
          rw [fold_name_eq _ (by unfold Big; rw [List.length_take]; omega)]
          simp only [bsome]
          cases hm : nmL (p.flatten.take (ixB p.flatten 58).toNat) with
          | false =>
            simp only [Bool.not_false, if_true]
            rw [if_pos (.inr trivial)]; rfl
          | true =>
            rw [if_neg (show ¬ (ixB p.flatten 58 < 0 ∨ true = false) from fun h => h.elim hn (fun h => by cases h))]
            simp only [Bool.not_true, Bool.false_eq_true, if_false]
            rw [strings_Trim_eq _ (by unfold Big; rw [List.length_drop]; omega)]
            simp only [bsome]
            by_cases h4 : 4000 < (trimB (p.flatten.drop ((ixB p.flatten 58).toNat + 1))).length
            · rw [if_pos (by omega), if_pos h4]; rfl
            · rw [if_neg (by omega), if_neg h4]; rfl
theorem ufz_none {p : List (List UInt8)} : ∀ {i : Nat}, (∀ (j : Nat) (a : List UInt8), p[j]? = some a → badL (i + j) a = false) → ufz i p = none := by
  induction p with
  | nil => intro i _; rfl
  | cons a r ih =>
    intro i h
    rw [ufz, if_neg (by have := h 0 a rfl; rw [Nat.add_zero] at this; rw [this]; simp)]
    exact ih (fun j x hx => by have := h (j + 1) x (by simpa using hx); rwa [show i + (j + 1) = i + 1 + j by omega] at this)
theorem fl_hd : ∀ (n : Nat) (s : List UInt8) (k : Nat), 0 < k → s.length ≤ n → ∀ (j : Nat) (a : List UInt8), (fl s k)[j + 1]? = some a → hd a = false
  | 0, s, k, hk, h => by intro j a ha; rw [fl_end (fun h' => by omega)] at ha; simp at ha
  | n + 1, s, k, hk, h => by
    intro j a ha
    by_cases hc : 78 < s.length ∧ pt s k ≠ 0
    · obtain ⟨p1, p2, p3⟩ := pt_lt hk hc.2
      rw [fl_more hk hc] at ha
      cases j with
      | succ j => exact fl_hd n (s.drop (pt s k)) 1 (by omega) (by rw [List.length_drop]; omega) j a (by simpa using ha)
      | zero =>
        rw [bk_at' (by omega) p2, decide_eq_true_eq] at p3
        have h0 : (fl (s.drop (pt s k)) 1)[0]? = some a := by simpa using ha
        rw [drop_cons p2] at h0
        by_cases hc2 : 78 < (s[pt s k] :: s.drop (pt s k + 1)).length ∧ pt (s[pt s k] :: s.drop (pt s k + 1)) 1 ≠ 0
        · have h1 := pt_lt (by omega) hc2.2
          rw [fl_more (by omega) hc2] at h0
          simp only [List.getElem?_cons_zero, Option.some.injEq] at h0
          rw [← h0, show pt (s[pt s k] :: s.drop (pt s k + 1)) 1 = (pt (s[pt s k] :: s.drop (pt s k + 1)) 1 - 1) + 1 by omega, List.take_succ_cons]
          simp [hd, p3.1]
        · rw [fl_end hc2] at h0
          simp only [List.getElem?_cons_zero, Option.some.injEq] at h0
          rw [← h0]
          simp [hd, p3.1]
    · rw [fl_end hc] at ha; simp at ha
theorem nm_end {n : List UInt8} (h : nmL n = true) : n.any endB = false ∧ ∀ c ∈ n, c ≠ 58 := by
  unfold nmL at h
  rw [Bool.and_eq_true, List.all_eq_true] at h
  constructor
  · rw [List.any_eq_false]
    intro c hc he
    have := h.1 c hc
    unfold nmB at this
    unfold endB at he
    rw [decide_eq_true_eq] at this he
    omega
  · intro c hc he
    have := h.1 c hc
    unfold nmB at this
    rw [decide_eq_true_eq] at this
    have := (u8_lit c 58).1 he
    have h58 : (58 : UInt8).toNat = 58 := rfl
    omega
theorem ixB_name {n r : List UInt8} (h : ∀ c ∈ n, c ≠ 58) : ixB (n ++ 58 :: r) 58 = (n.length : Int) := by
  induction n with
  | nil => rw [List.nil_append, ixB_cons, if_pos rfl]; rfl
  | cons c n ih =>
    rw [List.cons_append, ixB_cons, if_neg (h c (by simp)), ih (fun d hd => h d (by simp [hd])), if_neg (by omega), List.length_cons]
    omega
theorem valB_split {v : List UInt8} (h : valB v = true) : v.any endB = false ∧ trimB v = v := by
  unfold valB at h
  rw [Bool.and_eq_true, decide_eq_true_eq] at h
  exact ⟨by simpa using h.1, h.2⟩
end Go.Ph.Pf
end
section
set_option linter.unusedVariables false
set_option linter.unusedSimpArgs false
namespace Go.Ph.Pf
open Go.Ph.Pl Go.Ph.Qp Go.Ph.Fd
theorem sc_ge (s : List UInt8) : ∀ (f i best j : Nat), i ≤ j → j < i + f → j ≤ 78 → bk s j = true → j ≤ sc s f i best := by
  intro f
  induction f with
  | zero => intro i best j h1 h2; omega
  | succ f ih =>
    intro i best j h1 h2 h3 h4
    rw [sc]
    by_cases hij : i = j
    · subst hij
      rw [if_pos h4, if_pos (.inr h3)]
      rcases sc_le s f (i + 1) i with h | ⟨h, _, _⟩ <;> omega
    · have h5 := fun b => ih (i + 1) b j (by omega) (by omega) h3 h4
      split
      · split
        · exact h5 _
        · exact h5 _
      · exact h5 _
def fstL (s : List UInt8) (k : Nat) : Nat := if 78 < s.length ∧ pt s k ≠ 0 then pt s k else s.length
theorem pair_78 {s : List UInt8} {k : Nat} (hk : 0 < k) (h : 78 < s.length ∧ pt s k ≠ 0) : 79 ≤ pt s k + fstL (s.drop (pt s k)) 1 := by
  obtain ⟨h1, h2, h3⟩ := pt_lt hk h.2
  unfold fstL
  by_cases hc : 78 < (s.drop (pt s k)).length ∧ pt (s.drop (pt s k)) 1 ≠ 0
  · rw [if_pos hc]
    obtain ⟨q1, q2, q3⟩ := pt_lt (by omega) hc.2
    rw [bk_drop _ _ _ (by omega)] at q3
    rw [List.length_drop] at q2
    refine Classical.byContradiction fun hn => ?_
    have := sc_ge s (s.length - k) k 0 (pt s k + pt (s.drop (pt s k)) 1) (by omega) (by omega) (by omega) q3
    have e : pt s k = sc s (s.length - k) k 0 := rfl
    omega
  · rw [if_neg hc, List.length_drop]; omega
theorem fl_count : ∀ (n : Nat) (s : List UInt8) (k : Nat), 0 < k → s.length ≤ n → 79 * ((fl s k).length - 1) + fstL s k ≤ 2 * s.length ∧ 1 ≤ (fl s k).length := by
  intro n
  induction n with
  | zero =>
    intro s k _ h
    obtain rfl := List.eq_nil_of_length_eq_zero (Nat.le_zero.1 h)
    rw [fl_end (by simp)]
    unfold fstL
    rw [if_neg (by simp)]
    simp
  | succ n ih =>
    intro s k hk h
    by_cases hc : 78 < s.length ∧ pt s k ≠ 0
    · have h1 := pt_lt hk hc.2
      have hp := pair_78 hk hc
      obtain ⟨i1, i2⟩ := ih (s.drop (pt s k)) 1 (by omega) (by rw [List.length_drop]; omega)
      rw [fl_more hk hc, List.length_cons, Nat.add_sub_cancel]
      rw [List.length_drop] at i1
      have : fstL s k = pt s k := by unfold fstL; rw [if_pos hc]
      omega
    · rw [fl_end hc]
      unfold fstL
      rw [if_neg hc]
      simp; omega
theorem refold (n v : List UInt8) (hn : n.length ≤ 60) (hv : v.length ≤ 4000) : (∃ f g, fold_Fold n v = some ([], (f, g)) ∧ f ≠ (0 : Int)) ∨ ∃ ls, fold_Fold n v = some (ls, (0, 0)) ∧ fold_Unfold ls = some (n, v, (0, 0)) := by
  rw [fold_Fold_eq n v (by unfold Big; omega) (by unfold Big; omega)]
  unfold foldR
  by_cases h : codeF n v = 0
  · obtain ⟨h1, h2, h3⟩ := codeF_zero h
    have h60 := nmL_len h1
    obtain ⟨v1, v2⟩ := valB_split h3
    obtain ⟨n1, n2⟩ := nm_end h1
    have hsl : (fieldS n v).length = n.length + 2 + v.length := by unfold fieldS; simp; omega
    have hcnt := fl_count (fieldS n v).length (fieldS n v) (n.length + 2) (by omega) (Nat.le_refl _)
    have hflat := fl_flat (fieldS n v).length (fieldS n v) (n.length + 2) (by omega) (Nat.le_refl _)
    rw [if_pos h]
    cases hf : (fl (fieldS n v) (n.length + 2)).findIdx? bigL with
    | some j => exact .inl ⟨1, (j : Int), rfl, by decide⟩
    | none =>
      refine .inr ⟨_, rfl, ?_⟩
      have h300 : ¬ 300 < (fl (fieldS n v) (n.length + 2)).length := by omega
      have hmem : ∀ a ∈ fl (fieldS n v) (n.length + 2), a.length ≤ (fieldS n v).length := fun a ha => by
        rw [← hflat]; exact (List.sublist_flatten_of_mem ha).length_le
      rw [fold_Unfold_eq _ (fun a ha => by have := hmem a ha; unfold Big; omega)]
      have hend : (fieldS n v).any endB = false := by unfold fieldS; rw [List.any_append, List.any_append, n1, v1]; rfl
      have hu : ufz 0 (fl (fieldS n v) (n.length + 2)) = none := ufz_none (fun j a ha => by
        rw [Nat.zero_add]
        unfold badL
        have he : a.any endB = false := by
          rw [List.any_eq_false] at hend ⊢
          intro c hc
          exact hend c (by rw [← hflat]; exact List.mem_flatten.2 ⟨a, List.mem_of_getElem? ha, hc⟩)
        rw [he, Bool.false_or]
        cases j with
        | zero => rfl
        | succ j => rw [fl_hd _ _ _ (by omega) (Nat.le_refl _) j a ha, Bool.and_false])
      have hix : ixB (fieldS n v) 58 = (n.length : Int) := by unfold fieldS; rw [List.append_assoc]; exact ixB_name n2
      have htake : (fieldS n v).take n.length = n := by unfold fieldS; rw [List.append_assoc]; exact List.take_left
      have hdrop : (fieldS n v).drop (n.length + 1) = 32 :: v := by
        unfold fieldS
        rw [List.append_assoc, List.drop_append, List.drop_of_length_le (by omega), List.nil_append, show n.length + 1 - n.length = 1 by omega]; rfl
      have htrim : trimB (32 :: v) = v := by
        unfold trimB
        rw [trimL_pos (by decide)]
        exact v2
      unfold unfoldR
      rw [if_neg h300, hu]
      simp only [hflat, hix, Int.toNat_natCast, htake, hdrop, htrim, h1]
      rw [if_neg (by omega), if_neg (show ¬ ((n.length : Int) < 0 ∨ true = false) from fun h => h.elim (by omega) (fun h => by cases h)), if_neg (by omega)]
  · rw [if_neg h]; exact .inl ⟨_, _, rfl, h⟩
end Go.Ph.Pf
namespace Go.Ph.Wd
open Go.Ph.Pl Go.Ph.Pf
open Go.Ph.Chs (vld bestK)
theorem law_Survive (s : List UInt8) (hs : s.length ≤ 140737488351232) : L_WordsSurviveFolding s = some true := by
  unfold L_WordsSurviveFolding
  rw [example_eq, bsome, if_pos rfl]
  by_cases h : 1000 < s.length
  · rw [encode_big h, bsome]
    dsimp only
    rw [if_neg (by decide)]; rfl
  · by_cases hv : vld s = true
    · obtain ⟨t, ht, hl, hu⟩ : ∃ t, words_Encode s = some (t, (0, 0)) ∧ t.length ≤ 4000 ∧ un t = s := by
        by_cases hp : pln s = true
        · exact ⟨s, encode_own (by omega) hv hp, by omega, un_own hp⟩
        · have h0 : s ≠ [] := by rintro rfl; exact hp (by decide)
          exact ⟨_, encode_rep (by omega) hv (by simpa using hp), rep_4000 (by omega) hv, un_rep (by omega) hv h0⟩
      rw [ht, bsome]
      dsimp only
      rw [if_pos rfl]
      rcases refold [83, 117, 98, 106, 101, 99, 116] t (by decide) hl with ⟨f, g, h1, h2⟩ | ⟨ls, h1, h2⟩
      · rw [h1, bsome]
        dsimp only
        rw [if_neg h2]; rfl
      · rw [h1, bsome]
        dsimp only
        rw [if_pos rfl, h2, bsome]
        dsimp only
        rw [decode_eq hl, bsome]
        dsimp only
        rw [if_pos rfl, if_pos rfl, if_pos rfl, bsome, decide_eq_true hu]
    · rw [encode_mal (by omega) (by simpa using hv), bsome]
      dsimp only
      rw [if_neg (by decide)]; rfl
end Go.Ph.Wd
end
