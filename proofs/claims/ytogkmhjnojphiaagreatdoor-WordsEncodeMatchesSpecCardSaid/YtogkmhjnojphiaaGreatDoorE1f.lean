/-
  Wa, Wb, Wc, Wd: own texts of this repository (wip/tpl, wip/plans), merged and shaken by wip/tools/pack.py.
-/
import Derived.Lib.CountLaws
import Derived.Test.YtogkmhjnojphiaaGreatDoorE1e
set_option maxRecDepth 100000
section
set_option linter.unusedVariables false
set_option linter.unusedSimpArgs false
namespace Go.Ph.Wd
open Go.Ph.Pl Go.Ph.Pf
open Go.Ph.Gr (chars Ch pieces byts)
open Go.Ph.Chs (vld setN setOf encK encGo decoded utf8 bestK)
theorem foldI {α σ γ : Type} {L : Nat → σ → Int → Option γ} (l : List α) (F : σ → α → σ) (fin : σ → γ) (I : Nat → σ → Prop)
    (hend : ∀ m s, I l.length s → L (m + 1) s (l.length : Int) = some (fin s))
    (hstep : ∀ m s i a, l[i]? = some a → I i s → I (i + 1) (F s a) ∧ L (m + 1) s (i : Int) = L m (F s a) ((i + 1 : Nat) : Int)) :
    ∀ (d i : Nat) (s : σ) (m : Nat), l.length - i = d → i ≤ l.length → d < m → I i s → L m s (i : Int) = some (fin ((l.drop i).foldl F s)) := by
  intro d
  induction d with
  | zero =>
    intro i s m h1 h2 h3 hI
    obtain ⟨m, rfl⟩ : ∃ k, m = k + 1 := ⟨m - 1, by omega⟩
    obtain rfl : i = l.length := by omega
    rw [hend m s hI, List.drop_length]; rfl
  | succ d ih =>
    intro i s m h1 h2 h3 hI
    obtain ⟨m, rfl⟩ : ∃ k, m = k + 1 := ⟨m - 1, by omega⟩
    have hi : i < l.length := by omega
    obtain ⟨hI', hL⟩ := hstep m s i l[i] (List.getElem?_eq_getElem hi) hI
    rw [hL, ih (i + 1) _ m (by omega) (by omega) (by omega) hI', List.drop_eq_getElem_cons hi]; rfl
theorem foldI0 {α σ γ : Type} {L : Nat → σ → Int → Option γ} (l : List α) (F : σ → α → σ) (fin : σ → γ) (I : Nat → σ → Prop) (hl : l.length ≤ 9223372036854775807)
    (hend : ∀ m s, I l.length s → L (m + 1) s (l.length : Int) = some (fin s))
    (hstep : ∀ m s i a, l[i]? = some a → I i s → I (i + 1) (F s a) ∧ L (m + 1) s (i : Int) = L m (F s a) ((i + 1 : Nat) : Int)) (s : σ) (h0 : I 0 s) : L FU s 0 = some (fin (l.foldl F s)) := by
  have := foldI l F fin I hend hstep l.length 0 s FU (by omega) (by omega) (FU_gt hl) h0
  simpa using this
theorem foldl_app {α β : Type} (f : α → List β) : ∀ (l : List α) (o : List β), l.foldl (fun o a => o ++ f a) o = o ++ l.flatMap f
  | [], o => by simp
  | a :: l, o => by rw [List.foldl_cons, foldl_app f l]; simp
def hexd : List UInt8 := [48, 49, 50, 51, 52, 53, 54, 55, 56, 57, 65, 66, 67, 68, 69, 70]
def alnum (c : UInt8) : Bool := decide (97 ≤ c.toNat ∧ c.toNat ≤ 122) || (decide (65 ≤ c.toNat ∧ c.toNat ≤ 90) || decide (48 ≤ c.toNat ∧ c.toNat ≤ 57))
def hx (n : Nat) : UInt8 := hexd.getD n 0
theorem allB {p : UInt8 → Prop} (h : ∀ n, n < 256 → p (UInt8.ofNat n)) (c : UInt8) : p c := by
  have := h c.toNat c.toNat_lt
  rwa [UInt8.ofNat_toNat] at this
theorem letter_eq (c : UInt8) : basic_Letter c = some (alnum c) := by
  refine allB (p := fun c => basic_Letter c = some (alnum c)) ?_ c
  decide +kernel
theorem digit_hi (c : UInt8) : basic_Digit (UInt8.ofNat (c.toNat / 2 ^ 4)) = some (hx (c.toNat / 16)) := by
  refine allB (p := fun c => basic_Digit (UInt8.ofNat (c.toNat / 2 ^ 4)) = some (hx (c.toNat / 16))) ?_ c
  decide +kernel
theorem digit_lo (c : UInt8) : basic_Digit c = some (hx (c.toNat % 16)) := by
  refine allB (p := fun c => basic_Digit c = some (hx (c.toNat % 16))) ?_ c
  decide +kernel
theorem two_eq (c : UInt8) : R_Two c = some [hx (c.toNat / 16), hx (c.toNat % 16)] := by
  refine allB (p := fun c => R_Two c = some [hx (c.toNat / 16), hx (c.toNat % 16)]) ?_ c
  decide +kernel
def dq1 (c : UInt8) : List UInt8 := if c = 32 then [95] else if alnum c = true then [c] else [61, hx (c.toNat / 16), hx (c.toNat % 16)]
def dq (b : List UInt8) : List UInt8 := b.flatMap dq1
theorem dq1_len (c : UInt8) : 1 ≤ (dq1 c).length ∧ (dq1 c).length ≤ 3 := by unfold dq1; split; · simp
                                                                            split <;> simp
theorem dq_len (b : List UInt8) : (dq b).length ≤ 3 * b.length := by
  unfold dq
  induction b with
  | nil => simp
  | cons c b ih => have := dq1_len c; simp only [List.flatMap_cons, List.length_append, List.length_cons]; omega
theorem data_eq (b : List UInt8) (hb : b.length ≤ 1000000) : words_data b = some (dq b) := by
  unfold words_data
  rw [foldI0 (L := fun m s i => words_data_L1 b m s i) b (fun o c => o ++ dq1 c) id (fun i s => s.length ≤ 3 * i) (by omega) ?_ ?_ [] (by simp), foldl_app, bsome]
  · rfl
  · intro m s hs
    rw [words_data_L1, if_neg (by omega)]; rfl
  · intro m s i a ha hs
    have hi := (List.getElem?_eq_some_iff.1 ha).1
    have hl := dq1_len a
    refine ⟨by rw [List.length_append]; omega, ?_⟩
    rw [words_data_L1, if_pos (by omega), idx_nat, ha, bsome]
    unfold dq1 strings_Builder_WriteByte strings_Builder_Write
    by_cases h1 : a = 32
    · rw [if_pos h1, if_pos h1, app_ok (by simp; omega), bsome]
      dsimp only
      rw [bsome, chk_succ (by omega), bsome]
    · rw [if_neg h1, if_neg h1, letter_eq, bsome]
      by_cases h2 : alnum a = true
      · rw [if_pos h2, if_pos h2, app_ok (by simp; omega), bsome]
        dsimp only
        rw [bsome, chk_succ (by omega), bsome]
      · rw [if_neg h2, if_neg h2, digit_hi, bsome, digit_lo, bsome, app_ok (by simp; omega), bsome]
        dsimp only
        rw [bsome, chk_succ (by omega), bsome]
inductive Good : List UInt8 → Prop
  | nil : Good []
  | one {c : UInt8} {t : List UInt8} (h1 : c ≠ 13) (h2 : c ≠ 10) (h : Good t) : Good (c :: t)
  | crlf {t : List UInt8} (h : Good t) : Good (13 :: 10 :: t)
theorem Good.app {a b : List UInt8} (h : Good a) (k : Good b) : Good (a ++ b) := by
  induction h with
  | nil => exact k
  | one h1 h2 _ ih => exact .one h1 h2 ih
  | crlf _ ih => exact .crlf ih
def fre (l : List UInt8) : Prop := ∀ c ∈ l, c ≠ 13 ∧ c ≠ 10
theorem Good.of {a : List UInt8} (h : fre a) : Good a := by
  induction a with
  | nil => exact .nil
  | cons c a ih => exact .one (h c (by simp)).1 (h c (by simp)).2 (ih fun x hx => h x (by simp [hx]))
def keep (c : UInt8) : Bool := decide (c ≠ 13 ∧ c ≠ 10)
theorem keep_fre {a : List UInt8} (h : fre a) : a.filter keep = a := by
  rw [List.filter_eq_self]; intro c hc; exact decide_eq_true (h c hc)
theorem Good.index {s : List UInt8} (h : Good s) : (Lib.index s [13, 10] = -1 ∧ fre s) ∨ ∃ i : Nat, Lib.index s [13, 10] = (i : Int) ∧ fre (s.take i) ∧ Good (s.drop (i + 2)) ∧ i + 2 ≤ s.length ∧ s.filter keep = s.take i ++ (s.drop (i + 2)).filter keep := by
  induction h with
  | nil => exact .inl ⟨rfl, fun c hc => by cases hc⟩
  | @one c t h1 h2 h ih =>
    have hp : ([13, 10] : List UInt8).isPrefixOf (c :: t) = false := by simp [List.isPrefixOf, Ne.symm h1]
    have hk : keep c = true := decide_eq_true ⟨h1, h2⟩
    rcases ih with ⟨e1, e2⟩ | ⟨i, e1, e2, e3, e4, e5⟩
    · refine .inl ⟨by rw [Lib.index, hp, e1]; rfl, fun x hx => ?_⟩
      rcases List.mem_cons.1 hx with rfl | hx
      · exact ⟨h1, h2⟩
      · exact e2 x hx
    · refine .inr ⟨i + 1, ?_, fun x hx => ?_, ?_, by rw [List.length_cons]; omega, ?_⟩
      · rw [Lib.index, hp, e1]
        have : ((i : Int) == -1) = false := by simp
        rw [this]; simp
      · rw [List.take_succ_cons] at hx
        rcases List.mem_cons.1 hx with rfl | hx
        · exact ⟨h1, h2⟩
        · exact e2 x hx
      · rw [show i + 1 + 2 = (i + 2) + 1 by omega, List.drop_succ_cons]; exact e3
      · rw [List.filter_cons_of_pos hk, e5, List.take_succ_cons, show i + 1 + 2 = (i + 2) + 1 by omega, List.drop_succ_cons]; rfl
  | @crlf t h ih =>
    refine .inr ⟨0, by rw [Lib.index]; simp [List.isPrefixOf], fun x hx => (by cases hx), h, by simp, ?_⟩
    rw [List.take_zero, List.drop_succ_cons, List.drop_succ_cons, List.drop_zero, List.filter_cons_of_neg (by decide), List.filter_cons_of_neg (by decide)]; rfl
theorem replK : ∀ (n : Nat) (s : List UInt8), s.length ≤ n → Good s → Lib.replaceK [13, 10] [] (Lib.count s [13, 10]) s = s.filter keep
  | n, s, hn, h => by
    rcases h.index with ⟨e1, e2⟩ | ⟨i, e1, e2, e3, e4, e5⟩
    · rw [Lib.count_miss e1, keep_fre e2]; rfl
    · obtain ⟨n, rfl⟩ : ∃ k, n = k + 1 := ⟨n - 1, by omega⟩
      rw [Lib.count_hit (by simp) e1, Nat.add_comm, Lib.replaceK_hit _ _ _ _ _ e1, e5, List.append_nil]
      show _ ++ Lib.replaceK [13, 10] [] (Lib.count (s.drop (i + 2)) [13, 10]) (s.drop (i + 2)) = _
      rw [replK n (s.drop (i + 2)) (by rw [List.length_drop]; omega) e3]
theorem repl_good {s : List UInt8} (h : Good s) : Lib.replaceAll s [13, 10] [] = s.filter keep := by
  unfold Lib.replaceAll Lib.replace Lib.replaceNum
  rw [if_neg (by decide), if_pos (.inl (by decide))]
  exact replK _ _ (Nat.le_refl _) h
theorem alpha_fre : ∀ c ∈ (61 :: B64.alpha), c ≠ 13 ∧ c ≠ 10 := by decide
theorem alpha_at (k : Nat) : B64.alpha.getD k 0 ∈ (61 :: B64.alpha) ∨ B64.alpha.getD k 0 = 0 := by
  by_cases h : k < B64.alpha.length
  · rw [B64.getD_in _ _ _ h]; exact .inl (List.mem_cons_of_mem _ (List.getElem_mem h))
  · rw [B64.getD_out _ _ _ (by omega)]; exact .inr rfl
theorem outp_fre (l : List UInt8) : fre (B64.outp l 4) := fun c hc => by
  rw [B64.outp_eq] at hc
  have hch : ∀ i, B64.ch l i ≠ 13 ∧ B64.ch l i ≠ 10 := fun i => by
    unfold B64.ch
    split
    · decide
    · rcases alpha_at (B64.accN l 3 / 2 ^ (18 - 6 * i) % 64) with h | h
      · exact alpha_fre _ h
      · rw [h]; decide
  simp only [List.mem_cons, List.not_mem_nil, or_false] at hc
  rcases hc with rfl | rfl | rfl | rfl <;> exact hch _
theorem chars64_fre (l : List UInt8) : fre (B64.chars64 l) := fun c hc => by
  rw [B64.chars_grps] at hc
  obtain ⟨g, hg, hc⟩ := List.mem_flatten.1 hc
  unfold B64.grps B64.grpsTo at hg
  obtain ⟨k, _, rfl⟩ := List.mem_map.1 hg
  exact outp_fre _ c hc
theorem fre_sub {a b : List UInt8} (h : fre b) (hs : ∀ c ∈ a, c ∈ b) : fre a := fun c hc => h c (hs c hc)
theorem wrapTo_good {cs : List UInt8} (h : fre cs) : ∀ m, Good (B64.wrapTo cs m) ∧ (B64.wrapTo cs m).filter keep = cs.take (76 * m)
  | 0 => ⟨.nil, rfl⟩
  | m + 1 => by
    obtain ⟨h1, h2⟩ := wrapTo_good h m
    have hf : fre ((cs.drop (76 * m)).take 76) := fre_sub h fun c hc => List.mem_of_mem_drop (List.mem_of_mem_take hc)
    rw [B64.wrapTo]
    refine ⟨(h1.app (.of hf)).app (.crlf .nil), ?_⟩
    rw [List.filter_append, List.filter_append, h2, keep_fre hf, show ([13, 10] : List UInt8).filter keep = [] by decide, List.append_nil]
    rw [show 76 * (m + 1) = 76 * m + 76 by omega, List.take_add]
theorem lines_good {cs : List UInt8} (h : fre cs) : Good (B64.lines64 cs) ∧ (B64.lines64 cs).filter keep = cs := by
  obtain ⟨h1, h2⟩ := wrapTo_good h ((cs.length - 1) / 76)
  have hf : fre (cs.drop (76 * ((cs.length - 1) / 76))) := fre_sub h fun c hc => List.mem_of_mem_drop hc
  unfold B64.lines64
  split
  · rename_i hd
    refine ⟨h1.app .nil, ?_⟩
    rw [List.append_nil, h2]
    have := List.take_append_drop (76 * ((cs.length - 1) / 76)) cs
    rw [hd, List.append_nil] at this; exact this
  · refine ⟨h1.app ((Good.of hf).app (.crlf .nil)), ?_⟩
    rw [List.filter_append, List.filter_append, h2, keep_fre hf, show ([13, 10] : List UInt8).filter keep = [] by decide, List.append_nil, List.take_append_drop]
theorem flat_eq (b : List UInt8) (hb : b.length ≤ 12000) : words_flat b = some (B64.chars64 b) := by
  unfold words_flat base64_Encode strings_ReplaceAll
  have hl := B64.encode_len b
  rw [if_pos hb, bsome]
  dsimp only
  rw [if_pos ⟨by omega, by decide, by simp; omega⟩, bsome, B64.encode_lines]
  obtain ⟨h1, h2⟩ := lines_good (chars64_fre b)
  rw [repl_good h1, h2]
abbrev nam (k : Nat) : List UInt8 := setN.getD k []
theorem setOf_nam : ∀ k, k < 4 → setOf (nam k) = some k := by decide
theorem nam_len : ∀ k, k < 4 → (nam k).length ≤ 7 := by decide
theorem nam_utf8 : ∀ k, k < 4 → (nam k = [117, 116, 102, 56] ↔ k = 2) := by decide
def enc (k : Nat) (l : List UInt8) : List UInt8 := (chars l).flatMap fun c => (encK k c.1).getD []
structure okE (k : Nat) (l : List UInt8) : Prop where
  v : vld l = true
  e : ∀ c ∈ chars l, ∃ b, encK k c.1 = some b
theorem enc_go {k : Nat} {l : List UInt8} (h : okE k l) : encGo (encK k) (chars l) 0 = .ok (enc k l) := by
  obtain ⟨b, hb⟩ := Chs.encGo_all (chars l) 0 h.e
  rw [hb]
  obtain ⟨bs, h1, h2⟩ := Chs.encGo_ok _ _ _ hb
  have : enc k l = (bs.map some).flatMap (fun o => o.getD []) := by
    rw [← h1]; unfold enc; rw [List.flatMap_map]
  rw [this, h2, List.flatMap_map]
  simp
theorem chars_len (l : List UInt8) : (chars l).length ≤ l.length := by
  have h := Gr.flat_le ((chars l).map (·.2)) (fun p hp => by
    obtain ⟨c, hc, rfl⟩ := List.mem_map.1 hp
    exact Gr.chars_ne l c hc)
  rw [Gr.chars_flat, List.length_map] at h
  exact h
theorem flatMap_len {α β : Type} (f : α → List β) (n : Nat) : ∀ (l : List α), (∀ a ∈ l, (f a).length ≤ n) → (l.flatMap f).length ≤ n * l.length
  | [], _ => by simp
  | a :: l, h => by
    have h1 := h a (by simp)
    have h2 := flatMap_len f n l (fun x hx => h x (by simp [hx]))
    simp only [List.flatMap_cons, List.length_append, List.length_cons, Nat.mul_succ]
    omega
theorem enc_len (k : Nat) (l : List UInt8) : (enc k l).length ≤ 4 * l.length := by
  have h := flatMap_len (fun c : Ch => (encK k c.1).getD []) 4 (chars l) (fun c _ => by
    cases he : encK k c.1 with
    | none => simp
    | some b => exact Chs.encK_len he)
  have h2 := chars_len l
  unfold enc
  omega
def wrap (k : Nat) (b : List UInt8) : List UInt8 := [61, 63] ++ nam k ++ (if k = 2 then [63, 66, 63] ++ B64.chars64 b else [63, 81, 63] ++ dq b) ++ [63, 61]
def W (k : Nat) (l : List UInt8) : List UInt8 := wrap k (enc k l)
theorem charset_enc {k : Nat} {l : List UInt8} (hk : k < 4) (hl : l.length ≤ 12000) (h : okE k l) : charset_Encode (nam k) l = some (enc k l, (0, 0)) := by
  unfold charset_Encode
  have hn := nam_len k hk
  rw [if_pos ⟨by omega, hl⟩, setOf_nam k hk]
  dsimp only
  rw [if_pos h.v, enc_go h]
theorem word_eq {k : Nat} {l : List UInt8} (hk : k < 3) (hl : l.length ≤ 3000) (h : okE k l) : words_word (nam k) l = some (W k l) := by
  have hn := nam_len k (by omega)
  have he := enc_len k l
  have hd := dq_len (enc k l)
  have hc := B64.chars_len (enc k l)
  have hu := nam_utf8 k (by omega)
  unfold words_word W wrap
  rw [charset_enc (by omega) (by omega) h, bsome]
  dsimp only
  by_cases h2 : k = 2
  · rw [if_pos (hu.2 h2), if_pos h2, cat_ok (by simp only [List.length_cons, List.length_nil]; omega), bsome, cat_ok (by simp only [List.length_append, List.length_cons, List.length_nil]; omega), bsome, flat_eq _ (by omega), bsome,
      cat_ok (by simp only [List.length_append, List.length_cons, List.length_nil]; omega), bsome, cat_ok (by simp only [List.length_append, List.length_cons, List.length_nil]; omega), bsome]
    simp only [List.append_assoc]
  · rw [if_neg (fun e => h2 (hu.1 e)), if_neg h2, cat_ok (by simp only [List.length_cons, List.length_nil]; omega), bsome, cat_ok (by simp only [List.length_append, List.length_cons, List.length_nil]; omega), bsome, data_eq _ (by omega), bsome,
      cat_ok (by simp only [List.length_append, List.length_cons, List.length_nil]; omega), bsome, cat_ok (by simp only [List.length_append, List.length_cons, List.length_nil]; omega), bsome]
    simp only [List.append_assoc]
theorem rin_eq (a b c : Int) : R_In a b c = some (decide (b ≤ a ∧ a ≤ c)) := by
  unfold R_In
  by_cases h : b ≤ a
  · rw [if_pos h, bsome]; simp [h]
  · rw [if_neg h, bsome]; simp [h]
theorem alnum_eq (c : UInt8) : ((R_In (c.toNat : Int) 48 57).bind fun b27 => (if b27 = true then some true else (R_In (c.toNat : Int) 65 90).bind fun b29 => (if b29 = true then some true else (R_In (c.toNat : Int) 97 122).bind fun b31 => some b31))) = some (alnum c) := by
  refine allB (p := fun c => ((R_In (c.toNat : Int) 48 57).bind fun b27 => (if b27 = true then some true else (R_In (c.toNat : Int) 65 90).bind fun b29 => (if b29 = true then some true else (R_In (c.toNat : Int) 97 122).bind fun b31 => some b31))) = some (alnum c)) ?_ c
  decide +kernel
theorem rdata_eq (b o : List UInt8) (hb : b.length ≤ 1000000) (ho : o.length ≤ 1000000) : R_Word_L1 b FU o 0 = some (o ++ dq b) := by
  rw [foldI0 (L := fun m s i => R_Word_L1 b m s i) b (fun o c => o ++ dq1 c) id (fun i s => s.length ≤ o.length + 3 * i) (by omega) ?_ ?_ o (by simp), foldl_app]
  · rfl
  · intro m s hs
    rw [R_Word_L1, if_neg (by omega)]; rfl
  · intro m s i a ha hs
    have hi := (List.getElem?_eq_some_iff.1 ha).1
    have hl := dq1_len a
    refine ⟨by rw [List.length_append]; omega, ?_⟩
    rw [R_Word_L1, if_pos (by omega), idx_nat, ha, bsome]
    unfold dq1
    by_cases h1 : a = 32
    · rw [if_pos (by rw [h1]; rfl), if_pos h1, cat_ok (by simp; omega), bsome, chk_succ (by omega), bsome]
    · rw [if_neg (fun e => h1 (UInt8.toNat_inj.1 (by simpa using (by omega : a.toNat = 32)))), if_neg h1, alnum_eq, bsome]
      by_cases h2 : alnum a = true
      · rw [if_pos h2, if_pos h2, bsome, cat_ok (by simp; omega), bsome, chk_succ (by omega), bsome]
      · rw [if_neg h2, if_neg h2, cat_ok (by simp; omega), bsome, bsome, two_eq, bsome, cat_ok (by simp; omega), bsome, chk_succ (by omega), bsome, List.append_assoc]; rfl
theorem rset_nam {k : Nat} (hk : k < 4) : R_SetOf (nam k) = some (k : Int) := by
  unfold R_SetOf
  have hn := nam_len k hk
  rw [if_pos (by omega), setOf_nam k hk]
theorem renc_eq {k : Nat} {l : List UInt8} (hk : k < 4) (hl : l.length ≤ 12000) (h : okE k l) : R_Encoded (k : Int) l = some (enc k l, -1) := by
  unfold R_Encoded
  rw [if_pos ⟨by omega, by omega, by omega, h.v⟩, Int.toNat_natCast, enc_go h]
theorem rword_eq {k : Nat} {l : List UInt8} (hk : k < 3) (hl : l.length ≤ 3000) (h : okE k l) : R_Word (nam k) l = some (W k l) := by
  have hn := nam_len k (by omega)
  have he := enc_len k l
  have hd := dq_len (enc k l)
  have hc := B64.chars_len (enc k l)
  have hu := nam_utf8 k (by omega)
  unfold R_Word W wrap R_Chars64
  rw [rset_nam (by omega), bsome, renc_eq (by omega) (by omega) h, bsome]
  dsimp only
  by_cases h2 : k = 2
  · rw [if_pos (hu.2 h2), if_pos h2, if_pos (by omega), bsome, cat_ok (by simp only [List.length_cons, List.length_nil]; omega), bsome, cat_ok (by simp only [List.length_append, List.length_cons, List.length_nil]; omega), bsome, hu.2 h2]
    simp only [List.append_assoc]; rfl
  · rw [if_neg (fun e => h2 (hu.1 e)), if_neg h2, cat_ok (by simp only [List.length_cons, List.length_nil]; omega), bsome, cat_ok (by simp only [List.length_append, List.length_cons, List.length_nil]; omega), bsome,
      rdata_eq _ _ (by omega) (by simp only [List.length_append, List.length_cons, List.length_nil]; omega), bsome, cat_ok (by simp only [List.length_append, List.length_cons, List.length_nil]; omega), bsome]
    simp only [List.append_assoc]
end Go.Ph.Wd
end
section
set_option linter.unusedVariables false
set_option linter.unusedSimpArgs false
namespace Go.Ph.Wd
open Go.Ph.Pl Go.Ph.Pf
open Go.Ph.Gr (chars Ch pieces byts segs)
open Go.Ph.Chs (vld setN setOf encK encGo decoded utf8 bestK)
open Go.Ph.Utf (rune dr)
theorem chars_mid {l : List UInt8} {A g B : List Ch} (h : chars l = A ++ g ++ B) : chars (byts g) = g := by
  obtain ⟨h1, _⟩ := Gr.chars_split (A ++ g) B l h
  exact (Gr.chars_split A g _ h1).2
theorem okE.mid {k : Nat} {l : List UInt8} (h : okE k l) {A g B : List Ch} (hs : chars l = A ++ g ++ B) : okE k (byts g) := by
  have hc := chars_mid hs
  have hm : ∀ c ∈ g, c ∈ chars l := fun c hc => by rw [hs]; simp [hc]
  refine ⟨?_, fun c hcg => h.e c (hm c (by rwa [hc] at hcg))⟩
  have hv := h.v
  unfold vld at hv ⊢
  rw [hc]
  rw [List.all_eq_true] at hv ⊢
  exact fun c hcg => hv c (hm c hcg)
theorem byts_app (a b : List Ch) : byts (a ++ b) = byts a ++ byts b := by simp [byts]
theorem byts_len {l : List UInt8} {A g B : List Ch} (h : chars l = A ++ g ++ B) : (byts g).length ≤ l.length := by
  have := Gr.chars_flat l
  rw [h] at this
  simp only [List.map_append, List.flatten_append] at this
  rw [← this]
  simp only [List.length_append, byts]
  omega
def usC (k : Nat) (g : List Ch) : List (List Ch) := if (W k (byts g)).length ≤ 75 then [g] else g.map fun c => [c]
def unitsC (k : Nat) (l : List UInt8) : List (List Ch) := (segs (chars l)).flatMap (usC k)
theorem singles_flat (g : List Ch) : (g.map fun c => [c]).flatten = g := by
  induction g with
  | nil => rfl
  | cons c g ih => rw [List.map_cons, List.flatten_cons, ih]; rfl
theorem usC_flat (k : Nat) (g : List Ch) : (usC k g).flatten = g := by
  unfold usC
  split
  · simp
  · exact singles_flat g
theorem unitsC_flat (k : Nat) (l : List UInt8) : (unitsC k l).flatten = chars l := by
  unfold unitsC
  conv => rhs; rw [← Gr.segs_flat (chars l)]
  induction segs (chars l) with
  | nil => rfl
  | cons g gs ih => rw [List.flatMap_cons, List.flatten_append, ih, usC_flat]; rfl
theorem unitsC_ne (k : Nat) (l : List UInt8) : ∀ u ∈ unitsC k l, u ≠ [] := fun u hu => by
  obtain ⟨g, hg, hu⟩ := List.mem_flatMap.1 hu
  unfold usC at hu
  split at hu
  · simp only [List.mem_cons, List.not_mem_nil, or_false] at hu
    subst hu; exact Gr.segs_ne _ _ hg
  · obtain ⟨c, _, rfl⟩ := List.mem_map.1 hu; simp
def runX {σ α : Type} (Y : σ → α → Option (σ × Bool)) : List α → σ → Option (σ ⊕ σ)
  | [], s => some (.inl s)
  | x :: xs, s => (Y s x).bind fun r => if r.2 = true then runX Y xs r.1 else some (.inr r.1)
theorem runX_app {σ α : Type} (Y : σ → α → Option (σ × Bool)) (ys : List α) : ∀ (xs : List α) (s : σ), runX Y (xs ++ ys) s = (runX Y xs s).bind fun o => match o with | .inl s' => runX Y ys s' | .inr r => some (.inr r)
  | [], s => by rw [List.nil_append, runX, bsome]
  | x :: xs, s => by
    rw [List.cons_append, runX, runX]
    cases h : Y s x with
    | none => rfl
    | some r =>
      rw [bsome, bsome]
      by_cases hr : r.2 = true
      · rw [if_pos hr, if_pos hr, runX_app Y ys xs]
      · rw [if_neg hr, if_neg hr, bsome]
theorem runX_runL {σ α : Type} (Y : σ → α → Option (σ × Bool)) : ∀ (xs : List α) (s : σ), ((runX Y xs s).bind fun o => match o with | .inl s5 => some s5 | .inr r35 => some r35) = runL Y xs s
  | [], s => by rw [runX, bsome]; rfl
  | x :: xs, s => by
    rw [runX, runL]
    cases h : Y s x with
    | none => rfl
    | some r =>
      rw [bsome, bsome]
      by_cases hr : r.2 = true
      · rw [if_pos hr, if_pos hr, runX_runL Y xs]
      · rw [if_neg hr, if_neg hr, bsome]
theorem units_L2 {σ : Type} (Y : σ → List UInt8 → Option (σ × Bool)) (a : List UInt8) (ha : a.length ≤ 1000000) : ∀ (d p m : Nat) (s : σ), a.length - p ≤ d → d < m → p ≤ a.length → vld (a.drop p) = true →
    words_units_1_L2 Y a m p s = runX Y ((chars (a.drop p)).map (·.2)) s := by
  intro d
  induction d with
  | zero =>
    intro p m s h1 h2 h3 hv
    obtain ⟨m, rfl⟩ : ∃ k, m = k + 1 := ⟨m - 1, by omega⟩
    rw [words_units_1_L2, if_neg (by omega), List.drop_eq_nil_of_le (by omega)]; rfl
  | succ d ih =>
    intro p m s h1 h2 h3 hv
    obtain ⟨m, rfl⟩ : ∃ k, m = k + 1 := ⟨m - 1, by omega⟩
    rw [words_units_1_L2]
    by_cases hp : p < a.length
    · have hne := Gr.drop_ne (t := a) (n := p) hp
      rw [Chs.vld_cons hne] at hv
      simp only [Bool.and_eq_true, decide_eq_true_eq] at hv
      have hrs := Utf.rune_size (a.drop p)
      have h5 := hrs.2.2 hne
      rw [List.length_drop] at h5
      have hd : dr (a.drop p) = ((rune (a.drop p)).1.toNat, (rune (a.drop p)).2) := by rw [Utf.rune_dr, if_neg (by omega)]
      have hy : utf8 ((dr (a.drop p)).1 : Int) = (a.drop p).take (rune (a.drop p)).2 := by
        rw [hd, ← Chs.utf8_rune _ hne hv.1]
        show utf8 (((rune (a.drop p)).1.toNat : Nat) : Int) = _
        rw [Int.toNat_of_nonneg hv.1]
      rw [if_pos hp, Gr.chars_cons hne, List.map_cons, runX, hy]
      cases hY : Y s ((a.drop p).take (rune (a.drop p)).2) with
      | none => rfl
      | some r =>
        obtain ⟨s2, b⟩ := r
        rw [bsome, bsome]
        dsimp only
        by_cases hb : b = true
        · rw [if_pos hb, if_pos hb, hd]
          have := ih (p + (rune (a.drop p)).2) m s2 (by omega) (by omega) (by omega) (by rw [← List.drop_drop]; exact hv.2)
          rw [← List.drop_drop] at this
          exact this
        · rw [if_neg hb, if_neg hb]
    · rw [if_neg hp, List.drop_eq_nil_of_le (by omega)]; rfl
theorem seg_mid {cs g : List Ch} {gs : List (List Ch)} (h : gs.flatten = cs) (hg : g ∈ gs) : ∃ A B, cs = A ++ g ++ B := by
  obtain ⟨a, b, rfl⟩ := List.append_of_mem hg
  exact ⟨a.flatten, b.flatten, by rw [← h]; simp⟩
theorem singles_byts (g : List Ch) : (g.map fun c => [c]).map byts = g.map (·.2) := by
  rw [List.map_map]; apply List.map_congr_left; intro c _; simp [byts]
theorem units_L1 {σ : Type} (Y : σ → List UInt8 → Option (σ × Bool)) {k : Nat} (hk : k < 3) (l : List UInt8) (hl : l.length ≤ 3000) (hok : okE k l) : ∀ (d i m : Nat) (s : σ), (segs (chars l)).length - i ≤ d → d < m → i ≤ (segs (chars l)).length →
    words_units_1_L1 Y (nam k) (pieces l) m (i : Int) s = runX Y ((((segs (chars l)).drop i).flatMap (usC k)).map byts) s := by
  have hpl := Gr.pieces_len l
  have hsl : (pieces l).length = (segs (chars l)).length := by unfold pieces; rw [List.length_map]
  intro d
  induction d with
  | zero =>
    intro i m s h1 h2 h3
    obtain ⟨m, rfl⟩ : ∃ k, m = k + 1 := ⟨m - 1, by omega⟩
    rw [words_units_1_L1, if_neg (by omega), List.drop_eq_nil_of_le (by omega)]; rfl
  | succ d ih =>
    intro i m s h1 h2 h3
    obtain ⟨m, rfl⟩ : ∃ k, m = k + 1 := ⟨m - 1, by omega⟩
    rw [words_units_1_L1]
    by_cases hi : i < (segs (chars l)).length
    · have hp : (pieces l)[i]? = some (byts (segs (chars l))[i]) := by unfold pieces; rw [List.getElem?_map, List.getElem?_eq_getElem hi]; rfl
      obtain ⟨A, B, hAB⟩ := seg_mid (Gr.segs_flat (chars l)) (List.getElem_mem hi)
      have hg := hok.mid hAB
      have hgl := byts_len hAB
      have hgc := chars_mid hAB
      rw [if_pos (by omega), idx_nat, hp, bsome, word_eq hk (by omega) hg, bsome, List.drop_eq_getElem_cons hi, List.flatMap_cons, List.map_append, runX_app]
      unfold usC
      by_cases hw : (W k (byts (segs (chars l))[i])).length ≤ 75
      · rw [if_pos (by omega), if_pos hw, List.map_cons, List.map_nil, runX]
        cases hY : Y s (byts (segs (chars l))[i]) with
        | none => rfl
        | some r =>
          obtain ⟨s2, b⟩ := r
          rw [bsome, bsome]
          dsimp only
          by_cases hb : b = true
          · rw [if_pos hb, if_pos hb, runX, bsome, chk_succ (by omega), bsome]
            exact ih (i + 1) m s2 (by omega) (by omega) (by omega)
          · rw [if_neg hb, if_neg hb, bsome]
      · have h2 := units_L2 Y (byts (segs (chars l))[i]) (by omega) (byts (segs (chars l))[i]).length 0 FU s (by omega) (by rw [FU_eq]; omega) (by omega) (by rw [List.drop_zero]; exact hg.v)
        rw [List.drop_zero, hgc] at h2
        rw [if_neg (by omega), if_neg hw, singles_byts, h2]
        refine congrArg (Option.bind _) (funext fun o => ?_)
        cases o with
        | inl s2 =>
          dsimp only
          rw [chk_succ (by omega), bsome]
          exact ih (i + 1) m s2 (by omega) (by omega) (by omega)
        | inr r => rfl
    · rw [if_neg (by omega), List.drop_eq_nil_of_le (by omega)]; rfl
theorem units_eq {σ : Type} (Y : σ → List UInt8 → Option (σ × Bool)) (s : σ) {k : Nat} (hk : k < 3) {l : List UInt8} (hl : l.length ≤ 3000) (hok : okE k l) : words_units_1 l (nam k) σ Y s = runL Y ((unitsC k l).map byts) s := by
  unfold words_units_1 grapheme_Split
  have hpl := Gr.pieces_len l
  have hsl : (pieces l).length = (segs (chars l)).length := by unfold pieces; rw [List.length_map]
  rw [if_pos (by omega), bsome]
  have := units_L1 Y hk l hl hok _ 0 FU s (Nat.le_refl _) (by rw [FU_eq]; omega) (by omega)
  rw [List.drop_zero] at this
  show ((words_units_1_L1 Y (nam k) (pieces l) FU ((0 : Nat) : Int) s).bind fun o36 => _) = _
  rw [this]
  exact runX_runL Y _ s
end Go.Ph.Wd
end
section
set_option linter.unusedVariables false
set_option linter.unusedSimpArgs false
namespace Go.Ph.Wd
open Go.Ph.Pl Go.Ph.Pf
open Go.Ph.Gr (chars Ch pieces byts segs)
open Go.Ph.Chs (vld setN setOf encK encGo decoded utf8 bestK)
open Go.Ph.Utf (rune dr)
def p2 (k : Nat) (now : List Ch) : List (List Ch) → List (List Ch)
  | [] => [now]
  | u :: us => if (W k (byts (now ++ u))).length ≤ 75 then p2 k (now ++ u) us else now :: p2 k u us
def parts (k : Nat) : List (List Ch) → List (List Ch)
  | [] => []
  | u :: us => p2 k u us
theorem p2_flat (k : Nat) : ∀ (us : List (List Ch)) (now : List Ch), (p2 k now us).flatten = now ++ us.flatten
  | [], now => by simp [p2]
  | u :: us, now => by
    rw [p2]
    split
    · rw [p2_flat k us]; simp
    · rw [List.flatten_cons, p2_flat k us]; simp
theorem p2_len (k : Nat) : ∀ (us : List (List Ch)) (now : List Ch), (p2 k now us).length ≤ us.length + 1
  | [], now => by simp [p2]
  | u :: us, now => by
    rw [p2]
    split
    · have := p2_len k us (now ++ u); simp; omega
    · have := p2_len k us u; simp; omega
def gr (k : Nat) (s : List (List Ch) × List Ch) (u : List Ch) : List (List Ch) × List Ch := if s.2 ≠ [] ∧ 75 < (W k (byts (s.2 ++ u))).length then (s.1 ++ [s.2], u) else (s.1, s.2 ++ u)
theorem gr_p2 (k : Nat) : ∀ (us : List (List Ch)) (out : List (List Ch)) (now : List Ch), now ≠ [] → (∀ u ∈ us, u ≠ []) → (us.foldl (gr k) (out, now)).1 ++ [(us.foldl (gr k) (out, now)).2] = out ++ p2 k now us
  | [], out, now, h0, h => by simp [p2]
  | u :: us, out, now, h0, h => by
    rw [List.foldl_cons, p2]
    by_cases hw : (W k (byts (now ++ u))).length ≤ 75
    · rw [if_pos hw, show gr k (out, now) u = (out, now ++ u) by unfold gr; dsimp only; rw [if_neg (fun e => by have := e.2; omega)]]
      exact gr_p2 k us out (now ++ u) (by simp [h0]) (fun x hx => h x (by simp [hx]))
    · rw [if_neg hw, show gr k (out, now) u = (out ++ [now], u) by unfold gr; dsimp only; rw [if_pos ⟨h0, by omega⟩]]
      rw [gr_p2 k us (out ++ [now]) u (h u (by simp)) (fun x hx => h x (by simp [hx]))]; simp
theorem gr_parts (k : Nat) (us : List (List Ch)) (hne : us ≠ []) (h : ∀ u ∈ us, u ≠ []) : (us.foldl (gr k) ([], [])).1 ++ [(us.foldl (gr k) ([], [])).2] = parts k us := by
  cases us with
  | nil => exact absurd rfl hne
  | cons u us =>
    rw [List.foldl_cons, show gr k ([], []) u = ([], u) by unfold gr; simp, gr_p2 k us [] u (h u (by simp)) (fun x hx => h x (by simp [hx]))]; rfl
theorem byts_nil {g : List Ch} {l : List UInt8} (hs : ∀ c ∈ g, c ∈ chars l) : byts g = [] ↔ g = [] := by
  constructor
  · intro h
    cases g with
    | nil => rfl
    | cons c g =>
      have := Gr.chars_ne l c (hs c (by simp))
      simp [byts] at h
      exact absurd h.1 this
  · rintro rfl; rfl
theorem wrap_len (k : Nat) (hk : k < 4) (b : List UInt8) : (wrap k b).length ≤ 20 + 4 * (b.length + 2) := by
  have hn := nam_len k hk
  have hd := dq_len b
  have hc := B64.chars_len b
  unfold wrap
  simp only [List.length_append, List.length_cons, List.length_nil]
  split
  · simp only [List.length_append, List.length_cons, List.length_nil]; omega
  · simp only [List.length_append, List.length_cons, List.length_nil]; omega
theorem W_len (k : Nat) (hk : k < 4) (l : List UInt8) : (W k l).length ≤ 28 + 16 * l.length := by
  have := wrap_len k hk (enc k l)
  have := enc_len k l
  unfold W; omega
theorem mid_mem {l : List UInt8} {A g B : List Ch} (h : chars l = A ++ g ++ B) : ∀ c ∈ g, c ∈ chars l := fun c hc => by rw [h]; simp [hc]
theorem encY {k : Nat} (hk : k < 3) {l : List UInt8} (hl : l.length ≤ 1000) (hok : okE k l) (out : List (List Ch)) (now u : List Ch) {A B : List Ch} (hs : chars l = A ++ (now ++ u) ++ B) (hout : out.length ≤ 2000) :
    words_Encode_Y28 (nam k) (out.map fun g => W k (byts g), byts now) (byts u) = some ((gr k (out, now) u).1.map (fun g => W k (byts g)), byts (gr k (out, now) u).2) := by
  have h1 := hok.mid hs
  have hl1 := byts_len hs
  have h2 := hok.mid (A := A) (g := now) (B := u ++ B) (by rw [hs]; simp)
  have hl2 := byts_len (l := l) (A := A) (g := now) (B := u ++ B) (by rw [hs]; simp)
  have hm := mid_mem (l := l) (A := A) (g := now) (B := u ++ B) (by rw [hs]; simp)
  have hn := byts_nil hm
  have hb := byts_app now u
  have hbl : (byts (now ++ u)).length = (byts now).length + (byts u).length := by rw [hb, List.length_append]
  unfold words_Encode_Y28 gr
  dsimp only
  by_cases h0 : now = []
  · subst h0
    have hb0 : byts ([] : List Ch) = [] := rfl
    rw [if_pos hb0, bsome, if_neg Bool.false_ne_true, if_neg (fun e => e.1 rfl), hb0, cat_ok (by simp only [List.length_nil]; omega), bsome]
    rfl
  · rw [if_neg (fun e => h0 (hn.1 e)), cat_ok (by omega), bsome, ← hb, word_eq hk (by omega) h1, bsome, bsome]
    by_cases hw : 75 < (W k (byts (now ++ u))).length
    · rw [if_pos (decide_eq_true (by omega)), word_eq hk (by omega) h2, bsome, app_ok (by rw [List.length_map]; simp only [List.length_cons, List.length_nil]; omega), bsome, cat_ok (by simp only [List.length_nil]; omega), bsome, if_pos ⟨h0, hw⟩]
      simp
    · rw [if_neg (by rw [decide_eq_true_eq]; omega), if_neg (fun e => hw e.2), bsome]
theorem gr_len (k : Nat) (s : List (List Ch) × List Ch) (u : List Ch) : (gr k s u).1.length ≤ s.1.length + 1 := by unfold gr; split <;> simp
theorem gr_flat (k : Nat) (s : List (List Ch) × List Ch) (u : List Ch) : (gr k s u).1.flatten ++ (gr k s u).2 = s.1.flatten ++ s.2 ++ u := by unfold gr; split <;> simp
theorem encFold {k : Nat} (hk : k < 3) {l : List UInt8} (hl : l.length ≤ 1000) (hok : okE k l) : ∀ (us : List (List Ch)) (s : List (List Ch) × List Ch) (n : Nat), chars l = (s.1.flatten ++ s.2) ++ us.flatten → s.1.length + us.length ≤ 2000 →
    (us.map byts).foldlM (words_Encode_Y28 (nam k)) (s.1.map fun g => W k (byts g), byts s.2) = some ((us.foldl (gr k) s).1.map (fun g => W k (byts g)), byts (us.foldl (gr k) s).2)
  | [], s, n, hs, hlen => rfl
  | u :: us, s, n, hs, hlen => by
    rw [List.map_cons, List.foldlM_cons, List.foldl_cons]
    show Option.bind _ _ = _
    rw [encY hk hl hok s.1 s.2 u (A := s.1.flatten) (B := us.flatten) (by rw [hs]; simp) (by omega), bsome]
    exact encFold hk hl hok us (gr k s u) n (by rw [hs, gr_flat]; simp) (by have := gr_len k s u; simp only [List.length_cons] at hlen; omega)
theorem unitsC_len (k : Nat) (l : List UInt8) : (unitsC k l).length ≤ l.length := by
  have h : ∀ us : List (List Ch), (∀ u ∈ us, u ≠ []) → us.length ≤ us.flatten.length := by
    intro us
    induction us with
    | nil => simp
    | cons u us ih =>
      intro h
      have h1 := ih (fun x hx => h x (by simp [hx]))
      have h2 := List.length_pos_iff.2 (h u (by simp))
      simp only [List.flatten_cons, List.length_append, List.length_cons]; omega
  have h1 := h (unitsC k l) (unitsC_ne k l)
  rw [unitsC_flat] at h1
  have := chars_len l
  omega
def rep (k : Nat) (l : List UInt8) : List UInt8 := jn [32] ((parts k (unitsC k l)).map fun g => W k (byts g))
theorem jn_len (sep : List UInt8) (n : Nat) : ∀ (ws : List (List UInt8)), (∀ w ∈ ws, w.length ≤ n) → (jn sep ws).length ≤ ws.length * (n + sep.length)
  | [], _ => by simp [jn]
  | [x], h => by have := h x (by simp); simp [jn]; omega
  | x :: y :: r, h => by
    have h1 := h x (by simp)
    have h2 := jn_len sep n (y :: r) (fun w hw => h w (by simp [hw]))
    simp only [jn, List.length_append, List.length_cons] at h2 ⊢
    rw [Nat.succ_mul]; omega
theorem parts_flat (k : Nat) (us : List (List Ch)) : (parts k us).flatten = us.flatten := by
  cases us with
  | nil => rfl
  | cons u us => rw [parts, p2_flat]; rfl
theorem parts_len (k : Nat) (us : List (List Ch)) : (parts k us).length ≤ us.length := by
  cases us with
  | nil => simp [parts]
  | cons u us => rw [parts]; have := p2_len k us u; simp; omega
theorem part_mid (k : Nat) (l : List UInt8) {g : List Ch} (hg : g ∈ parts k (unitsC k l)) : ∃ A B, chars l = A ++ g ++ B := seg_mid (by rw [parts_flat, unitsC_flat]) hg
theorem parts_bound {k : Nat} (hk : k < 4) {l : List UInt8} : ∀ w ∈ (parts k (unitsC k l)).map (fun g => W k (byts g)), w.length ≤ 28 + 16 * l.length := fun w hw => by
  obtain ⟨g, hg, rfl⟩ := List.mem_map.1 hw
  obtain ⟨A, B, h⟩ := part_mid k l hg
  have := byts_len h
  have := W_len k hk (byts g)
  omega
theorem rep_len {k : Nat} (hk : k < 4) {l : List UInt8} (hl : l.length ≤ 1000) : (rep k l).length ≤ 20000000 := by
  have h1 := jn_len [32] _ _ (parts_bound hk (l := l))
  have h2 := parts_len k (unitsC k l)
  have h3 := unitsC_len k l
  rw [List.length_map] at h1
  have h4 : (parts k (unitsC k l)).length * (28 + 16 * l.length + 1) ≤ 1000 * (28 + 16 * 1000 + 1) := Nat.mul_le_mul (by omega) (by omega)
  unfold rep
  simp only [List.length_cons, List.length_nil, Nat.zero_add] at h1
  omega
theorem encTail {k : Nat} (hk : k < 3) {l : List UInt8} (hl : l.length ≤ 1000) (h0 : l ≠ []) (hok : okE k l) :
    ((words_units (nam k) l).bind fun (z19, z21) => (words_units_1 z19 z21 (List (List UInt8) × List UInt8) (stepY goOn (words_Encode_Y28 (nam k))) ([], [])).bind fun (l25, s27) => (words_word (nam k) s27).bind fun s49 => (app 16 l25 ([s49] : List (List UInt8))).bind fun l51 => (strings_Join l51 [32]).bind fun s53 => (basic_None).bind fun (n55, n56) => some (s53, (n55, n56)))
      = some (rep k l, (0, 0)) := by
  unfold words_units
  rw [bsome]
  dsimp only
  have hne : unitsC k l ≠ [] := fun e => by
    have := unitsC_flat k l
    rw [e] at this
    rw [Gr.chars_cons h0] at this; cases this
  have hul := unitsC_len k l
  rw [units_eq _ _ hk (by omega) hok, runL_goOn]
  have hf := encFold hk hl hok (unitsC k l) ([], []) 0 (by rw [unitsC_flat]; rfl) (by simp; omega)
  have hp := gr_parts k (unitsC k l) hne (unitsC_ne k l)
  have hb : byts ([] : List Ch) = [] := rfl
  rw [hb] at hf
  simp only [List.map_nil] at hf
  rw [hf, bsome]
  dsimp only
  obtain ⟨A, B, hAB⟩ := part_mid k l (g := ((unitsC k l).foldl (gr k) ([], [])).2) (by rw [← hp]; simp)
  have hbl := byts_len hAB
  have hpl := parts_len k (unitsC k l)
  have hpl2 := congrArg List.length hp
  simp only [List.length_append, List.length_cons, List.length_nil] at hpl2
  have hrl := rep_len (k := k) (by omega) hl
  rw [word_eq hk (by omega) (hok.mid hAB), bsome, app_ok (by rw [List.length_map]; simp only [List.length_cons, List.length_nil]; omega), bsome]
  have hj : (((unitsC k l).foldl (gr k) ([], [])).1.map (fun g => W k (byts g))) ++ [W k (byts ((unitsC k l).foldl (gr k) ([], [])).2)] = (parts k (unitsC k l)).map fun g => W k (byts g) := by
    rw [← hp]; simp
  rw [hj]
  unfold strings_Join basic_None
  unfold rep at hrl
  rw [if_pos ⟨by rw [List.length_map]; omega, by omega⟩, bsome, bsome]
  rfl
theorem utf8_char : ∀ (n : Nat) (l : List UInt8), l.length ≤ n → vld l = true → ∀ c ∈ chars l, utf8 c.1 = c.2
  | 0, l, hn, hv => by
    obtain rfl : l = [] := List.eq_nil_of_length_eq_zero (by omega)
    intro c hc; cases hc
  | n + 1, l, hn, hv => by
    by_cases hl : l = []
    · subst hl; intro c hc; cases hc
    · rw [Chs.vld_cons hl] at hv
      simp only [Bool.and_eq_true, decide_eq_true_eq] at hv
      have hrs := Utf.rune_size l
      intro c hc
      rw [Gr.chars_cons hl] at hc
      rcases List.mem_cons.1 hc with rfl | hc
      · exact Chs.utf8_rune l hl hv.1
      · exact utf8_char n (l.drop (rune l).2) (by rw [List.length_drop]; omega) hv.2 c hc
theorem flatMap_one {α β : Type} (f : α → β) : ∀ l : List α, l.flatMap (fun a => [f a]) = l.map f
  | [] => rfl
  | a :: l => by rw [List.flatMap_cons, flatMap_one f l]; rfl
theorem runits_L2 (ns : List Int) (o : List (List UInt8)) (hn : ns.length ≤ 1000000) (ho : o.length ≤ 1000000) : R_WordUnits_L2 ns FU o 0 = some (o ++ ns.map utf8) := by
  rw [foldI0 (L := fun m s i => R_WordUnits_L2 ns m s i) ns (fun o c => o ++ [utf8 c]) id (fun i s => s.length = o.length + i) (by omega) ?_ ?_ o (by simp), foldl_app]
  · rw [flatMap_one]; rfl
  · intro m s hs
    rw [R_WordUnits_L2, if_neg (by omega)]; rfl
  · intro m s i a ha hs
    have hi := (List.getElem?_eq_some_iff.1 ha).1
    refine ⟨by rw [List.length_append]; simp; omega, ?_⟩
    rw [R_WordUnits_L2, if_pos (by omega), idx_nat, ha, bsome]
    unfold R_Utf8
    rw [bsome, app_ok (by simp; omega), bsome, chk_succ (by omega), bsome]
theorem usC_len (k : Nat) (g : List Ch) : (usC k g).length ≤ g.length + 1 := by unfold usC; split <;> simp
theorem runits_eq {k : Nat} (hk : k < 3) {l : List UInt8} (hl : l.length ≤ 1000) (hok : okE k l) : R_WordUnits (nam k) l = some ((unitsC k l).map byts) := by
  unfold R_WordUnits R_Pieces
  have hpl := Gr.pieces_len l
  rw [if_pos (by omega), bsome]
  rw [foldI0 (L := fun m s i => R_WordUnits_L1 (nam k) (pieces l) m s i) (segs (chars l)) (fun o g => o ++ (usC k g).map byts) id (fun i s => s.length ≤ 1001 * i) (by unfold pieces at hpl; rw [List.length_map] at hpl; omega) ?_ ?_ [] (by simp), foldl_app, bsome]
  · simp only [List.nil_append, id]
    unfold unitsC
    rw [List.map_flatMap]
  · intro m s hs
    rw [R_WordUnits_L1, if_neg (by unfold pieces; rw [List.length_map]; omega)]; rfl
  · intro m s i a ha hs
    obtain ⟨hi, rfl⟩ := List.getElem?_eq_some_iff.1 ha
    have hp : (pieces l)[i]? = some (byts (segs (chars l))[i]) := by unfold pieces; rw [List.getElem?_map, ha]; rfl
    have hpi := (List.getElem?_eq_some_iff.1 hp).1
    obtain ⟨A, B, hAB⟩ := seg_mid (Gr.segs_flat (chars l)) (List.getElem_mem hi)
    have hg := hok.mid hAB
    have hgl := byts_len hAB
    have hgc := chars_mid hAB
    have hcl := chars_len (byts (segs (chars l))[i])
    rw [hgc] at hcl
    have hul := usC_len k (segs (chars l))[i]
    refine ⟨by rw [List.length_append, List.length_map]; omega, ?_⟩
    rw [R_WordUnits_L1, if_pos (by omega), idx_nat, hp, bsome, rword_eq hk (by omega) hg, bsome]
    unfold usC
    by_cases hw : (W k (byts (segs (chars l))[i])).length ≤ 75
    · rw [if_pos (by omega), if_pos hw, bsome, app_ok (by simp; omega), bsome, chk_succ (by omega), bsome]; rfl
    · unfold R_Runes
      rw [if_neg (by omega), if_neg hw, bsome, if_pos (by omega), bsome, hgc, runits_L2 _ _ (by rw [List.length_map]; omega) (by omega), bsome, chk_succ (by omega), bsome, singles_byts, List.map_map]
      have : (segs (chars l))[i].map (utf8 ∘ fun x => x.1) = (segs (chars l))[i].map (·.2) := List.map_congr_left fun c hc => by
        have h1 := utf8_char _ (byts (segs (chars l))[i]) (Nat.le_refl _) hg.v c (by rw [hgc]; exact hc)
        exact h1
      rw [this]
def ext (k : Nat) (now : List Ch) : List (List Ch) → Nat × List Ch
  | [] => (0, now)
  | u :: us => if (W k (byts (now ++ u))).length ≤ 75 then ((ext k (now ++ u) us).1 + 1, (ext k (now ++ u) us).2) else (0, now)
theorem ext_le (k : Nat) : ∀ (us : List (List Ch)) (now : List Ch), (ext k now us).1 ≤ us.length
  | [], now => Nat.le_refl _
  | u :: us, now => by
    rw [ext]; split
    · have := ext_le k us (now ++ u); simp; omega
    · simp
theorem p2_ext (k : Nat) : ∀ (us : List (List Ch)) (now : List Ch), p2 k now us = (ext k now us).2 :: parts k (us.drop (ext k now us).1)
  | [], now => rfl
  | u :: us, now => by
    rw [p2, ext]; split
    · rw [p2_ext k us]; rfl
    · rfl
theorem rwords_L2 {k : Nat} (hk : k < 3) {l : List UInt8} (hl : l.length ≤ 1000) (hok : okE k l) (us : List (List Ch)) (hus : us.length ≤ 1000) : ∀ (d n m : Nat) (now : List Ch) (A : List Ch), us.length - n ≤ d → d < m → n ≤ us.length → chars l = A ++ now ++ (us.drop n).flatten →
    R_Words_L2 (nam k) (us.map byts) m (n : Int) (byts now) = some (((n + (ext k now (us.drop n)).1 : Nat) : Int), byts (ext k now (us.drop n)).2) := by
  intro d
  induction d with
  | zero =>
    intro n m now A h1 h2 h3 hs
    obtain ⟨m, rfl⟩ : ∃ k, m = k + 1 := ⟨m - 1, by omega⟩
    rw [R_Words_L2, if_neg (by rw [List.length_map]; omega), bsome, if_neg Bool.false_ne_true, List.drop_eq_nil_of_le (by omega)]; rfl
  | succ d ih =>
    intro n m now A h1 h2 h3 hs
    obtain ⟨m, rfl⟩ : ∃ k, m = k + 1 := ⟨m - 1, by omega⟩
    rw [R_Words_L2]
    by_cases hn : n < us.length
    · have hd := List.drop_eq_getElem_cons hn
      have hs2 : chars l = A ++ (now ++ us[n]) ++ (us.drop (n + 1)).flatten := by rw [hs, hd, List.flatten_cons]; simp only [List.append_assoc]
      have h4 := hok.mid hs2
      have h5 := byts_len hs2
      have h6 := byts_app now us[n]
      have h7 : (byts (now ++ us[n])).length = (byts now).length + (byts us[n]).length := by rw [h6, List.length_append]
      have hi : (us.map byts)[n]? = some (byts us[n]) := by rw [List.getElem?_map, List.getElem?_eq_getElem hn]; rfl
      rw [if_pos (by rw [List.length_map]; omega), idx_nat, hi, bsome, cat_ok (by omega), bsome, ← h6, rword_eq hk (by omega) h4, bsome, bsome, hd, ext]
      by_cases hw : (W k (byts (now ++ us[n]))).length ≤ 75
      · rw [if_pos (decide_eq_true (by omega)), if_pos hw, bsome, cat_ok (by omega), bsome, ← h6, chk_succ (by omega), bsome, ih (n + 1) m (now ++ us[n]) A (by omega) (by omega) (by omega) hs2]
        simp only [Nat.add_assoc, Nat.add_comm 1]
      · rw [if_neg (by rw [decide_eq_true_eq]; omega), if_neg hw]; rfl
    · rw [if_neg (by rw [List.length_map]; omega), bsome, if_neg Bool.false_ne_true, List.drop_eq_nil_of_le (by omega)]; rfl
theorem W_ne (k : Nat) (l : List UInt8) : W k l ≠ [] := by unfold W wrap; simp
def more (ws : List (List UInt8)) : List UInt8 := ws.flatMap fun w => 32 :: w
theorem jn_more : ∀ (w : List UInt8) (ws : List (List UInt8)), jn [32] (w :: ws) = w ++ more ws
  | w, [] => by simp [jn, more]
  | w, x :: ws => by rw [jn, jn_more x ws]; simp [more]
theorem ext_flat (k : Nat) : ∀ (us : List (List Ch)) (now : List Ch), (ext k now us).2 ++ (us.drop (ext k now us).1).flatten = now ++ us.flatten
  | [], now => by simp [ext]
  | u :: us, now => by
    rw [ext]; split
    · show (ext k (now ++ u) us).2 ++ (us.drop (ext k (now ++ u) us).1).flatten = _
      rw [ext_flat k us]; simp
    · rfl
theorem rwords_L1 {k : Nat} (hk : k < 3) {l : List UInt8} (hl : l.length ≤ 1000) (hok : okE k l) (us : List (List Ch)) (hus : us.length ≤ 1000) : ∀ (d n m : Nat) (o : List UInt8) (A : List Ch), us.length - n ≤ d → d < m → n ≤ us.length → chars l = A ++ (us.drop n).flatten → o.length ≤ 17000 * n →
    R_Words_L1 (nam k) (us.map byts) m o (n : Int) = some (if o = [] then jn [32] ((parts k (us.drop n)).map fun g => W k (byts g)) else o ++ more ((parts k (us.drop n)).map fun g => W k (byts g))) := by
  intro d
  induction d with
  | zero =>
    intro n m o A h1 h2 h3 hs ho
    obtain ⟨m, rfl⟩ : ∃ k, m = k + 1 := ⟨m - 1, by omega⟩
    rw [R_Words_L1, if_neg (by rw [List.length_map]; omega), List.drop_eq_nil_of_le (by omega)]
    split
    · rename_i h; subst h; rfl
    · simp [parts, more]
  | succ d ih =>
    intro n m o A h1 h2 h3 hs ho
    obtain ⟨m, rfl⟩ : ∃ k, m = k + 1 := ⟨m - 1, by omega⟩
    rw [R_Words_L1]
    by_cases hn : n < us.length
    · have hd := List.drop_eq_getElem_cons hn
      have hs2 : chars l = A ++ us[n] ++ (us.drop (n + 1)).flatten := by rw [hs, hd, List.flatten_cons]; simp only [List.append_assoc]
      have hi : (us.map byts)[n]? = some (byts us[n]) := by rw [List.getElem?_map, List.getElem?_eq_getElem hn]; rfl
      have hx := ext_le k (us.drop (n + 1)) us[n]
      rw [List.length_drop] at hx
      have hxf := ext_flat k (us.drop (n + 1)) us[n]
      rw [List.drop_drop] at hxf
      have hs3 : chars l = A ++ (ext k us[n] (us.drop (n + 1))).2 ++ (us.drop (n + 1 + (ext k us[n] (us.drop (n + 1))).1)).flatten := by rw [hs2, List.append_assoc, List.append_assoc, hxf]
      have h4 := hok.mid hs3
      have h5 := byts_len hs3
      have h6 := W_len k (by omega) (byts (ext k us[n] (us.drop (n + 1))).2)
      rw [if_pos (by rw [List.length_map]; omega), idx_nat, hi, bsome, chk_succ (by omega), bsome, rwords_L2 hk hl hok us hus (us.length - (n + 1)) (n + 1) FU us[n] A (by omega) (by rw [FU_eq]; omega) (by omega) hs2, bsome]
      dsimp only
      have hpp : parts k (us.drop n) = (ext k us[n] (us.drop (n + 1))).2 :: parts k (us.drop (n + 1 + (ext k us[n] (us.drop (n + 1))).1)) := by rw [hd, parts, p2_ext, List.drop_drop]
      by_cases h0 : o = []
      · subst h0
        rw [if_pos rfl, if_pos rfl, bsome, rword_eq hk (by omega) h4, bsome, cat_ok (by simp only [List.length_nil]; omega), bsome, ih _ m _ (A ++ (ext k us[n] (us.drop (n + 1))).2) (by omega) (by omega) (by omega) hs3 (by simp only [List.length_append, List.length_nil]; omega), if_neg (by rw [List.nil_append]; exact W_ne _ _), hpp, List.map_cons, jn_more]
        rfl
      · rw [if_neg h0, if_neg h0, cat_ok (by simp only [List.length_cons, List.length_nil]; omega), bsome, bsome, rword_eq hk (by omega) h4, bsome, cat_ok (by simp only [List.length_append, List.length_cons, List.length_nil]; omega), bsome, ih _ m _ (A ++ (ext k us[n] (us.drop (n + 1))).2) (by omega) (by omega) (by omega) hs3 (by simp only [List.length_append, List.length_cons, List.length_nil]; omega), if_neg (by simp [h0]), hpp, List.map_cons]
        simp [more]
    · rw [if_neg (by rw [List.length_map]; omega), List.drop_eq_nil_of_le (by omega)]
      split
      · rename_i h; subst h; rfl
      · simp [parts, more]
theorem rwords_tail {k : Nat} (hk : k < 3) {l : List UInt8} (hl : l.length ≤ 1000) (hok : okE k l) :
    ((R_WordUnits (nam k) l).bind fun l6 => (R_Words_L1 (nam k) l6 FU [] 0).bind fun s10 => some s10) = some (rep k l) := by
  have hul := unitsC_len k l
  rw [runits_eq hk hl hok, bsome]
  have := rwords_L1 hk hl hok (unitsC k l) (by omega) (unitsC k l).length 0 FU [] [] (by omega) (by rw [FU_eq]; omega) (by omega) (by rw [List.drop_zero, unitsC_flat]; rfl) (by simp)
  rw [List.drop_zero, if_pos rfl] at this
  show ((R_Words_L1 (nam k) ((unitsC k l).map byts) FU [] ((0 : Nat) : Int)).bind fun s10 => some s10) = _
  rw [this, bsome]; rfl
end Go.Ph.Wd
end
section
set_option linter.unusedVariables false
set_option linter.unusedSimpArgs false
namespace Go.Ph.Wd
open Go.Ph.Pl Go.Ph.Pf
open Go.Ph.Gr (chars Ch pieces byts segs)
open Go.Ph.Chs (vld setN setOf encK encGo decoded utf8 bestK)
open Go.Ph.Utf (rune dr)
theorem prefix_eq (s p : List UInt8) (hs : s.length ≤ 9223372036854775807) : strings_HasPrefix s p = some (decide (p <+: s)) := by
  unfold strings_HasPrefix stringslite_HasPrefix
  by_cases h : p.length ≤ s.length
  · rw [if_pos (by omega), cut_to rfl h, bsome, bsome, bsome]
    congr 1
    rw [decide_eq_decide, List.prefix_iff_eq_take]
    exact ⟨fun e => e.symm, fun e => e.symm⟩
  · rw [if_neg (by omega), bsome, bsome, decide_eq_false (fun e => h e.length_le)]
theorem suffix_eq (s p : List UInt8) (hs : s.length ≤ 9223372036854775807) : strings_HasSuffix s p = some (decide (p <:+ s)) := by
  unfold strings_HasSuffix stringslite_HasSuffix
  by_cases h : p.length ≤ s.length
  · rw [if_pos (by omega), chk_ok (by omega) (by omega), bsome, show (s.length : Int) - (p.length : Int) = ((s.length - p.length : Nat) : Int) by omega, cut_from rfl (by omega), bsome, bsome, bsome]
    congr 1
    rw [decide_eq_decide, List.suffix_iff_eq_drop]
    exact ⟨fun e => e.symm, fun e => e.symm⟩
  · rw [if_neg (by omega), bsome, bsome, decide_eq_false (fun e => h e.length_le)]
theorem index_short {l sub : List UInt8} (h : l.length < sub.length) : Lib.index l sub = -1 := by
  have h1 := Lib.index_ge l sub
  have h2 := Lib.index_room l sub
  by_cases h3 : 0 ≤ Lib.index l sub
  · have := h2 h3; omega
  · omega
def fnd (s sub : List UInt8) (i : Nat) : Int := if Lib.index (s.drop i) sub = -1 then -1 else (i : Int) + Lib.index (s.drop i) sub
theorem fnd_here {s sub : List UInt8} {i : Nat} (hi : i < s.length) (h : sub <+: s.drop i) : fnd s sub i = (i : Int) := by
  unfold fnd
  rw [List.drop_eq_getElem_cons hi] at h ⊢
  have : Lib.index (s[i] :: s.drop (i + 1)) sub = 0 := by rw [Lib.index, if_pos (List.isPrefixOf_iff_prefix.2 h)]
  rw [this]; simp
theorem fnd_next {s sub : List UInt8} {i : Nat} (hi : i < s.length) (h : ¬ sub <+: s.drop i) : fnd s sub i = fnd s sub (i + 1) := by
  unfold fnd
  have hd := List.drop_eq_getElem_cons hi
  rw [hd] at h ⊢
  have hn : ¬ sub.isPrefixOf (s[i] :: s.drop (i + 1)) = true := fun e => h (List.isPrefixOf_iff_prefix.1 e)
  have h1 := Lib.index_ge (s.drop (i + 1)) sub
  rw [Lib.index, if_neg hn]
  by_cases h2 : Lib.index (s.drop (i + 1)) sub = -1
  · rw [h2]; simp
  · have h3 : ¬ (Lib.index (s.drop (i + 1)) sub == -1) = true := by simpa using h2
    rw [if_neg h3, if_neg h2, if_neg (by omega)]; omega
theorem fnd_none {s sub : List UInt8} {i : Nat} (hi : i ≤ s.length) (h : s.length < i + sub.length) : fnd s sub i = -1 := by
  unfold fnd
  rw [if_pos (index_short (by rw [List.length_drop]; omega))]
theorem find_L1 (s sub : List UInt8) (hs : s.length ≤ 1000000000) (hb : sub.length ≤ 1000) (h0 : sub ≠ []) : ∀ (d i m : Nat), s.length - i ≤ d → d < m → i ≤ s.length → R_Find_L1 s sub m (i : Int) = some (if fnd s sub i = -1 then .inl () else .inr (fnd s sub i)) := by
  have h0' := List.length_pos_iff.2 h0
  intro d
  induction d with
  | zero =>
    intro i m h1 h2 h3
    obtain ⟨m, rfl⟩ : ∃ k, m = k + 1 := ⟨m - 1, by omega⟩
    rw [R_Find_L1, chk_ok (by omega) (by omega), bsome, if_neg (by omega), fnd_none (by omega) (by omega), if_pos rfl]
  | succ d ih =>
    intro i m h1 h2 h3
    obtain ⟨m, rfl⟩ : ∃ k, m = k + 1 := ⟨m - 1, by omega⟩
    rw [R_Find_L1, chk_ok (by omega) (by omega), bsome]
    by_cases hr : i + sub.length ≤ s.length
    · rw [if_pos (by omega), bsome, show ((i : Int) + (sub.length : Int)) = ((i + sub.length : Nat) : Int) by omega, cut_of rfl rfl (by omega) hr, bsome]
      have hpe : (s.take (i + sub.length)).drop i = (s.drop i).take sub.length := by rw [List.drop_take]; congr 1; omega
      by_cases hp : sub <+: s.drop i
      · rw [if_pos (by rw [hpe]; exact (List.prefix_iff_eq_take.1 hp).symm), fnd_here (by omega) hp, if_neg (by omega)]
      · rw [if_neg (fun e => hp (by rw [hpe] at e; exact List.prefix_iff_eq_take.2 e.symm)), chk_succ (by omega), bsome, ih (i + 1) m (by omega) (by omega) (by omega), fnd_next (by omega) hp]
    · rw [if_neg (by omega), fnd_none (by omega) (by omega), if_pos rfl]
theorem find_eq (s sub : List UInt8) (i : Nat) (hs : s.length ≤ 1000000000) (hb : sub.length ≤ 1000) (h0 : sub ≠ []) (hi : i ≤ s.length) : R_Find s sub (i : Int) = some (fnd s sub i) := by
  unfold R_Find
  rw [find_L1 s sub hs hb h0 s.length i FU (by omega) (by rw [FU_eq]; omega) hi, bsome]
  by_cases h : fnd s sub i = -1
  · rw [if_pos h, h]
  · rw [if_neg h]
def okc (c : UInt8) : Bool := decide (32 ≤ c.toNat ∧ c.toNat ≤ 126)
def pln (s : List UInt8) : Bool := s.all okc && (!decide ([32] <+: s) && (!decide ([32] <:+ s) && !Lib.contains s [61, 63]))
theorem all_any (s : List UInt8) : s.all okc = !s.any fun c => !okc c := by
  induction s with
  | nil => rfl
  | cons c s ih => rw [List.all_cons, List.any_cons, ih]; cases okc c <;> simp
theorem okc_prog (c : UInt8) : (if c.toNat < 32 then some true else some (decide (126 < c.toNat))) = some (!okc c) := by
  unfold okc
  by_cases h : c.toNat < 32
  · rw [if_pos h, decide_eq_false (by omega)]; rfl
  · rw [if_neg h]
    by_cases h2 : 126 < c.toNat
    · rw [decide_eq_true h2, decide_eq_false (by omega)]; rfl
    · rw [decide_eq_false h2, decide_eq_true (by omega)]; rfl
theorem plain_eq (s : List UInt8) (hs : s.length ≤ 1000000) : words_plain s = some (pln s) := by
  unfold words_plain strings_Contains pln
  rw [all_any, scan0 (L := fun m i => words_plain_L1 s m i) (l := s) (p := fun c => !okc c) (stop := .inl ()) (r := .inr false) (by rw [FU_eq]; omega) (fun m => by rw [words_plain_L1, if_neg (by omega)]) (fun m i h => by
    rw [words_plain_L1, if_pos (by omega), idx_nat, List.getElem?_eq_getElem h, bsome, bsome, okc_prog, bsome]
    by_cases hc : (!okc s[i]) = true
    · rw [if_pos hc, if_pos hc]
    · rw [if_neg hc, if_neg hc, chk_succ (by omega), bsome]), bsome]
  by_cases ha : (s.any fun c => !okc c) = true
  · rw [if_pos ha, ha]; rfl
  · have ha' := (Bool.not_eq_true _).mp ha
    rw [if_neg ha, ha']
    dsimp only
    rw [prefix_eq s [32] (by omega), bsome]
    by_cases h1 : [32] <+: s
    · rw [decide_eq_true h1, if_pos rfl, bsome]; rfl
    · rw [decide_eq_false h1, if_neg Bool.false_ne_true, suffix_eq s [32] (by omega), bsome]
      by_cases h2 : [32] <:+ s
      · rw [decide_eq_true h2, if_pos rfl, bsome]; rfl
      · rw [decide_eq_false h2, if_neg Bool.false_ne_true, if_pos (by omega), bsome, bsome]; rfl
theorem pre1 (s : List UInt8) (c : UInt8) : [c] <+: s ↔ s.head? = some c := by
  cases s with
  | nil => simp
  | cons a s => simp [List.cons_prefix_cons, eq_comm]
theorem suf1 (s : List UInt8) (c : UInt8) : [c] <:+ s ↔ s.getLast? = some c := by
  rw [← List.reverse_prefix, List.reverse_singleton, pre1, List.head?_reverse]
theorem contains_fnd (s sub : List UInt8) : Lib.contains s sub = !decide (fnd s sub 0 < 0) := by
  unfold Lib.contains fnd
  have h1 := Lib.index_ge s sub
  rw [List.drop_zero]
  by_cases h : Lib.index s sub = -1
  · rw [if_pos h, h]; rfl
  · rw [if_neg h, decide_eq_true (by omega), decide_eq_false (by omega)]; rfl
theorem rplain_eq (s : List UInt8) (hs : s.length ≤ 1000000) : R_Plain s = some (pln s) := by
  unfold R_Plain pln
  rw [all_any, scan0 (L := fun m i => R_Plain_L1 s m i) (l := s) (p := fun c => !okc c) (stop := .inl ()) (r := .inr false) (by rw [FU_eq]; omega) (fun m => by rw [R_Plain_L1, if_neg (by omega)]) (fun m i h => by
    rw [R_Plain_L1, if_pos (by omega), idx_nat, List.getElem?_eq_getElem h, bsome, rin_eq, bsome]
    have he : (decide ((32 : Int) ≤ (s[i].toNat : Int) ∧ (s[i].toNat : Int) ≤ 126)) = okc s[i] := by unfold okc; rw [decide_eq_decide]; omega
    rw [he]
    by_cases hc : okc s[i] = true
    · rw [if_pos hc, if_neg (by rw [hc]; decide), chk_succ (by omega), bsome]
    · rw [if_neg hc, if_pos (by simpa using hc)]), bsome]
  by_cases ha : (s.any fun c => !okc c) = true
  · rw [if_pos ha, ha]; rfl
  · have ha' := (Bool.not_eq_true _).mp ha
    rw [if_neg ha, ha']
    dsimp only
    have hf := find_eq s [61, 63] 0 (by omega) (by simp) (by simp) (by omega)
    rw [show ((0 : Nat) : Int) = 0 from rfl] at hf
    rw [hf, bsome, contains_fnd, Bool.not_not, Bool.not_false, Bool.true_and]
    by_cases h1 : fnd s [61, 63] 0 < 0
    · rw [if_pos h1, decide_eq_true h1, Bool.and_true]
      by_cases h2 : s = []
      · subst h2; rw [if_pos rfl, bsome]; rfl
      · have hl := List.length_pos_iff.2 h2
        rw [if_neg h2]
        have h3 : idx s 0 = some s[0] := by rw [show (0 : Int) = ((0 : Nat) : Int) from rfl, idx_nat, List.getElem?_eq_getElem hl]
        have h4 : s.head? = some s[0] := by rw [List.head?_eq_getElem?, List.getElem?_eq_getElem hl]
        have h5 : s.getLast? = some s[s.length - 1] := by rw [List.getLast?_eq_getElem?, List.getElem?_eq_getElem (by omega)]
        rw [h3, bsome]
        have e1 : decide ([32] <+: s) = decide (s[0] = 32) := by rw [decide_eq_decide, pre1, h4]; simp
        have e2 : decide ([32] <:+ s) = decide (s[s.length - 1] = 32) := by rw [decide_eq_decide, suf1, h5]; simp
        rw [e1, e2]
        by_cases h6 : s[0] = 32
        · rw [if_pos h6, decide_eq_true h6, bsome]; rfl
        · rw [if_neg h6, decide_eq_false h6, show (s.length : Int) - 1 = ((s.length - 1 : Nat) : Int) by omega, chk_ok (by omega) (by omega), bsome, idx_nat, List.getElem?_eq_getElem (by omega), bsome, bsome]; rfl
    · rw [if_neg h1, decide_eq_false h1, bsome]
      simp
theorem bestK_le (l : List UInt8) : bestK l ≤ 2 := by unfold bestK; split; · omega
                                                      split <;> omega
theorem best_ok {l : List UInt8} (hv : vld l = true) : okE (bestK l) l := by
  refine ⟨hv, fun c hc => ?_⟩
  have h0 : 0 ≤ c.1 := by
    unfold vld at hv
    exact of_decide_eq_true (List.all_eq_true.1 hv c hc)
  have hf : Chs.fix0 c.1 = c.1 := by unfold Chs.fix0; rw [if_neg (by omega)]
  unfold bestK encK
  by_cases h1 : (chars l).any (fun c => decide (255 < Chs.fix0 c.1)) = true
  · rw [if_pos h1]; exact ⟨_, rfl⟩
  · rw [if_neg h1]
    have h1' : c.1 ≤ 255 := by
      have := mt (List.any_eq_true.2) h1
      have h2 : ¬ 255 < Chs.fix0 c.1 := fun e => this ⟨c, hc, decide_eq_true e⟩
      omega
    by_cases h2 : (chars l).any (fun c => decide (127 < Chs.fix0 c.1)) = true
    · rw [if_pos h2]
      refine ⟨[ub c.1], ?_⟩
      show Chs.encS 256 c.1 = _
      unfold Chs.encS; rw [if_pos (by omega)]
    · rw [if_neg h2]
      have h3 : c.1 ≤ 127 := by
        have := mt (List.any_eq_true.2) h2
        have h4 : ¬ 127 < Chs.fix0 c.1 := fun e => this ⟨c, hc, decide_eq_true e⟩
        omega
      refine ⟨[ub c.1], ?_⟩
      show Chs.encS 128 c.1 = _
      unfold Chs.encS; rw [if_pos (by omega)]
theorem example_eq : L_wordsExample = some true := by decide +kernel
theorem encode_big {s : List UInt8} (h : 1000 < s.length) : words_Encode s = some ([], (1, -1)) := by
  unfold words_Encode basic_Fault
  rw [if_pos (by omega), bsome]
theorem encode_mal {s : List UInt8} (h : s.length ≤ 1000) (hv : vld s = false) : words_Encode s = some ([], (5, -2)) := by
  unfold words_Encode basic_Fault utf8_ValidString
  rw [if_neg (by omega), if_pos (by omega), bsome, hv, if_neg Bool.false_ne_true, bsome]
theorem encode_own {s : List UInt8} (h : s.length ≤ 1000) (hv : vld s = true) (hp : pln s = true) : words_Encode s = some (s, (0, 0)) := by
  unfold words_Encode basic_None utf8_ValidString
  rw [if_neg (by omega), if_pos (by omega), bsome, hv, if_pos rfl, plain_eq _ (by omega), bsome, hp, if_pos rfl, bsome]
theorem encode_rep {s : List UInt8} (h : s.length ≤ 1000) (hv : vld s = true) (hp : pln s = false) : words_Encode s = some (rep (bestK s) s, (0, 0)) := by
  have hb := bestK_le s
  have h0 : s ≠ [] := by rintro rfl; revert hp; decide
  have ht := encTail (k := bestK s) (by omega) h h0 (best_ok hv)
  unfold words_Encode utf8_ValidString charset_Best
  rw [if_neg (by omega), if_pos (by omega), bsome, hv, if_pos rfl, plain_eq _ (by omega), bsome, hp, if_neg Bool.false_ne_true, bsome]
  exact ht
theorem rwords_own {s : List UInt8} (h : s.length ≤ 1000) (hp : pln s = true) : R_Words s = some s := by
  unfold R_Words
  rw [rplain_eq _ (by omega), bsome, hp, if_pos rfl]
theorem rwords_rep {s : List UInt8} (h : s.length ≤ 1000) (hv : vld s = true) (hp : pln s = false) : R_Words s = some (rep (bestK s) s) := by
  have hb := bestK_le s
  have ht := rwords_tail (k := bestK s) (by omega) h (best_ok hv)
  unfold R_Words R_Best
  rw [rplain_eq _ (by omega), bsome, hp, if_neg Bool.false_ne_true, if_pos (by omega), bsome]
  exact ht
theorem law_Encode (s : List UInt8) (hs : s.length ≤ 140737488351232) : L_WordsEncodeMatchesSpec s = some true := by
  unfold L_WordsEncodeMatchesSpec R_At R_Valid
  rw [example_eq, bsome, if_pos rfl]
  by_cases h : 1000 < s.length
  · rw [encode_big h, bsome]
    dsimp only
    rw [if_pos (by omega), bsome, if_pos ⟨rfl, rfl⟩, bsome]; rfl
  · by_cases hv : vld s = true
    · by_cases hp : pln s = true
      · rw [encode_own (by omega) hv hp, bsome]
        dsimp only
        rw [if_neg (by omega), if_pos (by omega), bsome, if_pos hv, if_pos rfl, rwords_own (by omega) hp, bsome, bsome, decide_eq_true rfl]
      · rw [encode_rep (by omega) hv ((Bool.not_eq_true _).mp hp), bsome]
        dsimp only
        rw [if_neg (by omega), if_pos (by omega), bsome, if_pos hv, if_pos rfl, rwords_rep (by omega) hv ((Bool.not_eq_true _).mp hp), bsome, bsome, decide_eq_true rfl]
    · rw [encode_mal (by omega) ((Bool.not_eq_true _).mp hv), bsome]
      dsimp only
      rw [if_neg (by omega), if_pos (by omega), bsome, if_neg hv, bsome, if_pos ⟨rfl, rfl⟩, bsome]; rfl
end Go.Ph.Wd
end
