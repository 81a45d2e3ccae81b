/-
  AaE, AbE, AcE, AdE, RqE, AeE, B64Law, Wa, Wb, Wc, Wd, We, Wf, Wg, AgE: own texts of this repository (wip/tpl, wip/plans), merged and shaken by wip/tools/pack.py.
-/
import Derived.Lib.CountLaws
import Derived.Test.YtkmjdamkifbddaaGreatDoorE4e
set_option maxRecDepth 100000
set_option linter.unusedVariables false
set_option linter.unusedSimpArgs false
section
namespace Go.Ph.Ad
open Go.Ph.Pl Go.Ph.Pf
open Go.Ph.Chs (vld lower)
abbrev Big (l : Ls) : Prop := l.length ≤ 140737488355328
abbrev Adr : Type := Ls × Ls × Ls
abbrev Itm : Type := Ls × Bool × List Adr
theorem foldI {α σ γ : Type} {L : Nat → σ → Int → Option γ} (l : List α) (F : σ → α → σ) (fin : σ → γ) (I : Nat → σ → Prop)
 (hend : ∀ m s, I l.length s → L (m + 1) s (l.length : Int) = some (fin s))
 (hstep : ∀ m s i a, l[i]? = some a → I i s → I (i + 1) (F s a) ∧ L (m + 1) s (i : Int) = L m (F s a) ((i + 1 : Nat) : Int)) :
 ∀ (d i : Nat) (s : σ) (m : Nat), l.length - i = d → i ≤ l.length → d < m → I i s → L m s (i : Int) = some (fin ((l.drop i).foldl F s)) := by
 intro d
 induction d with
 | zero =>
   intro i s m h1 h2 h3 hI
   obtain ⟨m, rfl⟩ : ∃ k, m = k + 1 := ⟨m - 1, by omega⟩
   obtain rfl : i = l.length := by omega
   rw [hend m s hI, l0Q]; rfl
 | succ d ih =>
   intro i s m h1 h2 h3 hI
   obtain ⟨m, rfl⟩ : ∃ k, m = k + 1 := ⟨m - 1, by omega⟩
   have hi : i < l.length := by omega
   obtain ⟨hI', hL⟩ := hstep m s i l[i] (List.getElem?_eq_getElem hi) hI
   rw [hL, ih (i + 1) _ m Om Om Om hI', l09 hi]; rfl
theorem foldI0 {α σ γ : Type} {L : Nat → σ → Int → Option γ} (l : List α) (F : σ → α → σ) (fin : σ → γ) (I : Nat → σ → Prop) (hl : l.length ≤ 9223372036854775807)
 (hend : ∀ m s, I l.length s → L (m + 1) s (l.length : Int) = some (fin s))
 (hstep : ∀ m s i a, l[i]? = some a → I i s → I (i + 1) (F s a) ∧ L (m + 1) s (i : Int) = L m (F s a) ((i + 1 : Nat) : Int)) (s : σ) (h0 : I 0 s) : L FU s 0 = some (fin (l.foldl F s)) := by
 have := foldI l F fin I hend hstep l.length 0 s FU Om Om (FU_gt hl) h0
 simpa using this
theorem allB {p : UInt8 → Prop} (h : ∀ n, n < 256 → p (UInt8.ofNat n)) (c : UInt8) : p c := by
 have := h c.toNat c.toNat_lt
 rwa [UInt8.ofNat_toNat] at this
theorem failed_eq (a b : Int) : Y1x (a, b) = some (!decide (a = 0)) := rfl
theorem fault_eq (a b : Int) : Y09 a b = some (a, b) := by unfold Y09; rfl
theorem none_eq : Y0F = some (0, 0) := rfl
theorem at_eq (a b : Int) : R_At a b = some (a, b) := rfl
theorem rin_eq (a b c : Int) : R_In a b c = some (decide (b ≤ a ∧ a ≤ c)) := by
 unfold R_In
 by_cases h : b ≤ a <;> simp [h]
def letB (c : UInt8) : Bool := decide (97 ≤ c.toNat ∧ c.toNat ≤ 122) || (decide (65 ≤ c.toNat ∧ c.toNat ≤ 90) || decide (48 ≤ c.toNat ∧ c.toNat ≤ 57))
def atB (c : UInt8) : Bool := letB c || ([33, 35, 36, 37, 38, 39, 42, 43, 45, 47, 61, 63, 94, 95, 96, 123, 124, 125, 126] : Ls).any (fun x => decide (x = c))
def doB (c : UInt8) : Bool := letB c || decide (c = 45)
def prB (c : UInt8) : Bool := decide (32 ≤ c.toNat ∧ c.toNat ≤ 126)
theorem letter_eq (c : UInt8) : Y1L c = some (letB c) := by
 refine allB (p := fun c => Y1L c = some (letB c)) ?_ c
 decide +kernel
theorem rletter_eq (c : UInt8) : Y41 c = some (letB c) := by
 refine allB (p := fun c => Y41 c = some (letB c)) ?_ c
 decide +kernel
theorem atom_eq (c : UInt8) : Y23 c = some (atB c) := by
 refine allB (p := fun c => Y23 c = some (atB c)) ?_ c
 decide +kernel
theorem ratom_eq (c : UInt8) : Y2V c = some (atB c) := by
 refine allB (p := fun c => Y2V c = some (atB c)) ?_ c
 decide +kernel
theorem domB_eq (c : UInt8) : Y27 c = some (doB c) := by
 refine allB (p := fun c => Y27 c = some (doB c)) ?_ c
 decide +kernel
theorem locB_eq (c : UInt8) : Y2i c = some (prB c) := by
 refine allB (p := fun c => Y2i c = some (prB c)) ?_ c
 decide +kernel
theorem atB_doB (c : UInt8) : (atB c && (letB c || decide (c = 45))) = doB c := by
 refine allB (p := fun c => (atB c && (letB c || decide (c = 45))) = doB c) ?_ c
 decide +kernel
theorem all_eq (l : Ls) (hl : Big l) (g : UInt8 → Option Bool) (p : UInt8 → Bool) (hg : ∀ c, g c = some (p c)) : Y31 l g = some (l.all p) := by
 unfold Y31
 rw [scan0 (L := Y22 l g) (l := l) (p := fun c => !p c) (stop := .inl ()) (r := .inr false) (FU_gt Om) (fun m => by rw [Y22, if_neg Om]) (fun m i h => by
  rw [Y22, if_pos Om, idx_nat, List.getElem?_eq_getElem h, chk_succ (by have := hl; omega)]
  simp only [bsome, hg]
  cases p l[i] <;> simp)]
 simp only [bsome]
 rw [List.all_eq_not_any_not]
 cases l.any (fun c => !p c) <;> simp
def locT (l : Ls) : Bool := l.all prB && decide (1 ≤ l.length ∧ l.length ≤ 60)
theorem local_eq (l : Ls) (hl : Big l) : Y25 l = some (locT l) := by
 unfold Y25 locT
 by_cases h : l = []
 · subst h; rfl
 have hpos : 1 ≤ l.length := by cases l <;> simp_all
 rw [if_neg h]
 by_cases h2 : l.length ≤ 60
 · rw [if_pos Om, all_eq l hl _ prB locB_eq]
   simp [hpos, h2]
 rw [if_neg Om]
 simp [h2]
theorem rlocal_eq (l : Ls) (hl : Big l) : Y3k l = some (locT l) := by
 unfold Y3k locT
 rw [scan0 (L := Y1z l) (l := l) (p := fun c => !prB c) (stop := .inl ()) (r := .inr false) (FU_gt Om) (fun m => by rw [Y1z, if_neg Om]) (fun m i h => by
  rw [Y1z, if_pos Om, idx_nat, List.getElem?_eq_getElem h, chk_succ (by have := hl; omega)]
  simp only [bsome, rin_eq]
  have hp : decide ((32 : Int) ≤ (l[i].toNat : Int) ∧ (l[i].toNat : Int) ≤ 126) = prB l[i] := by
   unfold prB
   exact decide_eq_decide.2 ⟨fun h => by omega, fun h => by omega⟩
  rw [hp]
  cases prB l[i] <;> simp)]
 simp only [bsome]
 rw [List.all_eq_not_any_not]
 cases l.any (fun c => !prB c)
 · simp only [rin_eq, bsome, l0k, if_false, Bool.not_false, l1S]
   exact congrArg some (decide_eq_decide.2 ⟨fun h => by omega, fun h => by omega⟩)
 simp
def dispF (l : Ls) : Int := if 500 < l.length then 1 else if vld l = true then 0 else 5
theorem disp_eq (l : Ls) : Y20 l = some (dispF l) := by
 unfold Y20 dispF Y12
 by_cases h : 500 < l.length
 · rw [if_pos Om, if_pos h]
 rw [if_neg Om, if_neg h, if_pos Om]
 simp only [bsome]
 cases vld l <;> rfl
theorem rdisp_eq (l : Ls) : Y1Q l = some (dispF l) := by
 unfold Y1Q dispF R_Valid
 by_cases h : 500 < l.length
 · rw [if_pos Om, if_pos h]
 rw [if_neg Om, if_neg h, if_pos Om]
 simp only [bsome]
 cases vld l <;> rfl
def nc (c x : UInt8) : Bool := !decide (x = c)
theorem index_c (c : UInt8) : ∀ (l : Ls), Lib.index l [c] = if c ∈ l then ((l.takeWhile (nc c)).length : Int) else -1
 | [] => rfl
 | x :: l => by
   rw [Lib.index]
   by_cases h : x = c
   · subst h
     rw [if_pos (by simp [List.isPrefixOf]), if_pos Sm, l0E (by simp [nc])]; rfl
   have hn : nc c x = true := by unfold nc; rw [decide_eq_false h]; rfl
   have h' : ¬ c = x := fun e => h e.symm
   rw [if_neg (by simp [List.isPrefixOf, h']), index_c c l, l0x hn]
   by_cases hm : c ∈ l
   · rw [if_pos hm, if_neg (by first | (simp; done) | (simp; omega)), if_pos (by simp [hm]), l02]; omega
   rw [if_neg hm, if_pos Dc, if_neg (by simp [hm, h'])]
def spl (c : UInt8) : Ls → List Ls
 | [] => [[]]
 | x :: l => if x = c then [] :: spl c l else match spl c l with
   | p :: r => (x :: p) :: r
   | [] => [[x]]
theorem spl_ne (c : UInt8) (l : Ls) : spl c l ≠ [] := by
 cases l with
 | nil => simp [spl]
 | cons x l =>
   rw [spl]
   split
   · simp
   split <;> simp
theorem spl_not {c : UInt8} : ∀ {l : Ls}, c ∉ l → spl c l = [l]
 | [], _ => rfl
 | x :: l, h => by
   rw [spl, if_neg (fun e => h (by simp [e])), spl_not (fun e => h (by simp [e]))]
theorem spl_mem {c : UInt8} : ∀ {l : Ls}, c ∈ l → spl c l = l.takeWhile (nc c) :: spl c (l.drop ((l.takeWhile (nc c)).length + 1))
 | [], h => by simp at h
 | x :: l, h => by
   by_cases hx : x = c
   · subst hx
     rw [spl, if_pos rfl, l0E (by simp [nc])]; rfl
   have hn : nc c x = true := by unfold nc; rw [decide_eq_false hx]; rfl
   have hl : c ∈ l := by rcases List.mem_cons.1 h with e | e; exact absurd e.symm hx; exact e
   rw [spl, if_neg hx, spl_mem hl, l0x hn]
   simp
theorem tw_lt {c : UInt8} : ∀ {l : Ls}, c ∈ l → (l.takeWhile (nc c)).length < l.length
 | [], h => by simp at h
 | x :: l, h => by
   by_cases hx : x = c
   · subst hx
     rw [l0E (by simp [nc])]; simp
   have hn : nc c x = true := by unfold nc; rw [decide_eq_false hx]; rfl
   have hl : c ∈ l := by rcases List.mem_cons.1 h with e | e; exact absurd e.symm hx; exact e
   rw [l0x hn]
   have := tw_lt hl
   simp; omega
theorem take_tw (c : UInt8) : ∀ (l : Ls), l.take (l.takeWhile (nc c)).length = l.takeWhile (nc c)
 | [] => rfl
 | x :: l => by
   by_cases hn : nc c x = true
   · rw [l0x hn, l02, l0B, take_tw c l]
   rw [l0E hn]; rfl
theorem split_L2 {σ : Type} (Y : σ → Ls → Option (σ × Bool)) (c : UInt8) : ∀ (n : Nat) (s : Ls) (st : σ) (m : Nat), s.length ≤ n → n < m → s.length < 4294967281 →
 ((Y0q Y [c] 0 m s st).bind fun o => (match o with | .inl (s24, s25) => (Y s25 s24).bind fun (s41, b42) => some s41 | .inr r44 => some r44)) = runL Y (spl c s) st := by
 intro n
 induction n with
 | zero =>
   intro s st m h1 h2 h3
   obtain ⟨m, rfl⟩ : ∃ k, m = k + 1 := ⟨m - 1, by omega⟩
   obtain rfl : s = [] := l0b Om
   rw [Y0q]
   unfold Y1K
   have hi : Lib.index ([] : Ls) [c] = -1 := by rw [index_c, if_neg Sm]
   rw [if_pos Dc, bsome, hi, if_pos Dc, bsome, spl, runL]
   dsimp only
   cases Y st [] with
   | none => rfl
   | some r => obtain ⟨a, b⟩ := r; cases b <;> rfl
 | succ n ih =>
   intro s st m h1 h2 h3
   obtain ⟨m, rfl⟩ : ∃ k, m = k + 1 := ⟨m - 1, by omega⟩
   rw [Y0q]
   unfold Y1K
   rw [if_pos h3, bsome, index_c]
   by_cases hm : c ∈ s
   · have hlt := tw_lt hm
     rw [if_pos hm, if_neg Om, show ((s.takeWhile (nc c)).length : Int) + 0 = (((s.takeWhile (nc c)).length : Nat) : Int) by omega, chk_ok Om Om, bsome, cut_to rfl Om, bsome, take_tw, spl_mem hm, runL]
     cases hy : Y st (s.takeWhile (nc c)) with
     | none => rfl
     | some r =>
       obtain ⟨a, b⟩ := r
       rw [bsome, bsome]
       dsimp only
       cases b with
       | false => rfl
       | true =>
         rw [if_pos rfl, if_pos rfl, show (([c] : Ls).length : Int) = ((1 : Nat) : Int) from rfl, chk_addN 1 Om, bsome, cut_from rfl Om, bsome]
         exact ih _ a m (by rw [l01]; omega) Om (by rw [l01]; omega)
   rw [if_neg hm, if_pos Dc, bsome, spl_not hm, runL]
   dsimp only
   cases Y st s with
   | none => rfl
   | some r => obtain ⟨a, b⟩ := r; cases b <;> rfl
theorem splitSeq_eq {σ : Type} (Y : σ → Ls → Option (σ × Bool)) (c : UInt8) (s : Ls) (st : σ) (hs : s.length < 4294967281) : Y1m [c] s 0 σ Y st = runL Y (spl c s) st := by
 unfold Y1m
 rw [if_neg Sm]
 exact split_L2 Y c s.length s st FU (l0h _) (FU_gt Om) hs
def good (p : UInt8 → Bool) (x : Ls) : Bool := !decide (x = []) && x.all p
theorem parts_run (g : UInt8 → Option Bool) (p : UInt8 → Bool) (hg : ∀ c, g c = some (p c)) : ∀ (l : List Ls), (∀ x ∈ l, Big x) → runL (stepY exStop (Y1F g)) l (false, 0) = some (false, if l.all (good p) = true then 0 else 1)
 | [], _ => rfl
 | x :: l, h => by
   rw [runL]
   unfold stepY
   rw [if_neg Dc]
   have hx : Y1F g (false, 0) x = some (if good p x = true then (false, 0) else (false, 1)) := by
    unfold Y1F good
    dsimp only
    by_cases hx : x = []
    · subst hx; rfl
    rw [if_neg hx, all_eq x (h x l0C) g p hg]
    simp only [bsome, hx]
    cases x.all p <;> rfl
   rw [hx, l0A]
   have ih := parts_run g p hg l (fun y hy => h y (l0y _ hy))
   cases hgx : good p x with
   | false => rfl
   | true =>
     simp only [if_true, l0K, bsome, l1S]
     exact ih
theorem spl_len (c : UInt8) : ∀ (l : Ls), ∀ x ∈ spl c l, x.length ≤ l.length
 | [], x, hx => by simp [spl] at hx; simp [hx]
 | a :: l, x, hx => by
   rw [spl] at hx
   split at hx
   · rcases List.mem_cons.1 hx with rfl | hx
     · simp
     have := spl_len c l x hx; simp; omega
   cases hs : spl c l with
   | nil => exact absurd hs (spl_ne c l)
   | cons p r =>
     rw [hs] at hx
     dsimp only at hx
     rcases List.mem_cons.1 hx with rfl | hx
     · have := spl_len c l p (by rw [hs]; exact l0C); simp; omega
     have := spl_len c l x (by rw [hs]; exact l0y _ hx); simp; omega
theorem parts_eq (s : Ls) (hs : s.length < 4294967281) (g : UInt8 → Option Bool) (p : UInt8 → Bool) (hg : ∀ c, g c = some (p c)) : Y2o s g = some ((spl 46 s).all (good p)) := by
 unfold Y2o
 rw [splitSeq_eq _ _ _ _ hs, parts_run g p hg _ (fun x hx => by have := spl_len 46 s x hx; unfold Big; omega), bsome]
 cases (spl 46 s).all (good p) <;> rfl
def dtF (p : UInt8 → Bool) : Bool → Ls → Bool
 | e, [] => !e
 | e, c :: l => if c = 46 then (if e = true then false else dtF p true l) else (if p c = true then dtF p false l else false)
theorem spl_dt (p : UInt8 → Bool) : ∀ (l : Ls) (e : Bool) (h : Ls) (t : List Ls), spl 46 l = h :: t → dtF p e l = (h.all p && ((!e || !decide (h = [])) && t.all (good p)))
 | [], e, h, t, hs => by
   simp only [spl, List.cons.injEq] at hs
   obtain ⟨rfl, rfl⟩ := hs
   cases e <;> rfl
 | c :: l, e, h, t, hs => by
   rw [spl] at hs
   rw [dtF]
   by_cases hc : c = 46
   · rw [if_pos hc] at hs
     obtain ⟨rfl, rfl⟩ := List.cons.inj hs
     rw [if_pos hc]
     cases hl : spl 46 l with
     | nil => exact absurd hl (spl_ne _ _)
     | cons a b =>
       rw [spl_dt p l true a b hl, l0A]
       cases e <;> simp [good, Bool.and_comm, Bool.and_left_comm, Bool.and_assoc]
   rw [if_neg hc] at hs
   rw [if_neg hc]
   cases hl : spl 46 l with
   | nil => exact absurd hl (spl_ne _ _)
   | cons a b =>
     rw [hl] at hs
     dsimp only at hs
     obtain ⟨rfl, rfl⟩ := List.cons.inj hs
     rw [spl_dt p l false a b hl, l0A]
     cases p c <;> simp
theorem dt_spl (p : UInt8 → Bool) (s : Ls) : (spl 46 s).all (good p) = dtF p true s := by
 cases hs : spl 46 s with
 | nil => exact absurd hs (spl_ne _ _)
 | cons h t =>
   rw [spl_dt p s true h t hs, l0A]
   unfold good
   cases h.all p <;> simp
theorem dotted_eq (s : Ls) (hs : s.length < 4294967281) : Y1T s = some (dtF atB true s) := by
 unfold Y1T
 rw [parts_eq s hs _ atB atom_eq, bsome, dt_spl]
def domT (s : Ls) : Bool := decide (s.length ≤ 60) && dtF doB true s
theorem domain_eq (s : Ls) : Y2b s = some (domT s) := by
 unfold Y2b domT
 by_cases h : s.length ≤ 60
 · rw [if_pos Om, parts_eq s Om _ doB domB_eq, dt_spl]
   simp [h]
 rw [if_neg Om]
 simp [h]
theorem rdot_L1 (s : Ls) (dom : Bool) (hs : Big s) : ∀ (k i m : Nat) (b : Bool), s.length - i ≤ k → k < m → i ≤ s.length →
 ((Y1W s dom m b (i : Int)).bind fun o27 => (match o27 with | .inl b3 => some (!b3) | .inr r26 => some r26)) = some (dtF (fun c => atB c && (!dom || (letB c || decide (c = 45)))) b (s.drop i)) := by
 intro k
 induction k with
 | zero =>
   intro i m b h1 h2 h3
   obtain ⟨m, rfl⟩ : ∃ k, m = k + 1 := ⟨m - 1, by omega⟩
   obtain rfl : i = s.length := by omega
   rw [Y1W, if_neg Om, bsome, l0Q]; rfl
 | succ k ih =>
   intro i m b h1 h2 h3
   obtain ⟨m, rfl⟩ : ∃ k, m = k + 1 := ⟨m - 1, by omega⟩
   by_cases hi : i < s.length
   · rw [Y1W, if_pos Om, idx_nat, List.getElem?_eq_getElem hi, l09 hi, dtF]
     simp only [bsome, ratom_eq, rletter_eq, chk_succ (show i + 1 ≤ 9223372036854775807 by have := hs; omega)]
     by_cases hc : s[i] = 46
     · rw [if_pos hc, if_pos hc]
       cases b with
       | true => rfl
       | false =>
         rw [if_neg Dc, if_neg Dc]
         exact ih (i + 1) m true Om Om Om
     rw [if_neg hc, if_neg hc]
     have h5 := ih (i + 1) m false Om Om Om
     cases ha : atB s[i] with
     | false => simp
     | true =>
       cases dom with
       | false => simpa using h5
       | true =>
         cases hl : letB s[i] with
         | true => simpa using h5
         | false =>
           by_cases hd : s[i] = 45
           · simpa [hd] using h5
           simp [hd]
   obtain rfl : i = s.length := by omega
   rw [Y1W, if_neg Om, bsome, l0Q]; rfl
theorem rdotted_eq (s : Ls) (hs : Big s) (dom : Bool) : Y3s s dom = some (dtF (fun c => atB c && (!dom || (letB c || decide (c = 45)))) true s) := by
 unfold Y3s
 have := rdot_L1 s dom hs s.length 0 FU true Om (FU_gt (by have := hs; omega)) Om
 exact this
theorem rdotD_eq (s : Ls) (hs : Big s) : Y3s s true = some (dtF doB true s) := by
 rw [rdotted_eq s hs]
 have : (fun c => atB c && (!true || (letB c || decide (c = 45)))) = doB := funext fun c => by rw [l1z, l1A, atB_doB]
 rw [this]
theorem rdotA_eq (s : Ls) (hs : Big s) : Y3s s false = some (dtF atB true s) := by
 rw [rdotted_eq s hs]
 have : (fun c => atB c && (!false || (letB c || decide (c = 45)))) = atB := funext fun c => by simp
 rw [this]
def addrF (a : Adr) : Int × Int := if dispF a.1 = 0 then (if locT a.2.1 = true then (if domT a.2.2 = true then (0, 0) else (10, -5)) else (10, -4)) else (dispF a.1, -3)
abbrev BigA (a : Adr) : Prop := Big a.1 ∧ Big a.2.1 ∧ Big a.2.2
theorem validate_eq (a : Adr) (h : BigA a) : Y1q (a.1, a.2.1, a.2.2) = some (addrF a) := by
 unfold Y1q addrF
 rw [disp_eq, local_eq _ h.2.1, domain_eq]
 simp only [bsome, fault_eq, none_eq]
 by_cases h1 : dispF a.1 = 0
 · rw [if_pos h1, if_pos h1]
   cases locT a.2.1
   · rfl
   cases domT a.2.2 <;> rfl
 rw [if_neg h1, if_neg h1]
theorem raddr_eq (a : Adr) (h : BigA a) : Y1X (a.1, a.2.1, a.2.2) = some (addrF a) := by
 unfold Y1X addrF domT
 simp only [rdisp_eq, rlocal_eq _ h.2.1, rdotD_eq _ h.2.2, bsome, at_eq]
 by_cases h1 : dispF a.1 = 0
 · rw [if_pos h1, if_pos h1]
   cases locT a.2.1
   · rfl
   show ((if (60 : Int) < (a.2.2.length : Int) then some true else some (!dtF doB true a.2.2)).bind fun b17 => if b17 = true then some ((10 : Int), (-5 : Int)) else some (0, 0)) = some (if (decide (a.2.2.length ≤ 60) && dtF doB true a.2.2) = true then (0, 0) else (10, -5))
   by_cases h2 : a.2.2.length ≤ 60
   · rw [if_neg Om, bsome, decide_eq_true h2, l1S]
     cases dtF doB true a.2.2 <;> rfl
   rw [if_pos Om, bsome, decide_eq_false h2]
   rfl
 rw [if_neg h1, if_neg h1]
end Go.Ph.Ad
end
section
namespace Go.Ph.Ad
open Go.Ph.Pl Go.Ph.Pf
abbrev BigI (x : Itm) : Prop := Big x.1 ∧ x.2.2.length ≤ 140737488355328 ∧ ∀ a ∈ x.2.2, BigA a
abbrev BigL (l : List Itm) : Prop := l.length ≤ 140737488355328 ∧ ∀ x ∈ l, BigI x
def memF : List Adr → Int
 | [] => 0
 | a :: l => if (addrF a).1 = 0 then memF l else (addrF a).1
def badI (x : Itm) : Bool := !decide (x.2.1 = !decide (x.1 = [])) || (!x.2.1 && !decide (x.2.2.length = 1))
def itemF (x : Itm) : Int := if dispF x.1 = 0 then (if badI x = true then 5 else memF x.2.2) else dispF x.1
theorem item_L1 (x : Itm) (h : BigI x) : ∀ (k i m : Nat), x.2.2.length - i ≤ k → k < m → i ≤ x.2.2.length →
 ((Y0Z x m (i : Int)).bind fun o26 => (match o26 with | .inl _ => some 0 | .inr r25 => some r25)) = some (memF (x.2.2.drop i)) := by
 intro k
 induction k with
 | zero =>
   intro i m h1 h2 h3
   obtain ⟨m, rfl⟩ : ∃ k, m = k + 1 := ⟨m - 1, by omega⟩
   obtain rfl : i = x.2.2.length := by omega
   rw [Y0Z, if_neg Om, bsome, l0Q]; rfl
 | succ k ih =>
   intro i m h1 h2 h3
   obtain ⟨m, rfl⟩ : ∃ k, m = k + 1 := ⟨m - 1, by omega⟩
   by_cases hi : i < x.2.2.length
   · rw [Y0Z, if_pos Om, idx_nat, List.getElem?_eq_getElem hi, l09 hi, memF, bsome]
     rw [validate_eq _ (h.2.2 _ (l0L hi)), bsome]
     have h5 := ih (i + 1) m Om Om Om
     obtain ⟨a, b, hab⟩ : ∃ a b, addrF x.2.2[i] = (a, b) := ⟨_, _, rfl⟩
     rw [hab]
     dsimp only
     rw [failed_eq, bsome]
     by_cases ha : a = 0
     · rw [if_neg (by simp [ha]), if_pos ha, chk_succ (by have := h.2.1; omega), bsome]
       exact h5
     rw [if_pos (by simp [ha]), if_neg ha]; rfl
   obtain rfl : i = x.2.2.length := by omega
   rw [Y0Z, if_neg Om, bsome, l0Q]; rfl
theorem item_eq (x : Itm) (h : BigI x) : Y32 (x.1, x.2.1, x.2.2) = some (itemF x) := by
 unfold Y32 itemF
 rw [disp_eq, bsome]
 by_cases h1 : dispF x.1 = 0
 · rw [if_pos h1, if_pos h1]
   have hb : (if x.2.1 = (!decide (x.1 = [])) then (if x.2.1 = true then some false else some (!decide ((x.2.2.length : Int) = (1 : Int)))) else some true) = some (badI x) := by
    unfold badI
    have hd : decide ((x.2.2.length : Int) = 1) = decide (x.2.2.length = 1) := decide_eq_decide.2 ⟨fun h => by omega, fun h => by omega⟩
    rw [hd]
    by_cases h2 : x.2.1 = !decide (x.1 = [])
    · rw [if_pos h2, decide_eq_true h2]
      cases x.2.1 <;> rfl
    rw [if_neg h2, decide_eq_false h2]; rfl
   rw [hb, bsome]
   cases badI x with
   | true => rfl
   | false =>
     rw [if_neg Dc, if_neg Dc]
     exact item_L1 x h x.2.2.length 0 FU Om (FU_gt (by have := h.2.1; omega)) Om
 rw [if_neg h1, if_neg h1]
theorem ritem_L3 (n : Int) (x : Itm) (h : BigI x) (c d : Int) : ∀ (k i m : Nat), x.2.2.length - i ≤ k → k < m → i ≤ x.2.2.length →
 Y0L n x m c d (i : Int) = some (if memF (x.2.2.drop i) = 0 then .inl (c, d) else .inr (memF (x.2.2.drop i), n)) := by
 intro k
 induction k with
 | zero =>
   intro i m h1 h2 h3
   obtain ⟨m, rfl⟩ : ∃ k, m = k + 1 := ⟨m - 1, by omega⟩
   obtain rfl : i = x.2.2.length := by omega
   rw [Y0L, if_neg Om, l0Q]; rfl
 | succ k ih =>
   intro i m h1 h2 h3
   obtain ⟨m, rfl⟩ : ∃ k, m = k + 1 := ⟨m - 1, by omega⟩
   by_cases hi : i < x.2.2.length
   · rw [Y0L, if_pos Om, idx_nat, List.getElem?_eq_getElem hi, l09 hi, memF, bsome]
     rw [raddr_eq _ (h.2.2 _ (l0L hi)), bsome]
     have h5 := ih (i + 1) m Om Om Om
     obtain ⟨a, b, hab⟩ : ∃ a b, addrF x.2.2[i] = (a, b) := ⟨_, _, rfl⟩
     rw [hab]
     dsimp only
     by_cases ha : a = 0
     · rw [if_pos ha, chk_succ (by have := h.2.1; omega), bsome]
       simp only [if_pos ha]
       exact h5
     rw [if_neg ha, at_eq, bsome]
     simp only [if_neg ha]
   obtain rfl : i = x.2.2.length := by omega
   rw [Y0L, if_neg Om, l0Q]; rfl
def listF : Nat → List Itm → Int × Int
 | _, [] => (0, 0)
 | i, x :: l => if itemF x = 0 then listF (i + 1) l else (itemF x, (i : Int))
def sumW (l : List Itm) : Int := l.foldl (fun n x => IntKind.i64.wrap (n + (x.2.2.length : Int))) 0
def itemsF (l : List Itm) : Int × Int := if 60 < l.length ∨ 60 < sumW l then (2, -1) else listF 0 l
theorem check_L1 (l : List Itm) (h : l.length ≤ 140737488355328) : Y0M l FU 0 0 = some (sumW l) := by
 refine foldI0 (L := Y0M l) l (fun n x => IntKind.i64.wrap (n + (x.2.2.length : Int))) id (fun _ _ => True) Om (fun m s _ => ?_) (fun m s i a ha _ => ⟨trivial, ?_⟩) 0 trivial
 · rw [Y0M, if_neg Om]; rfl
 have hi := (List.getElem?_eq_some_iff.1 ha).1
 rw [Y0M, if_pos Om, idx_nat, ha, bsome, chk_succ Om, bsome]
theorem rcheck_L1 (l : List Itm) (h : l.length ≤ 140737488355328) : Y10 l FU 0 0 = some (sumW l) := by
 refine foldI0 (L := Y10 l) l (fun n x => IntKind.i64.wrap (n + (x.2.2.length : Int))) id (fun _ _ => True) Om (fun m s _ => ?_) (fun m s i a ha _ => ⟨trivial, ?_⟩) 0 trivial
 · rw [Y10, if_neg Om]; rfl
 have hi := (List.getElem?_eq_some_iff.1 ha).1
 rw [Y10, if_pos Om, idx_nat, ha, bsome, chk_succ Om, bsome]
theorem check_L2 (l : List Itm) (h : BigL l) : ∀ (k i m : Nat) (c d : Int), l.length - i ≤ k → k < m → i ≤ l.length →
 ((Y0N l m c d (i : Int)).bind fun o43 => (match o43 with | .inl (n23, n24) => (Y0F).bind fun (n39, n40) => some (n39, n40) | .inr r42 => some r42)) = some (listF i (l.drop i)) := by
 intro k
 induction k with
 | zero =>
   intro i m c d h1 h2 h3
   obtain ⟨m, rfl⟩ : ∃ k, m = k + 1 := ⟨m - 1, by omega⟩
   obtain rfl : i = l.length := by omega
   rw [Y0N, if_neg Om, bsome, l0Q]; rfl
 | succ k ih =>
   intro i m c d h1 h2 h3
   obtain ⟨m, rfl⟩ : ∃ k, m = k + 1 := ⟨m - 1, by omega⟩
   by_cases hi : i < l.length
   · rw [Y0N, if_pos Om, idx_nat, List.getElem?_eq_getElem hi, l09 hi, listF, bsome]
     rw [item_eq _ (h.2 _ (l0L hi)), bsome]
     by_cases ha : itemF l[i] = 0
     · rw [if_pos ha, if_pos ha, chk_succ (by have := h.1; omega), bsome]
       exact ih (i + 1) m c d Om Om Om
     rw [if_neg ha, if_neg ha, fault_eq, bsome]; rfl
   obtain rfl : i = l.length := by omega
   rw [Y0N, if_neg Om, bsome, l0Q]; rfl
theorem rcheck_L2 (l : List Itm) (h : BigL l) : ∀ (k i m : Nat) (c d : Int), l.length - i ≤ k → k < m → i ≤ l.length →
 ((Y11 l m c d (i : Int)).bind fun o77 => (match o77 with | .inl (n23, n24) => some ((0 : Int), (0 : Int)) | .inr r76 => some r76)) = some (listF i (l.drop i)) := by
 intro k
 induction k with
 | zero =>
   intro i m c d h1 h2 h3
   obtain ⟨m, rfl⟩ : ∃ k, m = k + 1 := ⟨m - 1, by omega⟩
   obtain rfl : i = l.length := by omega
   rw [Y11, if_neg Om, bsome, l0Q]; rfl
 | succ k ih =>
   intro i m c d h1 h2 h3
   obtain ⟨m, rfl⟩ : ∃ k, m = k + 1 := ⟨m - 1, by omega⟩
   by_cases hi : i < l.length
   · have hB := h.2 _ (l0L hi)
     have h5 := ih (i + 1) m c d Om Om Om
     rw [Y11, if_pos Om, idx_nat, List.getElem?_eq_getElem hi, l09 hi, listF, bsome]
     obtain ⟨x, hx⟩ : ∃ x, l[i] = x := ⟨_, rfl⟩
     rw [hx] at hB ⊢
     have hb : (if x.2.1 = true then (if x.1 = [] then some true else (if x.2.1 = true then some false else (if x.1 = [] then some (!decide ((x.2.2.length : Int) = (1 : Int))) else some true))) else (if x.2.1 = true then some false else (if x.1 = [] then some (!decide ((x.2.2.length : Int) = (1 : Int))) else some true))) = some (badI x) := by
      unfold badI
      have hd : decide ((x.2.2.length : Int) = 1) = decide (x.2.2.length = 1) := decide_eq_decide.2 ⟨fun h => by omega, fun h => by omega⟩
      rw [hd]
      by_cases he : x.1 = [] <;> cases x.2.1 <;> simp [he]
     unfold itemF
     rw [rdisp_eq, bsome]
     by_cases h1 : dispF x.1 = 0
     · rw [if_pos h1, hb, bsome]
       simp only [if_pos h1]
       have h6 : Y0L (i : Int) x FU c d 0 = some (if memF x.2.2 = 0 then .inl (c, d) else .inr (memF x.2.2, (i : Int))) := ritem_L3 (i : Int) x hB c d x.2.2.length 0 FU Om (FU_gt (by have := hB.2.1; omega)) Om
       cases badI x with
       | true => rfl
       | false =>
         simp only [l0k, if_false, h6, bsome]
         by_cases hm : memF x.2.2 = 0
         · simp only [if_pos hm]
           rw [chk_succ (by have := h.1; omega), bsome]
           exact h5
         simp only [if_neg hm, bsome]
     rw [if_neg h1]
     simp only [if_neg h1, rdisp_eq, bsome, at_eq]
   obtain rfl : i = l.length := by omega
   rw [Y11, if_neg Om, bsome, l0Q]; rfl
theorem check_eq (l : List Itm) (h : BigL l) : Y1P l = some (itemsF l) := by
 unfold Y1P itemsF
 rw [check_L1 l h.1, bsome]
 have h5 := check_L2 l h l.length 0 FU 0 0 Om (FU_gt (by have := h.1; omega)) Om
 by_cases h1 : 60 < l.length
 · rw [if_pos Om, bsome, if_pos rfl, if_pos (.inl h1)]; rfl
 rw [if_neg Om, bsome]
 by_cases h2 : 60 < sumW l
 · rw [decide_eq_true h2, if_pos rfl, if_pos (.inr h2)]; rfl
 rw [decide_eq_false h2, if_neg Dc, if_neg (by intro h; rcases h with h | h; exact h1 h; exact h2 h)]
 exact h5
theorem rcheck_eq (l : List Itm) (h : BigL l) : Y24 l = some (itemsF l) := by
 unfold Y24 itemsF
 rw [rcheck_L1 l h.1, bsome]
 have h5 := rcheck_L2 l h l.length 0 FU 0 0 Om (FU_gt (by have := h.1; omega)) Om
 by_cases h1 : 60 < l.length
 · rw [if_pos Om, bsome, if_pos rfl, if_pos (.inl h1)]; rfl
 rw [if_neg Om, bsome]
 by_cases h2 : 60 < sumW l
 · rw [decide_eq_true h2, if_pos rfl, if_pos (.inr h2)]; rfl
 rw [decide_eq_false h2, if_neg Dc, if_neg (by intro h; rcases h with h | h; exact h1 h; exact h2 h)]
 exact h5
def sumN (l : List Itm) : Nat := (l.map fun x => x.2.2.length).sum
theorem wrap_ok {a : Int} (h1 : -9223372036854775808 ≤ a) (h2 : a ≤ 9223372036854775807) : IntKind.i64.wrap a = a := by
 simp [IntKind.wrap, IntKind.bits, IntKind.signed]; omega
theorem sumW_go (B : Nat) : ∀ (l : List Itm) (n : Nat), (∀ x ∈ l, x.2.2.length ≤ B) → l.length * B + n ≤ 9223372036854775807 →
 l.foldl (fun n x => IntKind.i64.wrap (n + (x.2.2.length : Int))) (n : Int) = ((n + sumN l : Nat) : Int) := by
 intro l
 induction l with
 | nil => intro n _ _; rfl
 | cons x l ih =>
   intro n h hb
   have hx := h x l0C
   rw [l02, l1o, Nat.one_mul] at hb
   have hs : sumN (x :: l) = x.2.2.length + sumN l := by unfold sumN; rw [l0f, List.sum_cons]
   rw [l0J, ← Int.natCast_add, wrap_ok Om Om, ih (n + x.2.2.length) (fun y hy => h y (l0y _ hy)) Om, hs, l1y]
theorem bigA_of {a : Adr} (h : a.1.length ≤ 140737488351232 ∧ a.2.1.length ≤ 140737488351232 ∧ a.2.2.length ≤ 140737488351232) : BigA a := ⟨l0W h.1 Dc, l0W h.2.1 Dc, l0W h.2.2 Dc⟩
theorem bigL_of {l : List Itm} (h : l.length ≤ 140737488351232 ∧ ∀ x ∈ l, x.1.length ≤ 140737488351232 ∧ x.2.2.length ≤ 140737488351232 ∧ ∀ a ∈ x.2.2, (a.1.length ≤ 140737488351232 ∧ a.2.1.length ≤ 140737488351232 ∧ a.2.2.length ≤ 140737488351232)) : BigL l :=
 ⟨l0W h.1 Dc, fun x hx => ⟨l0W (h.2 x hx).1 Dc, l0W (h.2 x hx).2.1 Dc, fun a ha => bigA_of ((h.2 x hx).2.2 a ha)⟩⟩
theorem ex_law : Y0O = some true := by decide +kernel
end Go.Ph.Ad
end
section
namespace Go.Ph.Ad
open Go.Ph.Pl Go.Ph.Pf
def cmtF : Nat → Ls → Option Ls
 | _, [] => none
 | d, [c] => if c = 41 ∧ d = 1 then some [] else none
 | d, c :: x :: l => if c = 40 then cmtF (d + 1) (x :: l) else if c = 41 then (if d = 1 then some (x :: l) else cmtF (d - 1) (x :: l)) else if c = 92 then cmtF d l else cmtF d (x :: l)
def blB (c : UInt8) : Bool := decide (c = 32) || decide (c = 9)
def skF : Nat → Ls → Option Ls
 | 0, _ => none
 | _ + 1, [] => some []
 | n + 1, c :: l => if blB c = true then skF n l else if c = 40 then (cmtF 1 l).bind (skF n) else some (c :: l)
def sk (l : Ls) : Option Ls := skF (l.length + 1) l
def waB (c : UInt8) : Bool := atB c || decide (c = 46)
end Go.Ph.Ad
end
section
namespace Go.Ph.Ad
open Go.Ph.Pl Go.Ph.Pf
end Go.Ph.Ad
end
section
namespace Go.Ph.Ad
open Go.Ph.Pl Go.Ph.Pf
theorem foldl_app {α β : Type} (f : α → List β) : ∀ (l : List α) (o : List β), l.foldl (fun o a => o ++ f a) o = o ++ l.flatMap f
 | [], o => by simp
 | a :: l, o => by rw [l0J, foldl_app f l]; simp
def esc (c : UInt8) : Option Ls := if c = 34 then some [92, 34] else if c = 92 then some [92, 92] else none
def q1 (c : UInt8) : Ls := (esc c).getD [c]
def qt (p : Ls) : Ls := p.flatMap q1
def cnt (p : Ls) : Nat := p.countP fun c => (esc c).isSome
theorem tab_at (c : UInt8) : idxO (tabk 2) (c.toNat : Int) = some (esc c) := by
 refine allB (p := fun c => idxO (tabk 2) (c.toNat : Int) = some (esc c)) ?_ c
 decide +kernel
theorem esc_two {c : UInt8} {s : Ls} (h : esc c = some s) : s.length = 2 := by
 unfold esc at h
 split at h
 · cases h; rfl
 split at h
 · cases h; rfl
 cases h
theorem qt_cons (c : UInt8) (p : Ls) : qt (c :: p) = q1 c ++ qt p := rfl
theorem qt_len : ∀ p : Ls, (qt p).length = p.length + cnt p
 | [] => rfl
 | c :: p => by
   rw [qt_cons, l00, qt_len p, l02]
   unfold cnt q1
   rw [l1G]
   cases h : esc c with
   | none => simp; omega
   | some s => have := esc_two h; simp; omega
theorem qt_id : ∀ p : Ls, cnt p = 0 → qt p = p
 | [], h => rfl
 | c :: p, h => by
   unfold cnt at h
   rw [l1G] at h
   have h2 := qt_id p (by unfold cnt; omega)
   rw [qt_cons, h2]
   unfold q1
   cases h3 : esc c with
   | none => rfl
   | some s => rw [h3] at h; simp at h
theorem cnt_split : ∀ p : Ls, cnt p = (p.countP fun c => decide (([34] : Ls) = [c])) + (p.countP fun c => decide (([92] : Ls) = [c]))
 | [] => rfl
 | c :: p => by
   have := cnt_split p
   unfold cnt at this ⊢
   rw [l1G, l1G, l1G, this]
   unfold esc
   by_cases h1 : c = 34
   · subst h1; simp; omega
   have h1' : ¬ (34 : UInt8) = c := fun e => h1 e.symm
   by_cases h2 : c = 92
   · subst h2; simp; omega
   have h2' : ¬ (92 : UInt8) = c := fun e => h2 e.symm
   simp [h1, h2, h1', h2']
theorem rep_L1 (p : Ls) (hp : p.length ≤ 1000) : Y00 (tabk 2, trk 2) p FU (p.length : Int) false 0 = some (((p.length + cnt p : Nat) : Int), decide (cnt p ≠ 0)) := by
 rw [cnt_split]
 have c1 : (p.countP fun c => decide (([34] : Ls) = [c])) ≤ p.length := l1L
 have c2 : (p.countP fun c => decide (([92] : Ls) = [c])) ≤ p.length := l1L
 have k1 : Y1t p [34] = some ((p.countP fun c => decide (([34] : Ls) = [c]) : Nat) : Int) := by unfold Y1t; rw [if_pos ⟨rfl, by omega⟩]
 have k2 : Y1t p [92] = some ((p.countP fun c => decide (([92] : Ls) = [c]) : Nat) : Int) := by unfold Y1t; rw [if_pos ⟨rfl, by omega⟩]
 generalize (p.countP fun c => decide (([34] : Ls) = [c])) = a at *
 generalize (p.countP fun c => decide (([92] : Ls) = [c])) = b at *
 have t34 : idxO (tabk 2) ((34 : UInt8).toNat : Int) = some (some [92, 34]) := tab_at 34
 have t92 : idxO (tabk 2) ((92 : UInt8).toNat : Int) = some (some [92, 92]) := tab_at 92
 have e0 : idx (trk 2) 0 = some [34] := rfl
 have e1 : idx (trk 2) 1 = some [92] := rfl
 have l2 : ((trk 2).length : Int) = 2 := rfl
 have i34 : idx ([34] : Ls) 0 = some 34 := rfl
 have i92 : idx ([92] : Ls) 0 = some 92 := rfl
 have g2 : chk (((Option.getD (some ([92, 34] : Ls)) []).length : Int) - 1) = some 1 := rfl
 have g3 : chk (((Option.getD (some ([92, 92] : Ls)) []).length : Int) - 1) = some 1 := rfl
 have hend : ∀ m x y, Y00 (tabk 2, trk 2) p (m + 1) x y 2 = some (x, y) := fun m x y => by
  rw [Y00]
  dsimp only
  rw [l2, if_neg Dc]
 have h1 : ∀ m (x : Nat) y, x ≤ 3000 → Y00 (tabk 2, trk 2) p (m + 1 + 1) (x : Int) y 1 = some (((x + b : Nat) : Int), if b = 0 then y else true) := fun m x y hx => by
  rw [Y00]
  dsimp only
  rw [l2, if_pos Dc, e1, bsome, k2, bsome]
  by_cases hb : b = 0
  · subst hb
    rw [if_pos rfl, show chk ((1 : Int) + 1) = some 2 from rfl, bsome, hend]; rfl
  rw [if_neg Om, i92, bsome, t92, bsome, g3, bsome, chk_ok Om Om, bsome, chk_ok Om Om, bsome, show chk ((1 : Int) + 1) = some 2 from rfl, bsome, hend, if_neg hb, show ((x : Int) + (b : Int) * 1) = ((x + b : Nat) : Int) by omega]
 obtain ⟨K, hK⟩ : ∃ K, FU = K + 1 + 1 + 1 := ⟨18446744073709551613, rfl⟩
 rw [hK, Y00]
 dsimp only
 rw [l2, if_pos Dc, e0, bsome, k1, bsome]
 by_cases ha : a = 0
 · subst ha
   rw [if_pos (show ((0 : Nat) : Int) = 0 from rfl), show chk ((0 : Int) + 1) = some 1 from rfl, bsome, h1 _ _ _ Om, l0v]
   by_cases hb : b = 0
   · subst hb; rfl
   rw [if_neg hb, decide_eq_true hb]
 rw [if_neg Om, i34, bsome, t34, bsome, g2, bsome, chk_ok Om Om, bsome, chk_ok Om Om, bsome, show chk ((0 : Int) + 1) = some 1 from rfl, bsome, show ((p.length : Int) + (a : Int) * 1) = ((p.length + a : Nat) : Int) by omega, h1 _ _ _ Om, decide_eq_true Om, ite_self, l1y]
theorem rep_L2 (p : Ls) (hp : p.length ≤ 1000) : Y01 (tabk 2, trk 2) p FU (p.length : Int) false 0 = some (((p.length + cnt p : Nat) : Int), decide (cnt p ≠ 0)) := by
 have hf : ∀ (l : Ls) (a : Nat), l.foldl (fun (s : Nat) c => if (esc c).isSome = true then s + 1 else s) a = a + cnt l := by
  intro l
  induction l with
  | nil => intro a; rfl
  | cons c l ih =>
    intro a
    rw [l0J, ih]
    unfold cnt
    rw [l1G]
    split <;> omega
 have := foldI0 (L := fun m (s : Nat) i => Y01 (tabk 2, trk 2) p m ((p.length + s : Nat) : Int) (decide (s ≠ 0)) i) p (fun (s : Nat) c => if (esc c).isSome = true then s + 1 else s) (fun s => (((p.length + s : Nat) : Int), decide (s ≠ 0))) (fun i s => s ≤ i) Om ?_ ?_ 0 Om
 · rw [hf, l0v] at this
   exact this
 · intro m s hs
   rw [Y01, if_neg Om]
 intro m s i x hx hs
 have hi := (List.getElem?_eq_some_iff.1 hx).1
 refine ⟨by split <;> omega, ?_⟩
 rw [Y01, if_pos Om, idx_nat, hx, bsome, tab_at, bsome]
 by_cases h : (esc x).isSome = true
 · obtain ⟨s2, hs2⟩ := Option.isSome_iff_exists.1 h
   have := esc_two hs2
   rw [if_pos h, if_pos h, bsome, hs2, l1D, this, show chk (((2 : Nat) : Int) - 1) = some 1 from rfl, bsome, chk_ok Om Om, bsome, chk_succ Om, bsome, decide_eq_true (show s + 1 ≠ 0 by omega)]
   rfl
 rw [if_neg h, if_neg h, chk_succ Om, bsome]
theorem rep_L3 (p : Ls) (hp : p.length ≤ 1000) : ∀ (d i m : Nat) (A : Ls), p.length - i ≤ d → d < m → i ≤ p.length → A.length ≤ 2 * i →
 Y02 (tabk 2, trk 2) p m (A ++ List.replicate (qt (p.drop i)).length 0) (A.length : Int) (i : Int) = some (A ++ qt (p.drop i)) := by
 intro d
 induction d with
 | zero =>
   intro i m A h1 h2 h3 hA
   obtain ⟨m, rfl⟩ : ∃ k, m = k + 1 := ⟨m - 1, by omega⟩
   rw [Y02, if_neg Om, l08 Om]; rfl
 | succ d ih =>
   intro i m A h1 h2 h3 hA
   obtain ⟨m, rfl⟩ : ∃ k, m = k + 1 := ⟨m - 1, by omega⟩
   by_cases hi : i < p.length
   · rw [Y02, if_pos Om, idx_nat, List.getElem?_eq_getElem hi, bsome, tab_at, bsome, l09 hi, qt_cons]
     unfold q1
     cases h : esc p[i] with
     | some s =>
       have hs := esc_two h
       have ht := tab_at p[i]
       rw [l1J, if_pos rfl, frm_ok Sm, bsome, bsome, l1D, l1D]
       have hc : cpyO (A ++ List.replicate (s ++ qt (p.drop (i + 1))).length 0) (A.length : Int) s = some ((A ++ s) ++ List.replicate (qt (p.drop (i + 1))).length 0, 2) := by
        unfold cpyO
        rw [l0t, l1q]
        have e1 : s.take ((A ++ List.replicate (s ++ qt (p.drop (i + 1))).length (0 : UInt8)).length - A.length) = s := l0r (by rw [l00, l0R, l00]; omega)
        rw [e1, hs, List.drop_append, l08 Om, l06, List.drop_replicate, show (s ++ qt (p.drop (i + 1))).length - (A.length + 2 - A.length) = (qt (p.drop (i + 1))).length by rw [l00]; omega]
        rfl
       rw [hc, bsome]
       dsimp only
       rw [chk_ok Om Om, bsome, chk_succ Om, bsome]
       have := ih (i + 1) m (A ++ s) Om Om Om (by simp; omega)
       rw [show ((A ++ s).length : Int) = (A.length : Int) + 2 by simp; omega] at this
       rw [this, l0d]
     | none =>
       rw [l1p, if_neg Dc, Option.getD_none]
       have e0 : A ++ List.replicate ([p[i]] ++ qt (p.drop (i + 1))).length (0 : UInt8) = A ++ 0 :: List.replicate (qt (p.drop (i + 1))).length 0 := by
        rw [l00, l1r, l2b, List.replicate_succ]
       rw [e0, idx_nat, List.getElem?_append_right (l0h _), Nat.sub_self, List.getElem?_cons_zero, bsome, put_ok Om (by simp; omega), bsome, chk_succ Om, bsome, chk_succ Om, bsome, l0t, l1V (h := l0h _), Nat.sub_self, List.set_cons_zero]
       have := ih (i + 1) m (A ++ [p[i]]) Om Om Om (by simp; omega)
       rw [show ((A ++ [p[i]]).length : Int) = ((A.length + 1 : Nat) : Int) by simp, l0d] at this
       rw [show (p[i] :: List.replicate (qt (p.drop (i + 1))).length (0 : UInt8)) = [p[i]] ++ List.replicate (qt (p.drop (i + 1))).length 0 from rfl, this, l0d]
   rw [Y02, if_neg Om, l08 Om]; rfl
theorem replace_eq (p : Ls) (hp : p.length ≤ 1000) : Y0W p = some (qt p) := by
 unfold Y0W Y0r
 have hc : cnt p ≤ p.length := l1L
 dsimp only
 rw [show chk (((trk 2).length : Int) * 8) = some 16 from rfl, bsome, rep_L1 p hp, rep_L2 p hp, bsome]
 dsimp only
 rw [ite_self, bsome]
 dsimp only
 by_cases h : cnt p = 0
 · rw [decide_eq_false Om, if_neg Dc, qt_id p h]
 rw [decide_eq_true h, if_pos rfl, mkS_ok Om Om Om Om, bsome, l0t, ← qt_len]
 have := rep_L3 p hp p.length 0 FU [] Om (FU_gt Om) Om Sm
 simp only [l03, l2i, l0s, l06] at this
 rw [this, bsome]
theorem rquote_eq (p : Ls) (hp : p.length ≤ 1000) : R_Quote p = some ([34] ++ qt p ++ [34]) := by
 unfold R_Quote
 rw [foldI0 (L := fun m s i => Y2J p m s i) p (fun o c => o ++ q1 c) id (fun i s => s.length ≤ 2 * i + 1) Om ?_ ?_ [34] Sm, foldl_app, bsome]
 · rw [cat_ok (by have := qt_len p; have hc : cnt p ≤ p.length := l1L; unfold qt at this; simp at this ⊢; omega), bsome]; rfl
 · intro m s hs
   rw [Y2J, if_neg Om]; rfl
 intro m s i x hx hs
 have hi := (List.getElem?_eq_some_iff.1 hx).1
 have hq : q1 x = if x = 34 ∨ x = 92 then [92, x] else [x] := by
  unfold q1 esc
  by_cases h1 : x = 34
  · subst h1; rfl
  by_cases h2 : x = 92
  · subst h2; rfl
  simp [h1, h2]
 have hc : (p.take (i + 1)).drop i = [x] := by
  rw [List.getElem?_eq_getElem hi] at hx
  cases hx
  rw [l0Z, show i + 1 - i = 1 by omega, l09 hi]; rfl
 refine ⟨by rw [hq, l00]; split <;> simp <;> omega, ?_⟩
 rw [Y2J, if_pos Om, idx_nat, hx, bsome, bsome, hq, chk_succ Om]
 by_cases h : x = 34 ∨ x = 92
 · have e : (if x = 34 then some true else some (decide (x = 92))) = some true := by
    rcases h with rfl | rfl <;> rfl
   rw [e, bsome, if_pos rfl, if_pos h, cat_ok (by simp; omega), bsome, bsome, bsome, cut_of rfl rfl Om Om, bsome, hc, cat_ok (by simp; omega), bsome, bsome, l0d]; rfl
 have e : (if x = 34 then some true else some (decide (x = 92))) = some false := by
  rw [if_neg (fun e => h (.inl e)), decide_eq_false (fun e => h (.inr e))]
 rw [e, bsome, if_neg Dc, if_neg h, bsome, bsome, cut_of rfl rfl Om Om, bsome, hc, cat_ok (by simp; omega), bsome, bsome]
end Go.Ph.Ad
end
section
namespace Go.Ph.Ad
open Go.Ph.Pl Go.Ph.Pf
open Go.Ph.Chs (vld lower lowB)
theorem dt_all (p : UInt8 → Bool) (hp : ∀ c, p c = true → waB c = true) : ∀ (l : Ls) (e : Bool), dtF p e l = true → l.all waB = true ∧ (e = true → l ≠ [])
 | [], e, h => ⟨rfl, fun he => by rw [dtF, he] at h; cases h⟩
 | c :: l, e, h => by
   rw [dtF] at h
   by_cases hc : c = 46
   · rw [if_pos hc] at h
     cases e with
     | true => rw [if_pos rfl] at h; cases h
     | false =>
       rw [if_neg Dc] at h
       rw [l0A, (dt_all p hp l true h).1, hc]
       exact ⟨G, fun he => by cases he⟩
   rw [if_neg hc] at h
   by_cases hpc : p c = true
   · rw [if_pos hpc] at h
     rw [l0A, hp c hpc, (dt_all p hp l false h).1]
     exact ⟨G, fun _ => by simp⟩
   rw [if_neg hpc] at h; cases h
theorem do_wa (c : UInt8) : doB c = true → waB c = true := by
 refine allB (p := fun c => doB c = true → waB c = true) ?_ c
 decide +kernel
theorem dom_word {d : Ls} (h : domT d = true) : d ≠ [] ∧ d.all waB = true := by
 unfold domT at h
 rw [l0i] at h
 have := dt_all doB do_wa d true h.2
 exact ⟨this.2 G, this.1⟩
def specT (w d : Ls) : Ls := if dtF atB true w = true then w ++ 64 :: d else 34 :: (qt w ++ 34 :: 64 :: d)
theorem loc_len {w : Ls} (h : locT w = true) : w.length ≤ 60 := by
 unfold locT at h
 rw [l0i, decide_eq_true_eq] at h
 omega
theorem dom_len {d : Ls} (h : domT d = true) : d.length ≤ 60 := by
 unfold domT at h
 rw [l0i, decide_eq_true_eq] at h
 omega
theorem qt_le (p : Ls) : (qt p).length ≤ 2 * p.length := by
 rw [qt_len]
 have : cnt p ≤ p.length := l1L
 omega
theorem specT_len (w d : Ls) : (specT w d).length ≤ 2 * w.length + d.length + 3 := by
 unfold specT
 have := qt_le w
 split <;> simp <;> omega
theorem specification_eq (a : Adr) (hw : a.2.1.length ≤ 60) (hd : a.2.2.length ≤ 60) : Y0k a = some (specT a.2.1 a.2.2) := by
 unfold Y0k specT
 have h1 := qt_le a.2.1
 rw [dotted_eq _ Om, bsome]
 cases dtF atB true a.2.1 with
 | true =>
   rw [if_pos rfl, if_pos rfl, cat_ok (by simp; omega), bsome, cat_ok (by simp; omega), bsome]; simp
 | false =>
   rw [if_neg Dc, if_neg Dc]
   unfold Y1U
   have hr : Y0R ([[92], [92, 92], [34], [92, 34]] : List Ls) = some () := by unfold Y0R; rw [if_pos rfl]
   rw [hr, bsome, replace_eq _ Om, bsome, cat_ok (by simp; omega), bsome, cat_ok (by simp; omega), bsome, bsome, cat_ok (by simp; omega), bsome, cat_ok (by simp; omega), bsome]; simp
theorem rspec_eq (a : Adr) (hw : a.2.1.length ≤ 60) (hd : a.2.2.length ≤ 60) : Y3a a = some (specT a.2.1 a.2.2) := by
 unfold Y3a specT
 have h1 := qt_le a.2.1
 rw [rdotA_eq _ (by unfold Big; omega), bsome]
 cases dtF atB true a.2.1 with
 | true =>
   rw [if_pos rfl, if_pos rfl, cat_ok (by simp; omega), bsome, cat_ok (by simp; omega), bsome]; simp
 | false =>
   rw [if_neg Dc, if_neg Dc, rquote_eq _ Om, bsome, cat_ok (by simp; omega), bsome, cat_ok (by simp; omega), bsome]; simp
theorem addrF_ok {a : Adr} (h : (addrF a).1 = 0) : dispF a.1 = 0 ∧ locT a.2.1 = true ∧ domT a.2.2 = true ∧ addrF a = (0, 0) := by
 unfold addrF at h ⊢
 by_cases h1 : dispF a.1 = 0
 · rw [if_pos h1] at h ⊢
   cases hw : locT a.2.1 with
   | false => rw [hw] at h; cases h
   | true =>
     rw [hw] at h
     cases hd : domT a.2.2 with
     | false => rw [hd] at h; cases h
     | true => exact ⟨h1, rfl, rfl, rfl⟩
 rw [if_neg h1] at h
 exact absurd h h1
end Go.Ph.Ad
end
section
namespace Go.Ph.B64
theorem byThree {P : Ls → Prop} (h0 : P []) (h1 : ∀ a, P [a]) (h2 : ∀ a b, P [a, b]) (h3 : ∀ a b c l, P l → P (a :: b :: c :: l)) : ∀ l, P l
 | [] => h0
 | [a] => h1 a
 | [a, b] => h2 a b
 | a :: b :: c :: l => h3 a b c l (byThree h0 h1 h2 h3 l)
abbrev A (k : Nat) : UInt8 := alpha.getD k 0
theorem outp_eq (l : Ls) : outp l 4 = [ch l 0, ch l 1, ch l 2, ch l 3] := rfl
theorem ch_of (l : Ls) (i : Nat) (h : i ≤ min 3 l.length) : ch l i = A (accN l 3 / 2 ^ (18 - 6 * i) % 64) := by
 unfold ch; rw [if_neg Om]
theorem acc3 (l : Ls) : accN l 3 = (l.getD 0 0).toNat * 65536 + (l.getD 1 0).toNat * 256 + (l.getD 2 0).toNat := by
 simp only [accN]; omega
theorem grp3 (a b c : UInt8) (l : Ls) : outp (a :: b :: c :: l) 4 = [A (a.toNat / 4), A (a.toNat % 4 * 16 + b.toNat / 16), A (b.toNat % 16 * 4 + c.toNat / 64), A (c.toNat % 64)] := by
 have ha := a.toNat_lt
 have hb := b.toNat_lt
 have hc := c.toNat_lt
 have h := acc3 (a :: b :: c :: l)
 simp only [l2v, l2w] at h
 rw [outp_eq, ch_of _ _ Sm, ch_of _ _ Sm, ch_of _ _ Sm, ch_of _ _ Sm, h]
 congr 2
 · simp only [Nat.mul_zero, Nat.sub_zero]; omega
 congr 2
 · simp only [l0G]; omega
 congr 2
 · omega
 rw [show (a.toNat * 65536 + b.toNat * 256 + c.toNat) / 2 ^ (18 - 6 * 3) % 64 = c.toNat % 64 by rw [show 2 ^ (18 - 6 * 3) = 1 from rfl, Nat.div_one]; omega]
theorem grp1 (a : UInt8) : outp [a] 4 = [A (a.toNat / 4), A (a.toNat % 4 * 16), 61, 61] := by
 have ha := a.toNat_lt
 have h := acc3 [a]
 simp only [l2v, l2w, List.getD_nil] at h
 rw [outp_eq, ch_of _ _ Sm, ch_of _ _ Sm, h]
 congr 2
 · simp; omega
 congr 2
 simp; omega
theorem grp2 (a b : UInt8) : outp [a, b] 4 = [A (a.toNat / 4), A (a.toNat % 4 * 16 + b.toNat / 16), A (b.toNat % 16 * 4), 61] := by
 have ha := a.toNat_lt
 have hb := b.toNat_lt
 have h := acc3 [a, b]
 simp only [l2v, l2w, List.getD_nil] at h
 rw [outp_eq, ch_of _ _ Sm, ch_of _ _ Sm, ch_of _ _ Sm, h]
 congr 2
 · simp; omega
 congr 2
 · simp; omega
 congr 2
 simp; omega
theorem grps_three (a b c : UInt8) (l : Ls) : grps (a :: b :: c :: l) = outp (a :: b :: c :: l) 4 :: grps l := by
 unfold grps
 have h1 : ((a :: b :: c :: l).length + 2) / 3 = (l.length + 2) / 3 + 1 := by simp only [l02]; omega
 rw [h1]
 unfold grpsTo
 rw [List.range_succ_eq_map, l0f, l1u]
 congr 1
theorem grps_one (a : UInt8) : grps [a] = [outp [a] 4] := by
 unfold grps
 rw [show ([a].length + 2) / 3 = 1 by simp]
 simp [grpsTo, grpAt, l2a]
theorem grps_two (a b : UInt8) : grps [a, b] = [outp [a, b] 4] := by
 unfold grps
 rw [show ([a, b].length + 2) / 3 = 1 by simp]
 simp [grpsTo, grpAt, l2a]
theorem sumN6 (x y z u v w : Nat) : sumN [x, y, z, u, v, w] = 32 * x + 16 * y + 8 * z + 4 * u + 2 * v + w := by simp [sumN]; omega
theorem six_add (x bits : List Nat) (m q : Nat) (hx : x.length = 6 * m) : six (x ++ bits) (m + q) = six bits q := by
 unfold six
 congr 1
 rw [l0Z, l0Z]
 rw [show 6 * (m + q) = x.length + 6 * q by omega, List.drop_length_add_append]
 congr 1
 omega
theorem sext_add (x bits : List Nat) (m : Nat) (hx : x.length = 6 * m) (q : Nat) : sext (x ++ bits) (m + q) = sext (x ++ bits) m ++ sext bits q := by
 induction q with
 | zero => simp [sext]
 | succ q ih => rw [← l1y, sext, sext, ih, six_add x bits m q hx, l0d]
theorem padBits_three (a b c : UInt8) (l : Ls) : padBits (a :: b :: c :: l) = (bits8 a.toNat ++ bits8 b.toNat ++ bits8 c.toNat) ++ padBits l := by
 unfold padBits bitsOf
 simp only [l0p, l0d, l02]
 rw [show (6 - 8 * (l.length + 1 + 1 + 1) % 6) % 6 = (6 - 8 * l.length % 6) % 6 by omega]
theorem sext_lit (x : List Nat) (bits : List Nat) (n1 n2 n3 n4 : Nat) (h1 : six (x ++ bits) 0 = n1) (h2 : six (x ++ bits) 1 = n2) (h3 : six (x ++ bits) 2 = n3) (h4 : six (x ++ bits) 3 = n4) (l1 : n1 < 64) (l2 : n2 < 64) (l3 : n3 < 64) (l4 : n4 < 64) :
 sext (x ++ bits) 4 = [A n1, A n2, A n3, A n4] := by
 simp only [sext, h1, h2, h3, h4, alpha_one _ l1, alpha_one _ l2, alpha_one _ l3, alpha_one _ l4]
 rfl
theorem chars_three (a b c : UInt8) (l : Ls) : chars64 (a :: b :: c :: l) = outp (a :: b :: c :: l) 4 ++ chars64 l := by
 have ha := a.toNat_lt
 have hb := b.toNat_lt
 have hc := c.toNat_lt
 have hlen : (padBits (a :: b :: c :: l)).length / 6 = 4 + (padBits l).length / 6 := by
  rw [padBits_three, l00]
  simp only [l00, bits8_len]
  omega
 have h4 : sext (padBits (a :: b :: c :: l)) 4 = outp (a :: b :: c :: l) 4 := by
  rw [grp3, padBits_three]
  refine sext_lit _ _ _ _ _ _ ?_ ?_ ?_ ?_ Om Om Om Om
  · simp only [six, bits8, l05, l06, l0B, l17, l0s, Nat.mul_zero, l0v, sumN6]; omega
  · simp only [six, bits8, l05, l06, l0B, l17, l0S, l0s, l0G, sumN6]; omega
  · simp only [six, bits8, l05, l06, l0B, l17, l0S, l0s, sumN6]; omega
  simp only [six, bits8, l05, l06, l0B, l17, l0S, l0s, sumN6]; omega
 have hs : sext (padBits (a :: b :: c :: l)) ((padBits (a :: b :: c :: l)).length / 6) = outp (a :: b :: c :: l) 4 ++ sext (padBits l) ((padBits l).length / 6) := by
  rw [hlen, ← h4, padBits_three]
  exact sext_add _ _ 4 (by simp [bits8_len]) _
 unfold chars64
 simp only [hs, l0d, l00]
 congr 3
 rw [show (outp (a :: b :: c :: l) 4).length = 4 from rfl]
 omega
theorem padBits_one (a : UInt8) : padBits [a] = bits8 a.toNat ++ [0, 0, 0, 0] := by simp [padBits, bitsOf, List.replicate]
theorem padBits_two (a b : UInt8) : padBits [a, b] = bits8 a.toNat ++ bits8 b.toNat ++ [0, 0] := by simp [padBits, bitsOf, List.replicate]
theorem chars_of {l : Ls} {q : Nat} {s : Ls} (hq : (padBits l).length / 6 = q) (h : sext (padBits l) q = s) : chars64 l = s ++ List.replicate ((4 - s.length % 4) % 4) 61 := by
 unfold chars64; rw [hq, h]
theorem chars_one (a : UInt8) : chars64 [a] = outp [a] 4 := by
 have ha := a.toNat_lt
 rw [grp1]
 have h : sext (padBits [a]) 2 = [A (a.toNat / 4), A (a.toNat % 4 * 16)] := by
  rw [padBits_one]
  have h1 : six (bits8 a.toNat ++ [0, 0, 0, 0]) 0 = a.toNat / 4 := by
   simp only [six, bits8, l05, l06, l0B, l17, l0s, Nat.mul_zero, l0v, sumN6]; omega
  have h2 : six (bits8 a.toNat ++ [0, 0, 0, 0]) 1 = a.toNat % 4 * 16 := by
   simp only [six, bits8, l05, l06, l0B, l17, l0S, l0s, l0G, sumN6]; omega
  simp only [sext, h1, h2, alpha_one _ (show a.toNat / 4 < 64 by omega), alpha_one _ (show a.toNat % 4 * 16 < 64 by omega)]
  rfl
 rw [chars_of (by rw [padBits_one]; simp [bits8_len]) h]; rfl
theorem chars_two (a b : UInt8) : chars64 [a, b] = outp [a, b] 4 := by
 have ha := a.toNat_lt
 have hb := b.toNat_lt
 rw [grp2]
 have h : sext (padBits [a, b]) 3 = [A (a.toNat / 4), A (a.toNat % 4 * 16 + b.toNat / 16), A (b.toNat % 16 * 4)] := by
  rw [padBits_two]
  have h1 : six (bits8 a.toNat ++ bits8 b.toNat ++ [0, 0]) 0 = a.toNat / 4 := by
   simp only [six, bits8, l05, l06, l0B, l17, l0s, Nat.mul_zero, l0v, sumN6]; omega
  have h2 : six (bits8 a.toNat ++ bits8 b.toNat ++ [0, 0]) 1 = a.toNat % 4 * 16 + b.toNat / 16 := by
   simp only [six, bits8, l05, l06, l0B, l17, l0S, l0s, l0G, sumN6]; omega
  have h3 : six (bits8 a.toNat ++ bits8 b.toNat ++ [0, 0]) 2 = b.toNat % 16 * 4 := by
   simp only [six, bits8, l05, l06, l0B, l17, l0S, l0s, sumN6]; omega
  simp only [sext, h1, h2, h3, alpha_one _ (show a.toNat / 4 < 64 by omega), alpha_one _ (show a.toNat % 4 * 16 + b.toNat / 16 < 64 by omega), alpha_one _ (show b.toNat % 16 * 4 < 64 by omega)]
  rfl
 rw [chars_of (by rw [padBits_two]; simp [bits8_len]) h]; rfl
theorem chars_grps (l : Ls) : chars64 l = (grps l).flatten := by
 induction l using byThree with
 | h0 => rfl
 | h1 a => rw [chars_one, grps_one]; simp
 | h2 a b => rw [chars_two, grps_two]; simp
 | h3 a b c l ih => rw [chars_three, grps_three, l0n, ih]
theorem flat_len (gs : List Ls) (h : ∀ g ∈ gs, g.length = 4) : gs.flatten.length = 4 * gs.length := by
 induction gs with
 | nil => rfl
 | cons g gs ih =>
   rw [l0n, l00, h g l0C, ih (fun x hx => h x (l0y _ hx)), l02]
   omega
theorem wrapTo_app (cs t : Ls) (m : Nat) (h : 76 * m ≤ cs.length) : wrapTo (cs ++ t) m = wrapTo cs m := by
 induction m with
 | zero => rfl
 | succ m ih =>
   rw [wrapTo, wrapTo, ih Om]
   congr 2
   rw [l0M Om, l1U (by rw [l01]; omega)]
theorem encRun_wrap (gs : List Ls) (h : ∀ g ∈ gs, g.length = 4) : ∃ k, k = (gs.flatten.length - 1) / 76 ∧ (encRun gs).1 = wrapTo gs.flatten k ++ gs.flatten.drop (76 * k) ∧ (encRun gs).2 = gs.flatten.length - 76 * k := by
 have key : ∀ (n : Nat) (gs : List Ls), gs.length = n → (∀ g ∈ gs, g.length = 4) → ∃ k, k = (gs.flatten.length - 1) / 76 ∧ (encRun gs).1 = wrapTo gs.flatten k ++ gs.flatten.drop (76 * k) ∧ (encRun gs).2 = gs.flatten.length - 76 * k := by
  intro n
  induction n with
  | zero =>
    intro gs hn _
    obtain rfl := l0b hn
    exact ⟨0, G, G, G⟩
  | succ n ih =>
    intro gs hn hg
    obtain ⟨g0, g, rfl⟩ : ∃ g0 g, gs = g0 ++ [g] := ⟨gs.dropLast, gs.getLast (by rintro rfl; cases hn), (List.dropLast_concat_getLast _).symm⟩
    have hl0 : g0.length = n := by simpa using hn
    have hg0 : ∀ x ∈ g0, x.length = 4 := fun x hx => hg x (l1l _ hx)
    have hg4 : g.length = 4 := hg g (l1s _ (List.mem_singleton.2 rfl))
    obtain ⟨k, hk, h1, h2⟩ := ih g0 hl0 hg0
    have hfl := flat_len g0 hg0
    have hflat : (g0 ++ [g]).flatten = g0.flatten ++ g := by simp
    rw [hflat, encRun_next, encStep, h1, h2, l00, hg4]
    generalize g0.flatten = cs at *
    by_cases hf : cs.length - 76 * k = 76
    · rw [if_pos hf]
      refine ⟨k + 1, by omega, ?_, by simp only []; omega⟩
      have e0 : cs.length = 76 * (k + 1) := by omega
      have e1 : (cs ++ g).drop (76 * (k + 1)) = g := by rw [← e0]; exact l1P
      have e2 : ((cs ++ g).drop (76 * k)).take 76 = cs.drop (76 * k) := by
       have e3 : (cs.drop (76 * k)).length = 76 := by rw [l01]; omega
       rw [l0M Om]
       exact l1K e3
      rw [wrapTo, wrapTo_app _ _ _ Om, e1, e2]
    rw [if_neg hf]
    refine ⟨k, by omega, ?_, by simp only []; omega⟩
    simp only []
    rw [wrapTo_app _ _ _ Om, l0M Om, l0d]
 exact key _ gs G h
theorem encode_lines (l : Ls) : encode l = lines64 (chars64 l) := by
 obtain ⟨k, hk, h1, h2⟩ := encRun_wrap (grps l) (grps_all l)
 rw [chars_grps]
 unfold encode lines64
 rw [h1, h2, ← hk]
 generalize (grps l).flatten = cs at *
 by_cases hc : cs.drop (76 * k) = []
 · have : cs.length ≤ 76 * k := List.drop_eq_nil_iff.1 hc
   rw [if_neg Om, if_pos hc, hc]
 have : 76 * k < cs.length := by
  rcases l0N (76 * k) cs.length with h | h
  · exact h
  exact absurd (l08 h) hc
 rw [if_pos Om, if_neg hc, l0d]
theorem encode_len (l : Ls) : (encode l).length ≤ 4 * ((l.length + 2) / 3) + 2 * (4 * ((l.length + 2) / 3) / 76) + 2 := by
 obtain ⟨k, hk, h1, h2⟩ := encRun_wrap (grps l) (grps_all l)
 have hfl := flat_len (grps l) (grps_all l)
 rw [grps_len] at hfl
 have hw : ∀ (cs : Ls) (m : Nat), 76 * m ≤ cs.length → (wrapTo cs m).length = 78 * m := by
  intro cs m
  induction m with
  | zero => intro _; rfl
  | succ m ih => intro h; simp only [wrapTo, l00, l04, l01, l02, l03, ih Om]; omega
 have h3 : (encRun (grps l)).1.length = 78 * k + ((grps l).flatten.length - 76 * k) := by
  rw [h1, l00, hw _ _ Om, l01]
 unfold encode
 split
 · rw [l00, h3]; simp only [l02, l03]; omega
 rw [h3]; omega
theorem chars_len (l : Ls) : (chars64 l).length = 4 * ((l.length + 2) / 3) := by
 rw [chars_grps, flat_len _ (grps_all l), grps_len]
end Go.Ph.B64
end
section
namespace Go.Ph.Wd
open Go.Ph.Pl Go.Ph.Pf
open Go.Ph.Gr (chars Ch pieces byts)
open Go.Ph.Chs (vld setN setOf encK encGo decoded utf8 bestK)
theorem foldI {α σ γ : Type} {L : Nat → σ → Int → Option γ} (l : List α) (F : σ → α → σ) (fin : σ → γ) (I : Nat → σ → Prop)
 (hend : ∀ m s, I l.length s → L (m + 1) s (l.length : Int) = some (fin s))
 (hstep : ∀ m s i a, l[i]? = some a → I i s → I (i + 1) (F s a) ∧ L (m + 1) s (i : Int) = L m (F s a) ((i + 1 : Nat) : Int)) :
 ∀ (d i : Nat) (s : σ) (m : Nat), l.length - i = d → i ≤ l.length → d < m → I i s → L m s (i : Int) = some (fin ((l.drop i).foldl F s)) := by
 intro d
 induction d with
 | zero =>
   intro i s m h1 h2 h3 hI
   obtain ⟨m, rfl⟩ : ∃ k, m = k + 1 := ⟨m - 1, by omega⟩
   obtain rfl : i = l.length := by omega
   rw [hend m s hI, l0Q]; rfl
 | succ d ih =>
   intro i s m h1 h2 h3 hI
   obtain ⟨m, rfl⟩ : ∃ k, m = k + 1 := ⟨m - 1, by omega⟩
   have hi : i < l.length := by omega
   obtain ⟨hI', hL⟩ := hstep m s i l[i] (List.getElem?_eq_getElem hi) hI
   rw [hL, ih (i + 1) _ m Om Om Om hI', l09 hi]; rfl
theorem foldI0 {α σ γ : Type} {L : Nat → σ → Int → Option γ} (l : List α) (F : σ → α → σ) (fin : σ → γ) (I : Nat → σ → Prop) (hl : l.length ≤ 9223372036854775807)
 (hend : ∀ m s, I l.length s → L (m + 1) s (l.length : Int) = some (fin s))
 (hstep : ∀ m s i a, l[i]? = some a → I i s → I (i + 1) (F s a) ∧ L (m + 1) s (i : Int) = L m (F s a) ((i + 1 : Nat) : Int)) (s : σ) (h0 : I 0 s) : L FU s 0 = some (fin (l.foldl F s)) := by
 have := foldI l F fin I hend hstep l.length 0 s FU Om Om (FU_gt hl) h0
 simpa using this
theorem foldl_app {α β : Type} (f : α → List β) : ∀ (l : List α) (o : List β), l.foldl (fun o a => o ++ f a) o = o ++ l.flatMap f
 | [], o => by simp
 | a :: l, o => by rw [l0J, foldl_app f l]; simp
def hexd : Ls := [48, 49, 50, 51, 52, 53, 54, 55, 56, 57, 65, 66, 67, 68, 69, 70]
def alnum (c : UInt8) : Bool := decide (97 ≤ c.toNat ∧ c.toNat ≤ 122) || (decide (65 ≤ c.toNat ∧ c.toNat ≤ 90) || decide (48 ≤ c.toNat ∧ c.toNat ≤ 57))
def hx (n : Nat) : UInt8 := hexd.getD n 0
theorem allB {p : UInt8 → Prop} (h : ∀ n, n < 256 → p (UInt8.ofNat n)) (c : UInt8) : p c := by
 have := h c.toNat c.toNat_lt
 rwa [UInt8.ofNat_toNat] at this
theorem letter_eq (c : UInt8) : Y1L c = some (alnum c) := by
 refine allB (p := fun c => Y1L c = some (alnum c)) ?_ c
 decide +kernel
theorem digit_hi (c : UInt8) : Y2e (UInt8.ofNat (c.toNat / 2 ^ 4)) = some (hx (c.toNat / 16)) := by
 refine allB (p := fun c => Y2e (UInt8.ofNat (c.toNat / 2 ^ 4)) = some (hx (c.toNat / 16))) ?_ c
 decide +kernel
theorem digit_lo (c : UInt8) : Y2e c = some (hx (c.toNat % 16)) := by
 refine allB (p := fun c => Y2e c = some (hx (c.toNat % 16))) ?_ c
 decide +kernel
theorem two_eq (c : UInt8) : R_Two c = some [hx (c.toNat / 16), hx (c.toNat % 16)] := by
 refine allB (p := fun c => R_Two c = some [hx (c.toNat / 16), hx (c.toNat % 16)]) ?_ c
 decide +kernel
def dq1 (c : UInt8) : Ls := if c = 32 then [95] else if alnum c = true then [c] else [61, hx (c.toNat / 16), hx (c.toNat % 16)]
def dq (b : Ls) : Ls := b.flatMap dq1
theorem dq1_len (c : UInt8) : 1 ≤ (dq1 c).length ∧ (dq1 c).length ≤ 3 := by unfold dq1; split; · simp
                                                                            split <;> simp
theorem dq_len (b : Ls) : (dq b).length ≤ 3 * b.length := by
 unfold dq
 induction b with
 | nil => simp
 | cons c b ih => have := dq1_len c; simp only [l0p, l00, l02]; omega
theorem data_eq (b : Ls) (hb : b.length ≤ 1000000) : Y3B b = some (dq b) := by
 unfold Y3B
 rw [foldI0 (L := fun m s i => Y1d b m s i) b (fun o c => o ++ dq1 c) id (fun i s => s.length ≤ 3 * i) Om ?_ ?_ [] Sm, foldl_app, bsome]
 · rfl
 · intro m s hs
   rw [Y1d, if_neg Om]; rfl
 intro m s i a ha hs
 have hi := (List.getElem?_eq_some_iff.1 ha).1
 have hl := dq1_len a
 refine ⟨by rw [l00]; omega, ?_⟩
 rw [Y1d, if_pos Om, idx_nat, ha, bsome]
 unfold dq1 Y0g Y1M
 by_cases h1 : a = 32
 · rw [if_pos h1, if_pos h1, app_ok (by simp; omega), bsome]
   dsimp only
   rw [bsome, chk_succ Om, bsome]
 rw [if_neg h1, if_neg h1, letter_eq, bsome]
 by_cases h2 : alnum a = true
 · rw [if_pos h2, if_pos h2, app_ok (by simp; omega), bsome]
   dsimp only
   rw [bsome, chk_succ Om, bsome]
 rw [if_neg h2, if_neg h2, digit_hi, bsome, digit_lo, bsome, app_ok (by simp; omega), bsome]
 dsimp only
 rw [bsome, chk_succ Om, bsome]
inductive Good : Ls → Prop
 | nil : Good []
 | one {c : UInt8} {t : Ls} (h1 : c ≠ 13) (h2 : c ≠ 10) (h : Good t) : Good (c :: t)
 | crlf {t : Ls} (h : Good t) : Good (13 :: 10 :: t)
theorem Good.app {a b : Ls} (h : Good a) (k : Good b) : Good (a ++ b) := by
 induction h with
 | nil => exact k
 | one h1 h2 _ ih => exact .one h1 h2 ih
 | crlf _ ih => exact .crlf ih
def fre (l : Ls) : Prop := ∀ c ∈ l, c ≠ 13 ∧ c ≠ 10
theorem Good.of {a : Ls} (h : fre a) : Good a := by
 induction a with
 | nil => exact .nil
 | cons c a ih => exact .one (h c Sm).1 (h c Sm).2 (ih fun x hx => h x (by simp [hx]))
def keep (c : UInt8) : Bool := decide (c ≠ 13 ∧ c ≠ 10)
theorem keep_fre {a : Ls} (h : fre a) : a.filter keep = a := by
 rw [List.filter_eq_self]; intro c hc; exact decide_eq_true (h c hc)
theorem Good.index {s : Ls} (h : Good s) : (Lib.index s [13, 10] = -1 ∧ fre s) ∨ ∃ i : Nat, Lib.index s [13, 10] = (i : Int) ∧ fre (s.take i) ∧ Good (s.drop (i + 2)) ∧ i + 2 ≤ s.length ∧ s.filter keep = s.take i ++ (s.drop (i + 2)).filter keep := by
 induction h with
 | nil => exact .inl ⟨rfl, fun c hc => by cases hc⟩
 | @one c t h1 h2 h ih =>
   have hp : ([13, 10] : Ls).isPrefixOf (c :: t) = false := by simp [List.isPrefixOf, Ne.symm h1]
   have hk : keep c = true := decide_eq_true ⟨h1, h2⟩
   rcases ih with ⟨e1, e2⟩ | ⟨i, e1, e2, e3, e4, e5⟩
   · refine .inl ⟨by rw [Lib.index, hp, e1]; rfl, fun x hx => ?_⟩
     rcases List.mem_cons.1 hx with rfl | hx
     · exact ⟨h1, h2⟩
     exact e2 x hx
   refine .inr ⟨i + 1, ?_, fun x hx => ?_, ?_, by rw [l02]; omega, ?_⟩
   · rw [Lib.index, hp, e1]
     have : ((i : Int) == -1) = false := by simp
     rw [this]; simp
   · rw [l0B] at hx
     rcases List.mem_cons.1 hx with rfl | hx
     · exact ⟨h1, h2⟩
     exact e2 x hx
   · rw [show i + 1 + 2 = (i + 2) + 1 by omega, l0S]; exact e3
   rw [List.filter_cons_of_pos hk, e5, l0B, show i + 1 + 2 = (i + 2) + 1 by omega, l0S]; rfl
 | @crlf t h ih =>
   refine .inr ⟨0, by rw [Lib.index]; simp [List.isPrefixOf], fun x hx => (by cases hx), h, by simp, ?_⟩
   rw [l17, l0S, l0S, l0s, List.filter_cons_of_neg Dc, List.filter_cons_of_neg Dc]; rfl
theorem replK : ∀ (n : Nat) (s : Ls), s.length ≤ n → Good s → Lib.replaceK [13, 10] [] (Lib.count s [13, 10]) s = s.filter keep
 | n, s, hn, h => by
   rcases h.index with ⟨e1, e2⟩ | ⟨i, e1, e2, e3, e4, e5⟩
   · rw [Lib.count_miss e1, keep_fre e2]; rfl
   obtain ⟨n, rfl⟩ : ∃ k, n = k + 1 := ⟨n - 1, by omega⟩
   rw [Lib.count_hit Sm e1, l2b, Lib.replaceK_hit _ _ _ _ _ e1, e5, l0j]
   show _ ++ Lib.replaceK [13, 10] [] (Lib.count (s.drop (i + 2)) [13, 10]) (s.drop (i + 2)) = _
   rw [replK n (s.drop (i + 2)) (by rw [l01]; omega) e3]
theorem repl_good {s : Ls} (h : Good s) : Lib.replaceAll s [13, 10] [] = s.filter keep := by
 unfold Lib.replaceAll Lib.replace Lib.replaceNum
 rw [if_neg Dc, if_pos (.inl Dc)]
 exact replK _ _ (l0h _) h
theorem alpha_fre : ∀ c ∈ (61 :: B64.alpha), c ≠ 13 ∧ c ≠ 10 := by decide
theorem alpha_at (k : Nat) : B64.alpha.getD k 0 ∈ (61 :: B64.alpha) ∨ B64.alpha.getD k 0 = 0 := by
 by_cases h : k < B64.alpha.length
 · rw [B64.getD_in _ _ _ h]; exact .inl (l0y _ (l0L h))
 rw [B64.getD_out _ _ _ Om]; exact .inr rfl
theorem outp_fre (l : Ls) : fre (B64.outp l 4) := fun c hc => by
 rw [B64.outp_eq] at hc
 have hch : ∀ i, B64.ch l i ≠ 13 ∧ B64.ch l i ≠ 10 := fun i => by
  unfold B64.ch
  split
  · decide
  rcases alpha_at (B64.accN l 3 / 2 ^ (18 - 6 * i) % 64) with h | h
  · exact alpha_fre _ h
  rw [h]; decide
 simp only [l1a, l0U, or_false] at hc
 rcases hc with rfl | rfl | rfl | rfl <;> exact hch _
theorem chars64_fre (l : Ls) : fre (B64.chars64 l) := fun c hc => by
 rw [B64.chars_grps] at hc
 obtain ⟨g, hg, hc⟩ := List.mem_flatten.1 hc
 unfold B64.grps B64.grpsTo at hg
 obtain ⟨k, _, rfl⟩ := List.mem_map.1 hg
 exact outp_fre _ c hc
theorem fre_sub {a b : Ls} (h : fre b) (hs : ∀ c ∈ a, c ∈ b) : fre a := fun c hc => h c (hs c hc)
theorem wrapTo_good {cs : Ls} (h : fre cs) : ∀ m, Good (B64.wrapTo cs m) ∧ (B64.wrapTo cs m).filter keep = cs.take (76 * m)
 | 0 => ⟨.nil, rfl⟩
 | m + 1 => by
   obtain ⟨h1, h2⟩ := wrapTo_good h m
   have hf : fre ((cs.drop (76 * m)).take 76) := fre_sub h fun c hc => l2q (l1v hc)
   rw [B64.wrapTo]
   refine ⟨(h1.app (.of hf)).app (.crlf .nil), ?_⟩
   rw [l2f, l2f, h2, keep_fre hf, show ([13, 10] : Ls).filter keep = [] by decide, l0j]
   rw [show 76 * (m + 1) = 76 * m + 76 by omega, List.take_add]
theorem lines_good {cs : Ls} (h : fre cs) : Good (B64.lines64 cs) ∧ (B64.lines64 cs).filter keep = cs := by
 obtain ⟨h1, h2⟩ := wrapTo_good h ((cs.length - 1) / 76)
 have hf : fre (cs.drop (76 * ((cs.length - 1) / 76))) := fre_sub h fun c hc => l2q hc
 unfold B64.lines64
 split
 · rename_i hd
   refine ⟨h1.app .nil, ?_⟩
   rw [l0j, h2]
   have := l0I (76 * ((cs.length - 1) / 76)) cs
   rw [hd, l0j] at this; exact this
 refine ⟨h1.app ((Good.of hf).app (.crlf .nil)), ?_⟩
 rw [l2f, l2f, h2, keep_fre hf, show ([13, 10] : Ls).filter keep = [] by decide, l0j, l0I]
theorem flat_eq (b : Ls) (hb : b.length ≤ 12000) : Y3c b = some (B64.chars64 b) := by
 unfold Y3c Y38 Y0X
 have hl := B64.encode_len b
 rw [if_pos hb, bsome]
 dsimp only
 rw [if_pos ⟨by omega, by decide, by simp; omega⟩, bsome, B64.encode_lines]
 obtain ⟨h1, h2⟩ := lines_good (chars64_fre b)
 rw [repl_good h1, h2]
abbrev nam (k : Nat) : Ls := setN.getD k []
theorem setOf_nam : ∀ k, k < 4 → setOf (nam k) = some k := by decide
theorem nam_len : ∀ k, k < 4 → (nam k).length ≤ 7 := by decide
theorem nam_utf8 : ∀ k, k < 4 → (nam k = [117, 116, 102, 56] ↔ k = 2) := by decide
def enc (k : Nat) (l : Ls) : Ls := (chars l).flatMap fun c => (encK k c.1).getD []
structure okE (k : Nat) (l : Ls) : Prop where
 v : vld l = true
 e : ∀ c ∈ chars l, ∃ b, encK k c.1 = some b
theorem enc_go {k : Nat} {l : Ls} (h : okE k l) : encGo (encK k) (chars l) 0 = .ok (enc k l) := by
 obtain ⟨b, hb⟩ := Chs.encGo_all (chars l) 0 h.e
 rw [hb]
 obtain ⟨bs, h1, h2⟩ := Chs.encGo_ok _ _ _ hb
 have : enc k l = (bs.map some).flatMap (fun o => o.getD []) := by
  rw [← h1]; unfold enc; rw [List.flatMap_map]
 rw [this, h2, List.flatMap_map]
 simp
theorem chars_len (l : Ls) : (chars l).length ≤ l.length := by
 have h := Gr.flat_le ((chars l).map (·.2)) (fun p hp => by
  obtain ⟨c, hc, rfl⟩ := List.mem_map.1 hp
  exact Gr.chars_ne l c hc)
 rw [Gr.chars_flat, l0c] at h
 exact h
theorem flatMap_len {α β : Type} (f : α → List β) (n : Nat) : ∀ (l : List α), (∀ a ∈ l, (f a).length ≤ n) → (l.flatMap f).length ≤ n * l.length
 | [], _ => by simp
 | a :: l, h => by
   have h1 := h a Sm
   have h2 := flatMap_len f n l (fun x hx => h x (by simp [hx]))
   simp only [l0p, l00, l02, Nat.mul_succ]
   omega
theorem enc_len (k : Nat) (l : Ls) : (enc k l).length ≤ 4 * l.length := by
 have h := flatMap_len (fun c : Ch => (encK k c.1).getD []) 4 (chars l) (fun c _ => by
  cases he : encK k c.1 with
  | none => simp
  | some b => exact Chs.encK_len he)
 have h2 := chars_len l
 unfold enc
 omega
def wrap (k : Nat) (b : Ls) : Ls := [61, 63] ++ nam k ++ (if k = 2 then [63, 66, 63] ++ B64.chars64 b else [63, 81, 63] ++ dq b) ++ [63, 61]
def W (k : Nat) (l : Ls) : Ls := wrap k (enc k l)
theorem Y4Y {k : Nat} {l : Ls} (hk : k < 4) (hl : l.length ≤ 12000) (h : okE k l) : Y2t (nam k) l = some (enc k l, (0, 0)) := by
 unfold Y2t
 have hn := nam_len k hk
 rw [if_pos ⟨by omega, hl⟩, setOf_nam k hk]
 dsimp only
 rw [if_pos h.v, enc_go h]
theorem word_eq {k : Nat} {l : Ls} (hk : k < 3) (hl : l.length ≤ 3000) (h : okE k l) : Y2l (nam k) l = some (W k l) := by
 have hn := nam_len k Om
 have he := enc_len k l
 have hd := dq_len (enc k l)
 have hc := B64.chars_len (enc k l)
 have hu := nam_utf8 k Om
 unfold Y2l W wrap
 rw [Y4Y Om Om h, bsome]
 dsimp only
 by_cases h2 : k = 2
 · rw [if_pos (hu.2 h2), if_pos h2, cat_ok (by simp only [l02, l03]; omega), bsome, cat_ok (by simp only [l00, l02, l03]; omega), bsome, flat_eq _ Om, bsome,
    cat_ok (by simp only [l00, l02, l03]; omega), bsome, cat_ok (by simp only [l00, l02, l03]; omega), bsome]
   simp only [l0d]
 rw [if_neg (fun e => h2 (hu.1 e)), if_neg h2, cat_ok (by simp only [l02, l03]; omega), bsome, cat_ok (by simp only [l00, l02, l03]; omega), bsome, data_eq _ Om, bsome,
  cat_ok (by simp only [l00, l02, l03]; omega), bsome, cat_ok (by simp only [l00, l02, l03]; omega), bsome]
 simp only [l0d]
theorem rin_eq (a b c : Int) : R_In a b c = some (decide (b ≤ a ∧ a ≤ c)) := by
 unfold R_In
 by_cases h : b ≤ a
 · rw [if_pos h, bsome]; simp [h]
 rw [if_neg h, bsome]; simp [h]
theorem alnum_eq (c : UInt8) : ((R_In (c.toNat : Int) 48 57).bind fun b27 => (if b27 = true then some true else (R_In (c.toNat : Int) 65 90).bind fun b29 => (if b29 = true then some true else (R_In (c.toNat : Int) 97 122).bind fun b31 => some b31))) = some (alnum c) := by
 refine allB (p := fun c => ((R_In (c.toNat : Int) 48 57).bind fun b27 => (if b27 = true then some true else (R_In (c.toNat : Int) 65 90).bind fun b29 => (if b29 = true then some true else (R_In (c.toNat : Int) 97 122).bind fun b31 => some b31))) = some (alnum c)) ?_ c
 decide +kernel
theorem rdata_eq (b o : Ls) (hb : b.length ≤ 1000000) (ho : o.length ≤ 1000000) : Y2f b FU o 0 = some (o ++ dq b) := by
 rw [foldI0 (L := fun m s i => Y2f b m s i) b (fun o c => o ++ dq1 c) id (fun i s => s.length ≤ o.length + 3 * i) Om ?_ ?_ o Sm, foldl_app]
 · rfl
 · intro m s hs
   rw [Y2f, if_neg Om]; rfl
 intro m s i a ha hs
 have hi := (List.getElem?_eq_some_iff.1 ha).1
 have hl := dq1_len a
 refine ⟨by rw [l00]; omega, ?_⟩
 rw [Y2f, if_pos Om, idx_nat, ha, bsome]
 unfold dq1
 by_cases h1 : a = 32
 · rw [if_pos (by rw [h1]; rfl), if_pos h1, cat_ok (by simp; omega), bsome, chk_succ Om, bsome]
 rw [if_neg (fun e => h1 (UInt8.toNat_inj.1 (by simpa using (by omega : a.toNat = 32)))), if_neg h1, alnum_eq, bsome]
 by_cases h2 : alnum a = true
 · rw [if_pos h2, if_pos h2, bsome, cat_ok (by simp; omega), bsome, chk_succ Om, bsome]
 rw [if_neg h2, if_neg h2, cat_ok (by simp; omega), bsome, bsome, two_eq, bsome, cat_ok (by simp; omega), bsome, chk_succ Om, bsome, l0d]; rfl
theorem rset_nam {k : Nat} (hk : k < 4) : R_SetOf (nam k) = some (k : Int) := by
 unfold R_SetOf
 have hn := nam_len k hk
 rw [if_pos Om, setOf_nam k hk]
theorem renc_eq {k : Nat} {l : Ls} (hk : k < 4) (hl : l.length ≤ 12000) (h : okE k l) : Y3W (k : Int) l = some (enc k l, -1) := by
 unfold Y3W
 rw [if_pos ⟨by omega, by omega, by omega, h.v⟩, l0t, enc_go h]
theorem rword_eq {k : Nat} {l : Ls} (hk : k < 3) (hl : l.length ≤ 3000) (h : okE k l) : R_Word (nam k) l = some (W k l) := by
 have hn := nam_len k Om
 have he := enc_len k l
 have hd := dq_len (enc k l)
 have hc := B64.chars_len (enc k l)
 have hu := nam_utf8 k Om
 unfold R_Word W wrap Y3A
 rw [rset_nam Om, bsome, renc_eq Om Om h, bsome]
 dsimp only
 by_cases h2 : k = 2
 · rw [if_pos (hu.2 h2), if_pos h2, if_pos Om, bsome, cat_ok (by simp only [l02, l03]; omega), bsome, cat_ok (by simp only [l00, l02, l03]; omega), bsome, hu.2 h2]
   simp only [l0d]; rfl
 rw [if_neg (fun e => h2 (hu.1 e)), if_neg h2, cat_ok (by simp only [l02, l03]; omega), bsome, cat_ok (by simp only [l00, l02, l03]; omega), bsome,
  rdata_eq _ _ Om (by simp only [l00, l02, l03]; omega), bsome, cat_ok (by simp only [l00, l02, l03]; omega), bsome]
 simp only [l0d]
end Go.Ph.Wd
end
section
namespace Go.Ph.Wd
open Go.Ph.Pl Go.Ph.Pf
open Go.Ph.Gr (chars Ch pieces byts segs)
open Go.Ph.Chs (vld setN setOf encK encGo decoded utf8 bestK)
open Go.Ph.Utf (rune dr)
theorem chars_mid {l : Ls} {A g B : List Ch} (h : chars l = A ++ g ++ B) : chars (byts g) = g := by
 obtain ⟨h1, _⟩ := Gr.chars_split (A ++ g) B l h
 exact (Gr.chars_split A g _ h1).2
theorem okE.mid {k : Nat} {l : Ls} (h : okE k l) {A g B : List Ch} (hs : chars l = A ++ g ++ B) : okE k (byts g) := by
 have hc := chars_mid hs
 have hm : ∀ c ∈ g, c ∈ chars l := fun c hc => by rw [hs]; simp [hc]
 refine ⟨?_, fun c hcg => h.e c (hm c (by rwa [hc] at hcg))⟩
 have hv := h.v
 unfold vld at hv ⊢
 rw [hc]
 rw [List.all_eq_true] at hv ⊢
 exact fun c hcg => hv c (hm c hcg)
theorem byts_app (a b : List Ch) : byts (a ++ b) = byts a ++ byts b := by simp [byts]
theorem byts_len {l : Ls} {A g B : List Ch} (h : chars l = A ++ g ++ B) : (byts g).length ≤ l.length := by
 have := Gr.chars_flat l
 rw [h] at this
 simp only [l1i, l2s] at this
 rw [← this]
 simp only [l00, byts]
 omega
def usC (k : Nat) (g : List Ch) : List (List Ch) := if (W k (byts g)).length ≤ 75 then [g] else g.map fun c => [c]
def unitsC (k : Nat) (l : Ls) : List (List Ch) := (segs (chars l)).flatMap (usC k)
theorem singles_flat (g : List Ch) : (g.map fun c => [c]).flatten = g := by
 induction g with
 | nil => rfl
 | cons c g ih => rw [l0f, l0n, ih]; rfl
theorem usC_flat (k : Nat) (g : List Ch) : (usC k g).flatten = g := by
 unfold usC
 split
 · simp
 exact singles_flat g
theorem unitsC_flat (k : Nat) (l : Ls) : (unitsC k l).flatten = chars l := by
 unfold unitsC
 conv => rhs; rw [← Gr.segs_flat (chars l)]
 induction segs (chars l) with
 | nil => rfl
 | cons g gs ih => rw [l0p, l2s, ih, usC_flat]; rfl
theorem unitsC_ne (k : Nat) (l : Ls) : ∀ u ∈ unitsC k l, u ≠ [] := fun u hu => by
 obtain ⟨g, hg, hu⟩ := List.mem_flatMap.1 hu
 unfold usC at hu
 split at hu
 · simp only [l1a, l0U, or_false] at hu
   subst hu; exact Gr.segs_ne _ _ hg
 obtain ⟨c, _, rfl⟩ := List.mem_map.1 hu; simp
def runX {σ α : Type} (Y : σ → α → Option (σ × Bool)) : List α → σ → Option (σ ⊕ σ)
 | [], s => some (.inl s)
 | x :: xs, s => (Y s x).bind fun r => if r.2 = true then runX Y xs r.1 else some (.inr r.1)
theorem runX_app {σ α : Type} (Y : σ → α → Option (σ × Bool)) (ys : List α) : ∀ (xs : List α) (s : σ), runX Y (xs ++ ys) s = (runX Y xs s).bind fun o => match o with | .inl s' => runX Y ys s' | .inr r => some (.inr r)
 | [], s => by rw [l06, runX, bsome]
 | x :: xs, s => by
   rw [l05, runX, runX]
   cases h : Y s x with
   | none => rfl
   | some r =>
     rw [bsome, bsome]
     by_cases hr : r.2 = true
     · rw [if_pos hr, if_pos hr, runX_app Y ys xs]
     rw [if_neg hr, if_neg hr, bsome]
theorem runX_runL {σ α : Type} (Y : σ → α → Option (σ × Bool)) : ∀ (xs : List α) (s : σ), ((runX Y xs s).bind fun o => match o with | .inl s5 => some s5 | .inr r35 => some r35) = runL Y xs s
 | [], s => by rw [runX, bsome]; rfl
 | x :: xs, s => by
   rw [runX, runL]
   cases h : Y s x with
   | none => rfl
   | some r =>
     rw [bsome, bsome]
     by_cases hr : r.2 = true
     · rw [if_pos hr, if_pos hr, runX_runL Y xs]
     rw [if_neg hr, if_neg hr, bsome]
theorem units_L2 {σ : Type} (Y : σ → Ls → Option (σ × Bool)) (a : Ls) (ha : a.length ≤ 1000000) : ∀ (d p m : Nat) (s : σ), a.length - p ≤ d → d < m → p ≤ a.length → vld (a.drop p) = true →
 Y13 Y a m p s = runX Y ((chars (a.drop p)).map (·.2)) s := by
 intro d
 induction d with
 | zero =>
   intro p m s h1 h2 h3 hv
   obtain ⟨m, rfl⟩ : ∃ k, m = k + 1 := ⟨m - 1, by omega⟩
   rw [Y13, if_neg Om, l08 Om]; rfl
 | succ d ih =>
   intro p m s h1 h2 h3 hv
   obtain ⟨m, rfl⟩ : ∃ k, m = k + 1 := ⟨m - 1, by omega⟩
   rw [Y13]
   by_cases hp : p < a.length
   · have hne := Gr.drop_ne (t := a) (n := p) hp
     rw [Chs.vld_cons hne] at hv
     simp only [l0i, decide_eq_true_eq] at hv
     have hrs := Utf.rune_size (a.drop p)
     have h5 := hrs.2.2 hne
     rw [l01] at h5
     have hd : dr (a.drop p) = ((rune (a.drop p)).1.toNat, (rune (a.drop p)).2) := by rw [Utf.rune_dr, if_neg Om]
     have hy : utf8 ((dr (a.drop p)).1 : Int) = (a.drop p).take (rune (a.drop p)).2 := by
      rw [hd, ← Chs.Y4h _ hne hv.1]
      show utf8 (((rune (a.drop p)).1.toNat : Nat) : Int) = _
      rw [l0u hv.1]
     rw [if_pos hp, Gr.chars_cons hne, l0f, runX, hy]
     cases hY : Y s ((a.drop p).take (rune (a.drop p)).2) with
     | none => rfl
     | some r =>
       obtain ⟨s2, b⟩ := r
       rw [bsome, bsome]
       dsimp only
       by_cases hb : b = true
       · rw [if_pos hb, if_pos hb, hd]
         have := ih (p + (rune (a.drop p)).2) m s2 Om Om Om (by rw [← l0l]; exact hv.2)
         rw [← l0l] at this
         exact this
       rw [if_neg hb, if_neg hb]
   rw [if_neg hp, l08 Om]; rfl
theorem seg_mid {cs g : List Ch} {gs : List (List Ch)} (h : gs.flatten = cs) (hg : g ∈ gs) : ∃ A B, cs = A ++ g ++ B := by
 obtain ⟨a, b, rfl⟩ := l2C hg
 exact ⟨a.flatten, b.flatten, by rw [← h]; simp⟩
theorem singles_byts (g : List Ch) : (g.map fun c => [c]).map byts = g.map (·.2) := by
 rw [l1u]; apply l1n; intro c _; simp [byts]
theorem units_L1 {σ : Type} (Y : σ → Ls → Option (σ × Bool)) {k : Nat} (hk : k < 3) (l : Ls) (hl : l.length ≤ 3000) (hok : okE k l) : ∀ (d i m : Nat) (s : σ), (segs (chars l)).length - i ≤ d → d < m → i ≤ (segs (chars l)).length →
 Y0z Y (nam k) (pieces l) m (i : Int) s = runX Y ((((segs (chars l)).drop i).flatMap (usC k)).map byts) s := by
 have hpl := Gr.pieces_len l
 have hsl : (pieces l).length = (segs (chars l)).length := by unfold pieces; rw [l0c]
 intro d
 induction d with
 | zero =>
   intro i m s h1 h2 h3
   obtain ⟨m, rfl⟩ : ∃ k, m = k + 1 := ⟨m - 1, by omega⟩
   rw [Y0z, if_neg Om, l08 Om]; rfl
 | succ d ih =>
   intro i m s h1 h2 h3
   obtain ⟨m, rfl⟩ : ∃ k, m = k + 1 := ⟨m - 1, by omega⟩
   rw [Y0z]
   by_cases hi : i < (segs (chars l)).length
   · have hp : (pieces l)[i]? = some (byts (segs (chars l))[i]) := by unfold pieces; rw [List.getElem?_map, List.getElem?_eq_getElem hi]; rfl
     obtain ⟨A, B, hAB⟩ := seg_mid (Gr.segs_flat (chars l)) (l0L hi)
     have hg := hok.mid hAB
     have hgl := byts_len hAB
     have hgc := chars_mid hAB
     rw [if_pos Om, idx_nat, hp, bsome, word_eq hk Om hg, bsome, l09 hi, l0p, l1i, runX_app]
     unfold usC
     by_cases hw : (W k (byts (segs (chars l))[i])).length ≤ 75
     · rw [if_pos Om, if_pos hw, l0f, l0X, runX]
       cases hY : Y s (byts (segs (chars l))[i]) with
       | none => rfl
       | some r =>
         obtain ⟨s2, b⟩ := r
         rw [bsome, bsome]
         dsimp only
         by_cases hb : b = true
         · rw [if_pos hb, if_pos hb, runX, bsome, chk_succ Om, bsome]
           exact ih (i + 1) m s2 Om Om Om
         rw [if_neg hb, if_neg hb, bsome]
     have h2 := units_L2 Y (byts (segs (chars l))[i]) Om (byts (segs (chars l))[i]).length 0 FU s Om (by rw [FU_eq]; omega) Om (by rw [l0s]; exact hg.v)
     rw [l0s, hgc] at h2
     rw [if_neg Om, if_neg hw, singles_byts, h2]
     refine congrArg (Option.bind _) (funext fun o => ?_)
     cases o with
     | inl s2 =>
       dsimp only
       rw [chk_succ Om, bsome]
       exact ih (i + 1) m s2 Om Om Om
     | inr r => rfl
   rw [if_neg Om, l08 Om]; rfl
theorem units_eq {σ : Type} (Y : σ → Ls → Option (σ × Bool)) (s : σ) {k : Nat} (hk : k < 3) {l : Ls} (hl : l.length ≤ 3000) (hok : okE k l) : Y2m l (nam k) σ Y s = runL Y ((unitsC k l).map byts) s := by
 unfold Y2m grapheme_Split
 have hpl := Gr.pieces_len l
 have hsl : (pieces l).length = (segs (chars l)).length := by unfold pieces; rw [l0c]
 rw [if_pos Om, bsome]
 have := units_L1 Y hk l hl hok _ 0 FU s (l0h _) (by rw [FU_eq]; omega) Om
 rw [l0s] at this
 show ((Y0z Y (nam k) (pieces l) FU ((0 : Nat) : Int) s).bind fun o36 => _) = _
 rw [this]
 exact runX_runL Y _ s
end Go.Ph.Wd
end
section
namespace Go.Ph.Wd
open Go.Ph.Pl Go.Ph.Pf
open Go.Ph.Gr (chars Ch pieces byts segs)
open Go.Ph.Chs (vld setN setOf encK encGo decoded utf8 bestK)
open Go.Ph.Utf (rune dr)
def p2 (k : Nat) (now : List Ch) : List (List Ch) → List (List Ch)
 | [] => [now]
 | u :: us => if (W k (byts (now ++ u))).length ≤ 75 then p2 k (now ++ u) us else now :: p2 k u us
def parts (k : Nat) : List (List Ch) → List (List Ch)
 | [] => []
 | u :: us => p2 k u us
theorem p2_flat (k : Nat) : ∀ (us : List (List Ch)) (now : List Ch), (p2 k now us).flatten = now ++ us.flatten
 | [], now => by simp [p2]
 | u :: us, now => by
   rw [p2]
   split
   · rw [p2_flat k us]; simp
   rw [l0n, p2_flat k us]; simp
theorem p2_len (k : Nat) : ∀ (us : List (List Ch)) (now : List Ch), (p2 k now us).length ≤ us.length + 1
 | [], now => by simp [p2]
 | u :: us, now => by
   rw [p2]
   split
   · have := p2_len k us (now ++ u); simp; omega
   have := p2_len k us u; simp; omega
def gr (k : Nat) (s : List (List Ch) × List Ch) (u : List Ch) : List (List Ch) × List Ch := if s.2 ≠ [] ∧ 75 < (W k (byts (s.2 ++ u))).length then (s.1 ++ [s.2], u) else (s.1, s.2 ++ u)
theorem gr_p2 (k : Nat) : ∀ (us : List (List Ch)) (out : List (List Ch)) (now : List Ch), now ≠ [] → (∀ u ∈ us, u ≠ []) → (us.foldl (gr k) (out, now)).1 ++ [(us.foldl (gr k) (out, now)).2] = out ++ p2 k now us
 | [], out, now, h0, h => by simp [p2]
 | u :: us, out, now, h0, h => by
   rw [l0J, p2]
   by_cases hw : (W k (byts (now ++ u))).length ≤ 75
   · rw [if_pos hw, show gr k (out, now) u = (out, now ++ u) by unfold gr; dsimp only; rw [if_neg (fun e => by have := e.2; omega)]]
     exact gr_p2 k us out (now ++ u) (by simp [h0]) (fun x hx => h x (by simp [hx]))
   rw [if_neg hw, show gr k (out, now) u = (out ++ [now], u) by unfold gr; dsimp only; rw [if_pos ⟨h0, by omega⟩]]
   rw [gr_p2 k us (out ++ [now]) u (h u Sm) (fun x hx => h x (by simp [hx]))]; simp
theorem gr_parts (k : Nat) (us : List (List Ch)) (hne : us ≠ []) (h : ∀ u ∈ us, u ≠ []) : (us.foldl (gr k) ([], [])).1 ++ [(us.foldl (gr k) ([], [])).2] = parts k us := by
 cases us with
 | nil => exact absurd rfl hne
 | cons u us =>
   rw [l0J, show gr k ([], []) u = ([], u) by unfold gr; simp, gr_p2 k us [] u (h u Sm) (fun x hx => h x (by simp [hx]))]; rfl
theorem byts_nil {g : List Ch} {l : Ls} (hs : ∀ c ∈ g, c ∈ chars l) : byts g = [] ↔ g = [] := by
 constructor
 · intro h
   cases g with
   | nil => rfl
   | cons c g =>
     have := Gr.chars_ne l c (hs c Sm)
     simp [byts] at h
     exact absurd h.1 this
 rintro rfl; rfl
theorem wrap_len (k : Nat) (hk : k < 4) (b : Ls) : (wrap k b).length ≤ 20 + 4 * (b.length + 2) := by
 have hn := nam_len k hk
 have hd := dq_len b
 have hc := B64.chars_len b
 unfold wrap
 simp only [l00, l02, l03]
 split
 · simp only [l00, l02, l03]; omega
 simp only [l00, l02, l03]; omega
theorem W_len (k : Nat) (hk : k < 4) (l : Ls) : (W k l).length ≤ 28 + 16 * l.length := by
 have := wrap_len k hk (enc k l)
 have := enc_len k l
 unfold W; omega
theorem mid_mem {l : Ls} {A g B : List Ch} (h : chars l = A ++ g ++ B) : ∀ c ∈ g, c ∈ chars l := fun c hc => by rw [h]; simp [hc]
theorem encY {k : Nat} (hk : k < 3) {l : Ls} (hl : l.length ≤ 1000) (hok : okE k l) (out : List (List Ch)) (now u : List Ch) {A B : List Ch} (hs : chars l = A ++ (now ++ u) ++ B) (hout : out.length ≤ 2000) :
 Y1p (nam k) (out.map fun g => W k (byts g), byts now) (byts u) = some ((gr k (out, now) u).1.map (fun g => W k (byts g)), byts (gr k (out, now) u).2) := by
 have h1 := hok.mid hs
 have hl1 := byts_len hs
 have h2 := hok.mid (A := A) (g := now) (B := u ++ B) (by rw [hs]; simp)
 have hl2 := byts_len (l := l) (A := A) (g := now) (B := u ++ B) (by rw [hs]; simp)
 have hm := mid_mem (l := l) (A := A) (g := now) (B := u ++ B) (by rw [hs]; simp)
 have hn := byts_nil hm
 have hb := byts_app now u
 have hbl : (byts (now ++ u)).length = (byts now).length + (byts u).length := by rw [hb, l00]
 unfold Y1p gr
 dsimp only
 by_cases h0 : now = []
 · subst h0
   have hb0 : byts ([] : List Ch) = [] := rfl
   rw [if_pos hb0, bsome, if_neg l07, if_neg (fun e => e.1 rfl), hb0, cat_ok (by simp only [l03]; omega), bsome]
   rfl
 rw [if_neg (fun e => h0 (hn.1 e)), cat_ok Om, bsome, ← hb, word_eq hk Om h1, bsome, bsome]
 by_cases hw : 75 < (W k (byts (now ++ u))).length
 · rw [if_pos (decide_eq_true Om), word_eq hk Om h2, bsome, app_ok (by rw [l0c]; simp only [l02, l03]; omega), bsome, cat_ok (by simp only [l03]; omega), bsome, if_pos ⟨h0, hw⟩]
   simp
 rw [if_neg (by rw [decide_eq_true_eq]; omega), if_neg (fun e => hw e.2), bsome]
theorem gr_len (k : Nat) (s : List (List Ch) × List Ch) (u : List Ch) : (gr k s u).1.length ≤ s.1.length + 1 := by unfold gr; split <;> simp
theorem gr_flat (k : Nat) (s : List (List Ch) × List Ch) (u : List Ch) : (gr k s u).1.flatten ++ (gr k s u).2 = s.1.flatten ++ s.2 ++ u := by unfold gr; split <;> simp
theorem encFold {k : Nat} (hk : k < 3) {l : Ls} (hl : l.length ≤ 1000) (hok : okE k l) : ∀ (us : List (List Ch)) (s : List (List Ch) × List Ch) (n : Nat), chars l = (s.1.flatten ++ s.2) ++ us.flatten → s.1.length + us.length ≤ 2000 →
 (us.map byts).foldlM (Y1p (nam k)) (s.1.map fun g => W k (byts g), byts s.2) = some ((us.foldl (gr k) s).1.map (fun g => W k (byts g)), byts (us.foldl (gr k) s).2)
 | [], s, n, hs, hlen => rfl
 | u :: us, s, n, hs, hlen => by
   rw [l0f, List.foldlM_cons, l0J]
   show Option.bind _ _ = _
   rw [encY hk hl hok s.1 s.2 u (A := s.1.flatten) (B := us.flatten) (by rw [hs]; simp) Om, bsome]
   exact encFold hk hl hok us (gr k s u) n (by rw [hs, gr_flat]; simp) (by have := gr_len k s u; simp only [l02] at hlen; omega)
theorem unitsC_len (k : Nat) (l : Ls) : (unitsC k l).length ≤ l.length := by
 have h : ∀ us : List (List Ch), (∀ u ∈ us, u ≠ []) → us.length ≤ us.flatten.length := by
  intro us
  induction us with
  | nil => simp
  | cons u us ih =>
    intro h
    have h1 := ih (fun x hx => h x (by simp [hx]))
    have h2 := List.length_pos_iff.2 (h u Sm)
    simp only [l0n, l00, l02]; omega
 have h1 := h (unitsC k l) (unitsC_ne k l)
 rw [unitsC_flat] at h1
 have := chars_len l
 omega
def rep (k : Nat) (l : Ls) : Ls := jn [32] ((parts k (unitsC k l)).map fun g => W k (byts g))
theorem jn_len (sep : Ls) (n : Nat) : ∀ (ws : List Ls), (∀ w ∈ ws, w.length ≤ n) → (jn sep ws).length ≤ ws.length * (n + sep.length)
 | [], _ => by simp [jn]
 | [x], h => by have := h x Sm; simp [jn]; omega
 | x :: y :: r, h => by
   have h1 := h x Sm
   have h2 := jn_len sep n (y :: r) (fun w hw => h w (by simp [hw]))
   simp only [jn, l00, l02] at h2 ⊢
   rw [l2o]; omega
theorem parts_flat (k : Nat) (us : List (List Ch)) : (parts k us).flatten = us.flatten := by
 cases us with
 | nil => rfl
 | cons u us => rw [parts, p2_flat]; rfl
theorem parts_len (k : Nat) (us : List (List Ch)) : (parts k us).length ≤ us.length := by
 cases us with
 | nil => simp [parts]
 | cons u us => rw [parts]; have := p2_len k us u; simp; omega
theorem part_mid (k : Nat) (l : Ls) {g : List Ch} (hg : g ∈ parts k (unitsC k l)) : ∃ A B, chars l = A ++ g ++ B := seg_mid (by rw [parts_flat, unitsC_flat]) hg
theorem parts_bound {k : Nat} (hk : k < 4) {l : Ls} : ∀ w ∈ (parts k (unitsC k l)).map (fun g => W k (byts g)), w.length ≤ 28 + 16 * l.length := fun w hw => by
 obtain ⟨g, hg, rfl⟩ := List.mem_map.1 hw
 obtain ⟨A, B, h⟩ := part_mid k l hg
 have := byts_len h
 have := W_len k hk (byts g)
 omega
theorem rep_len {k : Nat} (hk : k < 4) {l : Ls} (hl : l.length ≤ 1000) : (rep k l).length ≤ 20000000 := by
 have h1 := jn_len [32] _ _ (parts_bound hk (l := l))
 have h2 := parts_len k (unitsC k l)
 have h3 := unitsC_len k l
 rw [l0c] at h1
 have h4 : (parts k (unitsC k l)).length * (28 + 16 * l.length + 1) ≤ 1000 * (28 + 16 * 1000 + 1) := Nat.mul_le_mul Om Om
 unfold rep
 simp only [l02, l03, l0v] at h1
 omega
theorem encTail {k : Nat} (hk : k < 3) {l : Ls} (hl : l.length ≤ 1000) (h0 : l ≠ []) (hok : okE k l) :
 ((Y3g (nam k) l).bind fun (z19, z21) => (Y2m z19 z21 (List Ls × Ls) (stepY goOn (Y1p (nam k))) ([], [])).bind fun (l25, s27) => (Y2l (nam k) s27).bind fun s49 => (app 16 l25 ([s49] : List Ls)).bind fun l51 => (Y0v l51 [32]).bind fun s53 => (Y0F).bind fun (n55, n56) => some (s53, (n55, n56)))
  = some (rep k l, (0, 0)) := by
 unfold Y3g
 rw [bsome]
 dsimp only
 have hne : unitsC k l ≠ [] := fun e => by
  have := unitsC_flat k l
  rw [e] at this
  rw [Gr.chars_cons h0] at this; cases this
 have hul := unitsC_len k l
 rw [units_eq _ _ hk Om hok, runL_goOn]
 have hf := encFold hk hl hok (unitsC k l) ([], []) 0 (by rw [unitsC_flat]; rfl) (by simp; omega)
 have hp := gr_parts k (unitsC k l) hne (unitsC_ne k l)
 have hb : byts ([] : List Ch) = [] := rfl
 rw [hb] at hf
 simp only [l0X] at hf
 rw [hf, bsome]
 dsimp only
 obtain ⟨A, B, hAB⟩ := part_mid k l (g := ((unitsC k l).foldl (gr k) ([], [])).2) (by rw [← hp]; simp)
 have hbl := byts_len hAB
 have hpl := parts_len k (unitsC k l)
 have hpl2 := congrArg List.length hp
 simp only [l00, l02, l03] at hpl2
 have hrl := rep_len (k := k) Om hl
 rw [word_eq hk Om (hok.mid hAB), bsome, app_ok (by rw [l0c]; simp only [l02, l03]; omega), bsome]
 have hj : (((unitsC k l).foldl (gr k) ([], [])).1.map (fun g => W k (byts g))) ++ [W k (byts ((unitsC k l).foldl (gr k) ([], [])).2)] = (parts k (unitsC k l)).map fun g => W k (byts g) := by
  rw [← hp]; simp
 rw [hj]
 unfold Y0v Y0F
 unfold rep at hrl
 rw [if_pos ⟨by rw [l0c]; omega, by omega⟩, bsome, bsome]
 rfl
theorem Y4n : ∀ (n : Nat) (l : Ls), l.length ≤ n → vld l = true → ∀ c ∈ chars l, utf8 c.1 = c.2
 | 0, l, hn, hv => by
   obtain rfl : l = [] := l0b Om
   intro c hc; cases hc
 | n + 1, l, hn, hv => by
   by_cases hl : l = []
   · subst hl; intro c hc; cases hc
   rw [Chs.vld_cons hl] at hv
   simp only [l0i, decide_eq_true_eq] at hv
   have hrs := Utf.rune_size l
   intro c hc
   rw [Gr.chars_cons hl] at hc
   rcases List.mem_cons.1 hc with rfl | hc
   · exact Chs.Y4h l hl hv.1
   exact Y4n n (l.drop (rune l).2) (by rw [l01]; omega) hv.2 c hc
theorem flatMap_one {α β : Type} (f : α → β) : ∀ l : List α, l.flatMap (fun a => [f a]) = l.map f
 | [] => rfl
 | a :: l => by rw [l0p, flatMap_one f l]; rfl
theorem runits_L2 (ns : List Int) (o : List Ls) (hn : ns.length ≤ 1000000) (ho : o.length ≤ 1000000) : Y1e ns FU o 0 = some (o ++ ns.map utf8) := by
 rw [foldI0 (L := fun m s i => Y1e ns m s i) ns (fun o c => o ++ [utf8 c]) id (fun i s => s.length = o.length + i) Om ?_ ?_ o Sm, foldl_app]
 · rw [flatMap_one]; rfl
 · intro m s hs
   rw [Y1e, if_neg Om]; rfl
 intro m s i a ha hs
 have hi := (List.getElem?_eq_some_iff.1 ha).1
 refine ⟨by rw [l00]; simp; omega, ?_⟩
 rw [Y1e, if_pos Om, idx_nat, ha, bsome]
 unfold R_Utf8
 rw [bsome, app_ok (by simp; omega), bsome, chk_succ Om, bsome]
theorem usC_len (k : Nat) (g : List Ch) : (usC k g).length ≤ g.length + 1 := by unfold usC; split <;> simp
theorem runits_eq {k : Nat} (hk : k < 3) {l : Ls} (hl : l.length ≤ 1000) (hok : okE k l) : Y2T (nam k) l = some ((unitsC k l).map byts) := by
 unfold Y2T Y4x
 have hpl := Gr.pieces_len l
 rw [if_pos Om, bsome]
 rw [foldI0 (L := fun m s i => Y1f (nam k) (pieces l) m s i) (segs (chars l)) (fun o g => o ++ (usC k g).map byts) id (fun i s => s.length ≤ 1001 * i) (by unfold pieces at hpl; rw [l0c] at hpl; omega) ?_ ?_ [] Sm, foldl_app, bsome]
 · simp only [l06, id]
   unfold unitsC
   rw [List.map_flatMap]
 · intro m s hs
   rw [Y1f, if_neg (by unfold pieces; rw [l0c]; omega)]; rfl
 intro m s i a ha hs
 obtain ⟨hi, rfl⟩ := List.getElem?_eq_some_iff.1 ha
 have hp : (pieces l)[i]? = some (byts (segs (chars l))[i]) := by unfold pieces; rw [List.getElem?_map, ha]; rfl
 have hpi := (List.getElem?_eq_some_iff.1 hp).1
 obtain ⟨A, B, hAB⟩ := seg_mid (Gr.segs_flat (chars l)) (l0L hi)
 have hg := hok.mid hAB
 have hgl := byts_len hAB
 have hgc := chars_mid hAB
 have hcl := chars_len (byts (segs (chars l))[i])
 rw [hgc] at hcl
 have hul := usC_len k (segs (chars l))[i]
 refine ⟨by rw [l00, l0c]; omega, ?_⟩
 rw [Y1f, if_pos Om, idx_nat, hp, bsome, rword_eq hk Om hg, bsome]
 unfold usC
 by_cases hw : (W k (byts (segs (chars l))[i])).length ≤ 75
 · rw [if_pos Om, if_pos hw, bsome, app_ok (by simp; omega), bsome, chk_succ Om, bsome]; rfl
 unfold R_Runes
 rw [if_neg Om, if_neg hw, bsome, if_pos Om, bsome, hgc, runits_L2 _ _ (by rw [l0c]; omega) Om, bsome, chk_succ Om, bsome, singles_byts, l1u]
 have : (segs (chars l))[i].map (utf8 ∘ fun x => x.1) = (segs (chars l))[i].map (·.2) := l1n fun c hc => by
  have h1 := Y4n _ (byts (segs (chars l))[i]) (l0h _) hg.v c (by rw [hgc]; exact hc)
  exact h1
 rw [this]
def ext (k : Nat) (now : List Ch) : List (List Ch) → Nat × List Ch
 | [] => (0, now)
 | u :: us => if (W k (byts (now ++ u))).length ≤ 75 then ((ext k (now ++ u) us).1 + 1, (ext k (now ++ u) us).2) else (0, now)
theorem ext_le (k : Nat) : ∀ (us : List (List Ch)) (now : List Ch), (ext k now us).1 ≤ us.length
 | [], now => l0h _
 | u :: us, now => by
   rw [ext]; split
   · have := ext_le k us (now ++ u); simp; omega
   simp
theorem p2_ext (k : Nat) : ∀ (us : List (List Ch)) (now : List Ch), p2 k now us = (ext k now us).2 :: parts k (us.drop (ext k now us).1)
 | [], now => rfl
 | u :: us, now => by
   rw [p2, ext]; split
   · rw [p2_ext k us]; rfl
   rfl
theorem rwords_L2 {k : Nat} (hk : k < 3) {l : Ls} (hl : l.length ≤ 1000) (hok : okE k l) (us : List (List Ch)) (hus : us.length ≤ 1000) : ∀ (d n m : Nat) (now : List Ch) (A : List Ch), us.length - n ≤ d → d < m → n ≤ us.length → chars l = A ++ now ++ (us.drop n).flatten →
 Y2E (nam k) (us.map byts) m (n : Int) (byts now) = some (((n + (ext k now (us.drop n)).1 : Nat) : Int), byts (ext k now (us.drop n)).2) := by
 intro d
 induction d with
 | zero =>
   intro n m now A h1 h2 h3 hs
   obtain ⟨m, rfl⟩ : ∃ k, m = k + 1 := ⟨m - 1, by omega⟩
   rw [Y2E, if_neg (by rw [l0c]; omega), bsome, if_neg l07, l08 Om]; rfl
 | succ d ih =>
   intro n m now A h1 h2 h3 hs
   obtain ⟨m, rfl⟩ : ∃ k, m = k + 1 := ⟨m - 1, by omega⟩
   rw [Y2E]
   by_cases hn : n < us.length
   · have hd := l09 hn
     have hs2 : chars l = A ++ (now ++ us[n]) ++ (us.drop (n + 1)).flatten := by rw [hs, hd, l0n]; simp only [l0d]
     have h4 := hok.mid hs2
     have h5 := byts_len hs2
     have h6 := byts_app now us[n]
     have h7 : (byts (now ++ us[n])).length = (byts now).length + (byts us[n]).length := by rw [h6, l00]
     have hi : (us.map byts)[n]? = some (byts us[n]) := by rw [List.getElem?_map, List.getElem?_eq_getElem hn]; rfl
     rw [if_pos (by rw [l0c]; omega), idx_nat, hi, bsome, cat_ok Om, bsome, ← h6, rword_eq hk Om h4, bsome, bsome, hd, ext]
     by_cases hw : (W k (byts (now ++ us[n]))).length ≤ 75
     · rw [if_pos (decide_eq_true Om), if_pos hw, bsome, cat_ok Om, bsome, ← h6, chk_succ Om, bsome, ih (n + 1) m (now ++ us[n]) A Om Om Om hs2]
       simp only [l1y, l2b 1]
     rw [if_neg (by rw [decide_eq_true_eq]; omega), if_neg hw]; rfl
   rw [if_neg (by rw [l0c]; omega), bsome, if_neg l07, l08 Om]; rfl
theorem W_ne (k : Nat) (l : Ls) : W k l ≠ [] := by unfold W wrap; simp
def more (ws : List Ls) : Ls := ws.flatMap fun w => 32 :: w
theorem jn_more : ∀ (w : Ls) (ws : List Ls), jn [32] (w :: ws) = w ++ more ws
 | w, [] => by simp [jn, more]
 | w, x :: ws => by rw [jn, jn_more x ws]; simp [more]
theorem ext_flat (k : Nat) : ∀ (us : List (List Ch)) (now : List Ch), (ext k now us).2 ++ (us.drop (ext k now us).1).flatten = now ++ us.flatten
 | [], now => by simp [ext]
 | u :: us, now => by
   rw [ext]; split
   · show (ext k (now ++ u) us).2 ++ (us.drop (ext k (now ++ u) us).1).flatten = _
     rw [ext_flat k us]; simp
   rfl
theorem rwords_L1 {k : Nat} (hk : k < 3) {l : Ls} (hl : l.length ≤ 1000) (hok : okE k l) (us : List (List Ch)) (hus : us.length ≤ 1000) : ∀ (d n m : Nat) (o : Ls) (A : List Ch), us.length - n ≤ d → d < m → n ≤ us.length → chars l = A ++ (us.drop n).flatten → o.length ≤ 17000 * n →
 Y2a (nam k) (us.map byts) m o (n : Int) = some (if o = [] then jn [32] ((parts k (us.drop n)).map fun g => W k (byts g)) else o ++ more ((parts k (us.drop n)).map fun g => W k (byts g))) := by
 intro d
 induction d with
 | zero =>
   intro n m o A h1 h2 h3 hs ho
   obtain ⟨m, rfl⟩ : ∃ k, m = k + 1 := ⟨m - 1, by omega⟩
   rw [Y2a, if_neg (by rw [l0c]; omega), l08 Om]
   split
   · rename_i h; subst h; rfl
   simp [parts, more]
 | succ d ih =>
   intro n m o A h1 h2 h3 hs ho
   obtain ⟨m, rfl⟩ : ∃ k, m = k + 1 := ⟨m - 1, by omega⟩
   rw [Y2a]
   by_cases hn : n < us.length
   · have hd := l09 hn
     have hs2 : chars l = A ++ us[n] ++ (us.drop (n + 1)).flatten := by rw [hs, hd, l0n]; simp only [l0d]
     have hi : (us.map byts)[n]? = some (byts us[n]) := by rw [List.getElem?_map, List.getElem?_eq_getElem hn]; rfl
     have hx := ext_le k (us.drop (n + 1)) us[n]
     rw [l01] at hx
     have hxf := ext_flat k (us.drop (n + 1)) us[n]
     rw [l0l] at hxf
     have hs3 : chars l = A ++ (ext k us[n] (us.drop (n + 1))).2 ++ (us.drop (n + 1 + (ext k us[n] (us.drop (n + 1))).1)).flatten := by rw [hs2, l0d, l0d, hxf]
     have h4 := hok.mid hs3
     have h5 := byts_len hs3
     have h6 := W_len k Om (byts (ext k us[n] (us.drop (n + 1))).2)
     rw [if_pos (by rw [l0c]; omega), idx_nat, hi, bsome, chk_succ Om, bsome, rwords_L2 hk hl hok us hus (us.length - (n + 1)) (n + 1) FU us[n] A Om (by rw [FU_eq]; omega) Om hs2, bsome]
     dsimp only
     have hpp : parts k (us.drop n) = (ext k us[n] (us.drop (n + 1))).2 :: parts k (us.drop (n + 1 + (ext k us[n] (us.drop (n + 1))).1)) := by rw [hd, parts, p2_ext, l0l]
     by_cases h0 : o = []
     · subst h0
       rw [if_pos rfl, if_pos rfl, bsome, rword_eq hk Om h4, bsome, cat_ok (by simp only [l03]; omega), bsome, ih _ m _ (A ++ (ext k us[n] (us.drop (n + 1))).2) Om Om Om hs3 (by simp only [l00, l03]; omega), if_neg (by rw [l06]; exact W_ne _ _), hpp, l0f, jn_more]
       rfl
     rw [if_neg h0, if_neg h0, cat_ok (by simp only [l02, l03]; omega), bsome, bsome, rword_eq hk Om h4, bsome, cat_ok (by simp only [l00, l02, l03]; omega), bsome, ih _ m _ (A ++ (ext k us[n] (us.drop (n + 1))).2) Om Om Om hs3 (by simp only [l00, l02, l03]; omega), if_neg (by simp [h0]), hpp, l0f]
     simp [more]
   rw [if_neg (by rw [l0c]; omega), l08 Om]
   split
   · rename_i h; subst h; rfl
   simp [parts, more]
theorem rwords_tail {k : Nat} (hk : k < 3) {l : Ls} (hl : l.length ≤ 1000) (hok : okE k l) :
 ((Y2T (nam k) l).bind fun l6 => (Y2a (nam k) l6 FU [] 0).bind fun s10 => some s10) = some (rep k l) := by
 have hul := unitsC_len k l
 rw [runits_eq hk hl hok, bsome]
 have := rwords_L1 hk hl hok (unitsC k l) Om (unitsC k l).length 0 FU [] [] Om (by rw [FU_eq]; omega) Om (by rw [l0s, unitsC_flat]; rfl) Sm
 rw [l0s, if_pos rfl] at this
 show ((Y2a (nam k) ((unitsC k l).map byts) FU [] ((0 : Nat) : Int)).bind fun s10 => some s10) = _
 rw [this, bsome]; rfl
end Go.Ph.Wd
end
section
namespace Go.Ph.Wd
open Go.Ph.Pl Go.Ph.Pf
open Go.Ph.Gr (chars Ch pieces byts segs)
open Go.Ph.Chs (vld setN setOf encK encGo decoded utf8 bestK)
open Go.Ph.Utf (rune dr)
theorem prefix_eq (s p : Ls) (hs : s.length ≤ 9223372036854775807) : Y0p s p = some (decide (p <+: s)) := by
 unfold Y0p Y0U
 by_cases h : p.length ≤ s.length
 · rw [if_pos Om, cut_to rfl h, bsome, bsome, bsome]
   congr 1
   rw [decide_eq_decide, List.prefix_iff_eq_take]
   exact ⟨fun e => e.symm, fun e => e.symm⟩
 rw [if_neg Om, bsome, bsome, decide_eq_false (fun e => h e.length_le)]
theorem suffix_eq (s p : Ls) (hs : s.length ≤ 9223372036854775807) : Y0V s p = some (decide (p <:+ s)) := by
 unfold Y0V Y0f
 by_cases h : p.length ≤ s.length
 · rw [if_pos Om, chk_ok Om Om, bsome, show (s.length : Int) - (p.length : Int) = ((s.length - p.length : Nat) : Int) by omega, cut_from rfl Om, bsome, bsome, bsome]
   congr 1
   rw [decide_eq_decide, List.suffix_iff_eq_drop]
   exact ⟨fun e => e.symm, fun e => e.symm⟩
 rw [if_neg Om, bsome, bsome, decide_eq_false (fun e => h e.length_le)]
theorem index_short {l sub : Ls} (h : l.length < sub.length) : Lib.index l sub = -1 := by
 have h1 := Lib.index_ge l sub
 have h2 := Lib.index_room l sub
 by_cases h3 : 0 ≤ Lib.index l sub
 · have := h2 h3; omega
 omega
def fnd (s sub : Ls) (i : Nat) : Int := if Lib.index (s.drop i) sub = -1 then -1 else (i : Int) + Lib.index (s.drop i) sub
theorem fnd_here {s sub : Ls} {i : Nat} (hi : i < s.length) (h : sub <+: s.drop i) : fnd s sub i = (i : Int) := by
 unfold fnd
 rw [l09 hi] at h ⊢
 have : Lib.index (s[i] :: s.drop (i + 1)) sub = 0 := by rw [Lib.index, if_pos (List.isPrefixOf_iff_prefix.2 h)]
 rw [this]; simp
theorem fnd_next {s sub : Ls} {i : Nat} (hi : i < s.length) (h : ¬ sub <+: s.drop i) : fnd s sub i = fnd s sub (i + 1) := by
 unfold fnd
 have hd := l09 hi
 rw [hd] at h ⊢
 have hn : ¬ sub.isPrefixOf (s[i] :: s.drop (i + 1)) = true := fun e => h (List.isPrefixOf_iff_prefix.1 e)
 have h1 := Lib.index_ge (s.drop (i + 1)) sub
 rw [Lib.index, if_neg hn]
 by_cases h2 : Lib.index (s.drop (i + 1)) sub = -1
 · rw [h2]; simp
 have h3 : ¬ (Lib.index (s.drop (i + 1)) sub == -1) = true := by simpa using h2
 rw [if_neg h3, if_neg h2, if_neg Om]; omega
theorem fnd_none {s sub : Ls} {i : Nat} (hi : i ≤ s.length) (h : s.length < i + sub.length) : fnd s sub i = -1 := by
 unfold fnd
 rw [if_pos (index_short (by rw [l01]; omega))]
theorem find_L1 (s sub : Ls) (hs : s.length ≤ 1000000000) (hb : sub.length ≤ 1000) (h0 : sub ≠ []) : ∀ (d i m : Nat), s.length - i ≤ d → d < m → i ≤ s.length → Y30 s sub m (i : Int) = some (if fnd s sub i = -1 then .inl () else .inr (fnd s sub i)) := by
 have h0' := List.length_pos_iff.2 h0
 intro d
 induction d with
 | zero =>
   intro i m h1 h2 h3
   obtain ⟨m, rfl⟩ : ∃ k, m = k + 1 := ⟨m - 1, by omega⟩
   rw [Y30, chk_ok Om Om, bsome, if_neg Om, fnd_none Om Om, if_pos rfl]
 | succ d ih =>
   intro i m h1 h2 h3
   obtain ⟨m, rfl⟩ : ∃ k, m = k + 1 := ⟨m - 1, by omega⟩
   rw [Y30, chk_ok Om Om, bsome]
   by_cases hr : i + sub.length ≤ s.length
   · rw [if_pos Om, bsome, show ((i : Int) + (sub.length : Int)) = ((i + sub.length : Nat) : Int) by omega, cut_of rfl rfl Om hr, bsome]
     have hpe : (s.take (i + sub.length)).drop i = (s.drop i).take sub.length := by rw [l0Z]; congr 1; omega
     by_cases hp : sub <+: s.drop i
     · rw [if_pos (by rw [hpe]; exact (List.prefix_iff_eq_take.1 hp).symm), fnd_here Om hp, if_neg Om]
     rw [if_neg (fun e => hp (by rw [hpe] at e; exact List.prefix_iff_eq_take.2 e.symm)), chk_succ Om, bsome, ih (i + 1) m Om Om Om, fnd_next Om hp]
   rw [if_neg Om, fnd_none Om Om, if_pos rfl]
theorem find_eq (s sub : Ls) (i : Nat) (hs : s.length ≤ 1000000000) (hb : sub.length ≤ 1000) (h0 : sub ≠ []) (hi : i ≤ s.length) : R_Find s sub (i : Int) = some (fnd s sub i) := by
 unfold R_Find
 rw [find_L1 s sub hs hb h0 s.length i FU Om (by rw [FU_eq]; omega) hi, bsome]
 by_cases h : fnd s sub i = -1
 · rw [if_pos h, h]
 rw [if_neg h]
def okc (c : UInt8) : Bool := decide (32 ≤ c.toNat ∧ c.toNat ≤ 126)
def pln (s : Ls) : Bool := s.all okc && (!decide ([32] <+: s) && (!decide ([32] <:+ s) && !Lib.contains s [61, 63]))
theorem all_any (s : Ls) : s.all okc = !s.any fun c => !okc c := by
 induction s with
 | nil => rfl
 | cons c s ih => rw [l0A, l0T, ih]; cases okc c <;> simp
theorem okc_prog (c : UInt8) : (if c.toNat < 32 then some true else some (decide (126 < c.toNat))) = some (!okc c) := by
 unfold okc
 by_cases h : c.toNat < 32
 · rw [if_pos h, decide_eq_false Om]; rfl
 rw [if_neg h]
 by_cases h2 : 126 < c.toNat
 · rw [decide_eq_true h2, decide_eq_false Om]; rfl
 rw [decide_eq_false h2, decide_eq_true Om]; rfl
theorem plain_eq (s : Ls) (hs : s.length ≤ 1000000) : Y3f s = some (pln s) := by
 unfold Y3f Y1o pln
 rw [all_any, scan0 (L := fun m i => Y1w s m i) (l := s) (p := fun c => !okc c) (stop := .inl ()) (r := .inr false) (by rw [FU_eq]; omega) (fun m => by rw [Y1w, if_neg Om]) (fun m i h => by
  rw [Y1w, if_pos Om, idx_nat, List.getElem?_eq_getElem h, bsome, bsome, okc_prog, bsome]
  by_cases hc : (!okc s[i]) = true
  · rw [if_pos hc, if_pos hc]
  rw [if_neg hc, if_neg hc, chk_succ Om, bsome]), bsome]
 by_cases ha : (s.any fun c => !okc c) = true
 · rw [if_pos ha, ha]; rfl
 have ha' := (l1H _).mp ha
 rw [if_neg ha, ha']
 dsimp only
 rw [prefix_eq s [32] Om, bsome]
 by_cases h1 : [32] <+: s
 · rw [decide_eq_true h1, if_pos rfl, bsome]; rfl
 rw [decide_eq_false h1, if_neg l07, suffix_eq s [32] Om, bsome]
 by_cases h2 : [32] <:+ s
 · rw [decide_eq_true h2, if_pos rfl, bsome]; rfl
 rw [decide_eq_false h2, if_neg l07, if_pos Om, bsome, bsome]; rfl
theorem pre1 (s : Ls) (c : UInt8) : [c] <+: s ↔ s.head? = some c := by
 cases s with
 | nil => simp
 | cons a s => simp [List.cons_prefix_cons, eq_comm]
theorem suf1 (s : Ls) (c : UInt8) : [c] <:+ s ↔ s.getLast? = some c := by
 rw [← List.reverse_prefix, List.reverse_singleton, pre1, List.head?_reverse]
theorem contains_fnd (s sub : Ls) : Lib.contains s sub = !decide (fnd s sub 0 < 0) := by
 unfold Lib.contains fnd
 have h1 := Lib.index_ge s sub
 rw [l0s]
 by_cases h : Lib.index s sub = -1
 · rw [if_pos h, h]; rfl
 rw [if_neg h, decide_eq_true Om, decide_eq_false Om]; rfl
theorem rplain_eq (s : Ls) (hs : s.length ≤ 1000000) : R_Plain s = some (pln s) := by
 unfold R_Plain pln
 rw [all_any, scan0 (L := fun m i => Y2D s m i) (l := s) (p := fun c => !okc c) (stop := .inl ()) (r := .inr false) (by rw [FU_eq]; omega) (fun m => by rw [Y2D, if_neg Om]) (fun m i h => by
  rw [Y2D, if_pos Om, idx_nat, List.getElem?_eq_getElem h, bsome, rin_eq, bsome]
  have he : (decide ((32 : Int) ≤ (s[i].toNat : Int) ∧ (s[i].toNat : Int) ≤ 126)) = okc s[i] := by unfold okc; rw [decide_eq_decide]; omega
  rw [he]
  by_cases hc : okc s[i] = true
  · rw [if_pos hc, if_neg (by rw [hc]; decide), chk_succ Om, bsome]
  rw [if_neg hc, if_pos (by simpa using hc)]), bsome]
 by_cases ha : (s.any fun c => !okc c) = true
 · rw [if_pos ha, ha]; rfl
 have ha' := (l1H _).mp ha
 rw [if_neg ha, ha']
 dsimp only
 have hf := find_eq s [61, 63] 0 Om Sm Sm Om
 rw [show ((0 : Nat) : Int) = 0 from rfl] at hf
 rw [hf, bsome, contains_fnd, Bool.not_not, Bool.not_false, l1S]
 by_cases h1 : fnd s [61, 63] 0 < 0
 · rw [if_pos h1, decide_eq_true h1, Bool.and_true]
   by_cases h2 : s = []
   · subst h2; rw [if_pos rfl, bsome]; rfl
   have hl := List.length_pos_iff.2 h2
   rw [if_neg h2]
   have h3 : idx s 0 = some s[0] := by rw [show (0 : Int) = ((0 : Nat) : Int) from rfl, idx_nat, List.getElem?_eq_getElem hl]
   have h4 : s.head? = some s[0] := by rw [List.head?_eq_getElem?, List.getElem?_eq_getElem hl]
   have h5 : s.getLast? = some s[s.length - 1] := by rw [List.getLast?_eq_getElem?, List.getElem?_eq_getElem Om]
   rw [h3, bsome]
   have e1 : decide ([32] <+: s) = decide (s[0] = 32) := by rw [decide_eq_decide, pre1, h4]; simp
   have e2 : decide ([32] <:+ s) = decide (s[s.length - 1] = 32) := by rw [decide_eq_decide, suf1, h5]; simp
   rw [e1, e2]
   by_cases h6 : s[0] = 32
   · rw [if_pos h6, decide_eq_true h6, bsome]; rfl
   rw [if_neg h6, decide_eq_false h6, show (s.length : Int) - 1 = ((s.length - 1 : Nat) : Int) by omega, chk_ok Om Om, bsome, idx_nat, List.getElem?_eq_getElem Om, bsome, bsome]; rfl
 rw [if_neg h1, decide_eq_false h1, bsome]
 simp
theorem bestK_le (l : Ls) : bestK l ≤ 2 := by
 unfold bestK
 split
 · omega
 split <;> omega
theorem best_ok {l : Ls} (hv : vld l = true) : okE (bestK l) l := by
 refine ⟨hv, fun c hc => ?_⟩
 have h0 : 0 ≤ c.1 := by
  unfold vld at hv
  exact of_decide_eq_true (List.all_eq_true.1 hv c hc)
 have hf : Chs.fix0 c.1 = c.1 := by unfold Chs.fix0; rw [if_neg Om]
 unfold bestK encK
 by_cases h1 : (chars l).any (fun c => decide (255 < Chs.fix0 c.1)) = true
 · rw [if_pos h1]; exact ⟨_, rfl⟩
 rw [if_neg h1]
 have h1' : c.1 ≤ 255 := by
  have := mt (List.any_eq_true.2) h1
  have h2 : ¬ 255 < Chs.fix0 c.1 := fun e => this ⟨c, hc, decide_eq_true e⟩
  omega
 by_cases h2 : (chars l).any (fun c => decide (127 < Chs.fix0 c.1)) = true
 · rw [if_pos h2]
   refine ⟨[ub c.1], ?_⟩
   show Chs.encS 256 c.1 = _
   unfold Chs.encS; rw [if_pos Om]
 rw [if_neg h2]
 have h3 : c.1 ≤ 127 := by
  have := mt (List.any_eq_true.2) h2
  have h4 : ¬ 127 < Chs.fix0 c.1 := fun e => this ⟨c, hc, decide_eq_true e⟩
  omega
 refine ⟨[ub c.1], ?_⟩
 show Chs.encS 128 c.1 = _
 unfold Chs.encS; rw [if_pos Om]
theorem encode_mal {s : Ls} (h : s.length ≤ 1000) (hv : vld s = false) : Y0w s = some ([], (5, -2)) := by
 unfold Y0w Y09 Y12
 rw [if_neg Om, if_pos Om, bsome, hv, if_neg l07, bsome]
theorem encode_own {s : Ls} (h : s.length ≤ 1000) (hv : vld s = true) (hp : pln s = true) : Y0w s = some (s, (0, 0)) := by
 unfold Y0w Y0F Y12
 rw [if_neg Om, if_pos Om, bsome, hv, if_pos rfl, plain_eq _ Om, bsome, hp, if_pos rfl, bsome]
theorem encode_rep {s : Ls} (h : s.length ≤ 1000) (hv : vld s = true) (hp : pln s = false) : Y0w s = some (rep (bestK s) s, (0, 0)) := by
 have hb := bestK_le s
 have h0 : s ≠ [] := by rintro rfl; revert hp; decide
 have ht := encTail (k := bestK s) Om h h0 (best_ok hv)
 unfold Y0w Y12 Y3r
 rw [if_neg Om, if_pos Om, bsome, hv, if_pos rfl, plain_eq _ Om, bsome, hp, if_neg l07, bsome]
 exact ht
theorem rwords_rep {s : Ls} (h : s.length ≤ 1000) (hv : vld s = true) (hp : pln s = false) : R_Words s = some (rep (bestK s) s) := by
 have hb := bestK_le s
 have ht := rwords_tail (k := bestK s) Om h (best_ok hv)
 unfold R_Words R_Best
 rw [rplain_eq _ Om, bsome, hp, if_neg l07, if_pos Om, bsome]
 exact ht
theorem dq1_ok (c : UInt8) : ∀ x ∈ dq1 c, 33 ≤ x.toNat ∧ x.toNat ≤ 126 ∧ x ≠ 63 := by
 refine allB (p := fun c => ∀ x ∈ dq1 c, 33 ≤ x.toNat ∧ x.toNat ≤ 126 ∧ x ≠ 63) ?_ c
 decide +kernel
theorem alpha_ok : ∀ c ∈ (61 :: B64.alpha), 33 ≤ c.toNat ∧ c.toNat ≤ 126 ∧ c ≠ 63 := by decide
theorem chars64_ok (l : Ls) : ∀ x ∈ B64.chars64 l, 33 ≤ x.toNat ∧ x.toNat ≤ 126 ∧ x ≠ 63 := fun c hc => by
 rw [B64.chars_grps] at hc
 obtain ⟨g, hg, hc⟩ := List.mem_flatten.1 hc
 unfold B64.grps B64.grpsTo at hg
 obtain ⟨q, _, rfl⟩ := List.mem_map.1 hg
 have hch : ∀ (m : Ls) i, 33 ≤ (B64.ch m i).toNat ∧ (B64.ch m i).toNat ≤ 126 ∧ B64.ch m i ≠ 63 := fun m i => by
  unfold B64.ch
  split
  · decide
  have hlt : B64.accN m 3 / 2 ^ (18 - 6 * i) % 64 < B64.alpha.length := l2n _ Dc
  rw [B64.getD_in _ _ _ hlt]
  exact alpha_ok _ (l0y _ (l0L hlt))
 unfold B64.grpAt at hc
 rw [B64.outp_eq] at hc
 simp only [l1a, l0U, or_false] at hc
 rcases hc with rfl | rfl | rfl | rfl <;> exact hch _ _
theorem nam_ok : ∀ k, k < 4 → ∀ x ∈ nam k, 33 ≤ x.toNat ∧ x.toNat ≤ 126 ∧ x ≠ 63 := by decide
theorem wrap_ok {k : Nat} (hk : k < 4) (b : Ls) : ∀ x ∈ wrap k b, 33 ≤ x.toNat ∧ x.toNat ≤ 126 := fun x hx => by
 unfold wrap at hx
 have hd : ∀ y ∈ dq b, 33 ≤ y.toNat ∧ y.toNat ≤ 126 ∧ y ≠ 63 := fun y hy => by
  obtain ⟨c, _, hc⟩ := List.mem_flatMap.1 hy
  exact dq1_ok c y hc
 have h1 : ∀ y ∈ ([61, 63] : Ls), 33 ≤ y.toNat ∧ y.toNat ≤ 126 := by decide
 have h2 : ∀ y ∈ ([63, 66, 63] : Ls), 33 ≤ y.toNat ∧ y.toNat ≤ 126 := by decide
 have h3 : ∀ y ∈ ([63, 81, 63] : Ls), 33 ≤ y.toNat ∧ y.toNat ≤ 126 := by decide
 have h4 : ∀ y ∈ ([63, 61] : Ls), 33 ≤ y.toNat ∧ y.toNat ≤ 126 := by decide
 rcases List.mem_append.1 hx with hx | hx
 · rcases List.mem_append.1 hx with hx | hx
   · rcases List.mem_append.1 hx with hx | hx
     · exact h1 x hx
     have := nam_ok k hk x hx; exact ⟨this.1, this.2.1⟩
   split at hx
   · rcases List.mem_append.1 hx with hx | hx
     · exact h2 x hx
     have := chars64_ok b x hx; exact ⟨this.1, this.2.1⟩
   rcases List.mem_append.1 hx with hx | hx
   · exact h3 x hx
   have := hd x hx; exact ⟨this.1, this.2.1⟩
 exact h4 x hx
theorem unit_75 {k : Nat} (hk : k < 4) {l : Ls} : ∀ u ∈ unitsC k l, (W k (byts u)).length ≤ 75 := fun u hu => by
 obtain ⟨g, hg, hu⟩ := List.mem_flatMap.1 hu
 obtain ⟨A, B, hAB⟩ := seg_mid (Gr.segs_flat (chars l)) hg
 unfold usC at hu
 split at hu
 · rename_i hw
   simp only [l1a, l0U, or_false] at hu
   rw [hu]; exact hw
 obtain ⟨c, hc, rfl⟩ := List.mem_map.1 hu
 obtain ⟨a, b, rfl⟩ := l2C hc
 have h1 : chars (byts [c]) = [c] := chars_mid (l := l) (A := A ++ a) (g := [c]) (B := b ++ B) (by rw [hAB]; simp)
 have h2 : (enc k (byts [c])).length ≤ 4 := by
  unfold enc
  rw [h1]
  simp only [l0p, l1F, l0j]
  cases he : encK k c.1 with
  | none => simp
  | some b => exact Chs.encK_len he
 have h3 := wrap_len k hk (enc k (byts [c]))
 unfold W; omega
theorem p2_75 (k : Nat) : ∀ (us : List (List Ch)) (now : List Ch), (W k (byts now)).length ≤ 75 → (∀ u ∈ us, (W k (byts u)).length ≤ 75) → ∀ g ∈ p2 k now us, (W k (byts g)).length ≤ 75
 | [], now, h, _ => by intro g hg; simp [p2] at hg; rw [hg]; exact h
 | u :: us, now, h, hu => by
   rw [p2]
   split
   · rename_i hw; exact p2_75 k us (now ++ u) hw (fun x hx => hu x (by simp [hx]))
   intro g hg
   rcases List.mem_cons.1 hg with rfl | hg
   · exact h
   exact p2_75 k us u (hu u Sm) (fun x hx => hu x (by simp [hx])) g hg
theorem part_75 {k : Nat} (hk : k < 4) {l : Ls} : ∀ g ∈ parts k (unitsC k l), (W k (byts g)).length ≤ 75 := by
 have h := unit_75 hk (l := l)
 cases hus : unitsC k l with
 | nil => intro g hg; cases hg
 | cons u us => rw [hus] at h; exact p2_75 k us u (h u Sm) (fun x hx => h x (by simp [hx]))
def run75 : Nat → Ls → Prop
 | _, [] => True
 | n, c :: t => (if c = 32 then 0 else n + 1) ≤ 75 ∧ run75 (if c = 32 then 0 else n + 1) t
theorem print_L1 (s t : Ls) (ht : t.length ≤ 1000000000) (hok : ∀ x ∈ t, okc x = true) : ∀ (d i n m : Nat), t.length - i ≤ d → d < m → i ≤ t.length → n ≤ i → (t = s ∨ run75 n (t.drop i)) → Y1b s t m (n : Int) (i : Int) = some (.inl ()) := by
 intro d
 induction d with
 | zero =>
   intro i n m h1 h2 h3 h4 h5
   obtain ⟨m, rfl⟩ : ∃ k, m = k + 1 := ⟨m - 1, by omega⟩
   rw [Y1b, if_neg Om]
 | succ d ih =>
   intro i n m h1 h2 h3 h4 h5
   obtain ⟨m, rfl⟩ : ∃ k, m = k + 1 := ⟨m - 1, by omega⟩
   rw [Y1b]
   by_cases hi : i < t.length
   · have ho := hok t[i] (l0L hi)
     unfold okc at ho
     have ho := of_decide_eq_true ho
     rw [if_pos Om, idx_nat, List.getElem?_eq_getElem hi, bsome, rin_eq, bsome, if_pos (decide_eq_true Om), chk_succ Om, bsome, bsome]
     have hn : (if t[i] = 32 then some (0 : Int) else some ((n + 1 : Nat) : Int)) = some (((if t[i] = 32 then 0 else n + 1 : Nat)) : Int) := by split <;> rfl
     have hle : (if t[i] = 32 then 0 else n + 1 : Nat) ≤ i + 1 := by split <;> omega
     rw [hn, bsome]
     have h6 : (if (75 : Int) < (((if t[i] = 32 then 0 else n + 1 : Nat)) : Int) then some (!decide (t = s)) else some false) = some false := by
      rcases h5 with rfl | h5
      · split <;> simp
      rw [l09 hi, run75] at h5
      rw [if_neg Om]
     rw [h6, bsome, if_neg l07, chk_succ Om, bsome]
     refine ih (i + 1) _ m Om Om Om hle ?_
     rcases h5 with h5 | h5
     · exact .inl h5
     rw [l09 hi, run75] at h5
     exact .inr h5.2
   rw [if_neg Om]
end Go.Ph.Wd
end
section
namespace Go.Ph.Wd
open Go.Ph.Pl Go.Ph.Pf
open Go.Ph.Gr (chars Ch pieces byts segs)
open Go.Ph.Chs (vld setN setOf encK encGo decoded utf8 bestK lower lowB)
open Go.Ph.Utf (rune dr)
def q1 : Ls → Option (Ls × Ls)
 | [] => none
 | c :: t => if c = 63 then some ([], t) else (q1 t).map fun p => (c :: p.1, p.2)
def sp3 (x : Ls) : Option (Ls × Ls × Ls × Ls) :=
 (q1 x).bind fun a => (q1 a.2).bind fun b => (q1 b.2).bind fun c => some (a.1, b.1, c.1, c.2)
def hexv (c : UInt8) : Option Nat := if 48 ≤ c.toNat ∧ c.toNat ≤ 57 then some (c.toNat - 48) else if 65 ≤ c.toNat ∧ c.toNat ≤ 70 then some (c.toNat - 55) else if 97 ≤ c.toNat ∧ c.toNat ≤ 102 then some (c.toNat - 87) else none
def hex2 (a b : UInt8) : Option UInt8 := match hexv a, hexv b with | some x, some y => some (UInt8.ofNat (16 * x + y)) | _, _ => none
def hexd2 : Ls → Option (UInt8 × Ls)
 | a :: b :: t => (hex2 a b).map fun z => (z, t)
 | _ => none
def uqF : Nat → Ls → Option Ls
 | 0, _ => none
 | n + 1, [] => some []
 | n + 1, c :: t => if c = 95 then (uqF n t).map (32 :: ·) else if c = 61 then (hexd2 t).bind fun p => (uqF n p.2).map (p.1 :: ·) else if 33 ≤ c.toNat ∧ c.toNat ≤ 126 then (uqF n t).map (c :: ·) else none
def uq (l : Ls) : Option Ls := uqF (l.length + 1) l
def bytesP (K D : Ls) : Option Ls := if lower K = [98] then (if B64.chars64 (B64.lenient D) = D then some (B64.lenient D) else none) else if lower K = [113] then uq D else none
def body (A K D : Ls) : Option Ls := (setOf A).bind fun k => (bytesP K D).map (decoded k)
def pw (t : Ls) : Option (Ls × Nat) :=
 if [61, 63] <+: t then (sp3 (t.drop 2)).bind fun p => if [61] <+: p.2.2.2 ∧ p.1.length + p.2.1.length + p.2.2.1.length + 6 ≤ 75 then (body p.1 p.2.1 p.2.2.1).map fun x => (x, p.1.length + p.2.1.length + p.2.2.1.length + 6) else none else none
end Go.Ph.Wd
end
section
namespace Go.Ph.Wd
open Go.Ph.Pl Go.Ph.Pf
open Go.Ph.Gr (chars Ch pieces byts segs)
open Go.Ph.Chs (vld setN setOf encK encGo decoded utf8 bestK lower lowB)
open Go.Ph.Utf (rune dr)
def blk (c : UInt8) : Bool := decide (c = 32 ∨ c = 9)
def after (u : Ls) : Ls := if (pw (u.dropWhile blk)).isSome then u.dropWhile blk else u
def fin (s : Ls) (p : Ls × Int) : Option Ls := if (0 : Int) ≤ p.2 then (cut s p.2 (s.length : Int)).bind fun s81 => (Y04 p.1 s81).bind fun (n82, b83, l84) => some l84 else some p.1
end Go.Ph.Wd
end
section
namespace Go.Ph.Wd
open Go.Ph.Pl Go.Ph.Pf
open Go.Ph.Gr (chars Ch pieces byts segs)
open Go.Ph.Chs (vld setN setOf encK encGo decoded utf8 bestK lower lowB)
open Go.Ph.Utf (rune dr)
theorem con_latin {a b : Int} (ha : 0 ≤ a ∧ a ≤ 255) (hb : 0 ≤ b ∧ b ≤ 255) (fl : Nat) (h : Gr.con a b fl = true) : a = 13 ∧ b = 10 := by
 have ca : (Gr.cls a = 1 ∧ a = 13) ∨ Gr.cls a = 2 ∨ Gr.cls a = 3 ∨ Gr.cls a = 0 := by
  unfold Gr.cls; repeat' split
  all_goals omega
 have cb : Gr.cls b = 1 ∨ (Gr.cls b = 2 ∧ b = 10) ∨ Gr.cls b = 3 ∨ Gr.cls b = 0 := by
  unfold Gr.cls; repeat' split
  all_goals omega
 unfold Gr.con at h
 rw [if_neg Om] at h
 unfold Gr.contC at h
 repeat' split at h
 all_goals first | omega | cases h | (have := of_decide_eq_true h; omega)
theorem seg_two : ∀ (cs cur : List Ch) (prev : Int) (fl : Nat), (∀ c ∈ cs, 0 ≤ c.1 ∧ c.1 ≤ 255) → 0 ≤ prev ∧ prev ≤ 255 → cur.length ≤ 2 → (cur.length = 2 → prev ≠ 13) → ∀ g ∈ Gr.seg cur prev fl cs, g.length ≤ 2
 | [], cur, prev, fl, h, hp, h2, h3 => by
   intro g hg
   rw [Gr.seg, l2e] at hg
   rw [hg]; exact h2
 | c :: cs, cur, prev, fl, h, hp, h2, h3 => by
   have hc := h c Sm
   rw [Gr.seg]
   by_cases hcon : Gr.con prev c.1 fl = true
   · obtain ⟨e1, e2⟩ := con_latin hp hc fl hcon
     rw [if_pos hcon]
     have h4 : cur.length ≠ 2 := fun e => h3 e e1
     exact seg_two cs _ _ _ (fun x hx => h x (by simp [hx])) hc (by rw [l00, l1r]; omega) (fun _ => by omega)
   rw [if_neg hcon]
   intro g hg
   rcases List.mem_cons.1 hg with rfl | hg
   · exact h2
   exact seg_two cs [c] _ _ (fun x hx => h x (by simp [hx])) hc Sm Sm g hg
theorem segs_two (cs : List Ch) (h : ∀ c ∈ cs, 0 ≤ c.1 ∧ c.1 ≤ 255) : ∀ g ∈ Gr.segs cs, g.length ≤ 2 := by
 cases cs with
 | nil => intro g hg; cases hg
 | cons c cs => exact seg_two cs [c] _ _ (fun x hx => h x (by simp [hx])) (h c Sm) Sm Sm
theorem unit_two {k : Nat} {l : Ls} (h : ∀ c ∈ chars l, 0 ≤ c.1 ∧ c.1 ≤ 255) : ∀ u ∈ unitsC k l, u.length ≤ 2 := fun u hu => by
 obtain ⟨g, hg, hu⟩ := List.mem_flatMap.1 hu
 have h2 := segs_two (chars l) h g hg
 unfold usC at hu
 split at hu
 · rw [List.mem_singleton.1 hu]; exact h2
 obtain ⟨c, _, rfl⟩ := List.mem_map.1 hu; simp
def wt (k : Nat) (g : List Ch) : Nat := (g.flatMap fun c => dq ((encK k c.1).getD [])).length
theorem wt_app (k : Nat) (a b : List Ch) : wt k (a ++ b) = wt k a + wt k b := by unfold wt; rw [l0O, l00]
theorem wt_le {k : Nat} (hk : k < 2) (g : List Ch) : wt k g ≤ 3 * g.length := by
 refine flatMap_len _ 3 g (fun c _ => ?_)
 have hs : ∀ bd : Int, (dq ((Chs.encS bd c.1).getD [])).length ≤ 3 := fun bd => by
  unfold Chs.encS
  split
  · have := dq_len [ub c.1]; simpa using this
  simp [dq]
 unfold encK
 split
 · exact hs _
 rw [if_pos Om]; exact hs _
theorem W_q {k : Nat} (hk : k < 2) {l : Ls} {A g B : List Ch} (h : chars l = A ++ g ++ B) : (W k (byts g)).length = (nam k).length + 7 + wt k g := by
 have he : dq (enc k (byts g)) = g.flatMap fun c => dq ((encK k c.1).getD []) := by
  unfold enc
  rw [chars_mid h]
  unfold dq
  rw [List.flatMap_assoc]
 unfold W wrap wt
 rw [if_neg Om, ← he]
 simp only [l00, l02, l03]
 omega
theorem p2_pos (k : Nat) : ∀ (us : List (List Ch)) (now : List Ch), 1 ≤ (p2 k now us).length
 | [], now => by simp [p2]
 | u :: us, now => by
   rw [p2]; split
   · exact p2_pos k us (now ++ u)
   simp
theorem p2_q {k : Nat} (hk : k < 2) {l : Ls} (c : Nat) (hc : c = (nam k).length + 7) : ∀ (us : List (List Ch)) (now A : List Ch), chars l = A ++ (now ++ us.flatten) → (∀ u ∈ us, u.length ≤ 2) →
 ((p2 k now us).length - 1) * (70 - c) ≤ wt k now + wt k us.flatten
 | [], now, A, h, hu => by simp [p2]
 | u :: us, now, A, h, hu => by
   have hw := W_q hk (l := l) (A := A) (g := now ++ u) (B := us.flatten) (by rw [h]; simp)
   have h2 := wt_le hk u
   have h3 := hu u Sm
   rw [p2]
   rw [wt_app] at hw
   rw [l0n, wt_app]
   split
   · have := p2_q hk c hc us (now ++ u) A (by rw [h]; simp) (fun x hx => hu x (by simp [hx]))
     rw [wt_app] at this
     omega
   have := p2_q hk c hc us u (A ++ now) (by rw [h]; simp) (fun x hx => hu x (by simp [hx]))
   have hp := p2_pos k us u
   rw [l02, l1h]
   obtain ⟨n, hn⟩ : ∃ n, (p2 k u us).length = n + 1 := ⟨_, (Nat.sub_add_cancel hp).symm⟩
   rw [hn, l1h] at this
   rw [hn, l2o]
   omega
theorem flatMap_congr' {α β : Type} {f g : α → List β} : ∀ {l : List α}, (∀ a ∈ l, f a = g a) → l.flatMap f = l.flatMap g
 | [], _ => rfl
 | a :: l, h => by rw [l0p, l0p, h a Sm, flatMap_congr' fun x hx => h x (by simp [hx])]
theorem enc_utf8 {l : Ls} (hv : vld l = true) {A g B : List Ch} (h : chars l = A ++ g ++ B) : enc 2 (byts g) = byts g := by
 have hu := Y4n _ l (l0h _) hv
 unfold enc byts
 have hc : chars ((g.map (·.2)).flatten) = g := chars_mid h
 rw [hc, ← List.flatMap_def]
 apply flatMap_congr'
 intro c hcg
 have : utf8 c.1 = c.2 := hu c (by rw [h]; simp [hcg])
 show (Chs.encU c.1).getD [] = c.2
 unfold Chs.encU
 rw [l1D, this]
theorem W_b {l : Ls} (hv : vld l = true) {A g B : List Ch} (h : chars l = A ++ g ++ B) : (W 2 (byts g)).length = 11 + 4 * (((byts g).length + 2) / 3) := by
 unfold W wrap
 rw [enc_utf8 hv h, if_pos rfl]
 simp only [l00, B64.chars_len, l02, l03]
 have : (nam 2).length = 4 := rfl
 omega
theorem p2_b {l : Ls} (hv : vld l = true) : ∀ (us : List (List Ch)) (now A : List Ch), chars l = A ++ (now ++ us.flatten) →
 49 * ((p2 2 now us).length - 1) ≤ (byts now).length + 2 * (byts us.flatten).length
 | [], now, A, h => by simp [p2]
 | u :: us, now, A, h => by
   have hw := W_b hv (A := A) (g := now ++ u) (B := us.flatten) (by rw [h]; simp)
   rw [p2]
   have e1 : (byts (now ++ u)).length = (byts now).length + (byts u).length := by rw [byts_app, l00]
   have e2 : (byts (u ++ us.flatten)).length = (byts u).length + (byts us.flatten).length := by rw [byts_app, l00]
   rw [l0n]
   split
   · have := p2_b hv us (now ++ u) A (by rw [h]; simp)
     omega
   have := p2_b hv us u (A ++ now) (by rw [h]; simp)
   have hp := p2_pos 2 us u
   rw [l02, l1h]
   omega
theorem more_q {k : Nat} (hk : k < 2) {l : Ls} (c : Nat) (hc : c = (nam k).length + 7) : ∀ (gs : List (List Ch)) (A : List Ch), chars l = A ++ gs.flatten →
 (more (gs.map fun g => W k (byts g))).length = gs.length * (c + 1) + wt k gs.flatten
 | [], A, h => by simp [more, wt]
 | g :: gs, A, h => by
   have hw := W_q hk (l := l) (A := A) (g := g) (B := gs.flatten) (by rw [h]; simp)
   have ih := more_q hk c hc gs (A ++ g) (by rw [h]; simp)
   have hm : more ((g :: gs).map fun g => W k (byts g)) = 32 :: (W k (byts g) ++ more (gs.map fun g => W k (byts g))) := by simp [more]
   rw [hm, l02, l00, hw, ih, l0n, wt_app, l02, l2o]
   omega
theorem latin {s : Ls} (hv : vld s = true) (hb : bestK s < 2) : ∀ c ∈ chars s, 0 ≤ c.1 ∧ c.1 ≤ 255 := fun c hc => by
 have h0 : 0 ≤ c.1 := by
  unfold vld at hv
  exact of_decide_eq_true (List.all_eq_true.1 hv c hc)
 refine ⟨h0, ?_⟩
 unfold bestK at hb
 by_cases h1 : (chars s).any (fun c => decide (255 < Chs.fix0 c.1)) = true
 · rw [if_pos h1] at hb; omega
 have h2 : ¬ 255 < Chs.fix0 c.1 := fun e => h1 (List.any_eq_true.2 ⟨c, hc, decide_eq_true e⟩)
 unfold Chs.fix0 at h2
 rw [if_neg Om] at h2
 omega
theorem rep_4000 {s : Ls} (h : s.length ≤ 1000) (hv : vld s = true) : (rep (bestK s) s).length ≤ 4000 := by
 have hb := bestK_le s
 have hfl := unitsC_flat (bestK s) s
 have hcl := chars_len s
 unfold rep
 cases hus : unitsC (bestK s) s with
 | nil => simp [parts, jn]
 | cons u us =>
   rw [parts]
   rw [hus, l0n] at hfl
   by_cases hk : bestK s < 2
   · obtain ⟨c, hc⟩ : ∃ c, c = (nam (bestK s)).length + 7 := ⟨_, rfl⟩
     have hnl : (nam (bestK s)).length ≤ 6 := by
      have : ∀ k, k < 2 → (nam k).length ≤ 6 := by decide
      exact this _ hk
     have hq := p2_q hk c hc us u [] (by rw [l06, hfl]) (fun x hx => unit_two (latin hv hk) x (by rw [hus]; simp [hx]))
     have hwt : wt (bestK s) (chars s) = wt (bestK s) u + wt (bestK s) us.flatten := by rw [← hfl, wt_app]
     have hwl := wt_le hk (chars s)
     have hm := more_q hk (l := s) c hc (p2 (bestK s) u us) [] (by rw [l06, p2_flat, hfl])
     rw [p2_flat, hfl] at hm
     have hp := p2_pos (bestK s) us u
     obtain ⟨n, hn⟩ : ∃ n, (p2 (bestK s) u us).length = n + 1 := ⟨_, (Nat.sub_add_cancel hp).symm⟩
     rw [hn] at hm hq
     rw [l1h] at hq
     have h57 : n * 57 ≤ n * (70 - c) := l2t n Om
     have h14 : (n + 1) * (c + 1) ≤ (n + 1) * 14 := l2t (n + 1) Om
     cases hps : p2 (bestK s) u us with
     | nil => rw [hps] at hn; simp at hn
     | cons g gs =>
       rw [hps] at hm
       rw [l0f, jn_more]
       have : more ((g :: gs).map fun g => W (bestK s) (byts g)) = 32 :: (W (bestK s) (byts g) ++ more (gs.map fun g => W (bestK s) (byts g))) := by simp [more]
       rw [this, l02] at hm
       omega
   have hk2 : bestK s = 2 := by omega
   rw [hk2] at hus ⊢
   have hq := p2_b hv us u [] (by rw [l06, hfl])
   have h75 := part_75 (k := 2) Dc (l := s)
   rw [hus, parts] at h75
   have hbl : (byts u).length + (byts us.flatten).length ≤ 1000 := by
    have := Gr.chars_flat s
    rw [← l00, ← byts_app, hfl]
    unfold byts
    rw [this]; exact h
   have hj := jn_len [32] 75 ((p2 2 u us).map fun g => W 2 (byts g)) (fun w hw => by
    obtain ⟨g, hg, rfl⟩ := List.mem_map.1 hw
    exact h75 g hg)
   rw [l0c] at hj
   simp only [l02, l03] at hj
   omega
end Go.Ph.Wd
end
section
namespace Go.Ph.Ad
open Go.Ph.Pl Go.Ph.Pf
open Go.Ph.Chs (vld utf8 encK bestK)
open Go.Ph.Gr (chars byts Ch)
open Go.Ph.Wd (pln rep W wt okc parts unitsC nam)
theorem jn_ge : ∀ (f : List Ch → Ls) (gs : List (List Ch)), (∀ g ∈ gs, (byts g).length + 1 ≤ (f g).length) → gs ≠ [] → (byts gs.flatten).length + 1 ≤ (jn [32] (gs.map f)).length
 | f, [], _, h => absurd rfl h
 | f, [g], h, _ => by have := h g Sm; simpa [jn] using this
 | f, g :: g2 :: gs, h, _ => by
   have h1 := h g Sm
   have h2 := jn_ge f (g2 :: gs) (fun x hx => h x (l0y _ hx)) Sm
   rw [l0n, Wd.byts_app, l0f, l0f, jn]
   rw [l0f] at h2
   simp only [l00, l02, l03] at h2 ⊢
   omega
theorem lat_len : ∀ n : Fin 256, (utf8 (n.val : Int)).length ≤ (Wd.dq ((encK 1 (n.val : Int)).getD [])).length ∧ (n.val < 128 → (utf8 (n.val : Int)).length ≤ (Wd.dq ((encK 0 (n.val : Int)).getD [])).length) := by decide +kernel
theorem wt_ge {s : Ls} (hv : vld s = true) (hk : bestK s < 2) : ∀ g : List Ch, (∀ c ∈ g, c ∈ chars s) → (byts g).length ≤ wt (bestK s) g
 | [], _ => l1f _
 | c :: g, h => by
   have ih := wt_ge hv hk g fun x hx => h x (by simp [hx])
   have hc := h c Sm
   have h1 := Wd.latin hv hk c hc
   have h2 := Wd.Y4n _ s (l0h _) hv c hc
   have h3 := (Wd.best_ok hv).2 c hc
   have hl := lat_len ⟨c.1.toNat, by omega⟩
   rw [show ((⟨c.1.toNat, by omega⟩ : Fin 256).val : Int) = c.1 from l0u h1.1] at hl
   have key : c.2.length ≤ (Wd.dq ((encK (bestK s) c.1).getD [])).length := by
    rw [← h2]
    obtain h0 | h0 : bestK s = 0 ∨ bestK s = 1 := by omega
    · rw [h0] at h3 ⊢
      refine hl.2 ?_
      have : c.1 < 128 := by
       unfold encK Chs.encS at h3
       rw [if_pos rfl] at h3
       by_cases q : c.1 < 128
       · exact q
       simp [q] at h3
      show c.1.toNat < 128
      omega
    rw [h0]; exact hl.1
   unfold wt at ih ⊢
   unfold byts at ih ⊢
   rw [l0p, l0f, l0n, l00, l00]
   omega
theorem rep_long {s : Ls} (hv : vld s = true) (h0 : s ≠ []) : s.length < (rep (bestK s) s).length := by
 have hb := Wd.bestK_le s
 have hfl := Wd.unitsC_flat (bestK s) s
 have hpf := Wd.parts_flat (bestK s) (unitsC (bestK s) s)
 rw [hfl] at hpf
 have hby : byts (chars s) = s := Gr.chars_flat s
 have := jn_ge (fun g => W (bestK s) (byts g)) (parts (bestK s) (unitsC (bestK s) s)) (fun g hg => by
  obtain ⟨A, B, hAB⟩ := l2C hg
  have hm : chars s = A.flatten ++ g ++ B.flatten := by rw [← hpf, hAB]; simp
  by_cases hk : bestK s < 2
  · have h1 := Wd.W_q hk hm
    have h2 := wt_ge hv hk g fun c hc => by rw [hm]; simp [hc]
    omega
  have h2 : bestK s = 2 := by omega
  have h1 := Wd.W_b hv hm
  rw [h2]
  omega) (fun e => h0 (by rw [e] at hpf; rw [← hby, ← hpf]; rfl))
 rw [hpf, hby] at this
 unfold rep
 omega
def phF : Bool → Ls → Bool
 | e, [] => !e
 | e, c :: l => if c = 32 then (if e = true then false else phF true l) else (if atB c = true then phF false l else false)
def rphF : Bool → Ls → Bool
 | _, [] => false
 | e, c :: l => (!atB c && (!decide (c = 32) || e)) || rphF (decide (c = 32)) l
def qtd (s : Ls) : Ls := [34] ++ qt s ++ [34]
def ph (s : Ls) : Ls := if pln s = true then (if phF true s = true then s else qtd s) else rep (bestK s) s
def lsF : Bool → Ls → Bool
 | e, [] => !e
 | e, c :: l => lsF (decide (c = 32)) l
theorem ph_rph : ∀ (l : Ls) (e : Bool), phF e l = (!rphF e l && lsF e l)
 | [], e => by cases e <;> rfl
 | c :: l, e => by
   have ih := ph_rph l
   rw [phF, rphF, lsF]
   by_cases hc : c = 32
   · subst hc
     rw [if_pos rfl, ih true]
     have : atB 32 = false := by decide
     rw [this]
     cases e <;> simp
   rw [if_neg hc, ih false]
   cases atB c <;> simp [hc]
theorem ls_last : ∀ (l : Ls) (e : Bool), l ≠ [] → lsF e l = false → [32] <:+ l
 | [c], e, _, h => by
   rw [lsF, lsF] at h
   have hc : c = 32 := by simpa using h
   rw [hc]; exact List.suffix_refl _
 | c :: x :: l, e, _, h => (ls_last (x :: l) (decide (c = 32)) Sm h).trans (List.suffix_cons c _)
theorem spl_ph : ∀ (l : Ls) (e : Bool) (h : Ls) (t : List Ls), spl 32 l = h :: t → phF e l = (h.all atB && ((!e || !decide (h = [])) && t.all (good atB)))
 | [], e, h, t, hs => by
   simp only [spl, List.cons.injEq] at hs
   obtain ⟨rfl, rfl⟩ := hs
   cases e <;> rfl
 | c :: l, e, h, t, hs => by
   rw [spl] at hs
   rw [phF]
   by_cases hc : c = 32
   · rw [if_pos hc] at hs
     obtain ⟨rfl, rfl⟩ := List.cons.inj hs
     rw [if_pos hc]
     cases hl : spl 32 l with
     | nil => exact absurd hl (spl_ne _ _)
     | cons a b =>
       rw [spl_ph l true a b hl, l0A]
       cases e <;> simp [good, Bool.and_comm, Bool.and_left_comm, Bool.and_assoc]
   rw [if_neg hc] at hs
   rw [if_neg hc]
   cases hl : spl 32 l with
   | nil => exact absurd hl (spl_ne _ _)
   | cons a b =>
     rw [hl] at hs
     dsimp only at hs
     obtain ⟨rfl, rfl⟩ := List.cons.inj hs
     rw [spl_ph l false a b hl, l0A]
     cases atB c <;> simp
theorem ph_spl (s : Ls) : (spl 32 s).all (good atB) = phF true s := by
 cases hs : spl 32 s with
 | nil => exact absurd hs (spl_ne _ _)
 | cons h t =>
   rw [spl_ph s true h t hs, l0A]
   unfold good
   cases h.all atB <;> simp
theorem quoted_eq (s : Ls) (hs : s.length ≤ 1000) : Y1U s = some (qtd s) := by
 have h1 := qt_le s
 unfold Y1U qtd
 have hr : Y0R ([[92], [92, 92], [34], [92, 34]] : List Ls) = some () := by unfold Y0R; rw [if_pos rfl]
 rw [hr, bsome, replace_eq _ hs, bsome, cat_ok (by simp; omega), bsome, cat_ok (by simp; omega), bsome]
theorem phrase_run (s : Ls) (hs : s.length ≤ 1000) (u : Ls) : ∀ (l : List Ls), (∀ x ∈ l, Big x) → runL (stepY exStop (Y1B s)) l (u, 0) = some (if l.all (good atB) = true then (u, 0) else (qtd s, 1))
 | [], h => rfl
 | x :: l, h => by
   rw [runL]
   unfold stepY
   rw [if_neg (show ¬ exStop (u, 0) = true from fun e => by cases e)]
   have hx : Y1B s (u, 0) x = some (if good atB x = true then (u, 0) else (qtd s, 1)) := by
    unfold Y1B good
    dsimp only
    rw [quoted_eq s hs]
    by_cases hx : x = []
    · subst hx; rfl
    rw [if_neg hx, all_eq x (h x l0C) Y23 atB atom_eq]
    simp only [bsome, hx]
    cases x.all atB <;> rfl
   rw [hx, l0A]
   have ih := phrase_run s hs u l (fun y hy => h y (l0y _ hy))
   cases hgx : good atB x with
   | false => rfl
   | true =>
     simp only [if_true, l0K, bsome, l1S]
     exact ih
theorem phrase_eq (s : Ls) (hs : s.length ≤ 1000) (hv : vld s = true) : Y1V s = some (ph s) := by
 unfold Y1V ph
 by_cases hp : pln s = true
 · rw [Wd.encode_own hs hv hp, bsome, if_pos hp]
   dsimp only
   rw [if_pos rfl, splitSeq_eq _ _ _ _ Om, phrase_run s hs [] _ (fun x hx => by have := spl_len 32 s x hx; unfold Big; omega), ph_spl, bsome]
   cases phF true s <;> rfl
 have hp' : pln s = false := by simpa using hp
 have h0 : s ≠ [] := by rintro rfl; exact hp Dc
 have hl := rep_long hv h0
 rw [Wd.encode_rep hs hv hp', bsome, if_neg hp]
 dsimp only
 rw [if_neg (fun e => by rw [e] at hl; omega)]
theorem rphrase_L1 (s : Ls) (hs : s.length ≤ 1000) : ∀ (k i m : Nat) (e : Bool), s.length - i ≤ k → k < m → i ≤ s.length → (i = 0 → ∀ h : i < s.length, s[i] ≠ 32) → (∀ h : i - 1 < s.length, 1 ≤ i → e = decide (s[i - 1] = 32)) →
 Y1Y s m (i : Int) = some (if rphF e (s.drop i) = true then .inr (qtd s) else .inl ()) := by
 intro k
 induction k with
 | zero =>
   intro i m e h1 h2 h3 h4 h5
   obtain ⟨m, rfl⟩ : ∃ k, m = k + 1 := ⟨m - 1, by omega⟩
   rw [Y1Y, if_neg Om, l08 Om]; rfl
 | succ k ih =>
   intro i m e h1 h2 h3 h4 h5
   obtain ⟨m, rfl⟩ : ∃ k, m = k + 1 := ⟨m - 1, by omega⟩
   by_cases hi : i < s.length
   · have hr : ((idx s (i : Int)).bind fun c14 => (Y2V c14).bind fun b15 => (if b15 = true then some false else (idx s (i : Int)).bind fun c17 => (if c17 = 32 then (chk ((i : Int) - 1)).bind fun n19 => (idx s n19).bind fun c20 => some (decide (c20 = 32)) else some true))) = some (!atB s[i] && (!decide (s[i] = 32) || e)) := by
      rw [idx_nat, List.getElem?_eq_getElem hi, bsome, ratom_eq, bsome]
      cases atB s[i] with
      | true => rfl
      | false =>
        rw [if_neg Dc, bsome]
        by_cases hc : s[i] = 32
        · have h0 : 1 ≤ i := by
           apply Nat.pos_of_ne_zero
           intro h0
           exact h4 h0 hi hc
          rw [if_pos hc, chk_pred h0 Om, bsome, idx_nat, List.getElem?_eq_getElem (show i - 1 < s.length by omega), bsome, h5 Om h0, hc]
          simp
        rw [if_neg hc]; simp [hc]
     rw [Y1Y, if_pos Om, hr, bsome, l09 hi, rphF]
     cases hb : (!atB s[i] && (!decide (s[i] = 32) || e)) with
     | true => rw [if_pos rfl, rquote_eq s hs, bsome, Bool.true_or]; rfl
     | false =>
       rw [if_neg Dc, chk_succ Om, bsome, l1A]
       exact ih (i + 1) m (decide (s[i] = 32)) Om Om Om Om (fun h _ => by simp)
   rw [Y1Y, if_neg Om, l08 Om]; rfl
theorem rphrase_eq (s : Ls) (hs : s.length ≤ 1000) (hv : vld s = true) : Y42 s = some (ph s) := by
 unfold Y42 ph
 rw [Wd.rplain_eq _ Om, bsome]
 by_cases hp : pln s = true
 · rw [if_pos hp, if_pos hp]
   have hpl := hp
   unfold pln at hpl
   simp only [l0i, Bool.not_eq_true', decide_eq_false_iff_not] at hpl
   obtain ⟨-, h1, h2, -⟩ := hpl
   have hne : ∀ h : 0 < s.length, s[0] ≠ 32 := fun h e => h1 (by
    cases s with
    | nil => cases h
    | cons c r => simp at e; rw [e]; simp [List.cons_prefix_cons])
   have hr := rphrase_L1 s hs s.length 0 FU true Om (FU_gt Om) Om (fun _ => hne) (fun _ h => by omega)
   have hr' : Y1Y s FU 0 = some (if rphF true s = true then .inr (qtd s) else .inl ()) := hr
   rw [hr', bsome, ph_rph]
   by_cases h0 : s = []
   · subst h0; rw [rquote_eq [] Sm]; rfl
   have hl : lsF true s = true := by
    cases h : lsF true s with
    | true => rfl
    | false => exact absurd (ls_last s true h0 h) h2
   rw [hl, if_neg h0]
   cases rphF true s <;> rfl
 have hp' : pln s = false := by simpa using hp
 rw [if_neg hp, if_neg hp, Wd.rwords_rep hs hv hp', bsome]
def mbT (a : Adr) : Ls := if a.1 = [] then specT a.2.1 a.2.2 else ph a.1 ++ [32, 60] ++ specT a.2.1 a.2.2 ++ [62]
theorem disp_ok {l : Ls} (h : dispF l = 0) : l.length ≤ 500 ∧ vld l = true := by
 unfold dispF at h
 split at h
 · cases h
 split at h
 · rename_i h1 h2; exact ⟨by omega, h2⟩
 cases h
theorem ph_len {s : Ls} (hs : s.length ≤ 500) (hv : vld s = true) : (ph s).length ≤ 4000 := by
 unfold ph qtd
 have := qt_le s
 split
 · split
   · omega
   simp; omega
 exact Wd.rep_4000 Om hv
theorem mb_len {a : Adr} (h : (addrF a).1 = 0) : (mbT a).length ≤ 4200 := by
 obtain ⟨h1, h2, h3, _⟩ := addrF_ok h
 obtain ⟨d1, d2⟩ := disp_ok h1
 have := ph_len d1 d2
 have := specT_len a.2.1 a.2.2
 have := loc_len h2
 have := dom_len h3
 unfold mbT
 split
 · omega
 simp; omega
theorem mailbox_eq {a : Adr} (h : (addrF a).1 = 0) : Y2j (a.1, a.2.1, a.2.2) = some (mbT a) := by
 obtain ⟨h1, h2, h3, _⟩ := addrF_ok h
 obtain ⟨d1, d2⟩ := disp_ok h1
 have e1 := ph_len d1 d2
 have e2 := specT_len a.2.1 a.2.2
 have e3 := loc_len h2
 have e4 := dom_len h3
 have hsp : Y0k (a.1, a.2.1, a.2.2) = some (specT a.2.1 a.2.2) := specification_eq a e3 e4
 unfold Y2j mbT
 dsimp only
 rw [hsp, phrase_eq _ Om d2]
 split
 · rfl
 rw [bsome, cat_ok (by simp; omega), bsome, bsome, cat_ok (by simp; omega), bsome, cat_ok (by simp; omega), bsome]
theorem spec_last (w d : Ls) (hd : domT d = true) : ∃ x c, specT w d = x ++ [c] ∧ c ≠ 32 := by
 obtain ⟨h1, h2⟩ := dom_word hd
 obtain ⟨y, c, rfl⟩ : ∃ y c, d = y ++ [c] := ⟨d.dropLast, d.getLast h1, (List.dropLast_concat_getLast h1).symm⟩
 have hc : waB c = true := List.all_eq_true.1 h2 c Sm
 have : c ≠ 32 := by rintro rfl; revert hc; decide
 unfold specT
 split
 · exact ⟨w ++ 64 :: y, c, by simp, this⟩
 exact ⟨34 :: (qt w ++ 34 :: 64 :: y), c, by simp, this⟩
theorem mb_last {a : Adr} (h : (addrF a).1 = 0) : ∃ x c, mbT a = x ++ [c] ∧ c ≠ 32 := by
 unfold mbT
 split
 · exact spec_last _ _ (addrF_ok h).2.2.1
 exact ⟨_, 62, G, by decide⟩
def tl (b : Bool) : Nat → List Ls → Ls
 | _, [] => []
 | k, m :: ms => (if 0 < k then [44] else []) ++ ((if b = true then [32] else []) ++ (m ++ tl b (k + 1) ms))
def ol : Nat → List Ls → Ls
 | _, [] => []
 | k, m :: ms => (if 0 < k then [44, 32] else []) ++ (m ++ ol (k + 1) ms)
theorem jn_tl : ∀ (ms : List Ls) (m : Ls) (k : Nat), jn [44, 32] (m :: ms) = m ++ tl true (k + 1) ms
 | [], m, k => by simp [jn, tl]
 | x :: ms, m, k => by
   rw [jn, jn_tl ms x (k + 1), tl, if_pos Om, if_pos rfl]; simp
theorem jn_ol : ∀ (ms : List Ls) (m : Ls) (k : Nat), jn [44, 32] (m :: ms) = m ++ ol (k + 1) ms
 | [], m, k => by simp [jn, ol]
 | x :: ms, m, k => by
   simp [jn, jn_ol ms x (k + 1), ol]
theorem jn_last : ∀ (ms : List Ls), ms ≠ [] → (∀ m ∈ ms, ∃ x c, m = x ++ [c] ∧ c ≠ 32) → ∃ x c, jn [44, 32] ms = x ++ [c] ∧ c ≠ 32
 | [], h, _ => absurd rfl h
 | [m], _, h => by obtain ⟨x, c, h1, h2⟩ := h m Sm; exact ⟨x, c, h1, h2⟩
 | m :: y :: ms, _, h => by
   obtain ⟨x, c, h1, h2⟩ := jn_last (y :: ms) Sm (fun z hz => h z (l0y _ hz))
   exact ⟨m ++ ([44, 32] ++ x), c, by rw [jn, h1]; simp, h2⟩
theorem jn_b (n : Nat) : ∀ (ms : List Ls), (∀ m ∈ ms, m.length ≤ n) → (jn [44, 32] ms).length ≤ ms.length * (n + 2)
 | [], _ => by simp [jn]
 | [x], h => by have := h x Sm; simp [jn]; omega
 | x :: y :: ms, h => by
   have h1 := h x Sm
   have h2 := jn_b n (y :: ms) fun z hz => h z (l0y _ hz)
   rw [jn, l02, l2o]
   simp only [l00, l02, l03] at h2 ⊢
   omega
def itT (x : Itm) : Ls := if x.2.1 = true then ph x.1 ++ [58] ++ tl true 0 (x.2.2.map mbT) ++ [59] else jn [44, 32] (x.2.2.map mbT)
structure OkI (x : Itm) : Prop where
 grp : x.1.length ≤ 500 ∧ vld x.1 = true
 mem : ∀ a ∈ x.2.2, (addrF a).1 = 0
 cnt : x.2.2.length ≤ 60
 one : x.2.1 = false → x.2.2.length = 1
theorem memF_ok : ∀ {l : List Adr}, memF l = 0 → ∀ a ∈ l, (addrF a).1 = 0
 | a :: l, h, b, hb => by
   rw [memF] at h
   split at h
   · rename_i h1
     rcases List.mem_cons.1 hb with rfl | hb
     · exact h1
     exact memF_ok h b hb
   rename_i h1; exact absurd h h1
theorem trim_eq (s : Ls) (hs : s.length ≤ 1000000) : Y0x s [32] = some (if [32] <:+ s then s.take (s.length - 1) else s) := by
 have h := Wd.suffix_eq s [32] Om
 unfold Y0V at h
 rw [show ((Y0f s [32]).bind fun b1 => some b1) = Y0f s [32] by cases Y0f s [32] <;> rfl] at h
 unfold Y0x Y0J
 rw [h, bsome]
 by_cases hh : [32] <:+ s
 · have hl := hh.length_le
   simp only [l02, l03] at hl
   rw [decide_eq_true hh, if_pos rfl, if_pos hh, show (([32] : Ls).length : Int) = 1 from rfl, chk_pred Om Om, bsome, cut_to rfl Om, bsome, bsome]
 rw [decide_eq_false hh, if_neg Dc, if_neg hh, bsome]
theorem grp_trim (p : Ls) (ms : List Ls) (hp : p.length ≤ 4000) (hm : ms.length ≤ 60) (hb : ∀ m ∈ ms, m.length ≤ 4200) (hl : ∀ m ∈ ms, ∃ x c, m = x ++ [c] ∧ c ≠ 32) : Y0x (p ++ [58, 32] ++ jn [44, 32] ms) [32] = some (p ++ [58] ++ tl true 0 ms) := by
 have hj := jn_b 4200 ms hb
 have h2 : ms.length * (4200 + 2) ≤ 60 * 4202 := l0D _ hm
 rw [trim_eq _ (by simp; omega)]
 cases ms with
 | nil =>
   have : [32] <:+ p ++ [58, 32] ++ jn [44, 32] [] := ⟨p ++ [58], by simp [jn]⟩
   rw [if_pos this]
   have e : p ++ [58, 32] ++ jn [44, 32] [] = (p ++ [58]) ++ [32] := by simp [jn]
   rw [e, l00, l1r, l1h, l1q]
   simp [tl]
 | cons m ms =>
   obtain ⟨x, c, h1, h3⟩ := jn_last (m :: ms) Sm hl
   rw [if_neg (by
    rintro ⟨y, hy⟩
    rw [h1, ← l0d] at hy
    have := (List.append_inj' hy rfl).2
    cases this
    exact h3 G), tl, if_neg Om, if_pos G, jn_tl ms m 0]
   simp
theorem map_len (l : List Adr) : (l.map mbT).length = l.length := l0c ..
theorem print_L2 (x : Itm) (hx : OkI x) : ∀ (k i m : Nat) (acc : List Ls), x.2.2.length - i ≤ k → k < m → i ≤ x.2.2.length → acc.length ≤ i → Y0A x m acc (i : Int) = some (acc ++ (x.2.2.drop i).map mbT) := by
 have hc := hx.cnt
 intro k
 induction k with
 | zero =>
   intro i m acc h1 h2 h3 h4
   obtain ⟨m, rfl⟩ : ∃ k, m = k + 1 := ⟨m - 1, by omega⟩
   rw [Y0A, if_neg Om, l08 Om]; simp
 | succ k ih =>
   intro i m acc h1 h2 h3 h4
   obtain ⟨m, rfl⟩ : ∃ k, m = k + 1 := ⟨m - 1, by omega⟩
   by_cases hi : i < x.2.2.length
   · rw [Y0A, if_pos Om, idx_nat, List.getElem?_eq_getElem hi, bsome, mailbox_eq (hx.mem _ (l0L hi)), bsome, app_ok (by simp; omega), bsome, chk_succ Om, bsome, ih (i + 1) m _ Om Om Om (by simp; omega), l09 hi, l0f, l0d]
     rfl
   rw [Y0A, if_neg Om, l08 Om]; simp
theorem it_len {x : Itm} (hx : OkI x) : (itT x).length ≤ 300000 := by
 have hc := hx.cnt
 have hb : ∀ m ∈ x.2.2.map mbT, m.length ≤ 4200 := by
  intro m hm
  obtain ⟨a, ha, rfl⟩ := List.mem_map.1 hm
  exact mb_len (hx.mem a ha)
 have hj := jn_b 4200 _ hb
 rw [map_len] at hj
 have h2 : x.2.2.length * (4200 + 2) ≤ 60 * 4202 := l0D _ hc
 have hp := ph_len hx.grp.1 hx.grp.2
 unfold itT
 split
 · have : (tl true 0 (x.2.2.map mbT)).length ≤ (jn [44, 32] (x.2.2.map mbT)).length + 1 := by
    cases hms : x.2.2.map mbT with
    | nil => simp [tl]
    | cons m ms => rw [tl, if_neg Om, if_pos rfl, jn_tl ms m 0]; simp
   simp; omega
 omega
theorem print_L1 (l : List Itm) (hl : l.length ≤ 60) (ho : ∀ x ∈ l, OkI x) : ∀ (k i m : Nat) (acc : List Ls), l.length - i ≤ k → k < m → i ≤ l.length → acc.length ≤ i → Y0B l m acc (i : Int) = some (acc ++ (l.drop i).map itT) := by
 intro k
 induction k with
 | zero =>
   intro i m acc h1 h2 h3 h4
   obtain ⟨m, rfl⟩ : ∃ k, m = k + 1 := ⟨m - 1, by omega⟩
   rw [Y0B, if_neg Om, l08 Om]; simp
 | succ k ih =>
   intro i m acc h1 h2 h3 h4
   obtain ⟨m, rfl⟩ : ∃ k, m = k + 1 := ⟨m - 1, by omega⟩
   by_cases hi : i < l.length
   · have hx := ho _ (l0L hi)
     have hc := hx.cnt
     have hb : ∀ m ∈ (l[i]).2.2.map mbT, m.length ≤ 4200 := by
      intro m hm
      obtain ⟨a, ha, rfl⟩ := List.mem_map.1 hm
      exact mb_len (hx.mem a ha)
     have hla : ∀ m ∈ (l[i]).2.2.map mbT, ∃ x c, m = x ++ [c] ∧ c ≠ 32 := by
      intro m hm
      obtain ⟨a, ha, rfl⟩ := List.mem_map.1 hm
      exact mb_last (hx.mem a ha)
     have hj := jn_b 4200 _ hb
     rw [map_len] at hj
     have h5 : (l[i]).2.2.length * (4200 + 2) ≤ 60 * 4202 := l0D _ hc
     have hp := ph_len hx.grp.1 hx.grp.2
     have hL2 : Y0A l[i] FU [] 0 = some ((l[i]).2.2.map mbT) := by
      have := print_L2 l[i] hx (l[i]).2.2.length 0 FU [] Om (FU_gt Om) Om Sm
      rw [l0s, l06] at this
      exact this
     rw [Y0B, if_pos Om, idx_nat, List.getElem?_eq_getElem hi, bsome, hL2, bsome]
     unfold Y0v
     rw [if_pos ⟨by rw [map_len]; omega, by omega⟩, bsome]
     have hit := it_len hx
     have hg : (if (l[i]).2.1 = true then (Y1V (l[i]).1).bind fun s45 => (cat s45 [58, 32]).bind fun s47 => (cat s47 (jn [44, 32] ((l[i]).2.2.map mbT))).bind fun s48 => (Y0x s48 [32]).bind fun s49 => (cat s49 [59]).bind fun s51 => some s51 else some (jn [44, 32] ((l[i]).2.2.map mbT))) = some (itT l[i]) := by
      unfold itT at hit ⊢
      split
      · rename_i hgr
        rw [if_pos hgr] at hit
        rw [phrase_eq _ (by have := hx.grp.1; omega) hx.grp.2, bsome, cat_ok (by simp; omega), bsome, cat_ok (by simp; omega), bsome, grp_trim _ _ hp (by rw [map_len]; exact hc) hb hla, bsome, cat_ok (by simp at hit ⊢; omega), bsome]
      rfl
     rw [hg, bsome, app_ok (by simp; omega), bsome, chk_succ Om, bsome, ih (i + 1) m _ Om Om Om (by simp; omega), l09 hi, l0f, l0d]
     rfl
   rw [Y0B, if_neg Om, l08 Om]; simp
theorem rtl_L2 (l : List Itm) (n : Nat) (hn : n < l.length) (hx : OkI l[n]) : ∀ (k i m : Nat) (s : Ls), (l[n]).2.2.length - i ≤ k → k < m → i ≤ (l[n]).2.2.length → s.length ≤ 100000000 + 5000 * i →
 Y0C l (n : Int) m s (i : Int) = some (s ++ tl (l[n]).2.1 i (((l[n]).2.2.drop i).map mbT)) := by
 have hc := hx.cnt
 intro k
 induction k with
 | zero =>
   intro i m s h1 h2 h3 h4
   obtain ⟨m, rfl⟩ : ∃ k, m = k + 1 := ⟨m - 1, by omega⟩
   rw [Y0C, idx_nat, List.getElem?_eq_getElem hn, bsome, if_neg Om, l08 Om]; simp [tl]
 | succ k ih =>
   intro i m s h1 h2 h3 h4
   obtain ⟨m, rfl⟩ : ∃ k, m = k + 1 := ⟨m - 1, by omega⟩
   by_cases hi : i < (l[n]).2.2.length
   · have hm := hx.mem _ (l0L hi)
     have hml := mb_len hm
     obtain ⟨h5, h6, h7, _⟩ := addrF_ok hm
     obtain ⟨d1, d2⟩ := disp_ok h5
     have e1 := ph_len d1 d2
     have e2 := specT_len ((l[n]).2.2[i]).2.1 ((l[n]).2.2[i]).2.2
     have e3 := loc_len h6
     have e4 := dom_len h7
     have hsp : Y3a (((l[n]).2.2[i]).1, ((l[n]).2.2[i]).2.1, ((l[n]).2.2[i]).2.2) = some (specT ((l[n]).2.2[i]).2.1 ((l[n]).2.2[i]).2.2) := rspec_eq _ e3 e4
     have q1 : (if (0 : Int) < (i : Int) then (cat s [44]).bind fun s39 => some s39 else some s) = some (s ++ if 0 < i then [44] else []) := by
      by_cases h0 : 0 < i
      · rw [if_pos Om, if_pos h0, cat_ok (by simp; omega), bsome]
      rw [if_neg Om, if_neg h0, l0j]
     have l1 : (s ++ if 0 < i then [44] else []).length ≤ s.length + 1 := by split <;> simp
     have q2 : ∀ t : Ls, t.length ≤ s.length + 1 → (if (l[n]).2.1 = true then (cat t [32]).bind fun s46 => some s46 else some t) = some (t ++ if (l[n]).2.1 = true then [32] else []) := by
      intro t ht
      split
      · rw [cat_ok (by simp; omega), bsome]
      rw [l0j]
     have l2 : ((s ++ if 0 < i then [44] else []) ++ if (l[n]).2.1 = true then [32] else []).length ≤ s.length + 2 := by
      have h9 : (if (l[n]).2.1 = true then ([32] : Ls) else []).length ≤ 1 := by split <;> simp
      rw [l00]
      omega
     have hfin : ∀ t : Ls, t = ((s ++ if 0 < i then [44] else []) ++ if (l[n]).2.1 = true then [32] else []) ++ mbT ((l[n]).2.2[i]) → Y0C l (n : Int) m t ((i + 1 : Nat) : Int) = some (s ++ tl (l[n]).2.1 i (((l[n]).2.2.drop i).map mbT)) := by
      rintro t rfl
      rw [ih (i + 1) m _ Om Om Om (by rw [l00]; omega), l09 hi, l0f, tl]
      simp only [l0d]
     rw [Y0C, idx_nat, List.getElem?_eq_getElem hn, bsome, if_pos Om, bsome, idx_nat, List.getElem?_eq_getElem hi, bsome, q1, bsome, bsome, q2 _ l1, bsome, hsp]
     generalize ((s ++ if 0 < i then [44] else []) ++ if (l[n]).2.1 = true then [32] else []) = U at l2 hfin ⊢
     by_cases h0 : ((l[n]).2.2[i]).1 = []
     · rw [if_pos h0, bsome, cat_ok Om, bsome, chk_succ Om, bsome]
       exact hfin _ (by unfold mbT; rw [if_pos h0])
     rw [if_neg h0, rphrase_eq _ Om d2, bsome, cat_ok Om, bsome, cat_ok (by simp; omega), bsome, bsome, cat_ok (by simp; omega), bsome, cat_ok (by simp; omega), bsome, chk_succ Om, bsome]
     exact hfin _ (by unfold mbT; rw [if_neg h0]; simp only [l0d])
   rw [Y0C, idx_nat, List.getElem?_eq_getElem hn, bsome, if_neg Om, l08 Om]; simp [tl]
theorem rtl_L1 (l : List Itm) (hl : l.length ≤ 60) (ho : ∀ x ∈ l, OkI x) : ∀ (k i m : Nat) (s : Ls), l.length - i ≤ k → k < m → i ≤ l.length → s.length ≤ 400000 * i →
 Y0D l m s (i : Int) = some (s ++ ol i ((l.drop i).map itT)) := by
 intro k
 induction k with
 | zero =>
   intro i m s h1 h2 h3 h4
   obtain ⟨m, rfl⟩ : ∃ k, m = k + 1 := ⟨m - 1, by omega⟩
   rw [Y0D, if_neg Om, l08 Om]; simp [ol]
 | succ k ih =>
   intro i m s h1 h2 h3 h4
   obtain ⟨m, rfl⟩ : ∃ k, m = k + 1 := ⟨m - 1, by omega⟩
   by_cases hi : i < l.length
   · have hx := ho _ (l0L hi)
     have hit := it_len hx
     have hp := ph_len hx.grp.1 hx.grp.2
     have q1 : (if (0 : Int) < (i : Int) then (cat s [44, 32]).bind fun s12 => some s12 else some s) = some (s ++ if 0 < i then [44, 32] else []) := by
      by_cases h0 : 0 < i
      · rw [if_pos Om, if_pos h0, cat_ok (by simp; omega), bsome]
      rw [if_neg Om, if_neg h0, l0j]
     have l1 : (s ++ if 0 < i then [44, 32] else []).length ≤ s.length + 2 := by split <;> simp
     have hL2 : ∀ t : Ls, t.length ≤ s.length + 4100 → Y0C l (i : Int) FU t 0 = some (t ++ tl (l[i]).2.1 0 ((l[i]).2.2.map mbT)) := by
      intro t ht
      have := rtl_L2 l i hi hx (l[i]).2.2.length 0 FU t Om (FU_gt (by have := hx.cnt; omega)) Om Om
      rw [l0s] at this
      exact this
     have hfin : ∀ t : Ls, t = (s ++ if 0 < i then [44, 32] else []) ++ itT l[i] → Y0D l m t ((i + 1 : Nat) : Int) = some (s ++ ol i ((l.drop i).map itT)) := by
      rintro t rfl
      rw [ih (i + 1) m _ Om Om Om (by rw [l00]; omega), l09 hi, l0f, ol]
      simp only [l0d]
     rw [Y0D, if_pos Om, q1, bsome, idx_nat, List.getElem?_eq_getElem hi, bsome]
     generalize (s ++ if 0 < i then [44, 32] else []) = U at l1 hfin ⊢
     cases hg : (l[i]).2.1 with
     | true =>
       have hT : itT l[i] = ph (l[i]).1 ++ [58] ++ tl true 0 ((l[i]).2.2.map mbT) ++ [59] := by unfold itT; rw [if_pos hg]
       rw [hT] at hit
       rw [if_pos rfl, bsome, rphrase_eq _ (by have := hx.grp.1; omega) hx.grp.2, bsome, cat_ok Om, bsome, cat_ok (by simp; omega), bsome, bsome, hL2 _ (by simp; omega), bsome, bsome, hg, if_pos rfl,
        cat_ok (by simp at hit ⊢; omega), bsome, chk_succ Om, bsome]
       exact hfin _ (by rw [hT]; simp only [l0d])
     | false =>
       have hT : itT l[i] = jn [44, 32] ((l[i]).2.2.map mbT) := by unfold itT; rw [if_neg (by rw [hg]; decide)]
       rw [if_neg Dc, bsome, hL2 _ Om, bsome, bsome, hg, if_neg Dc, chk_succ Om, bsome]
       refine hfin _ ?_
       rw [hT]
       obtain ⟨a, ha⟩ : ∃ a, (l[i]).2.2 = [a] := List.length_eq_one_iff.1 (hx.one hg)
       rw [ha]
       simp [tl, jn]
   rw [Y0D, if_neg Om, l08 Om]; simp [ol]
theorem list_ok : ∀ (l : List Itm) (i : Nat), (listF i l).1 = 0 → (∀ x ∈ l, x.2.2.length ≤ 60) → ∀ x ∈ l, OkI x
 | y :: l, i, h, hc, x, hx => by
   rw [listF] at h
   split at h
   · rename_i h1
     rcases List.mem_cons.1 hx with rfl | hx
     · unfold itemF at h1
       split at h1
       · rename_i hd
         split at h1
         · cases h1
         rename_i hb
         refine ⟨disp_ok hd, memF_ok h1, hc _ Sm, fun hg => ?_⟩
         unfold badI at hb
         rw [hg] at hb
         by_cases h9 : x.2.2.length = 1
         · exact h9
         simp [h9] at hb
       rename_i hd; exact absurd h1 hd
     exact list_ok l (i + 1) h (fun z hz => hc z (by simp [hz])) x hx
   rename_i h1; exact absurd h h1
theorem sumN_mem : ∀ {l : List Itm} {x : Itm}, x ∈ l → x.2.2.length ≤ sumN l
 | y :: l, x, h => by
   have e : sumN (y :: l) = y.2.2.length + sumN l := by unfold sumN; rw [l0f, List.sum_cons]
   rw [e]
   rcases List.mem_cons.1 h with rfl | h
   · omega
   have := sumN_mem h; omega
theorem items_ok {l : List Itm} (hb : BigL l) (h : (itemsF l).1 = 0) : l.length ≤ 60 ∧ (∀ x ∈ l, OkI x) ∧ itemsF l = (0, 0) := by
 unfold itemsF at h ⊢
 split at h
 · cases h
 rename_i hn
 have h1 : l.length ≤ 60 := by omega
 have hs : sumW l = ((0 + sumN l : Nat) : Int) := sumW_go 140737488355328 l 0 (fun x hx => (hb.2 x hx).2.1) Om
 have h2 : sumN l ≤ 60 := by omega
 refine ⟨h1, list_ok l 0 h (fun x hx => l0W (sumN_mem hx) h2), ?_⟩
 rw [if_neg hn]
 have : ∀ (l : List Itm) (i : Nat), (listF i l).1 = 0 → listF i l = (0, 0) := by
  intro l
  induction l with
  | nil => intro i _; rfl
  | cons x l ih =>
    intro i h
    rw [listF] at h ⊢
    split at h
    · rename_i h1; rw [if_pos h1]; exact ih _ h
    rename_i h1; exact absurd h h1
 exact this l 0 h
theorem print_law (hex : Y0O = some true) (l : List Itm) (hl : BigL l) : Y1g l = some true := by
 unfold Y1g Y2N
 rw [hex, bsome, if_pos rfl, check_eq l hl, rcheck_eq l hl]
 by_cases h : (itemsF l).1 = 0
 · obtain ⟨h1, h2, h3⟩ := items_ok hl h
   have hP : Y0B l FU [] 0 = some (l.map itT) := by
    have := print_L1 l h1 h2 l.length 0 FU [] Om (FU_gt Om) Om Sm
    rw [l0s, l06] at this
    exact this
   have hj := jn_b 300000 (l.map itT) (by
    intro m hm
    obtain ⟨x, hx, rfl⟩ := List.mem_map.1 hm
    exact it_len (h2 x hx))
   rw [l0c] at hj
   have h5 : l.length * (300000 + 2) ≤ 60 * 300002 := l0D _ h1
   have hT : Y2W l = some (jn [44, 32] (l.map itT)) := by
    have := rtl_L1 l h1 h2 l.length 0 FU [] Om (FU_gt Om) Om Sm
    rw [l0s, l06] at this
    have this' : Y0D l FU [] 0 = some (ol 0 (l.map itT)) := this
    unfold Y2W
    rw [this', bsome]
    cases l.map itT with
    | nil => rfl
    | cons m ms => rw [jn_ol ms m 0, ol, if_neg Om]; rfl
   have hJ : Y0v (l.map itT) [44, 32] = some (jn [44, 32] (l.map itT)) := by
    unfold Y0v
    rw [if_pos ⟨by rw [l0c]; omega, by omega⟩]
   generalize jn [44, 32] (l.map itT) = T at hj hT hJ
   rw [h3]
   by_cases hbig : 4000 < T.length
   · have hb2 : (4000 : Int) < (T.length : Int) := by omega
     simp [failed_eq, none_eq, fault_eq, at_eq, hP, hJ, hT, hb2]
   have hb2 : ¬ (4000 : Int) < (T.length : Int) := by omega
   simp [failed_eq, none_eq, fault_eq, at_eq, hP, hJ, hT, hb2]
 obtain ⟨u, v, huv⟩ : ∃ u v, itemsF l = (u, v) := ⟨_, _, rfl⟩
 rw [huv] at h ⊢
 have hu : ¬ u = 0 := h
 simp [failed_eq, none_eq, fault_eq, at_eq, hu]
end Go.Ph.Ad
end
