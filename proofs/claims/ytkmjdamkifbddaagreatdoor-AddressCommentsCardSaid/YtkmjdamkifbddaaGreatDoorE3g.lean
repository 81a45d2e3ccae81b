/-
  AfD: own texts of this repository (wip/tpl, wip/plans), merged and shaken by wip/tools/pack.py.
-/
import Derived.Test.YtkmjdamkifbddaaGreatDoorE3f
set_option maxRecDepth 100000
set_option linter.unusedVariables false
set_option linter.unusedSimpArgs false
section
namespace Go.Ph.Ad
open Go.Ph.Pl Go.Ph.Pf
abbrev Wrd : Type := List UInt8 × Bool
def nd : LT → Bool
 | .err => true
 | .eof => false
 | .tok _ t => nd t
def sz : LT → Nat
 | .tok (.inr w) t => w.1.length + 1 + sz t
 | .tok (.inl _) t => sz t
 | _ => 0
def dp : LT → Nat
 | .tok _ t => dp t + 1
 | _ => 0
def wz : List Wrd → Nat
 | [] => 0
 | w :: l => w.1.length + 1 + wz l
def jl : List (List UInt8) → Nat
 | [] => 0
 | w :: l => w.length + 1 + jl l
theorem jl_app (x : List UInt8) : ∀ l : List (List UInt8), jl (l ++ [x]) = jl l + (x.length + 1)
 | [] => by simp [jl]
 | y :: l => by rw [List.cons_append, jl, jl, jl_app x l]; omega
theorem jl_len : ∀ l : List (List UInt8), l.length ≤ jl l
 | [] => Nat.zero_le _
 | y :: l => by have := jl_len l; rw [jl, List.length_cons]; omega
theorem jn_jl : ∀ l : List (List UInt8), (jn [32] l).length ≤ jl l - 1
 | [] => Nat.zero_le _
 | [x] => by simp [jn, jl]
 | x :: y :: l => by
   have := jn_jl (y :: l)
   rw [jn, jl]
   simp only [List.length_append, List.length_cons, List.length_nil, jl] at this ⊢
   omega
theorem wz_mem : ∀ {l : List Wrd} {x : Wrd}, x ∈ l → x.1.length ≤ wz l
 | y :: l, x, h => by
   rw [wz]
   rcases List.mem_cons.1 h with rfl | h
   · omega
   · have := wz_mem h; omega
theorem un_len : ∀ (n : Nat) (t : List UInt8), t.length ≤ n → t.length ≤ 10000 → (Wd.un t).length ≤ 4 * t.length := by
 intro n
 induction n with
 | zero => intro t h _; rw [List.eq_nil_of_length_eq_zero (by omega : t.length = 0), Wd.un_nil]; simp
 | succ n ih =>
   intro t h h2
   cases t with
   | nil => rw [Wd.un_nil]; simp
   | cons c r =>
     cases hp : Wd.pw (c :: r) with
     | none =>
       have := ih r (by simp at h; omega) (by simp at h2; omega)
       rw [Wd.un_none hp]; simp; omega
     | some p =>
       have hz := Wd.pw_size h2 hp
       have ha := Wd.after_len ((c :: r).drop p.2)
       rw [List.length_drop] at ha
       have := ih _ (by omega : (Wd.after ((c :: r).drop p.2)).length ≤ n) (by omega)
       rw [Wd.un_some h2 hp, List.length_append]; omega
theorem named1 (run out : List (List UInt8)) (h1 : jl run ≤ 4001) (h2 : jl out ≤ 100000) : ∃ o, Y1M run out = some ([], o) ∧ jl o ≤ jl out + 4 * jl run := by
 unfold Y1M
 cases run with
 | nil => exact ⟨out, rfl, by omega⟩
 | cons x r =>
   have hj := jn_jl (x :: r)
   have hl := jl_len out
   have hr := jl_len (x :: r)
   have hu := un_len _ (jn [32] (x :: r)) (Nat.le_refl _) (by omega)
   have hx : 1 ≤ jl (x :: r) := by rw [jl]; omega
   unfold Y0A
   rw [if_pos (by simp), if_pos ⟨by omega, by omega⟩, bsome, Wd.decode_eq (by omega), bsome]
   dsimp only
   rw [app_ok (by simp; omega), bsome]
   exact ⟨_, rfl, by rw [jl_app]; omega⟩
theorem namedL (l : List Wrd) (hw : l.length ≤ 100000) : ∀ (k i m : Nat) (out run : List (List UInt8)), l.length - i ≤ k → k < m → i ≤ l.length → jl run + wz (l.drop i) ≤ 4001 → jl out + 4 * jl run + 4 * wz (l.drop i) ≤ 100000 →
 ∃ o r, Y0C l m out run (i : Int) = some (o, r) ∧ jl r ≤ 4001 ∧ jl o + 4 * jl r ≤ jl out + 4 * jl run + 4 * wz (l.drop i) := by
 intro k
 induction k with
 | zero =>
   intro i m out run h1 h2 h3 h4 h5
   obtain ⟨m, rfl⟩ : ∃ k, m = k + 1 := ⟨m - 1, by omega⟩
   rw [Y0C, if_neg (by omega)]
   exact ⟨_, _, rfl, by omega, by omega⟩
 | succ k ih =>
   intro i m out run h1 h2 h3 h4 h5
   obtain ⟨m, rfl⟩ : ∃ k, m = k + 1 := ⟨m - 1, by omega⟩
   by_cases hi : i < l.length
   · rw [List.drop_eq_getElem_cons hi, wz] at h4 h5 ⊢
     rw [Y0C, if_pos (by omega), idx_nat, List.getElem?_eq_getElem hi, bsome]
     have hlo := jl_len out
     have hlr := jl_len run
     by_cases hq : l[i].2 = true
     · obtain ⟨o, e1, e2⟩ := named1 run out (by omega) (by omega)
       have hl2 := jl_len o
       rw [if_pos hq, e1, bsome]
       dsimp only
       rw [app_ok (by simp; omega), bsome, chk_succ (by omega), bsome]
       obtain ⟨o', r', q1, q2, q3⟩ := ih (i + 1) m (o ++ [l[i].1]) [] (by omega) (by omega) (by omega) (by rw [jl]; omega) (by rw [jl_app, jl]; omega)
       rw [jl_app, jl] at q3
       exact ⟨o', r', q1, q2, by omega⟩
     · rw [if_neg hq, app_ok (by simp; omega), bsome, chk_succ (by omega), bsome]
       obtain ⟨o', r', q1, q2, q3⟩ := ih (i + 1) m out (run ++ [l[i].1]) (by omega) (by omega) (by omega) (by rw [jl_app]; omega) (by rw [jl_app]; omega)
       rw [jl_app] at q3
       exact ⟨o', r', q1, q2, by omega⟩
   · rw [Y0C, if_neg (by omega)]
     exact ⟨_, _, rfl, by omega, by omega⟩
theorem wz_len : ∀ l : List Wrd, l.length ≤ wz l
 | [] => Nat.zero_le _
 | y :: l => by have := wz_len l; rw [wz, List.length_cons]; omega
def nam (l : List Wrd) : List UInt8 := (Y1D l).getD []
theorem named_eq (l : List Wrd) (h : wz l ≤ 4001) : Y1D l = some (nam l) ∧ (nam l).length ≤ 100000 := by
 have hl := wz_len l
 obtain ⟨o, r, q1, q2, q3⟩ := namedL l (by omega) l.length 0 FU [] [] (by omega) (FU_gt (by omega)) (by omega) (by rw [jl, List.drop_zero]; omega) (by rw [jl, List.drop_zero]; omega)
 rw [jl, List.drop_zero] at q3
 obtain ⟨o', q4, q5⟩ := named1 r o q2 (by omega)
 have hj := jn_jl o'
 have ho := jl_len o'
 have : Y1D l = some (jn [32] o') := by
  unfold Y1D
  rw [show (0 : Int) = ((0 : Nat) : Int) from rfl, q1, bsome]
  dsimp only
  rw [q4, bsome]
  dsimp only
  unfold Y0A
  rw [if_pos ⟨by omega, by omega⟩, bsome]
 unfold nam
 rw [this]
 exact ⟨rfl, by dsimp only [Option.getD]; omega⟩
theorem lex_cons (c : UInt8) (l : List UInt8) : lex (c :: l) = if blB c = true then lex l else if c = 40 then (match cmtF 1 l with | none => .err | some r => lex r) else if c = 34 then (match quF l with | none => .err | some p => .tok (.inr (p.1, true)) (lex p.2)) else
 if sgB c = true then .tok (.inl c) (lex l) else if waB c = true then .tok (.inr ((c :: l).takeWhile waB, false)) (lex ((c :: l).dropWhile waB)) else .err := by
 by_cases h1 : blB c = true
 · rw [if_pos h1, lex_blank h1]
 · rw [if_neg h1, lex_eq]
   unfold nxF
   rw [sk_cons, if_neg h1]
   by_cases h2 : c = 40
   · rw [if_pos h2, if_pos h2]
     cases cmtF 1 l with
     | none => rfl
     | some r => rw [bsome]; dsimp only; rw [lex_eq]; rfl
   · rw [if_neg h2, if_neg h2, bsome]
     dsimp only
     by_cases h3 : c = 34
     · rw [if_pos h3, if_pos h3]
       cases quF l <;> rfl
     · rw [if_neg h3, if_neg h3]
       by_cases h4 : sgB c = true
       · rw [if_pos h4, if_pos h4]; rfl
       · rw [if_neg h4, if_neg h4]
         by_cases h5 : waB c = true
         · rw [if_pos h5, if_pos h5]; rfl
         · rw [if_neg h5, if_neg h5]
theorem quF_sz : ∀ (l : List UInt8) (p : List UInt8 × List UInt8), quF l = some p → p.1.length + p.2.length < l.length
 | [], p, h => by simp [quF] at h
 | [c], p, h => by
   rw [quF] at h
   split at h
   · cases h; simp
   · cases h
 | c :: x :: l, p, h => by
   rw [quF] at h
   split at h
   · cases h; simp
   · split at h
     · obtain ⟨q, h1, rfl⟩ := Option.map_eq_some_iff.1 h
       have := quF_sz l q h1; simp; omega
     · obtain ⟨q, h1, rfl⟩ := Option.map_eq_some_iff.1 h
       have := quF_sz (x :: l) q h1; simp at this ⊢; omega
theorem lex_size : ∀ (n : Nat) (l : List UInt8), l.length ≤ n → sz (lex l) ≤ l.length + 1 ∧ dp (lex l) ≤ l.length ∧ ((∀ c r, l = c :: r → waB c = false) → sz (lex l) ≤ l.length) := by
 intro n
 induction n with
 | zero => intro l h; rw [List.eq_nil_of_length_eq_zero (by omega : l.length = 0), lex_nil]; simp [sz, dp]
 | succ n ih =>
   intro l h
   cases l with
   | nil => rw [lex_nil]; simp [sz, dp]
   | cons c l =>
     rw [List.length_cons] at h
     rw [lex_cons, List.length_cons]
     by_cases h1 : blB c = true
     · rw [if_pos h1]; have := ih l (by omega); omega
     · rw [if_neg h1]
       by_cases h2 : c = 40
       · rw [if_pos h2]
         have hc := cmtF_len l 1
         revert hc
         cases cmtF 1 l with
         | none => intro _; simp [sz, dp]
         | some r => intro hc; have := hc r rfl; have := ih r (by omega); dsimp only; omega
       · rw [if_neg h2]
         by_cases h3 : c = 34
         · rw [if_pos h3]
           have hc := quF_sz l
           revert hc
           cases quF l with
           | none => intro _; simp [sz, dp]
           | some p => intro hc; have := hc p rfl; have := ih p.2 (by omega); dsimp only; rw [sz, dp]; dsimp only; omega
         · rw [if_neg h3]
           by_cases h4 : sgB c = true
           · rw [if_pos h4, sz, dp]; have := ih l (by omega); omega
           · rw [if_neg h4]
             by_cases h5 : waB c = true
             · rw [if_pos h5, sz, dp]
               have e : ((c :: l).takeWhile waB).length + ((c :: l).dropWhile waB).length = l.length + 1 := by rw [← List.length_append, List.takeWhile_append_dropWhile, List.length_cons]
               have e2 : 1 ≤ ((c :: l).takeWhile waB).length := by rw [List.takeWhile_cons_of_pos h5]; simp
               have := ih ((c :: l).dropWhile waB) (by omega)
               have hd := this.2.2 (fun d r hd => by
                have := List.head?_dropWhile_not waB (c :: l)
                rw [hd] at this; simpa using this)
               refine ⟨by dsimp only; omega, by omega, fun hc => ?_⟩
               rw [hc c l rfl] at h5; cases h5
             · rw [if_neg h5]; simp [sz, dp]
abbrev NoS (c : List UInt8) : Prop := ∀ x ∈ c, x ≠ 40 ∧ x ≠ 41 ∧ x ≠ 92
theorem cmtF_cons (d : Nat) (c : UInt8) (l : List UInt8) (h : l ≠ []) : cmtF d (c :: l) = if c = 40 then cmtF (d + 1) l else if c = 41 then (if d = 1 then some l else cmtF (d - 1) l) else if c = 92 then cmtF d l.tail else cmtF d l := by
 cases l with
 | nil => exact absurd rfl h
 | cons x l => rw [cmtF]; rfl
theorem cmtF_through {r : List UInt8} {d : Nat} : ∀ {c : List UInt8}, NoS c → cmtF d (c ++ 41 :: r) = cmtF d (41 :: r)
 | [], _ => rfl
 | x :: c, h => by
   have hx := h x (by simp)
   rw [List.cons_append, cmtF_cons _ _ _ (by simp), if_neg hx.1, if_neg hx.2.1, if_neg hx.2.2, cmtF_through fun y hy => h y (by simp [hy])]
theorem lex_front {c r : List UInt8} (h : NoS c) : lex (32 :: 40 :: (c ++ 41 :: r)) = lex r := by
 rw [lex_blank (by decide)]
 refine lex_comment ?_
 rw [cmtF_through h]
 cases r <;> simp [cmtF]
def ub (c : List UInt8) : List UInt8 := 9 :: 40 :: (c ++ [41, 32])
theorem cmtF_ub {c : List UInt8} (h : NoS c) (d : Nat) : cmtF (d + 1) (ub c) = none ∧ cmtF (d + 1) (40 :: (c ++ [41, 32])) = none := by
 have h2 : cmtF (d + 1) (40 :: (c ++ [41, 32])) = none := by
  rw [cmtF_cons _ _ _ (by simp), if_pos rfl, cmtF_through h]
  simp [cmtF]
 refine ⟨?_, h2⟩
 unfold ub
 rw [cmtF_cons _ _ _ (by simp), if_neg (by decide), if_neg (by decide), if_neg (by decide), h2]
theorem cmtF_app {c : List UInt8} (h : NoS c) : ∀ (l : List UInt8) (d : Nat), cmtF (d + 1) (l ++ ub c) = (cmtF (d + 1) l).map (· ++ ub c)
 | [], d => (cmtF_ub h d).1
 | [x], d => by
   rw [List.cons_append, List.nil_append, cmtF_cons _ _ _ (by simp [ub]), cmtF]
   have hn := (cmtF_ub h (d + 1)).1
   by_cases h1 : x = 40
   · subst h1; rw [if_pos rfl, hn]; rfl
   · rw [if_neg h1]
     by_cases h2 : x = 41
     · rw [if_pos h2]
       cases d with
       | zero => rw [if_pos rfl, if_pos ⟨h2, rfl⟩]; rfl
       | succ d => rw [if_neg (by omega), if_neg (by omega)]; exact (cmtF_ub h d).1
     · rw [if_neg h2, if_neg (show ¬ (x = 41 ∧ d + 1 = 1) from fun e => h2 e.1)]
       split
       · exact (cmtF_ub h d).2
       · exact (cmtF_ub h d).1
 | x :: y :: l, d => by
   rw [List.cons_append, cmtF_cons _ _ _ (by simp), cmtF]
   split
   · exact cmtF_app h (y :: l) (d + 1)
   · split
     · cases d with
       | zero => rfl
       | succ d => rw [if_neg (by omega), if_neg (by omega)]; exact cmtF_app h (y :: l) d
     · split
       · exact cmtF_app h l d
       · exact cmtF_app h (y :: l) d
theorem quF_cons (c : UInt8) (l : List UInt8) (h : l ≠ []) : quF (c :: l) = if c = 34 then some ([], l) else if c = 92 then (quF l.tail).map fun p => (l.head h :: p.1, p.2) else (quF l).map fun p => (c :: p.1, p.2) := by
 cases l with
 | nil => exact absurd rfl h
 | cons x l => rw [quF]; rfl
theorem quF_end : ∀ (l : List UInt8) (p : List UInt8 × List UInt8), quF l = some p → ∃ x, l = x ++ 34 :: p.2
 | [], p, h => by simp [quF] at h
 | [c], p, h => by
   rw [quF] at h
   split at h
   · rename_i hc; cases h; exact ⟨[], by rw [hc]; rfl⟩
   · cases h
 | c :: x :: l, p, h => by
   rw [quF] at h
   split at h
   · rename_i hc; cases h; exact ⟨[], by rw [hc]; rfl⟩
   · split at h
     · obtain ⟨q, h1, rfl⟩ := Option.map_eq_some_iff.1 h
       obtain ⟨y, hy⟩ := quF_end l q h1
       exact ⟨c :: x :: y, by rw [hy]; rfl⟩
     · obtain ⟨q, h1, rfl⟩ := Option.map_eq_some_iff.1 h
       obtain ⟨y, hy⟩ := quF_end (x :: l) q h1
       exact ⟨c :: y, by rw [hy]; rfl⟩
theorem quF_app (u : List UInt8) (hu : u ≠ []) : ∀ l : List UInt8, (∃ p, quF l = some p ∧ quF (l ++ u) = some (p.1, p.2 ++ u)) ∨ (quF l = none ∧ ∀ p, quF (l ++ u) = some p → ∃ x, u = x ++ 34 :: p.2)
 | [] => .inr ⟨rfl, fun p hp => quF_end u p hp⟩
 | [c] => by
   rw [List.cons_append, List.nil_append, quF_cons _ _ hu, quF]
   by_cases h1 : c = 34
   · rw [if_pos h1, if_pos h1]; exact .inl ⟨_, rfl, rfl⟩
   · rw [if_neg h1, if_neg h1]
     refine .inr ⟨rfl, fun p hp => ?_⟩
     split at hp
     · obtain ⟨q, h3, rfl⟩ := Option.map_eq_some_iff.1 hp
       obtain ⟨y, hy⟩ := quF_end _ q h3
       exact ⟨u.head hu :: y, by rw [List.cons_append, ← hy, List.cons_head_tail]⟩
     · obtain ⟨q, h3, rfl⟩ := Option.map_eq_some_iff.1 hp
       exact quF_end _ q h3
 | c :: x :: l => by
   have h1 := quF_app u hu l
   have h2 := quF_app u hu (x :: l)
   rw [List.cons_append, List.cons_append, quF, quF]
   by_cases q1 : c = 34
   · rw [if_pos q1, if_pos q1]; exact .inl ⟨_, rfl, rfl⟩
   · rw [if_neg q1, if_neg q1]
     by_cases q2 : c = 92
     · rw [if_pos q2, if_pos q2]
       rcases h1 with ⟨p, e1, e2⟩ | ⟨e1, e2⟩
       · rw [e1, e2]; exact .inl ⟨_, rfl, rfl⟩
       · rw [e1]
         refine .inr ⟨rfl, fun p hp => ?_⟩
         obtain ⟨q, h3, rfl⟩ := Option.map_eq_some_iff.1 hp
         exact e2 q h3
     · rw [if_neg q2, if_neg q2, ← List.cons_append]
       rcases h2 with ⟨p, e1, e2⟩ | ⟨e1, e2⟩
       · rw [e1, e2]; exact .inl ⟨_, rfl, rfl⟩
       · rw [e1]
         refine .inr ⟨rfl, fun p hp => ?_⟩
         obtain ⟨q, h3, rfl⟩ := Option.map_eq_some_iff.1 hp
         exact e2 q h3
theorem tail_of {c x r : List UInt8} (h : c ++ [41, 32] = x ++ 34 :: r) : ∃ y, c = x ++ 34 :: y ∧ r = y ++ [41, 32] := by
 rcases List.append_eq_append_iff.1 h with ⟨a, h1, h2⟩ | ⟨a, h1, h2⟩
 · cases a with
   | nil => cases h2
   | cons y a => cases a with
     | nil => cases h2
     | cons z a => cases a <;> cases h2
 · cases a with
   | nil => cases h2
   | cons y a => cases h2; exact ⟨a, h1, rfl⟩
theorem dw_app {p : UInt8 → Bool} {u : List UInt8} (hu : ∀ c r, u = c :: r → p c = false) : ∀ l : List UInt8, (l ++ u).takeWhile p = l.takeWhile p ∧ (l ++ u).dropWhile p = l.dropWhile p ++ u
 | [] => by
   cases u with
   | nil => exact ⟨rfl, rfl⟩
   | cons c r => have := hu c r rfl; simp [this]
 | x :: l => by
   obtain ⟨h1, h2⟩ := dw_app hu l
   by_cases hx : p x = true
   · rw [List.cons_append, List.takeWhile_cons_of_pos hx, List.takeWhile_cons_of_pos hx, List.dropWhile_cons_of_pos hx, List.dropWhile_cons_of_pos hx, h1, h2]; exact ⟨rfl, rfl⟩
   · rw [List.cons_append, List.takeWhile_cons_of_neg hx, List.takeWhile_cons_of_neg hx, List.dropWhile_cons_of_neg hx, List.dropWhile_cons_of_neg hx]; exact ⟨rfl, rfl⟩
theorem bad_tail : ∀ (n : Nat) (c : List UInt8), c.length ≤ n → NoS c → nd (lex (c ++ [41, 32])) = true := by
 intro n
 induction n with
 | zero => intro c h _; rw [List.eq_nil_of_length_eq_zero (by omega : c.length = 0)]; rfl
 | succ n ih =>
   intro c h hn
   cases c with
   | nil => rfl
   | cons x c =>
     rw [List.length_cons] at h
     have hn2 : NoS c := fun y hy => hn y (by simp [hy])
     rw [List.cons_append, lex_cons]
     split
     · exact ih c (by omega) hn2
     · rw [if_neg (hn x (by simp)).1]
       split
       · cases hq : quF (c ++ [41, 32]) with
         | none => rfl
         | some p =>
           obtain ⟨y, hy⟩ := quF_end _ p hq
           obtain ⟨z, h1, h2⟩ := tail_of hy
           dsimp only
           rw [nd, h2]
           exact ih z (by rw [h1] at h; simp at h; omega) (fun w hw => hn2 w (by rw [h1]; simp [hw]))
       · split
         · exact ih c (by omega) hn2
         · split
           · rename_i hw
             have := (dw_app (p := waB) (u := [41, 32]) (by rintro c r e; cases e; rfl) (x :: c)).2
             rw [← List.cons_append, this, nd, List.dropWhile_cons_of_pos hw]
             exact ih _ (by have := dw_len waB c; omega) (fun w hw => hn2 w ((List.dropWhile_suffix _).sublist.subset hw))
           · rfl
theorem lex_back {c : List UInt8} (hc : NoS c) : ∀ (n : Nat) (l : List UInt8), l.length ≤ n → (nd (lex l) = false → lex (l ++ ub c) = lex l) ∧ (nd (lex l) = true → nd (lex (l ++ ub c)) = true) := by
 have h0 : lex (ub c) = .eof := by
  unfold ub
  rw [lex_blank (by decide), lex_comment (r := [32]) (by rw [cmtF_through hc]; simp [cmtF])]; rfl
 intro n
 induction n with
 | zero =>
   intro l h
   rw [List.eq_nil_of_length_eq_zero (by omega : l.length = 0), List.nil_append, h0]
   exact ⟨fun _ => rfl, fun h => h⟩
 | succ n ih =>
   intro l h
   cases l with
   | nil => rw [List.nil_append, h0]; exact ⟨fun _ => rfl, fun h => h⟩
   | cons x l =>
     rw [List.length_cons] at h
     rw [List.cons_append, lex_cons, lex_cons]
     split
     · exact ih l (by omega)
     · split
       · have e := cmtF_app hc l 0
         rw [Nat.zero_add] at e
         rw [e]
         have hl := cmtF_len l 1
         revert hl
         cases cmtF 1 l with
         | none => intro _; exact ⟨fun h => (by cases h), fun _ => rfl⟩
         | some r => intro hl; exact ih r (by have := hl r rfl; omega)
       · split
         · rcases quF_app (ub c) (by simp [ub]) l with ⟨p, e1, e2⟩ | ⟨e1, e2⟩
           · rw [e1, e2]
             have := quF_len _ _ e1
             have ih := ih p.2 (by omega)
             exact ⟨fun h => by dsimp only at h ⊢; rw [ih.1 h], fun h => ih.2 h⟩
           · rw [e1]
             refine ⟨fun h => (by cases h), fun _ => ?_⟩
             cases hq : quF (l ++ ub c) with
             | none => rfl
             | some p =>
               obtain ⟨y, hy⟩ := e2 p hq
               unfold ub at hy
               cases y with
               | nil => cases hy
               | cons a y => cases y with
                 | nil => cases hy
                 | cons b y =>
                   obtain ⟨z, h1, h2⟩ := tail_of (List.cons.inj (List.cons.inj hy).2).2
                   dsimp only
                   rw [nd, h2]
                   exact bad_tail _ z (Nat.le_refl _) (fun w hw => hc w (by rw [h1]; simp [hw]))
         · split
           · have ih := ih l (by omega)
             exact ⟨fun h => by rw [nd] at h; rw [ih.1 h], fun h => ih.2 h⟩
           · split
             · rename_i hw
               obtain ⟨e1, e2⟩ := dw_app (p := waB) (u := ub c) (by rintro c r e; cases e; rfl) (x :: l)
               rw [← List.cons_append, e1, e2]
               have ih := ih ((x :: l).dropWhile waB) (by rw [List.dropWhile_cons_of_pos hw]; have := dw_len waB l; omega)
               exact ⟨fun h => by rw [nd] at h; rw [ih.1 h], fun h => ih.2 h⟩
             · exact ⟨fun h => (by cases h), fun h => h⟩
abbrev St (t t' : LT) : Prop := nd t' = nd t ∧ dp t' ≤ dp t ∧ sz t' ≤ sz t
theorem wordsS_st : ∀ (t : LT) (l : List Wrd) (t' : LT), wordsS t = some (l, t') → nd t' = nd t ∧ l.length + dp t' ≤ dp t ∧ wz l + sz t' ≤ sz t
 | .err, l, t', h => by cases h
 | .eof, l, t', h => by cases h; exact ⟨rfl, Nat.le_refl _, Nat.le_refl _⟩
 | .tok (.inl c) t, l, t', h => by cases h; exact ⟨rfl, by simp, by simp [wz]⟩
 | .tok (.inr w) t, l, t', h => by
   rw [wordsS] at h
   obtain ⟨q, h1, h2⟩ := Option.map_eq_some_iff.1 h
   cases h2
   obtain ⟨e1, e2, e3⟩ := wordsS_st t q.1 q.2 h1
   rw [nd, dp, sz, wz, List.length_cons]
   exact ⟨e1, by omega, by omega⟩
theorem isS_st {c : UInt8} {t t' : LT} {b : Bool} (h : isS c t = some (b, t')) : St t t' ∧ (b = true → dp t' < dp t) := by
 cases t with
 | err => cases h
 | eof => cases h; exact ⟨⟨rfl, Nat.le_refl _, Nat.le_refl _⟩, fun h => by cases h⟩
 | tok e t =>
   cases e with
   | inr w => cases h; exact ⟨⟨rfl, Nat.le_refl _, Nat.le_refl _⟩, fun h => by cases h⟩
   | inl d =>
     rw [isS] at h
     split at h
     · cases h; exact ⟨⟨rfl, by rw [dp]; omega, by rw [sz]; omega⟩, fun _ => by rw [dp]; omega⟩
     · cases h; exact ⟨⟨rfl, Nat.le_refl _, Nat.le_refl _⟩, fun h => by cases h⟩
theorem needS_st {c : UInt8} {t t' : LT} (h : needS c t = some t') : St t t' ∧ dp t' < dp t := by
 obtain ⟨⟨b, u⟩, h1, h2⟩ := bnd h
 have := isS_st h1
 cases b with
 | true => cases h2; exact ⟨this.1, this.2 rfl⟩
 | false => cases h2
def domS : LT → Option (List UInt8 × LT)
 | .tok (.inr (d, false)) t => if domT d = true then some (d, t) else none
 | _ => none
def spcS (l : List Wrd) (t : LT) : Option (Adr × LT) :=
 match l with
 | [(w, q)] => if locT w = true ∧ (q = true ∨ dtF atB true w = true) then (needS 64 t).bind fun t => (domS t).map fun p => (([], w, p.1), p.2) else none
 | _ => none
def adrS (l : List Wrd) (t : LT) : Option (Adr × LT) :=
 (isS 60 t).bind fun p => if p.1 = true then (wordsS p.2).bind fun q => (spcS q.1 q.2).bind fun r => (needS 62 r.2).map fun t => ((nam l, r.1.2), t) else spcS l p.2
def itmL : Nat → List Adr → LT → Option (List Adr × LT)
 | 0, _, _ => none
 | n + 1, m, t => (wordsS t).bind fun q => (adrS q.1 q.2).bind fun r => (isS 59 r.2).bind fun u => if u.1 = true then some (m ++ [r.1], u.2) else (needS 44 u.2).bind fun t => itmL n (m ++ [r.1]) t
def itmS (t : LT) : Option (Itm × LT) :=
 (wordsS t).bind fun q => (isS 58 q.2).bind fun p => if p.1 = true then (if nam q.1 = [] then none else (isS 59 p.2).bind fun u => if u.1 = true then some ((nam q.1, true, []), u.2) else (itmL (dp u.2 + 1) [] u.2).map fun r => ((nam q.1, true, r.1), r.2))
  else (adrS q.1 p.2).map fun r => (([], false, [r.1]), r.2)
def prsL : Nat → List Itm → LT → Option (List Itm × LT)
 | 0, _, _ => none
 | n + 1, l, t => (isS 44 t).bind fun p => if p.1 = true then (itmS p.2).bind fun r => prsL n (l ++ [r.1]) r.2 else some (l, p.2)
def prsS (t : LT) : Option (List Itm) :=
 match t with
 | .eof => some []
 | t => (itmS t).bind fun r => (prsL (dp r.2 + 1) [r.1] r.2).bind fun p => match p.2 with
   | .eof => some p.1
   | _ => none
abbrev SzA (a : Adr) : Prop := a.1.length ≤ 100000 ∧ a.2.1.length ≤ 100000 ∧ a.2.2.length ≤ 100000
abbrev SzI (x : Itm) : Prop := x.1.length ≤ 100000 ∧ x.2.2.length ≤ 100000 ∧ ∀ a ∈ x.2.2, SzA a
theorem domS_st {t t' : LT} {d : List UInt8} (h : domS t = some (d, t')) : St t t' ∧ d.length ≤ 60 := by
 cases t with
 | err => cases h
 | eof => cases h
 | tok e t =>
   cases e with
   | inl c => cases h
   | inr w =>
     obtain ⟨w, q⟩ := w
     cases q with
     | true => cases h
     | false =>
       rw [domS] at h
       split at h
       · rename_i hd; cases h; exact ⟨⟨rfl, by rw [dp]; omega, by rw [sz]; omega⟩, dom_len hd⟩
       · cases h
theorem spcS_st {l : List Wrd} {t t' : LT} {a : Adr} (h : spcS l t = some (a, t')) : St t t' ∧ SzA a := by
 unfold spcS at h
 split at h
 · rename_i w q
   split at h
   · rename_i hw
     obtain ⟨u, h1, h2⟩ := bnd h
     obtain ⟨p, h3, h4⟩ := Option.map_eq_some_iff.1 h2
     cases h4
     have e1 := needS_st h1
     have e2 := domS_st h3
     have e3 := loc_len hw.1
     exact ⟨⟨e2.1.1.trans e1.1.1, Nat.le_trans e2.1.2.1 e1.1.2.1, Nat.le_trans e2.1.2.2 e1.1.2.2⟩, by simp, by dsimp only; omega, by dsimp only; omega⟩
   · cases h
 · cases h
theorem adrS_st {l : List Wrd} {t t' : LT} {a : Adr} (hl : wz l ≤ 4001) (h : adrS l t = some (a, t')) : St t t' ∧ SzA a := by
 obtain ⟨⟨b, u⟩, h1, h2⟩ := bnd h
 have e1 := (isS_st h1).1
 dsimp only at h2
 split at h2
 · obtain ⟨⟨m, v⟩, h3, h4⟩ := bnd h2
   obtain ⟨⟨c, w⟩, h5, h6⟩ := bnd h4
   obtain ⟨x, h7, h8⟩ := Option.map_eq_some_iff.1 h6
   cases h8
   have e2 := wordsS_st _ _ _ h3
   have e3 := spcS_st h5
   have e4 := needS_st h7
   have e5 := (named_eq l hl).2
   exact ⟨⟨e4.1.1.trans (e3.1.1.trans (e2.1.trans e1.1)), by have := e4.1.2.1; have := e3.1.2.1; have := e1.2.1; dsimp only at *; omega, by have := e4.1.2.2; have := e3.1.2.2; have := e1.2.2; dsimp only at *; omega⟩, e5, e3.2.2⟩
 · have e2 := spcS_st h2
   exact ⟨⟨e2.1.1.trans e1.1, Nat.le_trans e2.1.2.1 e1.2.1, Nat.le_trans e2.1.2.2 e1.2.2⟩, e2.2⟩
theorem itmL_st : ∀ (n : Nat) (m : List Adr) (t : LT) (m' : List Adr) (t' : LT), sz t ≤ 4001 → m.length + dp t ≤ 100000 → (∀ a ∈ m, SzA a) → itmL n m t = some (m', t') → St t t' ∧ m'.length ≤ 100000 ∧ ∀ a ∈ m', SzA a := by
 intro n
 induction n with
 | zero => intro m t m' t' _ _ _ h; cases h
 | succ n ih =>
   intro m t m' t' hs hd hm h
   rw [itmL] at h
   obtain ⟨⟨l, u⟩, h1, h2⟩ := bnd h
   obtain ⟨⟨a, v⟩, h3, h4⟩ := bnd h2
   obtain ⟨⟨b, w⟩, h5, h6⟩ := bnd h4
   have e1 := wordsS_st _ _ _ h1
   dsimp only at h3 h5 h6
   have e2 := adrS_st (by omega) h3
   have e3 := isS_st h5
   have hma : ∀ x ∈ m ++ [a], SzA x := by
    intro x hx
    rcases List.mem_append.1 hx with hx | hx
    · exact hm x hx
    · rw [List.mem_singleton.1 hx]; exact e2.2
   have hn := e3.1.1.trans (e2.1.1.trans e1.1)
   have hdp := e2.1.2.1
   have hsz := e2.1.2.2
   have hdq := e3.1.2.1
   have hsq := e3.1.2.2
   split at h6
   · rename_i hb
     cases h6
     have := e3.2 hb
     exact ⟨⟨hn, by omega, by omega⟩, by simp; omega, hma⟩
   · obtain ⟨x, h7, h8⟩ := bnd h6
     have e4 := needS_st h7
     have := e4.1.2.1
     have := e4.1.2.2
     have := e4.2
     obtain ⟨q1, q2⟩ := ih (m ++ [a]) x m' t' (by omega) (by simp; omega) hma h8
     have := q1.2.1
     have := q1.2.2
     exact ⟨⟨q1.1.trans (e4.1.1.trans hn), by omega, by omega⟩, q2⟩
theorem itmS_st {t t' : LT} {x : Itm} (hs : sz t ≤ 4001) (hd : dp t ≤ 4001) (h : itmS t = some (x, t')) : St t t' ∧ SzI x := by
 obtain ⟨⟨l, u⟩, h1, h2⟩ := bnd h
 obtain ⟨⟨b, v⟩, h3, h4⟩ := bnd h2
 have e1 := wordsS_st _ _ _ h1
 dsimp only at h3 h4
 have e2 := (isS_st h3).1
 have hn := e2.1.trans e1.1
 have hdp := e2.2.1
 have hsz := e2.2.2
 have e5 := (named_eq l (by omega)).2
 split at h4
 · split at h4
   · cases h4
   · obtain ⟨⟨c, w⟩, h5, h6⟩ := bnd h4
     have e3 := (isS_st h5).1
     have := e3.2.1
     have := e3.2.2
     dsimp only at h6
     split at h6
     · cases h6
       exact ⟨⟨e3.1.trans hn, by omega, by omega⟩, e5, by simp, by simp⟩
     · obtain ⟨⟨m, y⟩, h7, h8⟩ := Option.map_eq_some_iff.1 h6
       cases h8
       obtain ⟨q1, q2, q3⟩ := itmL_st _ [] _ _ _ (by omega) (by simp; omega) (by simp) h7
       have := q1.2.1
       have := q1.2.2
       exact ⟨⟨q1.1.trans (e3.1.trans hn), by dsimp only; omega, by dsimp only; omega⟩, e5, q2, q3⟩
 · obtain ⟨⟨a, y⟩, h7, h8⟩ := Option.map_eq_some_iff.1 h4
   cases h8
   obtain ⟨q1, q2⟩ := adrS_st (by omega) h7
   have := q1.2.1
   have := q1.2.2
   exact ⟨⟨q1.1.trans hn, by dsimp only; omega, by dsimp only; omega⟩, by simp, by simp, fun x hx => by rw [List.mem_singleton.1 hx]; exact q2⟩
theorem prsL_st : ∀ (n : Nat) (m : List Itm) (t : LT) (m' : List Itm) (t' : LT), sz t ≤ 4001 → dp t ≤ 4001 → m.length + dp t ≤ 100000 → (∀ x ∈ m, SzI x) → prsL n m t = some (m', t') → nd t' = nd t ∧ m'.length ≤ 100000 ∧ ∀ x ∈ m', SzI x := by
 intro n
 induction n with
 | zero => intro m t m' t' _ _ _ _ h; cases h
 | succ n ih =>
   intro m t m' t' hs hd1 hd hm h
   rw [prsL] at h
   obtain ⟨⟨b, u⟩, h1, h2⟩ := bnd h
   have e1 := isS_st h1
   have := e1.1.2.1
   have := e1.1.2.2
   dsimp only at h2
   split at h2
   · rename_i hb
     have := e1.2 hb
     obtain ⟨⟨x, v⟩, h3, h4⟩ := bnd h2
     have e2 := itmS_st (by omega) (by omega) h3
     have := e2.1.2.1
     have := e2.1.2.2
     obtain ⟨q1, q2⟩ := ih (m ++ [x]) v m' t' (by omega) (by omega) (by simp; omega) (by
      intro y hy
      rcases List.mem_append.1 hy with hy | hy
      · exact hm y hy
      · rw [List.mem_singleton.1 hy]; exact e2.2) h4
     exact ⟨q1.trans (e2.1.1.trans e1.1.1), q2⟩
   · cases h2
     exact ⟨e1.1.1, by omega, hm⟩
theorem prsS_st {t : LT} {l : List Itm} (hs : sz t ≤ 4001) (hd : dp t ≤ 4001) (h : prsS t = some l) : nd t = false ∧ l.length ≤ 100000 ∧ ∀ x ∈ l, SzI x := by
 unfold prsS at h
 split at h
 · cases h; exact ⟨rfl, by simp, by simp⟩
 · obtain ⟨⟨x, u⟩, h1, h2⟩ := bnd h
   obtain ⟨⟨m, v⟩, h3, h4⟩ := bnd h2
   have e1 := itmS_st hs hd h1
   have := e1.1.2.1
   have := e1.1.2.2
   dsimp only at h3 h4
   have e2 := prsL_st _ [x] u m v (by omega) (by omega) (by simp; omega) (fun y hy => by rw [List.mem_singleton.1 hy]; exact e1.2) h3
   split at h4
   · cases h4
     exact ⟨(e2.1.trans e1.1.1).symm, e2.2⟩
   · cases h4
theorem RnS.bind {α β : Type} {s : List UInt8} {f : Option ((α × (List UInt8 × Int)) ⊕ Int)} {x : Option (α × LT)} {k : (α × (List UInt8 × Int)) ⊕ Int → Option ((β × (List UInt8 × Int)) ⊕ Int)} {g : α × LT → Option (β × LT)} (h : RnS s f x)
 (hk : ∀ a (j : Nat) t, j ≤ s.length → t = lex (s.drop j) → x = some (a, t) → RnS s (k (.inl (a, (s, (j : Int))))) (g (a, t))) (hn : ∀ n, k (.inr n) = some (.inr n)) : RnS s (f.bind k) (x.bind g) := by
 cases x with
 | none => obtain ⟨n, h1, h2⟩ := h; rw [h2, bsome, hn]; exact ⟨n, h1, rfl⟩
 | some p => obtain ⟨a, t⟩ := p; obtain ⟨j, h1, h2, h3⟩ := h; rw [h3, bsome, bsome]; exact hk a j t h1 h2 rfl
theorem RsS.bind {β : Type} {s : List UInt8} {f : Option ((List UInt8 × Int) ⊕ Int)} {x : Option LT} {k : (List UInt8 × Int) ⊕ Int → Option ((β × (List UInt8 × Int)) ⊕ Int)} {g : LT → Option (β × LT)} (h : RsS s f x)
 (hk : ∀ (j : Nat) t, j ≤ s.length → t = lex (s.drop j) → x = some t → RnS s (k (.inl (s, (j : Int)))) (g t)) (hn : ∀ n, k (.inr n) = some (.inr n)) : RnS s (f.bind k) (x.bind g) := by
 cases x with
 | none => obtain ⟨n, h1, h2⟩ := h; rw [h2, bsome, hn]; exact ⟨n, h1, rfl⟩
 | some t => obtain ⟨j, h1, h2, h3⟩ := h; rw [h3, bsome, bsome]; exact hk j t h1 h2 rfl
theorem mapb {α β : Type} (f : α → β) (o : Option α) : o.map f = o.bind fun a => some (f a) := by cases o <;> rfl
theorem bid {α : Type} (o : Option α) : (o.bind fun r => some r) = o := by cases o <;> rfl
theorem RnS.fail {α : Type} {s : List UInt8} (i : Nat) : RnS (α := α) s (some (.inr (i : Int))) none := ⟨_, Int.natCast_nonneg _, rfl⟩
theorem spc_run (s : List UInt8) (hs : Sml s) (i : Nat) (h3 : i ≤ s.length) (l : List Wrd) (hl : wz l ≤ 4001) : RnS s (Y0l (s, (i : Int)) l) (spcS l (lex (s.drop i))) := by
 unfold Y0l
 match l, hl with
 | [], _ => rw [if_neg (by simp), bsome, if_pos rfl, fail_eq, bsome]; exact RnS.fail i
 | x :: y :: r, _ => rw [if_neg (by simp only [List.length_cons]; omega), bsome, if_pos rfl, fail_eq, bsome]; exact RnS.fail i
 | [(w, q)], hl =>
   have hi : idx [(w, q)] 0 = some (w, q) := rfl
   have hw : w.length ≤ 4001 := Nat.le_trans (wz_mem (l := [(w, q)]) (x := (w, q)) (by simp)) hl
   have hbad : (if ((([(w, q)] : List (List UInt8 × Bool)).length : Int) = (1 : Int)) then (idx [(w, q)] 0).bind fun a5 => (Y1B a5.1).bind fun b6 => (if b6 = true then (idx [(w, q)] 0).bind fun a8 => (if a8.2 = true then some false else (idx [(w, q)] 0).bind fun a10 => (Y1o a10.1).bind fun b11 => some (!b11)) else some true) else some true) = some (!decide (locT w = true ∧ (q = true ∨ dtF atB true w = true))) := by
    rw [if_pos (show ((([(w, q)] : List (List UInt8 × Bool)).length : Int) = (1 : Int)) from rfl), hi, bsome, local_eq _ (by unfold Big; dsimp only; omega), bsome]
    dsimp only
    cases locT w with
    | false => rfl
    | true =>
      rw [if_pos rfl, bsome]
      dsimp only
      cases q with
      | true => rfl
      | false =>
        rw [if_neg (by decide), bsome, dotted_eq _ (by dsimp only; omega), bsome]
        dsimp only
        cases dtF atB true w <;> rfl
   rw [hbad, bsome, spcS]
   by_cases hg : locT w = true ∧ (q = true ∨ dtF atB true w = true)
   · rw [decide_eq_true hg, if_neg (by decide), bsome, if_pos hg]
     dsimp only
     refine RsS.bind (need_run s hs i h3 64) (fun j t j1 j2 _ => ?_) fun _ => rfl
     dsimp only
     rw [j2]
     cases hx : lex (s.drop j) with
     | err =>
       obtain ⟨n, n1, n2⟩ := next_err s hs j j1 hx
       rw [n2, bsome]; exact ⟨n, n1, rfl⟩
     | eof =>
       obtain ⟨k, _, k2⟩ := next_eof s hs j j1 hx
       rw [k2, bsome]
       dsimp only
       rw [okW_eq, bsome]
       dsimp only [getW, isW]
       simp only [Bool.false_eq_true, if_false, bsome, if_true, fail_eq]
       exact RnS.fail k
     | tok e u =>
       obtain ⟨k, k1, _, k3, k4⟩ := next_tok s hs j j1 hx
       rw [k4, bsome]
       dsimp only
       rw [okW_eq, bsome]
       cases e with
       | inl c =>
         dsimp only [getW, isW]
         simp only [Bool.false_eq_true, if_false, bsome, if_true, fail_eq]
         exact RnS.fail k
       | inr v =>
         obtain ⟨v, b⟩ := v
         dsimp only [getW, isW]
         cases b with
         | true => simp only [if_true, bsome, fail_eq]; exact RnS.fail k
         | false =>
           simp only [if_true, Bool.false_eq_true, if_false, domain_eq, bsome, domS]
           cases hd : domT v with
           | false => simp only [Bool.not_false, if_true, fail_eq, bsome, Bool.false_eq_true, if_false]; exact RnS.fail k
           | true => simp only [Bool.not_true, if_true, bsome, Bool.false_eq_true, if_false, hi]; exact ⟨k, k1, k3, rfl⟩
   · rw [decide_eq_false hg, if_pos (by decide), fail_eq, bsome, bsome, if_neg hg]; exact RnS.fail i
theorem adr_run (s : List UInt8) (hs : Sml s) (i : Nat) (h3 : i ≤ s.length) (l : List Wrd) (hl : wz l ≤ 4001) (ht : sz (lex (s.drop i)) ≤ 4001) : RnS s (Y0w (s, (i : Int)) l) (adrS l (lex (s.drop i))) := by
 unfold Y0w adrS
 dsimp only
 refine RnS.bind (is_run s hs i h3 60) (fun b j t j1 j2 j3 => ?_) fun _ => rfl
 have e1 := (isS_st j3).1.2.2
 dsimp only
 cases b with
 | true =>
   rw [if_pos rfl, if_pos rfl, j2]
   refine RnS.bind (Y47 s hs j j1) (fun m k u k1 k2 k3 => ?_) fun _ => rfl
   have e2 := wordsS_st _ _ _ k3
   dsimp only
   rw [k2]
   refine RnS.bind (spc_run s hs k k1 m (by rw [← j2] at e2; omega)) (fun a n v n1 n2 n3 => ?_) fun _ => rfl
   dsimp only
   rw [(named_eq l hl).1, bsome, n2, mapb]
   exact RsS.bind (need_run s hs n n1 62) (fun p w p1 p2 _ => ⟨p, p1, p2, rfl⟩) fun _ => rfl
 | false =>
   rw [if_neg (by decide), if_neg (by decide), j2]
   have h := spc_run s hs j j1 l hl
   revert h
   cases spcS l (lex (s.drop j)) with
   | none => rintro ⟨n, q1, q2⟩; rw [q2, bsome]; exact ⟨n, q1, rfl⟩
   | some p => obtain ⟨a, v⟩ := p; rintro ⟨k, q1, q2, q3⟩; rw [q3, bsome]; exact ⟨k, q1, q2, rfl⟩
theorem itmL_run (s : List UInt8) (hs : Sml s) (x : List UInt8) (y : Bool) (z : List Adr) (g : List UInt8) (b : Bool) : ∀ (n m i : Nat) (acc : List Adr), i ≤ s.length → dp (lex (s.drop i)) < n → dp (lex (s.drop i)) < m → sz (lex (s.drop i)) ≤ 4001 → acc.length + dp (lex (s.drop i)) ≤ 100000 →
 RnS s (Y0x m s (i : Int) x y z g b acc) ((itmL n acc (lex (s.drop i))).bind fun r => some ((g, b, r.1), r.2)) := by
 intro n
 induction n with
 | zero => intro m i acc _ h; omega
 | succ n ih =>
   intro m i acc h1 h2 h3 h4 h5
   obtain ⟨m, rfl⟩ : ∃ k, m = k + 1 := ⟨m - 1, by omega⟩
   rw [Y0x, itmL, Option.bind_assoc]
   refine RnS.bind (Y47 s hs i h1) (fun l j t j1 j2 j3 => ?_) fun _ => rfl
   have e1 := wordsS_st _ _ _ j3
   dsimp only
   rw [j2, Option.bind_assoc]
   rw [j2] at e1
   refine RnS.bind (adr_run s hs j j1 l (by omega) (by omega)) (fun a k u k1 k2 k3 => ?_) fun _ => rfl
   have e2 := (adrS_st (by omega) k3).1
   rw [k2] at e2
   have e21 := e2.2.1
   have e22 := e2.2.2
   dsimp only
   rw [app_ok (by simp; omega), bsome, k2, Option.bind_assoc]
   refine RnS.bind (is_run s hs k k1 59) (fun c p v p1 p2 p3 => ?_) fun _ => rfl
   have e3 := (isS_st p3).1
   rw [p2] at e3
   have e31 := e3.2.1
   have e32 := e3.2.2
   dsimp only
   cases c with
   | true => rw [if_pos rfl, if_pos rfl]; exact ⟨p, p1, p2, rfl⟩
   | false =>
     rw [if_neg (by decide), if_neg (by decide), p2, Option.bind_assoc]
     refine RsS.bind (need_run s hs p p1 44) (fun q w q1 q2 q3 => ?_) fun _ => rfl
     have e4 := needS_st q3
     rw [q2] at e4
     have e41 := e4.1.2.2
     have e42 := e4.2
     rw [q2]
     exact ih m q (acc ++ [a]) q1 (by omega) (by omega) (by omega) (by simp; omega)
theorem itm_run (s : List UInt8) (hs : Sml s) (i : Nat) (h3 : i ≤ s.length) (ht : sz (lex (s.drop i)) ≤ 4001) (hd : dp (lex (s.drop i)) ≤ 4001) : RnS s (Y0j (s, (i : Int))) (itmS (lex (s.drop i))) := by
 unfold Y0j itmS
 dsimp only
 refine RnS.bind (Y47 s hs i h3) (fun l j t j1 j2 j3 => ?_) fun _ => rfl
 have e1 := wordsS_st _ _ _ j3
 rw [j2] at e1
 dsimp only
 rw [j2]
 refine RnS.bind (is_run s hs j j1 58) (fun b k u k1 k2 k3 => ?_) fun _ => rfl
 have e2 := (isS_st k3).1
 rw [k2] at e2
 have e21 := e2.2.1
 have e22 := e2.2.2
 dsimp only
 rw [k2]
 cases b with
 | true =>
   rw [if_pos rfl, if_pos rfl, (named_eq l (by omega)).1, bsome]
   by_cases hn : nam l = []
   · rw [if_pos hn, if_pos hn, fail_eq, bsome, bsome]; exact RnS.fail k
   · rw [if_neg hn, if_neg hn, bsome]
     dsimp only
     refine RnS.bind (is_run s hs k k1 59) (fun c p v p1 p2 p3 => ?_) fun _ => rfl
     have e3 := (isS_st p3).1
     rw [p2] at e3
     have e31 := e3.2.1
     have e32 := e3.2.2
     dsimp only
     cases c with
     | true => rw [if_pos rfl, if_pos rfl]; exact ⟨p, p1, p2, rfl⟩
     | false =>
       rw [if_neg (by decide), if_neg (by decide), p2, mapb, bid]
       exact itmL_run s hs _ _ _ _ _ _ FU p [] p1 (Nat.lt_succ_self _) (FU_gt (by omega)) (by omega) (by simp; omega)
 | false =>
   rw [if_neg (by decide), if_neg (by decide), mapb]
   exact RnS.bind (adr_run s hs k k1 l (by omega) (by omega)) (fun a p v p1 p2 _ => ⟨p, p1, p2, rfl⟩) fun _ => rfl
abbrev PF : Type := List Itm × (Int × Int)
def PrR (s : List UInt8) (f : Option ((List Itm × List UInt8 × Int) ⊕ PF)) : Option (List Itm × LT) → Prop
 | some (l, t) => ∃ j : Nat, j ≤ s.length ∧ t = lex (s.drop j) ∧ f = some (.inl (l, s, (j : Int)))
 | none => ∃ n : Int, f = some (.inr ([], (11, n)))
theorem prsL_run (s : List UInt8) (hs : Sml s) : ∀ (n m i : Nat) (l : List Itm), i ≤ s.length → dp (lex (s.drop i)) < n → dp (lex (s.drop i)) < m → sz (lex (s.drop i)) ≤ 4001 → dp (lex (s.drop i)) ≤ 4001 → l.length + dp (lex (s.drop i)) ≤ 100000 →
 PrR s (Y0X s m l s (i : Int)) (prsL n l (lex (s.drop i))) := by
 intro n
 induction n with
 | zero => intro m i l _ h; omega
 | succ n ih =>
   intro m i l h1 h2 h3 h4 h5 h6
   obtain ⟨m, rfl⟩ : ∃ k, m = k + 1 := ⟨m - 1, by omega⟩
   rw [Y0X, prsL]
   have hi := is_run s hs i h1 44
   revert hi
   cases hx : isS 44 (lex (s.drop i)) with
   | none => rintro ⟨n, q1, q2⟩; rw [q2, bsome]; exact ⟨_, rfl⟩
   | some p =>
     obtain ⟨b, t⟩ := p
     rintro ⟨j, j1, j2, j3⟩
     have e1 := isS_st hx
     rw [j2] at e1
     have e11 := e1.1.2.1
     have e12 := e1.1.2.2
     rw [j3, bsome, bsome]
     dsimp only
     cases b with
     | false => rw [if_neg (by decide), if_neg (by decide)]; exact ⟨j, j1, j2, rfl⟩
     | true =>
       have e13 := e1.2 rfl
       rw [if_pos rfl, if_pos rfl, j2]
       have ht := itm_run s hs j j1 (by omega) (by omega)
       revert ht
       cases hy : itmS (lex (s.drop j)) with
       | none => rintro ⟨n, q1, q2⟩; rw [q2, bsome]; exact ⟨_, rfl⟩
       | some p =>
         obtain ⟨x, u⟩ := p
         rintro ⟨k, k1, k2, k3⟩
         have e2 := (itmS_st (by omega) (by omega) hy).1
         rw [k2] at e2
         have e21 := e2.2.1
         have e22 := e2.2.2
         rw [k3, bsome, bsome]
         dsimp only
         rw [app_ok (by simp; omega), bsome, k2]
         exact ih m k (l ++ [x]) k1 (by omega) (by omega) (by omega) (by omega) (by simp; omega)
theorem parse_run (s : List UInt8) (hs : s.length ≤ 4000) : match prsS (lex s) with
 | none => ∃ n : Int, Y0U s = some ([], (11, n))
 | some l => Y0U s = some (if (itemsF l).1 = 0 then (l, (0, 0)) else ([], ((itemsF l).1, -2))) := by
 have hsm : Sml s := by unfold Sml; omega
 have hz := lex_size _ s (Nat.le_refl _)
 have fin : ∀ l : List Itm, prsS (lex s) = some l → ((Y1l l).bind fun (n85, n86) => (Y19 (n85, n86)).bind fun b88 => (if b88 = true then (Y07 n85 (-2)).bind fun (n91, n92) => some (([] : List Itm), (n91, n92)) else (Y0z).bind fun (n94, n95) => some (l, (n94, n95)))) = some (if (itemsF l).1 = 0 then (l, (0, 0)) else ([], ((itemsF l).1, -2))) := by
  intro l hl
  obtain ⟨_, h1, h2⟩ := prsS_st (by omega) (by omega) hl
  have hb : BigL l := ⟨by omega, fun x hx => ⟨by have := (h2 x hx).1; unfold Big; omega, by have := (h2 x hx).2.1; omega, fun a ha => by have h := (h2 x hx).2.2 a ha; have e1 := h.1; have e2 := h.2.1; have e3 := h.2.2; exact ⟨by unfold Big; omega, by unfold Big; omega, by unfold Big; omega⟩⟩⟩
  rw [check_eq l hb, bsome]
  obtain ⟨u, v, huv⟩ : ∃ u v, itemsF l = (u, v) := ⟨_, _, rfl⟩
  rw [huv]
  by_cases hu : u = 0
  · subst hu; simp [failed_eq, none_eq]
  · simp [failed_eq, fault_eq, hu]
 unfold Y0U
 rw [if_neg (by omega)]
 have hp := peek_run s hsm 0 (by omega)
 have hl0 : lex (s.drop 0) = lex s := rfl
 rw [hl0] at hp
 rcases hp with ⟨h, n, _, hp⟩ | ⟨h, hp⟩
 · have hp' : Y0d (s, 0) = some (.inr n) := hp
   rw [hp', bsome, h]; exact ⟨_, rfl⟩
 have hp' : Y0d (s, 0) = some (.inl (elOf (lex s), (s, (0 : Int)))) := hp
 rw [hp', bsome]
 dsimp only
 cases hx : lex s with
 | err => exact absurd hx h
 | eof =>
   have := fin [] (by rw [hx]; rfl)
   rw [if_pos (show elOf .eof = none from rfl), bsome]
   exact this
 | tok e t =>
   rw [← hx, if_neg (show ¬ elOf (lex s) = none by rw [hx]; simp [elOf])]
   have hps : prsS (lex s) = (itmS (lex s)).bind fun r => (prsL (dp r.2 + 1) [r.1] r.2).bind fun p => match p.2 with
    | .eof => some p.1
    | _ => none := by rw [hx]; rfl
   have ht := itm_run s hsm 0 (by omega) (by rw [hl0]; omega) (by rw [hl0]; omega)
   rw [hl0] at ht
   revert ht hps
   cases hy : itmS (lex s) with
   | none =>
     rintro hps ⟨n, q1, q2⟩
     have q2' : Y0j (s, 0) = some (.inr n) := q2
     rw [hps, q2', bsome, bsome]; exact ⟨_, rfl⟩
   | some p =>
     obtain ⟨x, u⟩ := p
     rintro hps ⟨k, k1, k2, k3⟩
     have e2 := (itmS_st (by omega) (by omega) hy).1
     rw [k2] at e2
     have e21 := e2.2.1
     have e22 := e2.2.2
     have k3' : Y0j (s, 0) = some (.inl (x, (s, (k : Int)))) := k3
     rw [k3', bsome]
     dsimp only
     rw [app_ok (by simp), bsome]
     have hr := prsL_run s hsm (dp (lex (s.drop k)) + 1) FU k [x] k1 (by omega) (FU_gt (by omega)) (by omega) (by omega) (by simp; omega)
     rw [bsome] at hps
     dsimp only at hps
     rw [k2] at hps
     revert hr hps
     cases prsL (dp (lex (s.drop k)) + 1) [x] (lex (s.drop k)) with
     | none =>
       rintro hps ⟨n, hr⟩
       rw [List.nil_append, hr, hps, bsome, bsome]; exact ⟨_, rfl⟩
     | some p =>
       obtain ⟨l, v⟩ := p
       rintro hps ⟨j, j1, j2, j3⟩
       rw [List.nil_append, j3, bsome]
       dsimp only
       have hpk := peek_run s hsm j j1
       rw [← j2] at hpk
       rw [bsome] at hps
       dsimp only at hps
       cases v with
       | err =>
         rcases hpk with ⟨_, n, _, hpk⟩ | ⟨hh, _⟩
         · rw [hpk, hps, bsome, bsome]; exact ⟨_, rfl⟩
         · exact absurd rfl hh
       | eof =>
         rcases hpk with ⟨hh, _⟩ | ⟨_, hpk⟩
         · cases hh
         · have := fin l hps
           rw [hpk, hps, bsome]
           dsimp only
           rw [if_pos (show elOf .eof = none from rfl), bsome]
           exact this
       | tok e w =>
         rcases hpk with ⟨hh, _⟩ | ⟨_, hpk⟩
         · cases hh
         · rw [hpk, hps, bsome]
           dsimp only
           rw [if_neg (show ¬ elOf (.tok e w) = none by simp [elOf]), fail_eq, bsome, bsome]; exact ⟨_, rfl⟩
theorem oneOf_eq (c : UInt8) : R_OneOf c [40, 41, 92] = some (decide (c = 40 ∨ c = 41 ∨ c = 92)) := by
 unfold R_OneOf
 obtain ⟨k, hk⟩ : ∃ k, FU = k + 1 + 1 + 1 + 1 := ⟨18446744073709551612, rfl⟩
 rw [hk]
 by_cases h1 : c = 40
 · subst h1; simp [Y2c, idx]
 · by_cases h2 : c = 41
   · subst h2; simp [Y2c, idx, chk]
   · by_cases h3 : c = 92
     · subst h3; simp [Y2c, idx, chk]
     · have e1 : ¬ (40 : UInt8) = c := fun e => h1 e.symm
       have e2 : ¬ (41 : UInt8) = c := fun e => h2 e.symm
       have e3 : ¬ (92 : UInt8) = c := fun e => h3 e.symm
       simp [Y2c, idx, chk, e1, e2, e3, h1, h2, h3]
theorem comments_L1 (c : List UInt8) (hc : Big c) : ∀ (k i m : Nat), c.length - i ≤ k → k < m → i ≤ c.length →
 Y0e c m (i : Int) = some (.inr true) ∨ (Y0e c m (i : Int) = some (.inl ()) ∧ NoS (c.drop i)) := by
 have hb : c.length ≤ 140737488355328 := hc
 intro k
 induction k with
 | zero =>
   intro i m h1 h2 h3
   obtain ⟨m, rfl⟩ : ∃ k, m = k + 1 := ⟨m - 1, by omega⟩
   rw [Y0e, if_neg (by omega), List.drop_eq_nil_of_le (by omega)]
   exact .inr ⟨rfl, fun x hx => by cases hx⟩
 | succ k ih =>
   intro i m h1 h2 h3
   obtain ⟨m, rfl⟩ : ∃ k, m = k + 1 := ⟨m - 1, by omega⟩
   by_cases hi : i < c.length
   · rw [Y0e, if_pos (by omega), idx_nat, List.getElem?_eq_getElem hi, bsome, oneOf_eq, bsome, List.drop_eq_getElem_cons hi]
     by_cases ho : c[i] = 40 ∨ c[i] = 41 ∨ c[i] = 92
     · rw [decide_eq_true ho, if_pos rfl]; exact .inl rfl
     · rw [decide_eq_false ho, if_neg (by decide), chk_succ (by omega), bsome]
       rcases ih (i + 1) m (by omega) (by omega) (by omega) with h | ⟨h, hn⟩
       · exact .inl h
       · refine .inr ⟨h, fun x hx => ?_⟩
         rcases List.mem_cons.1 hx with rfl | hx
         · exact ⟨fun e => ho (.inl e), fun e => ho (.inr (.inl e)), fun e => ho (.inr (.inr e))⟩
         · exact hn x hx
   · rw [Y0e, if_neg (by omega), List.drop_eq_nil_of_le (by omega)]
     exact .inr ⟨rfl, fun x hx => by cases hx⟩
theorem comments_law (hex : Y0N = some true) (s c : List UInt8) (hs : Big s) (hc : Big c) : Y2d s c = some true := by
 have hbs : s.length ≤ 140737488355328 := hs
 have hbc : c.length ≤ 140737488355328 := hc
 unfold Y2d
 rw [hex, bsome, if_pos rfl]
 rcases comments_L1 c hc c.length 0 FU (by omega) (FU_gt (by omega)) (by omega) with h | ⟨h, hn⟩
 · rw [show (0 : Int) = ((0 : Nat) : Int) from rfl, h]; rfl
 have h' : Y0e c FU 0 = some (.inl ()) := h
 rw [List.drop_zero] at hn
 rw [h', bsome]
 dsimp only
 rw [chk_ok (by omega) (by omega), bsome, chk_ok (by omega) (by omega), bsome]
 by_cases hl : (3900 : Int) < (s.length : Int) + 2 * (c.length : Int)
 · rw [if_pos hl]
 rw [if_neg hl]
 have ht : [32, 40] ++ c ++ [41] ++ s ++ [9, 40] ++ c ++ [41, 32] = 32 :: 40 :: (c ++ 41 :: (s ++ ub c)) := by simp [ub]
 have hlx : lex (32 :: 40 :: (c ++ 41 :: (s ++ ub c))) = lex (s ++ ub c) := lex_front hn
 have hbk := lex_back hn _ s (Nat.le_refl _)
 have p1 := parse_run s (by omega)
 have p2 := parse_run (32 :: 40 :: (c ++ 41 :: (s ++ ub c))) (by simp [ub]; omega)
 rw [hlx] at p2
 have hz := lex_size _ s (Nat.le_refl _)
 have hz2 := lex_size _ (s ++ ub c) (Nat.le_refl _)
 rw [List.length_append] at hz2
 have hub : (ub c).length = c.length + 4 := by simp [ub]
 have key : prsS (lex (s ++ ub c)) = prsS (lex s) := by
  cases hnd : nd (lex s) with
  | false => rw [hbk.1 hnd]
  | true =>
    have h2 := hbk.2 hnd
    have q1 : ∀ t : LT, nd t = true → sz t ≤ 4001 → dp t ≤ 4001 → prsS t = none := by
     intro t ht h1 h2
     cases hp : prsS t with
     | none => rfl
     | some l => rw [(prsS_st h1 h2 hp).1] at ht; cases ht
    rw [q1 _ hnd (by omega) (by omega), q1 _ h2 (by omega) (by omega)]
 rw [key] at p2
 have c1 : cat [32, 40] c = some ([32, 40] ++ c) := cat_ok (by simp; omega)
 have c2 : cat ([32, 40] ++ c) [41] = some ([32, 40] ++ c ++ [41]) := cat_ok (by simp; omega)
 have c3 : cat ([32, 40] ++ c ++ [41]) s = some ([32, 40] ++ c ++ [41] ++ s) := cat_ok (by simp; omega)
 have c4 : cat ([32, 40] ++ c ++ [41] ++ s) [9, 40] = some ([32, 40] ++ c ++ [41] ++ s ++ [9, 40]) := cat_ok (by simp; omega)
 have c5 : cat ([32, 40] ++ c ++ [41] ++ s ++ [9, 40]) c = some ([32, 40] ++ c ++ [41] ++ s ++ [9, 40] ++ c) := cat_ok (by simp; omega)
 have c6 : cat ([32, 40] ++ c ++ [41] ++ s ++ [9, 40] ++ c) [41, 32] = some ([32, 40] ++ c ++ [41] ++ s ++ [9, 40] ++ c ++ [41, 32]) := cat_ok (by simp; omega)
 rw [← ht] at p2
 revert p1 p2
 cases hp : prsS (lex s) with
 | none =>
   rintro ⟨n, p1⟩ ⟨k, p2⟩
   simp only [p1, p2, c1, c2, c3, c4, c5, c6, bsome]
   rfl
 | some l =>
   intro p1 p2
   dsimp only at p1 p2
   obtain ⟨_, h1, h2⟩ := prsS_st (by omega) (by omega) hp
   by_cases hf : (itemsF l).1 = 0
   · rw [if_pos hf] at p1 p2
     simp only [p1, p2, c1, c2, c3, c4, c5, c6, bsome, if_true]
     rw [sameI_refl l (by omega) fun x hx => by have := (h2 x hx).2.1; omega]
     rfl
   · rw [if_neg hf] at p1 p2
     simp only [p1, p2, c1, c2, c3, c4, c5, c6, bsome, if_neg hf]
     rfl
end Go.Ph.Ad
end
