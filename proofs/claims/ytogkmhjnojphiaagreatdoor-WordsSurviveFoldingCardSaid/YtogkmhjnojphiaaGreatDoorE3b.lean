/-
  Conf, Arr, Make, Lb, Row, Glo, Shelf, Cls, Card, Seq, Qt, Its, Cx, Bld, Own, Pcs, Usr, Rcl, Rls, GrRef, Rpc, Low, Val: own texts of this repository (wip/tpl, wip/plans), merged and shaken by wip/tools/pack.py.
-/
import Derived.Laws.Runes
import Derived.WideLaws
import Derived.Laws.MakeOwn
import Derived.ChangeKeysEq
import Derived.Lib.Split
import Derived.Lib.SplitLaws
import Derived.Lib.AtoiAll
import Derived.Lib.AtoiErrMem
import Derived.Lib.ItoaNum
import Derived.Lib.Repeat
import Derived.Sort.Grow
import Derived.WalkSmall
import Derived.WalkKit
import Derived.ProofKit
import Derived.OpenShut
import Derived.JoinedCond
import Derived.Carry
import Derived.Lib.LaidTab
import Derived.Lib.LaidU8
import Derived.Shelf.Vars
import Derived.Lay
import Derived.Shelf.Strings.Builder1
import Derived.Shelf.Strings.Builder2
import Derived.Shelf.Strings.OnBuilder
import Derived.Shelf.Strings.Trim
import Derived.Shelf.Small.Utf8
import Derived.Shelf.Small.Strs
import Derived.Shelf.Strings.BuilderF
import Derived.Shelf.Strings.BuilderK
import Derived.Shelf.Utf8.AppendRune
import Derived.Shelf.Utf8.AppendRunePlain
import Derived.Shelf.Utf8.RuneCount
import Derived.Shelf.Strings.Builder2Cap
import Derived.Shelf.Strings.Search1
import Derived.Shelf.Strings.Search2
import Derived.Shelf.Strings.Search3
import Derived.Shelf.Strings.Cut
import Derived.Shelf.Strings.Count
import Derived.Shelf.LaysM
import Derived.Shelf.Strings.Shaped
import Derived.Shelf.Strings.Prefix
import Derived.Shelf.Strings.Split
import Derived.Shelf.Strings.Replace
import Derived.Shelf.Strings.SplitShaped
import Derived.Shelf.Unicode.Decode
import Derived.Shelf.Strings.Runes
import Derived.Shelf.Strings.RuneCount
import Derived.Shelf.Strings.IndexAny
import Derived.Shelf.Strings.AsciiSet
import Derived.Shelf.Strings.IndexAnyAll
import Derived.Shelf.Strings.Explode
import Derived.Shelf.Unicode.DecodeSlow
import Derived.Shelf.Unicode.DecodeAny
import Derived.Shelf.Unicode.DecodeLast
import Derived.Shelf.Strings.BuilderCap
import Derived.Shelf.Bytes.SlIndexAt
import Derived.Shelf.Bytes.SlSearch0
import Derived.Shelf.Bytes.SlSmallAll
import Derived.Shelf.Bytes.SlEqualAll
import Derived.Shelf.Bytes.Small
import Derived.Shelf.Bytes.IndexByte
import Derived.Test.YtogkmhjnojphiaaGreatDoorProg
import Derived.Test.YtogkmhjnojphiaaGreatDoorRows
import Derived.KernelRfl
import Derived.Deep.DeepHandedRow
import Derived.Lib.UnsafeStr
import Derived.Lib.Builder
import Derived.Laws.Externs
import Derived.Lib.Replace
import Derived.Lib.IndexMore
import Derived.Lib.DecodeN
import Derived.Test.YtogkmhjnojphiaaGreatDoorE3a
set_option maxRecDepth 100000
section
set_option linter.unusedVariables false
set_option linter.unusedSimpArgs false
namespace Go.Ph
open Go Go.RowKit
abbrev CoreT := List (Nat × Value × List Nat)
def envD (core : CoreT) (dp : List Nat) : Env := dp.filterMap fun j => (core[j]?).map fun x => (x.1, x.2.1)
def envAll (core : CoreT) : Env := core.map fun x => (x.1, x.2.1)
def edgeOn (o : Oper) (j : Nat) : Bool := o.after.any fun e => Region.binds .any e && Nat.beq e.on j
def depsOf (ops : Array Oper) (k : Nat) : List Nat := match ops[k]? with
  | some o => (o.after.toList.filter (fun e => Region.binds .any e)).map (·.on)
  | none => []
def markC (ops : Array Oper) : Nat → List Nat → List Nat
  | 0, ms => ms
  | k + 1, ms => markC ops k (if ms.contains k then ms ++ depsOf ops k else ms)
def coreOK (ops : Array Oper) (c : Nat) (ds : List (Nat × List Nat)) : Bool :=
  Nat.ble c ops.size && Nat.beq ds.length c && (ds.map (·.1)).Nodup &&
  (List.range c).all (fun i => match ops[i]?, ds[i]? with
    | some o, some (d, dp) => (o.dst == some d) && dp.all (fun j => edgeOn o j && Nat.blt j c) && o.after.all (fun e => !Region.binds .any e || Nat.blt e.on i)
    | _, _ => false) &&
  (List.range ops.size).all (fun j => Nat.blt j c || match ops[j]? with
    | some o => (List.range c).all (fun i => !Nat.beq i j && (markC ops (j + 1) [j]).contains i)
    | none => false)
def keysFree (e : Env) (ds : List Nat) : Bool := e.all fun p => !ds.contains p.1
theorem get_none_of_free {e : Env} {ds : List Nat} (h : keysFree e ds = true) {d : Nat} (hd : d ∈ ds) : get e d = none := by
  induction e with
  | nil => rfl
  | cons p e ih =>
    obtain ⟨j, v⟩ := p
    simp only [keysFree, List.all_cons, Bool.and_eq_true] at h
    have hne : d ≠ j := by rintro rfl; have := h.1; simp [hd] at this
    rw [get, show Nat.beq d j = false from by cases hb : Nat.beq d j with | false => rfl | true => exact absurd (Nat.eq_of_beq_eq_true hb) hne]
    exact ih h.2
section
variable {C : Nat → Prop} {P : Program} {ops : Array Oper} {Q : Exit → Act → World → Prop} {n : Nat} {D : List Deferred} {e0 : Env} {w0 w : World} {M0 M : Mem} {L : List Item}
def StepsC (P : Program) (ops : Array Oper) (n : Nat) (D : List Deferred) (e0 : Env) (C : Nat → Prop) (w0 : World) (M0 M : Mem) (L : List Item) (core : CoreT) : Nat → CoreT → Prop
  | _, [] => True
  | i, (d, v, dp) :: r => (∃ o, ops[i]? = some o ∧ ∀ (E : Env) w M', StX C w0 M0 M' L w → M.le M' → ∀ Q' : Exit → Act → World → Prop, (∀ w'' M'', StX C w0 M0 M'' L w'' → M'.le M'' → WQ Q' .normal n D ((d, v) :: (envD core dp ++ (e0 ++ E))) w'') → WR none P ops Q' n D [o] (envD core dp ++ (e0 ++ E)) w) ∧
      StepsC P ops n D e0 C w0 M0 M L core (i + 1) r
theorem StepsC.at {core : CoreT} : ∀ {r : CoreT} {i : Nat}, StepsC P ops n D e0 C w0 M0 M L core i r → ∀ (k d : Nat) (v : Value) (dp : List Nat), r[k]? = some (d, v, dp) →
    ∃ o, ops[i + k]? = some o ∧ ∀ (E : Env) w M', StX C w0 M0 M' L w → M.le M' → ∀ Q' : Exit → Act → World → Prop, (∀ w'' M'', StX C w0 M0 M'' L w'' → M'.le M'' → WQ Q' .normal n D ((d, v) :: (envD core dp ++ (e0 ++ E))) w'') → WR none P ops Q' n D [o] (envD core dp ++ (e0 ++ E)) w
  | [], i, _, k, d, v, dp, hk => by simp at hk
  | (d0, v0, dp0) :: r, i, h, 0, d, v, dp, hk => by
    simp at hk
    obtain ⟨rfl, rfl, rfl⟩ := hk
    exact h.1
  | (d0, v0, dp0) :: r, i, h, k + 1, d, v, dp, hk => by
    have := StepsC.at h.2 k d v dp (by simpa using hk)
    rwa [show i + 1 + k = i + (k + 1) by omega] at this
def Filled (core : CoreT) (listed : Array Bool) (a : Act) : Prop := ∀ j d v dp, core[j]? = some (d, v, dp) → listed.getD j false = true → a.tmps.getD d undef = v
theorem Sat.more {a : Act} (h : Sat n D e0 a) : ∀ (e : Env), (∀ p ∈ e, a.tmps.getD p.1 undef = p.2) → Sat n D (e ++ e0) a
  | [], _ => h
  | (j, u) :: e, hp => by
    have ih := Sat.more h e (fun p hp' => hp p (by simp [hp']))
    refine ⟨h.size, h.defers, fun i v hi => ?_⟩
    simp only [List.cons_append, get] at hi
    cases hb : Nat.beq i j with
    | true =>
      rw [hb] at hi
      have : i = j := Nat.eq_of_beq_eq_true hb
      subst this
      have : u = v := Option.some.inj hi
      subst this
      exact hp (i, u) (by simp)
    | false => rw [hb] at hi; exact ih.val i v hi
theorem edgeOn_listed {o : Oper} {i j : Nat} {listed : Array Bool} (hi : i ∈ Region.ready .any ops listed) (ho : ops[i]? = some o) (he : edgeOn o j = true) : listed.getD j false = true := by
  unfold Region.ready at hi
  rw [List.mem_filter] at hi
  have h2 := hi.2
  rw [ho] at h2
  simp only [Option.map_some, Option.getD_some, Bool.and_eq_true] at h2
  unfold edgeOn at he
  rw [Array.any_eq_true] at he
  obtain ⟨k, hk, hb⟩ := he
  have h3 := (Array.all_eq_true.1 h2.2) k hk
  simp only [Bool.and_eq_true] at hb
  have hj : (o.after[k]).on = j := Nat.eq_of_beq_eq_true hb.2
  simp only [hb.1, Bool.not_true, Bool.false_or, hj] at h3
  exact h3
def Closed (ops : Array Oper) (listed : Array Bool) : Prop := ∀ i o, ops[i]? = some o → listed.getD i false = true → ∀ x, edgeOn o x = true → listed.getD x false = true
theorem deps_edge {k x : Nat} (h : x ∈ depsOf ops k) : ∃ o, ops[k]? = some o ∧ edgeOn o x = true := by
  unfold depsOf at h
  cases ho : ops[k]? with
  | none => rw [ho] at h; cases h
  | some o =>
    rw [ho] at h
    obtain ⟨e, he, rfl⟩ := List.mem_map.1 h
    obtain ⟨h1, h2⟩ := List.mem_filter.1 he
    refine ⟨o, rfl, ?_⟩
    unfold edgeOn
    rw [← Array.any_toList, List.any_eq_true]
    exact ⟨e, h1, by simp [h2]⟩
theorem markC_listed {j : Nat} {listed : Array Bool} (hj : j ∈ Region.ready .any ops listed) (hcl : Closed ops listed) : ∀ (k : Nat) (ms : List Nat), (∀ x ∈ ms, x = j ∨ listed.getD x false = true) → ∀ x ∈ markC ops k ms, x = j ∨ listed.getD x false = true
  | 0, ms, h => h
  | k + 1, ms, h => by
    rw [markC]
    refine markC_listed hj hcl k _ ?_
    split
    · rename_i hk
      intro x hx
      rcases List.mem_append.1 hx with hx | hx
      · exact h x hx
      · obtain ⟨o, ho, he⟩ := deps_edge hx
        rcases h k (List.contains_iff_mem.1 hk) with rfl | hl
        · exact .inr (edgeOn_listed hj ho he)
        · exact .inr (hcl k o ho hl x he)
    · exact h
theorem ready_unlisted {i : Nat} {listed : Array Bool} (hi : i ∈ Region.ready .any ops listed) : i < ops.size ∧ listed.getD i true = false := by
  unfold Region.ready at hi
  rw [List.mem_filter] at hi
  have h2 := hi.2
  simp only [Bool.and_eq_true] at h2
  exact ⟨List.mem_range.1 hi.1, by simpa using h2.1⟩
def lst (m c : Nat) : Array Bool := (List.replicate c true ++ List.replicate (m - c) false).toArray
theorem WA.conf (core : CoreT) {m c : Nat} (hm : ops.size = m) (hc : core.length = c) (hok : coreOK ops c (core.map fun x => (x.1, x.2.2)) = true) (hfree : keysFree e0 (core.map (·.1)) = true) (hn : (core.map (·.1)).all (fun d => Nat.blt d n) = true)
    (H : StX C w0 M0 M L w) (hs : StepsC P ops n D e0 C w0 M0 M L core 0 core)
    (k : ∀ w M', StX C w0 M0 M' L w → M.le M' → WA none P ops Q n D (m - c) (lst m c) (envAll core ++ e0) w) : WA none P ops Q n D m (Array.replicate m false) e0 w := by
  unfold coreOK at hok
  simp only [Bool.and_eq_true, List.length_map] at hok
  obtain ⟨⟨⟨⟨o1, o2⟩, o3⟩, o4⟩, o5⟩ := hok
  have hcm : c ≤ m := by rw [← hm]; exact Nat.le_of_ble_eq_true o1
  have hnd : (core.map (·.1)).Nodup := by
    have := of_decide_eq_true o3
    rw [List.map_map] at this
    exact this
  have hop : ∀ i, i < c → ∃ o d v dp, ops[i]? = some o ∧ core[i]? = some (d, v, dp) ∧ o.dst = some d ∧ (∀ j ∈ dp, edgeOn o j = true ∧ j < c) ∧ (∀ j, edgeOn o j = true → j < i) := fun i hi => by
    have h1 := List.all_eq_true.1 o4 i (List.mem_range.2 hi)
    obtain ⟨⟨d, v, dp⟩, hci⟩ : ∃ x, core[i]? = some x := ⟨_, List.getElem?_eq_getElem (by omega)⟩
    rw [List.getElem?_map, hci] at h1
    cases ho : ops[i]? with
    | none => rw [ho] at h1; cases h1
    | some o =>
      rw [ho] at h1
      simp only [Option.map_some, Bool.and_eq_true] at h1
      refine ⟨o, d, v, dp, rfl, hci, by simpa using h1.1.1, fun j hj => ?_, fun j hj => ?_⟩
      · have := List.all_eq_true.1 h1.1.2 j hj
        simp only [Bool.and_eq_true] at this
        exact ⟨this.1, Nat.le_of_ble_eq_true this.2⟩
      · unfold edgeOn at hj
        rw [Array.any_eq_true] at hj
        obtain ⟨q, hq, hb⟩ := hj
        simp only [Bool.and_eq_true] at hb
        have h3 := (Array.all_eq_true.1 h1.2) q hq
        simp only [hb.1, Bool.not_true, Bool.false_or] at h3
        have := Nat.eq_of_beq_eq_true hb.2
        rw [← this]
        exact Nat.le_of_ble_eq_true h3
  have hlate : ∀ j, c ≤ j → j < m → ∀ i, i < c → i ≠ j ∧ i ∈ markC ops (j + 1) [j] := fun j h1 h2 => by
    have h3 := List.all_eq_true.1 o5 j (List.mem_range.2 (by omega))
    have hb : Nat.blt j c = false := by
      cases hb : Nat.blt j c with
      | false => rfl
      | true => have := Nat.le_of_ble_eq_true hb; omega
    rw [hb, Bool.false_or] at h3
    cases ho : ops[j]? with
    | none => rw [ho] at h3; cases h3
    | some o =>
      rw [ho] at h3
      intro i hi
      have := List.all_eq_true.1 h3 i (List.mem_range.2 hi)
      simp only [Bool.and_eq_true] at this
      exact ⟨by omega, List.contains_iff_mem.1 this.2⟩
  -- the invariant
  have main : ∀ (f : Nat) (listed : Array Bool) (a : Act) (w : World) (M' : Mem), listed.size = m → (∀ j, c ≤ j → j < m → listed.getD j true = false) → Closed ops listed → ((List.range c).filter (fun j => !listed.getD j true)).length = f → Sat n D e0 a → Filled core listed a → StX C w0 M0 M' L w → M.le M' →
      wpAnyIn (Wd none) 0 P .any ops (noP Q) (m - c + f) listed a w := by
    intro f
    induction f with
    | zero =>
      intro listed a w M' h1 h2 hcl h3 h4 h5 h6 h7
      have hall : ∀ j, j < c → listed.getD j true = true := fun j hj => by
        cases hb : listed.getD j true with
        | true => rfl
        | false =>
          have : j ∈ (List.range c).filter (fun j => !listed.getD j true) := List.mem_filter.2 ⟨List.mem_range.2 hj, by simp [hb]⟩
          rw [List.eq_nil_of_length_eq_zero h3] at this
          cases this
      have hl : listed = lst m c := by
        unfold lst
        apply Array.ext
        · simp [h1]; omega
        · intro i hi1 hi2
          have hg : listed.getD i true = listed[i] := by simp [Array.getD, hi1]
          rcases Nat.lt_or_ge i c with hc' | hc'
          · have := hall i hc'
            rw [hg] at this
            rw [this]
            simp [List.getElem_append, hc']
          · have := h2 i hc' (by omega)
            rw [hg] at this
            rw [this]
            simp [List.getElem_append, Nat.not_lt.2 hc']
      rw [Nat.add_zero, hl]
      refine k w M' h6 h7 a (h4.more _ (fun p hp => ?_))
      unfold envAll at hp
      obtain ⟨x, hx, rfl⟩ := List.mem_map.1 hp
      obtain ⟨j, hj, rfl⟩ := List.getElem_of_mem hx
      refine h5 j _ _ (core[j]).2.2 (by rw [List.getElem?_eq_getElem hj]) ?_
      have := hall j (by omega)
      have hjs : j < listed.size := by omega
      simp [Array.getD, hjs] at this ⊢
      exact this
    | succ f ih =>
      intro listed a w M' h1 h2 hcl h3 h4 h5 h6 h7
      show wpAnyIn (Wd none) 0 P .any ops (noP Q) ((m - c + f) + 1) listed a w
      -- some operation is ready
      have hsome : ∃ i, i < c ∧ listed.getD i true = false ∧ ∀ j, j < i → listed.getD j true = true := by
        have hne : (List.range c).filter (fun j => !listed.getD j true) ≠ [] := by intro h; rw [h] at h3; simp at h3
        have : ∃ i, i < c ∧ listed.getD i true = false := by
          obtain ⟨x, hx⟩ := List.exists_mem_of_ne_nil _ hne
          obtain ⟨a1, a2⟩ := List.mem_filter.1 hx
          exact ⟨x, List.mem_range.1 a1, by simpa using a2⟩
        obtain ⟨i, hi⟩ := this
        clear h3 hne
        induction i using Nat.strongRecOn with
        | _ i ihi =>
          by_cases hj : ∃ j, j < i ∧ listed.getD j true = false
          · obtain ⟨j, hj1, hj2⟩ := hj
            exact ihi j hj1 ⟨by omega, hj2⟩
          · refine ⟨i, hi.1, hi.2, fun j hj' => ?_⟩
            cases hb : listed.getD j true with
            | true => rfl
            | false => exact absurd ⟨j, hj', hb⟩ hj
      obtain ⟨i0, q1, q2, q3⟩ := hsome
      have hready : Region.ready .any ops listed ≠ [] := by
        obtain ⟨o, d, v, dp, g1, g2, g3, g4, g5⟩ := hop i0 q1
        have : i0 ∈ Region.ready .any ops listed := by
          unfold Region.ready
          rw [List.mem_filter]
          refine ⟨List.mem_range.2 (by omega), ?_⟩
          rw [g1]
          simp only [Option.map_some, Option.getD_some, Bool.and_eq_true]
          refine ⟨by simp [q2], Array.all_eq_true.2 (fun q hq => ?_)⟩
          cases hb : Region.binds .any o.after[q] with
          | false => rfl
          | true =>
            simp only [Bool.not_true, Bool.false_or]
            have hlt := g5 (o.after[q]).on (by
              unfold edgeOn
              rw [Array.any_eq_true]
              exact ⟨q, hq, by simp [hb]⟩)
            have := q3 _ hlt
            have hjs : (o.after[q]).on < listed.size := by omega
            simp [Array.getD, hjs] at this ⊢
            exact this
        intro h
        rw [h] at this
        cases this
      refine ⟨fun h => absurd h hready, fun i hi => ?_⟩
      obtain ⟨r1, r2⟩ := ready_unlisted hi
      have hic : i < c := by
        rcases Nat.lt_or_ge i c with h | h
        · exact h
        · exfalso
          obtain ⟨g1, g2⟩ := hlate i h (by omega) i0 q1
          have := (markC_listed hi hcl (i + 1) [i] (fun x hx => .inl (by simpa using hx)) i0 g2).resolve_left g1
          have hjs : i0 < listed.size := by omega
          simp [Array.getD, hjs] at this q2
          rw [this] at q2
          cases q2
      obtain ⟨o, d, v, dp, g1, g2, g3, g4, g5⟩ := hop i hic
      obtain ⟨o', g1', hstep⟩ := hs.at i d v dp g2
      rw [Nat.zero_add, g1] at g1'
      cases g1'
      have hE : ∀ j u, get ((List.range n).map fun j => (j, a.tmps.getD j undef)) j = some u → a.tmps.getD j undef = u := fun j u hu => by
        have : ∀ (l : List Nat), get (l.map fun j => (j, a.tmps.getD j undef)) j = some u → a.tmps.getD j undef = u := by
          intro l
          induction l with
          | nil => intro h; cases h
          | cons x l ihl =>
            intro h
            simp only [List.map_cons, get] at h
            cases hb : Nat.beq j x with
            | true =>
              rw [hb] at h
              have hjx : j = x := Nat.eq_of_beq_eq_true hb
              rw [hjx]
              exact Option.some.inj h
            | false => rw [hb] at h; exact ihl h
        exact this _ hu
      have hsE : Sat n D ((List.range n).map fun j => (j, a.tmps.getD j undef)) a := ⟨h4.size, h4.defers, hE⟩
      have hin : ∀ (e : Env), (∀ j u, get e j = some u → a.tmps.getD j undef = u) → ∀ (e' : Env), (∀ j u, get e' j = some u → a.tmps.getD j undef = u) → ∀ j u, get (e ++ e') j = some u → a.tmps.getD j undef = u := by
        intro e
        induction e with
        | nil => intro _ e' h' j u hu; exact h' j u hu
        | cons p e ihe =>
          intro h e' h' j u hu
          obtain ⟨x, y⟩ := p
          simp only [List.cons_append, get] at hu
          cases hb : Nat.beq j x with
          | true =>
            rw [hb] at hu
            exact h j u (by simp only [get, hb]; exact hu)
          | false =>
            rw [hb] at hu
            by_cases hex : ∃ u', get e j = some u'
            · -- the first part answers
              have key : ∀ (e : Env) (u' : Value), get e j = some u' → get (e ++ e') j = some u' := by
                intro e
                induction e with
                | nil => intro u' h; cases h
                | cons q e ihq =>
                  intro u' h
                  obtain ⟨x', y'⟩ := q
                  simp only [List.cons_append, get] at h ⊢
                  cases hb' : Nat.beq j x' with
                  | true => rw [hb'] at h; exact h
                  | false => rw [hb'] at h; exact ihq u' h
              obtain ⟨u', hu'⟩ := hex
              have := key e u' hu'
              have hu2 : get (e ++ e') j = some u := hu
              rw [this] at hu2
              have huu : u' = u := Option.some.inj hu2
              rw [← huu]
              exact h j u' (by simp only [get, hb]; exact hu')
            · have key : ∀ (e : Env), (¬ ∃ u', get e j = some u') → get (e ++ e') j = get e' j := by
                intro e
                induction e with
                | nil => intro _; rfl
                | cons q e ihq =>
                  intro hne
                  obtain ⟨x', y'⟩ := q
                  simp only [List.cons_append, get]
                  cases hb' : Nat.beq j x' with
                  | true => exact absurd ⟨y', by simp [get, hb']⟩ hne
                  | false => exact ihq (fun ⟨u', hu'⟩ => hne ⟨u', by simp only [get, hb']; exact hu'⟩)
              have hu2 : get (e ++ e') j = some u := hu
              rw [key e hex] at hu2
              exact h' j u hu2
      have hsat : Sat n D (envD core dp ++ (e0 ++ (List.range n).map fun j => (j, a.tmps.getD j undef))) a :=
        (show Sat n D (e0 ++ (List.range n).map fun j => (j, a.tmps.getD j undef)) a from ⟨h4.size, h4.defers, hin e0 h4.val _ hE⟩).more _ (fun p hp => by
        unfold envD at hp
        obtain ⟨j, hj, hpj⟩ := List.mem_filterMap.1 hp
        obtain ⟨⟨dj, vj, dpj⟩, hcj, rfl⟩ := Option.map_eq_some_iff.1 hpj
        exact h5 j dj vj dpj hcj (edgeOn_listed hi g1 (g4 j hj).1))
      refine WA.op g1 (hstep ((List.range n).map fun j => (j, a.tmps.getD j undef)) w M' h6 h7 (Qa none P ops Q (m - c + f) (listed.setIfInBounds i true)) (fun w'' M'' hH hle a'' ha'' => ?_)) hsat
      -- behind the operation: only its slot has changed
      have hfreed : get e0 d = none := get_none_of_free hfree (List.mem_map.2 ⟨_, List.mem_of_getElem? g2, rfl⟩)
      have hdv : a''.tmps.getD d undef = v := ha''.val d v (by simp [get])
      have hothers : ∀ t, t ≠ d → a''.tmps.getD t undef = a.tmps.getD t undef := fun t ht => by
        rcases Nat.lt_or_ge t n with htn | htn
        · have hsome : ∃ u, get (envD core dp ++ (e0 ++ (List.range n).map fun j => (j, a.tmps.getD j undef))) t = some u := by
            have base : ∃ u, get ((List.range n).map fun j => (j, a.tmps.getD j undef)) t = some u := by
              have : ∀ (l : List Nat), t ∈ l → ∃ u, get (l.map fun j => (j, a.tmps.getD j undef)) t = some u := by
                intro l
                induction l with
                | nil => intro h; cases h
                | cons x l ihl =>
                  intro h
                  simp only [List.map_cons, get]
                  cases hb : Nat.beq t x with
                  | true => exact ⟨_, rfl⟩
                  | false =>
                    rcases List.mem_cons.1 h with rfl | h
                    · simp at hb
                    · exact ihl h
              exact this _ (List.mem_range.2 htn)
            have up : ∀ (e e' : Env), (∃ u, get e' t = some u) → ∃ u, get (e ++ e') t = some u := by
              intro e
              induction e with
              | nil => intro e' h; exact h
              | cons q e ihq =>
                intro e' h
                obtain ⟨x', y'⟩ := q
                simp only [List.cons_append, get]
                cases hb' : Nat.beq t x' with
                | true => exact ⟨_, rfl⟩
                | false => exact ihq e' h
            exact up _ _ (up _ _ base)
          obtain ⟨u, hu⟩ := hsome
          rw [hsat.val t u hu]
          refine ha''.val t u ?_
          rw [get, show Nat.beq t d = false from by cases hb : Nat.beq t d with | false => rfl | true => exact absurd (Nat.eq_of_beq_eq_true hb) ht]
          exact hu
        · rw [Array.getD_eq_getD_getElem?, Array.getD_eq_getD_getElem?, Array.getElem?_eq_none (by rw [ha''.size]; exact htn), Array.getElem?_eq_none (by rw [h4.size]; exact htn)]
      refine ih (listed.setIfInBounds i true) a'' w'' M'' (by simp [h1]) (fun j hj1 hj2 => ?_) (fun y oy hoy hly x hx => ?_) ?_ ⟨ha''.size, ha''.defers, fun t u hu => ?_⟩ (fun j dj vj dpj hj hl => ?_) hH (h7.trans hle)
      · have := h2 j hj1 hj2
        have hji : j ≠ i := by omega
        have hjs : j < listed.size := by omega
        simp [Array.getD, hjs, Array.getElem_setIfInBounds, Ne.symm hji] at this ⊢
        exact this
      · have hxl : listed.getD x false = true := by
          by_cases hyi : y = i
          · subst hyi
            exact edgeOn_listed hi hoy hx
          · have hys : y < listed.size := by
              rcases Nat.lt_or_ge y listed.size with h | h
              · exact h
              · simp [Array.getD, Nat.not_lt.2 h] at hly
            have hne : i ≠ y := fun h => hyi h.symm
            have : listed.getD y false = true := by
              simp [Array.getD, hys, Array.getElem_setIfInBounds, hne] at hly ⊢
              exact hly
            exact hcl y oy hoy this x hx
        have hxs : x < listed.size := by
          rcases Nat.lt_or_ge x listed.size with h | h
          · exact h
          · simp [Array.getD, Nat.not_lt.2 h] at hxl
        simp only [Array.getD, hxs, Array.size_setIfInBounds, dif_pos, Array.getInternal_eq_getElem, Array.getElem_setIfInBounds] at hxl ⊢
        split
        · rfl
        · exact hxl
      · -- one fewer
        have hiS : i < listed.size := by omega
        have hnd2 : ((List.range c).filter (fun j => !listed.getD j true)).Nodup := List.nodup_range.filter _
        have heq : (List.range c).filter (fun j => !(listed.setIfInBounds i true).getD j true) = ((List.range c).filter (fun j => !listed.getD j true)).erase i := by
          rw [hnd2.erase_eq_filter, List.filter_filter]
          apply List.filter_congr
          intro j hj
          have hjs : j < listed.size := by have := List.mem_range.1 hj; omega
          by_cases hji : j = i
          · subst hji
            simp [Array.getD, hjs]
          · have : i ≠ j := fun h => hji h.symm
            simp [Array.getD, hjs, Array.getElem_setIfInBounds, this, hji]
        rw [heq, List.length_erase_of_mem (List.mem_filter.2 ⟨List.mem_range.2 hic, by rw [r2]; rfl⟩), h3]
        rfl
      · have htd : t ≠ d := by rintro rfl; rw [hfreed] at hu; cases hu
        rw [hothers t htd]
        exact h4.val t u hu
      · have hjs : j < listed.size := by have := (List.getElem?_eq_some_iff.1 hj).1; omega
        by_cases hji : j = i
        · subst hji
          rw [g2] at hj
          cases hj
          exact hdv
        · have hdd : dj ≠ d := by
            rintro rfl
            have hj1 : j < core.length := (List.getElem?_eq_some_iff.1 hj).1
            have hi1 : i < core.length := (List.getElem?_eq_some_iff.1 g2).1
            have e1 : (core.map (·.1))[j]'(by simpa using hj1) = dj := by
              rw [List.getElem_map, (List.getElem?_eq_some_iff.1 hj).2]
            have e2 : (core.map (·.1))[i]'(by simpa using hi1) = dj := by
              rw [List.getElem_map, (List.getElem?_eq_some_iff.1 g2).2]
            exact hji ((List.getElem_inj hnd).1 (e1.trans e2.symm))
          rw [hothers dj hdd]
          refine h5 j dj vj dpj hj ?_
          have : i ≠ j := fun h => hji h.symm
          simp [Array.getD, hjs, Array.getElem_setIfInBounds, this] at hl ⊢
          exact hl
  have hfr : ((List.range c).filter (fun j => !(Array.replicate m false).getD j true)).length = c := by
    have : (List.range c).filter (fun j => !(Array.replicate m false).getD j true) = List.range c := by
      rw [List.filter_eq_self]
      intro j hj
      have : j < m := by have := List.mem_range.1 hj; omega
      simp [Array.getD, this]
    rw [this, List.length_range]
  intro a ha
  have := main c (Array.replicate m false) a w M (by simp) (fun j h1 h2 => by simp [Array.getD, h2]) (fun i o ho hl => by
    rcases Nat.lt_or_ge i m with h | h
    · simp [Array.getD, h] at hl
    · simp [Array.getD, Nat.not_lt.2 h] at hl) hfr ha (fun j d v dp hj hl => by
    have hjc : j < m := by have := (List.getElem?_eq_some_iff.1 hj).1; omega
    simp [Array.getD, hjc] at hl) H (Mem.le.refl M)
  rwa [show m - c + c = m by omega] at this
end
end Go.Ph
end
section
set_option linter.unusedVariables false
set_option linter.unusedSimpArgs false
namespace Go.Ph
open Go Go.RowKit Pl
def PtM (M : Mem) (b : Nat) (o : Obj) : Prop := M b = some o
theorem PtM.mono {M M' : Mem} {b : Nat} {o : Obj} (h : PtM M b o) (hl : M.le M') : PtM M' b o := hl _ _ h
theorem PtM.cell {M : Mem} {b j : Nat} {cs : List Value} {t : TypeId} {u : Value} (h : PtM M b (.cells cs.toArray t)) (hj : cs[j]? = some u) : CellM M ⟨b, j, none⟩ u := ⟨rfl, _, _, _, h, by rw [List.getElem?_toArray]; exact hj⟩
theorem PtM.all {M : Mem} {b : Nat} {cs : List Value} {t : TypeId} (h : PtM M b (.cells cs.toArray t)) : CellsM M ⟨b, 0, none⟩ cs := ⟨rfl, _, _, _, h, fun j u hj => by rw [Nat.zero_add, List.getElem?_toArray]; exact hj⟩
section
variable {C : Nat → Prop} {r : Option Nat} {P : Program} {ops : Array Oper} {Q : Exit → Act → World → Prop} {n : Nat} {D : List Deferred} {rest : List Oper} {e : Env} {w0 w : World} {M0 M : Mem} {L L' : List Item} {d : Nat} {v u z : Value}
  {x y : Operand} {ty t t' te ts tt t0 : TypeId} {pos : String} {af : Array Edge} {g : Option (Nat × Bool)} {dst : Option Tmp} {α : Type} {enc : α → Value} {l l2 l3 l4 : List α} {b len : Nat}
theorem Ex.idxArrC {i : Int} {a : α} {k : IntKind} (hs : P.underlying t = some (.array len t0)) (hz : ∀ w, (sizeOf t0).run P w = .ok 1 w) (hx : ev e x = some (ptr b 0)) (hy : ev e y = some (.int k i)) (hi : idxA len l i = some a) :
    Ex P ⟨dst, .indexAddr t x y, ty, pos, af, g⟩ e w (ptr b i.toNat) w := by
  obtain ⟨h1, h2⟩ := idxA_some hi
  have h3 := idx_lt h2
  have := Ex.idxArr (P := P) (w := w) (dst := dst) (ty := ty) (pos := pos) (af := af) (g := g) (i := i.toNat) hs hz hx (by rw [hy, Int.toNat_of_nonneg h3.1]) (by omega)
  rwa [Nat.zero_add, Nat.mul_one] at this
theorem map_idx {i : Int} {a : α} (hi : idxA len l i = some a) : (l.map enc)[i.toNat]? = some (enc a) := by
  rw [List.getElem?_map, (idx_some (idxA_some hi).2).2]; rfl
theorem Ex.loadArrM {i : Int} {a : α} (H : StX C w0 M0 M L w) (hx : ev e x = some (ptr b i.toNat)) (hp : PtM M b (.cells (l.map enc).toArray t')) (hi : idxA len l i = some a) (ha : ∀ w, (isAgg tt).run P w = .ok false w) :
    Ex P ⟨dst, .load tt x, ty, pos, af, g⟩ e w (enc a) w := Ex.loadM H hx (hp.cell (map_idx hi)) ha
theorem WR.storeArr {i : Int} {a : α} {L' : Item → List Item} (H : StX C w0 M0 M L w) (hx : ev e x = some (ptr b i.toNat)) (hy : ev e y = some (enc a)) (ho : One (enc a)) (hu : ∀ it', Upd L (.blk b (.cells (l.map enc).toArray t')) it' (L' it')) (hi : putA len l i a = some l2)
    (hs : ∀ w, (sizeOf tt).run P w = .ok 1 w) (hw : Wn ops n D e ⟨none, .store tt x y, ty, pos, af, g⟩) (k : ∀ w', StX C w0 M0 M (L' (.blk b (.cells (l2.map enc).toArray t'))) w' → WR r P ops Q n D rest e w') :
    WR r P ops Q n D (⟨none, .store tt x y, ty, pos, af, g⟩ :: rest) e w := by
  obtain ⟨h1, h2⟩ := putA_some hi
  obtain ⟨h3, rfl⟩ := put_some h2
  exact WR.store1 _ H hx hy (hu _) (by rw [List.map_set]) hs (by rw [List.length_map]; omega) ho.2 ho.1 hw k
theorem Ex.loadAggA (H : StX C w0 M0 M L w) (hx : ev e x = some (ptr b 0)) (hm : Item.blk b (.cells (l.map enc).toArray t') ∈ L) (ha : ∀ w, (isAgg tt).run P w = .ok true w) (hs : ∀ w, (sizeOf tt).run P w = .ok len w) (hl : chkA len l = some l2) :
    Ex P ⟨dst, .load tt x, ty, pos, af, g⟩ e w (.agg (l2.map enc).toArray) w := by
  obtain ⟨h1, rfl⟩ := chkA_some hl
  exact Ex.loadAgg H hx hm ha hs (by rw [List.length_map]; exact h1)
theorem StX.loadAggA (H : StX C w0 M0 M L w) (hm : Item.blk b (.cells (l.map enc).toArray t') ∈ L) (ha : ∀ w, (isAgg tt).run P w = .ok true w) (hs : ∀ w, (sizeOf tt).run P w = .ok len w) (hl : chkA len l = some l2) : (loadVar tt ⟨b, 0, none⟩).run P w = .ok (.agg (l2.map enc).toArray) w := by
  obtain ⟨h1, rfl⟩ := chkA_some hl
  exact H.loadAgg hm ha hs (by rw [List.length_map]; exact h1)
theorem WR.storeA {L' : Item → List Item} (H : StX C w0 M0 M L w) (hx : ev e x = some (ptr b 0)) (hy : ev e y = some (.agg (l2.map enc).toArray)) (ho : ∀ a, (enc a).oneCell' = true) (hu : ∀ it', Upd L (.blk b (.cells (l.map enc).toArray t')) it' (L' it')) (h1 : chkA len l = some l3) (h2 : chkA len l2 = some l4)
    (hs : ∀ w, (sizeOf tt).run P w = .ok len w) (hw : Wn ops n D e ⟨none, .store tt x y, ty, pos, af, g⟩) (k : ∀ w', StX C w0 M0 M (L' (.blk b (.cells (l2.map enc).toArray t'))) w' → WR r P ops Q n D rest e w') :
    WR r P ops Q n D (⟨none, .store tt x y, ty, pos, af, g⟩ :: rest) e w := by
  have e1 := (chkA_some h1).1
  have e2 := (chkA_some h2).1
  exact WR.store _ H hx hy rfl (hu _) hs (by rw [List.length_map]; exact e2) (by rw [List.length_map]; exact e1) (by rw [List.all_map]; exact List.all_eq_true.2 (fun a _ => ho a)) hw k
theorem Ex.nilCheckP {p : Addr} (h : ev e x = some (.pointer (some p))) : Ex P ⟨dst, .nilCheck x, ty, pos, af, g⟩ e w (.pointer (some p)) w := ⟨nofun, fun ρ hf => by simp [execOp, hf _ _ h]⟩
theorem Ex.runeStr {d0 : TypeDesc} {k : IntKind} {a : Int} (hs : P.underlying t = some d0) (hd : P.underlying t' = some .string) (hx : ev e x = some (.int k a)) : Ex P ⟨dst, .convert t t' x, ty, pos, af, g⟩ e w (S (Chs.utf8 a)) w :=
  ⟨nofun, fun ρ hf => by
    have hr := run_convert_int_string (P := P) w t t' k a (by rw [hs]; rfl) hd
    rw [Chs.encode_utf8] at hr
    simp only [execOp, hf _ _ hx, Sem.run_bind, hr, Result.andThen_ok, Sem.run_pure]⟩
theorem StX.freezeVar {cs : Array Value} (H : St w0 M0 M L w) (hr : Rem L (.blk b (.cells cs t)) L') : ∃ M', M.le M' ∧ PtM M' b (.cells cs t) ∧ St w0 M0 M' L' w := H.freezeBlk hr
end
def NilB (M : Mem) (v : Value) (b : Bool) : Prop := (b = true ∧ v = .nilIface) ∨ (b = false ∧ ∃ t u, v = .iface t u)
theorem NilB.mono {M M' : Mem} {v : Value} {b : Bool} (h : NilB M v b) (hl : M.le M') : NilB M' v b := h
section
variable {C : Nat → Prop} {r : Option Nat} {P : Program} {ops : Array Oper} {Q : Exit → Act → World → Prop} {n : Nat} {D : List Deferred} {rest : List Oper} {e : Env} {w0 w : World} {M0 M : Mem} {L L' : List Item} {d : Nat} {v u z : Value}
  {x : Operand} {ty t t' te ts tt t0 : TypeId} {pos : String} {af : Array Edge} {g : Option (Nat × Bool)} {dst : Option Tmp} {b : Bool}
theorem PtM.sl {α : Type} {M : Mem} {b n : Nat} {enc : α → Value} {l l2 : List α} {t : TypeId} (h : PtM M b (.cells (l.map enc).toArray t)) (hl : chkA n l = some l2) (hm : Nat.ble n 9223372036854775807 = true) : Sl M enc (.slice (some ⟨b, 0, none⟩) n n) l2 := by
  obtain ⟨h1, rfl⟩ := chkA_some hl
  have hm := Nat.le_of_ble_eq_true hm
  refine ⟨some ⟨b, 0, none⟩, n, by rw [h1], by omega, ⟨by simp only [maxLen]; omega, fun h => by cases h⟩, fun _ => ⟨b, 0, _, t, (0, 0), rfl, h, fun i x hi => ?_⟩⟩
  rw [Nat.zero_add, List.getElem?_toArray, List.getElem?_map, hi]; rfl
end
def skips (ops : Array Oper) (n : Nat) : Env → List Oper → Option Env
  | e, [] => some e
  | e, o :: r => match o.guard, o.dst with
    | some (j, b), some d => match (ops[j]?).bind (·.dst) with
      | some t => match get e t with
        | some (.bool b') => bif (b' != b) && Nat.blt d n then skips ops n ((d, undef) :: e) r else none
        | some (.tuple _) => bif Nat.blt d n then skips ops n ((d, undef) :: e) r else none
        | _ => none
      | none => none
    | _, _ => none
section
variable {r : Option Nat} {P : Program} {ops : Array Oper} {Q : Exit → Act → World → Prop} {n : Nat} {D : List Deferred} {e e' : Env} {w : World}
theorem WR.skips : ∀ {sk : List Oper} {rest : List Oper} {e : Env}, Ph.skips ops n e sk = some e' → WR r P ops Q n D rest e' w → WR r P ops Q n D (sk ++ rest) e w
  | [], rest, e, h, k => by
    cases h; exact k
  | o :: sk, rest, e, h, k => by
    rw [Ph.skips] at h
    split at h
    case h_2 => cases h
    rename_i j b d hg hd
    split at h
    case h_2 => cases h
    rename_i t ht
    split at h
    · rename_i b' hb
      cases hc : ((b' != b) && Nat.blt d n) with
      | false => rw [hc] at h; cases h
      | true =>
        rw [hc] at h
        rw [Bool.and_eq_true] at hc
        have hne : b' ≠ b := by simpa using hc.1
        exact WR.skipK (fun a ha => by
          have := yielded_of ht ha hb
          simp [Region.wanted, hg, this, hne]) hd (Nat.le_of_ble_eq_true hc.2) (WR.skips h k)
    · rename_i xs hb
      cases hc : Nat.blt d n with
      | false => rw [hc] at h; cases h
      | true =>
        rw [hc] at h
        exact WR.skipK (fun a ha => by
          have hv := ha.val t _ hb
          have : yielded ops a.tmps j = none := by
            unfold yielded
            rw [ht]
            simp only [Option.bind_some]
            cases htt : a.tmps[t]? with
            | none => rfl
            | some x => simp [htt] at hv; subst hv; rfl
          simp [Region.wanted, hg, this]) hd (Nat.le_of_ble_eq_true hc) (WR.skips h k)
    · cases h
theorem WR.skipN (m : Nat) {l rest : List Oper} (hr : l.drop m = rest) (h : Ph.skips ops n e (l.take m) = some e') (k : WR r P ops Q n D rest e' w) : WR r P ops Q n D l e w := by
  subst hr
  have := WR.skips h k
  rwa [List.take_append_drop] at this
end
end Go.Ph
end
section
set_option linter.unusedVariables false
set_option linter.unusedSimpArgs false
namespace Go.Ph
open Go Go.RowKit Pl
namespace Pl
end Pl
section
variable {C : Nat → Prop} {r : Option Nat} {P : Program} {ops : Array Oper} {Q : Exit → Act → World → Prop} {n : Nat} {D : List Deferred} {rest : List Oper} {e : Env} {w0 w : World} {M0 M : Mem} {L L' : List Item} {d : Nat} {v u z : Value}
  {x y : Operand} {ty t t' te ts tt t0 : TypeId} {pos : String} {af : Array Edge} {g : Option (Nat × Bool)} {dst : Option Tmp} {b : Bool}
end
section
variable {P : Program} {e : Env} {w : World} {x : Operand} {ty t : TypeId} {pos : String} {af : Array Edge} {g : Option (Nat × Bool)} {dst : Option Tmp} {a z : Int}
end
section
variable {P : Program} {α : Type} {enc : α → Value} [DecidableEq α] {t t0 : TypeId} {d n : Nat}
end
def GlF (φ : World → Prop) (M : Mem) : Prop := ∀ w, Ag M w → φ w
theorem GlF.mono {φ : World → Prop} {M M' : Mem} (h : GlF φ M) (hl : M.le M') : GlF φ M' := fun w ha => h w (fun b o hb => ha b o (hl b o hb))
end Go.Ph
end
section
set_option linter.unusedVariables false
set_option linter.unusedSimpArgs false
namespace Go.Ph
open Go Go.RowKit Pl
namespace Pl
end Pl
theorem Ext.ofBelow {M : Mem} {w w' : World} (ha : Ag M w) (hw : Below w.heap.size w w') : Ext w M w' M :=
  ⟨BelowX.of hw _, Mem.le.refl M, fun b' o' hb' => by rw [hw.block b' (ha.lt hb')]; exact ha b' o' hb', fun b' hb' => rfl⟩
theorem Ext.ofAlloc {M : Mem} {w : World} (ha : Ag M w) (o : Obj) : Ext w M (w.alloc o) (M.set w.heap.size o) := by
  have hn : M w.heap.size = none := ha.none (Nat.le_refl _)
  have hB : Below w.heap.size w (w.alloc o) := (Below.refl _ w).grown (grownBy_alloc' w o) (Nat.le_refl _) (fun k hk => by cases hk)
  refine ⟨BelowX.of hB _, fun b o' hb => ?_, fun b o' hb => ?_, fun b hb => ?_⟩
  · unfold Mem.set
    split
    · rename_i h; subst h; rw [hn] at hb; cases hb
    · exact hb
  · unfold Mem.set at hb
    split at hb
    · rename_i h; subst h; cases hb; exact heap_alloc_new w _
    · rename_i h
      have h1 := ha b o' hb
      have h2 := ha.lt hb
      rw [hB.block b h2]; exact h1
  · unfold Mem.set; rw [if_neg (by omega)]
theorem Sl.split {M : Mem} {b : Nat} {t : TypeId} {xs : List ByteArray} {l : List (List UInt8)} {n : Nat} (hx : xs.map (·.data.toList) = l) (hn : l.length = n) (hm : n ≤ 9223372036854775807) (h : M b = some (.cells (xs.map Value.string).toArray t (0, 0))) : Sl M encS (.slice (some ⟨b, 0, none⟩) n n) l := by
  have hl : xs.map Value.string = l.map encS := by
    subst hx
    rw [List.map_map]
    apply List.map_congr_left
    intro x _
    cases x
    simp [encS]
  rw [hl] at h
  subst hn
  refine ⟨some ⟨b, 0, none⟩, l.length, rfl, Nat.le_refl _, ⟨by simp only [maxLen]; omega, fun h => by cases h⟩, fun _ => ⟨b, 0, _, t, (0, 0), rfl, h, fun i x hi => ?_⟩⟩
  rw [Nat.zero_add, List.getElem?_toArray, List.getElem?_map, hi]; rfl
end Go.Ph
end
section
set_option linter.unusedVariables false
set_option linter.unusedSimpArgs false
namespace Go.Ph
open Go Go.RowKit Go.ChangeShapes Go.WideShapes Go.ChangeAt
abbrev memOf (W : World) : Mem := fun b => W.heap[b]?
theorem ag_memOf (W : World) : Ag (memOf W) W := fun _ _ h => h
section
variable {H : Type} {enc : TypeId × Value → H} {P : Program} {W W' : World}
theorem trodAll_stays (hl : laidOutB P = true) (hB : Below W.heap.size W W') {sp : Nat → Bool} : ∀ {ts : List TypeId} {vs : List Value} {ds : List (DataW H)} {ps : List MemPlace}, (∀ t ∈ ts, P.readableRec t = true ∧ t < P.types.size) →
    (∀ x ∈ ps, x.block < W.heap.size) → (∀ x ∈ ps, sp x.block = true) → DataW.TrodAll enc P W 0 (fun _ => true) true ts vs ds ps → DataW.TrodAll enc P W' 0 sp true ts vs ds ps
  | [], _, _, _, _, _, _, h => by
    obtain ⟨rfl, rfl, rfl⟩ := trodAll_nil h
    exact trodAll_mk0
  | t :: ts, _, _, _, ht, hlt, hs, h => by
    obtain ⟨v, vs', d, ds', p, q, rfl, rfl, rfl, h1, h2⟩ := trodAll_cons h
    have ht1 := ht t List.mem_cons_self
    exact ⟨p, q, WideElems.Trod_stays hl ht1.1 ht1.2 h1 (fun x hx => hB.same (hlt x (List.mem_append_left _ hx))) (fun x hx => hs x (List.mem_append_left _ hx)),
      trodAll_stays hl hB (fun t' ht' => ht t' (List.mem_cons_of_mem _ ht')) (fun x hx => hlt x (List.mem_append_right _ hx)) (fun x hx => hs x (List.mem_append_right _ hx)) h2, rfl⟩
theorem law_done {f : Func} {s : ChangeSpec} {tb : TypeId} {apart fresh handsOn : Bool} {args : Array Value} {ds : List (DataW H)} {before : List MemPlace} (hl : laidOutB P = true) (hr0 : (f.params.toList.all fun t => P.readableRec t && decide (t < P.types.size)) = true) (hrt : f.resultTypes = #[tb]) (hb : P.underlying tb = some .bool)
    (hW : DataW.Whole enc P f.params.toList s.vars apart W args.toList ds [] before) (hA : DataW.TrodAll enc P W 0 (fun _ => true) true f.params.toList args.toList ds before) (hv : s.vars = []) (h1 : (s.fn H (ds ++ [])).results = [.lit (.bool true)]) (h2 : (s.fn H (ds ++ [])).args = ds) (h3 : (s.fn H (ds ++ [])).vars = [])
    (hB : Below W.heap.size W W') : s.post enc P f apart fresh handsOn false W args (.bool true) W' := by
  have hlt : ∀ p ∈ before, p.block < W.heap.size := fun p hp => hW.lt p hp
  have hr : ∀ t ∈ f.params.toList, P.readableRec t = true ∧ t < P.types.size := fun t ht => by simpa using List.all_eq_true.1 hr0 t ht
  refine ⟨ds, [], before, [], before, [], hW, ?_, ?_, ?_, hB.frame _, fun h => by cases h⟩
  · rw [hrt, h1]; exact trodAll_mk1 (shut_bool hb _)
  · rw [h2]; exact trodAll_stays hl hB hr hlt (fun x hx => by simpa using hlt x hx) hA
  · rw [hv, h3]; rfl
theorem weights_at {ts : List TypeId} {ds : List (DataW H)} (h : ∀ x ∈ DataW.weightsEach P ts ds, x ≤ reachBytes) : ∀ (j : Nat) (t : TypeId) (d : DataW H), ts[j]? = some t → ds[j]? = some d → ∀ x ∈ d.weights P t, x ≤ reachBytes := by
  intro j
  induction j generalizing ts ds with
  | zero =>
    intro t d ht hd x hx
    cases ts with
    | nil => cases ht
    | cons a ts => cases ds with
      | nil => cases hd
      | cons b ds =>
        cases ht
        cases hd
        exact h x (by rw [DataW.weightsEach]; exact List.mem_append_left _ hx)
  | succ j ih =>
    intro t d ht hd x hx
    cases ts with
    | nil => cases ht
    | cons a ts => cases ds with
      | nil => cases hd
      | cons b ds => exact ih (fun y hy => h y (by rw [DataW.weightsEach]; exact List.mem_append_right _ hy)) t d ht hd x hx
theorem weights_of {ts vs : List TypeId} {ds gs : List (DataW H)} (h : (DataW.weightsEach P (ts ++ vs) (ds ++ gs)).all (· ≤ reachBytes) = true) (j : Nat) (t : TypeId) (d : DataW H) (ht : ts[j]? = some t) (hd : ds[j]? = some d) : ∀ x ∈ d.weights P t, x ≤ reachBytes :=
  weights_at (fun x hx => of_decide_eq_true (List.all_eq_true.1 h x hx)) j t d (by rw [List.getElem?_append_left (List.getElem?_eq_some_iff.1 ht).1]; exact ht) (by rw [List.getElem?_append_left (List.getElem?_eq_some_iff.1 hd).1]; exact hd)
theorem str_weight {t : TypeId} {b : List UInt8} (h : ∀ x ∈ (DataW.lit (H := H) (.string b)).weights P t, x ≤ reachBytes) : b.length ≤ 140737488351232 := h b.length (by simp [DataW.weights])
end
end Go.Ph
end
section
set_option linter.unusedVariables false
set_option linter.unusedSimpArgs false
namespace Go.Ph
open Go Go.RowKit
theorem cell_upM {W w : World} (ha : Ag (memOf W) w) {p : Addr} {v : Value} (h : W.cell? p = some v) : w.cell? p = some v := by
  unfold World.cell? at h ⊢
  cases hb : W.heap[p.block]? with
  | none => rw [hb] at h; cases h
  | some o => rw [ha p.block o hb]; rw [hb] at h; exact h
end Go.Ph
end
section
namespace Go.Proofs
open Go.Shelf
def Tryz.lays156_ren : Go.Shelf.Ren := ⟨fun | 156 => 44 | 165 => 87 | 166 => 53 | 169 => 54 | 240 => 98 | 241 => 132 | 276 => 140 | 277 => 165 | n => n, fun | 31 => 43 | 9 => 9 | 3 => 3 | 4 => 4 | 0 => 0 | 20 => 20 | 72 => 70 | 76 => 77 | 70 => 68 | 37 => 30 | 75 => 74 | 127 => 118 | 164 => 171 | 5 => 5 | 80 => 79 | n => n, fun | n => n⟩
theorem Tryz.lays156 : Go.Proofs.Lays.n156 Tryz.prog Tryz.lays156_ren := {
  mixed := by kernel_rfl
  f156 := Tryz.func44.trans (congrArg some (by kernel_rfl))
  f165 := Tryz.func87.trans (congrArg some (by kernel_rfl))
  f166 := Tryz.func53.trans (congrArg some (by kernel_rfl))
  f169 := Tryz.func54.trans (congrArg some (by kernel_rfl))
  f240 := Tryz.func98.trans (congrArg some (by kernel_rfl))
  f241 := Tryz.func132.trans (congrArg some (by kernel_rfl))
  f276 := Tryz.func140.trans (congrArg some (by kernel_rfl))
  f277 := Tryz.func165.trans (congrArg some (by kernel_rfl))
  t0 := Tryz.underlying0
  a0 := Tryz.isAgg0
  z0 := Tryz.sizeOf0
  v0 := Tryz.zeroValue0
  t3 := Tryz.underlying3
  a3 := Tryz.isAgg3
  z3 := Tryz.sizeOf3
  v3 := Tryz.zeroValue3
  t4 := Tryz.underlying4
  a4 := Tryz.isAgg4
  z4 := Tryz.sizeOf4
  v4 := Tryz.zeroValue4
  t9 := Tryz.underlying9
  a9 := Tryz.isAgg9
  z9 := Tryz.sizeOf9
  v9 := Tryz.zeroValue9
  t20 := Tryz.underlying20
  a20 := Tryz.isAgg20
  z20 := Tryz.sizeOf20
  v20 := Tryz.zeroValue20
  t31 := Tryz.underlying43
  a31 := Tryz.isAgg43
  z31 := Tryz.sizeOf43
  v31 := Tryz.zeroValue43
  t37 := Tryz.underlying30
  a37 := Tryz.isAgg30
  z37 := Tryz.sizeOf30
  v37 := Tryz.zeroValue30
  t70 := Tryz.underlying68
  a70 := Tryz.isAgg68
  z70 := Tryz.sizeOf68
  v70 := Tryz.zeroValue68
  t72 := Tryz.underlying70
  a72 := Tryz.isAgg70
  z72 := Tryz.sizeOf70
  v72 := Tryz.zeroValue70
  t75 := Tryz.underlying74
  a75 := Tryz.isAgg74
  z75 := Tryz.sizeOf74
  v75 := Tryz.zeroValue74
  t76 := Tryz.underlying77
  a76 := Tryz.isAgg77
  z76 := Tryz.sizeOf77
  v76 := Tryz.zeroValue77
  t127 := Tryz.underlying118
  a127 := Tryz.isAgg118
  z127 := Tryz.sizeOf118
  v127 := Tryz.zeroValue118
  t164 := Tryz.underlying171
  a164 := Tryz.isAgg171
  z164 := Tryz.sizeOf171
  v164 := Tryz.zeroValue171 }
theorem Tryz.Builder_Extra_156 : Builder.Extra Tryz.prog Tryz.lays156_ren := {
  sizeBuilder := by kernel_rfl
  liesBuilder := by kernel_rfl
  t5 := Tryz.underlying5
  a5 := Tryz.isAgg5
  z5 := Tryz.sizeOf5
  v5 := Tryz.zeroValue5
  infoByte := by kernel_rfl
  cellsByte := by kernel_rfl
  sizeByte := by kernel_rfl
  neB5 := by decide }
open Go.RowKit in
theorem Tryz.strings_Join_none (a : Option Addr) (c : Nat) (sep : ByteArray) (w : World) :
    Calls Tryz.prog 44 #[.slice a 0 c, .string sep] w fun e w' => e = .returned (.string ⟨#[]⟩) ∧ w' = w := Any.strings_Join_none Tryz.lays156 Tryz.Builder_Extra_156 a c sep w
open Go.RowKit in
theorem Tryz.strings_Join (bk o c : Nat) (xs : List ByteArray) (sep : ByteArray) (w : World) (hcells : ∀ (j : Nat) x, xs[j]? = some x → w.cell? ⟨bk, o + j, none⟩ = some (.string x)) (hbk : bk < w.heap.size) (hN : xs.length ≤ 140737488355328) (hcap : xs.length ≤ c) (hlen : (Lib.join (xs.map (·.data.toList)) sep.data.toList).length ≤ 140737488355328) :
    Calls Tryz.prog 44 #[.slice (some ⟨bk, o, none⟩) xs.length c, .string sep] w fun e w' => e = .returned (.string ⟨(Lib.join (xs.map (·.data.toList)) sep.data.toList).toArray⟩) ∧ Below w.heap.size w w' := Any.strings_Join Tryz.lays156 Tryz.Builder_Extra_156 bk o c xs sep w hcells hbk hN hcap hlen
def Tryz.lays231_ren : Go.Shelf.Ren := ⟨fun | 231 => 106 | n => n, fun | 9 => 9 | 5 => 5 | 3 => 3 | 4 => 4 | n => n, fun | n => n⟩
theorem Tryz.lays231 : Go.Proofs.Lays.n231 Tryz.prog Tryz.lays231_ren := {
  mixed := by kernel_rfl
  f231 := Tryz.func106.trans (congrArg some (by kernel_rfl))
  t3 := Tryz.underlying3
  a3 := Tryz.isAgg3
  z3 := Tryz.sizeOf3
  v3 := Tryz.zeroValue3
  t4 := Tryz.underlying4
  a4 := Tryz.isAgg4
  z4 := Tryz.sizeOf4
  v4 := Tryz.zeroValue4
  t5 := Tryz.underlying5
  a5 := Tryz.isAgg5
  z5 := Tryz.sizeOf5
  v5 := Tryz.zeroValue5
  t9 := Tryz.underlying9
  a9 := Tryz.isAgg9
  z9 := Tryz.sizeOf9
  v9 := Tryz.zeroValue9 }
open Go.RowKit in
theorem Tryz.strings_trimLeftByte (s : ByteArray) (c : UInt8) (w : World) :
    Calls Tryz.prog 106 #[.string s, .int .u8 c.toNat] w fun e w' => e = .returned (.string ⟨(Lib.trimLeftB s.data.toList c).toArray⟩) ∧ w' = w := Any.strings_trimLeftByte Tryz.lays231 s c w
def Tryz.lays232_ren : Go.Shelf.Ren := ⟨fun | 232 => 107 | n => n, fun | 9 => 9 | 5 => 5 | 3 => 3 | 4 => 4 | n => n, fun | n => n⟩
theorem Tryz.lays232 : Go.Proofs.Lays.n232 Tryz.prog Tryz.lays232_ren := {
  mixed := by kernel_rfl
  f232 := Tryz.func107.trans (congrArg some (by kernel_rfl))
  t3 := Tryz.underlying3
  a3 := Tryz.isAgg3
  z3 := Tryz.sizeOf3
  v3 := Tryz.zeroValue3
  t4 := Tryz.underlying4
  a4 := Tryz.isAgg4
  z4 := Tryz.sizeOf4
  v4 := Tryz.zeroValue4
  t5 := Tryz.underlying5
  a5 := Tryz.isAgg5
  z5 := Tryz.sizeOf5
  v5 := Tryz.zeroValue5
  t9 := Tryz.underlying9
  a9 := Tryz.isAgg9
  z9 := Tryz.sizeOf9
  v9 := Tryz.zeroValue9 }
open Go.RowKit in
theorem Tryz.strings_trimRightByte (s : ByteArray) (c : UInt8) (w : World) (hs : s.size ≤ 9223372036854775807) :
    Calls Tryz.prog 107 #[.string s, .int .u8 c.toNat] w fun e w' => e = .returned (.string ⟨(Lib.trimRightB s.data.toList c).toArray⟩) ∧ w' = w := Any.strings_trimRightByte Tryz.lays232 s c w hs
def Tryz.lays119_ren : Go.Shelf.Ren := ⟨fun | 119 => 194 | n => n, fun | 21 => 21 | 4 => 4 | n => n, fun | n => n⟩
theorem Tryz.lays119 : Go.Proofs.Lays.n119 Tryz.prog Tryz.lays119_ren := {
  mixed := by kernel_rfl
  f119 := Tryz.func194.trans (congrArg some (by kernel_rfl))
  t4 := Tryz.underlying4
  a4 := Tryz.isAgg4
  z4 := Tryz.sizeOf4
  v4 := Tryz.zeroValue4
  t21 := Tryz.underlying21
  a21 := Tryz.isAgg21
  z21 := Tryz.sizeOf21
  v21 := Tryz.zeroValue21 }
theorem Tryz.utf8_ValidRune (r : Int) (w : World) :
    Calls Tryz.prog 194 #[.int .i32 r] w fun e w' => e = .returned (.bool (Lib.validRune r)) ∧ w' = w := Any.utf8_ValidRune Tryz.lays119 r w
def Tryz.lays137_ren : Go.Shelf.Ren := ⟨fun | 137 => 193 | 217 => 180 | 266 => 201 | n => n, fun | 9 => 9 | 5 => 5 | 3 => 3 | n => n, fun | n => n⟩
theorem Tryz.lays137 : Go.Proofs.Lays.n137 Tryz.prog Tryz.lays137_ren := {
  mixed := by kernel_rfl
  f137 := Tryz.func193.trans (congrArg some (by kernel_rfl))
  f217 := Tryz.func180.trans (congrArg some (by kernel_rfl))
  f266 := Tryz.func201.trans (congrArg some (by kernel_rfl))
  t3 := Tryz.underlying3
  a3 := Tryz.isAgg3
  z3 := Tryz.sizeOf3
  v3 := Tryz.zeroValue3
  t5 := Tryz.underlying5
  a5 := Tryz.isAgg5
  z5 := Tryz.sizeOf5
  v5 := Tryz.zeroValue5
  t9 := Tryz.underlying9
  a9 := Tryz.isAgg9
  z9 := Tryz.sizeOf9
  v9 := Tryz.zeroValue9 }
open Go.RowKit in
theorem Tryz.strings_IndexByte (s : ByteArray) (c : Int) (w : World) :
    Calls Tryz.prog 193 #[.string s, .int .u8 c] w fun e w' => e = .returned (.int .i64 (Lib.indexByte s.data.toList c.toNat.toUInt8)) ∧ w' = w := Any.strings_IndexByte Tryz.lays137 s c w
def Tryz.lays242_ren : Go.Shelf.Ren := ⟨fun | 242 => 160 | 278 => 188 | n => n, fun | 37 => 30 | 21 => 21 | 51 => 127 | 4 => 4 | 5 => 5 | 46 => 102 | n => n, fun | n => n⟩
theorem Tryz.lays242 : Go.Proofs.Lays.n242 Tryz.prog Tryz.lays242_ren := {
  mixed := by kernel_rfl
  f242 := Tryz.func160.trans (congrArg some (by kernel_rfl))
  f278 := Tryz.func188.trans (congrArg some (by kernel_rfl))
  t4 := Tryz.underlying4
  a4 := Tryz.isAgg4
  z4 := Tryz.sizeOf4
  v4 := Tryz.zeroValue4
  t5 := Tryz.underlying5
  a5 := Tryz.isAgg5
  z5 := Tryz.sizeOf5
  v5 := Tryz.zeroValue5
  t21 := Tryz.underlying21
  a21 := Tryz.isAgg21
  z21 := Tryz.sizeOf21
  v21 := Tryz.zeroValue21
  t37 := Tryz.underlying30
  a37 := Tryz.isAgg30
  z37 := Tryz.sizeOf30
  v37 := Tryz.zeroValue30
  t46 := Tryz.underlying102
  a46 := Tryz.isAgg102
  z46 := Tryz.sizeOf102
  v46 := Tryz.zeroValue102
  t51 := Tryz.underlying127
  a51 := Tryz.isAgg127
  z51 := Tryz.sizeOf127
  v51 := Tryz.zeroValue127 }
open Go.RowKit in
theorem Tryz.utf8_AppendRune_plain (B : Nat) (v : Value) (n : Nat) (xs : List Value) (r : Int) (hr0 : -2147483648 ≤ r) (hr1 : r ≤ 2147483647) (w : World) (hown : w.ownsRow B 5 1 v n xs) (hlen : n + 4 ≤ 140737488355328) (hBw : B ≤ w.heap.size) :
    Calls Tryz.prog 160 #[v, .int .i32 r] w fun e w' => ∃ v', e = .returned v' ∧ w'.ownsRow B 5 1 v' (n + (Lib.runeCells r).length) (xs ++ Lib.runeCells r) ∧ ∃ o, (w.alloc o).grownBy w' v.ownBlock := Any.utf8_AppendRune_plain Tryz.lays242 (by kernel_rfl) B v n xs r hr0 hr1 w hown hlen hBw
def Tryz.lays219_ren : Go.Shelf.Ren := ⟨fun | 219 => 153 | 217 => 180 | 225 => 181 | 224 => 182 | 267 => 183 | 266 => 201 | 314 => 202 | n => n, fun | 9 => 9 | 3 => 3 | 4 => 4 | 5 => 5 | 46 => 102 | 146 => 229 | 51 => 127 | n => n, fun | 1 => 2 | n => n⟩
theorem Tryz.lays219 : Go.Proofs.Lays.n219 Tryz.prog Tryz.lays219_ren := {
  mixed := by kernel_rfl
  f217 := Tryz.func180.trans (congrArg some (by kernel_rfl))
  f219 := Tryz.func153.trans (congrArg some (by kernel_rfl))
  f224 := Tryz.func182.trans (congrArg some (by kernel_rfl))
  f225 := Tryz.func181.trans (congrArg some (by kernel_rfl))
  f266 := Tryz.func201.trans (congrArg some (by kernel_rfl))
  f267 := Tryz.func183.trans (congrArg some (by kernel_rfl))
  f314 := Tryz.func202.trans (congrArg some (by kernel_rfl))
  t3 := Tryz.underlying3
  a3 := Tryz.isAgg3
  z3 := Tryz.sizeOf3
  v3 := Tryz.zeroValue3
  t4 := Tryz.underlying4
  a4 := Tryz.isAgg4
  z4 := Tryz.sizeOf4
  v4 := Tryz.zeroValue4
  t5 := Tryz.underlying5
  a5 := Tryz.isAgg5
  z5 := Tryz.sizeOf5
  v5 := Tryz.zeroValue5
  t9 := Tryz.underlying9
  a9 := Tryz.isAgg9
  z9 := Tryz.sizeOf9
  v9 := Tryz.zeroValue9
  t46 := Tryz.underlying102
  a46 := Tryz.isAgg102
  z46 := Tryz.sizeOf102
  v46 := Tryz.zeroValue102
  t51 := Tryz.underlying127
  a51 := Tryz.isAgg127
  z51 := Tryz.sizeOf127
  v51 := Tryz.zeroValue127
  t146 := Tryz.underlying229
  a146 := Tryz.isAgg229
  z146 := Tryz.sizeOf229
  v146 := Tryz.zeroValue229
  g1 := by kernel_rfl }
open Go.RowKit Go.Lib in
theorem Tryz.stringslite_Index (s sub : ByteArray) (m : Int) (w : World) (hs : s.size < 4294967281) (hm : w.cell? ⟨2, 0, none⟩ = some (.int .i64 m)) :
    Calls Tryz.prog 153 #[.string s, .string sub] w fun e w' => e = .returned (.int .i64 (Lib.index s.data.toList sub.data.toList)) ∧ w' = w := Any.stringslite_Index Tryz.lays219 s sub m w hs hm
def Tryz.lays144_ren : Go.Shelf.Ren := ⟨fun | 144 => 81 | 143 => 124 | 219 => 153 | 217 => 180 | 225 => 181 | 224 => 182 | 267 => 183 | 266 => 201 | 314 => 202 | n => n, fun | 9 => 9 | 4 => 4 | 3 => 3 | 5 => 5 | 46 => 102 | 146 => 229 | 51 => 127 | n => n, fun | 1 => 2 | n => n⟩
theorem Tryz.lays144 : Go.Proofs.Lays.n144 Tryz.prog Tryz.lays144_ren := {
  mixed := by kernel_rfl
  f143 := Tryz.func124.trans (congrArg some (by kernel_rfl))
  f144 := Tryz.func81.trans (congrArg some (by kernel_rfl))
  f217 := Tryz.func180.trans (congrArg some (by kernel_rfl))
  f219 := Tryz.func153.trans (congrArg some (by kernel_rfl))
  f224 := Tryz.func182.trans (congrArg some (by kernel_rfl))
  f225 := Tryz.func181.trans (congrArg some (by kernel_rfl))
  f266 := Tryz.func201.trans (congrArg some (by kernel_rfl))
  f267 := Tryz.func183.trans (congrArg some (by kernel_rfl))
  f314 := Tryz.func202.trans (congrArg some (by kernel_rfl))
  t3 := Tryz.underlying3
  a3 := Tryz.isAgg3
  z3 := Tryz.sizeOf3
  v3 := Tryz.zeroValue3
  t4 := Tryz.underlying4
  a4 := Tryz.isAgg4
  z4 := Tryz.sizeOf4
  v4 := Tryz.zeroValue4
  t5 := Tryz.underlying5
  a5 := Tryz.isAgg5
  z5 := Tryz.sizeOf5
  v5 := Tryz.zeroValue5
  t9 := Tryz.underlying9
  a9 := Tryz.isAgg9
  z9 := Tryz.sizeOf9
  v9 := Tryz.zeroValue9
  t46 := Tryz.underlying102
  a46 := Tryz.isAgg102
  z46 := Tryz.sizeOf102
  v46 := Tryz.zeroValue102
  t51 := Tryz.underlying127
  a51 := Tryz.isAgg127
  z51 := Tryz.sizeOf127
  v51 := Tryz.zeroValue127
  t146 := Tryz.underlying229
  a146 := Tryz.isAgg229
  z146 := Tryz.sizeOf229
  v146 := Tryz.zeroValue229
  g1 := by kernel_rfl }
open Go.RowKit Go.Lib in
theorem Tryz.strings_Contains (s sub : ByteArray) (m : Int) (w : World) (hs : s.size < 4294967281) (hm : w.cell? ⟨2, 0, none⟩ = some (.int .i64 m)) :
    Calls Tryz.prog 81 #[.string s, .string sub] w fun e w' => e = .returned (.bool (Lib.contains s.data.toList sub.data.toList)) ∧ w' = w := Any.strings_Contains Tryz.lays144 s sub m w hs hm
def Tryz.lays220_ren : Go.Shelf.Ren := ⟨fun | 220 => 121 | 219 => 153 | 217 => 180 | 225 => 181 | 224 => 182 | 267 => 183 | 266 => 201 | 314 => 202 | n => n, fun | 9 => 9 | 4 => 4 | 3 => 3 | 5 => 5 | 46 => 102 | 146 => 229 | 51 => 127 | n => n, fun | 1 => 2 | n => n⟩
theorem Tryz.lays220 : Go.Proofs.Lays.n220 Tryz.prog Tryz.lays220_ren := {
  mixed := by kernel_rfl
  f217 := Tryz.func180.trans (congrArg some (by kernel_rfl))
  f219 := Tryz.func153.trans (congrArg some (by kernel_rfl))
  f220 := Tryz.func121.trans (congrArg some (by kernel_rfl))
  f224 := Tryz.func182.trans (congrArg some (by kernel_rfl))
  f225 := Tryz.func181.trans (congrArg some (by kernel_rfl))
  f266 := Tryz.func201.trans (congrArg some (by kernel_rfl))
  f267 := Tryz.func183.trans (congrArg some (by kernel_rfl))
  f314 := Tryz.func202.trans (congrArg some (by kernel_rfl))
  t3 := Tryz.underlying3
  a3 := Tryz.isAgg3
  z3 := Tryz.sizeOf3
  v3 := Tryz.zeroValue3
  t4 := Tryz.underlying4
  a4 := Tryz.isAgg4
  z4 := Tryz.sizeOf4
  v4 := Tryz.zeroValue4
  t5 := Tryz.underlying5
  a5 := Tryz.isAgg5
  z5 := Tryz.sizeOf5
  v5 := Tryz.zeroValue5
  t9 := Tryz.underlying9
  a9 := Tryz.isAgg9
  z9 := Tryz.sizeOf9
  v9 := Tryz.zeroValue9
  t46 := Tryz.underlying102
  a46 := Tryz.isAgg102
  z46 := Tryz.sizeOf102
  v46 := Tryz.zeroValue102
  t51 := Tryz.underlying127
  a51 := Tryz.isAgg127
  z51 := Tryz.sizeOf127
  v51 := Tryz.zeroValue127
  t146 := Tryz.underlying229
  a146 := Tryz.isAgg229
  z146 := Tryz.sizeOf229
  v146 := Tryz.zeroValue229
  g1 := by kernel_rfl }
open Go.RowKit Go.Lib in
theorem Tryz.stringslite_Cut (s sep : ByteArray) (m : Int) (w : World) (hs : s.size < 4294967281) (hm : w.cell? ⟨2, 0, none⟩ = some (.int .i64 m)) :
    Calls Tryz.prog 121 #[.string s, .string sep] w fun e w' => e = .returned (.tuple #[.string ⟨(Lib.cut s.data.toList sep.data.toList).1.toArray⟩, .string ⟨(Lib.cut s.data.toList sep.data.toList).2.1.toArray⟩, .bool (Lib.cut s.data.toList sep.data.toList).2.2]) ∧ ∃ n, w' = w.drewN n := Any.stringslite_Cut Tryz.lays220 s sep m w hs hm
def Tryz.lays145_ren : Go.Shelf.Ren := ⟨fun | 145 => 77 | 220 => 121 | 219 => 153 | 217 => 180 | 225 => 181 | 224 => 182 | 267 => 183 | 266 => 201 | 314 => 202 | n => n, fun | 9 => 9 | 4 => 4 | 59 => 95 | 3 => 3 | 5 => 5 | 46 => 102 | 146 => 229 | 51 => 127 | n => n, fun | 1 => 2 | n => n⟩
theorem Tryz.lays145 : Go.Proofs.Lays.n145 Tryz.prog Tryz.lays145_ren := {
  mixed := by kernel_rfl
  f145 := Tryz.func77.trans (congrArg some (by kernel_rfl))
  f217 := Tryz.func180.trans (congrArg some (by kernel_rfl))
  f219 := Tryz.func153.trans (congrArg some (by kernel_rfl))
  f220 := Tryz.func121.trans (congrArg some (by kernel_rfl))
  f224 := Tryz.func182.trans (congrArg some (by kernel_rfl))
  f225 := Tryz.func181.trans (congrArg some (by kernel_rfl))
  f266 := Tryz.func201.trans (congrArg some (by kernel_rfl))
  f267 := Tryz.func183.trans (congrArg some (by kernel_rfl))
  f314 := Tryz.func202.trans (congrArg some (by kernel_rfl))
  t3 := Tryz.underlying3
  a3 := Tryz.isAgg3
  z3 := Tryz.sizeOf3
  v3 := Tryz.zeroValue3
  t4 := Tryz.underlying4
  a4 := Tryz.isAgg4
  z4 := Tryz.sizeOf4
  v4 := Tryz.zeroValue4
  t5 := Tryz.underlying5
  a5 := Tryz.isAgg5
  z5 := Tryz.sizeOf5
  v5 := Tryz.zeroValue5
  t9 := Tryz.underlying9
  a9 := Tryz.isAgg9
  z9 := Tryz.sizeOf9
  v9 := Tryz.zeroValue9
  t46 := Tryz.underlying102
  a46 := Tryz.isAgg102
  z46 := Tryz.sizeOf102
  v46 := Tryz.zeroValue102
  t51 := Tryz.underlying127
  a51 := Tryz.isAgg127
  z51 := Tryz.sizeOf127
  v51 := Tryz.zeroValue127
  t59 := Tryz.underlying95
  a59 := Tryz.isAgg95
  z59 := Tryz.sizeOf95
  v59 := Tryz.zeroValue95
  t146 := Tryz.underlying229
  a146 := Tryz.isAgg229
  z146 := Tryz.sizeOf229
  v146 := Tryz.zeroValue229
  g1 := by kernel_rfl }
open Go.RowKit Go.Lib in
theorem Tryz.strings_Cut (s sep : ByteArray) (m : Int) (w : World) (hs : s.size < 4294967281) (hm : w.cell? ⟨2, 0, none⟩ = some (.int .i64 m)) :
    Calls Tryz.prog 77 #[.string s, .string sep] w fun e w' => e = .returned (.tuple #[.string ⟨(Lib.cut s.data.toList sep.data.toList).1.toArray⟩, .string ⟨(Lib.cut s.data.toList sep.data.toList).2.1.toArray⟩, .bool (Lib.cut s.data.toList sep.data.toList).2.2]) ∧ ∃ n, w' = w.drewN n := Any.strings_Cut Tryz.lays145 s sep m w hs hm
def Tryz.lays206_ren : Go.Shelf.Ren := ⟨fun | 206 => 122 | n => n, fun | 9 => 9 | 4 => 4 | 3 => 3 | n => n, fun | n => n⟩
theorem Tryz.lays206 : Go.Proofs.Lays.n206 Tryz.prog Tryz.lays206_ren := {
  mixed := by kernel_rfl
  f206 := Tryz.func122.trans (congrArg some (by kernel_rfl))
  t3 := Tryz.underlying3
  a3 := Tryz.isAgg3
  z3 := Tryz.sizeOf3
  v3 := Tryz.zeroValue3
  t4 := Tryz.underlying4
  a4 := Tryz.isAgg4
  z4 := Tryz.sizeOf4
  v4 := Tryz.zeroValue4
  t9 := Tryz.underlying9
  a9 := Tryz.isAgg9
  z9 := Tryz.sizeOf9
  v9 := Tryz.zeroValue9 }
open Go.RowKit Go.Lib in
theorem Tryz.stringslite_HasPrefix (s p : ByteArray) (w : World) :
    Calls Tryz.prog 122 #[.string s, .string p] w fun e w' => e = .returned (.bool (Lib.hasPrefix s.data.toList p.data.toList)) ∧ w' = w := Any.stringslite_HasPrefix Tryz.lays206 s p w
def Tryz.lays99_ren : Go.Shelf.Ren := ⟨fun | 99 => 79 | 206 => 122 | n => n, fun | 9 => 9 | 4 => 4 | 3 => 3 | n => n, fun | n => n⟩
theorem Tryz.lays99 : Go.Proofs.Lays.n99 Tryz.prog Tryz.lays99_ren := {
  mixed := by kernel_rfl
  f99 := Tryz.func79.trans (congrArg some (by kernel_rfl))
  f206 := Tryz.func122.trans (congrArg some (by kernel_rfl))
  t3 := Tryz.underlying3
  a3 := Tryz.isAgg3
  z3 := Tryz.sizeOf3
  v3 := Tryz.zeroValue3
  t4 := Tryz.underlying4
  a4 := Tryz.isAgg4
  z4 := Tryz.sizeOf4
  v4 := Tryz.zeroValue4
  t9 := Tryz.underlying9
  a9 := Tryz.isAgg9
  z9 := Tryz.sizeOf9
  v9 := Tryz.zeroValue9 }
open Go.RowKit Go.Lib in
theorem Tryz.strings_HasPrefix (s p : ByteArray) (w : World) :
    Calls Tryz.prog 79 #[.string s, .string p] w fun e w' => e = .returned (.bool (Lib.hasPrefix s.data.toList p.data.toList)) ∧ w' = w := Any.strings_HasPrefix Tryz.lays99 s p w
def Tryz.lays207_ren : Go.Shelf.Ren := ⟨fun | 207 => 123 | n => n, fun | 9 => 9 | 4 => 4 | 3 => 3 | n => n, fun | n => n⟩
theorem Tryz.lays207 : Go.Proofs.Lays.n207 Tryz.prog Tryz.lays207_ren := {
  mixed := by kernel_rfl
  f207 := Tryz.func123.trans (congrArg some (by kernel_rfl))
  t3 := Tryz.underlying3
  a3 := Tryz.isAgg3
  z3 := Tryz.sizeOf3
  v3 := Tryz.zeroValue3
  t4 := Tryz.underlying4
  a4 := Tryz.isAgg4
  z4 := Tryz.sizeOf4
  v4 := Tryz.zeroValue4
  t9 := Tryz.underlying9
  a9 := Tryz.isAgg9
  z9 := Tryz.sizeOf9
  v9 := Tryz.zeroValue9 }
open Go.RowKit Go.Lib in
theorem Tryz.stringslite_HasSuffix (s p : ByteArray) (w : World) (hs : s.size ≤ 9223372036854775807) :
    Calls Tryz.prog 123 #[.string s, .string p] w fun e w' => e = .returned (.bool (Lib.hasSuffix s.data.toList p.data.toList)) ∧ w' = w := Any.stringslite_HasSuffix Tryz.lays207 s p w hs
def Tryz.lays100_ren : Go.Shelf.Ren := ⟨fun | 100 => 80 | 207 => 123 | n => n, fun | 9 => 9 | 4 => 4 | 3 => 3 | n => n, fun | n => n⟩
theorem Tryz.lays100 : Go.Proofs.Lays.n100 Tryz.prog Tryz.lays100_ren := {
  mixed := by kernel_rfl
  f100 := Tryz.func80.trans (congrArg some (by kernel_rfl))
  f207 := Tryz.func123.trans (congrArg some (by kernel_rfl))
  t3 := Tryz.underlying3
  a3 := Tryz.isAgg3
  z3 := Tryz.sizeOf3
  v3 := Tryz.zeroValue3
  t4 := Tryz.underlying4
  a4 := Tryz.isAgg4
  z4 := Tryz.sizeOf4
  v4 := Tryz.zeroValue4
  t9 := Tryz.underlying9
  a9 := Tryz.isAgg9
  z9 := Tryz.sizeOf9
  v9 := Tryz.zeroValue9 }
open Go.RowKit Go.Lib in
theorem Tryz.strings_HasSuffix (s p : ByteArray) (w : World) (hs : s.size ≤ 9223372036854775807) :
    Calls Tryz.prog 80 #[.string s, .string p] w fun e w' => e = .returned (.bool (Lib.hasSuffix s.data.toList p.data.toList)) ∧ w' = w := Any.strings_HasSuffix Tryz.lays100 s p w hs
def Tryz.lays147_ren : Go.Shelf.Ren := ⟨fun | 147 => 95 | 221 => 137 | 268 => 166 | 138 => 167 | 143 => 124 | 195 => 191 | 197 => 145 | 218 => 192 | 219 => 153 | 260 => 170 | 217 => 180 | 225 => 181 | 224 => 182 | 267 => 183 | 266 => 201 | 314 => 202 | n => n, fun | 9 => 9 | 3 => 3 | 31 => 43 | 4 => 4 | 0 => 0 | 105 => 173 | 21 => 21 | 5 => 5 | 46 => 102 | 119 => 98 | 139 => 101 | 138 => 100 | 146 => 229 | 51 => 127 | n => n, fun | 1 => 2 | 3 => 0 | 4 => 1 | n => n⟩
theorem Tryz.lays147 : Go.Proofs.Lays.n147 Tryz.prog Tryz.lays147_ren := {
  mixed := by kernel_rfl
  f138 := Tryz.func167.trans (congrArg some (by kernel_rfl))
  f143 := Tryz.func124.trans (congrArg some (by kernel_rfl))
  f147 := Tryz.func95.trans (congrArg some (by kernel_rfl))
  f195 := Tryz.func191.trans (congrArg some (by kernel_rfl))
  f197 := Tryz.func145.trans (congrArg some (by kernel_rfl))
  f217 := Tryz.func180.trans (congrArg some (by kernel_rfl))
  f218 := Tryz.func192.trans (congrArg some (by kernel_rfl))
  f219 := Tryz.func153.trans (congrArg some (by kernel_rfl))
  f221 := Tryz.func137.trans (congrArg some (by kernel_rfl))
  f224 := Tryz.func182.trans (congrArg some (by kernel_rfl))
  f225 := Tryz.func181.trans (congrArg some (by kernel_rfl))
  f260 := Tryz.func170.trans (congrArg some (by kernel_rfl))
  f266 := Tryz.func201.trans (congrArg some (by kernel_rfl))
  f267 := Tryz.func183.trans (congrArg some (by kernel_rfl))
  f268 := Tryz.func166.trans (congrArg some (by kernel_rfl))
  f314 := Tryz.func202.trans (congrArg some (by kernel_rfl))
  t0 := Tryz.underlying0
  a0 := Tryz.isAgg0
  z0 := Tryz.sizeOf0
  v0 := Tryz.zeroValue0
  t3 := Tryz.underlying3
  a3 := Tryz.isAgg3
  z3 := Tryz.sizeOf3
  v3 := Tryz.zeroValue3
  t4 := Tryz.underlying4
  a4 := Tryz.isAgg4
  z4 := Tryz.sizeOf4
  v4 := Tryz.zeroValue4
  t5 := Tryz.underlying5
  a5 := Tryz.isAgg5
  z5 := Tryz.sizeOf5
  v5 := Tryz.zeroValue5
  t9 := Tryz.underlying9
  a9 := Tryz.isAgg9
  z9 := Tryz.sizeOf9
  v9 := Tryz.zeroValue9
  t21 := Tryz.underlying21
  a21 := Tryz.isAgg21
  z21 := Tryz.sizeOf21
  v21 := Tryz.zeroValue21
  t31 := Tryz.underlying43
  a31 := Tryz.isAgg43
  z31 := Tryz.sizeOf43
  v31 := Tryz.zeroValue43
  t46 := Tryz.underlying102
  a46 := Tryz.isAgg102
  z46 := Tryz.sizeOf102
  v46 := Tryz.zeroValue102
  t51 := Tryz.underlying127
  a51 := Tryz.isAgg127
  z51 := Tryz.sizeOf127
  v51 := Tryz.zeroValue127
  t105 := Tryz.underlying173
  a105 := Tryz.isAgg173
  z105 := Tryz.sizeOf173
  v105 := Tryz.zeroValue173
  t119 := Tryz.underlying98
  a119 := Tryz.isAgg98
  z119 := Tryz.sizeOf98
  t138 := Tryz.underlying100
  a138 := Tryz.isAgg100
  z138 := Tryz.sizeOf100
  v138 := Tryz.zeroValue100
  t139 := Tryz.underlying101
  a139 := Tryz.isAgg101
  z139 := Tryz.sizeOf101
  v139 := Tryz.zeroValue101
  t146 := Tryz.underlying229
  a146 := Tryz.isAgg229
  z146 := Tryz.sizeOf229
  v146 := Tryz.zeroValue229
  g1 := by kernel_rfl
  g3 := by kernel_rfl
  g4 := by kernel_rfl }
open Go.RowKit Go.Lib in
theorem Tryz.strings_SplitN (s sep : ByteArray) (n : Nat) (m : Int) (w : World) (hs : s.size < 4294967281) (hm : w.cell? ⟨2, 0, none⟩ = some (.int .i64 m)) (h1 : 1 ≤ sep.size) (hn : 1 ≤ n) (hn63 : n ≤ 9223372036854775807) :
    Calls Tryz.prog 95 #[.string s, .string sep, .int .i64 n] w fun e w' =>
      e = .returned (.slice (some ⟨w.heap.size, 0, none⟩) (Lib.splitB sep 0 (min n (s.size + 1) - 1) s).length (min n (s.size + 1))) ∧ w' = w.alloc (.cells (Lib.cellsOf (Lib.splitB sep 0 (min n (s.size + 1) - 1) s) (min n (s.size + 1))) 9) := Any.strings_SplitN Tryz.lays147 (by kernel_rfl) s sep n m w hs hm h1 hn hn63
def Tryz.lays155_ren : Go.Shelf.Ren := ⟨fun | 155 => 128 | 154 => 164 | 138 => 167 | 165 => 87 | 143 => 124 | 166 => 53 | 197 => 145 | 169 => 54 | 195 => 191 | 218 => 192 | 240 => 98 | 241 => 132 | 219 => 153 | 260 => 170 | 276 => 140 | 277 => 165 | 217 => 180 | 225 => 181 | 224 => 182 | 267 => 183 | 266 => 201 | 314 => 202 | n => n, fun | 9 => 9 | 3 => 3 | 4 => 4 | 72 => 70 | 0 => 0 | 76 => 77 | 105 => 173 | 21 => 21 | 5 => 5 | 70 => 68 | 20 => 20 | 37 => 30 | 75 => 74 | 127 => 118 | 164 => 171 | 46 => 102 | 119 => 98 | 139 => 101 | 138 => 100 | 146 => 229 | 51 => 127 | 80 => 79 | n => n, fun | 1 => 2 | 3 => 0 | 4 => 1 | n => n⟩
theorem Tryz.lays155 : Go.Proofs.Lays.n155 Tryz.prog Tryz.lays155_ren := {
  mixed := by kernel_rfl
  f138 := Tryz.func167.trans (congrArg some (by kernel_rfl))
  f143 := Tryz.func124.trans (congrArg some (by kernel_rfl))
  f154 := Tryz.func164.trans (congrArg some (by kernel_rfl))
  f155 := Tryz.func128.trans (congrArg some (by kernel_rfl))
  f165 := Tryz.func87.trans (congrArg some (by kernel_rfl))
  f166 := Tryz.func53.trans (congrArg some (by kernel_rfl))
  f169 := Tryz.func54.trans (congrArg some (by kernel_rfl))
  f195 := Tryz.func191.trans (congrArg some (by kernel_rfl))
  f197 := Tryz.func145.trans (congrArg some (by kernel_rfl))
  f217 := Tryz.func180.trans (congrArg some (by kernel_rfl))
  f218 := Tryz.func192.trans (congrArg some (by kernel_rfl))
  f219 := Tryz.func153.trans (congrArg some (by kernel_rfl))
  f224 := Tryz.func182.trans (congrArg some (by kernel_rfl))
  f225 := Tryz.func181.trans (congrArg some (by kernel_rfl))
  f240 := Tryz.func98.trans (congrArg some (by kernel_rfl))
  f241 := Tryz.func132.trans (congrArg some (by kernel_rfl))
  f260 := Tryz.func170.trans (congrArg some (by kernel_rfl))
  f266 := Tryz.func201.trans (congrArg some (by kernel_rfl))
  f267 := Tryz.func183.trans (congrArg some (by kernel_rfl))
  f276 := Tryz.func140.trans (congrArg some (by kernel_rfl))
  f277 := Tryz.func165.trans (congrArg some (by kernel_rfl))
  f314 := Tryz.func202.trans (congrArg some (by kernel_rfl))
  t0 := Tryz.underlying0
  a0 := Tryz.isAgg0
  z0 := Tryz.sizeOf0
  v0 := Tryz.zeroValue0
  t3 := Tryz.underlying3
  a3 := Tryz.isAgg3
  z3 := Tryz.sizeOf3
  v3 := Tryz.zeroValue3
  t4 := Tryz.underlying4
  a4 := Tryz.isAgg4
  z4 := Tryz.sizeOf4
  v4 := Tryz.zeroValue4
  t5 := Tryz.underlying5
  a5 := Tryz.isAgg5
  z5 := Tryz.sizeOf5
  v5 := Tryz.zeroValue5
  t9 := Tryz.underlying9
  a9 := Tryz.isAgg9
  z9 := Tryz.sizeOf9
  v9 := Tryz.zeroValue9
  t20 := Tryz.underlying20
  a20 := Tryz.isAgg20
  z20 := Tryz.sizeOf20
  v20 := Tryz.zeroValue20
  t21 := Tryz.underlying21
  a21 := Tryz.isAgg21
  z21 := Tryz.sizeOf21
  v21 := Tryz.zeroValue21
  t37 := Tryz.underlying30
  a37 := Tryz.isAgg30
  z37 := Tryz.sizeOf30
  v37 := Tryz.zeroValue30
  t46 := Tryz.underlying102
  a46 := Tryz.isAgg102
  z46 := Tryz.sizeOf102
  v46 := Tryz.zeroValue102
  t51 := Tryz.underlying127
  a51 := Tryz.isAgg127
  z51 := Tryz.sizeOf127
  v51 := Tryz.zeroValue127
  t70 := Tryz.underlying68
  a70 := Tryz.isAgg68
  z70 := Tryz.sizeOf68
  v70 := Tryz.zeroValue68
  t72 := Tryz.underlying70
  a72 := Tryz.isAgg70
  z72 := Tryz.sizeOf70
  v72 := Tryz.zeroValue70
  t75 := Tryz.underlying74
  a75 := Tryz.isAgg74
  z75 := Tryz.sizeOf74
  v75 := Tryz.zeroValue74
  t76 := Tryz.underlying77
  a76 := Tryz.isAgg77
  z76 := Tryz.sizeOf77
  v76 := Tryz.zeroValue77
  t105 := Tryz.underlying173
  a105 := Tryz.isAgg173
  z105 := Tryz.sizeOf173
  v105 := Tryz.zeroValue173
  t119 := Tryz.underlying98
  a119 := Tryz.isAgg98
  z119 := Tryz.sizeOf98
  t127 := Tryz.underlying118
  a127 := Tryz.isAgg118
  z127 := Tryz.sizeOf118
  v127 := Tryz.zeroValue118
  t138 := Tryz.underlying100
  a138 := Tryz.isAgg100
  z138 := Tryz.sizeOf100
  v138 := Tryz.zeroValue100
  t139 := Tryz.underlying101
  a139 := Tryz.isAgg101
  z139 := Tryz.sizeOf101
  v139 := Tryz.zeroValue101
  t146 := Tryz.underlying229
  a146 := Tryz.isAgg229
  z146 := Tryz.sizeOf229
  v146 := Tryz.zeroValue229
  t164 := Tryz.underlying171
  a164 := Tryz.isAgg171
  z164 := Tryz.sizeOf171
  v164 := Tryz.zeroValue171
  g1 := by kernel_rfl
  g3 := by kernel_rfl
  g4 := by kernel_rfl }
theorem Tryz.Builder_Extra_155 : Builder.Extra Tryz.prog Tryz.lays155_ren := {
  sizeBuilder := by kernel_rfl
  liesBuilder := by kernel_rfl
  t5 := Tryz.underlying5
  a5 := Tryz.isAgg5
  z5 := Tryz.sizeOf5
  v5 := Tryz.zeroValue5
  infoByte := by kernel_rfl
  cellsByte := by kernel_rfl
  sizeByte := by kernel_rfl
  neB5 := by decide }
open Go.RowKit Go.Lib in
theorem Tryz.strings_ReplaceAll (s old new : ByteArray) (m : Int) (w : World) (hs : s.size < 4294967281) (hm : w.cell? ⟨2, 0, none⟩ = some (.int .i64 m)) (h1 : 1 ≤ old.size) (hlen : s.size + Lib.countB s old * new.size ≤ 140737488355328) :
    Calls Tryz.prog 128 #[.string s, .string old, .string new] w fun e w' =>
      e = .returned (.string ⟨(Lib.replaceAll s.data.toList old.data.toList new.data.toList).toArray⟩) ∧ Below w.heap.size w w' := Any.strings_ReplaceAll Tryz.lays155 Tryz.Builder_Extra_155 s old new m w hs hm h1 hlen
def Tryz.lays197_ren : Go.Shelf.Ren := ⟨fun | 197 => 145 | 260 => 170 | n => n, fun | 9 => 9 | 21 => 21 | 3 => 3 | 4 => 4 | 5 => 5 | 105 => 173 | 119 => 98 | 0 => 0 | 46 => 102 | 139 => 101 | 138 => 100 | n => n, fun | 3 => 0 | 4 => 1 | n => n⟩
theorem Tryz.lays197 : Go.Proofs.Lays.n197 Tryz.prog Tryz.lays197_ren := {
  mixed := by kernel_rfl
  f197 := Tryz.func145.trans (congrArg some (by kernel_rfl))
  f260 := Tryz.func170.trans (congrArg some (by kernel_rfl))
  t0 := Tryz.underlying0
  a0 := Tryz.isAgg0
  z0 := Tryz.sizeOf0
  v0 := Tryz.zeroValue0
  t3 := Tryz.underlying3
  a3 := Tryz.isAgg3
  z3 := Tryz.sizeOf3
  v3 := Tryz.zeroValue3
  t4 := Tryz.underlying4
  a4 := Tryz.isAgg4
  z4 := Tryz.sizeOf4
  v4 := Tryz.zeroValue4
  t5 := Tryz.underlying5
  a5 := Tryz.isAgg5
  z5 := Tryz.sizeOf5
  v5 := Tryz.zeroValue5
  t9 := Tryz.underlying9
  a9 := Tryz.isAgg9
  z9 := Tryz.sizeOf9
  v9 := Tryz.zeroValue9
  t21 := Tryz.underlying21
  a21 := Tryz.isAgg21
  z21 := Tryz.sizeOf21
  v21 := Tryz.zeroValue21
  t46 := Tryz.underlying102
  a46 := Tryz.isAgg102
  z46 := Tryz.sizeOf102
  v46 := Tryz.zeroValue102
  t105 := Tryz.underlying173
  a105 := Tryz.isAgg173
  z105 := Tryz.sizeOf173
  v105 := Tryz.zeroValue173
  t119 := Tryz.underlying98
  a119 := Tryz.isAgg98
  z119 := Tryz.sizeOf98
  t138 := Tryz.underlying100
  a138 := Tryz.isAgg100
  z138 := Tryz.sizeOf100
  v138 := Tryz.zeroValue100
  t139 := Tryz.underlying101
  a139 := Tryz.isAgg101
  z139 := Tryz.sizeOf101
  v139 := Tryz.zeroValue101
  g3 := by kernel_rfl
  g4 := by kernel_rfl }
def Tryz.lays226_ren : Go.Shelf.Ren := ⟨fun | 226 => 179 | n => n, fun | 3 => 3 | 4 => 4 | n => n, fun | n => n⟩
theorem Tryz.lays226 : Go.Proofs.Lays.n226 Tryz.prog Tryz.lays226_ren := {
  mixed := by kernel_rfl
  f226 := Tryz.func179.trans (congrArg some (by kernel_rfl))
  t3 := Tryz.underlying3
  a3 := Tryz.isAgg3
  z3 := Tryz.sizeOf3
  v3 := Tryz.zeroValue3
  t4 := Tryz.underlying4
  a4 := Tryz.isAgg4
  z4 := Tryz.sizeOf4
  v4 := Tryz.zeroValue4 }
open Go.RowKit Go.Lib in
theorem Tryz.strings_shouldUseASCIISet (n : Int) (w : World) :
    Calls Tryz.prog 179 #[.int .i64 n] w fun e w' => e = .returned (.bool (decide (8 < n))) ∧ w' = w := Any.strings_shouldUseASCIISet Tryz.lays226 n w
def Tryz.lays153_ren : Go.Shelf.Ren := ⟨fun | 153 => 152 | 152 => 171 | 226 => 179 | 227 => 108 | 228 => 144 | 137 => 193 | 119 => 194 | 224 => 182 | 225 => 181 | 217 => 180 | 266 => 201 | n => n, fun | 9 => 9 | 3 => 3 | 4 => 4 | 5 => 5 | 21 => 21 | 117 => 143 | 116 => 142 | 0 => 0 | 46 => 102 | 124 => 146 | n => n, fun | n => n⟩
theorem Tryz.lays153 : Go.Proofs.Lays.n153 Tryz.prog Tryz.lays153_ren := {
  mixed := by kernel_rfl
  f119 := Tryz.func194.trans (congrArg some (by kernel_rfl))
  f137 := Tryz.func193.trans (congrArg some (by kernel_rfl))
  f152 := Tryz.func171.trans (congrArg some (by kernel_rfl))
  f153 := Tryz.func152.trans (congrArg some (by kernel_rfl))
  f217 := Tryz.func180.trans (congrArg some (by kernel_rfl))
  f224 := Tryz.func182.trans (congrArg some (by kernel_rfl))
  f225 := Tryz.func181.trans (congrArg some (by kernel_rfl))
  f226 := Tryz.func179.trans (congrArg some (by kernel_rfl))
  f227 := Tryz.func108.trans (congrArg some (by kernel_rfl))
  f228 := Tryz.func144.trans (congrArg some (by kernel_rfl))
  f266 := Tryz.func201.trans (congrArg some (by kernel_rfl))
  t0 := Tryz.underlying0
  a0 := Tryz.isAgg0
  z0 := Tryz.sizeOf0
  v0 := Tryz.zeroValue0
  t3 := Tryz.underlying3
  a3 := Tryz.isAgg3
  z3 := Tryz.sizeOf3
  v3 := Tryz.zeroValue3
  t4 := Tryz.underlying4
  a4 := Tryz.isAgg4
  z4 := Tryz.sizeOf4
  v4 := Tryz.zeroValue4
  t5 := Tryz.underlying5
  a5 := Tryz.isAgg5
  z5 := Tryz.sizeOf5
  v5 := Tryz.zeroValue5
  t9 := Tryz.underlying9
  a9 := Tryz.isAgg9
  z9 := Tryz.sizeOf9
  v9 := Tryz.zeroValue9
  t21 := Tryz.underlying21
  a21 := Tryz.isAgg21
  z21 := Tryz.sizeOf21
  v21 := Tryz.zeroValue21
  t46 := Tryz.underlying102
  a46 := Tryz.isAgg102
  z46 := Tryz.sizeOf102
  v46 := Tryz.zeroValue102
  t116 := Tryz.underlying142
  a116 := Tryz.isAgg142
  z116 := Tryz.sizeOf142
  t117 := Tryz.underlying143
  a117 := Tryz.isAgg143
  z117 := Tryz.sizeOf143
  v117 := Tryz.zeroValue143
  t124 := Tryz.underlying146
  a124 := Tryz.isAgg146
  z124 := Tryz.sizeOf146
  v124 := Tryz.zeroValue146 }
def Tryz.lays227_ren : Go.Shelf.Ren := ⟨fun | 227 => 108 | n => n, fun | 9 => 9 | 116 => 142 | 4 => 4 | 0 => 0 | 3 => 3 | 5 => 5 | n => n, fun | n => n⟩
theorem Tryz.lays227 : Go.Proofs.Lays.n227 Tryz.prog Tryz.lays227_ren := {
  mixed := by kernel_rfl
  f227 := Tryz.func108.trans (congrArg some (by kernel_rfl))
  t0 := Tryz.underlying0
  a0 := Tryz.isAgg0
  z0 := Tryz.sizeOf0
  v0 := Tryz.zeroValue0
  t3 := Tryz.underlying3
  a3 := Tryz.isAgg3
  z3 := Tryz.sizeOf3
  v3 := Tryz.zeroValue3
  t4 := Tryz.underlying4
  a4 := Tryz.isAgg4
  z4 := Tryz.sizeOf4
  v4 := Tryz.zeroValue4
  t5 := Tryz.underlying5
  a5 := Tryz.isAgg5
  z5 := Tryz.sizeOf5
  v5 := Tryz.zeroValue5
  t9 := Tryz.underlying9
  a9 := Tryz.isAgg9
  z9 := Tryz.sizeOf9
  v9 := Tryz.zeroValue9
  t116 := Tryz.underlying142
  a116 := Tryz.isAgg142
  z116 := Tryz.sizeOf142 }
open Go.RowKit Go.Lib in
theorem Tryz.strings_makeASCIISet (hv116 : ∀ w, (zeroValue 142).run Tryz.prog w = .ok (.agg (Array.replicate 256 (.bool false))) w) (chars : ByteArray) (w : World) (hs : chars.size < 4294967281) (hascii : ∀ (j : Nat) b, chars.data.toList[j]? = some b → b.toNat < 128) :
    Calls Tryz.prog 108 #[.string chars] w fun e w' => e = .returned (.tuple #[.agg (Lib.setCells chars.data.toList), .bool true]) ∧ w' = w.alloc (.cells (Lib.setCells chars.data.toList) 142) := Any.strings_makeASCIISet Tryz.lays227 hv116 (by kernel_rfl) chars w hs hascii
open Go.RowKit Go.Lib in
theorem Tryz.strings_IndexAny (hv116 : ∀ w, (zeroValue 142).run Tryz.prog w = .ok (.agg (Array.replicate 256 (.bool false))) w) (s chars : ByteArray) (w : World) (hs : s.size < 4294967281) (hcs : chars.size < 4294967281) (has : ∀ (j : Nat) b, s.data.toList[j]? = some b → b.toNat < 128) (hac : ∀ (j : Nat) b, chars.data.toList[j]? = some b → b.toNat < 128) :
    Calls Tryz.prog 152 #[.string s, .string chars] w fun e w' => e = .returned (.int .i64 (Lib.indexAny s.data.toList chars.data.toList)) ∧ Below w.heap.size w w' := Any.strings_IndexAny Tryz.lays153 hv116 (by kernel_rfl) s chars w hs hcs has hac
def Tryz.lays150_ren : Go.Shelf.Ren := ⟨fun | 150 => 120 | 153 => 152 | 152 => 171 | 226 => 179 | 227 => 108 | 228 => 144 | 137 => 193 | 119 => 194 | 224 => 182 | 225 => 181 | 217 => 180 | 266 => 201 | n => n, fun | 9 => 9 | 4 => 4 | 3 => 3 | 5 => 5 | 21 => 21 | 117 => 143 | 116 => 142 | 0 => 0 | 46 => 102 | 124 => 146 | n => n, fun | n => n⟩
theorem Tryz.lays150 : Go.Proofs.Lays.n150 Tryz.prog Tryz.lays150_ren := {
  mixed := by kernel_rfl
  f119 := Tryz.func194.trans (congrArg some (by kernel_rfl))
  f137 := Tryz.func193.trans (congrArg some (by kernel_rfl))
  f150 := Tryz.func120.trans (congrArg some (by kernel_rfl))
  f152 := Tryz.func171.trans (congrArg some (by kernel_rfl))
  f153 := Tryz.func152.trans (congrArg some (by kernel_rfl))
  f217 := Tryz.func180.trans (congrArg some (by kernel_rfl))
  f224 := Tryz.func182.trans (congrArg some (by kernel_rfl))
  f225 := Tryz.func181.trans (congrArg some (by kernel_rfl))
  f226 := Tryz.func179.trans (congrArg some (by kernel_rfl))
  f227 := Tryz.func108.trans (congrArg some (by kernel_rfl))
  f228 := Tryz.func144.trans (congrArg some (by kernel_rfl))
  f266 := Tryz.func201.trans (congrArg some (by kernel_rfl))
  t0 := Tryz.underlying0
  a0 := Tryz.isAgg0
  z0 := Tryz.sizeOf0
  v0 := Tryz.zeroValue0
  t3 := Tryz.underlying3
  a3 := Tryz.isAgg3
  z3 := Tryz.sizeOf3
  v3 := Tryz.zeroValue3
  t4 := Tryz.underlying4
  a4 := Tryz.isAgg4
  z4 := Tryz.sizeOf4
  v4 := Tryz.zeroValue4
  t5 := Tryz.underlying5
  a5 := Tryz.isAgg5
  z5 := Tryz.sizeOf5
  v5 := Tryz.zeroValue5
  t9 := Tryz.underlying9
  a9 := Tryz.isAgg9
  z9 := Tryz.sizeOf9
  v9 := Tryz.zeroValue9
  t21 := Tryz.underlying21
  a21 := Tryz.isAgg21
  z21 := Tryz.sizeOf21
  v21 := Tryz.zeroValue21
  t46 := Tryz.underlying102
  a46 := Tryz.isAgg102
  z46 := Tryz.sizeOf102
  v46 := Tryz.zeroValue102
  t116 := Tryz.underlying142
  a116 := Tryz.isAgg142
  z116 := Tryz.sizeOf142
  t117 := Tryz.underlying143
  a117 := Tryz.isAgg143
  z117 := Tryz.sizeOf143
  v117 := Tryz.zeroValue143
  t124 := Tryz.underlying146
  a124 := Tryz.isAgg146
  z124 := Tryz.sizeOf146
  v124 := Tryz.zeroValue146 }
open Go.RowKit Go.Lib in
theorem Tryz.strings_ContainsAny (hv116 : ∀ w, (zeroValue 142).run Tryz.prog w = .ok (.agg (Array.replicate 256 (.bool false))) w) (s chars : ByteArray) (w : World) (hs : s.size < 4294967281) (hcs : chars.size < 4294967281) (has : ∀ (j : Nat) b, s.data.toList[j]? = some b → b.toNat < 128) (hac : ∀ (j : Nat) b, chars.data.toList[j]? = some b → b.toNat < 128) :
    Calls Tryz.prog 120 #[.string s, .string chars] w fun e w' => e = .returned (.bool (Lib.containsAny s.data.toList chars.data.toList)) ∧ Below w.heap.size w w' := Any.strings_ContainsAny Tryz.lays150 hv116 (by kernel_rfl) s chars w hs hcs has hac
def Tryz.lays260_ren : Go.Shelf.Ren := ⟨fun | 260 => 170 | n => n, fun | 9 => 9 | 21 => 21 | 3 => 3 | 4 => 4 | 5 => 5 | 119 => 98 | 0 => 0 | 46 => 102 | 139 => 101 | 138 => 100 | n => n, fun | 3 => 0 | 4 => 1 | n => n⟩
theorem Tryz.lays260 : Go.Proofs.Lays.n260 Tryz.prog Tryz.lays260_ren := {
  mixed := by kernel_rfl
  f260 := Tryz.func170.trans (congrArg some (by kernel_rfl))
  t0 := Tryz.underlying0
  a0 := Tryz.isAgg0
  z0 := Tryz.sizeOf0
  v0 := Tryz.zeroValue0
  t3 := Tryz.underlying3
  a3 := Tryz.isAgg3
  z3 := Tryz.sizeOf3
  v3 := Tryz.zeroValue3
  t4 := Tryz.underlying4
  a4 := Tryz.isAgg4
  z4 := Tryz.sizeOf4
  v4 := Tryz.zeroValue4
  t5 := Tryz.underlying5
  a5 := Tryz.isAgg5
  z5 := Tryz.sizeOf5
  v5 := Tryz.zeroValue5
  t9 := Tryz.underlying9
  a9 := Tryz.isAgg9
  z9 := Tryz.sizeOf9
  v9 := Tryz.zeroValue9
  t21 := Tryz.underlying21
  a21 := Tryz.isAgg21
  z21 := Tryz.sizeOf21
  v21 := Tryz.zeroValue21
  t46 := Tryz.underlying102
  a46 := Tryz.isAgg102
  z46 := Tryz.sizeOf102
  v46 := Tryz.zeroValue102
  t119 := Tryz.underlying98
  a119 := Tryz.isAgg98
  z119 := Tryz.sizeOf98
  t138 := Tryz.underlying100
  a138 := Tryz.isAgg100
  z138 := Tryz.sizeOf100
  v138 := Tryz.zeroValue100
  t139 := Tryz.underlying101
  a139 := Tryz.isAgg101
  z139 := Tryz.sizeOf101
  v139 := Tryz.zeroValue101
  g3 := by kernel_rfl
  g4 := by kernel_rfl }
open Go.RowKit Go.Lib in
theorem Tryz.utf8_DecodeRuneInString (s : ByteArray) (w : World) (hT : Lib.Utf8Tabs 0 1 w) :
    Calls Tryz.prog 145 #[.string s] w fun e w' => e = .returned (.tuple #[.int .i32 (Lib.decodeGo s).1, .int .i64 (Lib.decodeGo s).2]) ∧ Below w.heap.size w w' := Any.utf8_DecodeRuneInString Tryz.lays197 s w hT
def Tryz.lays187_ren : Go.Shelf.Ren := ⟨fun | 187 => 102 | 255 => 142 | n => n, fun | 37 => 30 | 5 => 5 | 3 => 3 | n => n, fun | n => n⟩
theorem Tryz.lays187 : Go.Proofs.Lays.n187 Tryz.prog Tryz.lays187_ren := {
  mixed := by kernel_rfl
  f187 := Tryz.func102.trans (congrArg some (by kernel_rfl))
  f255 := Tryz.func142.trans (congrArg some (by kernel_rfl))
  t3 := Tryz.underlying3
  a3 := Tryz.isAgg3
  z3 := Tryz.sizeOf3
  v3 := Tryz.zeroValue3
  t5 := Tryz.underlying5
  a5 := Tryz.isAgg5
  z5 := Tryz.sizeOf5
  v5 := Tryz.zeroValue5
  t37 := Tryz.underlying30
  a37 := Tryz.isAgg30
  z37 := Tryz.sizeOf30
  v37 := Tryz.zeroValue30 }
open Go.RowKit Go.Lib in
theorem Tryz.bytes_IndexByte_at (a : Addr) (n c : Nat) (xs : List Int) (cv : Int) (w : World) (hx : xs.length = n) (hc : ∀ i, i < n → w.cell? (a.add i) = some (.int .u8 (xs.getD i 0))) :
    Calls Tryz.prog 102 #[.slice (some a) n c, .int .u8 cv] w fun e w' => e = .returned (.int .i64 (Lib.indexByte (Lib.bytesOf xs) cv.toNat.toUInt8)) ∧ w' = w := Any.bytes_IndexByte_at Tryz.lays187 a n c xs cv w hx hc
theorem Tryz.bytes_IndexByte_nil (cv : Int) (w : World) :
    Calls Tryz.prog 102 #[.slice none 0 0, .int .u8 cv] w fun e w' => e = .returned (.int .i64 (-1)) ∧ w' = w := Any.bytes_IndexByte_nil Tryz.lays187 cv w
end Go.Proofs
end
section
set_option linter.unusedVariables false
set_option linter.unusedSimpArgs false
namespace Go.Proofs.YtogkmhjnojphiaaGreatDoor
open Go Go.RowKit Go.Ph
theorem ty30 : ElemTy Tryz.prog 30 5 (.int .u8 0) 1 1 := ElemTy.mk' Tryz.underlying30 (by kernel_rfl) rfl (by decide)
theorem ty43 : ElemTy Tryz.prog 43 9 (.string ⟨#[]⟩) 1 16 := ElemTy.mk' Tryz.underlying43 (by kernel_rfl) rfl (by decide)
theorem ty170 : ElemTy Tryz.prog 170 21 (.int .i32 0) 1 4 := ElemTy.mk' Tryz.underlying170 (by kernel_rfl) rfl (by decide)
theorem places24 : ∀ {fs : Array Field}, Tryz.prog.underlying 24 = some (.struct fs) → ∀ w, (fs.mapM fun f => do pure (f.offset, ← sizeOf f.type) : Sem (Array (Nat × Nat))).run Tryz.prog w = .ok #[(0, 1), (1, 1)] w := by
  intro fs h w
  rw [Tryz.underlying24] at h
  cases h
  simp
theorem places156 : ∀ {fs : Array Field}, Tryz.prog.underlying 156 = some (.struct fs) → ∀ w, (fs.mapM fun f => do pure (f.offset, ← sizeOf f.type) : Sem (Array (Nat × Nat))).run Tryz.prog w = .ok #[(0, 1), (1, 1), (2, 1)] w := by
  intro fs h w
  rw [Tryz.underlying156] at h
  cases h
  simp
theorem places180 : ∀ {fs : Array Field}, Tryz.prog.underlying 180 = some (.struct fs) → ∀ w, (fs.mapM fun f => do pure (f.offset, ← sizeOf f.type) : Sem (Array (Nat × Nat))).run Tryz.prog w = .ok #[(0, 1), (1, 1), (2, 1)] w := by
  intro fs h w
  rw [Tryz.underlying180] at h
  cases h
  simp
theorem places232 : ∀ {fs : Array Field}, Tryz.prog.underlying 232 = some (.struct fs) → ∀ w, (fs.mapM fun f => do pure (f.offset, ← sizeOf f.type) : Sem (Array (Nat × Nat))).run Tryz.prog w = .ok #[(0, 1), (1, 1), (2, 1)] w := by
  intro fs h w
  rw [Tryz.underlying232] at h
  cases h
  simp
abbrev fault (c i : Int) : Value := .agg #[I c, I i]
theorem fault_spec (c i : Int) : Ct Tryz.prog 37 [I c, I i] (fun _ => True) (fun r _ => r = fault c i) := by
  refine Ct.of Tryz.func37 (enters Tryz.func37 (by kernel_rfl) rfl) rfl rfl rfl ?_
  intro w0 M0 H hp
  refine SQ (RG (WR.alloc [_, _] H Tryz.zeroValue24 rfl (Wn.none rfl) rfl ?_))
  intro b4 w H
  refine NL (TN (SQ (RG (MV rfl rfl (MV rfl rfl (ST (Ex.build [_, _] Tryz.underlying24 Tryz.zeroValue24 (places24 Tryz.underlying24) rfl rfl) rfl (WR.store [_, _] H rfl rfl rfl (by repeat first | exact .head | apply Upd.tail) Tryz.sizeOf24 rfl (by rfl) (by rfl) (Wn.none rfl) ?_)))))))
  intro w H
  refine NL (TN (RT ?_))
  refine WQ.ret1 rfl ⟨_, rfl, H.loadAgg (by repeat (first | exact List.Mem.head _ | apply List.Mem.tail)) Tryz.isAgg24 Tryz.sizeOf24 (by rfl)⟩ H.ext ?_
  exact rfl
theorem none_spec  : Ct Tryz.prog 40 [] (fun _ => True) (fun r _ => r = fault 0 0) := by
  refine Ct.of Tryz.func40 (enters Tryz.func40 (by kernel_rfl) rfl) rfl rfl rfl ?_
  intro w0 M0 H hp
  refine SQ (RG (WR.alloc [_, _] H Tryz.zeroValue24 rfl (Wn.none rfl) rfl ?_))
  intro b0 w H
  refine NL (TN (SQ (RG (ST (Ex.build [_, _] Tryz.underlying24 Tryz.zeroValue24 (places24 Tryz.underlying24) rfl rfl) rfl (WR.store [_, _] H rfl rfl rfl (by repeat first | exact .head | apply Upd.tail) Tryz.sizeOf24 rfl (by rfl) (by rfl) (Wn.none rfl) ?_)))))
  intro w H
  refine NL (TN (RT ?_))
  refine WQ.ret1 rfl ⟨_, rfl, H.loadAgg (by repeat (first | exact List.Mem.head _ | apply List.Mem.tail)) Tryz.isAgg24 Tryz.sizeOf24 (by rfl)⟩ H.ext ?_
  exact rfl
def Tabs (M : Mem) : Prop := ∀ w, Ag M w → Lib.Utf8Tabs 0 1 w
theorem Tabs.mono {M M' : Mem} (h : Tabs M) (hl : M.le M') : Tabs M' := fun w ha => h w (fun b o hb => ha b o (hl b o hb))
theorem decodeGo_list (l : List UInt8) (hl : l ≠ []) : Lib.decodeGo ⟨l.toArray⟩ = Utf.dr l := by
  have h1 : l.length ≠ 0 := fun h => hl (List.eq_nil_of_length_eq_zero h)
  unfold Lib.decodeGo
  rw [size_mk, if_neg h1, decode_list, List.drop_zero]
theorem decode_spec (l : List UInt8) (hl : l ≠ []) : Ct Tryz.prog 145 [S l] (fun M => Tabs M) (fun r _ => r = .tuple #[.int .i32 ((Utf.dr l).1 : Int), .int .i64 ((Utf.dr l).2 : Int)]) := by
  refine ⟨enters Tryz.func145 (by kernel_rfl) rfl, fun w M ha hp => ?_⟩
  refine (Tryz.utf8_DecodeRuneInString ⟨l.toArray⟩ w (hp w ha)).mono fun e w' ⟨he, hb⟩ => ⟨_, M, he, ⟨BelowX.of hb _, Mem.le.refl M, fun b o hbo => ?_, fun _ _ => rfl⟩, ?_⟩
  · have h1 := ha b o hbo
    rw [hb.block b (Array.getElem?_eq_some_iff.1 h1).1]; exact h1
  · rw [decodeGo_list l hl]
open Go.Ph.Gr Go.Ph.Utf
abbrev encN (n : Nat) : Value := I (n : Int)
abbrev encSp (s : Int × Int × Int) : List Value := [.int .i32 s.1, .int .i32 s.2.1, I s.2.2]
abbrev chV (n : Int) (size : Nat) : Value := .agg #[I (cls n), .bool (decide (n < 0)), encN size]
theorem inSp_spec (c : Int) (v : Value) (sp : List (Int × Int × Int)) : Ct Tryz.prog 203 [.int .i32 c, v] (fun M => SlS M 3 encSp v sp) (fun r _ => r = .tuple #[I (inSp c sp).1, .bool (inSp c sp).2]) := by
  refine Ct.of Tryz.func203 (enters Tryz.func203 (by kernel_rfl) rfl) rfl rfl rfl ?_
  intro w0 M0 H hp
  refine SQ (RG (AS rfl rfl (AS rfl rfl (NL (TN (SQ (SQ (RG (MV rfl rfl (ST (Ex.lenSlS Tryz.underlying236 (by assumption) rfl) rfl ?_))))))))))
  refine MV rfl rfl (NL (TN (BL (WC.loop1 (fun (k : Nat) => [(0, .int .i32 c), (8, v), (9, I (sp.length : Int)), (10, I (k : Int))]) (fun (k : Nat) w => k ≤ sp.length ∧ inSp c sp = inSp c (sp.drop k) ∧ St w0 M0 M0 [] w) (fun (k : Nat) => sp.length - k) (0) ⟨rfl, rfl, rfl, rfl, trivial⟩ (⟨by omega, rfl, H⟩) ?_))))
  intro k w
  rintro ⟨hk, hin, H⟩
  have hshort : sp.length ≤ maxLen := by obtain ⟨_, A, c, _, h1, h2, _⟩ := hp; omega
  simp only [maxLen] at hshort
  refine SQ (RG ?_)
  refine WR.split (Ex.lss rfl rfl) (Wn.none rfl) rfl rfl (fun h2_0 => ?_) (fun h2_0 => ?_)
  · obtain ⟨⟨x0, x1, x2⟩, hx⟩ : ∃ x, sp[k]? = some x := ⟨_, List.getElem?_eq_getElem (by omega)⟩
    have hdrop : sp.drop k = (x0, x1, x2) :: sp.drop (k + 1) := by
      obtain ⟨h1, h2⟩ := List.getElem?_eq_some_iff.1 hx
      rw [List.drop_eq_getElem_cons h1, h2]
    refine NL (TN (SQ (CT rfl (SK (TN (SQ (BL (SQ (RG (WR.idxSlS Tryz.underlying236 Tryz.sizeOf232 (by assumption) rfl rfl (hx) (Wn.none rfl) rfl ?_))))))))))
    intro b12 o12 hc12
    first | refine WR.step (Ex.loadAgg H rfl (by repeat (first | exact List.Mem.head _ | apply List.Mem.tail)) Tryz.isAgg232 Tryz.sizeOf232 (by rfl)) (Wn.none rfl) rfl rfl ?_ | refine WR.step (Ex.loadAggM H rfl (by assumption) Tryz.isAgg232 Tryz.sizeOf232 (by rfl)) (Wn.none rfl) rfl rfl ?_
    refine WR.alloc [_, _, _] H Tryz.zeroValue232 rfl (Wn.none rfl) rfl ?_
    intro b7 w H
    refine WR.store [_, _, _] H rfl rfl rfl (by repeat first | exact .head | apply Upd.tail) Tryz.sizeOf232 rfl (by rfl) (by rfl) (Wn.none rfl) ?_
    intro w H
    refine NL (TN (SQ (RG (MV rfl rfl (ST (Ex.fieldAddr Tryz.underlying232 rfl Tryz.sizeOf21 (by decide) rfl) rfl ?_)))))
    first | refine WR.step (Ex.loadM H rfl (by assumption) Tryz.isAgg21) (Wn.none rfl) rfl rfl ?_ | refine WR.step (Ex.load1 H rfl (by repeat (first | exact List.Mem.head _ | apply List.Mem.tail)) Tryz.isAgg21 (by rfl)) (Wn.none rfl) rfl rfl ?_
    refine WR.split (Ex.geq rfl rfl) (Wn.none rfl) rfl rfl (fun h4_3 => ?_) (fun h4_3 => ?_)
    · refine MV rfl rfl (SG (Ex.move rfl) rfl rfl rfl (SG (Ex.fieldAddr Tryz.underlying232 rfl Tryz.sizeOf21 (by decide) rfl) rfl rfl rfl ?_))
      first | refine WR.step (Ex.loadM H rfl (by assumption) Tryz.isAgg21) (Wn.some rfl rfl rfl) rfl rfl ?_ | refine WR.step (Ex.load1 H rfl (by repeat (first | exact List.Mem.head _ | apply List.Mem.tail)) Tryz.isAgg21 (by rfl)) (Wn.some rfl rfl rfl) rfl rfl ?_
      refine WR.split (Ex.leq rfl rfl) (Wn.some rfl rfl rfl) rfl rfl (fun h4_8 => ?_) (fun h4_8 => ?_)
      · have hres : inSp c sp = (x2, true) := by rw [hin, hdrop, inSp, if_pos ⟨h4_3, h4_8⟩]
        refine PT rfl rfl rfl (NL (TN (CT rfl (SQ (RG (ST (Ex.fieldAddr Tryz.underlying232 rfl Tryz.sizeOf3 (by decide) rfl) rfl ?_))))))
        first | refine WR.step (Ex.loadM H rfl (by assumption) Tryz.isAgg3) (Wn.none rfl) rfl rfl ?_ | refine WR.step (Ex.load1 H rfl (by repeat (first | exact List.Mem.head _ | apply List.Mem.tail)) Tryz.isAgg3 (by rfl)) (Wn.none rfl) rfl rfl ?_
        refine AS rfl rfl (AS rfl rfl (NL (TN (RT ?_))))
        refine WQ.ret2 rfl rfl rfl H.ext ?_
        exact by rw [hres]
      · have hnext : inSp c (sp.drop k) = inSp c (sp.drop (k + 1)) := by rw [hdrop, inSp, if_neg (fun h => h4_8 h.2)]
        refine PT rfl rfl rfl (NL (TN (CF rfl (SK (IB (TN (RG (ST (Ex.add64 rfl rfl (by omega)) rfl ?_))))))))
        refine MV rfl rfl (NL ?_)
        refine WQ.again1 (k + 1) ⟨rfl, rfl, rfl, rfl, trivial⟩ ?_ ?_
        · exact ⟨by omega, hin.trans hnext, H.drop (List.nil_sublist _)⟩
        · omega
    · have hnext : inSp c (sp.drop k) = inSp c (sp.drop (k + 1)) := by rw [hdrop, inSp, if_neg (fun h => h4_3 h.1)]
      refine MV rfl rfl (GF rfl rfl rfl (GF rfl rfl rfl (GF rfl rfl rfl (GF rfl rfl rfl (PF rfl rfl rfl (NL (TN (CF rfl (SK (IB (TN (RG (ST (Ex.add64 rfl rfl (by omega)) rfl ?_)))))))))))))
      refine MV rfl rfl (NL ?_)
      refine WQ.again1 (k + 1) ⟨rfl, rfl, rfl, rfl, trivial⟩ ?_ ?_
      · exact ⟨by omega, hin.trans hnext, H.drop (List.nil_sublist _)⟩
      · omega
  · have hres : inSp c sp = (0, false) := by rw [hin, List.drop_eq_nil_of_le (by omega)]; rfl
    refine NL (TN (SQ (CF rfl (WC.exit (WQ.thenExit (WQ.thenExit (WQ.exitHere (TN (SQ (RG (AS rfl rfl (AS rfl rfl (NL (TN (RT ?_)))))))))))))))
    refine WQ.ret2 rfl rfl rfl H.ext ?_
    exact by rw [hres]
theorem classOf_spec (c : Int) : Ct Tryz.prog 184 [.int .i32 c] (fun _ => True) (fun r _ => r = I (cls c)) := by
  refine Ct.of Tryz.func184 (enters Tryz.func184 (by kernel_rfl) rfl) rfl rfl rfl ?_
  intro w0 M0 H hp
  refine SQ (RG (AS rfl rfl (NL (TN (SQ (RG (ST (Ex.build [_, _, _] Tryz.underlying232 Tryz.zeroValue232 (places232 Tryz.underlying232) rfl rfl) rfl (ST (Ex.build [_, _, _] Tryz.underlying232 Tryz.zeroValue232 (places232 Tryz.underlying232) rfl rfl) rfl (ST (Ex.build [_, _, _] Tryz.underlying232 Tryz.zeroValue232 (places232 Tryz.underlying232) rfl rfl) rfl (ST (Ex.build [_, _, _] Tryz.underlying232 Tryz.zeroValue232 (places232 Tryz.underlying232) rfl rfl) rfl (ST (Ex.build [_, _, _] Tryz.underlying232 Tryz.zeroValue232 (places232 Tryz.underlying232) rfl rfl) rfl (ST (Ex.build [_, _, _] Tryz.underlying232 Tryz.zeroValue232 (places232 Tryz.underlying232) rfl rfl) rfl (ST (Ex.build [_, _, _] Tryz.underlying232 Tryz.zeroValue232 (places232 Tryz.underlying232) rfl rfl) rfl (ST (Ex.build [_, _, _] Tryz.underlying232 Tryz.zeroValue232 (places232 Tryz.underlying232) rfl rfl) rfl (ST (Ex.build [_, _, _] Tryz.underlying232 Tryz.zeroValue232 (places232 Tryz.underlying232) rfl rfl) rfl ?_)))))))))))))))
  refine ST (Ex.build [_, _, _] Tryz.underlying232 Tryz.zeroValue232 (places232 Tryz.underlying232) rfl rfl) rfl (ST (Ex.build [_, _, _] Tryz.underlying232 Tryz.zeroValue232 (places232 Tryz.underlying232) rfl rfl) rfl (ST (Ex.build [_, _, _] Tryz.underlying232 Tryz.zeroValue232 (places232 Tryz.underlying232) rfl rfl) rfl (ST (Ex.build [_, _, _] Tryz.underlying232 Tryz.zeroValue232 (places232 Tryz.underlying232) rfl rfl) rfl (ST (Ex.build [_, _, _] Tryz.underlying232 Tryz.zeroValue232 (places232 Tryz.underlying232) rfl rfl) rfl (ST (Ex.build [_, _, _] Tryz.underlying232 Tryz.zeroValue232 (places232 Tryz.underlying232) rfl rfl) rfl (ST (Ex.build [_, _, _] Tryz.underlying232 Tryz.zeroValue232 (places232 Tryz.underlying232) rfl rfl) rfl (ST (Ex.buildArr (clsTab.flatMap encSp) Tryz.underlying233 Tryz.zeroValue233 Tryz.sizeOf232 rfl (by kernel_rfl)) rfl (WR.alloc [_, _, _, _, _, _, _, _, _, _, _, _, _, _, _, _, _, _, _, _, _, _, _, _, _, _, _, _, _, _, _, _, _, _, _, _, _, _, _, _, _, _, _, _, _, _, _, _] H Tryz.zeroValue233 rfl (Wn.none rfl) rfl ?_))))))))
  intro b3 w H
  refine WR.store (clsTab.flatMap encSp) H rfl rfl rfl (by repeat first | exact .head | apply Upd.tail) Tryz.sizeOf233 rfl rfl rfl (Wn.none rfl) ?_
  intro w H
  obtain ⟨M, hle, hM, H⟩ := H.freezeBlk (by repeat first | exact .head | apply Rem.tail)
  have ht : SlS M 3 encSp (.slice (some ⟨b3, 0, none⟩) 16 16) clsTab := SlS.ofBlk (l := clsTab) (fun _ => rfl) (by decide) hM
  refine NL (TN (SQ (RG (MV rfl rfl (ST (Ex.sliceArr Tryz.underlying233 Tryz.sizeOf232 rfl) rfl (WR.call H (inSp_spec _ _ clsTab) rfl (ht) (Wn.none rfl) rfl ?_))))))
  intro v26 M w H hle hr26
  obtain rfl := hr26
  refine MV rfl rfl (ST (Ex.extract rfl rfl) rfl (ST (Ex.extract rfl rfl) rfl (AS rfl rfl (AS rfl rfl (NL (TN (SQ (RG (MV rfl rfl (AS rfl rfl (NL (TN (RT ?_)))))))))))))
  refine WQ.ret1 rfl rfl H.ext ?_
  exact by rw [inSp_cls]
theorem first_spec (l : List UInt8) (hl : l ≠ []) : Ct Tryz.prog 155 [S l] (fun M => Tabs M) (fun r _ => r = chV (rune l).1 (rune l).2) := by
  refine Ct.of Tryz.func155 (enters Tryz.func155 (by kernel_rfl) rfl) rfl rfl rfl ?_
  intro w0 M0 H hp
  refine SQ (RG (WR.alloc [_, _, _] H Tryz.zeroValue180 rfl (Wn.none rfl) rfl ?_))
  intro b2 w H
  refine NL (TN (SQ (RG (MV rfl rfl (WR.call H (decode_spec _ hl) rfl (by assumption) (Wn.none rfl) rfl ?_)))))
  intro v7 M w H hle hr7
  replace hp := hp.mono hle
  obtain rfl := hr7
  refine MV rfl rfl (ST (Ex.extract rfl rfl) rfl (ST (Ex.extract rfl rfl) rfl (AS rfl rfl (AS rfl rfl (NL (TN (SQ (SQ (RG (MV rfl rfl ?_))))))))))
  refine WR.split (Ex.eql rfl rfl) (Wn.none rfl) rfl rfl (fun h2_1 => ?_) (fun h2_1 => ?_)
  · refine MV rfl rfl (SG (Ex.move rfl) rfl rfl rfl ?_)
    refine WR.split (Ex.eql rfl rfl) (Wn.some rfl rfl rfl) rfl rfl (fun h2_4 => ?_) (fun h2_4 => ?_)
    · have hb := first_bad l h2_1 h2_4
      refine PT rfl rfl rfl (NL (TN (CT rfl (SQ (RG (ST (Ex.build [_, _, _] Tryz.underlying180 Tryz.zeroValue180 (places180 Tryz.underlying180) rfl rfl) rfl (WR.store [_, _, _] H rfl rfl rfl (by repeat first | exact .head | apply Upd.tail) Tryz.sizeOf180 rfl (by rfl) (by rfl) (Wn.none rfl) ?_)))))))
      intro w H
      refine NL (TN (RT ?_))
      refine WQ.ret1 rfl ⟨_, rfl, H.loadAgg (by repeat (first | exact List.Mem.head _ | apply List.Mem.tail)) Tryz.isAgg180 Tryz.sizeOf180 (by rfl)⟩ H.ext ?_
      exact by rw [hb]; rfl
    · have ho := first_ok l (fun h => h2_4 h.2)
      refine PT rfl rfl rfl (NL (TN (CF rfl (SK (TN (SQ (RG (MV rfl rfl (WR.call H (classOf_spec _) rfl (trivial) (Wn.none rfl) rfl ?_)))))))))
      intro v18 M w H hle hr18
      replace hp := hp.mono hle
      obtain rfl := hr18
      refine MV rfl rfl (ST (Ex.build [_, _, _] Tryz.underlying180 Tryz.zeroValue180 (places180 Tryz.underlying180) rfl rfl) rfl (WR.store [_, _, _] H rfl rfl rfl (by repeat first | exact .head | apply Upd.tail) Tryz.sizeOf180 rfl (by rfl) (by rfl) (Wn.none rfl) ?_))
      intro w H
      refine NL (TN (RT ?_))
      refine WQ.ret1 rfl ⟨_, rfl, H.loadAgg (by repeat (first | exact List.Mem.head _ | apply List.Mem.tail)) Tryz.isAgg180 Tryz.sizeOf180 (by rfl)⟩ H.ext ?_
      exact by rw [ho.2.1, ho.2.2, show chV (rune l).1 (rune l).2 = .agg #[I (cls (rune l).1), .bool false, encN (rune l).2] by rw [chV, decide_eq_false (by omega)]]; rfl
  · have ho := first_ok l (fun h => h2_1 h.1)
    refine MV rfl rfl (GF rfl rfl rfl (GF rfl rfl rfl (PF rfl rfl rfl (NL (TN (CF rfl (SK (TN (SQ (RG (MV rfl rfl (WR.call H (classOf_spec _) rfl (trivial) (Wn.none rfl) rfl ?_))))))))))))
    intro v18 M w H hle hr18
    replace hp := hp.mono hle
    obtain rfl := hr18
    refine MV rfl rfl (ST (Ex.build [_, _, _] Tryz.underlying180 Tryz.zeroValue180 (places180 Tryz.underlying180) rfl rfl) rfl (WR.store [_, _, _] H rfl rfl rfl (by repeat first | exact .head | apply Upd.tail) Tryz.sizeOf180 rfl (by rfl) (by rfl) (Wn.none rfl) ?_))
    intro w H
    refine NL (TN (RT ?_))
    refine WQ.ret1 rfl ⟨_, rfl, H.loadAgg (by repeat (first | exact List.Mem.head _ | apply List.Mem.tail)) Tryz.isAgg180 Tryz.sizeOf180 (by rfl)⟩ H.ext ?_
    exact by rw [ho.2.1, ho.2.2, show chV (rune l).1 (rune l).2 = .agg #[I (cls (rune l).1), .bool false, encN (rune l).2] by rw [chV, decide_eq_false (by omega)]]; rfl
theorem hard_spec (k : Int) : Ct Tryz.prog 185 [I k] (fun _ => True) (fun r _ => r = .bool (decide (1 ≤ k ∧ k ≤ 3))) := by
  refine Ct.of Tryz.func185 (enters Tryz.func185 (by kernel_rfl) rfl) rfl rfl rfl ?_
  intro w0 M0 H hp
  refine SQ (RG (AS rfl rfl (NL (TN (SQ (RG (MV rfl rfl ?_)))))))
  refine WR.split (Ex.eql rfl rfl) (Wn.none rfl) rfl rfl (fun h1_1 => ?_) (fun h1_1 => ?_)
  · refine MV rfl rfl (GT rfl rfl rfl (GT rfl rfl rfl (PT rfl rfl rfl (MV rfl rfl (GT rfl rfl rfl (GT rfl rfl rfl (PT rfl rfl rfl (AS rfl rfl (NL (TN (RT ?_)))))))))))
    refine WQ.ret1 rfl rfl H.ext (congrArg Value.bool ?_)
    first | rfl | exact (decide_eq_true (by omega)).symm | exact (decide_eq_false (by omega)).symm | exact decide_eq_decide.2 (by omega) | (exfalso; omega)
  · refine MV rfl rfl (SG (Ex.move rfl) rfl rfl rfl ?_)
    refine WR.split (Ex.eql rfl rfl) (Wn.some rfl rfl rfl) rfl rfl (fun h1_4 => ?_) (fun h1_4 => ?_)
    · refine PF rfl rfl rfl (MV rfl rfl (GT rfl rfl rfl (GT rfl rfl rfl (PT rfl rfl rfl (AS rfl rfl (NL (TN (RT ?_))))))))
      refine WQ.ret1 rfl rfl H.ext (congrArg Value.bool ?_)
      first | rfl | exact (decide_eq_true (by omega)).symm | exact (decide_eq_false (by omega)).symm | exact decide_eq_decide.2 (by omega) | (exfalso; omega)
    · refine PF rfl rfl rfl (MV rfl rfl (SG (Ex.move rfl) rfl rfl rfl (SG (Ex.eql rfl rfl) rfl rfl rfl (PF rfl rfl rfl (AS rfl rfl (NL (TN (RT ?_))))))))
      refine WQ.ret1 rfl rfl H.ext (congrArg Value.bool ?_)
      first | rfl | exact (decide_eq_true (by omega)).symm | exact (decide_eq_false (by omega)).symm | exact decide_eq_decide.2 (by omega) | (exfalso; omega)
theorem con_eq (a b : Int) (fl : Nat) : con a b fl = if a < 0 ∨ b < 0 then false else contC (cls a) (cls b) (fl : Int) := rfl
set_option maxHeartbeats 1000000 in
theorem cont_spec (a b : Int) (sa sb fl : Nat) : Ct Tryz.prog 156 [chV a sa, chV b sb, encN fl] (fun _ => True) (fun r _ => r = .bool (con a b fl)) := by
  refine Ct.of Tryz.func156 (enters Tryz.func156 (by kernel_rfl) rfl) rfl rfl rfl ?_
  intro w0 M0 H hp
  refine SQ (RG (WR.box [_, _, _] H rfl rfl (Wn.none rfl) rfl ?_))
  intro b3 w H
  refine WR.box [_, _, _] H rfl rfl (Wn.none rfl) rfl ?_
  intro b4 w H
  refine AS rfl rfl (NL (TN (SQ (RG (AS rfl rfl (NL (TN (SQ (BL (SQ (RG (ST (Ex.fieldAddr Tryz.underlying180 rfl Tryz.sizeOf4 (by decide) rfl) rfl ?_))))))))))))
  refine WR.splitB (Ex.load1 H rfl (by repeat (first | exact List.Mem.head _ | apply List.Mem.tail)) Tryz.isAgg4 (by rfl)) (Wn.none rfl) rfl rfl (fun h2_1 => ?_) (fun h2_1 => ?_)
  · replace h2_1 := of_decide_eq_true h2_1
    refine MV rfl rfl (GT rfl rfl rfl (GT rfl rfl rfl (PT rfl rfl rfl (AS rfl rfl (NL (TN (CT rfl (SQ (RG (AS rfl rfl (NL (TN (RT ?_)))))))))))))
    refine WQ.ret1 rfl rfl H.ext (congrArg Value.bool ?_)
    rw [con_eq, if_pos (by omega)]
  · replace h2_1 := of_decide_eq_false h2_1
    refine MV rfl rfl (SG (Ex.fieldAddr Tryz.underlying180 rfl Tryz.sizeOf4 (by decide) rfl) rfl rfl rfl ?_)
    refine WR.splitB (Ex.load1 H rfl (by repeat (first | exact List.Mem.head _ | apply List.Mem.tail)) Tryz.isAgg4 (by rfl)) (Wn.some rfl rfl rfl) rfl rfl (fun h2_4 => ?_) (fun h2_4 => ?_)
    · replace h2_4 := of_decide_eq_true h2_4
      refine PF rfl rfl rfl (AS rfl rfl (NL (TN (CT rfl (SQ (RG (AS rfl rfl (NL (TN (RT ?_))))))))))
      refine WQ.ret1 rfl rfl H.ext (congrArg Value.bool ?_)
      rw [con_eq, if_pos (by omega)]
    · replace h2_4 := of_decide_eq_false h2_4
      refine PF rfl rfl rfl (AS rfl rfl (NL (TN (CF rfl (SQ (RG (ST (Ex.fieldAddr Tryz.underlying180 rfl Tryz.sizeOf3 (by decide) rfl) rfl ?_)))))))
      first | refine WR.step (Ex.loadM H rfl (by assumption) Tryz.isAgg3) (Wn.none rfl) rfl rfl ?_ | refine WR.step (Ex.load1 H rfl (by repeat (first | exact List.Mem.head _ | apply List.Mem.tail)) Tryz.isAgg3 (by rfl)) (Wn.none rfl) rfl rfl ?_
      refine WR.split (Ex.eql rfl rfl) (Wn.none rfl) rfl rfl (fun h4_2 => ?_) (fun h4_2 => ?_)
      · refine MV rfl rfl (SG (Ex.fieldAddr Tryz.underlying180 rfl Tryz.sizeOf3 (by decide) rfl) rfl rfl rfl ?_)
        first | refine WR.step (Ex.loadM H rfl (by assumption) Tryz.isAgg3) (Wn.some rfl rfl rfl) rfl rfl ?_ | refine WR.step (Ex.load1 H rfl (by repeat (first | exact List.Mem.head _ | apply List.Mem.tail)) Tryz.isAgg3 (by rfl)) (Wn.some rfl rfl rfl) rfl rfl ?_
        refine WR.split (Ex.eql rfl rfl) (Wn.some rfl rfl rfl) rfl rfl (fun h4_6 => ?_) (fun h4_6 => ?_)
        · refine PT rfl rfl rfl (AS rfl rfl (NL (TN (CT rfl (SQ (RG (AS rfl rfl (NL (TN (RT ?_))))))))))
          refine WQ.ret1 rfl rfl H.ext (congrArg Value.bool ?_)
          rw [con_eq, if_neg (by omega)]
          unfold contC
          rw [if_pos (by omega)]
        · refine PT rfl rfl rfl (AS rfl rfl (NL (TN (CF rfl (SQ (RG (MV rfl rfl (ST (Ex.fieldAddr Tryz.underlying180 rfl Tryz.sizeOf3 (by decide) rfl) rfl ?_))))))))
          first | refine WR.step (Ex.loadM H rfl (by assumption) Tryz.isAgg3) (Wn.none rfl) rfl rfl ?_ | refine WR.step (Ex.load1 H rfl (by repeat (first | exact List.Mem.head _ | apply List.Mem.tail)) Tryz.isAgg3 (by rfl)) (Wn.none rfl) rfl rfl ?_
          by_cases h6_3 : 1 ≤ cls a ∧ cls a ≤ 3
          · refine WR.callV (cap := []) H (Ct.mono (hard_spec _) (R' := fun r _ => r = .bool true) (fun _ _ h => h.trans (congrArg Value.bool (decide_eq_true h6_3)))) rfl rfl (trivial) (Wn.none rfl) rfl ?_
            intro v28 M w H hle hr28
            obtain rfl := hr28
            refine MV rfl rfl (GT rfl rfl rfl (GT rfl rfl rfl (GT rfl rfl rfl (GT rfl rfl rfl (PT rfl rfl rfl (AS rfl rfl (NL (TN (CT rfl (SQ (RG (AS rfl rfl (NL (TN (RT ?_)))))))))))))))
            refine WQ.ret1 rfl rfl H.ext (congrArg Value.bool ?_)
            rw [con_eq, if_neg (by omega)]
            unfold contC
            rw [if_neg (by omega)]
            rw [if_pos (by omega)]
          · refine WR.callV (cap := []) H (Ct.mono (hard_spec _) (R' := fun r _ => r = .bool false) (fun _ _ h => h.trans (congrArg Value.bool (decide_eq_false h6_3)))) rfl rfl (trivial) (Wn.none rfl) rfl ?_
            intro v28 M w H hle hr28
            obtain rfl := hr28
            refine MV rfl rfl (SG (Ex.move rfl) rfl rfl rfl (SG (Ex.fieldAddr Tryz.underlying180 rfl Tryz.sizeOf3 (by decide) rfl) rfl rfl rfl ?_))
            first | refine WR.step (Ex.loadM H rfl (by assumption) Tryz.isAgg3) (Wn.some rfl rfl rfl) rfl rfl ?_ | refine WR.step (Ex.load1 H rfl (by repeat (first | exact List.Mem.head _ | apply List.Mem.tail)) Tryz.isAgg3 (by rfl)) (Wn.some rfl rfl rfl) rfl rfl ?_
            by_cases h6_8 : 1 ≤ cls b ∧ cls b ≤ 3
            · refine WR.callV (cap := []) H (Ct.mono (hard_spec _) (R' := fun r _ => r = .bool true) (fun _ _ h => h.trans (congrArg Value.bool (decide_eq_true h6_8)))) rfl rfl (trivial) (Wn.some rfl rfl rfl) rfl ?_
              intro v33 M w H hle hr33
              obtain rfl := hr33
              refine PF rfl rfl rfl (AS rfl rfl (NL (TN (CT rfl (SQ (RG (AS rfl rfl (NL (TN (RT ?_))))))))))
              refine WQ.ret1 rfl rfl H.ext (congrArg Value.bool ?_)
              rw [con_eq, if_neg (by omega)]
              unfold contC
              rw [if_neg (by omega)]
              rw [if_pos (by omega)]
            · refine WR.callV (cap := []) H (Ct.mono (hard_spec _) (R' := fun r _ => r = .bool false) (fun _ _ h => h.trans (congrArg Value.bool (decide_eq_false h6_8)))) rfl rfl (trivial) (Wn.some rfl rfl rfl) rfl ?_
              intro v33 M w H hle hr33
              obtain rfl := hr33
              refine PF rfl rfl rfl (AS rfl rfl (NL (TN (CF rfl (SQ (RG (ST (Ex.fieldAddr Tryz.underlying180 rfl Tryz.sizeOf3 (by decide) rfl) rfl ?_)))))))
              first | refine WR.step (Ex.loadM H rfl (by assumption) Tryz.isAgg3) (Wn.none rfl) rfl rfl ?_ | refine WR.step (Ex.load1 H rfl (by repeat (first | exact List.Mem.head _ | apply List.Mem.tail)) Tryz.isAgg3 (by rfl)) (Wn.none rfl) rfl rfl ?_
              refine WR.split (Ex.eql rfl rfl) (Wn.none rfl) rfl rfl (fun h8_2 => ?_) (fun h8_2 => ?_)
              · refine MV rfl rfl (GT rfl rfl rfl (GT rfl rfl rfl (GT rfl rfl rfl (PT rfl rfl rfl (AS rfl rfl (NL (TN (CT rfl (SQ (RG (AS rfl rfl (NL (TN (RT ?_))))))))))))))
                refine WQ.ret1 rfl rfl H.ext (congrArg Value.bool ?_)
                rw [con_eq, if_neg (by omega)]
                unfold contC
                rw [if_neg (by omega)]
                rw [if_neg (by omega)]
                rw [if_pos (by omega)]
              · refine MV rfl rfl (SG (Ex.fieldAddr Tryz.underlying180 rfl Tryz.sizeOf3 (by decide) rfl) rfl rfl rfl ?_)
                first | refine WR.step (Ex.loadM H rfl (by assumption) Tryz.isAgg3) (Wn.some rfl rfl rfl) rfl rfl ?_ | refine WR.step (Ex.load1 H rfl (by repeat (first | exact List.Mem.head _ | apply List.Mem.tail)) Tryz.isAgg3 (by rfl)) (Wn.some rfl rfl rfl) rfl rfl ?_
                refine WR.split (Ex.eql rfl rfl) (Wn.some rfl rfl rfl) rfl rfl (fun h8_6 => ?_) (fun h8_6 => ?_)
                · refine PF rfl rfl rfl (AS rfl rfl (NL (TN (CT rfl (SQ (RG (AS rfl rfl (NL (TN (RT ?_))))))))))
                  refine WQ.ret1 rfl rfl H.ext (congrArg Value.bool ?_)
                  rw [con_eq, if_neg (by omega)]
                  unfold contC
                  rw [if_neg (by omega)]
                  rw [if_neg (by omega)]
                  rw [if_pos (by omega)]
                · refine PF rfl rfl rfl (AS rfl rfl (NL (TN (CF rfl (SQ (RG (ST (Ex.fieldAddr Tryz.underlying180 rfl Tryz.sizeOf3 (by decide) rfl) rfl ?_)))))))
                  first | refine WR.step (Ex.loadM H rfl (by assumption) Tryz.isAgg3) (Wn.none rfl) rfl rfl ?_ | refine WR.step (Ex.load1 H rfl (by repeat (first | exact List.Mem.head _ | apply List.Mem.tail)) Tryz.isAgg3 (by rfl)) (Wn.none rfl) rfl rfl ?_
                  refine WR.split (Ex.eql rfl rfl) (Wn.none rfl) rfl rfl (fun h10_2 => ?_) (fun h10_2 => ?_)
                  · refine AS rfl rfl (NL (TN (CT rfl (SQ (RG (ST (Ex.fieldAddr Tryz.underlying180 rfl Tryz.sizeOf3 (by decide) rfl) rfl ?_))))))
                    first | refine WR.step (Ex.loadM H rfl (by assumption) Tryz.isAgg3) (Wn.none rfl) rfl rfl ?_ | refine WR.step (Ex.load1 H rfl (by repeat (first | exact List.Mem.head _ | apply List.Mem.tail)) Tryz.isAgg3 (by rfl)) (Wn.none rfl) rfl rfl ?_
                    refine ST (Ex.eql rfl rfl) rfl (AS rfl rfl (NL (TN (RT ?_))))
                    refine WQ.ret1 rfl rfl H.ext (congrArg Value.bool ?_)
                    rw [con_eq, if_neg (by omega)]
                    unfold contC
                    rw [if_neg (by omega)]
                    rw [if_neg (by omega)]
                    rw [if_neg (by omega)]
                    rw [if_pos (by omega)]
                  · refine AS rfl rfl (NL (TN (CF rfl (SQ (RG (ST (Ex.fieldAddr Tryz.underlying180 rfl Tryz.sizeOf3 (by decide) rfl) rfl ?_))))))
                    first | refine WR.step (Ex.loadM H rfl (by assumption) Tryz.isAgg3) (Wn.none rfl) rfl rfl ?_ | refine WR.step (Ex.load1 H rfl (by repeat (first | exact List.Mem.head _ | apply List.Mem.tail)) Tryz.isAgg3 (by rfl)) (Wn.none rfl) rfl rfl ?_
                    refine WR.split (Ex.eql rfl rfl) (Wn.none rfl) rfl rfl (fun h12_2 => ?_) (fun h12_2 => ?_)
                    · refine AS rfl rfl (NL (TN (CT rfl (SQ (RG (MV rfl rfl (ST (Ex.rem64 rfl rfl (by first | omega | exact ⟨Int.natCast_nonneg _, by decide⟩)) rfl ?_)))))))
                      refine ST (Ex.eql rfl rfl) rfl (AS rfl rfl (NL (TN (RT ?_))))
                      refine WQ.ret1 rfl rfl H.ext (congrArg Value.bool ?_)
                      rw [con_eq, if_neg (by omega)]
                      unfold contC
                      rw [if_neg (by omega)]
                      rw [if_neg (by omega)]
                      rw [if_neg (by omega)]
                      rw [if_neg (by omega)]
                      rw [if_pos (by omega)]
                    · refine AS rfl rfl (NL (TN (CF rfl (SK (IB (TN (SQ (RG (ST (Ex.fieldAddr Tryz.underlying180 rfl Tryz.sizeOf3 (by decide) rfl) rfl ?_)))))))))
                      first | refine WR.step (Ex.loadM H rfl (by assumption) Tryz.isAgg3) (Wn.none rfl) rfl rfl ?_ | refine WR.step (Ex.load1 H rfl (by repeat (first | exact List.Mem.head _ | apply List.Mem.tail)) Tryz.isAgg3 (by rfl)) (Wn.none rfl) rfl rfl ?_
                      refine WR.split (Ex.eql rfl rfl) (Wn.none rfl) rfl rfl (fun h14_2 => ?_) (fun h14_2 => ?_)
                      · refine MV rfl rfl (SG (Ex.fieldAddr Tryz.underlying180 rfl Tryz.sizeOf3 (by decide) rfl) rfl rfl rfl ?_)
                        first | refine WR.step (Ex.loadM H rfl (by assumption) Tryz.isAgg3) (Wn.some rfl rfl rfl) rfl rfl ?_ | refine WR.step (Ex.load1 H rfl (by repeat (first | exact List.Mem.head _ | apply List.Mem.tail)) Tryz.isAgg3 (by rfl)) (Wn.some rfl rfl rfl) rfl rfl ?_
                        refine WR.split (Ex.eql rfl rfl) (Wn.some rfl rfl rfl) rfl rfl (fun h14_6 => ?_) (fun h14_6 => ?_)
                        · refine SG (Ex.move rfl) rfl rfl rfl (GT rfl rfl rfl (GT rfl rfl rfl (GT rfl rfl rfl (SG (Ex.pickT rfl rfl) rfl rfl rfl (PT rfl rfl rfl (MV rfl rfl (GT rfl rfl rfl (GT rfl rfl rfl (GT rfl rfl rfl (GT rfl rfl rfl (GU rfl rfl rfl (GU rfl rfl rfl (GU rfl rfl rfl (GU rfl rfl rfl (GU rfl rfl rfl (GU rfl rfl rfl (GU rfl rfl rfl (GU rfl rfl rfl (GT rfl rfl rfl (PT rfl rfl rfl (MV rfl rfl (GT rfl rfl rfl (GT rfl rfl rfl (GT rfl rfl rfl (GT rfl rfl rfl (GU rfl rfl rfl (GU rfl rfl rfl (GU rfl rfl rfl (GT rfl rfl rfl (PT rfl rfl rfl (AS rfl rfl (NL (TN (RT ?_))))))))))))))))))))))))))))))))))
                          refine WQ.ret1 rfl rfl H.ext (congrArg Value.bool ?_)
                          rw [con_eq, if_neg (by omega)]
                          unfold contC
                          rw [if_neg (by omega)]
                          rw [if_neg (by omega)]
                          rw [if_neg (by omega)]
                          rw [if_neg (by omega)]
                          rw [if_neg (by omega)]
                          first | rfl | exact (decide_eq_true (by omega)).symm | exact (decide_eq_false (by omega)).symm | exact decide_eq_decide.2 (by omega) | (exfalso; omega)
                        · refine SG (Ex.move rfl) rfl rfl rfl (SG (Ex.fieldAddr Tryz.underlying180 rfl Tryz.sizeOf3 (by decide) rfl) rfl rfl rfl ?_)
                          first | refine WR.step (Ex.loadM H rfl (by assumption) Tryz.isAgg3) (Wn.some rfl rfl rfl) rfl rfl ?_ | refine WR.step (Ex.load1 H rfl (by repeat (first | exact List.Mem.head _ | apply List.Mem.tail)) Tryz.isAgg3 (by rfl)) (Wn.some rfl rfl rfl) rfl rfl ?_
                          refine WR.split (Ex.eql rfl rfl) (Wn.some rfl rfl rfl) rfl rfl (fun h14_10 => ?_) (fun h14_10 => ?_)
                          · refine SG (Ex.pickF rfl rfl) rfl rfl rfl (PT rfl rfl rfl (MV rfl rfl (GT rfl rfl rfl (GT rfl rfl rfl (GT rfl rfl rfl (GT rfl rfl rfl (GU rfl rfl rfl (GU rfl rfl rfl (GU rfl rfl rfl (GU rfl rfl rfl (GU rfl rfl rfl (GU rfl rfl rfl (GU rfl rfl rfl (GU rfl rfl rfl (GT rfl rfl rfl (PT rfl rfl rfl (MV rfl rfl (GT rfl rfl rfl (GT rfl rfl rfl (GT rfl rfl rfl (GT rfl rfl rfl (GU rfl rfl rfl (GU rfl rfl rfl (GU rfl rfl rfl (GT rfl rfl rfl (PT rfl rfl rfl (AS rfl rfl (NL (TN (RT ?_))))))))))))))))))))))))))))))
                            refine WQ.ret1 rfl rfl H.ext (congrArg Value.bool ?_)
                            rw [con_eq, if_neg (by omega)]
                            unfold contC
                            rw [if_neg (by omega)]
                            rw [if_neg (by omega)]
                            rw [if_neg (by omega)]
                            rw [if_neg (by omega)]
                            rw [if_neg (by omega)]
                            first | rfl | exact (decide_eq_true (by omega)).symm | exact (decide_eq_false (by omega)).symm | exact decide_eq_decide.2 (by omega) | (exfalso; omega)
                          · refine SG (Ex.pickF rfl rfl) rfl rfl rfl (PT rfl rfl rfl (MV rfl rfl (SG (Ex.fieldAddr Tryz.underlying180 rfl Tryz.sizeOf3 (by decide) rfl) rfl rfl rfl ?_)))
                            first | refine WR.step (Ex.loadM H rfl (by assumption) Tryz.isAgg3) (Wn.some rfl rfl rfl) rfl rfl ?_ | refine WR.step (Ex.load1 H rfl (by repeat (first | exact List.Mem.head _ | apply List.Mem.tail)) Tryz.isAgg3 (by rfl)) (Wn.some rfl rfl rfl) rfl rfl ?_
                            refine WR.split (Ex.eql rfl rfl) (Wn.some rfl rfl rfl) rfl rfl (fun h14_16 => ?_) (fun h14_16 => ?_)
                            · refine SG (Ex.move rfl) rfl rfl rfl (SG (Ex.fieldAddr Tryz.underlying180 rfl Tryz.sizeOf3 (by decide) rfl) rfl rfl rfl ?_)
                              first | refine WR.step (Ex.loadM H rfl (by assumption) Tryz.isAgg3) (Wn.some rfl rfl rfl) rfl rfl ?_ | refine WR.step (Ex.load1 H rfl (by repeat (first | exact List.Mem.head _ | apply List.Mem.tail)) Tryz.isAgg3 (by rfl)) (Wn.some rfl rfl rfl) rfl rfl ?_
                              refine WR.split (Ex.eql rfl rfl) (Wn.some rfl rfl rfl) rfl rfl (fun h14_20 => ?_) (fun h14_20 => ?_)
                              · refine SG (Ex.move rfl) rfl rfl rfl (GT rfl rfl rfl (GT rfl rfl rfl (GT rfl rfl rfl (SG (Ex.pickT rfl rfl) rfl rfl rfl (SG (Ex.pickT rfl rfl) rfl rfl rfl (PF rfl rfl rfl (MV rfl rfl (GT rfl rfl rfl (GT rfl rfl rfl (GT rfl rfl rfl (GT rfl rfl rfl (GU rfl rfl rfl (GU rfl rfl rfl (GU rfl rfl rfl (GT rfl rfl rfl (PT rfl rfl rfl (AS rfl rfl (NL (TN (RT ?_))))))))))))))))))))
                                refine WQ.ret1 rfl rfl H.ext (congrArg Value.bool ?_)
                                rw [con_eq, if_neg (by omega)]
                                unfold contC
                                rw [if_neg (by omega)]
                                rw [if_neg (by omega)]
                                rw [if_neg (by omega)]
                                rw [if_neg (by omega)]
                                rw [if_neg (by omega)]
                                first | rfl | exact (decide_eq_true (by omega)).symm | exact (decide_eq_false (by omega)).symm | exact decide_eq_decide.2 (by omega) | (exfalso; omega)
                              · refine SG (Ex.move rfl) rfl rfl rfl (SG (Ex.fieldAddr Tryz.underlying180 rfl Tryz.sizeOf3 (by decide) rfl) rfl rfl rfl ?_)
                                first | refine WR.step (Ex.loadM H rfl (by assumption) Tryz.isAgg3) (Wn.some rfl rfl rfl) rfl rfl ?_ | refine WR.step (Ex.load1 H rfl (by repeat (first | exact List.Mem.head _ | apply List.Mem.tail)) Tryz.isAgg3 (by rfl)) (Wn.some rfl rfl rfl) rfl rfl ?_
                                refine WR.split (Ex.eql rfl rfl) (Wn.some rfl rfl rfl) rfl rfl (fun h14_24 => ?_) (fun h14_24 => ?_)
                                · refine SG (Ex.pickF rfl rfl) rfl rfl rfl (SG (Ex.pickT rfl rfl) rfl rfl rfl (PF rfl rfl rfl (MV rfl rfl (GT rfl rfl rfl (GT rfl rfl rfl (GT rfl rfl rfl (GT rfl rfl rfl (GU rfl rfl rfl (GU rfl rfl rfl (GU rfl rfl rfl (GT rfl rfl rfl (PT rfl rfl rfl (AS rfl rfl (NL (TN (RT ?_))))))))))))))))
                                  refine WQ.ret1 rfl rfl H.ext (congrArg Value.bool ?_)
                                  rw [con_eq, if_neg (by omega)]
                                  unfold contC
                                  rw [if_neg (by omega)]
                                  rw [if_neg (by omega)]
                                  rw [if_neg (by omega)]
                                  rw [if_neg (by omega)]
                                  rw [if_neg (by omega)]
                                  first | rfl | exact (decide_eq_true (by omega)).symm | exact (decide_eq_false (by omega)).symm | exact decide_eq_decide.2 (by omega) | (exfalso; omega)
                                · refine SG (Ex.pickF rfl rfl) rfl rfl rfl (SG (Ex.pickT rfl rfl) rfl rfl rfl (PF rfl rfl rfl (MV rfl rfl (SG (Ex.fieldAddr Tryz.underlying180 rfl Tryz.sizeOf3 (by decide) rfl) rfl rfl rfl ?_))))
                                  first | refine WR.step (Ex.loadM H rfl (by assumption) Tryz.isAgg3) (Wn.some rfl rfl rfl) rfl rfl ?_ | refine WR.step (Ex.load1 H rfl (by repeat (first | exact List.Mem.head _ | apply List.Mem.tail)) Tryz.isAgg3 (by rfl)) (Wn.some rfl rfl rfl) rfl rfl ?_
                                  refine WR.split (Ex.eql rfl rfl) (Wn.some rfl rfl rfl) rfl rfl (fun h14_31 => ?_) (fun h14_31 => ?_)
                                  · refine SG (Ex.move rfl) rfl rfl rfl (SG (Ex.fieldAddr Tryz.underlying180 rfl Tryz.sizeOf3 (by decide) rfl) rfl rfl rfl ?_)
                                    first | refine WR.step (Ex.loadM H rfl (by assumption) Tryz.isAgg3) (Wn.some rfl rfl rfl) rfl rfl ?_ | refine WR.step (Ex.load1 H rfl (by repeat (first | exact List.Mem.head _ | apply List.Mem.tail)) Tryz.isAgg3 (by rfl)) (Wn.some rfl rfl rfl) rfl rfl ?_
                                    refine SG (Ex.eql rfl rfl) rfl rfl rfl (SG (Ex.pickT rfl rfl) rfl rfl rfl (PF rfl rfl rfl (AS rfl rfl (NL (TN (RT ?_))))))
                                    refine WQ.ret1 rfl rfl H.ext (congrArg Value.bool ?_)
                                    rw [con_eq, if_neg (by omega)]
                                    unfold contC
                                    rw [if_neg (by omega)]
                                    rw [if_neg (by omega)]
                                    rw [if_neg (by omega)]
                                    rw [if_neg (by omega)]
                                    rw [if_neg (by omega)]
                                    first | rfl | exact (decide_eq_true (by omega)).symm | exact (decide_eq_false (by omega)).symm | exact decide_eq_decide.2 (by omega) | (exfalso; omega)
                                  · refine SG (Ex.move rfl) rfl rfl rfl (GF rfl rfl rfl (GF rfl rfl rfl (GF rfl rfl rfl (SG (Ex.pickF rfl rfl) rfl rfl rfl (PF rfl rfl rfl (AS rfl rfl (NL (TN (RT ?_)))))))))
                                    refine WQ.ret1 rfl rfl H.ext (congrArg Value.bool ?_)
                                    rw [con_eq, if_neg (by omega)]
                                    unfold contC
                                    rw [if_neg (by omega)]
                                    rw [if_neg (by omega)]
                                    rw [if_neg (by omega)]
                                    rw [if_neg (by omega)]
                                    rw [if_neg (by omega)]
                                    first | rfl | exact (decide_eq_true (by omega)).symm | exact (decide_eq_false (by omega)).symm | exact decide_eq_decide.2 (by omega) | (exfalso; omega)
                            · refine SG (Ex.move rfl) rfl rfl rfl (GF rfl rfl rfl (GF rfl rfl rfl (GF rfl rfl rfl (GF rfl rfl rfl (GU rfl rfl rfl (GU rfl rfl rfl (GU rfl rfl rfl (GF rfl rfl rfl (SG (Ex.pickF rfl rfl) rfl rfl rfl (PF rfl rfl rfl (MV rfl rfl (SG (Ex.fieldAddr Tryz.underlying180 rfl Tryz.sizeOf3 (by decide) rfl) rfl rfl rfl ?_))))))))))))
                              first | refine WR.step (Ex.loadM H rfl (by assumption) Tryz.isAgg3) (Wn.some rfl rfl rfl) rfl rfl ?_ | refine WR.step (Ex.load1 H rfl (by repeat (first | exact List.Mem.head _ | apply List.Mem.tail)) Tryz.isAgg3 (by rfl)) (Wn.some rfl rfl rfl) rfl rfl ?_
                              refine WR.split (Ex.eql rfl rfl) (Wn.some rfl rfl rfl) rfl rfl (fun h14_31 => ?_) (fun h14_31 => ?_)
                              · refine SG (Ex.move rfl) rfl rfl rfl (SG (Ex.fieldAddr Tryz.underlying180 rfl Tryz.sizeOf3 (by decide) rfl) rfl rfl rfl ?_)
                                first | refine WR.step (Ex.loadM H rfl (by assumption) Tryz.isAgg3) (Wn.some rfl rfl rfl) rfl rfl ?_ | refine WR.step (Ex.load1 H rfl (by repeat (first | exact List.Mem.head _ | apply List.Mem.tail)) Tryz.isAgg3 (by rfl)) (Wn.some rfl rfl rfl) rfl rfl ?_
                                refine SG (Ex.eql rfl rfl) rfl rfl rfl (SG (Ex.pickT rfl rfl) rfl rfl rfl (PF rfl rfl rfl (AS rfl rfl (NL (TN (RT ?_))))))
                                refine WQ.ret1 rfl rfl H.ext (congrArg Value.bool ?_)
                                rw [con_eq, if_neg (by omega)]
                                unfold contC
                                rw [if_neg (by omega)]
                                rw [if_neg (by omega)]
                                rw [if_neg (by omega)]
                                rw [if_neg (by omega)]
                                rw [if_neg (by omega)]
                                first | rfl | exact (decide_eq_true (by omega)).symm | exact (decide_eq_false (by omega)).symm | exact decide_eq_decide.2 (by omega) | (exfalso; omega)
                              · refine SG (Ex.move rfl) rfl rfl rfl (GF rfl rfl rfl (GF rfl rfl rfl (GF rfl rfl rfl (SG (Ex.pickF rfl rfl) rfl rfl rfl (PF rfl rfl rfl (AS rfl rfl (NL (TN (RT ?_)))))))))
                                refine WQ.ret1 rfl rfl H.ext (congrArg Value.bool ?_)
                                rw [con_eq, if_neg (by omega)]
                                unfold contC
                                rw [if_neg (by omega)]
                                rw [if_neg (by omega)]
                                rw [if_neg (by omega)]
                                rw [if_neg (by omega)]
                                rw [if_neg (by omega)]
                                first | rfl | exact (decide_eq_true (by omega)).symm | exact (decide_eq_false (by omega)).symm | exact decide_eq_decide.2 (by omega) | (exfalso; omega)
                      · refine MV rfl rfl (GF rfl rfl rfl (GF rfl rfl rfl (GF rfl rfl rfl (GF rfl rfl rfl (GU rfl rfl rfl (GU rfl rfl rfl (GU rfl rfl rfl (GF rfl rfl rfl (PF rfl rfl rfl (MV rfl rfl (SG (Ex.fieldAddr Tryz.underlying180 rfl Tryz.sizeOf3 (by decide) rfl) rfl rfl rfl ?_)))))))))))
                        first | refine WR.step (Ex.loadM H rfl (by assumption) Tryz.isAgg3) (Wn.some rfl rfl rfl) rfl rfl ?_ | refine WR.step (Ex.load1 H rfl (by repeat (first | exact List.Mem.head _ | apply List.Mem.tail)) Tryz.isAgg3 (by rfl)) (Wn.some rfl rfl rfl) rfl rfl ?_
                        refine WR.split (Ex.eql rfl rfl) (Wn.some rfl rfl rfl) rfl rfl (fun h14_16 => ?_) (fun h14_16 => ?_)
                        · refine SG (Ex.move rfl) rfl rfl rfl (SG (Ex.fieldAddr Tryz.underlying180 rfl Tryz.sizeOf3 (by decide) rfl) rfl rfl rfl ?_)
                          first | refine WR.step (Ex.loadM H rfl (by assumption) Tryz.isAgg3) (Wn.some rfl rfl rfl) rfl rfl ?_ | refine WR.step (Ex.load1 H rfl (by repeat (first | exact List.Mem.head _ | apply List.Mem.tail)) Tryz.isAgg3 (by rfl)) (Wn.some rfl rfl rfl) rfl rfl ?_
                          refine WR.split (Ex.eql rfl rfl) (Wn.some rfl rfl rfl) rfl rfl (fun h14_20 => ?_) (fun h14_20 => ?_)
                          · refine SG (Ex.move rfl) rfl rfl rfl (GT rfl rfl rfl (GT rfl rfl rfl (GT rfl rfl rfl (SG (Ex.pickT rfl rfl) rfl rfl rfl (SG (Ex.pickT rfl rfl) rfl rfl rfl (PF rfl rfl rfl (MV rfl rfl (GT rfl rfl rfl (GT rfl rfl rfl (GT rfl rfl rfl (GT rfl rfl rfl (GU rfl rfl rfl (GU rfl rfl rfl (GU rfl rfl rfl (GT rfl rfl rfl (PT rfl rfl rfl (AS rfl rfl (NL (TN (RT ?_))))))))))))))))))))
                            refine WQ.ret1 rfl rfl H.ext (congrArg Value.bool ?_)
                            rw [con_eq, if_neg (by omega)]
                            unfold contC
                            rw [if_neg (by omega)]
                            rw [if_neg (by omega)]
                            rw [if_neg (by omega)]
                            rw [if_neg (by omega)]
                            rw [if_neg (by omega)]
                            first | rfl | exact (decide_eq_true (by omega)).symm | exact (decide_eq_false (by omega)).symm | exact decide_eq_decide.2 (by omega) | (exfalso; omega)
                          · refine SG (Ex.move rfl) rfl rfl rfl (SG (Ex.fieldAddr Tryz.underlying180 rfl Tryz.sizeOf3 (by decide) rfl) rfl rfl rfl ?_)
                            first | refine WR.step (Ex.loadM H rfl (by assumption) Tryz.isAgg3) (Wn.some rfl rfl rfl) rfl rfl ?_ | refine WR.step (Ex.load1 H rfl (by repeat (first | exact List.Mem.head _ | apply List.Mem.tail)) Tryz.isAgg3 (by rfl)) (Wn.some rfl rfl rfl) rfl rfl ?_
                            refine WR.split (Ex.eql rfl rfl) (Wn.some rfl rfl rfl) rfl rfl (fun h14_24 => ?_) (fun h14_24 => ?_)
                            · refine SG (Ex.pickF rfl rfl) rfl rfl rfl (SG (Ex.pickT rfl rfl) rfl rfl rfl (PF rfl rfl rfl (MV rfl rfl (GT rfl rfl rfl (GT rfl rfl rfl (GT rfl rfl rfl (GT rfl rfl rfl (GU rfl rfl rfl (GU rfl rfl rfl (GU rfl rfl rfl (GT rfl rfl rfl (PT rfl rfl rfl (AS rfl rfl (NL (TN (RT ?_))))))))))))))))
                              refine WQ.ret1 rfl rfl H.ext (congrArg Value.bool ?_)
                              rw [con_eq, if_neg (by omega)]
                              unfold contC
                              rw [if_neg (by omega)]
                              rw [if_neg (by omega)]
                              rw [if_neg (by omega)]
                              rw [if_neg (by omega)]
                              rw [if_neg (by omega)]
                              first | rfl | exact (decide_eq_true (by omega)).symm | exact (decide_eq_false (by omega)).symm | exact decide_eq_decide.2 (by omega) | (exfalso; omega)
                            · refine SG (Ex.pickF rfl rfl) rfl rfl rfl (SG (Ex.pickT rfl rfl) rfl rfl rfl (PF rfl rfl rfl (MV rfl rfl (SG (Ex.fieldAddr Tryz.underlying180 rfl Tryz.sizeOf3 (by decide) rfl) rfl rfl rfl ?_))))
                              first | refine WR.step (Ex.loadM H rfl (by assumption) Tryz.isAgg3) (Wn.some rfl rfl rfl) rfl rfl ?_ | refine WR.step (Ex.load1 H rfl (by repeat (first | exact List.Mem.head _ | apply List.Mem.tail)) Tryz.isAgg3 (by rfl)) (Wn.some rfl rfl rfl) rfl rfl ?_
                              refine WR.split (Ex.eql rfl rfl) (Wn.some rfl rfl rfl) rfl rfl (fun h14_31 => ?_) (fun h14_31 => ?_)
                              · refine SG (Ex.move rfl) rfl rfl rfl (SG (Ex.fieldAddr Tryz.underlying180 rfl Tryz.sizeOf3 (by decide) rfl) rfl rfl rfl ?_)
                                first | refine WR.step (Ex.loadM H rfl (by assumption) Tryz.isAgg3) (Wn.some rfl rfl rfl) rfl rfl ?_ | refine WR.step (Ex.load1 H rfl (by repeat (first | exact List.Mem.head _ | apply List.Mem.tail)) Tryz.isAgg3 (by rfl)) (Wn.some rfl rfl rfl) rfl rfl ?_
                                refine SG (Ex.eql rfl rfl) rfl rfl rfl (SG (Ex.pickT rfl rfl) rfl rfl rfl (PF rfl rfl rfl (AS rfl rfl (NL (TN (RT ?_))))))
                                refine WQ.ret1 rfl rfl H.ext (congrArg Value.bool ?_)
                                rw [con_eq, if_neg (by omega)]
                                unfold contC
                                rw [if_neg (by omega)]
                                rw [if_neg (by omega)]
                                rw [if_neg (by omega)]
                                rw [if_neg (by omega)]
                                rw [if_neg (by omega)]
                                first | rfl | exact (decide_eq_true (by omega)).symm | exact (decide_eq_false (by omega)).symm | exact decide_eq_decide.2 (by omega) | (exfalso; omega)
                              · refine SG (Ex.move rfl) rfl rfl rfl (GF rfl rfl rfl (GF rfl rfl rfl (GF rfl rfl rfl (SG (Ex.pickF rfl rfl) rfl rfl rfl (PF rfl rfl rfl (AS rfl rfl (NL (TN (RT ?_)))))))))
                                refine WQ.ret1 rfl rfl H.ext (congrArg Value.bool ?_)
                                rw [con_eq, if_neg (by omega)]
                                unfold contC
                                rw [if_neg (by omega)]
                                rw [if_neg (by omega)]
                                rw [if_neg (by omega)]
                                rw [if_neg (by omega)]
                                rw [if_neg (by omega)]
                                first | rfl | exact (decide_eq_true (by omega)).symm | exact (decide_eq_false (by omega)).symm | exact decide_eq_decide.2 (by omega) | (exfalso; omega)
                        · refine SG (Ex.move rfl) rfl rfl rfl (GF rfl rfl rfl (GF rfl rfl rfl (GF rfl rfl rfl (GF rfl rfl rfl (GU rfl rfl rfl (GU rfl rfl rfl (GU rfl rfl rfl (GF rfl rfl rfl (SG (Ex.pickF rfl rfl) rfl rfl rfl (PF rfl rfl rfl (MV rfl rfl (SG (Ex.fieldAddr Tryz.underlying180 rfl Tryz.sizeOf3 (by decide) rfl) rfl rfl rfl ?_))))))))))))
                          first | refine WR.step (Ex.loadM H rfl (by assumption) Tryz.isAgg3) (Wn.some rfl rfl rfl) rfl rfl ?_ | refine WR.step (Ex.load1 H rfl (by repeat (first | exact List.Mem.head _ | apply List.Mem.tail)) Tryz.isAgg3 (by rfl)) (Wn.some rfl rfl rfl) rfl rfl ?_
                          refine WR.split (Ex.eql rfl rfl) (Wn.some rfl rfl rfl) rfl rfl (fun h14_31 => ?_) (fun h14_31 => ?_)
                          · refine SG (Ex.move rfl) rfl rfl rfl (SG (Ex.fieldAddr Tryz.underlying180 rfl Tryz.sizeOf3 (by decide) rfl) rfl rfl rfl ?_)
                            first | refine WR.step (Ex.loadM H rfl (by assumption) Tryz.isAgg3) (Wn.some rfl rfl rfl) rfl rfl ?_ | refine WR.step (Ex.load1 H rfl (by repeat (first | exact List.Mem.head _ | apply List.Mem.tail)) Tryz.isAgg3 (by rfl)) (Wn.some rfl rfl rfl) rfl rfl ?_
                            refine SG (Ex.eql rfl rfl) rfl rfl rfl (SG (Ex.pickT rfl rfl) rfl rfl rfl (PF rfl rfl rfl (AS rfl rfl (NL (TN (RT ?_))))))
                            refine WQ.ret1 rfl rfl H.ext (congrArg Value.bool ?_)
                            rw [con_eq, if_neg (by omega)]
                            unfold contC
                            rw [if_neg (by omega)]
                            rw [if_neg (by omega)]
                            rw [if_neg (by omega)]
                            rw [if_neg (by omega)]
                            rw [if_neg (by omega)]
                            first | rfl | exact (decide_eq_true (by omega)).symm | exact (decide_eq_false (by omega)).symm | exact decide_eq_decide.2 (by omega) | (exfalso; omega)
                          · refine SG (Ex.move rfl) rfl rfl rfl (GF rfl rfl rfl (GF rfl rfl rfl (GF rfl rfl rfl (SG (Ex.pickF rfl rfl) rfl rfl rfl (PF rfl rfl rfl (AS rfl rfl (NL (TN (RT ?_)))))))))
                            refine WQ.ret1 rfl rfl H.ext (congrArg Value.bool ?_)
                            rw [con_eq, if_neg (by omega)]
                            unfold contC
                            rw [if_neg (by omega)]
                            rw [if_neg (by omega)]
                            rw [if_neg (by omega)]
                            rw [if_neg (by omega)]
                            rw [if_neg (by omega)]
                            first | rfl | exact (decide_eq_true (by omega)).symm | exact (decide_eq_false (by omega)).symm | exact decide_eq_decide.2 (by omega) | (exfalso; omega)
      · refine MV rfl rfl (GF rfl rfl rfl (GF rfl rfl rfl (GF rfl rfl rfl (PF rfl rfl rfl (AS rfl rfl (NL (TN (CF rfl (SQ (RG (MV rfl rfl (ST (Ex.fieldAddr Tryz.underlying180 rfl Tryz.sizeOf3 (by decide) rfl) rfl ?_))))))))))))
        first | refine WR.step (Ex.loadM H rfl (by assumption) Tryz.isAgg3) (Wn.none rfl) rfl rfl ?_ | refine WR.step (Ex.load1 H rfl (by repeat (first | exact List.Mem.head _ | apply List.Mem.tail)) Tryz.isAgg3 (by rfl)) (Wn.none rfl) rfl rfl ?_
        by_cases h6_3 : 1 ≤ cls a ∧ cls a ≤ 3
        · refine WR.callV (cap := []) H (Ct.mono (hard_spec _) (R' := fun r _ => r = .bool true) (fun _ _ h => h.trans (congrArg Value.bool (decide_eq_true h6_3)))) rfl rfl (trivial) (Wn.none rfl) rfl ?_
          intro v28 M w H hle hr28
          obtain rfl := hr28
          refine MV rfl rfl (GT rfl rfl rfl (GT rfl rfl rfl (GT rfl rfl rfl (GT rfl rfl rfl (PT rfl rfl rfl (AS rfl rfl (NL (TN (CT rfl (SQ (RG (AS rfl rfl (NL (TN (RT ?_)))))))))))))))
          refine WQ.ret1 rfl rfl H.ext (congrArg Value.bool ?_)
          rw [con_eq, if_neg (by omega)]
          unfold contC
          rw [if_neg (by omega)]
          rw [if_pos (by omega)]
        · refine WR.callV (cap := []) H (Ct.mono (hard_spec _) (R' := fun r _ => r = .bool false) (fun _ _ h => h.trans (congrArg Value.bool (decide_eq_false h6_3)))) rfl rfl (trivial) (Wn.none rfl) rfl ?_
          intro v28 M w H hle hr28
          obtain rfl := hr28
          refine MV rfl rfl (SG (Ex.move rfl) rfl rfl rfl (SG (Ex.fieldAddr Tryz.underlying180 rfl Tryz.sizeOf3 (by decide) rfl) rfl rfl rfl ?_))
          first | refine WR.step (Ex.loadM H rfl (by assumption) Tryz.isAgg3) (Wn.some rfl rfl rfl) rfl rfl ?_ | refine WR.step (Ex.load1 H rfl (by repeat (first | exact List.Mem.head _ | apply List.Mem.tail)) Tryz.isAgg3 (by rfl)) (Wn.some rfl rfl rfl) rfl rfl ?_
          by_cases h6_8 : 1 ≤ cls b ∧ cls b ≤ 3
          · refine WR.callV (cap := []) H (Ct.mono (hard_spec _) (R' := fun r _ => r = .bool true) (fun _ _ h => h.trans (congrArg Value.bool (decide_eq_true h6_8)))) rfl rfl (trivial) (Wn.some rfl rfl rfl) rfl ?_
            intro v33 M w H hle hr33
            obtain rfl := hr33
            refine PF rfl rfl rfl (AS rfl rfl (NL (TN (CT rfl (SQ (RG (AS rfl rfl (NL (TN (RT ?_))))))))))
            refine WQ.ret1 rfl rfl H.ext (congrArg Value.bool ?_)
            rw [con_eq, if_neg (by omega)]
            unfold contC
            rw [if_neg (by omega)]
            rw [if_pos (by omega)]
          · refine WR.callV (cap := []) H (Ct.mono (hard_spec _) (R' := fun r _ => r = .bool false) (fun _ _ h => h.trans (congrArg Value.bool (decide_eq_false h6_8)))) rfl rfl (trivial) (Wn.some rfl rfl rfl) rfl ?_
            intro v33 M w H hle hr33
            obtain rfl := hr33
            refine PF rfl rfl rfl (AS rfl rfl (NL (TN (CF rfl (SQ (RG (ST (Ex.fieldAddr Tryz.underlying180 rfl Tryz.sizeOf3 (by decide) rfl) rfl ?_)))))))
            first | refine WR.step (Ex.loadM H rfl (by assumption) Tryz.isAgg3) (Wn.none rfl) rfl rfl ?_ | refine WR.step (Ex.load1 H rfl (by repeat (first | exact List.Mem.head _ | apply List.Mem.tail)) Tryz.isAgg3 (by rfl)) (Wn.none rfl) rfl rfl ?_
            refine WR.split (Ex.eql rfl rfl) (Wn.none rfl) rfl rfl (fun h8_2 => ?_) (fun h8_2 => ?_)
            · refine MV rfl rfl (GT rfl rfl rfl (GT rfl rfl rfl (GT rfl rfl rfl (PT rfl rfl rfl (AS rfl rfl (NL (TN (CT rfl (SQ (RG (AS rfl rfl (NL (TN (RT ?_))))))))))))))
              refine WQ.ret1 rfl rfl H.ext (congrArg Value.bool ?_)
              rw [con_eq, if_neg (by omega)]
              unfold contC
              rw [if_neg (by omega)]
              rw [if_neg (by omega)]
              rw [if_pos (by omega)]
            · refine MV rfl rfl (SG (Ex.fieldAddr Tryz.underlying180 rfl Tryz.sizeOf3 (by decide) rfl) rfl rfl rfl ?_)
              first | refine WR.step (Ex.loadM H rfl (by assumption) Tryz.isAgg3) (Wn.some rfl rfl rfl) rfl rfl ?_ | refine WR.step (Ex.load1 H rfl (by repeat (first | exact List.Mem.head _ | apply List.Mem.tail)) Tryz.isAgg3 (by rfl)) (Wn.some rfl rfl rfl) rfl rfl ?_
              refine WR.split (Ex.eql rfl rfl) (Wn.some rfl rfl rfl) rfl rfl (fun h8_6 => ?_) (fun h8_6 => ?_)
              · refine PF rfl rfl rfl (AS rfl rfl (NL (TN (CT rfl (SQ (RG (AS rfl rfl (NL (TN (RT ?_))))))))))
                refine WQ.ret1 rfl rfl H.ext (congrArg Value.bool ?_)
                rw [con_eq, if_neg (by omega)]
                unfold contC
                rw [if_neg (by omega)]
                rw [if_neg (by omega)]
                rw [if_pos (by omega)]
              · refine PF rfl rfl rfl (AS rfl rfl (NL (TN (CF rfl (SQ (RG (ST (Ex.fieldAddr Tryz.underlying180 rfl Tryz.sizeOf3 (by decide) rfl) rfl ?_)))))))
                first | refine WR.step (Ex.loadM H rfl (by assumption) Tryz.isAgg3) (Wn.none rfl) rfl rfl ?_ | refine WR.step (Ex.load1 H rfl (by repeat (first | exact List.Mem.head _ | apply List.Mem.tail)) Tryz.isAgg3 (by rfl)) (Wn.none rfl) rfl rfl ?_
                refine WR.split (Ex.eql rfl rfl) (Wn.none rfl) rfl rfl (fun h10_2 => ?_) (fun h10_2 => ?_)
                · refine AS rfl rfl (NL (TN (CT rfl (SQ (RG (ST (Ex.fieldAddr Tryz.underlying180 rfl Tryz.sizeOf3 (by decide) rfl) rfl ?_))))))
                  first | refine WR.step (Ex.loadM H rfl (by assumption) Tryz.isAgg3) (Wn.none rfl) rfl rfl ?_ | refine WR.step (Ex.load1 H rfl (by repeat (first | exact List.Mem.head _ | apply List.Mem.tail)) Tryz.isAgg3 (by rfl)) (Wn.none rfl) rfl rfl ?_
                  refine ST (Ex.eql rfl rfl) rfl (AS rfl rfl (NL (TN (RT ?_))))
                  refine WQ.ret1 rfl rfl H.ext (congrArg Value.bool ?_)
                  rw [con_eq, if_neg (by omega)]
                  unfold contC
                  rw [if_neg (by omega)]
                  rw [if_neg (by omega)]
                  rw [if_neg (by omega)]
                  rw [if_pos (by omega)]
                · refine AS rfl rfl (NL (TN (CF rfl (SQ (RG (ST (Ex.fieldAddr Tryz.underlying180 rfl Tryz.sizeOf3 (by decide) rfl) rfl ?_))))))
                  first | refine WR.step (Ex.loadM H rfl (by assumption) Tryz.isAgg3) (Wn.none rfl) rfl rfl ?_ | refine WR.step (Ex.load1 H rfl (by repeat (first | exact List.Mem.head _ | apply List.Mem.tail)) Tryz.isAgg3 (by rfl)) (Wn.none rfl) rfl rfl ?_
                  refine WR.split (Ex.eql rfl rfl) (Wn.none rfl) rfl rfl (fun h12_2 => ?_) (fun h12_2 => ?_)
                  · refine AS rfl rfl (NL (TN (CT rfl (SQ (RG (MV rfl rfl (ST (Ex.rem64 rfl rfl (by first | omega | exact ⟨Int.natCast_nonneg _, by decide⟩)) rfl ?_)))))))
                    refine ST (Ex.eql rfl rfl) rfl (AS rfl rfl (NL (TN (RT ?_))))
                    refine WQ.ret1 rfl rfl H.ext (congrArg Value.bool ?_)
                    rw [con_eq, if_neg (by omega)]
                    unfold contC
                    rw [if_neg (by omega)]
                    rw [if_neg (by omega)]
                    rw [if_neg (by omega)]
                    rw [if_neg (by omega)]
                    rw [if_pos (by omega)]
                  · refine AS rfl rfl (NL (TN (CF rfl (SK (IB (TN (SQ (RG (ST (Ex.fieldAddr Tryz.underlying180 rfl Tryz.sizeOf3 (by decide) rfl) rfl ?_)))))))))
                    first | refine WR.step (Ex.loadM H rfl (by assumption) Tryz.isAgg3) (Wn.none rfl) rfl rfl ?_ | refine WR.step (Ex.load1 H rfl (by repeat (first | exact List.Mem.head _ | apply List.Mem.tail)) Tryz.isAgg3 (by rfl)) (Wn.none rfl) rfl rfl ?_
                    refine WR.split (Ex.eql rfl rfl) (Wn.none rfl) rfl rfl (fun h14_2 => ?_) (fun h14_2 => ?_)
                    · refine MV rfl rfl (SG (Ex.fieldAddr Tryz.underlying180 rfl Tryz.sizeOf3 (by decide) rfl) rfl rfl rfl ?_)
                      first | refine WR.step (Ex.loadM H rfl (by assumption) Tryz.isAgg3) (Wn.some rfl rfl rfl) rfl rfl ?_ | refine WR.step (Ex.load1 H rfl (by repeat (first | exact List.Mem.head _ | apply List.Mem.tail)) Tryz.isAgg3 (by rfl)) (Wn.some rfl rfl rfl) rfl rfl ?_
                      refine WR.split (Ex.eql rfl rfl) (Wn.some rfl rfl rfl) rfl rfl (fun h14_6 => ?_) (fun h14_6 => ?_)
                      · refine SG (Ex.move rfl) rfl rfl rfl (GT rfl rfl rfl (GT rfl rfl rfl (GT rfl rfl rfl (SG (Ex.pickT rfl rfl) rfl rfl rfl (PT rfl rfl rfl (MV rfl rfl (GT rfl rfl rfl (GT rfl rfl rfl (GT rfl rfl rfl (GT rfl rfl rfl (GU rfl rfl rfl (GU rfl rfl rfl (GU rfl rfl rfl (GU rfl rfl rfl (GU rfl rfl rfl (GU rfl rfl rfl (GU rfl rfl rfl (GU rfl rfl rfl (GT rfl rfl rfl (PT rfl rfl rfl (MV rfl rfl (GT rfl rfl rfl (GT rfl rfl rfl (GT rfl rfl rfl (GT rfl rfl rfl (GU rfl rfl rfl (GU rfl rfl rfl (GU rfl rfl rfl (GT rfl rfl rfl (PT rfl rfl rfl (AS rfl rfl (NL (TN (RT ?_))))))))))))))))))))))))))))))))))
                        refine WQ.ret1 rfl rfl H.ext (congrArg Value.bool ?_)
                        rw [con_eq, if_neg (by omega)]
                        unfold contC
                        rw [if_neg (by omega)]
                        rw [if_neg (by omega)]
                        rw [if_neg (by omega)]
                        rw [if_neg (by omega)]
                        rw [if_neg (by omega)]
                        first | rfl | exact (decide_eq_true (by omega)).symm | exact (decide_eq_false (by omega)).symm | exact decide_eq_decide.2 (by omega) | (exfalso; omega)
                      · refine SG (Ex.move rfl) rfl rfl rfl (SG (Ex.fieldAddr Tryz.underlying180 rfl Tryz.sizeOf3 (by decide) rfl) rfl rfl rfl ?_)
                        first | refine WR.step (Ex.loadM H rfl (by assumption) Tryz.isAgg3) (Wn.some rfl rfl rfl) rfl rfl ?_ | refine WR.step (Ex.load1 H rfl (by repeat (first | exact List.Mem.head _ | apply List.Mem.tail)) Tryz.isAgg3 (by rfl)) (Wn.some rfl rfl rfl) rfl rfl ?_
                        refine WR.split (Ex.eql rfl rfl) (Wn.some rfl rfl rfl) rfl rfl (fun h14_10 => ?_) (fun h14_10 => ?_)
                        · refine SG (Ex.pickF rfl rfl) rfl rfl rfl (PT rfl rfl rfl (MV rfl rfl (GT rfl rfl rfl (GT rfl rfl rfl (GT rfl rfl rfl (GT rfl rfl rfl (GU rfl rfl rfl (GU rfl rfl rfl (GU rfl rfl rfl (GU rfl rfl rfl (GU rfl rfl rfl (GU rfl rfl rfl (GU rfl rfl rfl (GU rfl rfl rfl (GT rfl rfl rfl (PT rfl rfl rfl (MV rfl rfl (GT rfl rfl rfl (GT rfl rfl rfl (GT rfl rfl rfl (GT rfl rfl rfl (GU rfl rfl rfl (GU rfl rfl rfl (GU rfl rfl rfl (GT rfl rfl rfl (PT rfl rfl rfl (AS rfl rfl (NL (TN (RT ?_))))))))))))))))))))))))))))))
                          refine WQ.ret1 rfl rfl H.ext (congrArg Value.bool ?_)
                          rw [con_eq, if_neg (by omega)]
                          unfold contC
                          rw [if_neg (by omega)]
                          rw [if_neg (by omega)]
                          rw [if_neg (by omega)]
                          rw [if_neg (by omega)]
                          rw [if_neg (by omega)]
                          first | rfl | exact (decide_eq_true (by omega)).symm | exact (decide_eq_false (by omega)).symm | exact decide_eq_decide.2 (by omega) | (exfalso; omega)
                        · refine SG (Ex.pickF rfl rfl) rfl rfl rfl (PT rfl rfl rfl (MV rfl rfl (SG (Ex.fieldAddr Tryz.underlying180 rfl Tryz.sizeOf3 (by decide) rfl) rfl rfl rfl ?_)))
                          first | refine WR.step (Ex.loadM H rfl (by assumption) Tryz.isAgg3) (Wn.some rfl rfl rfl) rfl rfl ?_ | refine WR.step (Ex.load1 H rfl (by repeat (first | exact List.Mem.head _ | apply List.Mem.tail)) Tryz.isAgg3 (by rfl)) (Wn.some rfl rfl rfl) rfl rfl ?_
                          refine WR.split (Ex.eql rfl rfl) (Wn.some rfl rfl rfl) rfl rfl (fun h14_16 => ?_) (fun h14_16 => ?_)
                          · refine SG (Ex.move rfl) rfl rfl rfl (SG (Ex.fieldAddr Tryz.underlying180 rfl Tryz.sizeOf3 (by decide) rfl) rfl rfl rfl ?_)
                            first | refine WR.step (Ex.loadM H rfl (by assumption) Tryz.isAgg3) (Wn.some rfl rfl rfl) rfl rfl ?_ | refine WR.step (Ex.load1 H rfl (by repeat (first | exact List.Mem.head _ | apply List.Mem.tail)) Tryz.isAgg3 (by rfl)) (Wn.some rfl rfl rfl) rfl rfl ?_
                            refine WR.split (Ex.eql rfl rfl) (Wn.some rfl rfl rfl) rfl rfl (fun h14_20 => ?_) (fun h14_20 => ?_)
                            · refine SG (Ex.move rfl) rfl rfl rfl (GT rfl rfl rfl (GT rfl rfl rfl (GT rfl rfl rfl (SG (Ex.pickT rfl rfl) rfl rfl rfl (SG (Ex.pickT rfl rfl) rfl rfl rfl (PF rfl rfl rfl (MV rfl rfl (GT rfl rfl rfl (GT rfl rfl rfl (GT rfl rfl rfl (GT rfl rfl rfl (GU rfl rfl rfl (GU rfl rfl rfl (GU rfl rfl rfl (GT rfl rfl rfl (PT rfl rfl rfl (AS rfl rfl (NL (TN (RT ?_))))))))))))))))))))
                              refine WQ.ret1 rfl rfl H.ext (congrArg Value.bool ?_)
                              rw [con_eq, if_neg (by omega)]
                              unfold contC
                              rw [if_neg (by omega)]
                              rw [if_neg (by omega)]
                              rw [if_neg (by omega)]
                              rw [if_neg (by omega)]
                              rw [if_neg (by omega)]
                              first | rfl | exact (decide_eq_true (by omega)).symm | exact (decide_eq_false (by omega)).symm | exact decide_eq_decide.2 (by omega) | (exfalso; omega)
                            · refine SG (Ex.move rfl) rfl rfl rfl (SG (Ex.fieldAddr Tryz.underlying180 rfl Tryz.sizeOf3 (by decide) rfl) rfl rfl rfl ?_)
                              first | refine WR.step (Ex.loadM H rfl (by assumption) Tryz.isAgg3) (Wn.some rfl rfl rfl) rfl rfl ?_ | refine WR.step (Ex.load1 H rfl (by repeat (first | exact List.Mem.head _ | apply List.Mem.tail)) Tryz.isAgg3 (by rfl)) (Wn.some rfl rfl rfl) rfl rfl ?_
                              refine WR.split (Ex.eql rfl rfl) (Wn.some rfl rfl rfl) rfl rfl (fun h14_24 => ?_) (fun h14_24 => ?_)
                              · refine SG (Ex.pickF rfl rfl) rfl rfl rfl (SG (Ex.pickT rfl rfl) rfl rfl rfl (PF rfl rfl rfl (MV rfl rfl (GT rfl rfl rfl (GT rfl rfl rfl (GT rfl rfl rfl (GT rfl rfl rfl (GU rfl rfl rfl (GU rfl rfl rfl (GU rfl rfl rfl (GT rfl rfl rfl (PT rfl rfl rfl (AS rfl rfl (NL (TN (RT ?_))))))))))))))))
                                refine WQ.ret1 rfl rfl H.ext (congrArg Value.bool ?_)
                                rw [con_eq, if_neg (by omega)]
                                unfold contC
                                rw [if_neg (by omega)]
                                rw [if_neg (by omega)]
                                rw [if_neg (by omega)]
                                rw [if_neg (by omega)]
                                rw [if_neg (by omega)]
                                first | rfl | exact (decide_eq_true (by omega)).symm | exact (decide_eq_false (by omega)).symm | exact decide_eq_decide.2 (by omega) | (exfalso; omega)
                              · refine SG (Ex.pickF rfl rfl) rfl rfl rfl (SG (Ex.pickT rfl rfl) rfl rfl rfl (PF rfl rfl rfl (MV rfl rfl (SG (Ex.fieldAddr Tryz.underlying180 rfl Tryz.sizeOf3 (by decide) rfl) rfl rfl rfl ?_))))
                                first | refine WR.step (Ex.loadM H rfl (by assumption) Tryz.isAgg3) (Wn.some rfl rfl rfl) rfl rfl ?_ | refine WR.step (Ex.load1 H rfl (by repeat (first | exact List.Mem.head _ | apply List.Mem.tail)) Tryz.isAgg3 (by rfl)) (Wn.some rfl rfl rfl) rfl rfl ?_
                                refine WR.split (Ex.eql rfl rfl) (Wn.some rfl rfl rfl) rfl rfl (fun h14_31 => ?_) (fun h14_31 => ?_)
                                · refine SG (Ex.move rfl) rfl rfl rfl (SG (Ex.fieldAddr Tryz.underlying180 rfl Tryz.sizeOf3 (by decide) rfl) rfl rfl rfl ?_)
                                  first | refine WR.step (Ex.loadM H rfl (by assumption) Tryz.isAgg3) (Wn.some rfl rfl rfl) rfl rfl ?_ | refine WR.step (Ex.load1 H rfl (by repeat (first | exact List.Mem.head _ | apply List.Mem.tail)) Tryz.isAgg3 (by rfl)) (Wn.some rfl rfl rfl) rfl rfl ?_
                                  refine SG (Ex.eql rfl rfl) rfl rfl rfl (SG (Ex.pickT rfl rfl) rfl rfl rfl (PF rfl rfl rfl (AS rfl rfl (NL (TN (RT ?_))))))
                                  refine WQ.ret1 rfl rfl H.ext (congrArg Value.bool ?_)
                                  rw [con_eq, if_neg (by omega)]
                                  unfold contC
                                  rw [if_neg (by omega)]
                                  rw [if_neg (by omega)]
                                  rw [if_neg (by omega)]
                                  rw [if_neg (by omega)]
                                  rw [if_neg (by omega)]
                                  first | rfl | exact (decide_eq_true (by omega)).symm | exact (decide_eq_false (by omega)).symm | exact decide_eq_decide.2 (by omega) | (exfalso; omega)
                                · refine SG (Ex.move rfl) rfl rfl rfl (GF rfl rfl rfl (GF rfl rfl rfl (GF rfl rfl rfl (SG (Ex.pickF rfl rfl) rfl rfl rfl (PF rfl rfl rfl (AS rfl rfl (NL (TN (RT ?_)))))))))
                                  refine WQ.ret1 rfl rfl H.ext (congrArg Value.bool ?_)
                                  rw [con_eq, if_neg (by omega)]
                                  unfold contC
                                  rw [if_neg (by omega)]
                                  rw [if_neg (by omega)]
                                  rw [if_neg (by omega)]
                                  rw [if_neg (by omega)]
                                  rw [if_neg (by omega)]
                                  first | rfl | exact (decide_eq_true (by omega)).symm | exact (decide_eq_false (by omega)).symm | exact decide_eq_decide.2 (by omega) | (exfalso; omega)
                          · refine SG (Ex.move rfl) rfl rfl rfl (GF rfl rfl rfl (GF rfl rfl rfl (GF rfl rfl rfl (GF rfl rfl rfl (GU rfl rfl rfl (GU rfl rfl rfl (GU rfl rfl rfl (GF rfl rfl rfl (SG (Ex.pickF rfl rfl) rfl rfl rfl (PF rfl rfl rfl (MV rfl rfl (SG (Ex.fieldAddr Tryz.underlying180 rfl Tryz.sizeOf3 (by decide) rfl) rfl rfl rfl ?_))))))))))))
                            first | refine WR.step (Ex.loadM H rfl (by assumption) Tryz.isAgg3) (Wn.some rfl rfl rfl) rfl rfl ?_ | refine WR.step (Ex.load1 H rfl (by repeat (first | exact List.Mem.head _ | apply List.Mem.tail)) Tryz.isAgg3 (by rfl)) (Wn.some rfl rfl rfl) rfl rfl ?_
                            refine WR.split (Ex.eql rfl rfl) (Wn.some rfl rfl rfl) rfl rfl (fun h14_31 => ?_) (fun h14_31 => ?_)
                            · refine SG (Ex.move rfl) rfl rfl rfl (SG (Ex.fieldAddr Tryz.underlying180 rfl Tryz.sizeOf3 (by decide) rfl) rfl rfl rfl ?_)
                              first | refine WR.step (Ex.loadM H rfl (by assumption) Tryz.isAgg3) (Wn.some rfl rfl rfl) rfl rfl ?_ | refine WR.step (Ex.load1 H rfl (by repeat (first | exact List.Mem.head _ | apply List.Mem.tail)) Tryz.isAgg3 (by rfl)) (Wn.some rfl rfl rfl) rfl rfl ?_
                              refine SG (Ex.eql rfl rfl) rfl rfl rfl (SG (Ex.pickT rfl rfl) rfl rfl rfl (PF rfl rfl rfl (AS rfl rfl (NL (TN (RT ?_))))))
                              refine WQ.ret1 rfl rfl H.ext (congrArg Value.bool ?_)
                              rw [con_eq, if_neg (by omega)]
                              unfold contC
                              rw [if_neg (by omega)]
                              rw [if_neg (by omega)]
                              rw [if_neg (by omega)]
                              rw [if_neg (by omega)]
                              rw [if_neg (by omega)]
                              first | rfl | exact (decide_eq_true (by omega)).symm | exact (decide_eq_false (by omega)).symm | exact decide_eq_decide.2 (by omega) | (exfalso; omega)
                            · refine SG (Ex.move rfl) rfl rfl rfl (GF rfl rfl rfl (GF rfl rfl rfl (GF rfl rfl rfl (SG (Ex.pickF rfl rfl) rfl rfl rfl (PF rfl rfl rfl (AS rfl rfl (NL (TN (RT ?_)))))))))
                              refine WQ.ret1 rfl rfl H.ext (congrArg Value.bool ?_)
                              rw [con_eq, if_neg (by omega)]
                              unfold contC
                              rw [if_neg (by omega)]
                              rw [if_neg (by omega)]
                              rw [if_neg (by omega)]
                              rw [if_neg (by omega)]
                              rw [if_neg (by omega)]
                              first | rfl | exact (decide_eq_true (by omega)).symm | exact (decide_eq_false (by omega)).symm | exact decide_eq_decide.2 (by omega) | (exfalso; omega)
                    · refine MV rfl rfl (GF rfl rfl rfl (GF rfl rfl rfl (GF rfl rfl rfl (GF rfl rfl rfl (GU rfl rfl rfl (GU rfl rfl rfl (GU rfl rfl rfl (GF rfl rfl rfl (PF rfl rfl rfl (MV rfl rfl (SG (Ex.fieldAddr Tryz.underlying180 rfl Tryz.sizeOf3 (by decide) rfl) rfl rfl rfl ?_)))))))))))
                      first | refine WR.step (Ex.loadM H rfl (by assumption) Tryz.isAgg3) (Wn.some rfl rfl rfl) rfl rfl ?_ | refine WR.step (Ex.load1 H rfl (by repeat (first | exact List.Mem.head _ | apply List.Mem.tail)) Tryz.isAgg3 (by rfl)) (Wn.some rfl rfl rfl) rfl rfl ?_
                      refine WR.split (Ex.eql rfl rfl) (Wn.some rfl rfl rfl) rfl rfl (fun h14_16 => ?_) (fun h14_16 => ?_)
                      · refine SG (Ex.move rfl) rfl rfl rfl (SG (Ex.fieldAddr Tryz.underlying180 rfl Tryz.sizeOf3 (by decide) rfl) rfl rfl rfl ?_)
                        first | refine WR.step (Ex.loadM H rfl (by assumption) Tryz.isAgg3) (Wn.some rfl rfl rfl) rfl rfl ?_ | refine WR.step (Ex.load1 H rfl (by repeat (first | exact List.Mem.head _ | apply List.Mem.tail)) Tryz.isAgg3 (by rfl)) (Wn.some rfl rfl rfl) rfl rfl ?_
                        refine WR.split (Ex.eql rfl rfl) (Wn.some rfl rfl rfl) rfl rfl (fun h14_20 => ?_) (fun h14_20 => ?_)
                        · refine SG (Ex.move rfl) rfl rfl rfl (GT rfl rfl rfl (GT rfl rfl rfl (GT rfl rfl rfl (SG (Ex.pickT rfl rfl) rfl rfl rfl (SG (Ex.pickT rfl rfl) rfl rfl rfl (PF rfl rfl rfl (MV rfl rfl (GT rfl rfl rfl (GT rfl rfl rfl (GT rfl rfl rfl (GT rfl rfl rfl (GU rfl rfl rfl (GU rfl rfl rfl (GU rfl rfl rfl (GT rfl rfl rfl (PT rfl rfl rfl (AS rfl rfl (NL (TN (RT ?_))))))))))))))))))))
                          refine WQ.ret1 rfl rfl H.ext (congrArg Value.bool ?_)
                          rw [con_eq, if_neg (by omega)]
                          unfold contC
                          rw [if_neg (by omega)]
                          rw [if_neg (by omega)]
                          rw [if_neg (by omega)]
                          rw [if_neg (by omega)]
                          rw [if_neg (by omega)]
                          first | rfl | exact (decide_eq_true (by omega)).symm | exact (decide_eq_false (by omega)).symm | exact decide_eq_decide.2 (by omega) | (exfalso; omega)
                        · refine SG (Ex.move rfl) rfl rfl rfl (SG (Ex.fieldAddr Tryz.underlying180 rfl Tryz.sizeOf3 (by decide) rfl) rfl rfl rfl ?_)
                          first | refine WR.step (Ex.loadM H rfl (by assumption) Tryz.isAgg3) (Wn.some rfl rfl rfl) rfl rfl ?_ | refine WR.step (Ex.load1 H rfl (by repeat (first | exact List.Mem.head _ | apply List.Mem.tail)) Tryz.isAgg3 (by rfl)) (Wn.some rfl rfl rfl) rfl rfl ?_
                          refine WR.split (Ex.eql rfl rfl) (Wn.some rfl rfl rfl) rfl rfl (fun h14_24 => ?_) (fun h14_24 => ?_)
                          · refine SG (Ex.pickF rfl rfl) rfl rfl rfl (SG (Ex.pickT rfl rfl) rfl rfl rfl (PF rfl rfl rfl (MV rfl rfl (GT rfl rfl rfl (GT rfl rfl rfl (GT rfl rfl rfl (GT rfl rfl rfl (GU rfl rfl rfl (GU rfl rfl rfl (GU rfl rfl rfl (GT rfl rfl rfl (PT rfl rfl rfl (AS rfl rfl (NL (TN (RT ?_))))))))))))))))
                            refine WQ.ret1 rfl rfl H.ext (congrArg Value.bool ?_)
                            rw [con_eq, if_neg (by omega)]
                            unfold contC
                            rw [if_neg (by omega)]
                            rw [if_neg (by omega)]
                            rw [if_neg (by omega)]
                            rw [if_neg (by omega)]
                            rw [if_neg (by omega)]
                            first | rfl | exact (decide_eq_true (by omega)).symm | exact (decide_eq_false (by omega)).symm | exact decide_eq_decide.2 (by omega) | (exfalso; omega)
                          · refine SG (Ex.pickF rfl rfl) rfl rfl rfl (SG (Ex.pickT rfl rfl) rfl rfl rfl (PF rfl rfl rfl (MV rfl rfl (SG (Ex.fieldAddr Tryz.underlying180 rfl Tryz.sizeOf3 (by decide) rfl) rfl rfl rfl ?_))))
                            first | refine WR.step (Ex.loadM H rfl (by assumption) Tryz.isAgg3) (Wn.some rfl rfl rfl) rfl rfl ?_ | refine WR.step (Ex.load1 H rfl (by repeat (first | exact List.Mem.head _ | apply List.Mem.tail)) Tryz.isAgg3 (by rfl)) (Wn.some rfl rfl rfl) rfl rfl ?_
                            refine WR.split (Ex.eql rfl rfl) (Wn.some rfl rfl rfl) rfl rfl (fun h14_31 => ?_) (fun h14_31 => ?_)
                            · refine SG (Ex.move rfl) rfl rfl rfl (SG (Ex.fieldAddr Tryz.underlying180 rfl Tryz.sizeOf3 (by decide) rfl) rfl rfl rfl ?_)
                              first | refine WR.step (Ex.loadM H rfl (by assumption) Tryz.isAgg3) (Wn.some rfl rfl rfl) rfl rfl ?_ | refine WR.step (Ex.load1 H rfl (by repeat (first | exact List.Mem.head _ | apply List.Mem.tail)) Tryz.isAgg3 (by rfl)) (Wn.some rfl rfl rfl) rfl rfl ?_
                              refine SG (Ex.eql rfl rfl) rfl rfl rfl (SG (Ex.pickT rfl rfl) rfl rfl rfl (PF rfl rfl rfl (AS rfl rfl (NL (TN (RT ?_))))))
                              refine WQ.ret1 rfl rfl H.ext (congrArg Value.bool ?_)
                              rw [con_eq, if_neg (by omega)]
                              unfold contC
                              rw [if_neg (by omega)]
                              rw [if_neg (by omega)]
                              rw [if_neg (by omega)]
                              rw [if_neg (by omega)]
                              rw [if_neg (by omega)]
                              first | rfl | exact (decide_eq_true (by omega)).symm | exact (decide_eq_false (by omega)).symm | exact decide_eq_decide.2 (by omega) | (exfalso; omega)
                            · refine SG (Ex.move rfl) rfl rfl rfl (GF rfl rfl rfl (GF rfl rfl rfl (GF rfl rfl rfl (SG (Ex.pickF rfl rfl) rfl rfl rfl (PF rfl rfl rfl (AS rfl rfl (NL (TN (RT ?_)))))))))
                              refine WQ.ret1 rfl rfl H.ext (congrArg Value.bool ?_)
                              rw [con_eq, if_neg (by omega)]
                              unfold contC
                              rw [if_neg (by omega)]
                              rw [if_neg (by omega)]
                              rw [if_neg (by omega)]
                              rw [if_neg (by omega)]
                              rw [if_neg (by omega)]
                              first | rfl | exact (decide_eq_true (by omega)).symm | exact (decide_eq_false (by omega)).symm | exact decide_eq_decide.2 (by omega) | (exfalso; omega)
                      · refine SG (Ex.move rfl) rfl rfl rfl (GF rfl rfl rfl (GF rfl rfl rfl (GF rfl rfl rfl (GF rfl rfl rfl (GU rfl rfl rfl (GU rfl rfl rfl (GU rfl rfl rfl (GF rfl rfl rfl (SG (Ex.pickF rfl rfl) rfl rfl rfl (PF rfl rfl rfl (MV rfl rfl (SG (Ex.fieldAddr Tryz.underlying180 rfl Tryz.sizeOf3 (by decide) rfl) rfl rfl rfl ?_))))))))))))
                        first | refine WR.step (Ex.loadM H rfl (by assumption) Tryz.isAgg3) (Wn.some rfl rfl rfl) rfl rfl ?_ | refine WR.step (Ex.load1 H rfl (by repeat (first | exact List.Mem.head _ | apply List.Mem.tail)) Tryz.isAgg3 (by rfl)) (Wn.some rfl rfl rfl) rfl rfl ?_
                        refine WR.split (Ex.eql rfl rfl) (Wn.some rfl rfl rfl) rfl rfl (fun h14_31 => ?_) (fun h14_31 => ?_)
                        · refine SG (Ex.move rfl) rfl rfl rfl (SG (Ex.fieldAddr Tryz.underlying180 rfl Tryz.sizeOf3 (by decide) rfl) rfl rfl rfl ?_)
                          first | refine WR.step (Ex.loadM H rfl (by assumption) Tryz.isAgg3) (Wn.some rfl rfl rfl) rfl rfl ?_ | refine WR.step (Ex.load1 H rfl (by repeat (first | exact List.Mem.head _ | apply List.Mem.tail)) Tryz.isAgg3 (by rfl)) (Wn.some rfl rfl rfl) rfl rfl ?_
                          refine SG (Ex.eql rfl rfl) rfl rfl rfl (SG (Ex.pickT rfl rfl) rfl rfl rfl (PF rfl rfl rfl (AS rfl rfl (NL (TN (RT ?_))))))
                          refine WQ.ret1 rfl rfl H.ext (congrArg Value.bool ?_)
                          rw [con_eq, if_neg (by omega)]
                          unfold contC
                          rw [if_neg (by omega)]
                          rw [if_neg (by omega)]
                          rw [if_neg (by omega)]
                          rw [if_neg (by omega)]
                          rw [if_neg (by omega)]
                          first | rfl | exact (decide_eq_true (by omega)).symm | exact (decide_eq_false (by omega)).symm | exact decide_eq_decide.2 (by omega) | (exfalso; omega)
                        · refine SG (Ex.move rfl) rfl rfl rfl (GF rfl rfl rfl (GF rfl rfl rfl (GF rfl rfl rfl (SG (Ex.pickF rfl rfl) rfl rfl rfl (PF rfl rfl rfl (AS rfl rfl (NL (TN (RT ?_)))))))))
                          refine WQ.ret1 rfl rfl H.ext (congrArg Value.bool ?_)
                          rw [con_eq, if_neg (by omega)]
                          unfold contC
                          rw [if_neg (by omega)]
                          rw [if_neg (by omega)]
                          rw [if_neg (by omega)]
                          rw [if_neg (by omega)]
                          rw [if_neg (by omega)]
                          first | rfl | exact (decide_eq_true (by omega)).symm | exact (decide_eq_false (by omega)).symm | exact decide_eq_decide.2 (by omega) | (exfalso; omega)
end Go.Proofs.YtogkmhjnojphiaaGreatDoor
end
section
set_option linter.unusedVariables false
set_option linter.unusedSimpArgs false
namespace Go.Proofs.YtogkmhjnojphiaaGreatDoor
open Go Go.RowKit Go.Ph Go.ChangeShapes Go.WideShapes Go.ChangeAt
theorem own : ownKnob Tryz.prog.godebug = none := by kernel_rfl
theorem laidOut : laidOutB Tryz.prog = true := by kernel_rfl
theorem first_eq : Lib.firstData = Rows.laid_unicode_utf8_first := by kernel_rfl
theorem accept_eq : Lib.acceptData = Rows.laid_unicode_utf8_acceptRanges := by kernel_rfl
theorem tabs_of_laid {W : World} (h : laidMetH Tryz.prog Rows.wordsEncodeMatchesSpecRow.laid W) : Tabs (memOf W) := by
  replace h : laidMet Tryz.prog Rows.wordsEncodeMatchesSpecRow.laid W := h
  have h3 := Lib.laidMet.reads h (List.mem_cons_of_mem _ List.mem_cons_self)
  have h4 := Lib.laidMet.reads h List.mem_cons_self
  rw [← first_eq] at h3
  rw [← accept_eq] at h4
  have hT : Lib.Utf8Tabs 0 1 W := utf8Tabs_of_reads Tryz.lays260 ⟨by kernel_rfl, by kernel_rfl, by kernel_rfl, by kernel_rfl, by kernel_rfl, by kernel_rfl, by kernel_rfl⟩ h3 h4
  intro w ha
  exact ⟨fun c hc => cell_upM ha (hT.1 c hc), fun i hi => ⟨cell_upM ha (hT.2 i hi).1, cell_upM ha (hT.2 i hi).2⟩⟩
theorem gl_maxl {W : World} (h : W.ShapedOpen Tryz.prog) : GlF (fun w => ∃ m, w.cell? ⟨2, 0, none⟩ = some (.int .i64 m)) (memOf W) := by
  obtain ⟨m, hm⟩ := Go.Proofs.cell_of_shapedOpen_int (g := 2) (zero := #[.int .i64 0]) (t := 3) h (of_decide_eq_true (by kernel_rfl)) (by kernel_rfl) rfl (by kernel_rfl) (by kernel_rfl) Tryz.underlying3
  exact fun w ha => ⟨m, cell_upM ha hm⟩
noncomputable def laidWorld (os : Os) : World := World.laidAll Tryz.prog os Rows.wordsEncodeMatchesSpecRow.laid
theorem laid_met (os : Os) (args : Array Value) : laidMet Tryz.prog Rows.wordsEncodeMatchesSpecRow.laid ((laidWorld os).forCall (fun _ _ => 0) ⟨#[], args, []⟩).memory :=
  laidMet_laidAll args (by kernel_rfl) (by kernel_rfl)
theorem str_list (s : ByteArray) : ∃ l : List UInt8, s = ⟨l.toArray⟩ := ⟨s.data.toList, by cases s; simp⟩
end Go.Proofs.YtogkmhjnojphiaaGreatDoor
end
section
set_option linter.unusedVariables false
set_option linter.unusedSimpArgs false
namespace Go.Ph
open Go Go.RowKit
def chainB (ops : Array Oper) : List Nat → Array Bool → Bool
  | [], _ => true
  | i :: is, l => (Region.ready .any ops l == [i]) && (ops[i]?).isSome && chainB ops is (l.setIfInBounds i true)
def opsAt (ops : Array Oper) : List Nat → List Oper
  | [] => []
  | i :: is => match ops[i]? with
    | some o => o :: opsAt ops is
    | none => []
def finL : List Nat → Array Bool → Array Bool
  | [], l => l
  | i :: is, l => finL is (l.setIfInBounds i true)
section
variable {r : Option Nat} {P : Program} {ops : Array Oper} {Q : Exit → Act → World → Prop} {n fuel : Nat} {D : List Deferred} {e e' : Env} {w : World} {listed : Array Bool}
theorem chain_sound : ∀ (is : List Nat) (listed : Array Bool) (a : Act) (w : World), chainB ops is listed = true → wpListIn (Wd r) 0 P ops (Qa r P ops Q fuel (finL is listed)) (opsAt ops is) a w → wpAnyIn (Wd r) 0 P .any ops (noP Q) (fuel + is.length) listed a w
  | [], listed, a, w, hc, h => h
  | i :: is, listed, a, w, hc, h => by
    rw [chainB, Bool.and_eq_true, Bool.and_eq_true] at hc
    obtain ⟨⟨h1, h2⟩, h3⟩ := hc
    have h1 : Region.ready .any ops listed = [i] := by simpa using h1
    obtain ⟨o, ho⟩ := Option.isSome_iff_exists.1 h2
    rw [opsAt, ho] at h
    refine wpAnyIn_all h1 (by simp) fun x hx => ?_
    obtain rfl : x = i := by simpa using hx
    have h4 : wpOpIn (Wd r) 0 P ops (noP Q) x (wpListIn (Wd r) 0 P ops (Qa r P ops Q fuel (finL (x :: is) listed)) (opsAt ops is)) a w := by
      unfold wpOpIn
      rw [ho]
      simp only [wpListIn] at h ⊢
      exact h
    exact wpOpIn_mono (fun a w hk => chain_sound is (listed.setIfInBounds x true) a w h3 hk) h4
theorem WA.seq (is : List Nat) {f : Nat} (hf : f = fuel + is.length) (hc : chainB ops is listed = true) (k : WR r P ops (Qa r P ops Q fuel (finL is listed)) n D (opsAt ops is) e w) : WA r P ops Q n D f listed e w := fun a ha => by
  subst hf
  exact chain_sound is listed a w hc (k a ha)
end
section
variable {P : Program} {e : Env} {w : World} {x y : Operand} {dst : Option Tmp} {ty t t' : TypeId} {pos : String} {af : Array Edge} {g : Option (Nat × Bool)} {a b : Bool}
end
end Go.Ph
end
section
set_option linter.unusedVariables false
set_option linter.unusedSimpArgs false
namespace Go.Ph
open Go Go.RowKit
def Keeps {α : Type} (s : Sem α) : Prop := ∀ (P : Program) (w : World) (x : α) (w' : World), s.run P w = .ok x w' → w' = w
theorem Keeps.pure {α : Type} (a : α) : Keeps (Pure.pure a : Sem α) := fun P w x w' h => by
  rw [Sem.run_pure] at h; cases h; rfl
theorem Keeps.bind {α β : Type} {s : Sem α} {f : α → Sem β} (h : Keeps s) (hf : ∀ a, Keeps (f a)) : Keeps (s >>= f) := fun P w x w' hr => by
  rw [Sem.run_bind] at hr
  cases h1 : s.run P w with
  | ok a w1 =>
    rw [h1, Result.andThen_ok] at hr
    rw [h P w a w1 h1] at hr
    exact hf a P w x w' hr
  | halt c w1 => rw [h1] at hr; cases hr
theorem Keeps.load {a : Addr} {m : Mode} : Keeps (Go.load a m) := fun P w x w' h => by
  unfold Go.load at h
  simp only [Sem.run] at h
  split at h
  · cases h; rfl
  · split at h
    · cases h; rfl
    · cases h
theorem Keeps.program : Keeps Go.program := fun P w x w' h => by
  unfold Go.program at h
  simp only [Sem.run] at h
  cases h; rfl
theorem Keeps.halt {α : Type} {c : Halt} : Keeps (Sem.halt c : Sem α) := fun P w x w' h => by
  simp only [Sem.run] at h
  cases h
theorem Keeps.typeInfo {t : TypeId} : Keeps (Go.typeInfo t) := by
  unfold Go.typeInfo
  refine Keeps.bind Keeps.program fun p => ?_
  split
  · exact Keeps.pure _
  · exact Keeps.halt
theorem Keeps.underlying {t : TypeId} : Keeps (Go.underlying t) := by
  unfold Go.underlying
  refine Keeps.bind Keeps.program fun p => ?_
  split
  · exact Keeps.pure _
  · exact Keeps.halt
theorem Keeps.sizeOf {t : TypeId} : Keeps (Go.sizeOf t) := Keeps.bind Keeps.typeInfo fun p => Keeps.pure _
theorem Keeps.isAgg {t : TypeId} : Keeps (Go.isAgg t) := by
  unfold Go.isAgg
  refine Keeps.bind Keeps.underlying fun p => ?_
  split <;> exact Keeps.pure _
theorem Keeps.loadCellsFrom {a : Addr} : ∀ (n i : Nat) (acc : Array Value), Keeps (Go.loadCellsFrom a i n acc)
  | 0, i, acc => Keeps.pure _
  | n + 1, i, acc => Keeps.bind Keeps.load fun v => Keeps.loadCellsFrom n (i + 1) _
theorem Keeps.loadVar {t : TypeId} {a : Addr} : Keeps (Go.loadVar t a) := by
  unfold Go.loadVar
  refine Keeps.bind Keeps.isAgg fun b => ?_
  split
  · exact Keeps.bind Keeps.sizeOf fun n => Keeps.bind (Keeps.loadCellsFrom n 0 _) fun c => Keeps.pure _
  · exact Keeps.load
theorem Keeps.loadAt {t : TypeId} {v : Value} : Keeps (Instr.loadAt t v) := by
  unfold Instr.loadAt
  refine Keeps.bind ?_ fun a => Keeps.loadVar
  unfold Instr.sureAddr
  split
  · exact Keeps.pure _
  · exact Keeps.halt
def quietB (o : Oper) : Bool := match o.op with
  | .move _ => true
  | .assign _ => true
  | .load _ _ => true
  | _ => false
def Quiet (o : Oper) : Prop := ∀ (ρ : Operand → Value) (P : Program) (w : World) (x : Next) (w' : World), (execOp ρ o).run P w = .ok x w' → w' = w ∧ ∃ u, x = .value u
theorem quiet_of {o : Oper} (h : quietB o = true) : Quiet o := fun ρ P w x w' hr => by
  unfold quietB at h
  unfold execOp at hr
  split at h
  · rename_i y hy
    rw [hy] at hr
    simp only [Sem.run_pure] at hr
    cases hr; exact ⟨rfl, _, rfl⟩
  · rename_i y hy
    rw [hy] at hr
    simp only [Sem.run_pure] at hr
    cases hr; exact ⟨rfl, _, rfl⟩
  · rename_i t y hy
    rw [hy] at hr
    simp only [Sem.run_bind] at hr
    cases h1 : (Instr.loadAt t (ρ y)).run P w with
    | ok a w1 =>
      rw [h1] at hr
      simp only [Result.andThen_ok, Sem.run_pure] at hr
      cases hr
      exact ⟨Keeps.loadAt P w a w' h1, _, rfl⟩
    | halt c w1 => rw [h1] at hr; cases hr
  · cases h
def holdB (ops : Array Oper) (listed : Array Bool) (B : List Nat) (i : Nat) : Bool :=
  !B.contains i && (List.range ops.size).all fun k => match ops[k]? with
    | none => true
    | some ok => listed.getD k true || k == i || (bif B.contains k then quietB ok && (match ops[i]? with | some oi => oi.apart ops ok | none => false) else ok.after.any fun e => Region.binds .any e && (e.on == i || (!B.contains e.on && !listed.getD e.on true)))
def YieldsAt (P : Program) (ops : Array Oper) (o : Oper) (v : Value) (a : Act) (w : World) : Prop :=
  Region.wanted o (yielded ops a.tmps) = true ∧ (execOp a.eval o).run P w = .ok (.value v) w ∧ ∀ w, o.about P w a.eval = none
section
variable {F : Fence} {n : Nat} {P : Program} {ops : Array Oper} {Q : Exit → Act → World → Prop}
theorem YieldsAt.wpOpIn {i : Nat} {o : Oper} {v : Value} {a : Act} {w : World} (hro : F.round = none) (hi : ops[i]? = some o) (hy : YieldsAt P ops o v a w) {K : Act → World → Prop} (h : K (a.put o.dst v) w) : wpOpIn F n P ops Q i K a w := by
  unfold Go.wpOpIn
  simp only [hi]
  have hab : ∀ f, o.about P w a.eval = some f → F.fn f := fun f hf => by rw [hy.2.2 w] at hf; cases hf
  simp only [hy.1, if_true, Oper.wpIn, hro, Oper.semAt_none, hy.2.1, Oper.uponIn]
  exact ⟨hab, h⟩
theorem wpOpIn_putQ {j : Nat} {oi oj : Oper} {v : Value} (hro : F.round = none) (hj : ops[j]? = some oj) (hq : Quiet oj) (hap : oi.apart ops oj = true)
    (hsi : ∀ cs b, oi.op ≠ .select cs b) (hsj : ∀ cs b, oj.op ≠ .select cs b)
    (hQ : ∀ c a w, Q (.panic c) (a.put oi.dst v) w → Q (.panic c) a w) {K : Act → World → Prop} {a : Act} {w : World}
    (hy : YieldsAt P ops oi v a w) (h : wpOpIn F n P ops Q j K (a.put oi.dst v) w) :
    wpOpIn F n P ops Q j (fun a' w' => YieldsAt P ops oi v a' w' ∧ K (a'.put oi.dst v) w') a w := by
  obtain ⟨h1, h2, h3⟩ := Oper.apart_spec hap
  have keep : ∀ u, YieldsAt P ops oi v (a.put oj.dst u) w := fun u =>
    ⟨by rw [wanted_put oi a oj.dst u h3]; exact hy.1, by rw [execOp_put oi hsi a oj.dst u h3]; exact hy.2.1, fun w => by rw [about_put oi w a oj.dst u h3]; exact hy.2.2 w⟩
  unfold Go.wpOpIn at *
  simp only [hj] at *
  rw [wanted_put oj a oi.dst v h1, about_put oj w a oi.dst v h1] at h
  split
  · rename_i hw
    simp only [hw, if_true] at h
    unfold Oper.wpIn at *
    rw [about_put oj w a oi.dst v h1] at h
    refine ⟨h.1, ?_⟩
    have h := h.2
    rw [hro, Oper.semAt_none, execOp_put oj hsj a oi.dst v h1] at h
    rw [hro, Oper.semAt_none]
    cases hr : (execOp a.eval oj).run P w with
    | ok x w' =>
      obtain ⟨rfl, u, rfl⟩ := hq _ _ _ _ _ hr
      rw [hr] at h
      simp only [Oper.uponIn] at h ⊢
      exact ⟨keep u, by rw [← Act.put_comm a v u h2]; exact h⟩
    | halt x w' =>
      rw [hr] at h
      cases x <;> simp only [Oper.uponIn] at h ⊢
      case panic u => exact hQ _ _ _ h
  · rename_i hw
    simp only [hw] at h
    exact ⟨h.1, keep _, by rw [← Act.put_comm a v undef h2]; exact h.2⟩
theorem wpAnyIn_firstQ {i : Nat} {oi : Oper} {v : Value} {B : List Nat} {L0 : Array Bool} (hro : F.round = none) (hi : ops[i]? = some oi) (hsel : ∀ (j : Nat) (o : Oper) cs b, ops[j]? = some o → o.op ≠ .select cs b)
    (hQ : ∀ c a w, Q (.panic c) (a.put oi.dst v) w → Q (.panic c) a w) (hiB : i ∉ B) (hi0 : L0.getD i true = false)
    (hk : ∀ k ok, ops[k]? = some ok → L0.getD k true = false → k ≠ i → (k ∈ B ∧ Quiet ok ∧ oi.apart ops ok = true) ∨ (k ∉ B ∧ ∃ e ∈ ok.after, Region.binds .any e = true ∧ (e.on = i ∨ (e.on ∉ B ∧ L0.getD e.on true = false)))) :
    ∀ (fuel : Nat) (listed : Array Bool) (a : Act) (w : World), (∀ k, k ∉ B → L0.getD k true = false → listed.getD k false = false ∧ listed.getD k true = false) → (∀ k, L0.getD k true = true → listed.getD k true = true) →
      i ∈ Region.ready .any ops listed → YieldsAt P ops oi v a w →
      wpAnyIn F n P .any ops Q fuel (listed.setIfInBounds i true) (a.put oi.dst v) w → wpAnyIn F n P .any ops Q (fuel + 1) listed a w := by
  have inB : ∀ (listed : Array Bool) (j : Nat), (∀ k, k ∉ B → L0.getD k true = false → listed.getD k false = false ∧ listed.getD k true = false) → (∀ k, L0.getD k true = true → listed.getD k true = true) → j ∈ Region.ready .any ops listed → j ≠ i →
      ∃ oj, ops[j]? = some oj ∧ j ∈ B ∧ Quiet oj ∧ oi.apart ops oj = true := fun listed j hs1 hs2 hj hji => by
    obtain ⟨hjun, oj, hoj, hall⟩ := mem_ready.1 hj
    have h0 : L0.getD j true = false := by
      cases hc : L0.getD j true with
      | false => rfl
      | true => rw [hs2 j hc] at hjun; cases hjun
    rcases hk j oj hoj h0 hji with ⟨h1, h2, h3⟩ | ⟨h1, e, he, hb, hor⟩
    · exact ⟨oj, hoj, h1, h2, h3⟩
    · have h4 := hall e he hb
      rcases hor with h5 | ⟨h5, h6⟩
      · rw [h5, (hs1 i hiB hi0).1] at h4; cases h4
      · rw [(hs1 e.on h5 h6).1] at h4; cases h4
  intro fuel
  induction fuel with
  | zero =>
    intro listed a w hs1 hs2 hr hy H
    refine ⟨fun h => (by rw [h] at hr; cases hr), fun j hj => ?_⟩
    by_cases hji : j = i
    · subst hji; exact hy.wpOpIn hro hi H
    · have := ready_mono hj hji
      rw [H.1] at this
      cases this
  | succ fuel ih =>
    intro listed a w hs1 hs2 hr hy H
    refine ⟨fun h => (by rw [h] at hr; cases hr), fun j hj => ?_⟩
    by_cases hji : j = i
    · subst hji; exact hy.wpOpIn hro hi H
    · obtain ⟨oj, hoj, hjB, hq, hap⟩ := inB listed j hs1 hs2 hj hji
      have h1 := H.2 j (ready_mono hj hji)
      have h2 := wpOpIn_putQ hro hoj hq hap (fun cs b => hsel i oi cs b hi) (fun cs b => hsel j oj cs b hoj) hQ hy h1
      refine wpOpIn_mono (fun a' w' h3 => ih (listed.setIfInBounds j true) a' w' (fun k hkB hk0 => ?_) (fun k hk0 => ?_) (ready_mono hr (Ne.symm hji)) h3.1 ?_) h2
      · have hjk : j ≠ k := fun h => hkB (h ▸ hjB)
        rw [getD_set_ne false hjk, getD_set_ne true hjk]
        exact hs1 k hkB hk0
      · by_cases hjk : j = k
        · subst hjk
          rcases Nat.lt_or_ge j listed.size with h' | h'
          · simp [h']
          · simp [Array.getElem?_eq_none h']
        · rw [getD_set_ne true hjk]; exact hs2 k hk0
      · rw [Array.setIfInBounds_comm _ _ hji]
        exact h3.2
end
section
variable {P : Program} {ops : Array Oper} {Q : Exit → Act → World → Prop} {n fuel i d : Nat} {D : List Deferred} {e : Env} {w : World} {listed : Array Bool} {o : Oper} {v : Value}
theorem getD_ff {l : Array Bool} {k : Nat} (h : l.getD k true = false) : l.getD k false = false := by
  rcases Nat.lt_or_ge k l.size with h' | h'
  · simp [h'] at h ⊢; exact h
  · simp [Array.getElem?_eq_none h'] at h
theorem WA.takeM (B : List Nat) (ho : ops[i]? = some o) (hs : Region.noSelect ops = true) (hk : holdB ops listed B i = true) (hr : (Region.ready .any ops listed).contains i = true) (hx : Ex P o e w v w) (hw : Wn ops n D e o) (hd : o.dst = some d) (hn : Nat.blt d n = true)
    (hab : ∀ w ρ, o.about P w ρ = none) (k : WA none P ops Q n D fuel (listed.setIfInBounds i true) ((d, v) :: e) w) : WA none P ops Q n D (fuel + 1) listed e w := fun a ha => by
  unfold holdB at hk
  rw [Bool.and_eq_true] at hk
  have hiB : i ∉ B := by simpa using hk.1
  have hr' : i ∈ Region.ready .any ops listed := by simpa using hr
  have hi0 := (mem_ready.1 hr').1
  refine wpAnyIn_firstQ (F := Wd none) (B := B) (L0 := listed) rfl ho (Region.noSelect_spec hs) (fun _ _ _ h => h) hiB hi0 (fun j oj hj h0 hji => ?_) fuel listed a w (fun k _ h0 => ⟨getD_ff h0, h0⟩) (fun k h => h) hr' ⟨hw a ha, hx.2 _ ha.fits, fun w => hab w _⟩ ?_
  · have hlt : j < ops.size := (Array.getElem?_eq_some_iff.1 hj).1
    have := List.all_eq_true.1 hk.2 j (List.mem_range.2 hlt)
    rw [hj] at this
    simp only [h0, Bool.false_or, Bool.or_eq_true, beq_iff_eq, hji, false_or] at this
    cases hB : B.contains j with
    | true =>
      rw [hB, cond_true, ho, Bool.and_eq_true] at this
      exact .inl ⟨by simpa using hB, quiet_of this.1, this.2⟩
    | false =>
      rw [hB, cond_false] at this
      obtain ⟨ed, h1, h2⟩ := Array.any_eq_true'.1 this
      simp only [Bool.and_eq_true, Bool.or_eq_true, beq_iff_eq, Bool.not_eq_true'] at h2
      refine .inr ⟨by simpa using hB, ed, h1, h2.1, ?_⟩
      rcases h2.2 with h3 | ⟨h3, h4⟩
      · exact .inl h3
      · exact .inr ⟨by simpa using h3, h4⟩
  · rw [hd]
    exact k _ (ha.put (Nat.le_of_ble_eq_true hn) v)
end
end Go.Ph
end
section
set_option linter.unusedVariables false
set_option linter.unusedSimpArgs false
namespace Go.Ph
open Go Go.RowKit
namespace Pl
def runL {σ α : Type} (Y : σ → α → Option (σ × Bool)) : List α → σ → Option σ
  | [], s => some s
  | x :: xs, s => (Y s x).bind fun r => if r.2 = true then runL Y xs r.1 else some r.1
def stepY {σ α : Type} (stop : σ → Bool) (B : σ → α → Option σ) (s : σ) (x : α) : Option (σ × Bool) := if stop s = true then none else (B s x).map fun s' => (s', !stop s')
abbrev goOn {σ : Type} : σ → Bool := fun _ => false
theorem runL_goOn {σ α : Type} (B : σ → α → Option σ) : ∀ (xs : List α) (s : σ), runL (stepY goOn B) xs s = xs.foldlM B s
  | [], s => rfl
  | x :: xs, s => by
    rw [runL, List.foldlM_cons]
    show Option.bind _ _ = Option.bind _ _
    unfold stepY
    rw [if_neg (by simp)]
    cases h : B s x with
    | none => rfl
    | some s' =>
      exact runL_goOn B xs s'
end Pl
open Pl
def Thru {σ α : Type} (Y : σ → α → Option (σ × Bool)) : List α → σ → σ → Prop
  | [], s, s1 => s1 = s
  | x :: xs, s, s1 => ∃ s2, Y s x = some (s2, true) ∧ Thru Y xs s2 s1
theorem Thru.run {σ α : Type} {Y : σ → α → Option (σ × Bool)} : ∀ {pre rest : List α} {s s1 : σ}, Thru Y pre s s1 → runL Y (pre ++ rest) s = runL Y rest s1
  | [], rest, s, s1, h => by cases h; rfl
  | x :: xs, rest, s, s1, ⟨s2, h1, h2⟩ => by
    rw [List.cons_append, runL, h1]
    exact h2.run
structure ItS {α : Type} (P : Program) (f : FuncId) (cap : List Value) (A : List Item) (Pre : Mem → Prop) (enc : α → Value) (run : (σ : Type) → (σ → α → Option (σ × Bool)) → σ → Option σ) : Prop where
  enters : ∀ ar w, (callFunc f ar).run P w = .ok (.enter f ar) w
  calls : ∀ (l : Nat) (σ : Type) (Y : σ → α → Option (σ × Bool)) (Z : σ → List Item → Mem → Prop), (∀ s L M M', Z s L M → M.le M' → Z s L M') →
    (∀ s x s' b L w M, Y s x = some (s', b) → Z s L M → StX (feet L) w M M L w → YieldAt (Wd none) 0 P l #[enc x] w fun e w' => ∃ M' L', StX (feet L) w M M' L' w' ∧ e = .returned (.bool b) ∧ Z s' L' M') →
    ∀ s s' L w M, run σ Y s = some s' → Z s L M → StX (feet (A ++ L)) w M M (A ++ L) w → Pre M →
    Calls P f (yv l :: cap).toArray w fun e w' => ∃ r M' L', e = .returned r ∧ StX (feet (A ++ L)) w M M' L' w' ∧ Z s' L' M'
section
variable {C : Nat → Prop} {r : Option Nat} {P : Program} {ops : Array Oper} {Q : Exit → Act → World → Prop} {n : Nat} {D : List Deferred} {rest : List Oper} {e : Env} {w0 w : World} {M0 M : Mem} {L B : List Item} {d : Nat}
  {x y : Operand} {ty t ts t' : TypeId} {pos : String} {af : Array Edge} {g : Option (Nat × Bool)} {α σ : Type} {enc : α → Value}
def lpS (rc : LoopState → Option Code → Loop) : Option Code → Loop
  | none => rc .ready none
  | some c => rc .done (some c)
def RS (Z : σ → List Item → Mem → Prop) (E : σ → Option Code) (lid : Nat) (rc : LoopState → Option Code → Loop) (Lh : List Item) (w : World) (M : Mem) (s : σ) (en : Ending) (w' : World) : Prop :=
  ∃ M' L0, StX (feet Lh) w M M' (.blk lid (.loop (lpS rc (E s))) :: L0) w' ∧ en = .returned (.bool (E s).isNone) ∧ Z s L0 M'
variable {lid : Nat} {rc : LoopState → Option Code → Loop} {Z : σ → List Item → Mem → Prop} {E : σ → Option Code} {s : σ} {w1 : World} {M1 : Mem} {Lh L0 : List Item}
theorem WQ.rsOn (hrc : LoopRec rc) (H : StX (feet Lh) w1 M1 M (.blk lid (.loop (rc .busy none)) :: L0) w) (hE : E s = none) (hZ : Z s L0 M) :
    WQ (roundPost P lid (RS Z E lid rc Lh w1 M1 s)) .normal n D e w := fun a _ => by
  have hb := H.blk (List.Mem.head _)
  have hr := run_endRound (P := P) none hb
  simp only [Option.isNone_none, if_true] at hr
  rw [hrc.setP] at hr
  exact ⟨_, _, hr, M, L0, by rw [hE]; exact H.put .head, by rw [hE]; rfl, hZ⟩
theorem WC.rangeS {Lall A : List Item} {f : FuncId} {cap : List Value} {Pre : Mem → Prop} {run : (σ : Type) → (σ → α → Option (σ × Bool)) → σ → Option σ} {gv : Operand} {p : Tmp} {assign body : Code}
    (H : StX C w0 M0 M Lall w) (hg : ev e gv = some (.func (.func f) #[] cap.toArray)) (hit : ItS P f cap A Pre enc run) (hs : Spl Lall (A ++ L) B) (hp : Pre M) (hpn : Nat.blt p n = true)
    (Z : σ → List Item → Mem → Prop) (E : σ → Option Code) (stop : σ → Bool) (hE : ∀ s, stop s = (E s).isSome) (Bd : σ → α → Option σ) (s0 s1 : σ) (hrun : run σ (stepY stop Bd) s0 = some s1)
    (hZ : ∀ s L M M', Z s L M → M.le M' → Z s L M') (hE0 : E s0 = none) (hz : Z s0 L M)
    (hbody : ∀ (lid : Nat) (rc : LoopState → Option Code → Loop), LoopRec rc → ∀ s x s' L w M, E s = none → Bd s x = some s' → Z s L M →
      StX (feet (.blk lid (.loop (rc .ready none)) :: L)) w M M (.blk lid (.loop (rc .ready none)) :: L) w →
      WC (some lid) P (asgPost P lid body (RS Z E lid rc (.blk lid (.loop (rc .ready none)) :: L) w M s')) n [] assign ((p, enc x) :: e) w)
    (hdone : ∀ Dm w M' L', StX C w0 M0 M' (L' ++ (.blk Dm (.deferred (some [])) :: B)) w → M.le M' → E s1 = none → Z s1 L' M' → WQ Q .normal n (mark Dm :: D) e w)
    (hstop : ∀ Dm w M' L' c, StX C w0 M0 M' (L' ++ (.blk Dm (.deferred (some [])) :: B)) w → M.le M' → E s1 = some c → Z s1 L' M' → WC none P Q n (mark Dm :: D) c e w) :
    WC none P Q n D (.rangeFunc gv #[p] assign body) e w := by
  intro a ha
  refine wpIn_rangeFunc (F := Wd none) (n := 0) ?_
  intro fn _
  obtain ⟨rc, hrcd⟩ : ∃ rc : LoopState → Option Code → Loop, rc = fun st pe => { state := st, pending := pe, fn, tmps := a.tmps, params := #[p], assign, body, defers := w.heap.size } := ⟨_, rfl⟩
  have hrc : LoopRec rc := by subst hrcd; exact ⟨fun _ _ => rfl, fun _ _ => rfl, fun _ _ _ => rfl, fun _ _ _ _ => rfl⟩
  have H1 : StX C w0 M0 M (.blk w.heap.size (.deferred (some [])) :: Lall) (w.alloc (.deferred (some []))) :=
    H.new (grownBy_alloc' _ _) (World.alloc_heap_new w _) (fun b hb => by cases hb; exact Nat.le_refl _)
  have H2 : StX C w0 M0 M (.blk (w.heap.size + 1) (.loop (rc .ready none)) :: .blk w.heap.size (.deferred (some [])) :: Lall) ((w.alloc (.deferred (some []))).alloc (.loop (rc .ready none))) :=
    H1.new (grownBy_alloc' _ _) (by have := World.alloc_heap_new (w.alloc (.deferred (some []))) (.loop (rc .ready none)); rwa [World.size_alloc] at this) (fun b hb => by cases hb; simp)
  obtain ⟨W, hW⟩ : ∃ W, (w.alloc (.deferred (some []))).alloc (.loop (rc .ready none)) = W := ⟨_, rfl⟩
  rw [hW] at H2
  have hperm : (Item.blk (w.heap.size + 1) (.loop (rc .ready none)) :: .blk w.heap.size (.deferred (some [])) :: Lall).Perm ((A ++ (.blk (w.heap.size + 1) (.loop (rc .ready none)) :: L)) ++ (.blk w.heap.size (.deferred (some [])) :: B)) := by
    have h1 : Lall.Perm (A ++ L ++ B) := hs.perm
    have h2 : (A ++ (Item.blk (w.heap.size + 1) (.loop (rc .ready none)) :: L)).Perm (.blk (w.heap.size + 1) (.loop (rc .ready none)) :: (A ++ L)) := List.perm_middle
    refine (((h1.cons _).trans List.perm_middle.symm).cons _).trans ?_
    exact (h2.append_right _).symm
  have H3 := H2.perm hperm
  refine ⟨w.heap.size + 1, [mark w.heap.size], W, { target := .fn (.func f) cap.toArray, args := #[yv (w.heap.size + 1)] }, W, f, (yv (w.heap.size + 1) :: cap).toArray, W, ?_, ?_, fun _ _ => trivial, ?_, fun h => (by cases h), ?_⟩
  · rw [← hW, hrcd]; exact run_enterLoop_outer _ _ _ _ _
  · have h1 := ha.fits _ _ hg
    simp only [resolve, h1, Deferred.ofValue, Sem.run_pure, List.map_toArray, List.map_cons, List.map_nil, Array.empty_append]
    rfl
  · simp only [invoke, List.append_toArray, List.cons_append, List.nil_append, hit.enters]
  · refine callsIn_Wd.2 ((hit.calls (w.heap.size + 1) σ (stepY stop Bd) (fun s L M => ∃ L0, L = .blk (w.heap.size + 1) (.loop (lpS rc (E s))) :: L0 ∧ Z s L0 M) (fun s L M M' ⟨L0, h1, h2⟩ hle => ⟨L0, h1, hZ _ _ _ _ h2 hle⟩) ?_ s0 s1 _ W M hrun ⟨L, by rw [hE0]; rfl, hz⟩ (H3.hand (Spl.append _ _)) hp).mono ?_)
    · rintro s x s' b L1 w1 M1 hy ⟨L0, rfl, hz0⟩ Hs
      unfold stepY at hy
      split at hy
      case isTrue => cases hy
      rename_i hst
      have hEs : E s = none := by
        cases hc : E s with
        | none => rfl
        | some c => rw [hE, hc] at hst; exact absurd rfl hst
      obtain ⟨s2, hB, heq⟩ := Option.map_eq_some_iff.1 hy
      obtain ⟨rfl, rfl⟩ := Prod.mk.inj heq
      rw [hEs] at Hs
      have hl := Hs.blk (List.Mem.head _)
      have hy := run_yield (P := P) (args := #[enc x]) hl (by rw [lpS, hrcd]; rfl)
      refine ⟨_, _, _, _, hy, roundIn_of_wpIn trivial ?_⟩
      have hb := hbody (w.heap.size + 1) rc hrc s x s2 L0 w1 M1 hEs hB hz0 Hs
      have hsat : Sat n [] ((p, enc x) :: e) { tmps := (((rc .ready none).params.zip #[enc x]).foldl (fun tmps (t, a) => tmps.setIfInBounds t a) (rc .ready none).tmps), defers := [] } := by
        have h1 := Sat.put (D := []) (a := { tmps := a.tmps, defers := [] }) (e := e) (n := n) ⟨ha.size, rfl, ha.val⟩ (Nat.le_of_ble_eq_true hpn) (enc x)
        rw [hrcd]
        simpa [Act.put] using h1
      have hfin := hb _ hsat
      have hpost : ∀ en w', RS Z E (w.heap.size + 1) rc (.blk (w.heap.size + 1) (.loop (rc .ready none)) :: L0) w1 M1 s2 en w' →
          ∃ M' L', StX (feet (.blk (w.heap.size + 1) (.loop (lpS rc (E s))) :: L0)) w1 M1 M' L' w' ∧ en = .returned (.bool (!stop s2)) ∧ ∃ L0, L' = .blk (w.heap.size + 1) (.loop (lpS rc (E s2))) :: L0 ∧ Z s2 L0 M' := by
        rintro en w' ⟨M', L2, h1, h2, h3⟩
        refine ⟨M', _, by rw [hEs]; exact h1, ?_, L2, rfl, h3⟩
        rw [h2, hE]
        cases E s2 <;> rfl
      have hpe : RS Z E (w.heap.size + 1) rc (.blk (w.heap.size + 1) (.loop (rc .ready none)) :: L0) w1 M1 s2 = fun en w' => ∃ M' L', StX (feet (.blk (w.heap.size + 1) (.loop (lpS rc (E s))) :: L0)) w1 M1 M' L' w' ∧ en = .returned (.bool (!stop s2)) ∧ ∃ L0, L' = .blk (w.heap.size + 1) (.loop (lpS rc (E s2))) :: L0 ∧ Z s2 L0 M' := by
        funext en w'
        refine propext ⟨hpost en w', ?_⟩
        rintro ⟨M', L', h1, h2, L2, rfl, h3⟩
        refine ⟨M', L2, by rw [hEs] at h1; exact h1, ?_, h3⟩
        rw [h2, hE]
        cases E s2 <;> rfl
      rw [hpe] at hfin
      rw [lpS]
      rw [hrcd] at hfin ⊢
      exact hfin
    · rintro en w3 ⟨rv, M', L', rfl, Hs, L0, rfl, hz'⟩
      have Hb := H3.back (Spl.append _ _) Hs
      have hle : M.le M' := Hs.ext.le
      have hd : Sat n (mark w.heap.size :: D) e { a with defers := [mark w.heap.size] ++ a.defers } := ⟨ha.size, by simp [ha.defers], ha.val⟩
      have hl := Hb.blk (List.Mem.head _)
      cases hEs : E s1 with
      | none =>
        rw [hEs] at hl Hb
        have hr := run_endLoop (P := P) hl (by rw [lpS, hrc.state]; intro h; cases h)
        rw [lpS, hrc.setS, hrc.pending] at hr
        have Hc := (Hb.put (o' := .loop (rc .exhausted none)) .head).drop (List.sublist_cons_self _ _)
        exact ⟨none, _, hr, hdone _ _ M' L0 Hc hle hEs hz' _ hd⟩
      | some c =>
        rw [hEs] at hl Hb
        have hr := run_endLoop (P := P) hl (by rw [lpS, hrc.state]; intro h; cases h)
        rw [lpS, hrc.setS, hrc.pending] at hr
        have Hc := (Hb.put (o' := .loop (rc .exhausted (some c))) .head).drop (List.sublist_cons_self _ _)
        exact ⟨some c, _, hr, hstop _ _ M' L0 c Hc hle hEs hz' _ hd⟩
variable {fn : Func} {R : Value → Mem → Prop} {v v1 v2 v3 : Value} {x1 x2 x3 : ResultVar} {Dm : Nat} {L' : List Item}
theorem WQ.mret2 (hr : fn.results = #[x1, x2]) (h1 : resv P w e x1 v1) (h2 : resv P w e x2 v2) (H : Ext w0 M0 w M) (hR : R (.tuple #[v1, v2]) M) : WQ (bodyPostM (Wd none) 0 P fn (Ret w0 M0 R)) .ret n [] e w :=
  WQ.retM0 (resv_run2 hr h1 h2) ⟨_, M, rfl, H, hR⟩
theorem WQ.nret2 (hr : fn.results = #[x1, x2]) (H : St w0 M0 M L w) (hrm : Rem L (.blk Dm (.deferred (some []))) L') (k : ∀ w, St w0 M0 M L' w → resv P w e x1 v1 ∧ resv P w e x2 v2) (hR : R (.tuple #[v1, v2]) M) : WQ (bodyPostM (Wd none) 0 P fn (Ret w0 M0 R)) .ret n [mark Dm] e w :=
  WQ.retM1 H hrm fun w' H' => ⟨_, resv_run2 hr (k w' H').1 (k w' H').2, _, M, rfl, H'.ext, hR⟩
end
end Go.Ph
end
section
set_option linter.unusedVariables false
set_option linter.unusedSimpArgs false
namespace Go.Ph
open Go Go.RowKit Pl
theorem CtX.of {P : Program} {f : FuncId} {fn : Func} {c : Code} {args : List Value} {A : List Item} {Pre : Mem → Prop} {R : Value → Mem → List Item → Prop} {n : Nat}
    (hf : P.funcs[f]? = some fn) (hen : ∀ ar w, (callFunc f ar).run P w = .ok (.enter f ar) w) (hb : fn.body = some c) (hnt : fn.ntmps = n) (hn : Nat.ble args.length n = true)
    (h : ∀ w M, StX (feet A) w M M A w → Pre M → WC none P (bodyPost P fn (RetX A w M R)) n [] c (envOf 0 args) w) : CtX P f args A Pre R :=
  ⟨hen, fun w M ha hp => calls_of_WC hf hb hnt hn (h w M ha hp)⟩
section
variable {C : Nat → Prop} {r : Option Nat} {P : Program} {ops : Array Oper} {Q : Exit → Act → World → Prop} {n : Nat} {D : List Deferred} {rest : List Oper} {e : Env} {w0 w : World} {M0 M : Mem} {L L' A B : List Item} {d : Nat} {v v1 v2 v3 v4 u z : Value}
  {x y : Operand} {ty t t' te ts tt : TypeId} {pos : String} {af : Array Edge} {g : Option (Nat × Bool)} {dst : Option Tmp}
theorem WR.callX {f : FuncId} {ar : List Operand} {vs : List Value} {tys : Array TypeId} {Pre : Mem → Prop} {R : Value → Mem → List Item → Prop} (H : StX C w0 M0 M L w) (hs : CtX P f vs A Pre R) (hspl : Spl L A B) (ha : evs e ar = some vs) (hp : Pre M)
    (hw : Wn ops n D e ⟨some d, .call ⟨.value (.func f), ar.toArray, tys⟩, ty, pos, af, g⟩) (hn : Nat.blt d n = true)
    (k : ∀ v M' w' its, StX C w0 M0 M' (its ++ B) w' → M.le M' → R v M' its → WR r P ops Q n D rest ((d, v) :: e) w') :
    WR r P ops Q n D (⟨some d, .call ⟨.value (.func f), ar.toArray, tys⟩, ty, pos, af, g⟩ :: rest) e w := by
  intro a hsat
  unfold wpListIn
  rw [if_pos (hw a hsat)]
  refine ⟨fun _ _ => trivial, ?_⟩
  rw [Oper.semAt_eq _ _ _ (fun c h => by cases h)]
  have hv : ar.map a.eval = vs := hsat.fits.evs ha
  have hf : a.eval (.func f) = .func (.func f) #[] #[] := rfl
  have hrun : (execOp a.eval ⟨some d, .call ⟨.value (.func f), ar.toArray, tys⟩, ty, pos, af, g⟩).run P w = .ok (.enter f vs.toArray) w := by
    simp only [execOp, resolve, hf, Deferred.ofValue, Sem.run_bind, Sem.run_pure, Result.andThen_ok, invoke, List.map_toArray, hv, Array.append_empty, Array.empty_append, hs.enters]
  rw [hrun, Oper.uponIn_enter]
  refine ⟨fun h => (by cases h), callsIn_Wd.2 ((hs.calls w M (H.hand hspl) hp).mono ?_)⟩
  rintro en w' ⟨rv, M', its, rfl, hx, hR⟩
  exact k rv M' w' its (H.back hspl hx) hx.ext.le hR _ (hsat.put (Nat.le_of_ble_eq_true hn) rv)
section ret
variable {fn : Func} {R : Value → Mem → List Item → Prop} {its : List Item} {x1 x2 x3 x4 : ResultVar}
theorem WQ.endX0 (hr : fn.results = #[]) (H : StX (feet A) w0 M0 M L w) (hp : Pick L its) (hR : R (.tuple #[]) M its) : WQ (bodyPost P fn (RetX A w0 M0 R)) .normal n [] e w :=
  fun a ha => ⟨ha.defers, .tuple #[], by simp [results, hr], _, M, its, rfl, H.pick hp, hR⟩
theorem WQ.retX1 (hr : fn.results = #[x1]) (h1 : resv P w e x1 v1) (H : StX (feet A) w0 M0 M L w) (hp : Pick L its) (hR : R v1 M its) : WQ (bodyPost P fn (RetX A w0 M0 R)) .ret n [] e w :=
  fun a ha => ⟨ha.defers, v1, by rw [results_eq, hr]; exact run_res1 _ (resv_run ha h1), _, M, its, rfl, H.pick hp, hR⟩
theorem WQ.retX2 (hr : fn.results = #[x1, x2]) (h1 : resv P w e x1 v1) (h2 : resv P w e x2 v2) (H : StX (feet A) w0 M0 M L w) (hp : Pick L its) (hR : R (.tuple #[v1, v2]) M its) : WQ (bodyPost P fn (RetX A w0 M0 R)) .ret n [] e w :=
  fun a ha => ⟨ha.defers, .tuple #[v1, v2], by rw [results_eq, hr]; exact run_res2 _ (resv_run ha h1) (resv_run ha h2), _, M, its, rfl, H.pick hp, hR⟩
end ret
end
end Go.Ph
end
section
set_option linter.unusedVariables false
set_option linter.unusedSimpArgs false
namespace Go.Ph
open Go Go.RowKit Pl
def BPM (M : Mem) (b : Nat) (p : Value) : Prop := p = .pointer none ∨ p = ptr b 0
theorem BPM.mono {M M' : Mem} {b : Nat} {p : Value} (h : BPM M b p) (_ : M.le M') : BPM M' b p := h
theorem BPM.nil {M : Mem} {b : Nat} : BPM M b (.pointer none) := .inl rfl
theorem BPM.self {M : Mem} {b : Nat} : BPM M b (ptr b 0) := .inr rfl
def SDat (v : Value) (l : List UInt8) (q : Value) : Prop := ∃ a, q = .pointer a ∧ (l ≠ [] → ∃ g cp, v = .slice (some ⟨g, 0, none⟩) l.length cp ∧ a = some ⟨g, 0, none⟩)
section
variable {C : Nat → Prop} {r : Option Nat} {P : Program} {ops : Array Oper} {Q : Exit → Act → World → Prop} {n : Nat} {D : List Deferred} {rest : List Oper} {e : Env} {w0 w : World} {M0 M : Mem} {L L' A B : List Item} {d : Nat} {v q u z : Value}
  {x y : Operand} {ty t t' te ts tt pt : TypeId} {pos : String} {af : Array Edge} {g : Option (Nat × Bool)} {l : List UInt8}
theorem Ex.builtinSD {w' : World} (hx : ev e x = some v) (hr : (Builtin.unsafeSliceData_ #[ts] ty #[v]).run P w = .ok q w') : Ex P ⟨some d, .call ⟨.builtin .unsafeSliceData, #[x], #[ts]⟩, ty, pos, af, g⟩ e w q w' :=
  ⟨nofun, fun ρ hf => by
    have h1 := hf _ _ hx
    simp [execOp, resolve, h1, invoke, hr, go_sem]⟩
theorem WR.sliceData (hp : P.underlying ty = some (.pointer t)) (H : StX C w0 M0 M L w) (hm : RowI t encB v l ∈ L) (hx : ev e x = some v)
    (hw : Wn ops n D e ⟨some d, .call ⟨.builtin .unsafeSliceData, #[x], #[ts]⟩, ty, pos, af, g⟩) (hn : Nat.blt d n = true)
    (k : ∀ q w', StX C w0 M0 M L w' → SDat v l q → WR r P ops Q n D rest ((d, q) :: e) w') :
    WR r P ops Q n D (⟨some d, .call ⟨.builtin .unsafeSliceData, #[x], #[ts]⟩, ty, pos, af, g⟩ :: rest) e w := by
  rcases (H.rowOf hm).2 with ⟨hv, hn0⟩ | ⟨gg, cap, cur, hv, hg0, hg, hrest⟩
  · subst hv
    refine WR.run (Ex.builtinSD hx (Lib.run_unsafeSliceData_nil _ _ _ _ _)) hw rfl hn (k _ _ H ⟨none, rfl, fun h => ?_⟩)
    exact absurd (List.eq_nil_of_length_eq_zero hn0) h
  · subst hv
    by_cases hc : cap = 0
    · subst hc
      refine WR.run (Ex.builtinSD hx (Lib.run_unsafeSliceData_zero _ _ _ t hp ⟨gg, 0, none⟩ _ (t, cur.size) (by simp [World.shape?, hg]))) hw rfl hn (k _ _ (H.grow (grownBy_alloc' _ _)) ⟨_, rfl, fun h => ?_⟩)
      have : l.length ≠ 0 := by simpa using h
      have h1 := hrest.1
      omega
    · exact WR.run (Ex.builtinSD hx (Lib.run_unsafeSliceData_row _ _ _ _ _ _ hc)) hw rfl hn (k _ _ H ⟨_, rfl, fun _ => ⟨gg, cap, rfl, rfl⟩⟩)
theorem Ex.builtinUS {w' : World} (hx : ev e x = some q) (hy : ev e y = some z) (hr : (Builtin.unsafeString_ #[pt, tt] ty #[q, z]).run P w = .ok v w') : Ex P ⟨some d, .call ⟨.builtin .unsafeString, #[x, y], #[pt, tt]⟩, ty, pos, af, g⟩ e w v w' :=
  ⟨nofun, fun ρ hf => by
    have h1 := hf _ _ hx
    have h2 := hf _ _ hy
    simp [execOp, resolve, h1, h2, invoke, hr, go_sem]⟩
theorem grownBy_freeze (w : World) (gg k : Nat) : w.grownBy (w.freeze ⟨gg, 0, none⟩ k) (some gg) := by
  unfold World.freeze
  split
  · exact ⟨rfl, rfl, rfl, Nat.le_refl _, fun _ _ _ => rfl⟩
  · refine ⟨rfl, rfl, rfl, by simp, fun k _ hk => ?_⟩
    simp only [Array.getElem?_modify]
    rw [if_neg]
    intro h; exact hk (by rw [← h])
theorem StX.turn {it : Item} {w' : World} (H : StX C w0 M0 M L w) (hr : Rem L it L') (hg : w.grownBy w' it.foot) : StX C w0 M0 M L' w' := by
  have hit := H.own _ hr.mem
  refine ⟨H.ext.grown hg (fun b hb => hit.2 b hb), fun x hx => ?_, H.sep.sublist hr.sublist⟩
  have h2 := H.own x (hr.sublist.subset hx)
  refine ⟨h2.1.kept (fun b hb => hg.block b (h2.1.lt b hb) (fun he => ?_)), h2.2⟩
  exact hr.pairs (R := Apart) (fun x y h => h.symm) H.sep x hx b he.symm hb
theorem WR.unsafeStr (hp : P.underlying pt = some (.pointer t)) (hc : P.cellsOf t = 1) (H : StX C w0 M0 M L w) (hr : Rem L (RowI t encB v l) L') (hq : SDat v l q) (hx : ev e x = some q) (hy : ev e y = some (I l.length))
    (hw : Wn ops n D e ⟨some d, .call ⟨.builtin .unsafeString, #[x, y], #[pt, tt]⟩, ty, pos, af, g⟩) (hn : Nat.blt d n = true)
    (k : ∀ w', StX C w0 M0 M L' w' → WR r P ops Q n D rest ((d, S l) :: e) w') :
    WR r P ops Q n D (⟨some d, .call ⟨.builtin .unsafeString, #[x, y], #[pt, tt]⟩, ty, pos, af, g⟩ :: rest) e w := by
  obtain ⟨a, rfl, hq⟩ := hq
  by_cases hl : l = []
  · subst hl
    exact WR.run (Ex.builtinUS hx hy (Lib.run_unsafeString_none _ _ _ _ _)) hw rfl hn (k _ (H.drop hr.sublist))
  · obtain ⟨gg, cp, rfl, rfl⟩ := hq hl
    have hown := H.rowOf hr.mem
    rcases hown.2 with ⟨hv, _⟩ | ⟨g2, cap, cur, hv, hg0, hg, hrest⟩
    · cases hv
    · cases hv
      have h63 : l.length ≤ 9223372036854775807 := by have h1 := hrest.1; have h2 := hrest.2.1; unfold maxLen at h2; omega
      have hcur : cur.size = cp * 1 := hrest.2.2.1
      have hrun := Lib.run_unsafeString_row (P := P) w pt tt ty t hp hc gg cur.size (by simp [World.shape?, hg]) l hl (by have h1 := hrest.1; omega) h63 (fun j x hx => by
        have htake := hrest.2.2.2
        have h1 : (cur.toList.take (l.length * 1))[j]? = some (encB x) := by rw [htake, List.getElem?_map, hx]; rfl
        have hj : j < l.length := (List.getElem?_eq_some_iff.1 hx).1
        rw [Addr.add_lit, Nat.zero_add, Lib.cell_of_heap hg]
        rw [List.getElem?_take, if_pos (by omega)] at h1
        simpa using h1)
      exact WR.run (Ex.builtinUS hx hy hrun) hw rfl hn (k _ (H.turn hr (grownBy_freeze w gg _)))
end
structure ZH {σ : Type} (Z : σ → List Item → Mem → Prop) (s : σ) (L : List Item) (M : Mem) : Prop where
  z : Z s L M
  m : ∀ s L M M', Z s L M → M.le M' → Z s L M'
theorem ZH.mono {σ : Type} {Z : σ → List Item → Mem → Prop} {s : σ} {L : List Item} {M M' : Mem} (h : ZH Z s L M) (hl : M.le M') : ZH Z s L M' := ⟨h.m _ _ _ _ h.z hl, h.m⟩
end Go.Ph
end
section
set_option linter.unusedVariables false
set_option linter.unusedSimpArgs false
namespace Go.Ph
open Go Go.RowKit
namespace Pl
end Pl
open Pl
theorem Pick.skip {L L' : List Item} {x : Item} (h : Pick L L') : Pick (x :: L) L' := by
  induction h with
  | nil => exact .nil
  | cons h _ ih => exact .cons (.tail h) ih
theorem Pick.ofSub {L L' : List Item} (h : L'.Sublist L) : Pick L L' := by
  induction h with
  | slnil => exact .nil
  | cons _ _ ih => exact ih.skip
  | cons_cons _ _ ih => exact .cons .head ih
def AIn : List Item → List Item → Prop
  | [], _ => True
  | .blk b _ :: r, L => (∃ o', Item.blk b o' ∈ L) ∧ AIn r L
  | _ :: _, _ => False
section
variable {C : Nat → Prop} {w0 w : World} {M0 M : Mem} {L L' A : List Item} {it : Item} {t : TypeId} {v : Value}
theorem feet_ain (H : StX C w0 M0 M L w) (hr : Rem L it L') {g : Nat} (hg : it.foot = some g) : ∀ {A : List Item}, AIn A L' → ¬ feet A g
  | [], _ => by rintro ⟨x, hx, _⟩; cases hx
  | .blk b o :: r, ⟨⟨o', hm⟩, h2⟩ => by
    rintro ⟨x, hx, hxg⟩
    rcases List.mem_cons.1 hx with rfl | hx
    · exact hr.pairs (R := Apart) (fun x y h => h.symm) H.sep _ hm g hg hxg
    · exact feet_ain H hr hg h2 ⟨x, hx, hxg⟩
  | .row _ _ _ _ _ :: _, h => h.elim
theorem StX.fresh (H : StX (feet A) w0 M0 M L w) (hr : Rem L it L') (hA : AIn A L') {g : Nat} (hg : it.foot = some g) : w0.heap.size ≤ g :=
  ((H.own _ hr.mem).2 g hg).2.resolve_right (feet_ain H hr hg hA)
end
section
variable {C : Nat → Prop} {r : Option Nat} {P : Program} {ops : Array Oper} {Q : Exit → Act → World → Prop} {n : Nat} {D : List Deferred} {rest : List Oper} {e : Env} {w0 w : World} {M0 M : Mem} {L L' A B Lc : List Item} {d : Nat} {v v1 v2 : Value}
  {x y : Operand} {ty t t' ts : TypeId} {pos : String} {af : Array Edge} {g : Option (Nat × Bool)} {α σ : Type} {enc : α → Value}
def AtP (v : Value) (kk : Nat) (i : Int) (nn b o : Nat) : Prop := ∃ B c, v = .slice (some ⟨b, B, none⟩) nn c ∧ o = B + i.toNat * kk ∧ 0 ≤ i ∧ i < (nn : Int)
theorem Sl.atC {l : List α} {i : Int} {a : α} (h : Sl M enc v l) (hi : idx l i = some a) : ∃ b o, AtP v 1 i l.length b o ∧ CellM M ⟨b, o, none⟩ (enc a) := by
  obtain ⟨h0, hc⟩ := idx_some hi
  obtain ⟨b, o, c, rfl, hm⟩ := h.addr hc
  have hlt := (List.getElem?_eq_some_iff.1 hc).1
  exact ⟨b, o + i.toNat, ⟨o, c, rfl, by omega, h0, by omega⟩, hm⟩
theorem SlS.atC {kk : Nat} {encS : α → List Value} {l : List α} {i : Int} {a : α} (h : SlS M kk encS v l) (hi : idx l i = some a) : ∃ b o, AtP v kk i l.length b o ∧ CellsM M ⟨b, o, none⟩ (encS a) := by
  obtain ⟨h0, hc⟩ := idx_some hi
  obtain ⟨_, A, c, rfl, h1, h2, h3⟩ := h
  have hlt := (List.getElem?_eq_some_iff.1 hc).1
  obtain ⟨b, o, cs, t0, fz, rfl, e2, e3⟩ := h3 (by rintro rfl; simp at hc)
  exact ⟨b, o + i.toNat * kk, ⟨o, c, rfl, rfl, h0, by omega⟩, rfl, cs, t0, fz, e2, fun j u hj => e3 i.toNat a hc j u hj⟩
theorem Ex.idxAt {dst : Option Tmp} {kk nn b o : Nat} {i : Int} {k' : IntKind} (h : AtP v kk i nn b o) (ht : P.underlying t = some (.slice t')) (hz : ∀ w, (sizeOf t').run P w = .ok kk w) (hx : ev e x = some v) (hy : ev e y = some (.int k' i)) :
    Ex P ⟨dst, .indexAddr t x y, ty, pos, af, g⟩ e w (ptr b o) w := by
  obtain ⟨B, c, rfl, rfl, h0, h1⟩ := h
  refine ⟨nofun, fun ρ hfi => ?_⟩
  simp only [execOp, hfi _ _ hx, hfi _ _ hy, Instr.indexAt, Sem.run_bind, asIntOf, run_underlying ht, Result.andThen_ok, Sem.run_pure, hz, h0, h1, and_self, if_true, Addr.add_lit, Int.toNat_natCast]
theorem WR.yieldS {l : Nat} {Y : σ → α → Option (σ × Bool)} {Z : σ → List Item → Mem → Prop} {s s' : σ} {b : Bool} {xv : α} {tys : Array TypeId} (H : StX C w0 M0 M L w) (hspl : Spl L Lc B)
    (hY : ∀ s x s' b L w M, Y s x = some (s', b) → Z s L M → StX (feet L) w M M L w → YieldAt (Wd none) 0 P l #[enc x] w fun e w' => ∃ M' L', StX (feet L) w M M' L' w' ∧ e = .returned (.bool b) ∧ Z s' L' M')
    (hz : ZH Z s Lc M) (hy : Y s xv = some (s', b)) (hx : ev e x = some (yv l)) (hv : ev e y = some (enc xv))
    (hw : Wn ops n D e ⟨some d, .call ⟨.value x, #[y], tys⟩, ty, pos, af, g⟩) (hn : Nat.blt d n = true)
    (k : ∀ w M' Lc', StX C w0 M0 M' (B ++ Lc') w → M.le M' → ZH Z s' Lc' M' → WR none P ops Q n D rest ((d, .bool b) :: e) w) :
    WR none P ops Q n D (⟨some d, .call ⟨.value x, #[y], tys⟩, ty, pos, af, g⟩ :: rest) e w :=
  WR.yield (hY _ _ _ _ _ _ _ hy hz.z (H.hand hspl)) hx hv hw hn (fun en w' ⟨M', L', h1, he, hz'⟩ => ⟨b, he, k _ _ _ ((H.back hspl h1).perm List.perm_append_comm) h1.ext.le ⟨hz', hz.m⟩⟩)
def RetZ (C : Nat → Prop) (Z : σ → List Item → Mem → Prop) (s' : σ) (w : World) (M : Mem) (e : Ending) (w' : World) : Prop := ∃ r M' L', e = .returned r ∧ StX C w M M' L' w' ∧ Z s' L' M'
theorem WQ.retZ {fn : Func} {Z : σ → List Item → Mem → Prop} {s s' : σ} (hr : fn.results = #[]) (H : StX C w0 M0 M L w) (hs : Lc.Sublist L) (hz : ZH Z s Lc M) (he : s = s') : WQ (bodyPost P fn (RetZ C Z s' w0 M0)) .ret n [] e w :=
  fun a ha => ⟨ha.defers, .tuple #[], by simp [results, hr], _, M, Lc, rfl, H.drop hs, he ▸ hz.z⟩
theorem WQ.endZ {fn : Func} {Z : σ → List Item → Mem → Prop} {s s' : σ} (hr : fn.results = #[]) (H : StX C w0 M0 M L w) (hs : Lc.Sublist L) (hz : ZH Z s Lc M) (he : s = s') : WQ (bodyPost P fn (RetZ C Z s' w0 M0)) .normal n [] e w :=
  fun a ha => ⟨ha.defers, .tuple #[], by simp [results, hr], _, M, Lc, rfl, H.drop hs, he ▸ hz.z⟩
theorem ItS.of {f : FuncId} {fn : Func} {c : Code} {cap : List Value} {Pre : Mem → Prop} {run : (σ : Type) → (σ → α → Option (σ × Bool)) → σ → Option σ}
    (hf : P.funcs[f]? = some fn) (hen : ∀ ar w, (callFunc f ar).run P w = .ok (.enter f ar) w) (hb : fn.body = some c) (hnt : fn.ntmps = n) (hn : Nat.ble (cap.length + 1) n = true)
    (h : ∀ (l : Nat) (σ : Type) (Y : σ → α → Option (σ × Bool)) (Z : σ → List Item → Mem → Prop) (C : Nat → Prop),
      (∀ s x s' b L w M, Y s x = some (s', b) → Z s L M → StX (feet L) w M M L w → YieldAt (Wd none) 0 P l #[enc x] w fun e w' => ∃ M' L', StX (feet L) w M M' L' w' ∧ e = .returned (.bool b) ∧ Z s' L' M') →
      ∀ s s' L w M, run σ Y s = some s' → ZH Z s L M → StX C w M M (A ++ L) w → Pre M → WC none P (bodyPost P fn (RetZ C Z s' w M)) n [] c (envOf 0 (yv l :: cap)) w) : ItS P f cap A Pre enc run :=
  ⟨hen, fun l σ Y Z hZ hY s s' L w M hrun hz H hp => calls_of_WC (args := yv l :: cap) hf hb hnt hn (h l σ Y Z _ hY s s' L w M hrun ⟨hz, hZ⟩ H hp)⟩
end
theorem Sl.splitN {M : Mem} {b N : Nat} {t : TypeId} {xs : List ByteArray} {l : List (List UInt8)} {fz : Nat × Nat} (hx : xs.map (·.data.toList) = l) (hn : l.length ≤ N) (hm : N ≤ 9223372036854775807) (h : M b = some (.cells (Lib.cellsOf xs N) t fz)) :
    Sl M encS (.slice (some ⟨b, 0, none⟩) l.length N) l := by
  subst hx
  refine ⟨some ⟨b, 0, none⟩, N, rfl, hn, ⟨hm, fun h => by cases h⟩, fun _ => ⟨b, 0, _, t, fz, rfl, h, fun i x hi => ?_⟩⟩
  rw [List.getElem?_map] at hi
  obtain ⟨y, hy, rfl⟩ := Option.map_eq_some_iff.1 hi
  rw [Nat.zero_add]
  unfold Lib.cellsOf
  have hlt := (List.getElem?_eq_some_iff.1 hy).1
  rw [List.getElem?_toArray, List.getElem?_append_left (by simpa using hlt), List.getElem?_map, hy]
  rfl
section chk
variable {C : Nat → Prop} {P : Program} {e : Env} {w0 w : World} {M0 M : Mem} {L : List Item} {x y : Operand} {ty t t' te T : TypeId} {pos : String} {af : Array Edge} {g : Option (Nat × Bool)} {dst : Option Tmp} {a : Addr} {j : TypeInfo} {v : Value}
theorem Ex.ptrNil {p : Option Addr} (ht : P.underlying t = some (.pointer te)) (hx : ev e x = some (.pointer p)) : Ex P ⟨dst, .binOp .eql t x (.const (.pointer none)) t', ty, pos, af, g⟩ e w (.bool p.isNone) w :=
  ⟨nofun, fun ρ hf => by
    have h1 := hf _ _ hx
    have h2 : ρ (.const (.pointer none)) = .pointer none := hf _ _ rfl
    have h3 : P.underlying t = some (.pointer (P.pointee t)) := by simp [Program.pointee, ht]
    simp [execOp, h1, h2, eqGuard, run_eql_pointer_nil w t p h3]⟩
theorem Ex.ptrNeqSame (hp : P.underlying t = some (.pointer te)) (hte : P.info? te = some j) (hx : ev e x = some (.pointer (some a))) (hy : ev e y = some (.pointer (some a))) : Ex P ⟨dst, .binOp .neq t x y t', ty, pos, af, g⟩ e w (.bool false) w :=
  ⟨nofun, fun ρ hf => by
    have h1 := hf _ _ hx
    have h2 := hf _ _ hy
    simp [execOp, h1, h2, eqGuard, Lib.run_neq_ptr_same w a hp hte]⟩
theorem Ex.toUnsafe {cells : Nat} (hs : P.underlying t = some (.pointer te)) (hd : P.underlying t' = some .unsafePointer) (ht : P.info? te = some j) (hj : j.size ≠ 0) (hsh : w.shape? a.block = some (T, cells)) (ho : a.off < cells) (hx : ev e x = some (.pointer (some a))) :
    Ex P ⟨dst, .convert t t' x, ty, pos, af, g⟩ e w (.pointer (some a)) w :=
  ⟨nofun, fun ρ hf => by
    have h1 := hf _ _ hx
    simp [execOp, h1, Lib.run_to_unsafe w a hs hd ht hj hsh ho]⟩
theorem Ex.fromUnsafe {cells : Nat} (hs : P.underlying t = some .unsafePointer) (hd : P.underlying t' = some (.pointer te)) (ht : P.info? te = some j) (hsh : w.shape? a.block = some (T, cells)) (hl : liesAt P P.depth T (cells / P.cellsOf T) a.off te 1 = true) (hx : ev e x = some (.pointer (some a))) :
    Ex P ⟨dst, .convert t t' x, ty, pos, af, g⟩ e w (.pointer (some a)) w :=
  ⟨nofun, fun ρ hf => by
    have h1 := hf _ _ hx
    simp [execOp, h1, Lib.run_from_unsafe w a hs hd ht hsh hl]⟩
theorem Ex.noEscape {f : FuncId} {fn : Func} {tys : Array TypeId} (hf : P.funcs[f]? = some fn) (hname : (fn.name == "runtime.NumGoroutine") = false) (hb : fn.body.isNone = true) (hn : Extern.findNext fn = none) (he : Extern.find fn = some Extern.AbiNoEscape.same)
    (hx : ev e x = some v) : Ex P ⟨dst, .call ⟨.value (.func f), #[x], tys⟩, ty, pos, af, g⟩ e w v w :=
  ⟨nofun, fun ρ hfi => by
    have h1 := hfi _ _ hx
    have h2 : ρ (.func f) = .func (.func f) #[] #[] := hfi _ _ rfl
    simp [execOp, resolve, h1, h2, Deferred.ofValue, invoke, run_callFunc_extern hf hname hb hn he, Lib.run_noEscape]⟩
end chk
end Go.Ph
end
section
set_option linter.unusedVariables false
set_option linter.unusedSimpArgs false
namespace Go.Proofs.YtogkmhjnojphiaaGreatDoor
open Go Go.RowKit Go.Ph
open Go.Ph.Gr Go.Ph.Utf
theorem pieces_iter (bb : Nat) (l : List UInt8) (hs : l.length ≤ 140737488355327) : IterCt Tryz.prog 154 [ptr bb 0] [.blk bb (.cells #[S l] 9)] (fun M => Tabs M) encS (pieces l) := by
  refine ⟨enters Tryz.func154 (by kernel_rfl) rfl, fun lid Z Zx hZ hY L0 w0 M0 hz H hp => calls_of_WC Tryz.func154 rfl rfl rfl ?_⟩
  generalize hC : feet ([.blk bb (.cells #[S l] 9)] ++ L0) = C at H ⊢
  simp only [List.cons_append, List.nil_append] at H
  refine BL (WC.loop3 (fun (t : List UInt8) (pre : List (List UInt8)) (Lc : List Ph.Item) => [(0, yv lid), (1, ptr bb 0)]) (fun (t : List UInt8) (pre : List (List UInt8)) (Lc : List Ph.Item) w => pieces l = pre ++ pieces t ∧ t.length ≤ l.length ∧ ∃ M, StX C w0 M0 M (.blk bb (.cells #[S t] 9) :: Lc) w ∧ Tabs M ∧ Z pre Lc M) (fun (t : List UInt8) (pre : List (List UInt8)) (Lc : List Ph.Item) => t.length) (l) ([]) (_) ⟨rfl, rfl, trivial⟩ (⟨rfl, Nat.le_refl _, M0, H, hp, hz⟩) ?_)
  intro t pre Lc w
  rintro ⟨hpl, htl, M, H, htab, hzc⟩
  refine SQ (SQ (RG ?_))
  first | refine WR.step (Ex.loadM H rfl (by assumption) Tryz.isAgg9) (Wn.none rfl) rfl rfl ?_ | refine WR.step (Ex.load1 H rfl (by repeat (first | exact List.Mem.head _ | apply List.Mem.tail)) Tryz.isAgg9 (by rfl)) (Wn.none rfl) rfl rfl ?_
  refine WR.split (Ex.strNeq rfl rfl) (Wn.none rfl) rfl rfl (fun h0_1 => ?_) (fun h0_1 => ?_)
  · refine NL (TN (CT rfl (SK (TN (BL (SQ (RG ?_)))))))
    first | refine WR.step (Ex.loadM H rfl (by assumption) Tryz.isAgg9) (Wn.none rfl) rfl rfl ?_ | refine WR.step (Ex.load1 H rfl (by repeat (first | exact List.Mem.head _ | apply List.Mem.tail)) Tryz.isAgg9 (by rfl)) (Wn.none rfl) rfl rfl ?_
    refine WR.call H (first_spec _ h0_1) rfl (by assumption) (Wn.none rfl) rfl ?_
    intro v10 M w H hle hr10
    replace htab := htab.mono hle
    replace hzc := hZ _ _ _ _ hzc hle
    obtain rfl := hr10
    refine WR.alloc [_, _, _] H Tryz.zeroValue180 rfl (Wn.none rfl) rfl ?_
    intro b3 w H
    refine WR.store [_, _, _] H rfl rfl rfl (by repeat first | exact .head | apply Upd.tail) Tryz.sizeOf180 rfl (by rfl) (by rfl) (Wn.none rfl) ?_
    intro w H
    refine NL (TN (SQ (RG (ST (Ex.fieldAddr Tryz.underlying180 rfl Tryz.sizeOf3 (by decide) rfl) rfl ?_))))
    first | refine WR.step (Ex.loadM H rfl (by assumption) Tryz.isAgg3) (Wn.none rfl) rfl rfl ?_ | refine WR.step (Ex.load1 H rfl (by repeat (first | exact List.Mem.head _ | apply List.Mem.tail)) Tryz.isAgg3 (by rfl)) (Wn.none rfl) rfl rfl ?_
    refine AS rfl rfl (AS rfl rfl (NL (TN ?_)))
    refine WC.cut1 (fun (fl : Nat) => [(0, yv lid), (1, ptr bb 0), (3, ptr b3 0), (4, encN (rune t).2), (5, encN fl)]) (fun (fl : Nat) w => fl = flN (rune t).1 0 ∧ ∃ M, StX C w0 M0 M (.blk b3 (.cells #[I (cls (rune t).1), .bool (decide ((rune t).1 < 0)), encN (rune t).2] 180) :: .blk bb (.cells #[S t] 9) :: Lc) w ∧ Tabs M ∧ Z pre Lc M) ?_ ?_
    · refine SQ (RG (ST (Ex.fieldAddr Tryz.underlying180 rfl Tryz.sizeOf3 (by decide) rfl) rfl ?_))
      first | refine WR.step (Ex.loadM H rfl (by assumption) Tryz.isAgg3) (Wn.none rfl) rfl rfl ?_ | refine WR.step (Ex.load1 H rfl (by repeat (first | exact List.Mem.head _ | apply List.Mem.tail)) Tryz.isAgg3 (by rfl)) (Wn.none rfl) rfl rfl ?_
      refine WR.split (Ex.eql rfl rfl) (Wn.none rfl) rfl rfl (fun h3_2 => ?_) (fun h3_2 => ?_)
      · refine NL (TN (CT rfl (RG (AS rfl rfl (NL (WQ.meet1 (1) ⟨rfl, rfl, rfl, rfl, rfl, trivial⟩ ?_))))))
        · refine ⟨by rw [flN_eq, if_pos h3_2], M, H, htab, hzc⟩
      · refine NL (TN (CF rfl (SK (WQ.meet1 (0) ⟨rfl, rfl, rfl, rfl, rfl, trivial⟩ ?_))))
        · refine ⟨by rw [flN_eq, if_neg h3_2], M, H, htab, hzc⟩
    · intro fl w
      rintro ⟨hfl, M, H, htab, hzc⟩
      have hps := pieces_start h0_1
      have hrs := rune_size t
      have hrs3 := hrs.2.2 h0_1
      have hn0 : 0 < (rune t).2 ∧ (rune t).2 ≤ t.length ∧ fl ≤ (rune t).2 := ⟨by omega, hrs3, by rw [hfl, flN_eq]; split <;> omega⟩
      have hsg := hps.1
      rw [← hfl] at hsg
      have hcu := hps.2
      refine WC.cut1 (fun (n : Nat) => [(0, yv lid), (1, ptr bb 0), (4, encN n)]) (fun (n : Nat) w => (0 < n ∧ n ≤ t.length) ∧ pieces t = t.take n :: pieces (t.drop n) ∧ ∃ M, StX C w0 M0 M (.blk bb (.cells #[S t] 9) :: Lc) w ∧ Tabs M ∧ Z pre Lc M) ?_ ?_
      · refine BL (WC.loop5 (fun (n : Nat) (prev : Int) (sz : Nat) (fl : Nat) (cur : List Ch) => [(0, yv lid), (1, ptr bb 0), (3, ptr b3 0), (4, encN n), (5, encN fl)]) (fun (n : Nat) (prev : Int) (sz : Nat) (fl : Nat) (cur : List Ch) w => (0 < n ∧ n ≤ t.length ∧ fl ≤ n) ∧ pieces t = (seg cur prev fl (chars (t.drop n))).map byts ∧ byts cur = t.take n ∧ ∃ M, StX C w0 M0 M (.blk b3 (.cells #[I (cls prev), .bool (decide (prev < 0)), encN sz] 180) :: .blk bb (.cells #[S t] 9) :: Lc) w ∧ Tabs M ∧ Z pre Lc M) (fun (n : Nat) (prev : Int) (sz : Nat) (fl : Nat) (cur : List Ch) => t.length - n) (_) (_) (_) (_) (_) ⟨rfl, rfl, rfl, rfl, rfl, trivial⟩ (⟨hn0, hsg, hcu, M, H, htab, hzc⟩) ?_)
        intro n prev sz fl cur w
        rintro ⟨hn0, hsg, hcu, M, H, htab, hzc⟩
        refine SQ (SQ (RG (MV rfl rfl ?_)))
        first | refine WR.step (Ex.loadM H rfl (by assumption) Tryz.isAgg9) (Wn.none rfl) rfl rfl ?_ | refine WR.step (Ex.load1 H rfl (by repeat (first | exact List.Mem.head _ | apply List.Mem.tail)) Tryz.isAgg9 (by rfl)) (Wn.none rfl) rfl rfl ?_
        refine ST (Ex.lenStr Tryz.underlying9 rfl) rfl ?_
        refine WR.split (Ex.lss rfl rfl) (Wn.none rfl) rfl rfl (fun h5_3 => ?_) (fun h5_3 => ?_)
        · have hne := drop_ne (t := t) (n := n) (by omega)
          have hrs := rune_size (t.drop n)
          have hrs3 := hrs.2.2 hne
          rw [List.length_drop] at hrs3
          refine NL (TN (CT rfl (SK (TN (BL (SQ (RG ?_)))))))
          first | refine WR.step (Ex.loadM H rfl (by assumption) Tryz.isAgg9) (Wn.none rfl) rfl rfl ?_ | refine WR.step (Ex.load1 H rfl (by repeat (first | exact List.Mem.head _ | apply List.Mem.tail)) Tryz.isAgg9 (by rfl)) (Wn.none rfl) rfl rfl ?_
          refine MV rfl rfl (WR.stepE (v' := S (t.drop n)) (Ex.sliceStr (i := n) (j := t.length) Tryz.underlying9 rfl (.inl ⟨_, rfl, rfl⟩) (.inr ⟨rfl, rfl⟩) (by omega) (by omega)) (by rw [List.take_length]) (Wn.none rfl) rfl rfl ?_)
          refine WR.call H (first_spec _ hne) rfl (by assumption) (Wn.none rfl) rfl ?_
          intro v23 M w H hle hr23
          replace htab := htab.mono hle
          replace hzc := hZ _ _ _ _ hzc hle
          obtain rfl := hr23
          refine WR.alloc [_, _, _] H Tryz.zeroValue180 rfl (Wn.none rfl) rfl ?_
          intro b6 w H
          refine WR.store [_, _, _] H rfl rfl rfl (by repeat first | exact .head | apply Upd.tail) Tryz.sizeOf180 rfl (by rfl) (by rfl) (Wn.none rfl) ?_
          intro w H
          refine NL (TN (SQ (SQ (RG ?_))))
          first | refine WR.step (Ex.loadAgg H rfl (by repeat (first | exact List.Mem.head _ | apply List.Mem.tail)) Tryz.isAgg180 Tryz.sizeOf180 (by rfl)) (Wn.none rfl) rfl rfl ?_ | refine WR.step (Ex.loadAggM H rfl (by assumption) Tryz.isAgg180 Tryz.sizeOf180 (by rfl)) (Wn.none rfl) rfl rfl ?_
          first | refine WR.step (Ex.loadAgg H rfl (by repeat (first | exact List.Mem.head _ | apply List.Mem.tail)) Tryz.isAgg180 Tryz.sizeOf180 (by rfl)) (Wn.none rfl) rfl rfl ?_ | refine WR.step (Ex.loadAggM H rfl (by assumption) Tryz.isAgg180 Tryz.sizeOf180 (by rfl)) (Wn.none rfl) rfl rfl ?_
          refine MV rfl rfl ?_
          by_cases h7_3 : con prev (rune (t.drop n)).1 fl = true
          · obtain ⟨cur2, hsg2, hcu2⟩ := seg_next (t := t) (by omega) h7_3 hcu
            refine WR.call H (Ct.mono (Ct.mono (cont_spec _ _ _ _ _) (R' := fun r _ => r = .bool (decide (con prev (rune (t.drop n)).1 fl = true))) (fun _ _ h => h.trans (congrArg Value.bool (by simp)))) (R' := fun r _ => r = .bool true) (fun _ _ h => h.trans (congrArg Value.bool (decide_eq_true h7_3)))) rfl (trivial) (Wn.none rfl) rfl ?_
            intro v27 M w H hle hr27
            replace htab := htab.mono hle
            replace hzc := hZ _ _ _ _ hzc hle
            obtain rfl := hr27
            refine ST (Ex.notT rfl) rfl (NL (TN (CF rfl (SK (TN (SQ (SQ (RG (MV rfl rfl (ST (Ex.add64 rfl rfl (by omega)) rfl ?_))))))))))
            refine AS rfl rfl (NL (TN (SQ (RG (ST (Ex.fieldAddr Tryz.underlying180 rfl Tryz.sizeOf3 (by decide) rfl) rfl ?_)))))
            first | refine WR.step (Ex.loadM H rfl (by assumption) Tryz.isAgg3) (Wn.none rfl) rfl rfl ?_ | refine WR.step (Ex.load1 H rfl (by repeat (first | exact List.Mem.head _ | apply List.Mem.tail)) Tryz.isAgg3 (by rfl)) (Wn.none rfl) rfl rfl ?_
            refine WR.split (Ex.neq rfl rfl) (Wn.none rfl) rfl rfl (fun h9_2 => ?_) (fun h9_2 => ?_)
            · refine NL (TN (CT rfl (RG (AS rfl rfl (NL (TN (SQ (RG (MV rfl rfl (ST (Ex.fieldAddr Tryz.underlying180 rfl Tryz.sizeOf3 (by decide) rfl) rfl ?_))))))))))
              first | refine WR.step (Ex.loadM H rfl (by assumption) Tryz.isAgg3) (Wn.none rfl) rfl rfl ?_ | refine WR.step (Ex.load1 H rfl (by repeat (first | exact List.Mem.head _ | apply List.Mem.tail)) Tryz.isAgg3 (by rfl)) (Wn.none rfl) rfl rfl ?_
              refine ST (Ex.add64 rfl rfl (by omega)) rfl ?_
              refine AS rfl rfl (NL (TN (RG ?_)))
              first | refine WR.step (Ex.loadAgg H rfl (by repeat (first | exact List.Mem.head _ | apply List.Mem.tail)) Tryz.isAgg180 Tryz.sizeOf180 (by rfl)) (Wn.none rfl) rfl rfl ?_ | refine WR.step (Ex.loadAggM H rfl (by assumption) Tryz.isAgg180 Tryz.sizeOf180 (by rfl)) (Wn.none rfl) rfl rfl ?_
              refine WR.store [_, _, _] H rfl rfl rfl (by repeat first | exact .head | apply Upd.tail) Tryz.sizeOf180 rfl (by rfl) (by rfl) (Wn.none rfl) ?_
              intro w H
              refine NL (IB ?_)
              refine WQ.again5 (n + (rune (t.drop n)).2) ((rune (t.drop n)).1) ((rune (t.drop n)).2) (0) (cur2) ⟨rfl, rfl, rfl, rfl, rfl, trivial⟩ ?_ ?_
              · refine ⟨by omega, ?_, hcu2, M, H.drop (List.sublist_cons_self _ _), htab, hzc⟩
                rw [hsg, hsg2, flN_eq, if_neg (by omega)]
              · omega
            · refine NL (TN (CF rfl (SK (TN (SQ (RG (MV rfl rfl (ST (Ex.fieldAddr Tryz.underlying180 rfl Tryz.sizeOf3 (by decide) rfl) rfl ?_))))))))
              first | refine WR.step (Ex.loadM H rfl (by assumption) Tryz.isAgg3) (Wn.none rfl) rfl rfl ?_ | refine WR.step (Ex.load1 H rfl (by repeat (first | exact List.Mem.head _ | apply List.Mem.tail)) Tryz.isAgg3 (by rfl)) (Wn.none rfl) rfl rfl ?_
              refine ST (Ex.add64 rfl rfl (by omega)) rfl ?_
              refine AS rfl rfl (NL (TN (RG ?_)))
              first | refine WR.step (Ex.loadAgg H rfl (by repeat (first | exact List.Mem.head _ | apply List.Mem.tail)) Tryz.isAgg180 Tryz.sizeOf180 (by rfl)) (Wn.none rfl) rfl rfl ?_ | refine WR.step (Ex.loadAggM H rfl (by assumption) Tryz.isAgg180 Tryz.sizeOf180 (by rfl)) (Wn.none rfl) rfl rfl ?_
              refine WR.store [_, _, _] H rfl rfl rfl (by repeat first | exact .head | apply Upd.tail) Tryz.sizeOf180 rfl (by rfl) (by rfl) (Wn.none rfl) ?_
              intro w H
              refine NL (IB ?_)
              refine WQ.again5 (n + (rune (t.drop n)).2) ((rune (t.drop n)).1) ((rune (t.drop n)).2) (fl + 1) (cur2) ⟨rfl, rfl, rfl, rfl, rfl, trivial⟩ ?_ ?_
              · refine ⟨by omega, ?_, hcu2, M, H.drop (List.sublist_cons_self _ _), htab, hzc⟩
                rw [hsg, hsg2, flN_eq, if_pos (by omega)]
              · omega
          · have h7c : con prev (rune (t.drop n)).1 fl = false := by simpa using h7_3
            refine WR.call H (Ct.mono (Ct.mono (cont_spec _ _ _ _ _) (R' := fun r _ => r = .bool (decide (con prev (rune (t.drop n)).1 fl = true))) (fun _ _ h => h.trans (congrArg Value.bool (by simp)))) (R' := fun r _ => r = .bool false) (fun _ _ h => h.trans (congrArg Value.bool (decide_eq_false h7_3)))) rfl (trivial) (Wn.none rfl) rfl ?_
            intro v27 M w H hle hr27
            replace htab := htab.mono hle
            replace hzc := hZ _ _ _ _ hzc hle
            obtain rfl := hr27
            refine ST (Ex.notF rfl) rfl (NL (TN (CT rfl (WC.exit (WQ.thenExit (WQ.exitOut rfl (WQ.thenExit (WQ.exitHere (WQ.meet1 (n) ⟨rfl, rfl, rfl, trivial⟩ ?_)))))))))
            refine ⟨⟨hn0.1, hn0.2.1⟩, hsg.trans ?_, M, H.drop ((List.sublist_cons_self _ _).trans (List.sublist_cons_self _ _)), htab, hzc⟩
            exact seg_stop (by omega) h7c hcu
        · refine NL (TN (CF rfl (WC.exit (WQ.thenExit (WQ.thenExit (WQ.exitHere (WQ.meet1 (n) ⟨rfl, rfl, rfl, trivial⟩ ?_)))))))
          refine ⟨⟨hn0.1, hn0.2.1⟩, hsg.trans ?_, M, H.drop (List.sublist_cons_self _ _), htab, hzc⟩
          exact seg_end (by omega) hcu
      · intro n w
        rintro ⟨hn0, hpt, M, H, htab, hzc⟩
        refine SQ (SQ (RG (MV rfl rfl ?_)))
        first | refine WR.step (Ex.loadM H rfl (by assumption) Tryz.isAgg9) (Wn.none rfl) rfl rfl ?_ | refine WR.step (Ex.load1 H rfl (by repeat (first | exact List.Mem.head _ | apply List.Mem.tail)) Tryz.isAgg9 (by rfl)) (Wn.none rfl) rfl rfl ?_
        refine MV rfl rfl (WR.stepE (v' := S (t.take n)) (Ex.sliceStr (i := 0) (j := n) Tryz.underlying9 rfl (.inr ⟨rfl, rfl⟩) (.inl ⟨_, rfl, rfl⟩) (by omega) (by omega)) rfl (Wn.none rfl) rfl rfl ?_)
        have hpre : (pre ++ [t.take n]) <+: pieces l := pieces_ini hpl hpt
        refine WR.yield (hY _ _ _ _ _ hpre hzc (H.hand (.right (Spl.whole _)))) rfl rfl (Wn.none rfl) rfl ?_
        rintro en w ⟨M, Lc, Hs, hcase⟩
        replace H := (H.back (.right (Spl.whole _)) Hs).perm List.perm_append_comm
        simp only [List.cons_append, List.nil_append] at H
        replace htab := htab.mono Hs.ext.le
        rcases hcase with ⟨rfl, hzc⟩ | ⟨rfl, hzc⟩
        · refine ⟨true, rfl, ?_⟩
          refine ST (Ex.notT rfl) rfl (NL (TN (CF rfl (SK (TN (RG ?_))))))
          first | refine WR.step (Ex.loadM H rfl (by assumption) Tryz.isAgg9) (Wn.none rfl) rfl rfl ?_ | refine WR.step (Ex.load1 H rfl (by repeat (first | exact List.Mem.head _ | apply List.Mem.tail)) Tryz.isAgg9 (by rfl)) (Wn.none rfl) rfl rfl ?_
          refine MV rfl rfl (WR.stepE (v' := S (t.drop n)) (Ex.sliceStr (i := n) (j := t.length) Tryz.underlying9 rfl (.inl ⟨_, rfl, rfl⟩) (.inr ⟨rfl, rfl⟩) (by omega) (by omega)) (by rw [List.take_length]) (Wn.none rfl) rfl rfl ?_)
          refine WR.store [_] H rfl rfl rfl (by repeat first | exact .head | apply Upd.tail) Tryz.sizeOf9 rfl (by rfl) (by rfl) (Wn.none rfl) ?_
          intro w H
          refine NL (IB ?_)
          refine WQ.again3 (t.drop n) (pre ++ [t.take n]) (Lc) ⟨rfl, rfl, trivial⟩ ?_ ?_
          · refine ⟨by rw [hpl, hpt]; simp, by rw [List.length_drop]; omega, M, ?_, htab, hzc⟩
            exact H
          · rw [List.length_drop]; omega
        · refine ⟨false, rfl, ?_⟩
          refine ST (Ex.notF rfl) rfl (NL (TN (CT rfl (RT ?_))))
          refine WQ.ret0X rfl ?_
          subst hC
          exact ⟨_, M, Lc, rfl, H.drop (List.sublist_cons_self _ _), .inr ⟨_, hpre, hzc⟩⟩
  · refine NL (TN (CF rfl (WC.exit (WQ.thenExit (WQ.thenExit (WQ.exitHere (WQ.end0X rfl ?_)))))))
    subst hC
    obtain rfl : t = [] := by simpa using h0_1
    rw [pieces_nil, List.append_nil] at hpl
    rw [← hpl] at hzc
    exact ⟨_, M, Lc, rfl, H.drop (List.sublist_cons_self _ _), .inl hzc⟩
theorem pieces_spec (l : List UInt8) : CtO Tryz.prog 125 [S l] (fun _ => True) (fun r _ its => ∃ bb, r = .func (.func 154) #[] #[ptr bb 0] ∧ its = [.blk bb (.cells #[S l] 9)]) := by
  refine CtO.of Tryz.func125 (enters Tryz.func125 (by kernel_rfl) rfl) rfl rfl rfl ?_
  intro w0 M0 H hp
  refine SQ (RG (WR.box [_] H rfl rfl (Wn.none rfl) rfl ?_))
  intro b1 w H
  refine AS rfl rfl (NL (TN (SQ (RG (ST (Ex.makeFunc rfl) rfl (AS rfl rfl (NL (TN (RT ?_)))))))))
  refine WQ.ret1O rfl rfl H (List.Sublist.refl _) ?_
  exact ⟨_, rfl, rfl⟩
end Go.Proofs.YtogkmhjnojphiaaGreatDoor
end
section
set_option linter.unusedVariables false
set_option linter.unusedSimpArgs false
namespace Go.Proofs.YtogkmhjnojphiaaGreatDoor
open Go Go.RowKit Go.Ph
open Go.Ph.Gr Go.Ph.Utf
theorem split_spec (l : List UInt8) (hs : l.length ≤ 1048576) : Ct Tryz.prog 83 [S l] (fun M => Tabs M) (fun r M => Sl M encS r (pieces l)) := by
  refine Ct.ofM Tryz.func83 (enters Tryz.func83 (by kernel_rfl) rfl) rfl rfl rfl ?_
  intro w0 M0 H hp
  refine SQ (RG (AS rfl rfl (NL (TN (SQ (RG (WR.alloc [_] H Tryz.zeroValue43 rfl (Wn.none rfl) rfl ?_)))))))
  intro b3 w H
  refine NL (TN (SQ (SQ (RG (MV rfl rfl ?_)))))
  replace H := H.newRow 9 encS
  refine WR.callO H (pieces_spec _) rfl (trivial) (Wn.none rfl) rfl ?_
  intro v6 M w its H hle hr6
  replace hp := hp.mono hle
  obtain ⟨bb, rfl, rfl⟩ := hr6
  simp only [List.cons_append, List.nil_append] at H
  refine NL (TN (BL ?_))
  refine WC.rangeFunc H rfl (pieces_iter bb l (by omega)) (.left (.left (.left .nil))) (hp) rfl (fun pre Lc _ => ∃ v, Lc = [RowI 9 encS v pre, .blk b3 (.cells #[v] 43)]) (fun _ _ _ _ => False) (fun _ _ _ _ h _ => h) (⟨_, rfl⟩) ?_ ?_ ?_
  · intro lid rc hrc pre x Lc w M hpre hz H
    obtain ⟨v, rfl⟩ := hz
    have hple := hpre.length_le
    have hpl2 := pieces_len l
    simp only [List.length_append, List.length_cons, List.length_nil] at hple
    refine RG (AS rfl rfl (NL (WQ.begin hrc H (by repeat first | exact .head | apply Upd.tail) ?_)))
    intro w H
    refine BL (RG ?_)
    first | refine WR.step (Ex.loadM H rfl (by assumption) Tryz.isAgg43) (Wn.none rfl) rfl rfl ?_ | refine WR.step (Ex.load1 H rfl (by repeat (first | exact List.Mem.head _ | apply List.Mem.tail)) Tryz.isAgg43 (by rfl)) (Wn.none rfl) rfl rfl ?_
    refine MV rfl rfl (WR.lit (enc := encS) ty43 [_] H rfl (by rfl) (fun _ => rfl) rfl rfl (Wn.none rfl) rfl ?_)
    intro v10 M w H hle hl10
    refine WR.appendSl ty43 (fun _ => rfl) H rfl (fun _ => by repeat first | exact .head | apply Upd.tail) rfl (by assumption) (by first | omega | (simp only [List.length_append, List.length_cons, List.length_nil, List.length_take, List.length_drop]; omega)) (by first | (simp only [maxLen]; omega) | (simp only [maxLen, List.length_append, List.length_cons, List.length_nil, List.length_take, List.length_drop]; omega)) (Wn.none rfl) rfl ?_
    intro v11 w H
    refine WR.putV [_] H rfl rfl (by first | exact One.slice _ _ _ | exact Sl.one (by assumption) | exact StX.rowOne H (by repeat (first | exact List.Mem.head _ | apply List.Mem.tail))) (by repeat first | exact .head | apply Upd.tail) (by rfl) Tryz.sizeOf43 (by first | decide | (simp; done) | (simp; omega)) (Wn.none rfl) ?_
    intro w H
    refine NL (IB ?_)
    refine WQ.roundOn hrc H ⟨v11, rfl⟩
  · intro Dm w M Lc H hle hz
    obtain ⟨v, rfl⟩ := hz
    simp only [List.cons_append, List.nil_append] at H
    refine IB (TN (SQ (RG ?_)))
    first | refine WR.step (Ex.loadM H rfl (by assumption) Tryz.isAgg43) (Wn.none rfl) rfl rfl ?_ | refine WR.step (Ex.load1 H rfl (by repeat (first | exact List.Mem.head _ | apply List.Mem.tail)) Tryz.isAgg43 (by rfl)) (Wn.none rfl) rfl rfl ?_
    refine AS rfl rfl (NL (TN (RT ?_)))
    obtain ⟨M, hle, hf, H⟩ := H.freezeRow (v := v) (enc := encS) (t := 9) (by repeat first | exact .head | apply Rem.tail)
    refine WQ.retM1 H (by repeat first | exact .head | apply Rem.tail) ?_
    intro w H
    refine ⟨_, resv_run1 rfl rfl, _, _, rfl, H.ext, ?_⟩
    exact hf
  · intro Dm w M Lc c pre H hle hpre hz
    exact hz.elim
end Go.Proofs.YtogkmhjnojphiaaGreatDoor
end
section
set_option linter.unusedVariables false
set_option linter.unusedSimpArgs false
namespace Go.Proofs.YtogkmhjnojphiaaGreatDoor
open Go Go.RowKit Go.Ph
open Go.Ph.Gr Go.Ph.Utf
end Go.Proofs.YtogkmhjnojphiaaGreatDoor
end
section
set_option linter.unusedVariables false
set_option linter.unusedSimpArgs false
namespace Go.Proofs.YtogkmhjnojphiaaGreatDoor
open Go Go.RowKit Go.Ph
open Go.Ph.Gr Go.Ph.Utf
end Go.Proofs.YtogkmhjnojphiaaGreatDoor
end
section
set_option linter.unusedVariables false
set_option linter.unusedSimpArgs false
namespace Go.Ph.Gr
open Go Go.Ph.Utf
structure RP (l : List UInt8) (i q : Nat) (o : List (List UInt8)) (fl : Nat) : Prop where
  place : q ≤ l.length
  rest : (chars l).drop i = chars (l.drop q)
  small : i ≤ q ∧ o.length ≤ i ∧ fl ≤ i
  len : o.flatten.length = q
  state : (i = 0 ∧ o = []) ∨ (0 < i ∧ ∃ done cur prev, ((chars l)[i - 1]?).map (·.1) = some prev ∧ o = done.map byts ++ [byts cur] ∧ segs (chars l) = done ++ seg cur prev fl (chars (l.drop q)))
theorem RP.start (l : List UInt8) : RP l 0 0 [] 0 := ⟨Nat.zero_le _, rfl, by simp, rfl, .inl ⟨rfl, rfl⟩⟩
section
variable {l : List UInt8} {i q fl : Nat} {o : List (List UInt8)}
theorem RP.more (h : RP l i q o fl) (hi : i < (chars l).length) : q < l.length ∧ (chars l)[i]? = some ((rune (l.drop q)).1, (l.drop q).take (rune (l.drop q)).2) ∧ (chars l).drop (i + 1) = chars (l.drop (q + (rune (l.drop q)).2)) := by
  have hq : q < l.length := by
    rcases Nat.lt_or_ge q l.length with h1 | h1
    · exact h1
    · have h2 := h.rest
      rw [List.drop_eq_nil_of_le h1, chars_nil] at h2
      have := List.drop_eq_nil_iff.1 h2
      omega
  have hc := chars_cons (drop_ne hq)
  have h3 := h.rest
  rw [hc, List.drop_eq_getElem_cons hi] at h3
  have h4 := List.cons.inj h3
  refine ⟨hq, by rw [List.getElem?_eq_getElem hi, h4.1], ?_⟩
  rw [h4.2, List.drop_drop]
theorem RP.news (h : RP l i q o fl) (hi : i < (chars l).length) (hc : i = 0 ∨ ∃ a, 0 < i ∧ ((chars l)[i - 1]?).map (·.1) = some a ∧ con a (rune (l.drop q)).1 fl = false) :
    RP l (i + 1) (q + (rune (l.drop q)).2) (o ++ [(l.drop q).take (rune (l.drop q)).2]) (flN (rune (l.drop q)).1 0) := by
  obtain ⟨hq, hget, hdrop⟩ := h.more hi
  have hrs := rune_size (l.drop q)
  have hrs3 := hrs.2.2 (drop_ne hq)
  rw [List.length_drop] at hrs3
  have hsm := h.small
  have hone : byts [((rune (l.drop q)).1, (l.drop q).take (rune (l.drop q)).2)] = (l.drop q).take (rune (l.drop q)).2 := by simp [byts]
  refine ⟨by omega, hdrop, ⟨by omega, by simp; omega, by unfold flN; split <;> omega⟩, by have hlen := h.len; simp [List.length_take, List.length_drop] at hlen ⊢; omega, .inr ⟨by omega, ?_⟩⟩
  rcases h.state with ⟨h0, ho⟩ | ⟨hp0, done, cur, prev, hp, ho, hs⟩
  · subst h0
    refine ⟨[], [((rune (l.drop q)).1, (l.drop q).take (rune (l.drop q)).2)], (rune (l.drop q)).1, by rw [Nat.add_sub_cancel, hget]; rfl, by rw [ho, hone]; rfl, ?_⟩
    have h1 := h.rest
    rw [List.drop_zero] at h1
    rw [h1, chars_cons (drop_ne hq), segs, List.drop_drop]; rfl
  · rcases hc with h0 | ⟨a, _, ha, hcf⟩
    · omega
    · rw [ha] at hp
      obtain rfl : a = prev := Option.some.inj hp
      refine ⟨done ++ [cur], [((rune (l.drop q)).1, (l.drop q).take (rune (l.drop q)).2)], (rune (l.drop q)).1, by rw [Nat.add_sub_cancel, hget]; rfl, by rw [ho, hone]; simp, ?_⟩
      rw [hs, chars_cons (drop_ne hq), seg]
      simp only [hcf, Bool.false_eq_true, if_false, List.drop_drop, List.append_assoc, List.cons_append, List.nil_append]
end
end Go.Ph.Gr
end
section
set_option linter.unusedVariables false
set_option linter.unusedSimpArgs false
namespace Go.Proofs.YtogkmhjnojphiaaGreatDoor
open Go Go.RowKit Go.Ph
open Go.Ph.Gr Go.Ph.Utf
end Go.Proofs.YtogkmhjnojphiaaGreatDoor
end
section
set_option linter.unusedVariables false
set_option linter.unusedSimpArgs false
namespace Go.Proofs.YtogkmhjnojphiaaGreatDoor
open Go Go.RowKit Go.Ph
open Go.Ph.Gr Go.Ph.Utf Go.Ph.Chs
theorem low_at {l : List UInt8} {k : Nat} {u : UInt8} (h : l[k]? = some u) : (lower (l.take k) ++ l.drop k)[k]? = some u := by
  have hk := (List.getElem?_eq_some_iff.1 h).1
  rw [List.getElem?_append_right (by rw [lower_len, List.length_take]; omega), lower_len, List.length_take, show k - min k l.length = 0 by omega, List.getElem?_drop, Nat.add_zero]; exact h
theorem low_next {l : List UInt8} {k : Nat} {u : UInt8} (h : l[k]? = some u) : lower (l.take (k + 1)) ++ l.drop (k + 1) = lower (l.take k) ++ lowB u :: l.drop (k + 1) := by
  obtain ⟨hk, hu⟩ := List.getElem?_eq_some_iff.1 h
  rw [List.take_succ_eq_append_getElem hk, hu]; simp [lower]
theorem low_step {l : List UInt8} {k : Nat} {u : UInt8} (h : l[k]? = some u) : (lower (l.take k) ++ l.drop k).set k (lowB u) = lower (l.take (k + 1)) ++ l.drop (k + 1) := by
  obtain ⟨hk, hu⟩ := List.getElem?_eq_some_iff.1 h
  have hl : (lower (l.take k)).length = k := by rw [lower_len, List.length_take]; omega
  rw [low_next h, List.set_append_right _ _ (by omega), hl, Nat.sub_self, List.drop_eq_getElem_cons hk]; rfl
theorem low_keep {l : List UInt8} {k : Nat} {u : UInt8} (h : l[k]? = some u) (hn : ¬ (65 ≤ u.toNat ∧ u.toNat ≤ 90)) : lower (l.take k) ++ l.drop k = lower (l.take (k + 1)) ++ l.drop (k + 1) := by
  obtain ⟨hk, hu⟩ := List.getElem?_eq_some_iff.1 h
  rw [low_next h, List.drop_eq_getElem_cons hk, hu, lowB, if_neg hn]
theorem lowB_enc {u : UInt8} (h : 65 ≤ u.toNat ∧ u.toNat ≤ 90) : encB (lowB u) = .int .u8 ((u.toNat : Int) + 32) := by
  unfold lowB; rw [if_pos h]
  have h1 : (u + 32).toNat = u.toNat + 32 := by rw [UInt8.toNat_add]; show (u.toNat + 32) % 256 = _; omega
  show Value.int .u8 (((u + 32).toNat : Nat) : Int) = _
  rw [h1]; rfl
theorem lower_spec (l : List UInt8) (hs : l.length ≤ maxLen) : Ct Tryz.prog 116 [S l] (fun _ => True) (fun r _ => r = S (lower l)) := by
  refine Ct.of Tryz.func116 (enters Tryz.func116 (by kernel_rfl) rfl) rfl rfl rfl ?_
  intro w0 M0 H hp
  simp only [maxLen] at hs
  refine SQ (RG (AS rfl rfl (NL (TN (SQ (RG (MV rfl rfl (WR.toBytes H Tryz.underlying9 Tryz.underlying30 Tryz.underlying5 rfl (by simp only [maxLen]; omega) (Wn.none rfl) rfl ?_))))))))
  intro g7 c7 w hc7 hm7 H
  refine AS rfl rfl (NL (TN (SQ (SQ (RG (MV rfl rfl ?_))))))
  first | refine WR.step (Ex.lenSl Tryz.underlying30 (by assumption) rfl) (Wn.none rfl) rfl rfl ?_ | refine WR.step (Ex.lenRow Tryz.underlying30 H (by repeat (first | exact List.Mem.head _ | apply List.Mem.tail)) rfl) (Wn.none rfl) rfl rfl ?_ | refine WR.step (Ex.lenSlice Tryz.underlying30 rfl) (Wn.none rfl) rfl rfl ?_
  refine MV rfl rfl (NL (TN (BL (WC.loop2 (fun (k : Nat) (m : List UInt8) => [(3, .slice (some ⟨g7, 0, none⟩) l.length c7), (8, .slice (some ⟨g7, 0, none⟩) l.length c7), (9, I (l.length : Int)), (10, encN k)]) (fun (k : Nat) (m : List UInt8) w => k ≤ l.length ∧ m.length = l.length ∧ m = lower (l.take k) ++ l.drop k ∧ ∃ M, St w0 M0 M [SRow g7 c7 5 m] w) (fun (k : Nat) (m : List UInt8) => l.length - k) (0) (l) ⟨rfl, rfl, rfl, rfl, trivial⟩ (⟨by omega, rfl, by simp [lower], M0, H⟩) ?_))))
  intro k m w
  rintro ⟨hk, hml, hm, M, H⟩
  refine SQ (RG ?_)
  refine WR.split (Ex.lss rfl rfl) (Wn.none rfl) rfl rfl (fun h3_0 => ?_) (fun h3_0 => ?_)
  · obtain ⟨u, hlu⟩ : ∃ u, l[k]? = some u := ⟨_, List.getElem?_eq_getElem (by omega)⟩
    have hcu : m[k]? = some u := by rw [hm]; exact low_at hlu
    have hult := u.toNat_lt
    refine NL (TN (SQ (CT rfl (SK (TN (SQ (BL (SQ (RG (MV rfl rfl (ST (Ex.idxS Tryz.underlying30 Tryz.sizeOf5 rfl rfl (by omega)) rfl ?_)))))))))))
    refine ST (Ex.loadS H rfl (by repeat (first | exact List.Mem.head _ | apply List.Mem.tail)) hcu Tryz.isAgg5) rfl ?_
    refine AS rfl rfl (AS rfl rfl (NL (TN (SQ (RG (MV rfl rfl ?_))))))
    refine WR.split (Ex.geq rfl rfl) (Wn.none rfl) rfl rfl (fun h5_1 => ?_) (fun h5_1 => ?_)
    · refine MV rfl rfl (SG (Ex.move rfl) rfl rfl rfl ?_)
      refine WR.split (Ex.leq rfl rfl) (Wn.some rfl rfl rfl) rfl rfl (fun h5_4 => ?_) (fun h5_4 => ?_)
      · refine PT rfl rfl rfl (NL (TN (CT rfl (RG (MV rfl rfl (MV rfl rfl (MV rfl rfl (ST (Ex.addW rfl rfl (u8_in (by omega))) rfl ?_))))))))
        refine WR.stepE (v' := encB (lowB u)) (Ex.subW rfl rfl (u8_in (by omega))) (by rw [lowB_enc (by omega)]; exact congrArg (Value.int .u8) (by omega)) (Wn.none rfl) rfl rfl ?_
        refine ST (Ex.idxS Tryz.underlying30 Tryz.sizeOf5 rfl rfl (by omega)) rfl ?_
        refine WR.storeS (c := lowB u) H rfl rfl (by repeat first | exact .head | apply Upd.tail) (by omega) (by omega) Tryz.sizeOf5 (Wn.none rfl) ?_
        intro w H
        refine NL (IB (TN (RG (ST (Ex.add64 rfl rfl (by omega)) rfl ?_))))
        refine MV rfl rfl (NL ?_)
        refine WQ.again2 (k + 1) (m.set k (lowB u)) ⟨rfl, rfl, rfl, rfl, trivial⟩ ?_ ?_
        · refine ⟨by omega, by rw [List.length_set]; exact hml, ?_, M, H⟩
          rw [hm]; exact low_step hlu
        · omega
      · refine PT rfl rfl rfl (NL (TN (CF rfl (SK (IB (TN (RG (ST (Ex.add64 rfl rfl (by omega)) rfl ?_))))))))
        refine MV rfl rfl (NL ?_)
        refine WQ.again2 (k + 1) (m) ⟨rfl, rfl, rfl, rfl, trivial⟩ ?_ ?_
        · refine ⟨by omega, hml, ?_, M, H⟩
          rw [hm]; exact low_keep hlu (by omega)
        · omega
    · refine MV rfl rfl (GF rfl rfl rfl (GF rfl rfl rfl (PF rfl rfl rfl (NL (TN (CF rfl (SK (IB (TN (RG (ST (Ex.add64 rfl rfl (by omega)) rfl ?_)))))))))))
      refine MV rfl rfl (NL ?_)
      refine WQ.again2 (k + 1) (m) ⟨rfl, rfl, rfl, rfl, trivial⟩ ?_ ?_
      · refine ⟨by omega, hml, ?_, M, H⟩
        rw [hm]; exact low_keep hlu (by omega)
      · omega
  · refine NL (TN (SQ (CF rfl (WC.exit (WQ.thenExit (WQ.thenExit (WQ.exitHere (TN (SQ (RG (MV rfl rfl (ST (Ex.toStrS Tryz.underlying30 Tryz.underlying5 Tryz.underlying9 H (by repeat (first | exact List.Mem.head _ | apply List.Mem.tail)) hml.symm rfl) rfl ?_))))))))))))
    refine AS rfl rfl (NL (TN (RT ?_)))
    refine WQ.ret1 rfl rfl H.ext ?_
    exact by rw [hm, List.take_of_length_le (by omega), List.drop_eq_nil_of_le (by omega), List.append_nil]
theorem lower_ne {a b : List UInt8} (h : a.length ≠ b.length) : ¬ lower a = lower b := fun e => h (by rw [← lower_len a, e, lower_len])
def same (name x : List UInt8) : Bool := decide (lower x = lower name)
theorem setOf_from {name x : List UInt8} {k : Nat} (h : setOf name = ((setN.drop k).findIdx? (same name)).map (· + k)) (hx : setN[k]? = some x) :
    (lower x = lower name → setOf name = some k) ∧ (¬ lower x = lower name → setOf name = ((setN.drop (k + 1)).findIdx? (same name)).map (· + (k + 1))) := by
  obtain ⟨hk, he⟩ := List.getElem?_eq_some_iff.1 hx
  rw [List.drop_eq_getElem_cons hk, he, List.findIdx?_cons] at h
  constructor
  · intro hl
    rw [h, same, decide_eq_true hl]; simp
  · intro hl
    rw [h, same, decide_eq_false hl]
    simp only [Bool.false_eq_true, if_false, Option.map_map]
    congr 1
    funext i
    simp only [Function.comp]
    omega
theorem same_spec (a b : List UInt8) (ha : a.length ≤ maxLen) (hb : b.length ≤ maxLen) : Ct Tryz.prog 68 [S a, S b] (fun _ => True) (fun r _ => r = .bool (decide (lower a = lower b))) := by
  refine Ct.of Tryz.func68 (enters Tryz.func68 (by kernel_rfl) rfl) rfl rfl rfl ?_
  intro w0 M0 H hp
  refine SQ (RG (AS rfl rfl (NL (TN (SQ (RG (MV rfl rfl (ST (Ex.lenStr Tryz.underlying9 rfl) rfl (MV rfl rfl (ST (Ex.lenStr Tryz.underlying9 rfl) rfl ?_))))))))))
  refine WR.split (Ex.eql rfl rfl) (Wn.none rfl) rfl rfl (fun h1_4 => ?_) (fun h1_4 => ?_)
  · refine MV rfl rfl (SG (Ex.move rfl) rfl rfl rfl (WR.call H (lower_spec _ ha) rfl (trivial) (Wn.some rfl rfl rfl) rfl ?_))
    intro v12 M w H hle hr12
    obtain rfl := hr12
    refine SG (Ex.move rfl) rfl rfl rfl (WR.call H (lower_spec _ hb) rfl (trivial) (Wn.some rfl rfl rfl) rfl ?_)
    intro v14 M w H hle hr14
    obtain rfl := hr14
    refine SG (Ex.strEql rfl rfl) rfl rfl rfl (PT rfl rfl rfl (AS rfl rfl (NL (TN (RT ?_)))))
    refine WQ.ret1 rfl rfl H.ext ?_
    exact rfl
  · refine MV rfl rfl (GF rfl rfl rfl (GF rfl rfl rfl (GF rfl rfl rfl (GF rfl rfl rfl (GF rfl rfl rfl (PF rfl rfl rfl (AS rfl rfl (NL (TN (RT ?_))))))))))
    refine WQ.ret1 rfl rfl H.ext ?_
    exact (congrArg Value.bool (decide_eq_false (lower_ne (by omega))).symm)
end Go.Proofs.YtogkmhjnojphiaaGreatDoor
end
section
set_option linter.unusedVariables false
set_option linter.unusedSimpArgs false
namespace Go.Ph
open Go Go.RowKit
section
variable {P : Program} {e : Env} {w : World} {x : Operand} {v : Value} {dst : Option Tmp} {ty t : TypeId} {pos : String} {af : Array Edge} {g : Option (Nat × Bool)}
theorem Ex.loadCell {p : Addr} (hx : ev e x = some (.pointer (some p))) (hc : w.cell? p = some v) (ha : ∀ w, (isAgg t).run P w = .ok false w) : Ex P ⟨dst, .load t x, ty, pos, af, g⟩ e w v w := Ex.loadK hx (by
  simp only [loadVar, Sem.run_bind, ha, Result.andThen_ok, Bool.false_eq_true, if_false]
  simp [load, Sem.run, hc])
theorem Ex.loadAggW {b o s : Nat} {cs : List Value} (hx : ev e x = some (ptr b o)) (hc : ∀ j u, cs[j]? = some u → w.cell? ⟨b, o + j, none⟩ = some u) (ha : ∀ w, (isAgg t).run P w = .ok true w) (hs : ∀ w, (sizeOf t).run P w = .ok s w) (hl : cs.length = s) : Ex P ⟨dst, .load t x, ty, pos, af, g⟩ e w (.agg cs.toArray) w := Ex.loadK hx (by
  subst hl
  have hlc : (loadCells ⟨b, o, none⟩ cs.length).run P w = .ok cs.toArray w :=
    run_loadCells_list (P := P) w ⟨b, o, none⟩ cs (fun j v hv => by rw [Addr.add_lit]; exact hc j v hv)
  simp only [loadVar, Sem.run_bind, ha, Result.andThen_ok, if_true, hs, hlc, Sem.run_pure])
end
end Go.Ph
namespace Go.Ph.Chs
open Go Go.Ph.Utf Go.Ph.Gr
theorem and64 {m s : Nat} (hm : m < 2 ^ 64) : IntKind.u64.wrap ((m &&& s : Nat) : Int) = ((m &&& s : Nat) : Int) := by
  have h : m &&& s ≤ m := Nat.and_le_left
  exact u64_in (by omega)
theorem or64 {m s : Nat} (hm : m < 2 ^ 64) (hs : s < 2 ^ 64) : IntKind.u64.wrap ((m ||| s : Nat) : Int) = ((m ||| s : Nat) : Int) := by
  have h := Nat.or_lt_two_pow hm hs
  exact u64_in (by omega)
theorem shl64 {b k : Nat} (hb : b < 256) (hk : k ≤ 56) : b <<< k < 2 ^ 64 ∧ IntKind.u64.wrap ((b * 2 ^ k : Nat) : Int) = ((b <<< k : Nat) : Int) := by
  have h2 : 2 ^ k ≤ 2 ^ 56 := Nat.pow_le_pow_right (by decide) hk
  have h3 : b * 2 ^ k < 2 ^ 64 := Nat.lt_of_le_of_lt (Nat.mul_le_mul (show b ≤ 255 by omega) h2) (by decide)
  rw [Nat.shiftLeft_eq]
  exact ⟨h3, u64_in (by omega)⟩
def FF (c : Nat) : Prop := ∃ sz ai lo hi, Lib.firstT c < 256 ∧ Lib.firstT c &&& 7 = sz ∧ Lib.firstT c / 2 ^ 4 = ai ∧ ai < 16 ∧ Lib.accLo ai = lo ∧ Lib.accHi ai = hi ∧ lo < 256 ∧ hi < 256 ∧ (sz = 1 ∨ sz = 2 ∨ sz = 3 ∨ sz = 4) ∧
    (sz = 1 → ¬ (194 ≤ c ∧ c ≤ 244)) ∧ (sz = 2 → 194 ≤ c ∧ c ≤ 223 ∧ lo = 128 ∧ hi = 191) ∧ (sz = 3 → 224 ≤ c ∧ c ≤ 239 ∧ lo = (if c = 224 then 160 else 128) ∧ hi = (if c = 237 then 159 else 191)) ∧ (sz = 4 → 240 ≤ c ∧ c ≤ 244 ∧ lo = (if c = 240 then 144 else 128) ∧ hi = (if c = 244 then 143 else 191))
theorem first_facts (c : Nat) (h : 128 ≤ c) (h2 : c < 256) : FF c := by
  have key : ∀ F sz ai lo hi : Nat, Lib.firstT c = F → F < 256 → F &&& 7 = sz → F / 2 ^ 4 = ai → ai < 16 → Lib.accLo ai = lo → Lib.accHi ai = hi → lo < 256 → hi < 256 → (sz = 1 ∨ sz = 2 ∨ sz = 3 ∨ sz = 4) →
      (sz = 1 → ¬ (194 ≤ c ∧ c ≤ 244)) → (sz = 2 → 194 ≤ c ∧ c ≤ 223 ∧ lo = 128 ∧ hi = 191) → (sz = 3 → 224 ≤ c ∧ c ≤ 239 ∧ lo = (if c = 224 then 160 else 128) ∧ hi = (if c = 237 then 159 else 191)) → (sz = 4 → 240 ≤ c ∧ c ≤ 244 ∧ lo = (if c = 240 then 144 else 128) ∧ hi = (if c = 244 then 143 else 191)) → FF c :=
    fun F sz ai lo hi e1 e2 e3 e4 e5 e6 e7 e8 e9 ea eb ec ed ee => ⟨sz, ai, lo, hi, by rw [e1]; exact e2, by rw [e1]; exact e3, by rw [e1]; exact e4, e5, e6, e7, e8, e9, ea, eb, ec, ed, ee⟩
  have hF : Lib.firstT c = if c < 194 then 241 else if c < 224 then 2 else if c = 224 then 19 else if c < 237 then 3 else if c = 237 then 35 else if c < 240 then 3 else if c = 240 then 52 else if c < 244 then 4 else if c = 244 then 68 else 241 := by
    unfold Lib.firstT; rw [if_neg (by omega)]
  by_cases c1 : c < 194
  · exact key 241 1 15 0 0 (by rw [hF, if_pos c1]) (by decide) (by decide) (by decide) (by decide) (by decide) (by decide) (by decide) (by decide) (by decide) (fun _ => by omega) (fun h => by omega) (fun h => by omega) (fun h => by omega)
  · by_cases c2 : c < 224
    · exact key 2 2 0 128 191 (by rw [hF, if_neg c1, if_pos c2]) (by decide) (by decide) (by decide) (by decide) (by decide) (by decide) (by decide) (by decide) (by decide) (fun h => by omega) (fun h => ⟨by omega, by omega, rfl, rfl⟩) (fun h => by omega) (fun h => by omega)
    · by_cases c3 : c = 224
      · exact key 19 3 1 160 191 (by rw [hF, if_neg c1, if_neg c2, if_pos c3]) (by decide) (by decide) (by decide) (by decide) (by decide) (by decide) (by decide) (by decide) (by decide) (fun h => by omega) (fun h => by omega) (fun h => ⟨by omega, by omega, by rw [if_pos c3], by rw [if_neg (by omega)]⟩) (fun h => by omega)
      · by_cases c4 : c < 237
        · exact key 3 3 0 128 191 (by rw [hF, if_neg c1, if_neg c2, if_neg c3, if_pos c4]) (by decide) (by decide) (by decide) (by decide) (by decide) (by decide) (by decide) (by decide) (by decide) (fun h => by omega) (fun h => by omega) (fun h => ⟨by omega, by omega, by rw [if_neg c3], by rw [if_neg (by omega)]⟩) (fun h => by omega)
        · by_cases c5 : c = 237
          · exact key 35 3 2 128 159 (by rw [hF, if_neg c1, if_neg c2, if_neg c3, if_neg c4, if_pos c5]) (by decide) (by decide) (by decide) (by decide) (by decide) (by decide) (by decide) (by decide) (by decide) (fun h => by omega) (fun h => by omega) (fun h => ⟨by omega, by omega, by rw [if_neg c3], by rw [if_pos c5]⟩) (fun h => by omega)
          · by_cases c6 : c < 240
            · exact key 3 3 0 128 191 (by rw [hF, if_neg c1, if_neg c2, if_neg c3, if_neg c4, if_neg c5, if_pos c6]) (by decide) (by decide) (by decide) (by decide) (by decide) (by decide) (by decide) (by decide) (by decide) (fun h => by omega) (fun h => by omega) (fun h => ⟨by omega, by omega, by rw [if_neg c3], by rw [if_neg c5]⟩) (fun h => by omega)
            · by_cases c7 : c = 240
              · exact key 52 4 3 144 191 (by rw [hF, if_neg c1, if_neg c2, if_neg c3, if_neg c4, if_neg c5, if_neg c6, if_pos c7]) (by decide) (by decide) (by decide) (by decide) (by decide) (by decide) (by decide) (by decide) (by decide) (fun h => by omega) (fun h => by omega) (fun h => by omega) (fun h => ⟨by omega, by omega, by rw [if_pos c7], by rw [if_neg (by omega)]⟩)
              · by_cases c8 : c < 244
                · exact key 4 4 0 128 191 (by rw [hF, if_neg c1, if_neg c2, if_neg c3, if_neg c4, if_neg c5, if_neg c6, if_neg c7, if_pos c8]) (by decide) (by decide) (by decide) (by decide) (by decide) (by decide) (by decide) (by decide) (by decide) (fun h => by omega) (fun h => by omega) (fun h => by omega) (fun h => ⟨by omega, by omega, by rw [if_neg c7], by rw [if_neg (by omega)]⟩)
                · by_cases c9 : c = 244
                  · exact key 68 4 4 128 143 (by rw [hF, if_neg c1, if_neg c2, if_neg c3, if_neg c4, if_neg c5, if_neg c6, if_neg c7, if_neg c8, if_pos c9]) (by decide) (by decide) (by decide) (by decide) (by decide) (by decide) (by decide) (by decide) (by decide) (fun h => by omega) (fun h => by omega) (fun h => by omega) (fun h => ⟨by omega, by omega, by rw [if_neg c7], by rw [if_pos c9]⟩)
                  · exact key 241 1 15 0 0 (by rw [hF, if_neg c1, if_neg c2, if_neg c3, if_neg c4, if_neg c5, if_neg c6, if_neg c7, if_neg c8, if_neg c9]) (by decide) (by decide) (by decide) (by decide) (by decide) (by decide) (by decide) (by decide) (by decide) (fun _ => by omega) (fun h => by omega) (fun h => by omega) (fun h => by omega)
theorem runeN_else {m b0 b1 b2 b3 : Nat} (h : 128 ≤ b0) (h1 : ¬ (192 ≤ b0 ∧ b0 ≤ 247)) : runeN m b0 b1 b2 b3 = (-1, 1) := by
  unfold runeN
  rw [if_neg (by omega), if_neg (by omega), if_neg (by omega), if_neg (by omega)]
theorem multi1 {t : List UInt8} (h : 128 ≤ nat t 0) (h1 : ¬ (194 ≤ nat t 0 ∧ nat t 0 ≤ 244)) : (rune t).1 < 0 := by
  rw [rune_eq]
  have n1 := nat_lt t 1
  by_cases k0 : 192 ≤ nat t 0 ∧ nat t 0 ≤ 247
  · unfold runeN
    rw [if_neg (by omega)]
    by_cases k1 : nat t 0 ≤ 223
    · rw [if_pos (by omega)]
      split
      · rename_i hc
        have ho := hc.2
        unfold okC at ho
        rw [chk, if_pos (by unfold badN; omega)]; decide
      · decide
    · rw [if_neg (by omega), if_neg (by omega), if_pos (by omega)]
      split
      · rename_i hc
        obtain ⟨_, o1, o2, o3⟩ := hc
        unfold okC at o1 o2 o3
        rw [chk, if_pos (by unfold badN; omega)]; decide
      · decide
  · rw [runeN_else h k0]; decide
theorem multi2 {t : List UInt8} (h : 194 ≤ nat t 0 ∧ nat t 0 ≤ 223) : (2 ≤ t.length ∧ 128 ≤ nat t 1 ∧ nat t 1 ≤ 191 → 0 ≤ (rune t).1 ∧ (rune t).2 = 2) ∧ (¬ (2 ≤ t.length ∧ 128 ≤ nat t 1 ∧ nat t 1 ≤ 191) → (rune t).1 < 0) := by
  rw [rune_eq]
  unfold runeN
  rw [if_neg (by omega), if_pos (by omega)]
  constructor
  · intro hc
    rw [if_pos ⟨hc.1, by unfold okC; omega⟩, chk, if_neg (by unfold badN; omega)]
    exact ⟨by simp only []; omega, rfl⟩
  · intro hc
    rw [if_neg (by unfold okC; omega)]; decide
theorem multi3 {t : List UInt8} {lo hi : Nat} (h : 224 ≤ nat t 0 ∧ nat t 0 ≤ 239) (hlo : lo = if nat t 0 = 224 then 160 else 128) (hhi : hi = if nat t 0 = 237 then 159 else 191) :
    (3 ≤ t.length ∧ lo ≤ nat t 1 ∧ nat t 1 ≤ hi ∧ 128 ≤ nat t 2 ∧ nat t 2 ≤ 191 → 0 ≤ (rune t).1 ∧ (rune t).2 = 3) ∧ (¬ (3 ≤ t.length ∧ lo ≤ nat t 1 ∧ nat t 1 ≤ hi ∧ 128 ≤ nat t 2 ∧ nat t 2 ≤ 191) → (rune t).1 < 0) := by
  rw [rune_eq]
  unfold runeN
  rw [if_neg (by omega), if_neg (by omega), if_pos (by omega)]
  have hl : lo = 160 ∧ nat t 0 = 224 ∨ lo = 128 ∧ nat t 0 ≠ 224 := by split at hlo <;> omega
  have hh : hi = 159 ∧ nat t 0 = 237 ∨ hi = 191 ∧ nat t 0 ≠ 237 := by split at hhi <;> omega
  constructor
  · intro hc
    rw [if_pos ⟨hc.1, by unfold okC; omega, by unfold okC; omega⟩, chk, if_neg (by unfold badN; omega)]
    exact ⟨by simp only []; omega, rfl⟩
  · intro hc
    split
    · rename_i hd
      obtain ⟨d0, d1, d2⟩ := hd
      unfold okC at d1 d2
      rw [chk, if_pos (by unfold badN; omega)]; decide
    · decide
theorem multi4 {t : List UInt8} {lo hi : Nat} (h : 240 ≤ nat t 0 ∧ nat t 0 ≤ 244) (hlo : lo = if nat t 0 = 240 then 144 else 128) (hhi : hi = if nat t 0 = 244 then 143 else 191) :
    (4 ≤ t.length ∧ lo ≤ nat t 1 ∧ nat t 1 ≤ hi ∧ (128 ≤ nat t 2 ∧ nat t 2 ≤ 191) ∧ (128 ≤ nat t 3 ∧ nat t 3 ≤ 191) → 0 ≤ (rune t).1 ∧ (rune t).2 = 4) ∧ (¬ (4 ≤ t.length ∧ lo ≤ nat t 1 ∧ nat t 1 ≤ hi ∧ (128 ≤ nat t 2 ∧ nat t 2 ≤ 191) ∧ (128 ≤ nat t 3 ∧ nat t 3 ≤ 191)) → (rune t).1 < 0) := by
  rw [rune_eq]
  unfold runeN
  rw [if_neg (by omega), if_neg (by omega), if_neg (by omega), if_pos (by omega)]
  have hl : lo = 144 ∧ nat t 0 = 240 ∨ lo = 128 ∧ nat t 0 ≠ 240 := by split at hlo <;> omega
  have hh : hi = 143 ∧ nat t 0 = 244 ∨ hi = 191 ∧ nat t 0 ≠ 244 := by split at hhi <;> omega
  constructor
  · intro hc
    rw [if_pos ⟨hc.1, by unfold okC; omega, by unfold okC; omega, by unfold okC; omega⟩, chk, if_neg (by unfold badN; omega)]
    exact ⟨by simp only []; omega, rfl⟩
  · intro hc
    split
    · rename_i hd
      obtain ⟨d0, d1, d2, d3⟩ := hd
      unfold okC at d1 d2 d3
      rw [chk, if_pos (by unfold badN; omega)]; decide
    · decide
theorem vld_32 {x : List UInt8} (hx : 32 ≤ x.length) (h1 : ∀ i, i < 8 → nat x i < 128) (h2 : ∀ i, i < 8 → nat (x.drop 8) i < 128) (h3 : ∀ i, i < 8 → nat (x.drop 16) i < 128) (h4 : ∀ i, i < 8 → nat (x.drop 24) i < 128) : vld x = vld (x.drop 32) := by
  have e1 := vld_asciis 8 x (by omega) h1
  have e2 := vld_asciis 8 (x.drop 8) (by rw [List.length_drop]; omega) h2
  have e3 := vld_asciis 8 (x.drop 16) (by rw [List.length_drop]; omega) h3
  have e4 := vld_asciis 8 (x.drop 24) (by rw [List.length_drop]; omega) h4
  rw [List.drop_drop] at e2 e3 e4
  exact (e1.trans e2).trans (e3.trans e4)
theorem vld_bad {t : List UInt8} (hne : t ≠ []) (h : (rune t).1 < 0) : vld t = false := by rw [vld_cons hne, decide_eq_false (by omega), Bool.false_and]
theorem vld_good {t : List UInt8} {k : Nat} (hne : t ≠ []) (h : 0 ≤ (rune t).1 ∧ (rune t).2 = k) : vld t = vld (t.drop k) := by rw [vld_cons hne, decide_eq_true h.1, Bool.true_and, h.2]
end Go.Ph.Chs
end
