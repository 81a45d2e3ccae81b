/-
  A region that draws its order, where each operation answers the same whenever it comes. No program in sight.
-/
import Derived.Test.YtlopnlagpdchiaaGreatDoorDraw
set_option linter.unusedVariables false
set_option linter.unusedSimpArgs false
namespace Go.Ph
open Go Go.RowKit
abbrev CoreT := List (Nat × Value × List Nat)
def envD (core : CoreT) (dp : List Nat) : Env := dp.filterMap fun j => (core[j]?).map fun x => (x.1, x.2.1)
def envAll (core : CoreT) : Env := core.map fun x => (x.1, x.2.1)
/-- an edge that holds in every order -/
def edgeOn (o : Oper) (j : Nat) : Bool := o.after.any fun e => Region.binds .any e && Nat.beq e.on j
def depsOf (ops : Array Oper) (k : Nat) : List Nat := match ops[k]? with
  | some o => (o.after.toList.filter (fun e => Region.binds .any e)).map (·.on)
  | none => []
/-- all that an operation waits for, near or far (edges go back only) -/
def markC (ops : Array Oper) : Nat → List Nat → List Nat
  | 0, ms => ms
  | k + 1, ms => markC ops k (if ms.contains k then ms ++ depsOf ops k else ms)
def coreOK (ops : Array Oper) (c : Nat) (ds : List (Nat × List Nat)) : Bool :=
  Nat.ble c ops.size && Nat.beq ds.length c && (ds.map (·.1)).Nodup &&
  (List.range c).all (fun i => match ops[i]?, ds[i]? with
    | some o, some (d, dp) => (o.dst == some d) && dp.all (fun j => edgeOn o j && Nat.blt j c) && o.after.all (fun e => !Region.binds .any e || Nat.blt e.on i)
    | _, _ => false) &&
  (List.range ops.size).all (fun j => Nat.blt j c || match ops[j]? with
    | some o => (List.range c).all (fun i => !Nat.beq i j && (markC ops (j + 1) [j]).contains i)
    | none => false)
def keysFree (e : Env) (ds : List Nat) : Bool := e.all fun p => !ds.contains p.1
theorem get_none_of_free {e : Env} {ds : List Nat} (h : keysFree e ds = true) {d : Nat} (hd : d ∈ ds) : get e d = none := by
  induction e with
  | nil => rfl
  | cons p e ih =>
    obtain ⟨j, v⟩ := p
    simp only [keysFree, List.all_cons, Bool.and_eq_true] at h
    have hne : d ≠ j := by rintro rfl; have := h.1; simp [hd] at this
    rw [get, show Nat.beq d j = false from by cases hb : Nat.beq d j with | false => rfl | true => exact absurd (Nat.eq_of_beq_eq_true hb) hne]
    exact ih h.2
section
variable {C : Nat → Prop} {P : Program} {ops : Array Oper} {Q : Exit → Act → World → Prop} {n : Nat} {D : List Deferred} {e0 : Env} {w0 w : World} {M0 M : Mem} {L : List Item}
def StepsC (P : Program) (ops : Array Oper) (n : Nat) (D : List Deferred) (e0 : Env) (C : Nat → Prop) (w0 : World) (M0 M : Mem) (L : List Item) (core : CoreT) : Nat → CoreT → Prop
  | _, [] => True
  | i, (d, v, dp) :: r => (∃ o, ops[i]? = some o ∧ ∀ (E : Env) w M', StX C w0 M0 M' L w → M.le M' → ∀ Q' : Exit → Act → World → Prop, (∀ w'' M'', StX C w0 M0 M'' L w'' → M'.le M'' → WQ Q' .normal n D ((d, v) :: (envD core dp ++ (e0 ++ E))) w'') → WR none P ops Q' n D [o] (envD core dp ++ (e0 ++ E)) w) ∧
      StepsC P ops n D e0 C w0 M0 M L core (i + 1) r
theorem StepsC.at {core : CoreT} : ∀ {r : CoreT} {i : Nat}, StepsC P ops n D e0 C w0 M0 M L core i r → ∀ (k d : Nat) (v : Value) (dp : List Nat), r[k]? = some (d, v, dp) →
    ∃ o, ops[i + k]? = some o ∧ ∀ (E : Env) w M', StX C w0 M0 M' L w → M.le M' → ∀ Q' : Exit → Act → World → Prop, (∀ w'' M'', StX C w0 M0 M'' L w'' → M'.le M'' → WQ Q' .normal n D ((d, v) :: (envD core dp ++ (e0 ++ E))) w'') → WR none P ops Q' n D [o] (envD core dp ++ (e0 ++ E)) w
  | [], i, _, k, d, v, dp, hk => by simp at hk
  | (d0, v0, dp0) :: r, i, h, 0, d, v, dp, hk => by
    simp at hk
    obtain ⟨rfl, rfl, rfl⟩ := hk
    exact h.1
  | (d0, v0, dp0) :: r, i, h, k + 1, d, v, dp, hk => by
    have := StepsC.at h.2 k d v dp (by simpa using hk)
    rwa [show i + 1 + k = i + (k + 1) by omega] at this
/-- slots of the core that are filled -/
def Filled (core : CoreT) (listed : Array Bool) (a : Act) : Prop := ∀ j d v dp, core[j]? = some (d, v, dp) → listed.getD j false = true → a.tmps.getD d undef = v
theorem Sat.more {a : Act} (h : Sat n D e0 a) : ∀ (e : Env), (∀ p ∈ e, a.tmps.getD p.1 undef = p.2) → Sat n D (e ++ e0) a
  | [], _ => h
  | (j, u) :: e, hp => by
    have ih := Sat.more h e (fun p hp' => hp p (by simp [hp']))
    refine ⟨h.size, h.defers, fun i v hi => ?_⟩
    simp only [List.cons_append, get] at hi
    cases hb : Nat.beq i j with
    | true =>
      rw [hb] at hi
      have : i = j := Nat.eq_of_beq_eq_true hb
      subst this
      have : u = v := Option.some.inj hi
      subst this
      exact hp (i, u) (by simp)
    | false => rw [hb] at hi; exact ih.val i v hi
theorem edgeOn_listed {o : Oper} {i j : Nat} {listed : Array Bool} (hi : i ∈ Region.ready .any ops listed) (ho : ops[i]? = some o) (he : edgeOn o j = true) : listed.getD j false = true := by
  unfold Region.ready at hi
  rw [List.mem_filter] at hi
  have h2 := hi.2
  rw [ho] at h2
  simp only [Option.map_some, Option.getD_some, Bool.and_eq_true] at h2
  unfold edgeOn at he
  rw [Array.any_eq_true] at he
  obtain ⟨k, hk, hb⟩ := he
  have h3 := (Array.all_eq_true.1 h2.2) k hk
  simp only [Bool.and_eq_true] at hb
  have hj : (o.after[k]).on = j := Nat.eq_of_beq_eq_true hb.2
  simp only [hb.1, Bool.not_true, Bool.false_or, hj] at h3
  exact h3
def Closed (ops : Array Oper) (listed : Array Bool) : Prop := ∀ i o, ops[i]? = some o → listed.getD i false = true → ∀ x, edgeOn o x = true → listed.getD x false = true
theorem deps_edge {k x : Nat} (h : x ∈ depsOf ops k) : ∃ o, ops[k]? = some o ∧ edgeOn o x = true := by
  unfold depsOf at h
  cases ho : ops[k]? with
  | none => rw [ho] at h; cases h
  | some o =>
    rw [ho] at h
    obtain ⟨e, he, rfl⟩ := List.mem_map.1 h
    obtain ⟨h1, h2⟩ := List.mem_filter.1 he
    refine ⟨o, rfl, ?_⟩
    unfold edgeOn
    rw [← Array.any_toList, List.any_eq_true]
    exact ⟨e, h1, by simp [h2]⟩
theorem markC_listed {j : Nat} {listed : Array Bool} (hj : j ∈ Region.ready .any ops listed) (hcl : Closed ops listed) : ∀ (k : Nat) (ms : List Nat), (∀ x ∈ ms, x = j ∨ listed.getD x false = true) → ∀ x ∈ markC ops k ms, x = j ∨ listed.getD x false = true
  | 0, ms, h => h
  | k + 1, ms, h => by
    rw [markC]
    refine markC_listed hj hcl k _ ?_
    split
    · rename_i hk
      intro x hx
      rcases List.mem_append.1 hx with hx | hx
      · exact h x hx
      · obtain ⟨o, ho, he⟩ := deps_edge hx
        rcases h k (List.contains_iff_mem.1 hk) with rfl | hl
        · exact .inr (edgeOn_listed hj ho he)
        · exact .inr (hcl k o ho hl x he)
    · exact h
theorem ready_unlisted {i : Nat} {listed : Array Bool} (hi : i ∈ Region.ready .any ops listed) : i < ops.size ∧ listed.getD i true = false := by
  unfold Region.ready at hi
  rw [List.mem_filter] at hi
  have h2 := hi.2
  simp only [Bool.and_eq_true] at h2
  exact ⟨List.mem_range.1 hi.1, by simpa using h2.1⟩
def lst (m c : Nat) : Array Bool := (List.replicate c true ++ List.replicate (m - c) false).toArray
theorem WA.conf (core : CoreT) {m c : Nat} (hm : ops.size = m) (hc : core.length = c) (hok : coreOK ops c (core.map fun x => (x.1, x.2.2)) = true) (hfree : keysFree e0 (core.map (·.1)) = true) (hn : (core.map (·.1)).all (fun d => Nat.blt d n) = true)
    (H : StX C w0 M0 M L w) (hs : StepsC P ops n D e0 C w0 M0 M L core 0 core)
    (k : ∀ w M', StX C w0 M0 M' L w → M.le M' → WA none P ops Q n D (m - c) (lst m c) (envAll core ++ e0) w) : WA none P ops Q n D m (Array.replicate m false) e0 w := by
  unfold coreOK at hok
  simp only [Bool.and_eq_true, List.length_map] at hok
  obtain ⟨⟨⟨⟨o1, o2⟩, o3⟩, o4⟩, o5⟩ := hok
  have hcm : c ≤ m := by rw [← hm]; exact Nat.le_of_ble_eq_true o1
  have hnd : (core.map (·.1)).Nodup := by
    have := of_decide_eq_true o3
    rw [List.map_map] at this
    exact this
  have hop : ∀ i, i < c → ∃ o d v dp, ops[i]? = some o ∧ core[i]? = some (d, v, dp) ∧ o.dst = some d ∧ (∀ j ∈ dp, edgeOn o j = true ∧ j < c) ∧ (∀ j, edgeOn o j = true → j < i) := fun i hi => by
    have h1 := List.all_eq_true.1 o4 i (List.mem_range.2 hi)
    obtain ⟨⟨d, v, dp⟩, hci⟩ : ∃ x, core[i]? = some x := ⟨_, List.getElem?_eq_getElem (by omega)⟩
    rw [List.getElem?_map, hci] at h1
    cases ho : ops[i]? with
    | none => rw [ho] at h1; cases h1
    | some o =>
      rw [ho] at h1
      simp only [Option.map_some, Bool.and_eq_true] at h1
      refine ⟨o, d, v, dp, rfl, hci, by simpa using h1.1.1, fun j hj => ?_, fun j hj => ?_⟩
      · have := List.all_eq_true.1 h1.1.2 j hj
        simp only [Bool.and_eq_true] at this
        exact ⟨this.1, Nat.le_of_ble_eq_true this.2⟩
      · unfold edgeOn at hj
        rw [Array.any_eq_true] at hj
        obtain ⟨q, hq, hb⟩ := hj
        simp only [Bool.and_eq_true] at hb
        have h3 := (Array.all_eq_true.1 h1.2) q hq
        simp only [hb.1, Bool.not_true, Bool.false_or] at h3
        have := Nat.eq_of_beq_eq_true hb.2
        rw [← this]
        exact Nat.le_of_ble_eq_true h3
  have hlate : ∀ j, c ≤ j → j < m → ∀ i, i < c → i ≠ j ∧ i ∈ markC ops (j + 1) [j] := fun j h1 h2 => by
    have h3 := List.all_eq_true.1 o5 j (List.mem_range.2 (by omega))
    have hb : Nat.blt j c = false := by
      cases hb : Nat.blt j c with
      | false => rfl
      | true => have := Nat.le_of_ble_eq_true hb; omega
    rw [hb, Bool.false_or] at h3
    cases ho : ops[j]? with
    | none => rw [ho] at h3; cases h3
    | some o =>
      rw [ho] at h3
      intro i hi
      have := List.all_eq_true.1 h3 i (List.mem_range.2 hi)
      simp only [Bool.and_eq_true] at this
      exact ⟨by omega, List.contains_iff_mem.1 this.2⟩
  -- the invariant
  have main : ∀ (f : Nat) (listed : Array Bool) (a : Act) (w : World) (M' : Mem), listed.size = m → (∀ j, c ≤ j → j < m → listed.getD j true = false) → Closed ops listed → ((List.range c).filter (fun j => !listed.getD j true)).length = f → Sat n D e0 a → Filled core listed a → StX C w0 M0 M' L w → M.le M' →
      wpAnyIn (Wd none) 0 P .any ops (noP Q) (m - c + f) listed a w := by
    intro f
    induction f with
    | zero =>
      intro listed a w M' h1 h2 hcl h3 h4 h5 h6 h7
      have hall : ∀ j, j < c → listed.getD j true = true := fun j hj => by
        cases hb : listed.getD j true with
        | true => rfl
        | false =>
          have : j ∈ (List.range c).filter (fun j => !listed.getD j true) := List.mem_filter.2 ⟨List.mem_range.2 hj, by simp [hb]⟩
          rw [List.eq_nil_of_length_eq_zero h3] at this
          cases this
      have hl : listed = lst m c := by
        unfold lst
        apply Array.ext
        · simp [h1]; omega
        · intro i hi1 hi2
          have hg : listed.getD i true = listed[i] := by simp [Array.getD, hi1]
          rcases Nat.lt_or_ge i c with hc' | hc'
          · have := hall i hc'
            rw [hg] at this
            rw [this]
            simp [List.getElem_append, hc']
          · have := h2 i hc' (by omega)
            rw [hg] at this
            rw [this]
            simp [List.getElem_append, Nat.not_lt.2 hc']
      rw [Nat.add_zero, hl]
      refine k w M' h6 h7 a (h4.more _ (fun p hp => ?_))
      unfold envAll at hp
      obtain ⟨x, hx, rfl⟩ := List.mem_map.1 hp
      obtain ⟨j, hj, rfl⟩ := List.getElem_of_mem hx
      refine h5 j _ _ (core[j]).2.2 (by rw [List.getElem?_eq_getElem hj]) ?_
      have := hall j (by omega)
      have hjs : j < listed.size := by omega
      simp [Array.getD, hjs] at this ⊢
      exact this
    | succ f ih =>
      intro listed a w M' h1 h2 hcl h3 h4 h5 h6 h7
      show wpAnyIn (Wd none) 0 P .any ops (noP Q) ((m - c + f) + 1) listed a w
      -- some operation is ready
      have hsome : ∃ i, i < c ∧ listed.getD i true = false ∧ ∀ j, j < i → listed.getD j true = true := by
        have hne : (List.range c).filter (fun j => !listed.getD j true) ≠ [] := by intro h; rw [h] at h3; simp at h3
        have : ∃ i, i < c ∧ listed.getD i true = false := by
          obtain ⟨x, hx⟩ := List.exists_mem_of_ne_nil _ hne
          obtain ⟨a1, a2⟩ := List.mem_filter.1 hx
          exact ⟨x, List.mem_range.1 a1, by simpa using a2⟩
        obtain ⟨i, hi⟩ := this
        clear h3 hne
        induction i using Nat.strongRecOn with
        | _ i ihi =>
          by_cases hj : ∃ j, j < i ∧ listed.getD j true = false
          · obtain ⟨j, hj1, hj2⟩ := hj
            exact ihi j hj1 ⟨by omega, hj2⟩
          · refine ⟨i, hi.1, hi.2, fun j hj' => ?_⟩
            cases hb : listed.getD j true with
            | true => rfl
            | false => exact absurd ⟨j, hj', hb⟩ hj
      obtain ⟨i0, q1, q2, q3⟩ := hsome
      have hready : Region.ready .any ops listed ≠ [] := by
        obtain ⟨o, d, v, dp, g1, g2, g3, g4, g5⟩ := hop i0 q1
        have : i0 ∈ Region.ready .any ops listed := by
          unfold Region.ready
          rw [List.mem_filter]
          refine ⟨List.mem_range.2 (by omega), ?_⟩
          rw [g1]
          simp only [Option.map_some, Option.getD_some, Bool.and_eq_true]
          refine ⟨by simp [q2], Array.all_eq_true.2 (fun q hq => ?_)⟩
          cases hb : Region.binds .any o.after[q] with
          | false => rfl
          | true =>
            simp only [Bool.not_true, Bool.false_or]
            have hlt := g5 (o.after[q]).on (by
              unfold edgeOn
              rw [Array.any_eq_true]
              exact ⟨q, hq, by simp [hb]⟩)
            have := q3 _ hlt
            have hjs : (o.after[q]).on < listed.size := by omega
            simp [Array.getD, hjs] at this ⊢
            exact this
        intro h
        rw [h] at this
        cases this
      refine ⟨fun h => absurd h hready, fun i hi => ?_⟩
      obtain ⟨r1, r2⟩ := ready_unlisted hi
      have hic : i < c := by
        rcases Nat.lt_or_ge i c with h | h
        · exact h
        · exfalso
          obtain ⟨g1, g2⟩ := hlate i h (by omega) i0 q1
          have := (markC_listed hi hcl (i + 1) [i] (fun x hx => .inl (by simpa using hx)) i0 g2).resolve_left g1
          have hjs : i0 < listed.size := by omega
          simp [Array.getD, hjs] at this q2
          rw [this] at q2
          cases q2
      obtain ⟨o, d, v, dp, g1, g2, g3, g4, g5⟩ := hop i hic
      obtain ⟨o', g1', hstep⟩ := hs.at i d v dp g2
      rw [Nat.zero_add, g1] at g1'
      cases g1'
      have hE : ∀ j u, get ((List.range n).map fun j => (j, a.tmps.getD j undef)) j = some u → a.tmps.getD j undef = u := fun j u hu => by
        have : ∀ (l : List Nat), get (l.map fun j => (j, a.tmps.getD j undef)) j = some u → a.tmps.getD j undef = u := by
          intro l
          induction l with
          | nil => intro h; cases h
          | cons x l ihl =>
            intro h
            simp only [List.map_cons, get] at h
            cases hb : Nat.beq j x with
            | true =>
              rw [hb] at h
              have hjx : j = x := Nat.eq_of_beq_eq_true hb
              rw [hjx]
              exact Option.some.inj h
            | false => rw [hb] at h; exact ihl h
        exact this _ hu
      have hsE : Sat n D ((List.range n).map fun j => (j, a.tmps.getD j undef)) a := ⟨h4.size, h4.defers, hE⟩
      have hin : ∀ (e : Env), (∀ j u, get e j = some u → a.tmps.getD j undef = u) → ∀ (e' : Env), (∀ j u, get e' j = some u → a.tmps.getD j undef = u) → ∀ j u, get (e ++ e') j = some u → a.tmps.getD j undef = u := by
        intro e
        induction e with
        | nil => intro _ e' h' j u hu; exact h' j u hu
        | cons p e ihe =>
          intro h e' h' j u hu
          obtain ⟨x, y⟩ := p
          simp only [List.cons_append, get] at hu
          cases hb : Nat.beq j x with
          | true =>
            rw [hb] at hu
            exact h j u (by simp only [get, hb]; exact hu)
          | false =>
            rw [hb] at hu
            by_cases hex : ∃ u', get e j = some u'
            · -- the first part answers
              have key : ∀ (e : Env) (u' : Value), get e j = some u' → get (e ++ e') j = some u' := by
                intro e
                induction e with
                | nil => intro u' h; cases h
                | cons q e ihq =>
                  intro u' h
                  obtain ⟨x', y'⟩ := q
                  simp only [List.cons_append, get] at h ⊢
                  cases hb' : Nat.beq j x' with
                  | true => rw [hb'] at h; exact h
                  | false => rw [hb'] at h; exact ihq u' h
              obtain ⟨u', hu'⟩ := hex
              have := key e u' hu'
              have hu2 : get (e ++ e') j = some u := hu
              rw [this] at hu2
              have huu : u' = u := Option.some.inj hu2
              rw [← huu]
              exact h j u' (by simp only [get, hb]; exact hu')
            · have key : ∀ (e : Env), (¬ ∃ u', get e j = some u') → get (e ++ e') j = get e' j := by
                intro e
                induction e with
                | nil => intro _; rfl
                | cons q e ihq =>
                  intro hne
                  obtain ⟨x', y'⟩ := q
                  simp only [List.cons_append, get]
                  cases hb' : Nat.beq j x' with
                  | true => exact absurd ⟨y', by simp [get, hb']⟩ hne
                  | false => exact ihq (fun ⟨u', hu'⟩ => hne ⟨u', by simp only [get, hb']; exact hu'⟩)
              have hu2 : get (e ++ e') j = some u := hu
              rw [key e hex] at hu2
              exact h' j u hu2
      have hsat : Sat n D (envD core dp ++ (e0 ++ (List.range n).map fun j => (j, a.tmps.getD j undef))) a :=
        (show Sat n D (e0 ++ (List.range n).map fun j => (j, a.tmps.getD j undef)) a from ⟨h4.size, h4.defers, hin e0 h4.val _ hE⟩).more _ (fun p hp => by
        unfold envD at hp
        obtain ⟨j, hj, hpj⟩ := List.mem_filterMap.1 hp
        obtain ⟨⟨dj, vj, dpj⟩, hcj, rfl⟩ := Option.map_eq_some_iff.1 hpj
        exact h5 j dj vj dpj hcj (edgeOn_listed hi g1 (g4 j hj).1))
      refine WA.op g1 (hstep ((List.range n).map fun j => (j, a.tmps.getD j undef)) w M' h6 h7 (Qa none P ops Q (m - c + f) (listed.setIfInBounds i true)) (fun w'' M'' hH hle a'' ha'' => ?_)) hsat
      -- behind the operation: only its slot has changed
      have hfreed : get e0 d = none := get_none_of_free hfree (List.mem_map.2 ⟨_, List.mem_of_getElem? g2, rfl⟩)
      have hdv : a''.tmps.getD d undef = v := ha''.val d v (by simp [get])
      have hothers : ∀ t, t ≠ d → a''.tmps.getD t undef = a.tmps.getD t undef := fun t ht => by
        rcases Nat.lt_or_ge t n with htn | htn
        · have hsome : ∃ u, get (envD core dp ++ (e0 ++ (List.range n).map fun j => (j, a.tmps.getD j undef))) t = some u := by
            have base : ∃ u, get ((List.range n).map fun j => (j, a.tmps.getD j undef)) t = some u := by
              have : ∀ (l : List Nat), t ∈ l → ∃ u, get (l.map fun j => (j, a.tmps.getD j undef)) t = some u := by
                intro l
                induction l with
                | nil => intro h; cases h
                | cons x l ihl =>
                  intro h
                  simp only [List.map_cons, get]
                  cases hb : Nat.beq t x with
                  | true => exact ⟨_, rfl⟩
                  | false =>
                    rcases List.mem_cons.1 h with rfl | h
                    · simp at hb
                    · exact ihl h
              exact this _ (List.mem_range.2 htn)
            have up : ∀ (e e' : Env), (∃ u, get e' t = some u) → ∃ u, get (e ++ e') t = some u := by
              intro e
              induction e with
              | nil => intro e' h; exact h
              | cons q e ihq =>
                intro e' h
                obtain ⟨x', y'⟩ := q
                simp only [List.cons_append, get]
                cases hb' : Nat.beq t x' with
                | true => exact ⟨_, rfl⟩
                | false => exact ihq e' h
            exact up _ _ (up _ _ base)
          obtain ⟨u, hu⟩ := hsome
          rw [hsat.val t u hu]
          refine ha''.val t u ?_
          rw [get, show Nat.beq t d = false from by cases hb : Nat.beq t d with | false => rfl | true => exact absurd (Nat.eq_of_beq_eq_true hb) ht]
          exact hu
        · rw [Array.getD_eq_getD_getElem?, Array.getD_eq_getD_getElem?, Array.getElem?_eq_none (by rw [ha''.size]; exact htn), Array.getElem?_eq_none (by rw [h4.size]; exact htn)]
      refine ih (listed.setIfInBounds i true) a'' w'' M'' (by simp [h1]) (fun j hj1 hj2 => ?_) (fun y oy hoy hly x hx => ?_) ?_ ⟨ha''.size, ha''.defers, fun t u hu => ?_⟩ (fun j dj vj dpj hj hl => ?_) hH (h7.trans hle)
      · have := h2 j hj1 hj2
        have hji : j ≠ i := by omega
        have hjs : j < listed.size := by omega
        simp [Array.getD, hjs, Array.getElem_setIfInBounds, Ne.symm hji] at this ⊢
        exact this
      · have hxl : listed.getD x false = true := by
          by_cases hyi : y = i
          · subst hyi
            exact edgeOn_listed hi hoy hx
          · have hys : y < listed.size := by
              rcases Nat.lt_or_ge y listed.size with h | h
              · exact h
              · simp [Array.getD, Nat.not_lt.2 h] at hly
            have hne : i ≠ y := fun h => hyi h.symm
            have : listed.getD y false = true := by
              simp [Array.getD, hys, Array.getElem_setIfInBounds, hne] at hly ⊢
              exact hly
            exact hcl y oy hoy this x hx
        have hxs : x < listed.size := by
          rcases Nat.lt_or_ge x listed.size with h | h
          · exact h
          · simp [Array.getD, Nat.not_lt.2 h] at hxl
        simp only [Array.getD, hxs, Array.size_setIfInBounds, dif_pos, Array.getInternal_eq_getElem, Array.getElem_setIfInBounds] at hxl ⊢
        split
        · rfl
        · exact hxl
      · -- one fewer
        have hiS : i < listed.size := by omega
        have hnd2 : ((List.range c).filter (fun j => !listed.getD j true)).Nodup := List.nodup_range.filter _
        have heq : (List.range c).filter (fun j => !(listed.setIfInBounds i true).getD j true) = ((List.range c).filter (fun j => !listed.getD j true)).erase i := by
          rw [hnd2.erase_eq_filter, List.filter_filter]
          apply List.filter_congr
          intro j hj
          have hjs : j < listed.size := by have := List.mem_range.1 hj; omega
          by_cases hji : j = i
          · subst hji
            simp [Array.getD, hjs]
          · have : i ≠ j := fun h => hji h.symm
            simp [Array.getD, hjs, Array.getElem_setIfInBounds, this, hji]
        rw [heq, List.length_erase_of_mem (List.mem_filter.2 ⟨List.mem_range.2 hic, by rw [r2]; rfl⟩), h3]
        rfl
      · have htd : t ≠ d := by rintro rfl; rw [hfreed] at hu; cases hu
        rw [hothers t htd]
        exact h4.val t u hu
      · have hjs : j < listed.size := by have := (List.getElem?_eq_some_iff.1 hj).1; omega
        by_cases hji : j = i
        · subst hji
          rw [g2] at hj
          cases hj
          exact hdv
        · have hdd : dj ≠ d := by
            rintro rfl
            have hj1 : j < core.length := (List.getElem?_eq_some_iff.1 hj).1
            have hi1 : i < core.length := (List.getElem?_eq_some_iff.1 g2).1
            have e1 : (core.map (·.1))[j]'(by simpa using hj1) = dj := by
              rw [List.getElem_map, (List.getElem?_eq_some_iff.1 hj).2]
            have e2 : (core.map (·.1))[i]'(by simpa using hi1) = dj := by
              rw [List.getElem_map, (List.getElem?_eq_some_iff.1 g2).2]
            exact hji ((List.getElem_inj hnd).1 (e1.trans e2.symm))
          rw [hothers dj hdd]
          refine h5 j dj vj dpj hj ?_
          have : i ≠ j := fun h => hji h.symm
          simp [Array.getD, hjs, Array.getElem_setIfInBounds, this] at hl ⊢
          exact hl
  have hfr : ((List.range c).filter (fun j => !(Array.replicate m false).getD j true)).length = c := by
    have : (List.range c).filter (fun j => !(Array.replicate m false).getD j true) = List.range c := by
      rw [List.filter_eq_self]
      intro j hj
      have : j < m := by have := List.mem_range.1 hj; omega
      simp [Array.getD, this]
    rw [this, List.length_range]
  intro a ha
  have := main c (Array.replicate m false) a w M (by simp) (fun j h1 h2 => by simp [Array.getD, h2]) (fun i o ho hl => by
    rcases Nat.lt_or_ge i m with h | h
    · simp [Array.getD, h] at hl
    · simp [Array.getD, Nat.not_lt.2 h] at hl) hfr ha (fun j d v dp hj hl => by
    have hjc : j < m := by have := (List.getElem?_eq_some_iff.1 hj).1; omega
    simp [Array.getD, hjc] at hl) H (Mem.le.refl M)
  rwa [show m - c + c = m by omega] at this
end
end Go.Ph
