/-
  The heap as one fact: what the call has not written (M: blocks that stay as they are), what it owns (L). No program in sight.
-/
import Derived.Test.YtlopnlagpdchiaaGreatDoorCore
import Derived.Deep.Draws
set_option linter.unusedVariables false
set_option linter.unusedSimpArgs false
namespace Go.Ph
open Go Go.RowKit

abbrev Mem := Nat → Option Obj
def Mem.le (M M' : Mem) : Prop := ∀ b o, M b = some o → M' b = some o
theorem Mem.le.refl (M : Mem) : M.le M := fun _ _ h => h
theorem Mem.le.trans {A B C : Mem} (h : A.le B) (k : B.le C) : A.le C := fun b o hb => k b o (h b o hb)

def Ag (M : Mem) (w : World) : Prop := ∀ b o, M b = some o → w.heap[b]? = some o
theorem Ag.lt {M : Mem} {w : World} (h : Ag M w) {b : Nat} {o : Obj} (hb : M b = some o) : b < w.heap.size := (Array.getElem?_eq_some_iff.1 (h b o hb)).1
theorem Ag.none {M : Mem} {w : World} (h : Ag M w) {b : Nat} (hb : w.heap.size ≤ b) : M b = none := by
  cases hm : M b with
  | none => rfl
  | some o => have := h.lt hm; omega

/-- below the heap's size nothing has turned but the blocks of C -/
structure BelowX (C : Nat → Prop) (w w' : World) : Prop where
  os : w'.os = w.os
  tape : w'.tape = w.tape
  output : w'.output = w.output
  size : w.heap.size ≤ w'.heap.size
  block : ∀ k, k < w.heap.size → ¬ C k → w'.heap[k]? = w.heap[k]?

structure ExtX (C : Nat → Prop) (w : World) (M : Mem) (w' : World) (M' : Mem) : Prop where
  below : BelowX C w w'
  le : M.le M'
  ag : Ag M' w'
  old : ∀ b, b < w.heap.size → M' b = M b
abbrev Ext := ExtX (fun _ => False)

theorem BelowX.plain {w w' : World} (h : BelowX (fun _ => False) w w') : Below w.heap.size w w' := ⟨h.os, h.tape, h.output, h.size, fun k hk => h.block k hk (fun h => h)⟩
theorem BelowX.of {w w' : World} (h : Below w.heap.size w w') (C : Nat → Prop) : BelowX C w w' := ⟨h.os, h.tape, h.output, h.size, fun k hk _ => h.block k hk⟩
theorem ExtX.refl {C : Nat → Prop} {M : Mem} {w : World} (h : Ag M w) : ExtX C w M w M := ⟨⟨rfl, rfl, rfl, Nat.le_refl _, fun _ _ _ => rfl⟩, fun _ _ h => h, h, fun _ _ => rfl⟩
theorem Ext.refl {M : Mem} {w : World} (h : Ag M w) : Ext w M w M := ExtX.refl h
/-- two steps one behind the other: what the second one turns is old to the first one only where C says so -/
theorem ExtX.trans {C C' : Nat → Prop} {w w1 w2 : World} {M M1 M2 : Mem} (h : ExtX C w M w1 M1) (k : ExtX C' w1 M1 w2 M2) (hc : ∀ b, b < w.heap.size → C' b → C b) : ExtX C w M w2 M2 :=
  ⟨⟨k.below.os.trans h.below.os, k.below.tape.trans h.below.tape, k.below.output.trans h.below.output, Nat.le_trans h.below.size k.below.size,
    fun i hi hn => (k.below.block i (Nat.lt_of_lt_of_le hi h.below.size) (fun h' => hn (hc i hi h'))).trans (h.below.block i hi hn)⟩,
   h.le.trans k.le, k.ag, fun b hb => (k.old b (Nat.lt_of_lt_of_le hb h.below.size)).trans (h.old b hb)⟩

inductive Item where
  | blk (b : Nat) (o : Obj)
  | row (t : TypeId) (size : Nat) (v : Value) (n : Nat) (xs : List Value)

def Item.foot : Item → Option Nat
  | .blk b _ => some b
  | .row _ _ v _ _ => v.ownBlock
def Item.holds (w : World) : Item → Prop
  | .blk b o => w.heap[b]? = some o
  | .row t s v n xs => w.ownsRow 0 t s v n xs

theorem Item.holds.lt {w : World} {it : Item} (h : it.holds w) : ∀ b, it.foot = some b → b < w.heap.size := by
  intro b hb
  cases it with
  | blk b' o =>
    have : b' = b := Option.some.inj hb
    subst this
    exact (Array.getElem?_eq_some_iff.1 h).1
  | row t s v n xs => exact (World.ownsRow.lt h b hb).2

theorem Item.holds.kept {w w' : World} {it : Item} (h : it.holds w) (hg : ∀ b, it.foot = some b → w'.heap[b]? = w.heap[b]?) : it.holds w' := by
  cases it with
  | blk b o => exact (hg b rfl).trans h
  | row t s v n xs =>
    refine ⟨h.1, ?_⟩
    rcases h.2 with h2 | ⟨g, cap, cur, hv, hb, hg2, h3⟩
    · exact .inl h2
    · exact .inr ⟨g, cap, cur, hv, hb, (hg g (by rw [Item.foot, hv]; rfl)).trans hg2, h3⟩

structure StX (C : Nat → Prop) (w0 : World) (M0 M : Mem) (L : List Item) (w : World) : Prop where
  ext : ExtX C w0 M0 w M
  own : ∀ it ∈ L, it.holds w ∧ ∀ b, it.foot = some b → M b = none ∧ (w0.heap.size ≤ b ∨ C b)
  sep : L.Pairwise (fun x y => ∀ b, x.foot = some b → y.foot ≠ some b)
abbrev St := StX (fun _ => False)

theorem StX.start {C : Nat → Prop} {w : World} {M : Mem} (h : Ag M w) : StX C w M M [] w := ⟨ExtX.refl h, fun _ hx => (by cases hx), List.Pairwise.nil⟩

section
variable {C C' : Nat → Prop} {w0 w w' : World} {M0 M M' : Mem} {L L' : List Item} {it it' : Item}

theorem StX.ag (H : StX C w0 M0 M L w) : Ag M w := H.ext.ag
theorem StX.base (H : StX C w0 M0 M L w) : w0.heap.size ≤ w.heap.size := H.ext.below.size

theorem ExtX.grown {row : Option Nat} (h : ExtX C w0 M0 w M) (hg : w.grownBy w' row) (hr : ∀ b, row = some b → M b = none ∧ (w0.heap.size ≤ b ∨ C b)) : ExtX C w0 M0 w' M :=
  ⟨⟨hg.os.trans h.below.os, hg.tape.trans h.below.tape, hg.output.trans h.below.output, Nat.le_trans h.below.size hg.size,
    fun k hk hn => (hg.block k (Nat.lt_of_lt_of_le hk h.below.size) (fun e => (hr k e.symm).2.elim (fun h1 => absurd hk (by omega)) hn)).trans (h.below.block k hk hn)⟩,
   h.le, fun b o hb => (hg.block b (h.ag.lt hb) (fun e => by rw [(hr b e.symm).1] at hb; cases hb)).trans (h.ag b o hb), h.old⟩

/-- a step that grows the heap and turns nothing -/
theorem StX.grow (H : StX C w0 M0 M L w) (hg : w.grownBy w' none) : StX C w0 M0 M L w' :=
  ⟨H.ext.grown hg (by simp), fun it hit => ⟨(H.own it hit).1.kept (fun b hb => hg.block b ((H.own it hit).1.lt b hb) (by simp)), (H.own it hit).2⟩, H.sep⟩

theorem StX.drew (H : StX C w0 M0 M L w) : StX C w0 M0 M L w.drew := H.grow ⟨rfl, rfl, rfl, Nat.le_refl _, fun _ _ _ => rfl⟩
theorem StX.drewN (H : StX C w0 M0 M L w) (n : Nat) : StX C w0 M0 M L (w.drewN n) := H.grow ⟨rfl, rfl, rfl, Nat.le_refl _, fun _ _ _ => rfl⟩

/-- a new thing of the call's own -/
theorem StX.new (H : StX C w0 M0 M L w) (hg : w.grownBy w' none) (hh : it.holds w') (hf : ∀ b, it.foot = some b → w.heap.size ≤ b) : StX C w0 M0 M (it :: L) w' := by
  have H' := H.grow hg
  refine ⟨H'.ext, fun x hx => ?_, ?_⟩
  · rcases List.mem_cons.1 hx with rfl | hx
    · exact ⟨hh, fun b hb => ⟨H.ag.none (hf b hb), .inl (Nat.le_trans H.base (hf b hb))⟩⟩
    · exact H'.own x hx
  · refine List.pairwise_cons.2 ⟨fun y hy b hb hyb => ?_, H.sep⟩
    have h1 := hf b hb
    have h2 := (H.own y hy).1.lt b hyb
    omega

theorem StX.newNone (H : StX C w0 M0 M L w) (hh : it.holds w) (hf : it.foot = none) : StX C w0 M0 M (it :: L) w :=
  H.new ⟨rfl, rfl, rfl, Nat.le_refl _, fun _ _ _ => rfl⟩ hh (by rw [hf]; simp)

/-- exchange of one item -/
inductive Upd : List Item → Item → Item → List Item → Prop
  | head {it it' : Item} {L : List Item} : Upd (it :: L) it it' (it' :: L)
  | tail {p it it' : Item} {L L' : List Item} (h : Upd L it it' L') : Upd (p :: L) it it' (p :: L')

theorem Upd.mem (h : Upd L it it' L') : it ∈ L := by
  induction h with
  | head => simp
  | tail _ ih => simp [ih]
theorem Upd.mem' (h : Upd L it it' L') : ∀ x ∈ L', x = it' ∨ x ∈ L := by
  induction h with
  | head => intro x hx; rcases List.mem_cons.1 hx with rfl | hx
            · exact .inl rfl
            · exact .inr (by simp [hx])
  | tail _ ih => intro x hx; rcases List.mem_cons.1 hx with rfl | hx
                 · exact .inr (by simp)
                 · rcases ih x hx with h | h
                   · exact .inl h
                   · exact .inr (by simp [h])

theorem Upd.pairs {R : Item → Item → Prop} (hu : Upd L it it' L') (hs : ∀ x y, R x y → R y x) (hp : L.Pairwise R) (hn : ∀ x ∈ L, R it x → R it' x) :
    L'.Pairwise R ∧ ∀ x ∈ L', x = it' ∨ R it x := by
  induction hu with
  | head =>
    obtain ⟨h1, h2⟩ := List.pairwise_cons.1 hp
    exact ⟨List.pairwise_cons.2 ⟨fun y hy => hn y (by simp [hy]) (h1 y hy), h2⟩, fun x hx => by
      rcases List.mem_cons.1 hx with rfl | hx
      · exact .inl rfl
      · exact .inr (h1 x hx)⟩
  | tail hu ih =>
    rename_i p it it' L L'
    obtain ⟨h1, h2⟩ := List.pairwise_cons.1 hp
    obtain ⟨i1, i2⟩ := ih h2 (fun x hx => hn x (by simp [hx]))
    have hpit : R it p := hs _ _ (h1 _ hu.mem)
    refine ⟨List.pairwise_cons.2 ⟨fun y hy => ?_, i1⟩, fun x hx => ?_⟩
    · rcases hu.mem' y hy with rfl | hy'
      · exact hs _ _ (hn p (by simp) hpit)
      · exact h1 y hy'
    · rcases List.mem_cons.1 hx with rfl | hx
      · exact .inr hpit
      · exact i2 x hx

abbrev Apart (x y : Item) : Prop := ∀ b, x.foot = some b → y.foot ≠ some b
theorem Apart.symm {x y : Item} (h : Apart x y) : Apart y x := fun b hb hx => h b hx hb

/-- a step that turns one thing of the call's own -/
theorem StX.upd (H : StX C w0 M0 M L w) (hu : Upd L it it' L') (hg : w.grownBy w' it.foot) (hh : it'.holds w') (hf : ∀ b, it'.foot = some b → it.foot = some b ∨ w.heap.size ≤ b) : StX C w0 M0 M L' w' := by
  have hit := H.own it hu.mem
  obtain ⟨hp, hq⟩ := hu.pairs (R := Apart) (fun x y h => h.symm) H.sep (fun x hx hr b hb hxb => by
    rcases hf b hb with h | h
    · exact hr b h hxb
    · have := (H.own x hx).1.lt b hxb
      omega)
  have hnew : ∀ b, it'.foot = some b → M b = none ∧ (w0.heap.size ≤ b ∨ C b) := fun b hb => by
    rcases hf b hb with h | h
    · exact hit.2 b h
    · exact ⟨H.ag.none h, .inl (Nat.le_trans H.base h)⟩
  refine ⟨H.ext.grown hg hit.2, fun x hx => ?_, hp⟩
  rcases hq x hx with rfl | hr
  · exact ⟨hh, hnew⟩
  · rcases hu.mem' x hx with rfl | hxL
    · exact ⟨hh, hnew⟩
    · exact ⟨(H.own x hxL).1.kept (fun b hb => hg.block b ((H.own x hxL).1.lt b hb) (fun he => hr b he.symm hb)), (H.own x hxL).2⟩

inductive Rem : List Item → Item → List Item → Prop
  | head {it : Item} {L : List Item} : Rem (it :: L) it L
  | tail {p it : Item} {L L' : List Item} (h : Rem L it L') : Rem (p :: L) it (p :: L')
theorem Rem.mem (h : Rem L it L') : it ∈ L := by
  induction h with
  | head => simp
  | tail _ ih => simp [ih]
theorem Rem.sublist (h : Rem L it L') : L'.Sublist L := by
  induction h with
  | head => exact List.sublist_cons_self _ _
  | tail _ ih => exact ih.cons_cons _
theorem Rem.pairs {R : Item → Item → Prop} (hu : Rem L it L') (hs : ∀ x y, R x y → R y x) (hp : L.Pairwise R) : ∀ x ∈ L', R it x := by
  induction hu with
  | head => exact (List.pairwise_cons.1 hp).1
  | tail hu ih =>
    obtain ⟨h1, h2⟩ := List.pairwise_cons.1 hp
    intro x hx
    rcases List.mem_cons.1 hx with rfl | hx
    · exact hs _ _ (h1 _ hu.mem)
    · exact ih h2 x hx

/-- what is owned is let go: forgotten -/
theorem StX.drop (H : StX C w0 M0 M L w) (hs : L'.Sublist L) : StX C w0 M0 M L' w := ⟨H.ext, fun it hit => H.own it (hs.subset hit), H.sep.sublist hs⟩

def Mem.set (M : Mem) (b : Nat) (o : Obj) : Mem := fun b' => if b' = b then some o else M b'
/-- what is owned is let go: it stays as it is from now on. (Only what the call itself has made.) -/
theorem StX.freeze (H : StX C w0 M0 M L w) (hu : Rem L it L') {b : Nat} {o : Obj} (hf : it.foot = some b) (ho : w.heap[b]? = some o) (hb : w0.heap.size ≤ b) : M.le (M.set b o) ∧ StX C w0 M0 (M.set b o) L' w := by
  have hit := H.own it hu.mem
  have hle : M.le (M.set b o) := fun b' o' hbm => by
    by_cases h : b' = b
    · subst h; rw [(hit.2 b' hf).1] at hbm; cases hbm
    · simp [Mem.set, h, hbm]
  refine ⟨hle, ⟨H.ext.below, H.ext.le.trans hle, fun b' o' hb => ?_, fun b' hb' => ?_⟩, fun x hx => ?_, H.sep.sublist hu.sublist⟩
  · by_cases h : b' = b
    · subst h; simp only [Mem.set, if_true] at hb; rw [← hb]; exact ho
    · simp only [Mem.set, h, if_false] at hb; exact H.ag b' o' hb
  · have hne : b' ≠ b := by omega
    simp only [Mem.set, hne, if_false]
    exact H.ext.old b' hb'
  · have hx' := H.own x (hu.sublist.subset hx)
    refine ⟨hx'.1, fun b' hb' => ?_⟩
    have hne : b' ≠ b := fun h => by
      subst h
      exact hu.pairs (R := Apart) (fun x y h => h.symm) H.sep x hx b' hf hb'
    simp only [Mem.set, hne, if_false]
    exact hx'.2 b' hb'

/-- the blocks of a list of items -/
def feet (L : List Item) (b : Nat) : Prop := ∃ it ∈ L, it.foot = some b

/-- two parts of a list -/
inductive Spl : List Item → List Item → List Item → Prop
  | nil : Spl [] [] []
  | left {x : Item} {L A B : List Item} (h : Spl L A B) : Spl (x :: L) (x :: A) B
  | right {x : Item} {L A B : List Item} (h : Spl L A B) : Spl (x :: L) A (x :: B)
theorem Spl.all (L : List Item) : Spl L [] L := by
  induction L with
  | nil => exact .nil
  | cons x L ih => exact .right ih
theorem Spl.whole (L : List Item) : Spl L L [] := by
  induction L with
  | nil => exact .nil
  | cons x L ih => exact .left ih
theorem Spl.subs {A B : List Item} (h : Spl L A B) : A.Sublist L ∧ B.Sublist L := by
  induction h with
  | nil => exact ⟨List.Sublist.refl _, List.Sublist.refl _⟩
  | left _ ih => exact ⟨ih.1.cons_cons _, ih.2.cons _⟩
  | right _ ih => exact ⟨ih.1.cons _, ih.2.cons_cons _⟩
theorem Spl.cross {R : Item → Item → Prop} {A B : List Item} (h : Spl L A B) (hs : ∀ x y, R x y → R y x) (hp : L.Pairwise R) : ∀ x ∈ A, ∀ y ∈ B, R x y := by
  induction h with
  | nil => intro x hx; cases hx
  | left h ih =>
    obtain ⟨h1, h2⟩ := List.pairwise_cons.1 hp
    intro x hx y hy
    rcases List.mem_cons.1 hx with rfl | hx
    · exact h1 y (h.subs.2.subset hy)
    · exact ih h2 x hx y hy
  | right h ih =>
    obtain ⟨h1, h2⟩ := List.pairwise_cons.1 hp
    intro x hx y hy
    rcases List.mem_cons.1 hy with rfl | hy
    · exact hs _ _ (h1 x (h.subs.1.subset hx))
    · exact ih h2 x hx y hy
theorem Spl.append (A B : List Item) : Spl (A ++ B) A B := by
  induction A with
  | nil => exact Spl.all B
  | cons x A ih => exact .left ih

/-- the state with which a callee begins that is handed the things A -/
theorem StX.hand {A B : List Item} (H : StX C w0 M0 M L w) (hs : Spl L A B) : StX (feet A) w M M A w :=
  ⟨ExtX.refl H.ag, fun it hit => ⟨(H.own it (hs.subs.1.subset hit)).1, fun b hb => ⟨((H.own it (hs.subs.1.subset hit)).2 b hb).1, .inr ⟨it, hit, hb⟩⟩⟩, H.sep.sublist hs.subs.1⟩

/-- behind a callee that was handed A and hands over A' -/
theorem StX.back {A B A' : List Item} (H : StX C w0 M0 M L w) (hs : Spl L A B) (h : StX (feet A) w M M' A' w') : StX C w0 M0 M' (A' ++ B) w' := by
  have hB : ∀ it ∈ B, ∀ b, it.foot = some b → w'.heap[b]? = w.heap[b]? ∧ M' b = none := fun it hit b hb => by
    have h1 := H.own it (hs.subs.2.subset hit)
    have hlt := h1.1.lt b hb
    refine ⟨h.ext.below.block b hlt (fun ⟨x, hx, hxb⟩ => hs.cross (R := Apart) (fun x y h => h.symm) H.sep x hx it hit b hxb hb), ?_⟩
    rw [h.ext.old b hlt]
    exact (h1.2 b hb).1
  refine ⟨H.ext.trans h.ext (fun b hb ⟨x, hx, hxb⟩ => by
      rcases ((H.own x (hs.subs.1.subset hx)).2 b hxb).2 with h1 | h1
      · omega
      · exact h1), fun it hit => ?_, ?_⟩
  · rcases List.mem_append.1 hit with h1 | h1
    · refine ⟨(h.own it h1).1, fun b hb => ⟨((h.own it h1).2 b hb).1, ?_⟩⟩
      rcases ((h.own it h1).2 b hb).2 with h2 | ⟨x, hx, hxb⟩
      · exact .inl (Nat.le_trans H.base h2)
      · exact ((H.own x (hs.subs.1.subset hx)).2 b hxb).2
    · have h2 := H.own it (hs.subs.2.subset h1)
      exact ⟨h2.1.kept (fun b hb => (hB it h1 b hb).1), fun b hb => ⟨(hB it h1 b hb).2, (h2.2 b hb).2⟩⟩
  · refine List.pairwise_append.2 ⟨h.sep, H.sep.sublist hs.subs.2, fun x hx y hy b hxb hyb => ?_⟩
    have hlt := (H.own y (hs.subs.2.subset hy)).1.lt b hyb
    rcases ((h.own x hx).2 b hxb).2 with h2 | ⟨z, hz, hzb⟩
    · omega
    · exact hs.cross (R := Apart) (fun x y h => h.symm) H.sep z hz y hy b hzb hyb

theorem feet_nil : feet [] = fun _ => False := by funext b; simp [feet]
/-- behind a call -/
theorem StX.callO {its : List Item} (H : StX C w0 M0 M L w) (h : St w M M' its w') : StX C w0 M0 M' (its ++ L) w' :=
  H.back (Spl.all L) (by rw [feet_nil]; exact h)
theorem StX.call (H : StX C w0 M0 M L w) (h : Ext w M w' M') : StX C w0 M0 M' L w' :=
  H.callO (its := []) ⟨h, fun _ hx => (by cases hx), List.Pairwise.nil⟩

theorem StX.blk (H : StX C w0 M0 M L w) {b : Nat} {o : Obj} (h : Item.blk b o ∈ L) : w.heap[b]? = some o := (H.own _ h).1
theorem StX.rowOf (H : StX C w0 M0 M L w) {t : TypeId} {s : Nat} {v : Value} {n : Nat} {xs : List Value} (h : Item.row t s v n xs ∈ L) : w.ownsRow 0 t s v n xs := (H.own _ h).1
end

/-! ### contracts -/
def Ret (w : World) (M : Mem) (R : Value → Mem → Prop) (e : Ending) (w' : World) : Prop := ∃ r M', e = .returned r ∧ Ext w M w' M' ∧ R r M'

structure Ct (P : Program) (f : FuncId) (args : List Value) (Pre : Mem → Prop) (R : Value → Mem → Prop) : Prop where
  enters : ∀ as w, (callFunc f as).run P w = .ok (.enter f as) w
  calls : ∀ w M, Ag M w → Pre M → Calls P f args.toArray w (Ret w M R)

/-- the same with things that the call is handed, and things that it hands back -/
def RetX (A : List Item) (w : World) (M : Mem) (R : Value → Mem → List Item → Prop) (e : Ending) (w' : World) : Prop := ∃ r M' its, e = .returned r ∧ StX (feet A) w M M' its w' ∧ R r M' its
structure CtX (P : Program) (f : FuncId) (args : List Value) (A : List Item) (Pre : Mem → Prop) (R : Value → Mem → List Item → Prop) : Prop where
  enters : ∀ as w, (callFunc f as).run P w = .ok (.enter f as) w
  calls : ∀ w M, StX (feet A) w M M A w → Pre M → Calls P f args.toArray w (RetX A w M R)
/-- the same with things that are handed over -/
def RetO (w : World) (M : Mem) (R : Value → Mem → List Item → Prop) (e : Ending) (w' : World) : Prop := ∃ r M' its, e = .returned r ∧ St w M M' its w' ∧ R r M' its
structure CtO (P : Program) (f : FuncId) (args : List Value) (Pre : Mem → Prop) (R : Value → Mem → List Item → Prop) : Prop where
  enters : ∀ as w, (callFunc f as).run P w = .ok (.enter f as) w
  calls : ∀ w M, Ag M w → Pre M → Calls P f args.toArray w (RetO w M R)

theorem Ct.mono {P : Program} {f : FuncId} {args : List Value} {Pre : Mem → Prop} {R R' : Value → Mem → Prop} (h : Ct P f args Pre R) (hr : ∀ v M, R v M → R' v M) : Ct P f args Pre R' :=
  ⟨h.enters, fun w M ha hp => (h.calls w M ha hp).mono fun _ _ ⟨r, M', he, hx, hR⟩ => ⟨r, M', he, hx, hr _ _ hR⟩⟩

def envOf : Nat → List Value → Env
  | _, [] => []
  | i, v :: vs => (i, v) :: envOf (i + 1) vs

theorem get_envOf (vs : List Value) : ∀ (i j : Nat) (v : Value), get (envOf i vs) j = some v → i ≤ j ∧ vs[j - i]? = some v := by
  induction vs with
  | nil => intro i j v h; cases h
  | cons u vs ih =>
    intro i j v h
    simp only [envOf, get] at h
    cases hb : Nat.beq j i with
    | true =>
      have : j = i := Nat.eq_of_beq_eq_true hb
      subst this
      rw [hb] at h
      have : u = v := Option.some.inj h
      subst this
      simp
    | false =>
      rw [hb] at h
      obtain ⟨h1, h2⟩ := ih (i + 1) j v h
      refine ⟨by omega, ?_⟩
      rw [show j - i = (j - (i + 1)) + 1 by omega, List.getElem?_cons_succ]
      exact h2

theorem Sat.init {n : Nat} {args : List Value} (hn : args.length ≤ n) : Sat n [] (envOf 0 args) { tmps := args.toArray ++ Array.replicate (n - args.toArray.size) undef, defers := [] } := by
  refine ⟨by simp; omega, rfl, fun i v hi => ?_⟩
  obtain ⟨_, h⟩ := get_envOf args 0 i v hi
  have hlt : i < args.length := (List.getElem?_eq_some_iff.1 h).1
  simp only [Nat.sub_zero] at h
  have h' := (List.getElem?_eq_some_iff.1 h).2
  simp [Array.getElem?_append, hlt, h']

theorem calls_of_WC {P : Program} {f : FuncId} {fn : Func} {c : Code} {args : List Value} {w : World} {R : Ending → World → Prop} {n : Nat}
    (hf : P.funcs[f]? = some fn) (hb : fn.body = some c) (hnt : fn.ntmps = n) (hn : Nat.ble args.length n = true)
    (h : WC none P (bodyPost P fn R) n [] c (envOf 0 args) w) : Calls P f args.toArray w R := by
  refine callsIn_Wd.1 (callsIn_of_wp (F := Wd none) (n := 0) hf hb trivial ?_)
  subst hnt
  exact h _ (Sat.init (Nat.le_of_ble_eq_true hn))

/-- THE FRAME OF A CONTRACT's PROOF -/
theorem Ct.of {P : Program} {f : FuncId} {fn : Func} {c : Code} {args : List Value} {Pre : Mem → Prop} {R : Value → Mem → Prop} {n : Nat}
    (hf : P.funcs[f]? = some fn) (hen : ∀ as w, (callFunc f as).run P w = .ok (.enter f as) w) (hb : fn.body = some c) (hnt : fn.ntmps = n) (hn : Nat.ble args.length n = true)
    (h : ∀ w M, St w M M [] w → Pre M → WC none P (bodyPost P fn (Ret w M R)) n [] c (envOf 0 args) w) : Ct P f args Pre R :=
  ⟨hen, fun w M ha hp => calls_of_WC hf hb hnt hn (h w M (StX.start ha) hp)⟩

theorem CtO.of {P : Program} {f : FuncId} {fn : Func} {c : Code} {args : List Value} {Pre : Mem → Prop} {R : Value → Mem → List Item → Prop} {n : Nat}
    (hf : P.funcs[f]? = some fn) (hen : ∀ as w, (callFunc f as).run P w = .ok (.enter f as) w) (hb : fn.body = some c) (hnt : fn.ntmps = n) (hn : Nat.ble args.length n = true)
    (h : ∀ w M, St w M M [] w → Pre M → WC none P (bodyPost P fn (RetO w M R)) n [] c (envOf 0 args) w) : CtO P f args Pre R :=
  ⟨hen, fun w M ha hp => calls_of_WC hf hb hnt hn (h w M (StX.start ha) hp)⟩

theorem enters {P : Program} {f : FuncId} {fn : Func} (hf : P.funcs[f]? = some fn) (hname : (fn.name == "runtime.NumGoroutine") = false) (hb : fn.body.isNone = false) :
    ∀ as w, (callFunc f as).run P w = .ok (.enter f as) w := by
  intro as w
  have h1 : ¬ fn.name = "runtime.NumGoroutine" := by simpa using hname
  have h2 : ¬ fn.body = none := by intro h; simp [h] at hb
  simp [callFunc, hf, h1, h2, go_sem]

section
variable {P : Program} {fn : Func} {w0 w : World} {M0 M : Mem} {R : Value → Mem → Prop} {n : Nat} {e : Env} {v v1 v2 v3 v4 : Value}
/-- what a result variable holds -/
def resv (P : Program) (w : World) (e : Env) : ResultVar → Value → Prop
  | .tmp t, v => get e t = some v
  | .cell a t, v => ∃ p, get e a = some (.pointer (some p)) ∧ (loadVar t p).run P w = .ok v w

/-- the function that 'results' maps -/
def resf (tmps : Array Value) : ResultVar → Sem Value
  | .tmp t => pure (tmps.getD t undef)
  | .cell a t => do loadVar t (← asAddr (tmps.getD a undef))
theorem results_eq (fn : Func) (tmps : Array Value) : results fn tmps = (do let vs ← fn.results.mapM (resf tmps); pure (if h : vs.size = 1 then vs[0] else .tuple vs)) := by
  unfold results
  congr 1

theorem resv_run {D : List Deferred} {a : Act} {x : ResultVar} (ha : Sat n D e a) (h : resv P w e x v) : (resf a.tmps x).run P w = .ok v w := by
  cases x with
  | tmp t =>
    show (pure (a.tmps.getD t undef) : Sem Value).run P w = _
    rw [ha.val t v h]; rfl
  | cell ad t =>
    obtain ⟨p, hp, hl⟩ := h
    show (do loadVar t (← asAddr (a.tmps.getD ad undef)) : Sem Value).run P w = _
    rw [ha.val ad _ hp]
    exact hl

section
variable (f : ResultVar → Sem Value)
theorem run_res1 {x : ResultVar} (h1 : (f x).run P w = .ok v w) : (do let vs ← (#[x] : Array ResultVar).mapM f; pure (if h : vs.size = 1 then vs[0] else .tuple vs) : Sem Value).run P w = .ok v w := by simp [h1]
theorem run_res2 {x y : ResultVar} (h1 : (f x).run P w = .ok v1 w) (h2 : (f y).run P w = .ok v2 w) : (do let vs ← (#[x, y] : Array ResultVar).mapM f; pure (if h : vs.size = 1 then vs[0] else .tuple vs) : Sem Value).run P w = .ok (.tuple #[v1, v2]) w := by simp [h1, h2]
theorem run_res3 {x y z : ResultVar} (h1 : (f x).run P w = .ok v1 w) (h2 : (f y).run P w = .ok v2 w) (h3 : (f z).run P w = .ok v3 w) : (do let vs ← (#[x, y, z] : Array ResultVar).mapM f; pure (if h : vs.size = 1 then vs[0] else .tuple vs) : Sem Value).run P w = .ok (.tuple #[v1, v2, v3]) w := by simp [h1, h2, h3]
theorem run_res4 {x y z u : ResultVar} (h1 : (f x).run P w = .ok v1 w) (h2 : (f y).run P w = .ok v2 w) (h3 : (f z).run P w = .ok v3 w) (h4 : (f u).run P w = .ok v4 w) : (do let vs ← (#[x, y, z, u] : Array ResultVar).mapM f; pure (if h : vs.size = 1 then vs[0] else .tuple vs) : Sem Value).run P w = .ok (.tuple #[v1, v2, v3, v4]) w := by simp [h1, h2, h3, h4]
end

theorem WQ.ret1X {x : ResultVar} {R : Ending → World → Prop} (hr : fn.results = #[x]) (h1 : resv P w e x v) (hR : R (.returned v) w) : WQ (bodyPost P fn R) .ret n [] e w :=
  fun a ha => ⟨ha.defers, v, by rw [results_eq, hr]; exact run_res1 _ (resv_run ha h1), hR⟩
theorem WQ.ret0X {R : Ending → World → Prop} (hr : fn.results = #[]) (hR : R (.returned (.tuple #[])) w) : WQ (bodyPost P fn R) .ret n [] e w :=
  fun a ha => ⟨ha.defers, .tuple #[], by simp [results, hr], hR⟩
theorem WQ.end0X {R : Ending → World → Prop} (hr : fn.results = #[]) (hR : R (.returned (.tuple #[])) w) : WQ (bodyPost P fn R) .normal n [] e w :=
  fun a ha => ⟨ha.defers, .tuple #[], by simp [results, hr], hR⟩
theorem WQ.ret1O {x : ResultVar} {L its : List Item} {R : Value → Mem → List Item → Prop} (hr : fn.results = #[x]) (h1 : resv P w e x v) (H : St w0 M0 M L w) (hs : its.Sublist L) (hR : R v M its) : WQ (bodyPost P fn (RetO w0 M0 R)) .ret n [] e w :=
  fun a ha => ⟨ha.defers, v, by rw [results_eq, hr]; exact run_res1 _ (resv_run ha h1), _, M, its, rfl, H.drop hs, hR⟩
theorem WQ.ret2O {x y : ResultVar} {L its : List Item} {R : Value → Mem → List Item → Prop} (hr : fn.results = #[x, y]) (h1 : resv P w e x v1) (h2 : resv P w e y v2) (H : St w0 M0 M L w) (hs : its.Sublist L) (hR : R (.tuple #[v1, v2]) M its) : WQ (bodyPost P fn (RetO w0 M0 R)) .ret n [] e w :=
  fun a ha => ⟨ha.defers, .tuple #[v1, v2], by rw [results_eq, hr]; exact run_res2 _ (resv_run ha h1) (resv_run ha h2), _, M, its, rfl, H.drop hs, hR⟩
theorem WQ.ret0 (hr : fn.results = #[]) (H : Ext w0 M0 w M) (hR : R (.tuple #[]) M) : WQ (bodyPost P fn (Ret w0 M0 R)) .ret n [] e w :=
  fun a ha => ⟨ha.defers, .tuple #[], by simp [results, hr], _, M, rfl, H, hR⟩
theorem WQ.ret1 {x : ResultVar} (hr : fn.results = #[x]) (h1 : resv P w e x v) (H : Ext w0 M0 w M) (hR : R v M) : WQ (bodyPost P fn (Ret w0 M0 R)) .ret n [] e w :=
  fun a ha => ⟨ha.defers, v, by rw [results_eq, hr]; exact run_res1 _ (resv_run ha h1), _, M, rfl, H, hR⟩
theorem WQ.ret2 {x y : ResultVar} (hr : fn.results = #[x, y]) (h1 : resv P w e x v1) (h2 : resv P w e y v2) (H : Ext w0 M0 w M) (hR : R (.tuple #[v1, v2]) M) : WQ (bodyPost P fn (Ret w0 M0 R)) .ret n [] e w :=
  fun a ha => ⟨ha.defers, .tuple #[v1, v2], by rw [results_eq, hr]; exact run_res2 _ (resv_run ha h1) (resv_run ha h2), _, M, rfl, H, hR⟩
theorem WQ.ret3 {x y z : ResultVar} (hr : fn.results = #[x, y, z]) (h1 : resv P w e x v1) (h2 : resv P w e y v2) (h3 : resv P w e z v3) (H : Ext w0 M0 w M) (hR : R (.tuple #[v1, v2, v3]) M) : WQ (bodyPost P fn (Ret w0 M0 R)) .ret n [] e w :=
  fun a ha => ⟨ha.defers, .tuple #[v1, v2, v3], by rw [results_eq, hr]; exact run_res3 _ (resv_run ha h1) (resv_run ha h2) (resv_run ha h3), _, M, rfl, H, hR⟩
theorem WQ.ret4 {x y z u : ResultVar} (hr : fn.results = #[x, y, z, u]) (h1 : resv P w e x v1) (h2 : resv P w e y v2) (h3 : resv P w e z v3) (h4 : resv P w e u v4) (H : Ext w0 M0 w M) (hR : R (.tuple #[v1, v2, v3, v4]) M) : WQ (bodyPost P fn (Ret w0 M0 R)) .ret n [] e w :=
  fun a ha => ⟨ha.defers, .tuple #[v1, v2, v3, v4], by rw [results_eq, hr]; exact run_res4 _ (resv_run ha h1) (resv_run ha h2) (resv_run ha h3) (resv_run ha h4), _, M, rfl, H, hR⟩
end
end Go.Ph
