/-
  Abb, Core, Mem, Ops, Pl, Heap, Multi, Set, Utf, Iter, Str, GrPlain, GrCut, Chs, Conv, Draw, Ext, Exb, Rec, Conf, Arr, Sqz, Make, Lb, Row, Glo, Its, Cx, Bld, Own, Cl, Rpl, Tbl, Tv, Als: own texts of this repository (wip/tpl, wip/plans), merged and shaken by wip/tools/pack.py.
-/
import Derived.KernelRfl
import Derived.OrdersIn
import Derived.TacticsIn
import Derived.Below
import Derived.Maps.AppendAt
import Derived.OneCell
import Derived.Deep.Draws
import Derived.Laws.StructEq
import Derived.WalkKit
import Derived.Deep.AppendSrc
import Derived.Lib.SlBytesConst
import Derived.Lib.DecodeN
import Derived.RangeFuncSeq
import Derived.RangeFuncKeeps
import Derived.Lib.ConvBytes
import Derived.Laws.IdiomStrings
import Derived.Laws.Cover4
import Derived.Laws.Runes
import Derived.WideLaws
import Derived.Laws.MakeOwn
import Derived.ChangeKeysEq
import Derived.Lib.Split
import Derived.Lib.SplitLaws
import Derived.Lib.AtoiAll
import Derived.Lib.AtoiErrMem
import Derived.Lib.ItoaNum
import Derived.Lib.Repeat
import Derived.Sort.Grow
import Derived.WalkSmall
import Derived.ProofKit
import Derived.OpenShut
import Derived.JoinedCond
import Derived.Carry
import Derived.Lib.LaidTab
import Derived.Lib.LaidU8
import Derived.Shelf.Vars
import Derived.Lay
import Derived.Lib.UnsafeStr
import Derived.Lib.Builder
import Derived.Laws.Externs
import Derived.Lib.Replace
import Derived.Lib.IndexMore
import Derived.Lib.LazyBuf
import Derived.Laws.CopyRow
import Derived.Laws.IdiomCopy
import Derived.Test.YtglpkikfplcckaaGreatDoorProg
set_option maxRecDepth 100000
set_option linter.unusedVariables false
set_option linter.unusedSimpArgs false
section
theorem _root_.Om {p:Prop}(h:p:=by omega):p:=h
theorem _root_.Dc {p:Prop}(h:p:=by decide):p:=h
theorem _root_.Sm {p:Prop}(h:p:=by simp):p:=h
abbrev _root_.Ls : Type:=List UInt8
abbrev _root_.l00 := @Bool.false_ne_true
abbrev _root_.l01 := @List.length_append
abbrev _root_.l02 := @List.length_cons
abbrev _root_.l03 := @List.cons_append
abbrev _root_.l04 := @List.nil_append
abbrev _root_.l05 := @List.eq_nil_of_length_eq_zero
abbrev _root_.l06 := @Nat.le_of_ble_eq_true
abbrev _root_.l07 := @Nat.lt_succ_self
abbrev _root_.l08 := @List.length_nil
abbrev _root_.l09 := @Nat.le_refl
abbrev _root_.l0a := @List.length_drop
abbrev _root_.l0b := @List.all_cons
abbrev _root_.l0c := @List.all_nil
abbrev _root_.l0d := @List.length_map
abbrev _root_.l0e := @Bool.and_eq_true
abbrev _root_.l0f := @Int.toNat_natCast
abbrev _root_.l0g := @List.length_take
abbrev _root_.l0h := @Int.toNat_of_nonneg
abbrev _root_.l0i := @List.map_cons
abbrev _root_.l0j := @Bool.false_eq_true
abbrev _root_.l0k := @List.map_toArray
abbrev _root_.l0l := @List.append_nil
abbrev _root_.l0m := @List.getD_eq_getElem?_getD
abbrev _root_.l0n := @Nat.zero_add
abbrev _root_.l0o := @List.not_mem_nil
abbrev _root_.l0p := @List.mem_cons_of_mem
abbrev _root_.l0q := @Nat.eq_of_beq_eq_true
abbrev _root_.l0r := @List.mem_of_getElem?
abbrev _root_.l0s := @List.getElem_mem
abbrev _root_.l0t := @List.flatMap_cons
abbrev _root_.l0u := @List.append_assoc
abbrev _root_.l0v := @List.mem_cons
abbrev _root_.l0w := @List.take_append_drop
abbrev _root_.l0x := @Nat.mul_one
abbrev _root_.l0y := @List.map_nil
abbrev _root_.l0z := @Nat.add_sub_cancel_left
abbrev _root_.l0A := @List.flatten_cons
abbrev _root_.l0B := @Nat.mul_le_mul_right
abbrev _root_.l0C := @Nat.zero_le
abbrev _root_.l0D := @List.drop_eq_nil_of_le
abbrev _root_.l0E := @List.take_of_length_le
abbrev _root_.l0F := @List.take_succ_eq_append_getElem
abbrev _root_.l0G := @Nat.lt_or_ge
abbrev _root_.l0H := @List.mem_cons_self
abbrev _root_.l0I := @List.sublist_cons_self
abbrev _root_.l0J := @List.drop_length
abbrev _root_.l0K := @List.getElem_of_mem
abbrev _root_.l0L := @Nat.lt_of_lt_of_le
abbrev _root_.l0M := @Int.eq_ofNat_of_zero_le
abbrev _root_.l0N := @List.drop_of_length_le
abbrev _root_.l0P := @List.size_toArray
abbrev _root_.l0Q := @Option.map_some
abbrev _root_.l0R := @List.drop_eq_getElem_cons
abbrev _root_.l0S := @Option.bind_some
abbrev _root_.l0T := @List.take_length
abbrev _root_.l0U := @Nat.add_zero
abbrev _root_.l0V := @Nat.add_mul
abbrev _root_.l0W := @List.mem_append_left
abbrev _root_.l0X := @List.ext_getElem?
abbrev _root_.l0Y := @List.length_set
abbrev _root_.l0Z := @List.mem_append_right
abbrev _root_.l1a := @Nat.le_trans
abbrev _root_.l1b := @Option.map_none
abbrev _root_.l1c := @Bool.false_or
abbrev _root_.l1d := @Nat.mod_eq_of_lt
abbrev _root_.l1e := @List.drop_zero
abbrev _root_.l1f := @List.map_append
abbrev _root_.l1g := @List.length_singleton
abbrev _root_.l1h := @List.set_eq_take_append_cons_drop
abbrev _root_.l1i := @List.take_left
abbrev _root_.l1j := @List.append_toArray
abbrev _root_.l1k := @List.flatMap_append
abbrev _root_.l1l := @List.foldl_cons
abbrev _root_.l1m := @List.drop_left
abbrev _root_.l1n := @List.singleton_append
abbrev _root_.l1p := @Nat.add_assoc
abbrev _root_.l1q := @List.map_congr_left
abbrev _root_.l1r := @Bool.of_not_eq_true
abbrev _root_.l1u := @Bool.or_eq_true
abbrev _root_.l1v := @Int.natCast_nonneg
abbrev _root_.l1x := @List.map_map
abbrev _root_.l1y := @Nat.eq_zero_or_pos
abbrev _root_.l1z := @Nat.le_mul_of_pos_right
abbrev _root_.l1A := @List.filter_cons_of_pos
abbrev _root_.l1B := @List.filter_cons_of_neg
abbrev _root_.l1C := @Bool.not_true
abbrev _root_.l1D := @Option.getD_some
abbrev _root_.l1E := @List.set_append_right
abbrev _root_.l1F := @Nat.add_comm
abbrev _root_.l1H := @Nat.mod_lt
abbrev _root_.l1K := @List.length_zipWith
abbrev _root_.l1L := @Option.isSome_none
abbrev _root_.l1M := @List.set_cons_zero
abbrev _root_.l1Q := @Int.emod_eq_of_lt
abbrev _root_.l1R := @Bool.not_eq_true'
end
section
namespace Go.Ph
open Go Go.RowKit
abbrev Env := List (Nat × Value)
def get : Env→Nat→Option Value
 | [],_=>none
 |(j,v)::e,i=>bif Nat.beq i j then some v else get e i
def ev (e:Env):Operand→Option Value
 | .tmp t=>get e t
 | .const v=>some v
 | .global g=>some (.pointer (some ⟨g,0,none⟩))
 | .func f=>some (.func (.func f) #[] #[])
def evs (e:Env):List Operand→Option (List Value)
 | []=>some []
 | x::l=>match ev e x,evs e l with
   | some v,some vs=>some (v::vs)
   | _,_=>none
def Fits (e:Env)(ρ:Operand→Value):Prop :=∀x v,ev e x=some v→ρ x=v
theorem Fits.evs {e:Env}{ρ:Operand→Value}(h:Fits e ρ):∀{l:List Operand} {vs:List Value},evs e l=some vs→l.map ρ=vs
 | [],vs,hv=>by simp [Ph.evs] at hv;simp [hv]
 | x :: l,vs,hv=>by
   simp only[Ph.evs] at hv;split at hv
   · rename_i v vs' h1 h2;cases hv;simp [h x v h1,h.evs h2]
   cases hv
structure Sat (n:Nat)(D:List Deferred)(e:Env)(a:Act):Prop where
 size:a.tmps.size=n
 defers:a.defers=D
 val :∀i v,get e i=some v→a.tmps.getD i undef=v
theorem Sat.fits {n:Nat}{D:List Deferred}{e:Env}{a:Act}(h:Sat n D e a):Fits e a.eval:=by
 intro x v hx;cases x with
 | tmp t=>exact h.val t v hx
 | const u=>exact Option.some.inj hx
 | global g=>exact Option.some.inj hx
 | func f=>exact Option.some.inj hx
theorem Sat.put {n:Nat}{D:List Deferred}{e:Env}{a:Act}(h:Sat n D e a){d:Nat}(hd:d<n)(v:Value):Sat n D ((d,v)::e) (a.put (some d) v):=by
 refine⟨by simp [Act.put,h.size],h.defers,fun i u hi=>?_⟩;simp only[get] at hi;cases hb:Nat.beq i d with
 | true =>
   have:i=d:=l0q hb;subst this;rw[hb] at hi;have:v=u:=Option.some.inj hi;subst this;simp [Act.put,h.size,hd]
 | false =>
   have hne:i≠d:=Nat.ne_of_beq_eq_false hb;rw[hb] at hi;have:=h.val i u hi;simp only[Act.put,Array.getD_eq_getD_getElem?] at this ⊢;rw[Array.getElem?_setIfInBounds_ne (Ne.symm hne)];exact this
def Sub : Env→Env→Prop
 | [],_=>True
 |(i,v)::r,e=>get e i=some v∧Sub r e
theorem Sub.get {r e:Env}(h:Sub r e){i:Nat}{v:Value}(hi:get r i=some v):get e i=some v:=by
 induction r with
 | nil=>cases hi
 | cons p r ih =>
   obtain⟨j,u⟩:=p;simp only[Ph.get] at hi;cases hb:Nat.beq i j with
   | true =>
     have:i=j:=l0q hb;subst this;rw[hb] at hi;have:u=v:=Option.some.inj hi;subst this;exact h.1
   | false=>rw[hb] at hi;exact ih h.2 hi
theorem Sat.sub {n:Nat}{D:List Deferred}{e r:Env}{a:Act}(h:Sat n D e a)(hs:Sub r e):Sat n D r a :=
 ⟨h.size,h.defers,fun i v hi=>h.val i v (hs.get hi)⟩
def Wd (r:Option Nat):Fence:={Fence.wide with round:=r}
theorem callsIn_Wd {r:Option Nat}{n:Nat}{P:Program}{f:FuncId}{args:Array Value}{w:World}{R:Ending→World→Prop}:CallsIn (Wd r) n P f args w R↔Calls P f args w R :=
 (callsIn_wide (n:=n):CallsIn Fence.wide n P f args w R↔_)
def WR (r:Option Nat)(P:Program)(ops:Array Oper)(Q:Exit→Act→World→Prop)(n:Nat)(D:List Deferred)(l:List Oper)(e:Env)(w:World):Prop :=
 ∀a,Sat n D e a→wpListIn (Wd r) 0 P ops Q l a w
def WC (r:Option Nat)(P:Program)(Q:Exit→Act→World→Prop)(n:Nat)(D:List Deferred)(c:Code)(e:Env)(w:World):Prop :=
 ∀a,Sat n D e a→c.wpIn (Wd r) 0 P Q a w
def WQ (Q:Exit→Act→World→Prop)(x:Exit)(n:Nat)(D:List Deferred)(e:Env)(w:World):Prop :=∀a,Sat n D e a→Q x a w
def Ex (P:Program)(o:Oper)(e:Env)(w:World)(v:Value)(w':World):Prop :=
 (∀c,o.op≠ .defer c)∧∀ρ,Fits e ρ→(execOp ρ o).run P w = .ok (.value v) w'
def ExS (P:Program)(o:Oper)(e:Env)(w w':World):Prop :=
 (∀c,o.op≠ .defer c)∧∀ρ,Fits e ρ→(execOp ρ o).run P w = .ok .skip w'
section
variable {r : Option Nat} {P : Program} {ops : Array Oper} {Q : Exit → Act → World → Prop} {n : Nat} {D : List Deferred} {rest l : List Oper} {e : Env} {w w' : World} {o : Oper} {d : Nat} {v : Value}
def Wn (ops:Array Oper)(n:Nat)(D:List Deferred)(e:Env)(o:Oper):Prop :=∀a,Sat n D e a→Region.wanted o (yielded ops a.tmps)=true
theorem Wn.none (hg:o.guard=Option.none):Wn ops n D e o:=fun _ _=>by simp [Region.wanted,hg]
abbrev _root_.q00 := @Wn.none
theorem yielded_of {ops:Array Oper}{j t:Nat}{a:Act}{b:Bool}(hj:(ops[j]?).bind (·.dst)=some t)(ha:Sat n D e a)(hu:get e t=some (.bool b)):
 yielded ops a.tmps j=some b:=by
 have h:=ha.val t _ hu;unfold yielded;rw[hj];simp only[l0S];cases ht:a.tmps[t]? with
 | none=>simp [ht] at h;cases h
 | some x=>simp [ht] at h;subst h;rfl
theorem Wn.some {j t:Nat}{b:Bool}(hg:o.guard=Option.some (j,b))(hj:(ops[j]?).bind (·.dst)=Option.some t)(hb:get e t=Option.some (.bool b)):Wn ops n D e o:=fun a ha=>by
 have:=yielded_of hj ha hb;simp [Region.wanted,hg,this]
abbrev _root_.q06 := @Wn.some
theorem WR.step (hx:Ex P o e w v w')(hw:Wn ops n D e o)(hd:o.dst=some d)(hn:Nat.blt d n=true)(k:WR r P ops Q n D rest ((d,v)::e) w'):WR r P ops Q n D (o::rest) e w:=by
 intro a ha;unfold wpListIn;rw[if_pos (hw a ha)];refine⟨fun _ _=>trivial,?_⟩;rw[Oper.semAt_eq _ _ _ hx.1,hx.2 _ ha.fits,Oper.uponIn_value,hd];exact k _ (ha.put (l06 hn) v)
abbrev _root_.q0I := @WR.step
theorem WR.stepE {v':Value}(hx:Ex P o e w v w')(hv:v=v')(hw:Wn ops n D e o)(hd:o.dst=some d)(hn:Nat.blt d n=true)(k:WR r P ops Q n D rest ((d,v')::e) w'):WR r P ops Q n D (o::rest) e w:=by
 subst hv;exact WR.step hx hw hd hn k
abbrev _root_.q09 := @WR.stepE
theorem WR.stepS (hx:ExS P o e w w')(hw:Wn ops n D e o)(hd:o.dst=none)(k:WR r P ops Q n D rest e w'):WR r P ops Q n D (o::rest) e w:=by
 intro a ha;unfold wpListIn;rw[if_pos (hw a ha)];refine⟨fun _ _=>trivial,?_⟩;rw[Oper.semAt_eq _ _ _ hx.1,hx.2 _ ha.fits,Oper.uponIn_skip,hd];exact k _ ha
theorem WR.stepT {p:Prop}[Decidable p](hx:Ex P o e w (.bool (decide p)) w')(h:p)(hw:Wn ops n D e o)(hd:o.dst=some d)(hn:Nat.blt d n=true)(k:WR r P ops Q n D rest ((d, .bool true)::e) w'):WR r P ops Q n D (o::rest) e w:=by
 rw[decide_eq_true h] at hx;exact WR.step hx hw hd hn k
theorem WR.stepF {p:Prop}[Decidable p](hx:Ex P o e w (.bool (decide p)) w')(h :¬p)(hw:Wn ops n D e o)(hd:o.dst=some d)(hn:Nat.blt d n=true)(k:WR r P ops Q n D rest ((d, .bool false)::e) w'):WR r P ops Q n D (o::rest) e w:=by
 rw[decide_eq_false h] at hx;exact WR.step hx hw hd hn k
theorem WR.split {p:Prop}[Decidable p](hx:Ex P o e w (.bool (decide p)) w')(hw:Wn ops n D e o)(hd:o.dst=some d)(hn:Nat.blt d n=true)(kt:p→WR r P ops Q n D rest ((d, .bool true)::e) w')(kf :¬p→WR r P ops Q n D rest ((d, .bool false)::e) w'):WR r P ops Q n D (o::rest) e w:=by
 by_cases h:p
 · exact WR.stepT hx h hw hd hn (kt h)
 exact WR.stepF hx h hw hd hn (kf h)
theorem WR.splitB {b:Bool}(hx:Ex P o e w (.bool b) w')(hw:Wn ops n D e o)(hd:o.dst=some d)(hn:Nat.blt d n=true)(kt:b=true→WR r P ops Q n D rest ((d, .bool true)::e) w')(kf:b=false→WR r P ops Q n D rest ((d, .bool false)::e) w'):WR r P ops Q n D (o::rest) e w:=by
 cases b
 · exact WR.step hx hw hd hn (kf rfl)
 exact WR.step hx hw hd hn (kt rfl)
theorem WR.skipK (hw :∀a,Sat n D e a→Region.wanted o (yielded ops a.tmps)=false)(hd:o.dst=some d)(hn:d<n)
 (k:WR r P ops Q n D rest ((d,undef)::e) w):WR r P ops Q n D (o::rest) e w:=by
 intro a ha;unfold wpListIn;rw[if_neg (by rw[hw a ha];simp)];refine⟨fun _ _=>trivial,?_⟩;rw[hd];exact k _ (ha.put hn undef)
theorem WR.skipG {j t:Nat}{b:Bool}(hg:o.guard=some (j,!b))(hj:(ops[j]?).bind (·.dst)=some t)(hb:get e t=some (.bool b))(hd:o.dst=some d)(hn:Nat.blt d n=true)
 (k:WR r P ops Q n D rest ((d,undef)::e) w):WR r P ops Q n D (o::rest) e w :=
 WR.skipK (fun a ha=>by
  have:=yielded_of hj ha hb;cases b <;> simp [Region.wanted,hg,this]) hd (l06 hn) k
theorem WR.nil (k:WQ Q .normal n D e w):WR r P ops Q n D [] e w:=fun a ha=>k a ha
theorem WR.sub {e':Env}(hs:Sub e' e)(k:WR r P ops Q n D l e' w):WR r P ops Q n D l e w:=fun a ha=>k a (ha.sub hs)
theorem WC.sub {c:Code}{e':Env}(hs:Sub e' e)(k:WC r P Q n D c e' w):WC r P Q n D c e w:=fun a ha=>k a (ha.sub hs)
theorem WC.region {id:Nat}{l:List Oper}(k:WR r P l.toArray Q n D l e w):WC r P Q n D (.region id l.toArray false) e w:=fun a ha=>wpIn_region_lit (k a ha)
theorem WC.seq {x y:Code}(k:WC r P (Exit.then (y.wpIn (Wd r) 0 P Q) Q) n D x e w):WC r P Q n D (.seq x y) e w:=fun a ha=>wpIn_seq (k a ha)
theorem WQ.then {y:Code}{Q':Exit→Act→World→Prop}(k:WC r P Q n D y e w):WQ (Exit.then (y.wpIn (Wd r) 0 P Q) Q') .normal n D e w:=fun a ha=>k a ha
theorem WC.skip (k:WQ Q .normal n D e w):WC r P Q n D .skip e w:=fun a ha=>wpIn_skip (k a ha)
theorem WC.ret (k:WQ Q .ret n D e w):WC r P Q n D .ret e w:=fun a ha=>wpIn_ret (k a ha)
theorem WC.exit {id:Nat}(k:WQ Q (.exit id) n D e w):WC r P Q n D (.exit id) e w:=fun a ha=>wpIn_exit (k a ha)
abbrev _root_.q0x := @WC.exit
theorem WC.block {id:Nat}{c:Code}(k:WC r P (Exit.inBlock id Q) n D c e w):WC r P Q n D (.block id c) e w:=fun a ha=>wpIn_block (k a ha)
theorem WC.condT {c:Operand}{x y:Code}(hc:ev e c=some (.bool true))(k:WC r P Q n D x e w):WC r P Q n D (.cond c x y) e w:=fun a ha=>wpIn_cond_true (ha.fits _ _ hc) (k a ha)
theorem WC.condF {c:Operand}{x y:Code}(hc:ev e c=some (.bool false))(k:WC r P Q n D y e w):WC r P Q n D (.cond c x y) e w:=fun a ha=>wpIn_cond_false (ha.fits _ _ hc) (k a ha)
theorem WC.condB {c:Operand}{x y:Code}{b:Bool}(hc:ev e c=some (.bool b))(kt:b=true→WC r P Q n D x e w)(kf:b=false→WC r P Q n D y e w):WC r P Q n D (.cond c x y) e w :=
 fun a ha=>wpIn_cond_split (ha.fits _ _ hc) (fun h=>kt h a ha) (fun h=>kf h a ha)
abbrev _root_.q0b := @WC.condB
theorem WC.loop {ι:Type}{c:Code}(E:ι→Env)(I:ι→World→Prop)(μ:ι→Nat)(x0:ι)(hs:Sub (E x0) e)(h0:I x0 w)
 (round :∀x w,I x w→WC r P (Exit.then (fun a' w' =>∃y,Sat n D (E y) a'∧I y w'∧μ y<μ x) Q) n D c (E x) w):WC r P Q n D (.loop c) e w:=by
 intro a ha b k cs hro hb hr;have key :∀m,∀x a w,μ x=m→Sat n D (E x) a→I x w→
  ∃e a' w',Q e a' w'∧ArrivesIn (Machine.fenced P (Wd r)) P (lone (b.atR a (.code c :: .inLoop c::k)) cs w) b k cs e a' w':=by
  intro m;induction m using Nat.strongRecOn with
  | _ m ih =>
    intro x a w hm hsat hI;obtain⟨ex,a₁,w₁,hq,harr⟩:=round x w hI a hsat b (.inLoop c::k) cs hro hb hr;cases ex with
    | normal =>
      obtain⟨y,hs1,hI1,hlt⟩:=hq;obtain⟨e2,a2,w2,hq2,harr2⟩:=ih (μ y) (hm ▸ hlt) y a₁ w₁ rfl hs1 hI1;exact⟨e2,a2,w2,hq2, .of_steps (StepsIn.trans harr (.one (fenced_calm hb hr rfl) stepR_inLoop)) harr2⟩
    | exit id=>exact⟨_,a₁,w₁,hq, .pass (x := .inLoop c) rfl (fun _ _ => .inl Sm) harr⟩
    | goto l=>exact⟨_,a₁,w₁,hq, .pass (x := .inLoop c) rfl (fun _ _ => .inl Sm) harr⟩
    | ret=>exact⟨_,a₁,w₁,hq, .pass (x := .inLoop c) rfl (fun _ _ => .inl Sm) harr⟩
    | panic ch=>exact⟨_,a₁,w₁,hq, .pass (x := .inLoop c) rfl (fun _ _ => .inl Sm) harr⟩
    | outgrown=>exact⟨_,a₁,w₁,hq, .pass (x := .inLoop c) rfl (fun _ _ => .inl Sm) harr⟩
 obtain⟨e',a',w',hq,harr⟩:=key _ x0 a w rfl (ha.sub hs) h0;exact⟨e',a',w',hq, .of_steps (.one (fenced_calm hb hr rfl) stepR_loop) harr⟩
theorem WC.cut {ι:Type}{x y:Code}(E:ι→Env)(I:ι→World→Prop)
 (hx:WC r P (Exit.then (fun a' w' =>∃z,Sat n D (E z) a'∧I z w') Q) n D x e w) (hy :∀z w,I z w→WC r P Q n D y (E z) w):WC r P Q n D (.seq x y) e w :=
 fun a ha=>wpIn_seq (wpIn_mono (hx a ha) fun ex a' w' h=>by
  cases ex with
  | normal=>obtain⟨z,hs,hI⟩:=h;exact hy z w' hI a' hs
  | _=>exact h)
theorem WC.cut1 {α:Type}{x y:Code}(E:α→Env)(J:α→World→Prop)
 (hx:WC r P (Exit.then (fun a' w' =>∃y0,Sat n D (E y0) a'∧J y0 w') Q) n D x e w) (hy :∀x0 w,J x0 w→WC r P Q n D y (E x0) w):WC r P Q n D (.seq x y) e w :=
 fun a ha=>wpIn_seq (wpIn_mono (hx a ha) fun ex a' w' h=>by
  cases ex with
  | normal=>obtain⟨y0,hs,hI⟩:=h;exact hy y0 w' hI a' hs
  | _=>exact h)
theorem WQ.inBlock {id:Nat}(k:WQ Q .normal n D e w):WQ (Exit.inBlock id Q) .normal n D e w:=fun a ha=>k a ha
theorem WQ.inBlockRet {id:Nat}(k:WQ Q .ret n D e w):WQ (Exit.inBlock id Q) .ret n D e w:=fun a ha=>k a ha
theorem WQ.thenRet {K:Act→World→Prop}(k:WQ Q .ret n D e w):WQ (Exit.then K Q) .ret n D e w:=fun a ha=>k a ha
theorem WQ.thenExit {K:Act→World→Prop}{id:Nat}(k:WQ Q (.exit id) n D e w):WQ (Exit.then K Q) (.exit id) n D e w:=fun a ha=>k a ha
abbrev _root_.q07 := @WQ.thenExit
theorem WQ.exitHere {id:Nat}(k:WQ Q .normal n D e w):WQ (Exit.inBlock id Q) (.exit id) n D e w:=fun a ha=>by
 show Exit.inBlock id Q (.exit id) a w
 simp only[Exit.inBlock,if_true];exact k a ha
abbrev _root_.q0k := @WQ.exitHere
theorem WQ.exitOut {id id':Nat}(h:Nat.beq id' id=false)(k:WQ Q (.exit id') n D e w):WQ (Exit.inBlock id Q) (.exit id') n D e w:=fun a ha=>by
 have hne:id'≠id:=Nat.ne_of_beq_eq_false h;simp only[Exit.inBlock,hne,if_false];exact k a ha
end
end Go.Ph
end
section
namespace Go.Ph
open Go Go.RowKit
abbrev Mem := Nat→Option Obj
def Mem.le (M M':Mem):Prop :=∀b o,M b=some o→M' b=some o
theorem Mem.le.refl (M:Mem):M.le M:=fun _ _ h=>h
theorem Mem.le.trans {A B C:Mem}(h:A.le B)(k:B.le C):A.le C:=fun b o hb=>k b o (h b o hb)
def Ag (M:Mem)(w:World):Prop :=∀b o,M b=some o→w.heap[b]? = some o
theorem Ag.lt {M:Mem}{w:World}(h:Ag M w){b:Nat}{o:Obj}(hb:M b=some o):b<w.heap.size:=(Array.getElem?_eq_some_iff.1 (h b o hb)).1
theorem Ag.none {M:Mem}{w:World}(h:Ag M w){b:Nat}(hb:w.heap.size≤b):M b=none:=by
 cases hm:M b with
 | none=>rfl
 | some o=>have:=h.lt hm;omega
structure BelowX (C:Nat→Prop)(w w':World):Prop where
 os:w'.os=w.os
 tape:w'.tape=w.tape
 output:w'.output=w.output
 size:w.heap.size≤w'.heap.size
 block :∀k,k<w.heap.size→¬C k→w'.heap[k]? = w.heap[k]?
structure ExtX (C:Nat→Prop)(w:World)(M:Mem)(w':World)(M':Mem):Prop where
 below:BelowX C w w'
 le:M.le M'
 ag:Ag M' w'
 old :∀b,b<w.heap.size→M' b=M b
abbrev Ext := ExtX (fun _=>False)
theorem BelowX.plain {w w':World}(h:BelowX (fun _=>False) w w'):Below w.heap.size w w':=⟨h.os,h.tape,h.output,h.size,fun k hk=>h.block k hk (fun h=>h)⟩
theorem BelowX.of {w w':World}(h:Below w.heap.size w w')(C:Nat→Prop):BelowX C w w':=⟨h.os,h.tape,h.output,h.size,fun k hk _=>h.block k hk⟩
theorem ExtX.refl {C:Nat→Prop}{M:Mem}{w:World}(h:Ag M w):ExtX C w M w M:=⟨⟨rfl,rfl,rfl,l09 _,fun _ _ _=>rfl⟩,fun _ _ h=>h,h,fun _ _=>rfl⟩
theorem Ext.refl {M:Mem}{w:World}(h:Ag M w):Ext w M w M:=ExtX.refl h
abbrev _root_.q1k := @Ext.refl
theorem ExtX.trans {C C':Nat→Prop}{w w1 w2:World}{M M1 M2:Mem}(h:ExtX C w M w1 M1)(k:ExtX C' w1 M1 w2 M2)(hc :∀b,b<w.heap.size→C' b→C b):ExtX C w M w2 M2 :=
 ⟨⟨k.below.os.trans h.below.os,k.below.tape.trans h.below.tape,k.below.output.trans h.below.output,l1a h.below.size k.below.size,
  fun i hi hn=>(k.below.block i (l0L hi h.below.size) (fun h'=>hn (hc i hi h'))).trans (h.below.block i hi hn)⟩,
  h.le.trans k.le,k.ag,fun b hb=>(k.old b (l0L hb h.below.size)).trans (h.old b hb)⟩
inductive Item where
 | blk (b:Nat) (o:Obj)
 | row (t:TypeId) (size:Nat) (v:Value) (n:Nat) (xs:List Value)
def Item.foot : Item→Option Nat
 | .blk b _=>some b
 | .row _ _ v _ _=>v.ownBlock
def Item.holds (w:World):Item→Prop
 | .blk b o=>w.heap[b]? = some o
 | .row t s v n xs=>w.ownsRow 0 t s v n xs
theorem Item.holds.lt {w:World}{it:Item}(h:it.holds w):∀b,it.foot=some b→b<w.heap.size:=by
 intro b hb;cases it with
 | blk b' o =>
   have:b'=b:=Option.some.inj hb;subst this;exact(Array.getElem?_eq_some_iff.1 h).1
 | row t s v n xs=>exact(World.ownsRow.lt h b hb).2
theorem Item.holds.kept {w w':World}{it:Item}(h:it.holds w)(hg :∀b,it.foot=some b→w'.heap[b]? = w.heap[b]?):it.holds w':=by
 cases it with
 | blk b o=>exact(hg b rfl).trans h
 | row t s v n xs =>
   refine⟨h.1,?_⟩;rcases h.2 with h2|⟨g,cap,cur,hv,hb,hg2,h3⟩
   · exact .inl h2
   exact .inr ⟨g,cap,cur,hv,hb,(hg g (by rw[Item.foot,hv];rfl)).trans hg2,h3⟩
structure StX (C:Nat→Prop)(w0:World)(M0 M:Mem)(L:List Item)(w:World):Prop where
 ext:ExtX C w0 M0 w M
 own :∀it∈L,it.holds w∧∀b,it.foot=some b→M b=none∧(w0.heap.size≤b∨C b)
 sep:L.Pairwise (fun x y =>∀b,x.foot=some b→y.foot≠some b)
abbrev St := StX (fun _=>False)
theorem StX.start {C:Nat→Prop}{w:World}{M:Mem}(h:Ag M w):StX C w M M [] w:=⟨ExtX.refl h,fun _ hx=>(by cases hx),List.Pairwise.nil⟩
section
variable {C C' : Nat → Prop} {w0 w w' : World} {M0 M M' : Mem} {L L' : List Item} {it it' : Item}
theorem StX.ag (H:StX C w0 M0 M L w):Ag M w:=H.ext.ag
theorem StX.base (H:StX C w0 M0 M L w):w0.heap.size≤w.heap.size:=H.ext.below.size
theorem ExtX.grown {row:Option Nat}(h:ExtX C w0 M0 w M)(hg:w.grownBy w' row)(hr :∀b,row=some b→M b=none∧(w0.heap.size≤b∨C b)):ExtX C w0 M0 w' M :=
 ⟨⟨hg.os.trans h.below.os,hg.tape.trans h.below.tape,hg.output.trans h.below.output,l1a h.below.size hg.size,
  fun k hk hn=>(hg.block k (l0L hk h.below.size) (fun e=>(hr k e.symm).2.elim (fun h1=>absurd hk Om) hn)).trans (h.below.block k hk hn)⟩,
  h.le,fun b o hb=>(hg.block b (h.ag.lt hb) (fun e=>by rw[(hr b e.symm).1] at hb;cases hb)).trans (h.ag b o hb),h.old⟩
theorem StX.grow (H:StX C w0 M0 M L w)(hg:w.grownBy w' none):StX C w0 M0 M L w' :=
 ⟨H.ext.grown hg Sm,fun it hit=>⟨(H.own it hit).1.kept (fun b hb=>hg.block b ((H.own it hit).1.lt b hb) Sm),(H.own it hit).2⟩,H.sep⟩
theorem StX.drew (H:StX C w0 M0 M L w):StX C w0 M0 M L w.drew:=H.grow ⟨rfl,rfl,rfl,l09 _,fun _ _ _=>rfl⟩
theorem StX.drewN (H:StX C w0 M0 M L w)(n:Nat):StX C w0 M0 M L (w.drewN n):=H.grow ⟨rfl,rfl,rfl,l09 _,fun _ _ _=>rfl⟩
theorem StX.new (H:StX C w0 M0 M L w)(hg:w.grownBy w' none)(hh:it.holds w')(hf :∀b,it.foot=some b→w.heap.size≤b):StX C w0 M0 M (it::L) w':=by
 have H':=H.grow hg;refine⟨H'.ext,fun x hx=>?_,?_⟩
 · rcases List.mem_cons.1 hx with rfl|hx
   · exact⟨hh,fun b hb=>⟨H.ag.none (hf b hb), .inl (l1a H.base (hf b hb))⟩⟩
   exact H'.own x hx
 refine List.pairwise_cons.2 ⟨fun y hy b hb hyb=>?_,H.sep⟩;have h1:=hf b hb;have h2:=(H.own y hy).1.lt b hyb;omega
theorem StX.newNone (H:StX C w0 M0 M L w)(hh:it.holds w)(hf:it.foot=none):StX C w0 M0 M (it::L) w :=
 H.new ⟨rfl,rfl,rfl,l09 _,fun _ _ _=>rfl⟩ hh (by rw[hf];simp)
inductive Upd : List Item→Item→Item→List Item→Prop
 | head {it it':Item} {L:List Item}:Upd (it::L) it it' (it'::L)
 | tail {p it it':Item} {L L':List Item} (h:Upd L it it' L'):Upd (p::L) it it' (p::L')
theorem Upd.mem (h:Upd L it it' L'):it∈L:=by
 induction h with
 | head=>simp
 | tail _ ih=>simp [ih]
theorem Upd.mem' (h:Upd L it it' L'):∀x∈L',x=it'∨x∈L:=by
 induction h with
 | head => intro x hx;rcases List.mem_cons.1 hx with rfl|hx
           · exact .inl rfl
           exact .inr (by simp [hx])
 | tail _ ih => intro x hx;rcases List.mem_cons.1 hx with rfl|hx
                · exact .inr Sm
                rcases ih x hx with h|h
                · exact .inl h
                exact .inr (by simp [h])
theorem Upd.pairs {R:Item→Item→Prop}(hu:Upd L it it' L')(hs :∀x y,R x y→R y x)(hp:L.Pairwise R)(hn :∀x∈L,R it x→R it' x):
 L'.Pairwise R∧∀x∈L',x=it'∨R it x:=by
 induction hu with
 | head =>
   obtain⟨h1,h2⟩:=List.pairwise_cons.1 hp;exact⟨List.pairwise_cons.2 ⟨fun y hy=>hn y (by simp [hy]) (h1 y hy),h2⟩,fun x hx=>by
    rcases List.mem_cons.1 hx with rfl|hx
    · exact .inl rfl
    exact .inr (h1 x hx)⟩
 | tail hu ih =>
   rename_i p it it' L L';obtain⟨h1,h2⟩:=List.pairwise_cons.1 hp;obtain⟨i1,i2⟩:=ih h2 (fun x hx=>hn x (by simp [hx]));have hpit:R it p:=hs _ _ (h1 _ hu.mem);refine⟨List.pairwise_cons.2 ⟨fun y hy=>?_,i1⟩,fun x hx=>?_⟩
   · rcases hu.mem' y hy with rfl|hy'
     · exact hs _ _ (hn p Sm hpit)
     exact h1 y hy'
   rcases List.mem_cons.1 hx with rfl|hx
   · exact .inr hpit
   exact i2 x hx
abbrev Apart (x y:Item):Prop :=∀b,x.foot=some b→y.foot≠some b
theorem Apart.symm {x y:Item}(h:Apart x y):Apart y x:=fun b hb hx=>h b hx hb
theorem StX.upd (H:StX C w0 M0 M L w)(hu:Upd L it it' L')(hg:w.grownBy w' it.foot)(hh:it'.holds w')(hf :∀b,it'.foot=some b→it.foot=some b∨w.heap.size≤b):StX C w0 M0 M L' w':=by
 have hit:=H.own it hu.mem;obtain⟨hp,hq⟩:=hu.pairs (R:=Apart) (fun x y h=>h.symm) H.sep (fun x hx hr b hb hxb=>by
  rcases hf b hb with h|h
  · exact hr b h hxb
  have:=(H.own x hx).1.lt b hxb;omega)
 have hnew :∀b,it'.foot=some b→M b=none∧(w0.heap.size≤b∨C b):=fun b hb=>by
  rcases hf b hb with h|h
  · exact hit.2 b h
  exact⟨H.ag.none h, .inl (l1a H.base h)⟩
 refine⟨H.ext.grown hg hit.2,fun x hx=>?_,hp⟩;rcases hq x hx with rfl|hr
 · exact⟨hh,hnew⟩
 rcases hu.mem' x hx with rfl|hxL
 · exact⟨hh,hnew⟩
 exact⟨(H.own x hxL).1.kept (fun b hb=>hg.block b ((H.own x hxL).1.lt b hb) (fun he=>hr b he.symm hb)),(H.own x hxL).2⟩
inductive Rem : List Item→Item→List Item→Prop
 | head {it:Item} {L:List Item}:Rem (it::L) it L
 | tail {p it:Item} {L L':List Item} (h:Rem L it L'):Rem (p::L) it (p::L')
theorem Rem.mem (h:Rem L it L'):it∈L:=by
 induction h with
 | head=>simp
 | tail _ ih=>simp [ih]
theorem Rem.sublist (h:Rem L it L'):L'.Sublist L:=by
 induction h with
 | head=>exact l0I _ _
 | tail _ ih=>exact ih.cons_cons _
theorem Rem.pairs {R:Item→Item→Prop}(hu:Rem L it L')(hs :∀x y,R x y→R y x)(hp:L.Pairwise R):∀x∈L',R it x:=by
 induction hu with
 | head=>exact(List.pairwise_cons.1 hp).1
 | tail hu ih =>
   obtain⟨h1,h2⟩:=List.pairwise_cons.1 hp;intro x hx;rcases List.mem_cons.1 hx with rfl|hx
   · exact hs _ _ (h1 _ hu.mem)
   exact ih h2 x hx
theorem StX.drop (H:StX C w0 M0 M L w)(hs:L'.Sublist L):StX C w0 M0 M L' w:=⟨H.ext,fun it hit=>H.own it (hs.subset hit),H.sep.sublist hs⟩
def Mem.set (M:Mem)(b:Nat)(o:Obj):Mem:=fun b'=>if b'=b then some o else M b'
theorem StX.freeze (H:StX C w0 M0 M L w)(hu:Rem L it L'){b:Nat}{o:Obj}(hf:it.foot=some b)(ho:w.heap[b]? = some o)(hb:w0.heap.size≤b):M.le (M.set b o)∧StX C w0 M0 (M.set b o) L' w:=by
 have hit:=H.own it hu.mem;have hle:M.le (M.set b o):=fun b' o' hbm=>by
  by_cases h:b'=b
  · subst h;rw [(hit.2 b' hf).1] at hbm;cases hbm
  simp [Mem.set,h,hbm]
 refine⟨hle,⟨H.ext.below,H.ext.le.trans hle,fun b' o' hb=>?_,fun b' hb'=>?_⟩,fun x hx=>?_,H.sep.sublist hu.sublist⟩
 · by_cases h:b'=b
   · subst h;simp only[Mem.set,if_true] at hb;rw [←hb];exact ho
   simp only[Mem.set,h,if_false] at hb;exact H.ag b' o' hb
 · have hne:b'≠b:=by omega
   simp only[Mem.set,hne,if_false];exact H.ext.old b' hb'
 have hx':=H.own x (hu.sublist.subset hx);refine⟨hx'.1,fun b' hb'=>?_⟩;have hne:b'≠b:=fun h=>by
  subst h;exact hu.pairs (R:=Apart) (fun x y h=>h.symm) H.sep x hx b' hf hb'
 simp only[Mem.set,hne,if_false];exact hx'.2 b' hb'
def feet (L:List Item)(b:Nat):Prop :=∃it∈L,it.foot=some b
inductive Spl : List Item→List Item→List Item→Prop
 | nil:Spl [] [] []
 | left {x:Item} {L A B:List Item} (h:Spl L A B):Spl (x::L) (x::A) B
 | right {x:Item} {L A B:List Item} (h:Spl L A B):Spl (x::L) A (x::B)
theorem Spl.all (L:List Item):Spl L [] L:=by
 induction L with
 | nil=>exact .nil
 | cons x L ih=>exact .right ih
abbrev _root_.q0E := @Spl.all
theorem Spl.whole (L:List Item):Spl L L []:=by
 induction L with
 | nil=>exact .nil
 | cons x L ih=>exact .left ih
theorem Spl.subs {A B:List Item}(h:Spl L A B):A.Sublist L∧B.Sublist L:=by
 induction h with
 | nil=>exact⟨List.Sublist.refl _,List.Sublist.refl _⟩
 | left _ ih=>exact⟨ih.1.cons_cons _,ih.2.cons _⟩
 | right _ ih=>exact⟨ih.1.cons _,ih.2.cons_cons _⟩
theorem Spl.cross {R:Item→Item→Prop}{A B:List Item}(h:Spl L A B)(hs :∀x y,R x y→R y x)(hp:L.Pairwise R):∀x∈A,∀y∈B,R x y:=by
 induction h with
 | nil=>intro x hx;cases hx
 | left h ih =>
   obtain⟨h1,h2⟩:=List.pairwise_cons.1 hp;intro x hx y hy;rcases List.mem_cons.1 hx with rfl|hx
   · exact h1 y (h.subs.2.subset hy)
   exact ih h2 x hx y hy
 | right h ih =>
   obtain⟨h1,h2⟩:=List.pairwise_cons.1 hp;intro x hx y hy;rcases List.mem_cons.1 hy with rfl|hy
   · exact hs _ _ (h1 x (h.subs.1.subset hx))
   exact ih h2 x hx y hy
theorem Spl.append (A B:List Item):Spl (A++B) A B:=by
 induction A with
 | nil=>exact Spl.all B
 | cons x A ih=>exact .left ih
theorem StX.hand {A B:List Item}(H:StX C w0 M0 M L w)(hs:Spl L A B):StX (feet A) w M M A w :=
 ⟨ExtX.refl H.ag,fun it hit=>⟨(H.own it (hs.subs.1.subset hit)).1,fun b hb=>⟨((H.own it (hs.subs.1.subset hit)).2 b hb).1, .inr ⟨it,hit,hb⟩⟩⟩,H.sep.sublist hs.subs.1⟩
theorem StX.back {A B A':List Item}(H:StX C w0 M0 M L w)(hs:Spl L A B)(h:StX (feet A) w M M' A' w'):StX C w0 M0 M' (A'++B) w':=by
 have hB :∀it∈B,∀b,it.foot=some b→w'.heap[b]? = w.heap[b]?∧M' b=none:=fun it hit b hb=>by
  have h1:=H.own it (hs.subs.2.subset hit);have hlt:=h1.1.lt b hb;refine⟨h.ext.below.block b hlt (fun⟨x,hx,hxb⟩=>hs.cross (R:=Apart) (fun x y h=>h.symm) H.sep x hx it hit b hxb hb),?_⟩;rw[h.ext.old b hlt];exact(h1.2 b hb).1
 refine⟨H.ext.trans h.ext (fun b hb ⟨x,hx,hxb⟩=>by
  rcases((H.own x (hs.subs.1.subset hx)).2 b hxb).2 with h1|h1
  · omega
  exact h1),fun it hit=>?_,?_⟩
 · rcases List.mem_append.1 hit with h1|h1
   · refine⟨(h.own it h1).1,fun b hb=>⟨((h.own it h1).2 b hb).1,?_⟩⟩;rcases((h.own it h1).2 b hb).2 with h2|⟨x,hx,hxb⟩
     · exact .inl (l1a H.base h2)
     exact((H.own x (hs.subs.1.subset hx)).2 b hxb).2
   have h2:=H.own it (hs.subs.2.subset h1);exact⟨h2.1.kept (fun b hb=>(hB it h1 b hb).1),fun b hb=>⟨(hB it h1 b hb).2,(h2.2 b hb).2⟩⟩
 refine List.pairwise_append.2 ⟨h.sep,H.sep.sublist hs.subs.2,fun x hx y hy b hxb hyb=>?_⟩;have hlt:=(H.own y (hs.subs.2.subset hy)).1.lt b hyb;rcases((h.own x hx).2 b hxb).2 with h2|⟨z,hz,hzb⟩
 · omega
 exact hs.cross (R:=Apart) (fun x y h=>h.symm) H.sep z hz y hy b hzb hyb
theorem feet_nil : feet []=fun _=>False:=by funext b;simp [feet]
theorem StX.callO {its:List Item}(H:StX C w0 M0 M L w)(h:St w M M' its w'):StX C w0 M0 M' (its++L) w' :=
 H.back (Spl.all L) (by rw[feet_nil];exact h)
theorem StX.call (H:StX C w0 M0 M L w)(h:Ext w M w' M'):StX C w0 M0 M' L w' :=
 H.callO (its:=[]) ⟨h,fun _ hx=>(by cases hx),List.Pairwise.nil⟩
theorem StX.blk (H:StX C w0 M0 M L w){b:Nat}{o:Obj}(h:Item.blk b o∈L):w.heap[b]? = some o:=(H.own _ h).1
theorem StX.rowOf (H:StX C w0 M0 M L w){t:TypeId}{s:Nat}{v:Value}{n:Nat}{xs:List Value}(h:Item.row t s v n xs∈L):w.ownsRow 0 t s v n xs:=(H.own _ h).1
end
def Ret (w:World)(M:Mem)(R:Value→Mem→Prop)(e:Ending)(w':World):Prop :=∃r M',e = .returned r∧Ext w M w' M'∧R r M'
structure Ct (P:Program)(f:FuncId)(args:List Value)(Pre:Mem→Prop)(R:Value→Mem→Prop):Prop where
 enters :∀ar w,(callFunc f ar).run P w = .ok (.enter f ar) w
 calls :∀w M,Ag M w→Pre M→Calls P f args.toArray w (Ret w M R)
def RetX (A:List Item)(w:World)(M:Mem)(R:Value→Mem→List Item→Prop)(e:Ending)(w':World):Prop :=∃r M' its,e = .returned r∧StX (feet A) w M M' its w'∧R r M' its
structure CtX (P:Program)(f:FuncId)(args:List Value)(A:List Item)(Pre:Mem→Prop)(R:Value→Mem→List Item→Prop):Prop where
 enters :∀ar w,(callFunc f ar).run P w = .ok (.enter f ar) w
 calls :∀w M,StX (feet A) w M M A w→Pre M→Calls P f args.toArray w (RetX A w M R)
def RetO (w:World)(M:Mem)(R:Value→Mem→List Item→Prop)(e:Ending)(w':World):Prop :=∃r M' its,e = .returned r∧St w M M' its w'∧R r M' its
structure CtO (P:Program)(f:FuncId)(args:List Value)(Pre:Mem→Prop)(R:Value→Mem→List Item→Prop):Prop where
 enters :∀ar w,(callFunc f ar).run P w = .ok (.enter f ar) w
 calls :∀w M,Ag M w→Pre M→Calls P f args.toArray w (RetO w M R)
theorem Ct.mono {P:Program}{f:FuncId}{args:List Value}{Pre:Mem→Prop}{R R':Value→Mem→Prop}(h:Ct P f args Pre R)(hr :∀v M,R v M→R' v M):Ct P f args Pre R' :=
 ⟨h.enters,fun w M ha hp=>(h.calls w M ha hp).mono fun _ _ ⟨r,M',he,hx,hR⟩=>⟨r,M',he,hx,hr _ _ hR⟩⟩
def envOf : Nat→List Value→Env
 | _,[]=>[]
 | i,v::vs=>(i,v)::envOf (i+1) vs
theorem get_envOf (vs:List Value):∀(i j:Nat) (v:Value),get (envOf i vs) j=some v→i≤j∧vs[j-i]? = some v:=by
 induction vs with
 | nil=>intro i j v h;cases h
 | cons u vs ih =>
   intro i j v h;simp only[envOf,get] at h;cases hb:Nat.beq j i with
   | true =>
     have:j=i:=l0q hb;subst this;rw[hb] at h;have:u=v:=Option.some.inj h;subst this;simp
   | false =>
     rw[hb] at h;obtain⟨h1,h2⟩:=ih (i+1) j v h;refine⟨by omega,?_⟩;rw[show j-i=(j-(i+1))+1 by omega,List.getElem?_cons_succ];exact h2
theorem Sat.init {n:Nat}{args:List Value}(hn:args.length≤n):Sat n [] (envOf 0 args) {tmps:=args.toArray++Array.replicate (n-args.toArray.size) undef,defers:=[]}:=by
 refine⟨by simp;omega,rfl,fun i v hi=>?_⟩;obtain⟨_,h⟩:=get_envOf args 0 i v hi;have hlt:i<args.length:=(List.getElem?_eq_some_iff.1 h).1;simp only[Nat.sub_zero] at h;have h':=(List.getElem?_eq_some_iff.1 h).2;simp [Array.getElem?_append,hlt,h']
theorem calls_of_WC {P:Program}{f:FuncId}{fn:Func}{c:Code}{args:List Value}{w:World}{R:Ending→World→Prop}{n:Nat}
 (hf:P.funcs[f]? = some fn) (hb:fn.body=some c) (hnt:fn.ntmps=n) (hn:Nat.ble args.length n=true)
 (h:WC none P (bodyPost P fn R) n [] c (envOf 0 args) w):Calls P f args.toArray w R:=by
 refine callsIn_Wd.1 (callsIn_of_wp (F:=Wd none) (n:=0) hf hb trivial ?_);subst hnt;exact h _ (Sat.init (l06 hn))
theorem Ct.of {P:Program}{f:FuncId}{fn:Func}{c:Code}{args:List Value}{Pre:Mem→Prop}{R:Value→Mem→Prop}{n:Nat}
 (hf:P.funcs[f]? = some fn) (hen :∀ar w,(callFunc f ar).run P w = .ok (.enter f ar) w) (hb:fn.body=some c) (hnt:fn.ntmps=n) (hn:Nat.ble args.length n=true)
 (h :∀w M,St w M M [] w→Pre M→WC none P (bodyPost P fn (Ret w M R)) n [] c (envOf 0 args) w):Ct P f args Pre R :=
 ⟨hen,fun w M ha hp=>calls_of_WC hf hb hnt hn (h w M (StX.start ha) hp)⟩
theorem CtO.of {P:Program}{f:FuncId}{fn:Func}{c:Code}{args:List Value}{Pre:Mem→Prop}{R:Value→Mem→List Item→Prop}{n:Nat}
 (hf:P.funcs[f]? = some fn) (hen :∀ar w,(callFunc f ar).run P w = .ok (.enter f ar) w) (hb:fn.body=some c) (hnt:fn.ntmps=n) (hn:Nat.ble args.length n=true)
 (h :∀w M,St w M M [] w→Pre M→WC none P (bodyPost P fn (RetO w M R)) n [] c (envOf 0 args) w):CtO P f args Pre R :=
 ⟨hen,fun w M ha hp=>calls_of_WC hf hb hnt hn (h w M (StX.start ha) hp)⟩
theorem enters {P : Program}{f : FuncId}{fn : Func}(hf : P.funcs[f]? = some fn)(hname : (fn.name == "runtime.NumGoroutine") = false)(hb : fn.body.isNone = false):
 ∀ar w,(callFunc f ar).run P w = .ok (.enter f ar) w:=by
 intro ar w
 have h1 : ¬ fn.name = "runtime.NumGoroutine" := by simpa using hname
 have h2 :¬fn.body=none:=by intro h;simp [h] at hb
 simp [callFunc,hf,h1,h2,go_sem]
section
variable {P : Program} {fn : Func} {w0 w : World} {M0 M : Mem} {R : Value → Mem → Prop} {n : Nat} {e : Env} {v v1 v2 v3 v4 : Value}
def resv (P:Program)(w:World)(e:Env):ResultVar→Value→Prop
 | .tmp t,v=>get e t=some v
 | .cell a t,v =>∃p,get e a=some (.pointer (some p))∧(loadVar t p).run P w = .ok v w
def resf (tmps:Array Value):ResultVar→Sem Value
 | .tmp t=>pure (tmps.getD t undef)
 | .cell a t=>do loadVar t (←asAddr (tmps.getD a undef))
theorem results_eq (fn:Func)(tmps:Array Value):results fn tmps=(do let vs ←fn.results.mapM (resf tmps);pure (if h:vs.size=1 then vs[0] else .tuple vs)):=by
 unfold results;congr 1
theorem resv_run {D:List Deferred}{a:Act}{x:ResultVar}(ha:Sat n D e a)(h:resv P w e x v):(resf a.tmps x).run P w = .ok v w:=by
 cases x with
 | tmp t =>
   show(pure (a.tmps.getD t undef):Sem Value).run P w=_
   rw[ha.val t v h];rfl
 | cell ad t =>
   obtain⟨p,hp,hl⟩:=h;show(do loadVar t (←asAddr (a.tmps.getD ad undef)):Sem Value).run P w=_
   rw[ha.val ad _ hp];exact hl
section
variable (f : ResultVar → Sem Value)
theorem run_res1 {x:ResultVar}(h1:(f x).run P w = .ok v w):(do let vs ←(#[x]:Array ResultVar).mapM f;pure (if h:vs.size=1 then vs[0] else .tuple vs):Sem Value).run P w = .ok v w:=by simp [h1]
theorem run_res2 {x y:ResultVar}(h1:(f x).run P w = .ok v1 w)(h2:(f y).run P w = .ok v2 w):(do let vs ←(#[x,y]:Array ResultVar).mapM f;pure (if h:vs.size=1 then vs[0] else .tuple vs):Sem Value).run P w = .ok (.tuple #[v1,v2]) w:=by simp [h1,h2]
theorem run_res3 {x y z:ResultVar}(h1:(f x).run P w = .ok v1 w)(h2:(f y).run P w = .ok v2 w)(h3:(f z).run P w = .ok v3 w):(do let vs ←(#[x,y,z]:Array ResultVar).mapM f;pure (if h:vs.size=1 then vs[0] else .tuple vs):Sem Value).run P w = .ok (.tuple #[v1,v2,v3]) w:=by simp [h1,h2,h3]
end
theorem WQ.ret1O {x:ResultVar}{L its:List Item}{R:Value→Mem→List Item→Prop}(hr:fn.results = #[x])(h1:resv P w e x v)(H:St w0 M0 M L w)(hs:its.Sublist L)(hR:R v M its):WQ (bodyPost P fn (RetO w0 M0 R)) .ret n [] e w :=
 fun a ha=>⟨ha.defers,v,by rw[results_eq,hr];exact run_res1 _ (resv_run ha h1),_,M,its,rfl,H.drop hs,hR⟩
theorem WQ.ret2O {x y:ResultVar}{L its:List Item}{R:Value→Mem→List Item→Prop}(hr:fn.results = #[x,y])(h1:resv P w e x v1)(h2:resv P w e y v2)(H:St w0 M0 M L w)(hs:its.Sublist L)(hR:R (.tuple #[v1,v2]) M its):WQ (bodyPost P fn (RetO w0 M0 R)) .ret n [] e w :=
 fun a ha=>⟨ha.defers, .tuple #[v1,v2],by rw[results_eq,hr];exact run_res2 _ (resv_run ha h1) (resv_run ha h2),_,M,its,rfl,H.drop hs,hR⟩
theorem WQ.ret1 {x:ResultVar}(hr:fn.results = #[x])(h1:resv P w e x v)(H:Ext w0 M0 w M)(hR:R v M):WQ (bodyPost P fn (Ret w0 M0 R)) .ret n [] e w :=
 fun a ha=>⟨ha.defers,v,by rw[results_eq,hr];exact run_res1 _ (resv_run ha h1),_,M,rfl,H,hR⟩
abbrev _root_.q0h := @WQ.ret1
theorem WQ.ret2 {x y:ResultVar}(hr:fn.results = #[x,y])(h1:resv P w e x v1)(h2:resv P w e y v2)(H:Ext w0 M0 w M)(hR:R (.tuple #[v1,v2]) M):WQ (bodyPost P fn (Ret w0 M0 R)) .ret n [] e w :=
 fun a ha=>⟨ha.defers, .tuple #[v1,v2],by rw[results_eq,hr];exact run_res2 _ (resv_run ha h1) (resv_run ha h2),_,M,rfl,H,hR⟩
abbrev _root_.q0D := @WQ.ret2
theorem WQ.ret3 {x y z:ResultVar}(hr:fn.results = #[x,y,z])(h1:resv P w e x v1)(h2:resv P w e y v2)(h3:resv P w e z v3)(H:Ext w0 M0 w M)(hR:R (.tuple #[v1,v2,v3]) M):WQ (bodyPost P fn (Ret w0 M0 R)) .ret n [] e w :=
 fun a ha=>⟨ha.defers, .tuple #[v1,v2,v3],by rw[results_eq,hr];exact run_res3 _ (resv_run ha h1) (resv_run ha h2) (resv_run ha h3),_,M,rfl,H,hR⟩
abbrev _root_.q1j := @WQ.ret3
end
end Go.Ph
end
section
namespace Go.Ph
open Go Go.RowKit
abbrev S (l:Ls):Value := .string ⟨l.toArray⟩
abbrev I (n:Int):Value := .int .i64 n
abbrev ptr (b o:Nat):Value := .pointer (some ⟨b,o,none⟩)
theorem i64_in {x:Int}(h : -9223372036854775808≤x∧x≤9223372036854775807):IntKind.i64.wrap x=x:=by
 rw[IntKind.wrap_i64];omega
section
variable {P : Program} {e : Env} {w w' : World} {x y c : Operand} {v u : Value} {dst : Option Tmp} {ty t t' : TypeId} {pos : String} {af : Array Edge} {g : Option (Nat × Bool)} {k : IntKind} {a b : Int}
theorem Ex.move (h:ev e x=some v):Ex P ⟨dst, .move x,ty,pos,af,g⟩ e w v w:=⟨nofun,fun ρ hf=>by simp [execOp,hf _ _ h]⟩
abbrev _root_.q01 := @Ex.move
theorem Ex.assign (h:ev e x=some v):Ex P ⟨dst, .assign x,ty,pos,af,g⟩ e w v w:=⟨nofun,fun ρ hf=>by simp [execOp,hf _ _ h]⟩
abbrev _root_.q0N := @Ex.assign
theorem Ex.pickT (hc:ev e c=some (.bool true))(h:ev e x=some v):Ex P ⟨dst, .pick c x y,ty,pos,af,g⟩ e w v w:=⟨nofun,fun ρ hf=>by simp [execOp,asBool,hf _ _ hc,hf _ _ h]⟩
abbrev _root_.q0q := @Ex.pickT
theorem Ex.pickF (hc:ev e c=some (.bool false))(h:ev e y=some v):Ex P ⟨dst, .pick c x y,ty,pos,af,g⟩ e w v w:=⟨nofun,fun ρ hf=>by simp [execOp,asBool,hf _ _ hc,hf _ _ h]⟩
abbrev _root_.q0m := @Ex.pickF
theorem run_guard_int (op:BinOp)(k k':IntKind)(a b:Int):(eqGuard op t x y (.int k a) (.int k' b)).run P w = .ok () w:=by
 unfold eqGuard;split <;> rfl
theorem Ex.int {op:BinOp}{k':IntKind}(h1:ev e x=some (.int k a))(h2:ev e y=some (.int k' b))(hr:(binOp op t (.int k a) (.int k' b)).run P w = .ok v w):Ex P ⟨dst, .binOp op t x y t',ty,pos,af,g⟩ e w v w :=
 ⟨nofun,fun ρ hf=>by
  have hg:=run_guard_int (P:=P) (w:=w) (t:=t) (x:=x) (y:=y) op k k' a b;simp only[execOp,hf _ _ h1,hf _ _ h2,Sem.run_bind,hg,hr,Result.andThen_ok,Sem.run_pure]⟩
theorem Ex.add (h1:ev e x=some (.int k a))(h2:ev e y=some (.int k b)):Ex P ⟨dst, .binOp .add t x y t',ty,pos,af,g⟩ e w (.int k (k.wrap (a+b))) w:=Ex.int h1 h2 (by simp [binOp,Op.intArith])
theorem Ex.sub (h1:ev e x=some (.int k a))(h2:ev e y=some (.int k b)):Ex P ⟨dst, .binOp .sub t x y t',ty,pos,af,g⟩ e w (.int k (k.wrap (a-b))) w:=Ex.int h1 h2 (by simp [binOp,Op.intArith])
theorem Ex.mul (h1:ev e x=some (.int k a))(h2:ev e y=some (.int k b)):Ex P ⟨dst, .binOp .mul t x y t',ty,pos,af,g⟩ e w (.int k (k.wrap (a*b))) w:=Ex.int h1 h2 (by simp [binOp,Op.intArith])
theorem Ex.add64 (h1:ev e x=some (I a))(h2:ev e y=some (I b))(h : -9223372036854775808≤a+b∧a+b≤9223372036854775807):Ex P ⟨dst, .binOp .add t x y t',ty,pos,af,g⟩ e w (I (a+b)) w:=by
 have:=Ex.add (P:=P) (w:=w) (dst:=dst) (ty:=ty) (t:=t) (t':=t') (pos:=pos) (af:=af) (g:=g) h1 h2;rwa [i64_in h] at this
theorem Ex.sub64 (h1:ev e x=some (I a))(h2:ev e y=some (I b))(h : -9223372036854775808≤a-b∧a-b≤9223372036854775807):Ex P ⟨dst, .binOp .sub t x y t',ty,pos,af,g⟩ e w (I (a-b)) w:=by
 have:=Ex.sub (P:=P) (w:=w) (dst:=dst) (ty:=ty) (t:=t) (t':=t') (pos:=pos) (af:=af) (g:=g) h1 h2;rwa [i64_in h] at this
theorem Ex.mul64 (h1:ev e x=some (I a))(h2:ev e y=some (I b))(h : -9223372036854775808≤a*b∧a*b≤9223372036854775807):Ex P ⟨dst, .binOp .mul t x y t',ty,pos,af,g⟩ e w (I (a*b)) w:=by
 have:=Ex.mul (P:=P) (w:=w) (dst:=dst) (ty:=ty) (t:=t) (t':=t') (pos:=pos) (af:=af) (g:=g) h1 h2;rwa [i64_in h] at this
theorem Ex.shr {k':IntKind}(h1:ev e x=some (.int k a))(h2:ev e y=some (.int k' b))(h:0≤b):Ex P ⟨dst, .binOp .shr t x y t',ty,pos,af,g⟩ e w (.int k (a.fdiv (2 ^ min b.toNat k.bits))) w :=
 Ex.int h1 h2 (by simp [binOp,Op.shift];omega)
theorem Ex.bits {op:BinOp}{r:Int}(h1:ev e x=some (.int k a))(h2:ev e y=some (.int k b))(hr :∀w,(Op.intBits op k a b).run P w = .ok (.int k r) w)(hop:op = .and∨op = .or∨op = .xor∨op = .andNot):Ex P ⟨dst, .binOp op t x y t',ty,pos,af,g⟩ e w (.int k r) w :=
 Ex.int h1 h2 (by rcases hop with h|h|h|h <;> subst h <;> simp [binOp,hr])
theorem Ex.lss (h1:ev e x=some (.int k a))(h2:ev e y=some (.int k b)):Ex P ⟨dst, .binOp .lss t x y t',ty,pos,af,g⟩ e w (.bool (decide (a<b))) w:=Ex.int h1 h2 (by simp [binOp,Op.intCmp])
abbrev _root_.q0v := @Ex.lss
theorem Ex.leq (h1:ev e x=some (.int k a))(h2:ev e y=some (.int k b)):Ex P ⟨dst, .binOp .leq t x y t',ty,pos,af,g⟩ e w (.bool (decide (a≤b))) w:=Ex.int h1 h2 (by simp [binOp,Op.intCmp])
abbrev _root_.q0X := @Ex.leq
theorem Ex.gtr (h1:ev e x=some (.int k a))(h2:ev e y=some (.int k b)):Ex P ⟨dst, .binOp .gtr t x y t',ty,pos,af,g⟩ e w (.bool (decide (b<a))) w:=Ex.int h1 h2 (by simp [binOp,Op.intCmp])
abbrev _root_.q0A := @Ex.gtr
theorem Ex.geq (h1:ev e x=some (.int k a))(h2:ev e y=some (.int k b)):Ex P ⟨dst, .binOp .geq t x y t',ty,pos,af,g⟩ e w (.bool (decide (b≤a))) w:=Ex.int h1 h2 (by simp [binOp,Op.intCmp])
abbrev _root_.q1c := @Ex.geq
theorem Ex.eql (h1:ev e x=some (.int k a))(h2:ev e y=some (.int k b)):Ex P ⟨dst, .binOp .eql t x y t',ty,pos,af,g⟩ e w (.bool (decide (a=b))) w:=Ex.int h1 h2 (by simp [binOp,Op.intCmp];rfl)
abbrev _root_.q0j := @Ex.eql
theorem Ex.neq (h1:ev e x=some (.int k a))(h2:ev e y=some (.int k b)):Ex P ⟨dst, .binOp .neq t x y t',ty,pos,af,g⟩ e w (.bool (decide (a≠b))) w:=Ex.int h1 h2 (by simp [binOp,Op.intCmp,bne];rfl)
theorem Ex.not {b:Bool}(h:ev e x=some (.bool b)):Ex P ⟨dst, .unOp .not t x,ty,pos,af,g⟩ e w (.bool (!b)) w:=⟨nofun,fun ρ hf=>by simp [execOp,hf _ _ h,Op.unary]⟩
abbrev _root_.q0o := @Ex.not
theorem Ex.conv {k':IntKind}{d0:TypeDesc}(hs:P.underlying t=some d0)(hd:P.underlying t'=some (.int k'))(h:ev e x=some (.int k a)):Ex P ⟨dst, .convert t t' x,ty,pos,af,g⟩ e w (.int k' (k'.wrap a)) w :=
 ⟨nofun,fun ρ hf=>by simp [execOp,hf _ _ h,convert,underlying,hs,hd,Conv.intToInt,go_sem]⟩
theorem Ex.convI {d0:TypeDesc}(hs:P.underlying t=some d0)(hd:P.underlying t'=some (.int .i64))(h:ev e x=some (.int k a))(hr : -9223372036854775808≤a∧a≤9223372036854775807):Ex P ⟨dst, .convert t t' x,ty,pos,af,g⟩ e w (I a) w:=by
 have:=Ex.conv (P:=P) (w:=w) (dst:=dst) (ty:=ty) (pos:=pos) (af:=af) (g:=g) hs hd h
 rwa [i64_in hr] at this
theorem Ex.convB {c:UInt8}{d0:TypeDesc}(hs:P.underlying t=some d0)(hd:P.underlying t'=some (.int .i64))(h:ev e x=some (.int .u8 (c.toNat:Int))):Ex P ⟨dst, .convert t t' x,ty,pos,af,g⟩ e w (I (c.toNat:Int)) w :=
 Ex.convI hs hd h (by have:=c.toNat_lt;omega)
def ub (a:Int):UInt8:=UInt8.ofNat (a % 256).toNat
theorem ub_toNat (a:Int):((ub a).toNat:Int)=a % 256:=by
 have h1:0≤a % 256:=Int.emod_nonneg _ Dc;have h2:a % 256<256:=Int.emod_lt_of_pos _ Dc;unfold ub;rw[UInt8.toNat_ofNat'];omega
theorem Ex.convU8 {d0:TypeDesc}(hs:P.underlying t=some d0)(hd:P.underlying t'=some (.int .u8))(h:ev e x=some (.int k a)):Ex P ⟨dst, .convert t t' x,ty,pos,af,g⟩ e w (.int .u8 ((ub a).toNat:Int)) w:=by
 have:=Ex.conv (P:=P) (w:=w) (dst:=dst) (ty:=ty) (pos:=pos) (af:=af) (g:=g) hs hd h
 rw[ub_toNat,←IntKind.wrap_u8];exact this
theorem Ex.eqlAgg {xs ys:Array Value}{p:Prop}[Decidable p](h1:ev e x=some (.agg xs))(h2:ev e y=some (.agg ys))(hg:P.eqGuardType P.depth t=false)(hr :∀w,(Op.equalIn 10000 t (.agg xs) (.agg ys)).run P w = .ok (decide p) w):Ex P ⟨dst, .binOp .eql t x y t',ty,pos,af,g⟩ e w (.bool (decide p)) w :=
 ⟨nofun,fun ρ hf=>by simp only[execOp,hf _ _ h1,hf _ _ h2,Sem.run_bind,run_eqGuard_agg _ _ _ _ _ _ _ hg,Result.andThen_ok,run_eql_struct,hr,Sem.run_pure]⟩
theorem Ex.extract {vs:List Value}{i:Nat}(h:ev e x=some (.tuple vs.toArray))(hi:vs[i]? = some v):Ex P ⟨dst, .extract x i,ty,pos,af,g⟩ e w v w :=
 ⟨nofun,fun ρ hf=>by simp [execOp,hf _ _ h,Instr.extract,hi]⟩
abbrev _root_.q0c := @Ex.extract
variable {l m : List UInt8}
theorem size_mk (l:Ls):ByteArray.size ⟨l.toArray⟩=l.length:=by simp [ByteArray.size]
theorem Ex.str {op:BinOp}(h1:ev e x=some (S l))(h2:ev e y=some (S m))(hr:(Op.stringOp op ⟨l.toArray⟩ ⟨m.toArray⟩).run P w = .ok v w):Ex P ⟨dst, .binOp op t x y t',ty,pos,af,g⟩ e w v w :=
 ⟨nofun,fun ρ hf=>by
  have hg:(eqGuard op t x y (S l) (S m)).run P w = .ok () w:=by unfold eqGuard;split <;> rfl
  have hb:(binOp op t (S l) (S m)).run P w = .ok v w:=by cases op <;> exact hr
  simp only[execOp,hf _ _ h1,hf _ _ h2,Sem.run_bind,hg,hb,Result.andThen_ok,Sem.run_pure]⟩
theorem Ex.strAdd (h1:ev e x=some (S l))(h2:ev e y=some (S m))(hs:l.length+m.length≤9223372036854775807):Ex P ⟨dst, .binOp .add t x y t',ty,pos,af,g⟩ e w (S (l++m)) w :=
 Ex.str h1 h2 (by
  have e1:(⟨l.toArray⟩:ByteArray)++⟨m.toArray⟩=⟨(l++m).toArray⟩:=by
   apply ByteArray.ext;simp
  have :¬(IntKind.i64.max<((l.length+m.length:Nat):Int)):=by
   simp only[IntKind.max,IntKind.signed,IntKind.bits];omega
  simp only[Op.stringOp,size_mk,gt_iff_lt,this,if_false,e1,Sem.run_pure])
theorem Ex.strEql (h1:ev e x=some (S l))(h2:ev e y=some (S m)):Ex P ⟨dst, .binOp .eql t x y t',ty,pos,af,g⟩ e w (.bool (decide (l=m))) w :=
 Ex.str h1 h2 (by
  have:(l == m)=decide (l=m):=by by_cases h:l=m <;> simp [h]
  simp [Op.stringOp,this])
abbrev _root_.q0O := @Ex.strEql
theorem Ex.strNeq (h1:ev e x=some (S l))(h2:ev e y=some (S m)):Ex P ⟨dst, .binOp .neq t x y t',ty,pos,af,g⟩ e w (.bool (decide (l≠m))) w :=
 Ex.str h1 h2 (by
  have:(!(l == m))=decide (l≠m):=by by_cases h:l=m <;> simp [h]
  simp [Op.stringOp,this])
theorem extract_mk (l:Ls)(i j:Nat):(⟨l.toArray⟩:ByteArray).extract i j=⟨((l.take j).drop i).toArray⟩:=by
 apply ByteArray.ext;rw[ByteArray.data_extract];apply Array.ext';simp [List.drop_take]
theorem run_slice_str {i j:Nat}{lo hi:Option Value}(ht:P.underlying t=some .string)(hij:i≤j)(hj:j≤l.length)
 (hlo:lo=some (I i)∨(lo=none∧i=0)) (hhi:hi=some (I j)∨(hi=none∧j=l.length)) :
 (Instr.sliceAt t (S l) lo hi none).run P w = .ok (S ((l.take j).drop i)) w:=by
 have a1:(0:Int)≤(i:Int)∧(i:Int)≤(j:Int):=by omega
 have a2:(0:Int)≤(j:Int)∧(j:Int)≤(l.length:Int):=by omega
 rcases hlo with rfl|⟨rfl,rfl⟩ <;> rcases hhi with rfl|⟨rfl,rfl⟩ <;>
  simp only[Instr.sliceAt,Instr.slice,Instr.sliceBounds,Instr.sliceBound,asIntOf,Sem.run_bind,run_underlying ht,Result.andThen_ok,Sem.run_pure,a1,a2,and_self,if_true,l0f,l1L,size_mk,extract_mk,l0j,if_false]
theorem Ex.sliceStr {i j:Nat}{lo hi:Option Operand}(ht:P.underlying t=some .string)(h:ev e x=some (S l))
 (hlo:(∃o,lo=some o∧ev e o=some (I i))∨(lo=none∧i=0)) (hhi:(∃o,hi=some o∧ev e o=some (I j))∨(hi=none∧j=l.length)) (hij:i≤j) (hj:j≤l.length) :
 Ex P ⟨dst, .slice t x lo hi none,ty,pos,af,g⟩ e w (S ((l.take j).drop i)) w :=
 ⟨nofun,fun ρ hf=>by
  have hr:=run_slice_str (P:=P) (w:=w) (lo:=lo.map ρ) (hi:=hi.map ρ) ht hij hj
   (by rcases hlo with ⟨o,rfl,ho⟩|⟨rfl,h⟩
       · exact .inl (by simp [hf _ _ ho])
       exact .inr ⟨rfl,h⟩)
   (by rcases hhi with ⟨o,rfl,ho⟩|⟨rfl,h⟩
       · exact .inl (by simp [hf _ _ ho])
       exact .inr ⟨rfl,h⟩)
  simp only[execOp,hf _ _ h,l1b,Sem.run_bind,hr,Result.andThen_ok,Sem.run_pure]⟩
theorem Ex.lenStr (ht:P.underlying t=some .string)(h:ev e x=some (S l)):Ex P ⟨dst, .call ⟨.builtin .len,#[x],#[t]⟩,ty,pos,af,g⟩ e w (I l.length) w :=
 ⟨nofun,fun ρ hf=>by simp [hf _ _ h,Builtin.len_,underlying,ht,goInt,size_mk,go_sem]⟩
abbrev _root_.q0u := @Ex.lenStr
theorem Ex.lenSlice {A:Option Addr}{n cp:Nat}{t0:TypeId}(ht:P.underlying t=some (.slice t0))(h:ev e x=some (.slice A n cp)):Ex P ⟨dst, .call ⟨.builtin .len,#[x],#[t]⟩,ty,pos,af,g⟩ e w (I n) w :=
 ⟨nofun,fun ρ hf=>by simp [hf _ _ h,Builtin.len_,underlying,ht,goInt,go_sem]⟩
abbrev _root_.q0L := @Ex.lenSlice
theorem Ex.min2 (h1:ev e x=some (.int k a))(h2:ev e y=some (.int k b)){ts:Array TypeId}:Ex P ⟨dst, .call ⟨.builtin .min,#[x,y],ts⟩,ty,pos,af,g⟩ e w (.int k (min a b)) w :=
 ⟨nofun,fun ρ hf=>by
  have:(if b<a then b else a)=min a b:=by omega
  simp [hf _ _ h1,hf _ _ h2,Builtin.min_,Builtin.min2,this,go_sem]⟩
theorem Ex.max2 (h1:ev e x=some (.int k a))(h2:ev e y=some (.int k b)){ts:Array TypeId}:Ex P ⟨dst, .call ⟨.builtin .max,#[x,y],ts⟩,ty,pos,af,g⟩ e w (.int k (max a b)) w :=
 ⟨nofun,fun ρ hf=>by
  have:(if a<b then b else a)=max a b:=by omega
  simp [hf _ _ h1,hf _ _ h2,Builtin.max_,Builtin.max2,this,go_sem]⟩
theorem Ex.idxStr {i:Nat}{c:UInt8}{k:IntKind}(ht:P.underlying t=some .string)(h:ev e x=some (S l))(h2:ev e y=some (.int k (i:Int)))(hi:l[i]? = some c):Ex P ⟨dst, .index t x y,ty,pos,af,g⟩ e w (.int .u8 (c.toNat:Int)) w :=
 ⟨nofun,fun ρ hf=>by
  have hg:(⟨l.toArray⟩:ByteArray)[i]? = some c:=by
   have hlt:=(List.getElem?_eq_some_iff.1 hi).1;have h2:=(List.getElem?_eq_some_iff.1 hi).2;rw[getElem?_pos (⟨l.toArray⟩:ByteArray) i (by simpa [ByteArray.size] using hlt)];simp [ByteArray.getElem_eq_getElem_data,h2]
  simp [execOp,hf _ _ h,hf _ _ h2,Instr.index,asIntOf,underlying,ht,hg,go_sem]⟩
end
end Go.Ph
end
section
namespace Go.Ph.Pl
def FU : Nat:=18446744073709551616
theorem FU_eq : FU=18446744073709551616:=rfl
theorem bnd {α β:Type}{o:Option α}{k:α→Option β}{r:β}(h:o.bind k=some r):∃x,o=some x∧k x=some r:=Option.bind_eq_some_iff.1 h
theorem bsome {α β:Type}(a:α)(f:α→Option β):(some a).bind f=f a:=by rw[l0S]
def chk (x:Int):Option Int:=if -9223372036854775808≤x∧x≤9223372036854775807 then some x else none
theorem chk_ok {x:Int}(h1 : -9223372036854775808≤x)(h2:x≤9223372036854775807):chk x=some x:=by unfold chk;rw [if_pos ⟨h1,h2⟩]
theorem chk_some {x y:Int}(h:chk x=some y):(-9223372036854775808≤x∧x≤9223372036854775807)∧y=x:=by
 unfold chk at h;split at h
 · rename_i h1;exact ⟨h1,(Option.some.inj h).symm⟩
 cases h
theorem chk_succ {i:Nat}(h:i+1≤9223372036854775807):chk ((i:Int)+1)=some ((i+1:Nat):Int):=chk_ok Om Om
theorem chk_pred {i:Nat}(h0:1≤i)(h:i≤9223372036854775807):chk ((i:Int)-1)=some ((i-1:Nat):Int):=by rw[show ((i-1:Nat):Int)=(i:Int)-1 by omega];exact chk_ok Om Om
def idx {α:Type}(l:List α)(i:Int):Option α:=if 0≤i then l[i.toNat]? else none
theorem idx_some {α:Type}{l:List α}{i:Int}{a:α}(h:idx l i=some a):0≤i∧l[i.toNat]? = some a:=by
 unfold idx at h;split at h
 · exact⟨by assumption,h⟩
 cases h
theorem idx_nat {α:Type}(l:List α)(i:Nat):idx l (i:Int)=l[i]? := by unfold idx;rw [if_pos (l1v i),l0f]
theorem idx_lt {α:Type}{l:List α}{i:Int}{a:α}(h:idx l i=some a):0≤i∧i<l.length:=by
 obtain⟨h1,h2⟩:=idx_some h;have:=(List.getElem?_eq_some_iff.1 h2).1;omega
def cut {α:Type}(l:List α)(i j:Int):Option (List α):=if 0≤i∧i≤j∧j≤(l.length:Int) then some ((l.take j.toNat).drop i.toNat) else none
theorem cut_some {α:Type}{l m:List α}{i j:Int}(h:cut l i j=some m):(0≤i∧i≤j∧j≤(l.length:Int))∧m=(l.take j.toNat).drop i.toNat:=by
 unfold cut at h;split at h
 · exact⟨by assumption,(Option.some.inj h).symm⟩
 cases h
theorem cut_ok {α:Type}{l:List α}{i j:Int}(h1:0≤i)(h2:i≤j)(h3:j≤(l.length:Int)):cut l i j=some ((l.take j.toNat).drop i.toNat):=by unfold cut;rw [if_pos ⟨h1,h2,h3⟩]
theorem cut_of {α:Type}{l:List α}{i j:Int}{a b:Nat}(hi:i=(a:Int))(hj:j=(b:Int))(h:a≤b)(hb:b≤l.length):cut l i j=some ((l.take b).drop a):=by
 subst hi hj;rw [cut_ok Om Om Om];rfl
theorem cut_from {α:Type}{l:List α}{i:Int}{a:Nat}(hi:i=(a:Int))(h:a≤l.length):cut l i (l.length:Int)=some (l.drop a):=by
 rw[cut_of hi rfl h (l09 _),l0T]
theorem cut_to {α:Type}{l:List α}{j:Int}{b:Nat}(hj:j=(b:Int))(h:b≤l.length):cut l 0 j=some (l.take b):=by
 have:=cut_of (l:=l) (i:=0) (a:=0) rfl hj (l0C _) h;rwa [l1e] at this
def cat (a b:Ls):Option Ls:=if a.length+b.length≤9223372036854775807 then some (a++b) else none
theorem cat_ok {a b:Ls}(h:a.length+b.length≤9223372036854775807):cat a b=some (a++b):=by unfold cat;rw [if_pos h]
theorem cat_some {a b c:Ls}(h:cat a b=some c):a.length+b.length≤9223372036854775807∧c=a++b:=by
 unfold cat at h;split at h
 · exact⟨by assumption,(Option.some.inj h).symm⟩
 cases h
def lim (w:Nat):Nat:=if w=1 then 175921860444160 else 140737488355328
theorem lim_ge (w:Nat):140737488355328≤lim w:=by unfold lim;split <;> omega
theorem lim_le (w:Nat):lim w≤175921860444160:=by unfold lim;split <;> omega
def app {α:Type}(w:Nat)(a b:List α):Option (List α):=if (a.length+b.length)*w≤lim w then some (a++b) else none
theorem app_ok {α:Type}{w:Nat}{a b:List α}(h:(a.length+b.length)*w≤140737488355328):app w a b=some (a++b):=by unfold app;rw [if_pos (l1a h (lim_ge w))]
theorem app_ok1 {α:Type}{a b:List α}(h:a.length+b.length≤175921860444160):app 1 a b=some (a++b):=by unfold app lim;rw [if_pos (by simpa using h)]
theorem app_some {α:Type}{w:Nat}{a b c:List α}(h:app w a b=some c):(a.length+b.length)*w≤lim w∧c=a++b:=by
 unfold app at h;split at h
 · exact⟨by assumption,(Option.some.inj h).symm⟩
 cases h
def put {α:Type}(l:List α)(i:Int)(a:α):Option (List α):=if 0≤i∧i<(l.length:Int) then some (l.set i.toNat a) else none
theorem put_some {α:Type}{l m:List α}{i:Int}{a:α}(h:put l i a=some m):(0≤i∧i<(l.length:Int))∧m=l.set i.toNat a:=by
 unfold put at h;split at h
 · exact⟨by assumption,(Option.some.inj h).symm⟩
 cases h
theorem put_ok {α:Type}{l:List α}{i:Int}{a:α}(h1:0≤i)(h2:i<(l.length:Int)):put l i a=some (l.set i.toNat a):=by unfold put;rw [if_pos ⟨h1,h2⟩]
def idxA {α:Type}(n:Nat)(l:List α)(i:Int):Option α:=if l.length=n then idx l i else none
theorem idxA_some {α:Type}{n:Nat}{l:List α}{i:Int}{a:α}(h:idxA n l i=some a):l.length=n∧idx l i=some a:=by
 unfold idxA at h;split at h
 · exact⟨by assumption,h⟩
 cases h
def putA {α:Type}(n:Nat)(l:List α)(i:Int)(a:α):Option (List α):=if l.length=n then put l i a else none
theorem putA_some {α:Type}{n:Nat}{l m:List α}{i:Int}{a:α}(h:putA n l i a=some m):l.length=n∧put l i a=some m:=by
 unfold putA at h;split at h
 · exact⟨by assumption,h⟩
 cases h
def chkA {α:Type}(n:Nat)(l:List α):Option (List α):=if l.length=n then some l else none
theorem chkA_some {α:Type}{n:Nat}{l m:List α}(h:chkA n l=some m):l.length=n∧m=l:=by
 unfold chkA at h;split at h
 · exact⟨by assumption,(Option.some.inj h).symm⟩
 cases h
theorem chkA_ok {α:Type}{n:Nat}{l:List α}(h:l.length=n):chkA n l=some l:=by unfold chkA;rw [if_pos h]
def toB (l:Ls):Option Ls:=if l.length≤9223372036854775807 then some l else none
theorem toB_ok {l:Ls}(h:l.length≤9223372036854775807):toB l=some l:=by unfold toB;rw [if_pos h]
theorem toB_some {l m:Ls}(h:toB l=some m):l.length≤9223372036854775807∧m=l:=by
 unfold toB at h;split at h
 · exact⟨by assumption,(Option.some.inj h).symm⟩
 cases h
def ixB (l:Ls)(c:UInt8):Int:=if l.idxOf c<l.length then(l.idxOf c:Int) else -1
def jn (sep:Ls):List Ls→Ls
 | []=>[]
 | [x]=>x
 | x::y::r=>x++(sep++jn sep (y::r))
def ub8 (a:Int):UInt8:=UInt8.ofNat (a % 256).toNat
end Go.Ph.Pl
end
section
namespace Go.Ph
open Go Go.RowKit
def CellM (M:Mem)(p:Addr)(v:Value):Prop:=p.spot=none∧∃cs t fz,M p.block=some (.cells cs t fz)∧cs[p.off]? = some v
theorem CellM.mono {M M':Mem}{p:Addr}{v:Value}(h:CellM M p v)(hl:M.le M'):CellM M' p v :=
 ⟨h.1,let ⟨cs,t,fz,h1,h2⟩:=h.2;⟨cs,t,fz,hl _ _ h1,h2⟩⟩
theorem CellM.cell {M:Mem}{w:World}{p:Addr}{v:Value}(h:CellM M p v)(ha:Ag M w):w.cell? p=some v:=by
 obtain⟨hs,cs,t,fz,h1,h2⟩:=h;simp [World.cell?,ha _ _ h1,hs,h2]
def Sl {α:Type}(M:Mem)(enc:α→Value)(v:Value)(l:List α):Prop :=
 ∃A c,v = .slice A l.length c∧l.length≤c∧(c≤maxLen∧(A=none→c=0))∧
  (l≠ []→∃b o cs t fz,A=some ⟨b,o,none⟩∧M b=some (.cells cs t fz)∧∀i x,l[i]? = some x→cs[o+i]? = some (enc x))
abbrev encB (u:UInt8):Value := .int .u8 (u.toNat:Int)
abbrev encS (l:Ls):Value:=S l
abbrev Bs (M:Mem)(v:Value)(l:Ls):Prop:=Sl M encB v l
section
variable {α : Type} {M M' : Mem} {enc : α → Value} {v : Value} {l : List α}
theorem Sl.mono (h:Sl M enc v l)(hl:M.le M'):Sl M' enc v l:=by
 obtain⟨A,c,hv,h1,h2,h3⟩:=h;refine⟨A,c,hv,h1,h2,fun hne=>?_⟩;obtain⟨b,o,cs,t,fz,e1,e2,e3⟩:=h3 hne;exact⟨b,o,cs,t,fz,e1,hl _ _ e2,e3⟩
theorem Sl.nil (M:Mem)(enc:α→Value):Sl M enc (.slice none 0 0) []:=⟨none,0,rfl,by simp,⟨by simp [maxLen],fun _=>rfl⟩,fun h=>absurd rfl h⟩
abbrev _root_.q0Z := @Sl.nil
theorem Sl.cells (h:Sl M enc v l){w:World}(ha:Ag M w):∃A c,v = .slice A l.length c∧(∀ad,A=some ad→∀j u,(l.map enc)[j]? = some u→w.cell? (ad.add j)=some u)∧(A=none→l=[]∧c=0):=by
 obtain⟨A,c,hv,h1,h2,h3⟩:=h;refine⟨A,c,hv,fun ad had j u hu=>?_,fun hA=>?_⟩
 · have hne:l≠ []:=by rintro rfl;simp at hu
   obtain⟨b,o,cs,t,fz,e1,e2,e3⟩:=h3 hne;have:ad=⟨b,o,none⟩:=by rw[had] at e1;exact Option.some.inj e1
   subst this;rw[List.getElem?_map] at hu;obtain⟨x,hx,rfl⟩:=Option.map_eq_some_iff.1 hu;rw[Addr.add_lit];exact(CellM.cell ⟨rfl,cs,t,fz,e2,e3 j x hx⟩ ha)
 refine⟨?_,h2.2 hA⟩;cases l with
 | nil=>rfl
 | cons x l =>
   obtain⟨b,o,cs,t,fz,e1,e2,e3⟩:=h3 Sm;rw[hA] at e1;cases e1
theorem Sl.part (h:Sl M enc v l){i j:Nat}(hij:i≤j)(hj:j≤l.length):
 ∃A n c,v = .slice A n c∧n=l.length∧n≤c∧Sl M enc (.slice (if c=i then A else A.map (·.add i)) (j-i) (c-i)) ((l.take j).drop i):=by
 obtain⟨A,c,hv,h1,h2,h3⟩:=h;refine⟨A,_,c,hv,rfl,h1,(if c=i then A else A.map (·.add i)),c-i,?_,?_,⟨by omega,fun hA=>?_⟩,fun hne=>?_⟩
 · simp only[l0a,l0g];rw[show min j l.length=j by omega]
 · simp only[l0a,l0g];omega
 · by_cases hci:c=i
   · omega
   rw[if_neg hci] at hA;have:=h2.2 (by simpa using hA);omega
 have hlt:i<j:=by
  rcases l0G i j with h|h
  · exact h
  exact absurd (l05 (by simp;omega)) hne
 have hne':l≠ []:=by rintro rfl;simp at hj;omega
 obtain⟨b,o,cs,t,fz,e1,e2,e3⟩:=h3 hne';refine⟨b,o+i,cs,t,fz,?_,e2,fun k x hx=>?_⟩
 · rw[if_neg Om,e1];simp [Addr.add_lit]
 rw[l1p];apply e3;rw[List.getElem?_drop,List.getElem?_take] at hx;split at hx
 · exact hx
 cases hx
end
abbrev RowI {α:Type}(t:TypeId)(enc:α→Value)(v:Value)(l:List α):Item := .row t 1 v l.length (l.map enc)
section
variable {C : Nat → Prop} {α : Type} {w0 w : World} {M0 M : Mem} {L L' : List Item} {t : TypeId} {enc : α → Value} {v : Value} {l : List α}
theorem StX.newRow (H:StX C w0 M0 M L w)(t:TypeId)(enc:α→Value):StX C w0 M0 M (RowI t enc (.slice none 0 0) []::L) w :=
 H.newNone (World.ownsRow_nil _ _ _ _) rfl
theorem StX.freezeRowX (H:StX C w0 M0 M L w)(hr:Rem L (RowI t enc v l) L')(hC :∀b,v.ownBlock=some b→¬C b):∃M',M.le M'∧Sl M' enc v l∧StX C w0 M0 M' L' w:=by
 have hown:=H.rowOf hr.mem;rcases hown.2 with ⟨hv,hn⟩|⟨g,cap,cur,hv,hb,hg,hnc,hcm,hcs,htake⟩
 · have:l=[]:=l05 hn;subst this;subst hv;exact⟨M,Mem.le.refl M,Sl.nil M enc,H.drop hr.sublist⟩
 have hf:(RowI t enc v l).foot=some g:=by rw[hv];rfl
 obtain⟨h1,h2⟩:=H.freeze hr hf hg (((H.own _ hr.mem).2 g hf).2.resolve_right (hC g hf));refine⟨_,h1,⟨some ⟨g,0,none⟩,cap,hv,hnc,⟨hcm,fun h=>by cases h⟩,fun _=>⟨g,0,cur,t,(0,0),rfl,by simp [Mem.set],fun i x hx=>?_⟩⟩,h2⟩;have hi:=(List.getElem?_eq_some_iff.1 hx).1;have h3:(cur.toList.take (l.length*1))[i]? = some (enc x):=by rw[htake,List.getElem?_map,hx];rfl
 rw[List.getElem?_take,if_pos Om] at h3;simpa using h3
theorem StX.freezeRow (H:St w0 M0 M L w)(hr:Rem L (RowI t enc v l) L'):∃M',M.le M'∧Sl M' enc v l∧St w0 M0 M' L' w:=H.freezeRowX hr (fun _ _ h=>h)
theorem StX.lenRow (H:StX C w0 M0 M L w)(hm:RowI t enc v l∈L):∃A c,v = .slice A l.length c:=by
 rcases(H.rowOf hm).2 with ⟨hv,hn⟩|⟨g,cap,cur,hv,_⟩
 · exact⟨none,0,by rw[hv,hn]⟩
 exact⟨_,cap,hv⟩
end
def One (v:Value):Prop:=v.cells = #[v]∧v.oneCell'=true
theorem One.slice (A:Option Addr)(n c:Nat):One (.slice A n c):=⟨rfl,rfl⟩
theorem One.cells {v:Value}(h:One v):v.cells=[v].toArray:=h.1
theorem Sl.one {α:Type}{M:Mem}{enc:α→Value}{v:Value}{l:List α}(h:Sl M enc v l):One v:=by
 obtain⟨A,c,rfl,_⟩:=h;exact One.slice _ _ _
theorem StX.rowOne {C:Nat→Prop}{α:Type}{w0 w:World}{M0 M:Mem}{L:List Item}{t:TypeId}{enc:α→Value}{v:Value}{l:List α}(H:StX C w0 M0 M L w)(hm:RowI t enc v l∈L):One v:=by
 obtain⟨A,c,rfl⟩:=H.lenRow hm;exact One.slice _ _ _
structure ElemTy (P:Program)(ts t:TypeId)(z:Value)(size bytes:Nat):Prop where
 under:P.underlying ts=some (.slice t)
 info :∃i,P.info? t=some i∧i.zero=some z∧i.size=size∧i.bytes=bytes
 zs:z.cells.size=size
 pos:0<size
theorem ElemTy.mk' {P:Program}{ts t:TypeId}{z:Value}{size bytes:Nat}(hu:P.underlying ts=some (.slice t))(h:(P.info? t).map (fun i=>(i.zero,i.size,i.bytes))=some (some z,size,bytes))(hz:z.cells.size=size)(hp:0<size):ElemTy P ts t z size bytes :=
 ⟨hu,by
  obtain⟨i,hi,h2⟩:=Option.map_eq_some_iff.1 h;simp only[Prod.mk.injEq] at h2;exact⟨i,hi,h2.1,h2.2.1,h2.2.2⟩,hz,hp⟩
abbrev _root_.q1b := @ElemTy.mk'
theorem growslice_lim {need old bytes:Nat}(h:old<need)(hb:need*bytes≤Pl.lim bytes):Builtin.nextslicecap need old*bytes≤281474976710656:=by
 by_cases h1:bytes=1
 · subst h1;unfold Pl.lim at hb;rw[if_pos rfl] at hb;rw[l0x] at hb ⊢;unfold Builtin.nextslicecap;split
   · omega
   split
   · omega
   rw[growBy_four];repeat' split
   all_goals omega
 unfold Pl.lim at hb;rw[if_neg h1] at hb;exact growslice_fits h hb
theorem run_append_own_src {P:Program}(w:World)(base:Nat){ts tx ty t:TypeId}{z:Value}{size bytes:Nat}(T:ElemTy P ts t z size bytes)
 (v:Value) (n:Nat) (xs:List Value) (hown:w.ownsRow base t size v n xs) (x:Value) (m:Nat) (news:List Value) (hs:Src P size tx x m news w)
 (h63:n+m≤maxLen) (hbytes:(n+m)*bytes≤Pl.lim bytes) (hbase:base≤w.heap.size) :
 ∃v' w',(Builtin.append_ #[ts,tx] ty #[v,x]).run P w = .ok v' w'∧w'.ownsRow base t size v' (n+m) (xs++news)∧w.grownBy w' v.ownBlock∧
  (v'.ownBlock=v.ownBlock∨v'.ownBlock=some w.heap.size):=by
 obtain⟨i,hi,hz,rfl,rfl⟩:=T.info;have ht:=T.under;have hzs:=T.zs;have hl:=hs.newsLen;have hsmall:n+m≤9223372036854775807:=by simp only[maxLen] at h63;omega
 have hlen:(xs++news).length=(n+m)*i.size:=by rw[l01,hown.1,hl,l0V]
 have grown :∀(old:Nat),old<n+m→∀(row:Option Nat),
  (w.drew.alloc (.cells ((xs++news).toArray++Builtin.zeroCells z.cells (grownCap w (n+m) old t-(n+m))) t)).ownsRow base t i.size
   (.slice (some ⟨w.heap.size,0,none⟩) (n+m) (grownCap w (n+m) old t)) (n+m) (xs++news)∧
  w.grownBy (w.drew.alloc (.cells ((xs++news).toArray++Builtin.zeroCells z.cells (grownCap w (n+m) old t-(n+m))) t)) row:=by
  intro old ho row;have hge:=grownCap_ge w (n+m) old t;have hcm:grownCap w (n+m) old t≤maxLen:=grownCap_le_maxLen w (n+m) old t h63;refine⟨⟨hlen, .inr ⟨w.heap.size,_,_,rfl,hbase,heap_alloc_new w.drew _,hge,hcm,?_,?_⟩⟩,⟨rfl,rfl,rfl,by simp,fun k hk _=>Below.heap_alloc w.drew _ k hk⟩⟩
  · simp only[Array.size_append,l0P,size_zeroCells,hzs,hlen,←l0V];congr 1;omega
  simp only[Array.toList_append];rw[←hlen];exact l1i
 rcases hown.2 with ⟨rfl,rfl⟩|⟨g,cap,cur,rfl,hbg,hg,hnc,hcm,hcs,htake⟩
 · have hx:xs=[]:=l05 (by simpa using hown.1);subst hx;by_cases hm:m=0
   · subst hm;have hn:news=[]:=l05 (by simpa using hl);subst hn;refine⟨.slice none 0 0,w,?_,World.ownsRow_nil w base t i.size,⟨rfl,rfl,rfl,l09 _,fun _ _ _=>rfl⟩,Or.inl rfl⟩;have h3:=hs.cells;rcases hs.kind with ⟨e',hk⟩|hk <;> simp [Builtin.append_,run_underlying ht,run_underlying hk,sizeOf,typeInfo,hi,hs.len,h3]
   have hr:=run_append_grow_src (P:=P) w ts tx ty t i z ht hi hz none 0 0 [] (run_firstCells_none w.drew i.size 0 0 0) x m news hs Om Om (growslice_lim Om (by simpa using hbytes));have hgr:=grown 0 Om (Value.ownBlock (.slice none 0 0));simp only[l0n,l04] at hgr hr ⊢;exact⟨_,_,hr,hgr.1,hgr.2,Or.inr rfl⟩
 by_cases hroom:n+m≤cap
 · have hfit:n*i.size+news.length≤cur.size:=by rw[hl,hcs,←l0V];exact l0B _ hroom
   have hst:=run_storeCells_at P g (n*i.size) t news 0 cur w hg (by simpa using hfit) hs.one;simp only[l0U] at hst;have hr:(Builtin.append_ #[ts,tx] ty #[.slice (some ⟨g,0,none⟩) n cap,x]).run P w = .ok (.slice (some ⟨g,0,none⟩) (n+m) cap) (w.setRow g (cur.toList.take (n*i.size)++news++cur.toList.drop (n*i.size+news.length)).toArray):=by
    rcases hs.kind with ⟨e',hk⟩|hk <;> simp [Builtin.append_,run_underlying ht,run_underlying hk,sizeOf,typeInfo,hi,hs.len,hroom,hs.cells,Addr.add_lit,hst]
   refine⟨_,_,hr,⟨hlen, .inr ⟨g,cap,_,rfl,hbg,setRow_heap w g cur _ t _ hg,hroom,hcm,?_,?_⟩⟩,⟨rfl,rfl,rfl,by simp,fun k _ hk=>setRow_other w g k _ (fun e=>hk (by simp [Value.ownBlock,e]))⟩,Or.inl rfl⟩
   · simp only[l0P,l01,l0g,l0a,Array.length_toList];omega
   rw[htake,←hlen];exact l1i
 have holds :∀j u,xs[j]? = some u→w.cell? ((⟨g,0,none⟩:Addr).add j)=some u:=hown.cells (g:=g) rfl;have hr:=run_append_grow_src (P:=P) w ts tx ty t i z ht hi hz (some ⟨g,0,none⟩) n cap xs (run_firstCells_some w.drew i.size n ⟨g,0,none⟩ n cap xs hown.1 (by simpa using holds)) x m news hs Om Om (growslice_lim Om hbytes);have hgr:=grown cap Om (Value.ownBlock (.slice (some ⟨g,0,none⟩) n cap));exact⟨_,_,hr,hgr.1,hgr.2,Or.inr rfl⟩
section
variable {C : Nat → Prop} {r : Option Nat} {P : Program} {ops : Array Oper} {Q : Exit → Act → World → Prop} {n : Nat} {D : List Deferred} {rest : List Oper} {e : Env} {w0 w : World} {M0 M : Mem} {L L' : List Item} {d : Nat} {v u z : Value}
  {x y : Operand} {ty t ts t' : TypeId} {pos : String} {af : Array Edge} {g : Option (Nat × Bool)}
theorem WR.run {o:Oper}{w':World}(hx:Ex P o e w v w')(hw:Wn ops n D e o)(hd:o.dst=some d)(hn:Nat.blt d n=true)(k:WR r P ops Q n D rest ((d,v)::e) w'):WR r P ops Q n D (o::rest) e w:=q0I hx hw hd hn k
theorem grownBy_alloc' (w:World)(o:Obj):w.grownBy (w.alloc o) none:=World.grownBy_alloc w o none
theorem WR.alloc (cs:List Value)(H:StX C w0 M0 M L w)(hz :∀w,(zeroValue t).run P w = .ok z w)(hc:z.cells=cs.toArray)(hw:Wn ops n D e ⟨some d, .alloc t,ty,pos,af,g⟩)(hn:Nat.blt d n=true)
 (k :∀b w',StX C w0 M0 M (.blk b (.cells cs.toArray t)::L) w'→WR r P ops Q n D rest ((d,ptr b 0)::e) w'):WR r P ops Q n D (⟨some d, .alloc t,ty,pos,af,g⟩::rest) e w:=by
 rw[←hc] at k;refine q0I (v:=ptr w.heap.size 0) (w':=w.alloc (.cells z.cells t)) ⟨nofun,fun ρ _=>?_⟩ hw rfl hn (k _ _ (H.new (grownBy_alloc' _ _) (heap_alloc_new w _) (fun b hb=>by cases hb;exact l09 _)));simp only[execOp,Instr.alloc,hz,newVar,newRow,Sem.run_bind,Sem.run_pure,Result.andThen_ok];rfl
abbrev _root_.q0d := @WR.alloc
theorem WR.box (cs:List Value)(H:StX C w0 M0 M L w)(hv:ev e x=some v)(hc:v.cells=cs.toArray)(hw:Wn ops n D e ⟨some d, .box t x,ty,pos,af,g⟩)(hn:Nat.blt d n=true)
 (k :∀b w',StX C w0 M0 M (.blk b (.cells cs.toArray t)::L) w'→WR r P ops Q n D rest ((d,ptr b 0)::e) w'):WR r P ops Q n D (⟨some d, .box t x,ty,pos,af,g⟩::rest) e w:=by
 rw[←hc] at k;refine q0I (v:=ptr w.heap.size 0) (w':=w.alloc (.cells v.cells t)) ⟨nofun,fun ρ hf=>?_⟩ hw rfl hn (k _ _ (H.new (grownBy_alloc' _ _) (heap_alloc_new w _) (fun b hb=>by cases hb;exact l09 _)));simp only[execOp,Instr.box,hf _ _ hv,newVar,newRow,Sem.run_bind,Sem.run_pure];rfl
abbrev _root_.q0M := @WR.box
theorem run_storeVar {b o:Nat}{cs:Array Value}{s:Nat}(hb:w.heap[b]? = some (.cells cs t'))(hs :∀w,(sizeOf t).run P w = .ok s w)(hvs:v.cells.size=s)(hfit:o+s≤cs.size)(h1 :∀u∈v.cells.toList,u.oneCell'=true):
 (storeVar t ⟨b,o,none⟩ v).run P w = .ok () (w.setRow b (cs.toList.take o++v.cells.toList++cs.toList.drop (o+s)).toArray):=by
 have hst:=run_storeCells_at P b o t' v.cells.toList 0 cs w hb (by simp [hvs];omega) h1;simp only[l0U] at hst;have hl:v.cells.toList.length=s:=by simp [hvs]
 rw[hl] at hst;simp only[storeVar,Sem.run_bind,hs,Result.andThen_ok,hvs,ne_eq,not_true_eq_false,if_false,hst]
theorem grownBy_setRow (w:World)(b:Nat)(cs:Array Value):w.grownBy (w.setRow b cs) (some b):=⟨rfl,rfl,rfl,by simp,fun k _ hk=>setRow_other w b k _ (fun e=>hk (by rw[e]))⟩
theorem WR.storeK {b o:Nat}{cs cs':Array Value}{s:Nat}(H:StX C w0 M0 M L w)(hx:ev e x=some (ptr b o))(hy:ev e y=some v)(hu:Upd L (.blk b (.cells cs t')) (.blk b (.cells cs' t')) L')
 (hs :∀w,(sizeOf t).run P w = .ok s w) (hvs:v.cells.size=s) (hfit:o+s≤cs.size) (h1 :∀u∈v.cells.toList,u.oneCell'=true) (hcs:(cs.toList.take o++v.cells.toList++cs.toList.drop (o+s)).toArray=cs')
 (hw:Wn ops n D e ⟨none, .store t x y,ty,pos,af,g⟩) (k :∀w',StX C w0 M0 M L' w'→WR r P ops Q n D rest e w'):WR r P ops Q n D (⟨none, .store t x y,ty,pos,af,g⟩::rest) e w:=by
 have hb:=H.blk hu.mem;have hrun:=run_storeVar (P:=P) hb hs hvs hfit h1;rw[hcs] at hrun;refine WR.stepS (w':=w.setRow b cs') ⟨nofun,fun ρ hf=>?_⟩ hw rfl (k _ (H.upd hu (grownBy_setRow w b cs') (setRow_heap w b cs cs' t' _ hb) (fun b' hb' => .inl hb')));simp only[execOp,hf _ _ hx,hf _ _ hy,Instr.storeAt,Instr.sureAddr,Sem.run_bind,Sem.run_pure,Result.andThen_ok,hrun]
theorem WR.store {b:Nat}{cs0:List Value}(cs:List Value){s:Nat}(H:StX C w0 M0 M L w)(hx:ev e x=some (ptr b 0))(hy:ev e y=some v)(hc:v.cells=cs.toArray)(hu:Upd L (.blk b (.cells cs0.toArray t')) (.blk b (.cells cs.toArray t')) L')
 (hs :∀w,(sizeOf t).run P w = .ok s w) (hvs:cs.length=s) (hcs:cs0.length=s) (h1:cs.all (·.oneCell')=true)
 (hw:Wn ops n D e ⟨none, .store t x y,ty,pos,af,g⟩) (k :∀w',StX C w0 M0 M L' w'→WR r P ops Q n D rest e w'):WR r P ops Q n D (⟨none, .store t x y,ty,pos,af,g⟩::rest) e w :=
 WR.storeK H hx hy hu hs (by rw[hc];simpa using hvs) (by simp;omega) (fun u hu=>by rw[hc] at hu;exact List.all_eq_true.1 h1 u (by simpa using hu)) (by
  rw[hc];apply Array.ext';simp [hcs]) hw k
abbrev _root_.q04 := @WR.store
theorem WR.store1 {b o:Nat}{cs0:List Value}(cs:List Value)(H:StX C w0 M0 M L w)(hx:ev e x=some (ptr b o))(hy:ev e y=some v)(hu:Upd L (.blk b (.cells cs0.toArray t')) (.blk b (.cells cs.toArray t')) L')(hc:cs0.set o v=cs)
 (hs :∀w,(sizeOf t).run P w = .ok 1 w) (ho:o<cs0.length) (hv:v.oneCell'=true) (hv':v.cells = #[v])
 (hw:Wn ops n D e ⟨none, .store t x y,ty,pos,af,g⟩) (k :∀w',StX C w0 M0 M L' w'→WR r P ops Q n D rest e w'):WR r P ops Q n D (⟨none, .store t x y,ty,pos,af,g⟩::rest) e w :=
 WR.storeK H hx hy hu hs (by rw[hv'];rfl) (by simp;omega) (by rw[hv'];simp [hv]) (by
  rw[hv',←hc];apply Array.ext';simp only[l1h];simp [ho]) hw k
abbrev _root_.q0U := @WR.store1
theorem WR.putV {b o:Nat}{cs0:List Value}(cs:List Value)(H:StX C w0 M0 M L w)(hx:ev e x=some (ptr b o))(hy:ev e y=some v)(hv:One v)(hu:Upd L (.blk b (.cells cs0.toArray t')) (.blk b (.cells cs.toArray t')) L')(hc:cs0.set o v=cs)
 (hs :∀w,(sizeOf t).run P w = .ok 1 w) (ho:o<cs0.length)
 (hw:Wn ops n D e ⟨none, .store t x y,ty,pos,af,g⟩) (k :∀w',StX C w0 M0 M L' w'→WR r P ops Q n D rest e w'):WR r P ops Q n D (⟨none, .store t x y,ty,pos,af,g⟩::rest) e w :=
 WR.store1 cs H hx hy hu hc hs ho hv.2 hv.1 hw k
abbrev _root_.q0V := @WR.putV
theorem StX.loadAgg {b s:Nat}{cs:List Value}(H:StX C w0 M0 M L w)(hm:Item.blk b (.cells cs.toArray t')∈L)(ha :∀w,(isAgg t).run P w = .ok true w)(hs :∀w,(sizeOf t).run P w = .ok s w)(hl:cs.length=s):(loadVar t ⟨b,0,none⟩).run P w = .ok (.agg cs.toArray) w:=by
 have hb:=H.blk hm;subst hl;have hl:(loadCells ⟨b,0,none⟩ cs.length).run P w = .ok cs.toArray w :=
  run_loadCells_list (P:=P) w ⟨b,0,none⟩ cs (fun j v hv=>by
   rw[Addr.add_lit,l0n,cell_of_row w b j _ t' _ hb];simpa using hv)
 simp only[loadVar,Sem.run_bind,ha,Result.andThen_ok,if_true,hs,hl,Sem.run_pure]
theorem StX.load1 {b o:Nat}{cs:List Value}(H:StX C w0 M0 M L w)(hm:Item.blk b (.cells cs.toArray t')∈L)(ha :∀w,(isAgg t).run P w = .ok false w)(hv:cs[o]? = some v):(loadVar t ⟨b,o,none⟩).run P w = .ok v w:=by
 have hc:w.cell? ⟨b,o,none⟩=some v:=by rw[cell_of_row w b o _ t' _ (H.blk hm)];simpa using hv
 simp only[loadVar,Sem.run_bind,ha,Result.andThen_ok,l0j,if_false];simp [load,Sem.run,hc]
theorem Ag.load1 {p:Addr}(ha:Ag M w)(hc:CellM M p v)(hg :∀w,(isAgg t).run P w = .ok false w):(loadVar t p).run P w = .ok v w:=by
 have hc:=hc.cell ha;simp only[loadVar,Sem.run_bind,hg,Result.andThen_ok,l0j,if_false];simp [load,Sem.run,hc]
variable {dst : Option Tmp}
theorem Ex.loadK {p:Addr}(hx:ev e x=some (.pointer (some p)))(h:(loadVar t p).run P w = .ok v w):Ex P ⟨dst, .load t x,ty,pos,af,g⟩ e w v w :=
 ⟨nofun,fun ρ hf=>by simp only[execOp,hf _ _ hx,Instr.loadAt,Instr.sureAddr,Sem.run_bind,Sem.run_pure,Result.andThen_ok,h]⟩
theorem Ex.loadAgg {b s:Nat}{cs:List Value}(H:StX C w0 M0 M L w)(hx:ev e x=some (ptr b 0))(hm:Item.blk b (.cells cs.toArray t')∈L)(ha :∀w,(isAgg t).run P w = .ok true w)(hs :∀w,(sizeOf t).run P w = .ok s w)(hl:cs.length=s):
 Ex P ⟨dst, .load t x,ty,pos,af,g⟩ e w (.agg cs.toArray) w:=Ex.loadK hx (H.loadAgg hm ha hs hl)
abbrev _root_.q0f := @Ex.loadAgg
theorem Ex.load1 {b o:Nat}{cs:List Value}(H:StX C w0 M0 M L w)(hx:ev e x=some (ptr b o))(hm:Item.blk b (.cells cs.toArray t')∈L)(ha :∀w,(isAgg t).run P w = .ok false w)(hv:cs[o]? = some v):
 Ex P ⟨dst, .load t x,ty,pos,af,g⟩ e w v w:=Ex.loadK hx (H.load1 hm ha hv)
theorem Ex.loadM {p:Addr}(H:StX C w0 M0 M L w)(hx:ev e x=some (.pointer (some p)))(hc:CellM M p v)(ha :∀w,(isAgg t).run P w = .ok false w):
 Ex P ⟨dst, .load t x,ty,pos,af,g⟩ e w v w:=Ex.loadK hx (H.ag.load1 hc ha)
abbrev _root_.q0g := @Ex.loadM
theorem Ex.fieldAddr {b o i sz:Nat}{fs:Array Field}{f:Field}(hs:P.underlying t=some (.struct fs))(hf:fs[i]? = some f)(hz :∀w,(sizeOf f.type).run P w = .ok sz w)(hnz:sz≠0)(hx:ev e x=some (ptr b o)):
 Ex P ⟨dst, .fieldAddr t x i,ty,pos,af,g⟩ e w (ptr b (o+f.offset)) w :=
 ⟨nofun,fun ρ hfi=>by
  simp only[execOp,hfi _ _ hx,Instr.fieldAt,Sem.run_bind,run_underlying hs,Result.andThen_ok,hf,Instr.sureAddr,Sem.run_pure,fieldPlace,hz,hnz,if_false,Addr.add_lit]⟩
abbrev _root_.q02 := @Ex.fieldAddr
theorem Ex.idxArr {b o i len sz:Nat}{t0:TypeId}{k:IntKind}(hs:P.underlying t=some (.array len t0))(hz :∀w,(sizeOf t0).run P w = .ok sz w)(hx:ev e x=some (ptr b o))(hy:ev e y=some (.int k (i:Int)))(hi:i<len):
 Ex P ⟨dst, .indexAddr t x y,ty,pos,af,g⟩ e w (ptr b (o+i*sz)) w :=
 ⟨nofun,fun ρ hfi=>by
  have h0:(0:Int)≤(i:Int)∧(i:Int)<(len:Int):=by omega
  simp only[execOp,hfi _ _ hx,hfi _ _ hy,Instr.indexAt,Sem.run_bind,asIntOf,run_underlying hs,Result.andThen_ok,Instr.sureAddr,Sem.run_pure,hz,h0,and_self,if_true,Addr.add_lit,l0f]⟩
variable {α : Type} {enc : α → Value} {l l2 : List α}
theorem Ex.lenSl (ht:P.underlying t=some (.slice t'))(h:Sl M enc v l)(hx:ev e x=some v):Ex P ⟨dst, .call ⟨.builtin .len,#[x],#[t]⟩,ty,pos,af,g⟩ e w (I l.length) w:=by
 obtain⟨A,c,rfl,_⟩:=h;exact q0L ht hx
abbrev _root_.q0i := @Ex.lenSl
theorem Ex.lenRow (ht:P.underlying t=some (.slice t'))(H:StX C w0 M0 M L w)(hm:RowI ts enc v l∈L)(hx:ev e x=some v):Ex P ⟨dst, .call ⟨.builtin .len,#[x],#[t]⟩,ty,pos,af,g⟩ e w (I l.length) w:=by
 obtain⟨A,c,rfl⟩:=H.lenRow hm;exact q0L ht hx
abbrev _root_.q1i := @Ex.lenRow
theorem Sl.addr (h:Sl M enc v l){i:Nat}{a:α}(hi:l[i]? = some a):∃b o c,v = .slice (some ⟨b,o,none⟩) l.length c∧CellM M ⟨b,o+i,none⟩ (enc a):=by
 obtain⟨A,c,rfl,h1,h2,h3⟩:=h;obtain⟨b,o,cs,t,fz,rfl,e2,e3⟩:=h3 (by rintro rfl;simp at hi);exact⟨b,o,c,rfl,rfl,cs,t,fz,e2,e3 i a hi⟩
theorem run_slice_part {i j:Nat}{lo hi:Option Value}(ht:P.underlying t=some (.slice t'))(hz :∀w,(sizeOf t').run P w = .ok 1 w)(A:Option Addr)(nn c:Nat)(hnc:nn≤c)(hij:i≤j)(hj:j≤nn)
 (hlo:lo=some (I i)∨(lo=none∧i=0)) (hhi:hi=some (I j)∨(hi=none∧j=nn)) :
 (Instr.sliceAt t (.slice A nn c) lo hi none).run P w = .ok (.slice (if c=i then A else A.map (·.add i)) (j-i) (c-i)) w:=by
 have a1:(0:Int)≤(i:Int)∧(i:Int)≤(j:Int):=by omega
 have a2:(0:Int)≤(j:Int)∧(j:Int)≤(c:Int):=by omega
 rcases hlo with rfl|⟨rfl,rfl⟩ <;> rcases hhi with rfl|⟨rfl,rfl⟩ <;>
  simp only[Instr.sliceAt,Instr.slice,Instr.sliceBounds,Instr.sliceBound,asIntOf,Sem.run_bind,run_underlying ht,Result.andThen_ok,Sem.run_pure,a1,a2,and_self,if_true,l0f,hz,l0x,l1L]
theorem WR.sliceSl {i j:Nat}{lo hi:Option Operand}(ht:P.underlying t=some (.slice t'))(hz :∀w,(sizeOf t').run P w = .ok 1 w)(h:Sl M enc v l)(hx:ev e x=some v)
 (hlo:(∃o,lo=some o∧ev e o=some (I i))∨(lo=none∧i=0)) (hhi:(∃o,hi=some o∧ev e o=some (I j))∨(hi=none∧j=l.length)) (hij:i≤j) (hj:j≤l.length)
 (hw:Wn ops n D e ⟨some d, .slice t x lo hi none,ty,pos,af,g⟩) (hn:Nat.blt d n=true) (k :∀v',Sl M enc v' ((l.take j).drop i)→WR r P ops Q n D rest ((d,v')::e) w) :
 WR r P ops Q n D (⟨some d, .slice t x lo hi none,ty,pos,af,g⟩::rest) e w:=by
 obtain⟨A,nn,c,rfl,rfl,hnc,hs⟩:=h.part hij hj;refine q0I (w':=w) ⟨nofun,fun ρ hfi=>?_⟩ hw rfl hn (k _ hs);have hr:=run_slice_part (P:=P) (w:=w) (lo:=lo.map ρ) (hi:=hi.map ρ) ht hz A l.length c hnc hij hj
  (by rcases hlo with ⟨o,rfl,ho⟩|⟨rfl,h⟩
      · exact .inl (by simp [hfi _ _ ho])
      exact .inr ⟨rfl,h⟩)
  (by rcases hhi with ⟨o,rfl,ho⟩|⟨rfl,h⟩
      · exact .inl (by simp [hfi _ _ ho])
      exact .inr ⟨rfl,h⟩)
 simp only[execOp,hfi _ _ hx,l1b,Sem.run_bind,hr,Result.andThen_ok,Sem.run_pure]
theorem Ex.makeFunc {f:FuncId}{cs:List Operand}{vs:List Value}(hc:evs e cs=some vs):Ex P ⟨dst, .makeFunc (.func f) #[] cs.toArray,ty,pos,af,g⟩ e w (.func (.func f) #[] vs.toArray) w :=
 ⟨nofun,fun ρ hfi=>by simp [execOp,Instr.makeFunc,hfi.evs hc]⟩
abbrev _root_.q1l := @Ex.makeFunc
theorem Sl.toStr {l:Ls}{ts:TypeId}(ht:P.underlying t=some (.slice t'))(he:P.underlying t'=some (.int .u8))(hd:P.underlying ts=some .string)(h:Bs M v l)(ha:Ag M w):(convert t ts v).run P w = .ok (S l) w:=by
 obtain⟨A,c,rfl,hc,hn⟩:=h.cells ha;cases A with
 | none =>
   obtain⟨rfl,rfl⟩:=hn rfl;exact run_convert_bytes_nil w t t' ht he _ _ ts hd
 | some ad =>
   rw[run_convert_bytes_string w t ts t' (some ad) _ _ ht he hd];have hl:(loadCells ad (l.map encB).length).run P w = .ok (l.map encB).toArray w:=run_loadCells_list (P:=P) w ad (l.map encB) (hc ad rfl);rw[l0d] at hl;simp only[Conv.bytesToString,Sem.run_bind,hl,Result.andThen_ok];have key :∀(m:Ls) (acc:ByteArray),(forIn (m.map encB).toArray acc (fun c (s:ByteArray)=>(do
    let .int .u8 n := c | stuck "bytesToString: byte expected"
    pure (ForInStep.yield (s.push (UInt8.ofNat n.toNat))):Sem (ForInStep ByteArray)))).run P w = .ok ⟨acc.data++m.toArray⟩ w:=by
    intro m;induction m with
    | nil=>intro acc;simp
    | cons x m ih =>
      intro acc;have e1:(acc.push x).data++m.toArray=acc.data++(x::m).toArray:=by
       apply Array.ext';simp
      have:=ih (acc.push x);rw[e1] at this;simp at this ⊢;exact this
   have k0:=key l ByteArray.empty;simp at k0 ⊢;rw[k0]
theorem Ex.toStr {l:Ls}{ts:TypeId}(ht:P.underlying t=some (.slice t'))(he:P.underlying t'=some (.int .u8))(hd:P.underlying ts=some .string)(H:StX C w0 M0 M L w)(h:Bs M v l)(hx:ev e x=some v):
 Ex P ⟨dst, .convert t ts x,ty,pos,af,g⟩ e w (S l) w :=
 ⟨nofun,fun ρ hfi=>by simp only[execOp,hfi _ _ hx,Sem.run_bind,h.toStr ht he hd H.ag,Result.andThen_ok,Sem.run_pure]⟩
theorem Sl.src (ht:P.underlying t=some (.slice t'))(h:Sl M enc v l)(ha:Ag M w)(h1 :∀a,(enc a).oneCell'=true):Src P 1 t v l.length (l.map enc) w:=by
 obtain⟨A,c,rfl,hc,hn⟩:=h.cells ha;have h1' :∀u∈l.map enc,u.oneCell'=true:=fun u hu=>by obtain⟨a,_,rfl⟩:=List.mem_map.1 hu;exact h1 a
 cases A with
 | none =>
   obtain⟨rfl,rfl⟩:=hn rfl;exact Src.ofNil w ht _
 | some ad=>exact Src.ofSlice w ht ad _ _ _ Sm (hc ad rfl) h1'
theorem srcStr {l:Ls}(ht:P.underlying t=some .string):Src P 1 t (S l) l.length (l.map encB) w:=by
 have:=Src.ofString w ht ⟨l.toArray⟩;rw[size_mk] at this;have e1:byteCells ⟨l.toArray⟩=l.map encB:=by simp [byteCells]
 rwa [e1] at this
theorem WR.appendK {z:Value}{bytes:Nat}{tx:TypeId}{L':Item→List Item}(T:ElemTy P ts t z 1 bytes)(H:StX C w0 M0 M L w)(hx:ev e x=some v)(hu :∀it',Upd L (RowI t enc v l) it' (L' it'))(hy:ev e y=some u)
 (hs:Src P 1 tx u l2.length (l2.map enc) w) (hb:(l.length+l2.length)*bytes≤Pl.lim bytes) (hb':l.length+l2.length≤maxLen)
 (hw:Wn ops n D e ⟨some d, .call ⟨.builtin .append,#[x,y],#[ts,tx]⟩,ty,pos,af,g⟩) (hn:Nat.blt d n=true)
 (k :∀v' w',StX C w0 M0 M (L' (RowI t enc v' (l++l2))) w'→WR r P ops Q n D rest ((d,v')::e) w') :
 WR r P ops Q n D (⟨some d, .call ⟨.builtin .append,#[x,y],#[ts,tx]⟩,ty,pos,af,g⟩::rest) e w:=by
 have hm:=(hu (RowI t enc v l)).mem;obtain⟨v',w',hrun,h1,h2,h3⟩:=run_append_own_src (P:=P) (ty:=ty) w 0 T v l.length (l.map enc) (H.rowOf hm) u l2.length (l2.map enc) hs hb' hb (l0C _);have h1':w'.ownsRow 0 t 1 v' (l++l2).length ((l++l2).map enc):=by rw[l01,l1f];exact h1
 refine q0I (w':=w') ⟨nofun,fun ρ hfi=>?_⟩ hw rfl hn (k v' w' (H.upd (hu _) h2 h1' (fun b hb'=>?_)))
 · simp only[execOp,resolve,invoke,builtin,Sem.run_bind,Sem.run_pure,Result.andThen_ok,l0k,l0i,l0y,hfi _ _ hx,hfi _ _ hy,hrun]
 have hb'':v'.ownBlock=some b:=hb';rcases h3 with h3|h3
 · exact .inl (h3.symm.trans hb'')
 rw[h3] at hb'';have:w.heap.size=b:=Option.some.inj hb'';exact .inr Om
theorem WR.appendSl {z:Value}{bytes:Nat}{L':Item→List Item}(T:ElemTy P ts t z 1 bytes)(h1 :∀a,(enc a).oneCell'=true)(H:StX C w0 M0 M L w)(hx:ev e x=some v)(hu :∀it',Upd L (RowI t enc v l) it' (L' it'))(hy:ev e y=some u)
 (hs:Sl M enc u l2) (hb:(l.length+l2.length)*bytes≤Pl.lim bytes) (hb':l.length+l2.length≤maxLen)
 (hw:Wn ops n D e ⟨some d, .call ⟨.builtin .append,#[x,y],#[ts,ts]⟩,ty,pos,af,g⟩) (hn:Nat.blt d n=true)
 (k :∀v' w',StX C w0 M0 M (L' (RowI t enc v' (l++l2))) w'→WR r P ops Q n D rest ((d,v')::e) w') :
 WR r P ops Q n D (⟨some d, .call ⟨.builtin .append,#[x,y],#[ts,ts]⟩,ty,pos,af,g⟩::rest) e w :=
 WR.appendK T H hx hu hy (hs.src T.under H.ag h1) hb hb' hw hn k
theorem WR.appendStr {z:Value}{l l2:Ls}{tx:TypeId}{L':Item→List Item}(T:ElemTy P ts t z 1 1)(ht:P.underlying tx=some .string)(H:StX C w0 M0 M L w)(hx:ev e x=some v)(hu :∀it',Upd L (RowI t encB v l) it' (L' it'))(hy:ev e y=some (S l2))
 (hb:l.length+l2.length≤175921860444160)
 (hw:Wn ops n D e ⟨some d, .call ⟨.builtin .append,#[x,y],#[ts,tx]⟩,ty,pos,af,g⟩) (hn:Nat.blt d n=true)
 (k :∀v' w',StX C w0 M0 M (L' (RowI t encB v' (l++l2))) w'→WR r P ops Q n D rest ((d,v')::e) w') :
 WR r P ops Q n D (⟨some d, .call ⟨.builtin .append,#[x,y],#[ts,tx]⟩,ty,pos,af,g⟩::rest) e w :=
 WR.appendK T H hx hu hy (srcStr ht) (by unfold Pl.lim;rw [if_pos rfl];omega) (by simp only[maxLen];omega) hw hn k
def evq (e:Env):List (Nat × Operand)→Option (List (Nat × Value))
 | []=>some []
 |(i,x)::r=>match ev e x,evq e r with|some v,some vs=>some ((i,v)::vs)|_,_=>none
theorem Fits.evq {ρ:Operand→Value}(hf:Fits e ρ):∀{ps:List (Nat × Operand)} {vs:List (Nat × Value)},evq e ps=some vs→ps.map (fun p=>(p.1,ρ p.2))=vs
 | [],vs,h=>by simp [Ph.evq] at h;simp [h]
 | (i,x)::r,vs,h=>by
   simp only[Ph.evq] at h;split at h
   · rename_i v vs' h1 h2;cases h;simp [hf _ _ h1,hf.evq h2]
   cases h
theorem Ex.build {ps:List (Nat × Operand)}{vs:List (Nat × Value)}{fs:Array Field}{places:Array (Nat × Nat)}(cs:List Value)(hu:P.underlying t=some (.struct fs))(hz :∀w,(zeroValue t).run P w = .ok z w)
 (hpl :∀w,(fs.mapM fun f=>do pure (f.offset,←sizeOf f.type):Sem (Array (Nat × Nat))).run P w = .ok places w) (hp:evq e ps=some vs) (hfl:Instr.fill (places[·]?) z.cells vs=some cs.toArray) :
 Ex P ⟨dst, .build t ps.toArray,ty,pos,af,g⟩ e w (.agg cs.toArray) w :=
 ⟨nofun,fun ρ hf=>by
  have h1:(ps.toArray.map fun x=>(x.1,ρ x.2)).toList=vs:=by simpa using hf.evq hp
  simp only[execOp,Instr.build,Sem.run_bind,hz,Result.andThen_ok,run_underlying hu,hpl,h1,hfl,Sem.run_pure]⟩
abbrev _root_.q0z := @Ex.build
def evp (e:Env):Nat→List (Nat × Operand)→Option (List Value)
 | _,[]=>some []
 | k,(i,x)::r=>bif Nat.beq i k then(match ev e x,evp e (k+1) r with|some v,some vs=>some (v::vs)|_,_=>none) else none
theorem fill_all {e:Env}{ρ:Operand→Value}(hf:Fits e ρ):∀(ps:List (Nat × Operand)) (k:Nat) (vs:List Value) (cs:List Value),evp e k ps=some vs→(∀v∈vs,v.cells = #[v])→k+vs.length≤cs.length→
 Instr.fill (fun i=>some (i*1,1)) cs.toArray (ps.map fun p=>(p.1,ρ p.2))=some (cs.take k++vs++cs.drop (k+vs.length)).toArray
 | [],k,vs,cs,h,_,_=>by
   simp only[evp,Option.some.injEq] at h;subst h;simp [Instr.fill]
 | (i, x)::r,k,vs,cs,h,h1,hk=>by
   simp only[evp] at h;cases hb:Nat.beq i k with
   | false=>rw[hb] at h;cases h
   | true =>
     have:i=k:=l0q hb;subst this;rw[hb] at h;simp only[cond_true] at h;split at h
     · rename_i v vs' e1 e2;cases h;simp only[l02] at hk;have hv:v.cells = #[v]:=h1 v Sm;have hkl:i<cs.length:=by omega
       have ih:=fill_all hf r (i+1) vs' (cs.set i v) e2 (fun u hu=>h1 u (by simp [hu])) (by simp;omega);simp only[l0i,hf _ _ e1,Instr.fill,hv];have c1 :¬((decide ((#[v]:Array Value).size≠1) || decide (i*1+(#[v]:Array Value).size>cs.toArray.size))=true):=by simp;omega
       rw[if_neg c1];have c2:((#[v]:Array Value).zipIdx.foldl (fun cs (c,j)=>cs.setIfInBounds (i*1+j) c) cs.toArray)=(cs.set i v).toArray:=by simp
       rw[c2,ih];congr 2;have hd:(cs.set i v).drop (i+1+vs'.length)=cs.drop (i+1+vs'.length):=List.drop_set_of_lt Om;have htk:(cs.set i v).take (i+1)=cs.take i++[v]:=by
        rw[l0F (by simp;omega),List.take_set_of_le Om];simp
       rw[hd,htk];simp [l1p,l1F 1]
     cases h
theorem run_buildSlice {ps:List (Nat × Operand)}{vs:List Value}{ρ:Operand→Value}{bytes:Nat}(hf:Fits e ρ)(T:ElemTy P ts t z 1 bytes)(hp:evp e 0 ps=some vs)(h1 :∀v∈vs,v.cells = #[v]){len:Nat}(hlen:vs.length=len)(hbig:len≤16777216):
 (Instr.buildSlice ts len (ps.toArray.map fun(i,x)=>(i,ρ x))).run P w = .ok (.slice (some ⟨w.heap.size,0,none⟩) len len) (w.alloc (.cells vs.toArray t)):=by
 obtain⟨i,hi,hz,hsz,_⟩:=T.info;subst hlen;have hs:(sizeOf t).run P w = .ok 1 w:=by simp [sizeOf,typeInfo,hi,hsz]
 have hzv:(zeroValue t).run P w = .ok z w:=by simp [zeroValue,typeInfo,hi,hz]
 have hnb :¬(vs.length*1>2 ^ 24):=by omega
 have fl :∀cs:List Value,cs.length=vs.length→Instr.fill (fun i=>some (i*1,1)) cs.toArray (ps.map fun p=>(p.1,ρ p.2))=some vs.toArray:=fun cs hcs=>by
  have:=fill_all hf ps 0 vs cs hp h1 Om;rw[this];simp [hcs]
 have fl' :∀cs:Array Value,cs.size=vs.length→Instr.fill (fun i=>some (i*1,1)) cs (ps.toArray.map fun x=>(x.1,ρ x.2)).toList=some vs.toArray:=fun cs hcs=>by
  have:=fl cs.toList (by simpa using hcs);simpa using this
 by_cases h0:vs.length*1=0
 · simp only[Instr.buildSlice,Sem.run_bind,run_underlying T.under,Result.andThen_ok,hs,hnb,if_false];rw[if_pos h0];simp only[Sem.run_bind,Sem.run_pure,Result.andThen_ok];rw[fl' _ Sm];rfl
 simp only[Instr.buildSlice,Sem.run_bind,run_underlying T.under,Result.andThen_ok,hs,hnb,if_false];rw[if_neg h0];simp only[Sem.run_bind,hzv,Sem.run_pure,Result.andThen_ok];rw[fl' _ Sm];rfl
theorem WR.lit {ps:List (Nat × Operand)}{vs:List Value}{bytes len:Nat}(T:ElemTy P ts t z 1 bytes)(l:List α)(H:StX C w0 M0 M L w)(hp:evp e 0 ps=some vs)(hl:vs=l.map enc)(h1 :∀a,(enc a).cells = #[enc a])(hlen:l.length=len)(hbig:Nat.ble len 16777216=true)
 (hw:Wn ops n D e ⟨some d, .buildSlice ts len ps.toArray,ty,pos,af,g⟩) (hn:Nat.blt d n=true)
 (k :∀v M' w',StX C w0 M0 M' L w'→M.le M'→Sl M' enc v l→WR r P ops Q n D rest ((d,v)::e) w') :
 WR r P ops Q n D (⟨some d, .buildSlice ts len ps.toArray,ty,pos,af,g⟩::rest) e w:=by
 have hbig:=l06 hbig;have H1:=H.new (it := .blk w.heap.size (.cells vs.toArray t)) (grownBy_alloc' w (.cells vs.toArray t)) (heap_alloc_new w _) (fun b hb=>by cases hb;exact l09 _);obtain⟨h2,h3⟩:=H1.freeze .head rfl (heap_alloc_new w _) H.base;refine q0I (w':=w.alloc (.cells vs.toArray t)) (v := .slice (some ⟨w.heap.size,0,none⟩) len len) ⟨nofun,fun ρ hf=>?_⟩ hw rfl hn (k _ _ _ h3 h2 ⟨some ⟨w.heap.size,0,none⟩,len,by rw[hlen],by omega,⟨by simp only[maxLen];omega,fun h=>by cases h⟩,fun _=>⟨w.heap.size,0,vs.toArray,t,(0,0),rfl,by simp [Mem.set],fun i x hx=>?_⟩⟩)
 · have:=run_buildSlice (P:=P) (w:=w) hf T hp (fun v hv=>by rw[hl] at hv;obtain ⟨a,_,rfl⟩:=List.mem_map.1 hv;exact h1 a) (len:=len) (by rw[hl];simpa using hlen) hbig;simp only[execOp,Sem.run_bind,this,Result.andThen_ok,Sem.run_pure]
 rw[hl];simp [hx]
theorem WR.litC {ps:List (Nat × Operand)}{vs:List Value}{bytes len d2:Nat}{ty':TypeId}{pos':String}{af':Array Edge}{g':Option (Nat × Bool)}(T:ElemTy P ts t z 1 bytes)(hu8:P.underlying t=some (.int .u8))(l:Ls)(H:StX C w0 M0 M L w)(hp:evp e 0 ps=some vs)(hl:vs=l.map encB)(hlen:l.length=len)(hbig:Nat.ble len 16777216=true)
 (hw:Wn ops n D e ⟨some d, .buildSlice ts len ps.toArray,ty,pos,af,g⟩) (hn:Nat.blt d n=true)
 (hw' :∀v,Wn ops n D ((d,v)::e) ⟨some d2, .convert ts ts (.tmp d),ty',pos',af',g'⟩) (hn':Nat.blt d2 n=true)
 (k :∀v M' w',StX C w0 M0 M' L w'→M.le M'→Bs M' v l→WR r P ops Q n D rest ((d2,v)::(d,v)::e) w') :
 WR r P ops Q n D (⟨some d, .buildSlice ts len ps.toArray,ty,pos,af,g⟩::⟨some d2, .convert ts ts (.tmp d),ty',pos',af',g'⟩::rest) e w:=by
 have hbig:=l06 hbig;have hvs:vs.length=len:=by rw[hl];simpa using hlen
 refine q0I (w':=w.alloc (.cells vs.toArray t)) (v := .slice (some ⟨w.heap.size,0,none⟩) len len) ⟨nofun,fun ρ hf=>?_⟩ hw rfl hn ?_
 · have:=run_buildSlice (P:=P) (w:=w) hf T hp (fun v hv=>by rw[hl] at hv;obtain ⟨a,_,rfl⟩:=List.mem_map.1 hv;rfl) (len:=len) hvs hbig;simp only[execOp,Sem.run_bind,this,Result.andThen_ok,Sem.run_pure]
 have hc:=Lib.run_convert_bytes_const (P:=P) w ts t vs.toArray len len T.under hu8;have H1:=H.new (w':=w.alloc (.cells vs.toArray t (len,len+1))) (it := .blk w.heap.size (.cells vs.toArray t (len,len+1))) (grownBy_alloc' w _) (heap_alloc_new w _) (fun b hb=>by cases hb;exact l09 _);obtain⟨h2,h3⟩:=H1.freeze .head rfl (heap_alloc_new w _) H.base;refine q0I (w':=w.alloc (.cells vs.toArray t (len,len+1))) (v := .slice (some ⟨w.heap.size,0,none⟩) len len) ⟨nofun,fun ρ hf=>?_⟩ (hw' _) rfl hn' (k _ _ _ h3 h2 ⟨some ⟨w.heap.size,0,none⟩,len,by rw[hlen],by omega,⟨by simp only[maxLen];omega,fun h=>by cases h⟩,fun _=>⟨w.heap.size,0,vs.toArray,t,(len,len+1),rfl,by simp [Mem.set],fun i x hx=>?_⟩⟩)
 · have hg:ρ (.tmp d) = .slice (some ⟨w.heap.size,0,none⟩) len len:=hf _ _ (by simp [ev,get]);have hsz:vs.toArray.size=len:=by simpa using hvs
   rw[hsz] at hc;simp only[execOp,hg,Sem.run_bind,hc,Result.andThen_ok,Sem.run_pure]
 rw[hl];simp [hx]
theorem WR.call {f:FuncId}{ar:List Operand}{vs:List Value}{tys:Array TypeId}{Pre:Mem→Prop}{R:Value→Mem→Prop}(H:StX C w0 M0 M L w)(hs:Ct P f vs Pre R)(ha:evs e ar=some vs)(hp:Pre M)
 (hw:Wn ops n D e ⟨some d, .call ⟨.value (.func f),ar.toArray,tys⟩,ty,pos,af,g⟩) (hn:Nat.blt d n=true)
 (k :∀v M' w',StX C w0 M0 M' L w'→M.le M'→R v M'→WR r P ops Q n D rest ((d,v)::e) w') :
 WR r P ops Q n D (⟨some d, .call ⟨.value (.func f),ar.toArray,tys⟩,ty,pos,af,g⟩::rest) e w:=by
 intro a hsat;unfold wpListIn;rw[if_pos (hw a hsat)];refine⟨fun _ _=>trivial,?_⟩;rw[Oper.semAt_eq _ _ _ (fun c h=>by cases h)];have hv:ar.map a.eval=vs:=hsat.fits.evs ha;have hf:a.eval (.func f) = .func (.func f) #[] #[]:=rfl;have hrun:(execOp a.eval ⟨some d, .call ⟨.value (.func f),ar.toArray,tys⟩,ty,pos,af,g⟩).run P w = .ok (.enter f vs.toArray) w:=by
  simp only[execOp,resolve,hf,Deferred.ofValue,Sem.run_bind,Sem.run_pure,Result.andThen_ok,invoke,l0k,hv,Array.append_empty,Array.empty_append,hs.enters]
 rw[hrun,Oper.uponIn_enter];refine⟨fun h=>(by cases h),callsIn_Wd.2 ((hs.calls w M H.ag hp).mono ?_)⟩;rintro en w' ⟨rv,M',rfl,hx,hR⟩;exact k rv M' w' (H.call hx) hx.le hR _ (hsat.put (l06 hn) rv)
abbrev _root_.q03 := @WR.call
theorem WR.callO {f:FuncId}{ar:List Operand}{vs:List Value}{tys:Array TypeId}{Pre:Mem→Prop}{R:Value→Mem→List Item→Prop}(H:StX C w0 M0 M L w)(hs:CtO P f vs Pre R)(ha:evs e ar=some vs)(hp:Pre M)
 (hw:Wn ops n D e ⟨some d, .call ⟨.value (.func f),ar.toArray,tys⟩,ty,pos,af,g⟩) (hn:Nat.blt d n=true)
 (k :∀v M' w' its,StX C w0 M0 M' (its++L) w'→M.le M'→R v M' its→WR r P ops Q n D rest ((d,v)::e) w') :
 WR r P ops Q n D (⟨some d, .call ⟨.value (.func f),ar.toArray,tys⟩,ty,pos,af,g⟩::rest) e w:=by
 intro a hsat;unfold wpListIn;rw[if_pos (hw a hsat)];refine⟨fun _ _=>trivial,?_⟩;rw[Oper.semAt_eq _ _ _ (fun c h=>by cases h)];have hv:ar.map a.eval=vs:=hsat.fits.evs ha;have hf:a.eval (.func f) = .func (.func f) #[] #[]:=rfl;have hrun:(execOp a.eval ⟨some d, .call ⟨.value (.func f),ar.toArray,tys⟩,ty,pos,af,g⟩).run P w = .ok (.enter f vs.toArray) w:=by
  simp only[execOp,resolve,hf,Deferred.ofValue,Sem.run_bind,Sem.run_pure,Result.andThen_ok,invoke,l0k,hv,Array.append_empty,Array.empty_append,hs.enters]
 rw[hrun,Oper.uponIn_enter];refine⟨fun h=>(by cases h),callsIn_Wd.2 ((hs.calls w M H.ag hp).mono ?_)⟩;rintro en w' ⟨rv,M',its,rfl,hx,hR⟩;exact k rv M' w' its (H.callO hx) hx.ext.le hR _ (hsat.put (l06 hn) rv)
abbrev _root_.q1m := @WR.callO
end
end Go.Ph
end
section
namespace Go.Ph
open Go Go.RowKit
def CellsM (M:Mem)(p:Addr)(vs:List Value):Prop:=p.spot=none∧∃cs t fz,M p.block=some (.cells cs t fz)∧∀j u,vs[j]? = some u→cs[p.off+j]? = some u
theorem CellsM.mono {M M':Mem}{p:Addr}{vs:List Value}(h:CellsM M p vs)(hl:M.le M'):CellsM M' p vs :=
 ⟨h.1,let ⟨cs,t,fz,h1,h2⟩:=h.2;⟨cs,t,fz,hl _ _ h1,h2⟩⟩
theorem CellsM.at {M:Mem}{b o j:Nat}{vs:List Value}{u:Value}(h:CellsM M ⟨b,o,none⟩ vs)(hj:vs[j]? = some u):CellM M ⟨b,o+j,none⟩ u :=
 ⟨rfl,let ⟨cs,t,fz,h1,h2⟩:=h.2;⟨cs,t,fz,h1,h2 j u hj⟩⟩
def SlS {α:Type}(M:Mem)(k:Nat)(enc:α→List Value)(v:Value)(l:List α):Prop :=
 (∀x,(enc x).length=k)∧∃A c,v = .slice A l.length c∧l.length≤c∧(c≤maxLen∧(A=none→c=0))∧
  (l≠ []→∃b o cs t fz,A=some ⟨b,o,none⟩∧M b=some (.cells cs t fz)∧∀i x,l[i]? = some x→∀j u,(enc x)[j]? = some u→cs[o+i*k+j]? = some u)
section
variable {α : Type} {M M' : Mem} {kk : Nat} {enc : α → List Value} {v : Value} {l : List α}
theorem SlS.mono (h:SlS M kk enc v l)(hl:M.le M'):SlS M' kk enc v l:=by
 obtain⟨h0,A,c,hv,h1,h2,h3⟩:=h;refine⟨h0,A,c,hv,h1,h2,fun hne=>?_⟩;obtain⟨b,o,cs,t,fz,e1,e2,e3⟩:=h3 hne;exact⟨b,o,cs,t,fz,e1,hl _ _ e2,e3⟩
theorem SlS.one (h:SlS M kk enc v l):One v:=by
 obtain⟨_,A,c,rfl,_⟩:=h;exact One.slice _ _ _
theorem flat_at (h0 :∀x,(enc x).length=kk):∀(l:List α) (i j:Nat) (x:α) (u:Value),l[i]? = some x→(enc x)[j]? = some u→(l.flatMap enc)[i*kk+j]? = some u:=by
 intro l;induction l with
 | nil=>intro i j x u hi;simp at hi
 | cons y l ih =>
   intro i j x u hi hj;have hjl:j<kk:=by have:=(List.getElem?_eq_some_iff.1 hj).1;rw [h0] at this;exact this
   rw[l0t];cases i with
   | zero =>
     have:y=x:=by simpa using hi
     subst this;rw[Nat.zero_mul,l0n,List.getElem?_append_left (by rw[h0];exact hjl)];exact hj
   | succ i =>
     rw[List.getElem?_append_right (by rw[h0,l0V];omega),h0,show (i+1)*kk+j-kk=i*kk+j by rw[l0V];omega];exact ih i j x u (by simpa using hi) hj
theorem SlS.ofBlk {b:Nat}{t:TypeId}{fz:Nat × Nat}(h0 :∀x,(enc x).length=kk)(hl:l.length≤maxLen)(hb:M b=some (.cells (l.flatMap enc).toArray t fz)):SlS M kk enc (.slice (some ⟨b,0,none⟩) l.length l.length) l :=
 ⟨h0,some ⟨b,0,none⟩,l.length,rfl,l09 _,⟨hl,fun h=>by cases h⟩,fun _=>⟨b,0,_,t,fz,rfl,hb,fun i x hi j u hj=>by
  rw[l0n];simpa using flat_at h0 l i j x u hi hj⟩⟩
end
section
variable {C : Nat → Prop} {w0 w : World} {M0 M : Mem} {L L' : List Item}
theorem StX.freezeBlk {b:Nat}{cs:Array Value}{t:TypeId}(H:St w0 M0 M L w)(hr:Rem L (.blk b (.cells cs t)) L'):∃M',M.le M'∧M' b=some (.cells cs t)∧St w0 M0 M' L' w:=by
 have hb:=H.blk hr.mem;obtain⟨h1,h2⟩:=H.freeze hr rfl hb (((H.own _ hr.mem).2 b rfl).2.resolve_right (fun h=>h));exact⟨_,h1,by simp [Mem.set],h2⟩
end
section
variable {C : Nat → Prop} {r : Option Nat} {P : Program} {ops : Array Oper} {Q : Exit → Act → World → Prop} {n : Nat} {D : List Deferred} {rest : List Oper} {e : Env} {w0 w : World} {M0 M : Mem} {L L' : List Item} {d : Nat} {v u z : Value}
  {x y : Operand} {ty t ts t' : TypeId} {pos : String} {af : Array Edge} {g : Option (Nat × Bool)} {dst : Option Tmp} {α : Type} {kk : Nat} {enc : α → List Value} {l : List α}
theorem Ex.lenSlS (ht:P.underlying t=some (.slice t'))(h:SlS M kk enc v l)(hx:ev e x=some v):Ex P ⟨dst, .call ⟨.builtin .len,#[x],#[t]⟩,ty,pos,af,g⟩ e w (I l.length) w:=by
 obtain⟨_,A,c,rfl,_⟩:=h;exact q0L ht hx
abbrev _root_.q0K := @Ex.lenSlS
theorem Ex.loadAggM {b o s:Nat}{cs:List Value}(H:StX C w0 M0 M L w)(hx:ev e x=some (ptr b o))(hc:CellsM M ⟨b,o,none⟩ cs)(ha :∀w,(isAgg t).run P w = .ok true w)(hs :∀w,(sizeOf t).run P w = .ok s w)(hl:cs.length=s):
 Ex P ⟨dst, .load t x,ty,pos,af,g⟩ e w (.agg cs.toArray) w:=Ex.loadK hx (by
 subst hl;have hlc:(loadCells ⟨b,o,none⟩ cs.length).run P w = .ok cs.toArray w :=
  run_loadCells_list (P:=P) w ⟨b,o,none⟩ cs (fun j v hv=>by rw[Addr.add_lit];exact (hc.at hv).cell H.ag)
 simp only[loadVar,Sem.run_bind,ha,Result.andThen_ok,if_true,hs,hlc,Sem.run_pure])
abbrev _root_.q0T := @Ex.loadAggM
theorem Ex.buildArr {ps:List (Nat × Operand)}{vs:List (Nat × Value)}{len size:Nat}{t0:TypeId}(cs:List Value)(hu:P.underlying t=some (.array len t0))(hz :∀w,(zeroValue t).run P w = .ok z w)(hs :∀w,(sizeOf t0).run P w = .ok size w)
 (hp:evq e ps=some vs) (hfl:Instr.fill (fun i=>some (i*size,size)) z.cells vs=some cs.toArray):Ex P ⟨dst, .build t ps.toArray,ty,pos,af,g⟩ e w (.agg cs.toArray) w :=
 ⟨nofun,fun ρ hf=>by
  have h1:(ps.toArray.map fun x=>(x.1,ρ x.2)).toList=vs:=by simpa using hf.evq hp
  simp only[execOp,Instr.build,Sem.run_bind,hz,Result.andThen_ok,run_underlying hu,hs,h1,hfl,Sem.run_pure]⟩
theorem WR.callV {f:FuncId}{ar:List Operand}{vs cap:List Value}{tys:Array TypeId}{Pre:Mem→Prop}{R:Value→Mem→Prop}(H:StX C w0 M0 M L w)(hs:Ct P f (vs++cap) Pre R)(hx:ev e x=some (.func (.func f) #[] cap.toArray))(ha:evs e ar=some vs)(hp:Pre M)
 (hw:Wn ops n D e ⟨some d, .call ⟨.value x,ar.toArray,tys⟩,ty,pos,af,g⟩) (hn:Nat.blt d n=true)
 (k :∀v M' w',StX C w0 M0 M' L w'→M.le M'→R v M'→WR r P ops Q n D rest ((d,v)::e) w') :
 WR r P ops Q n D (⟨some d, .call ⟨.value x,ar.toArray,tys⟩,ty,pos,af,g⟩::rest) e w:=by
 intro a hsat;unfold wpListIn;rw[if_pos (hw a hsat)];refine⟨fun _ _=>trivial,?_⟩;rw[Oper.semAt_eq _ _ _ (fun c h=>by cases h)];have hv:ar.map a.eval=vs:=hsat.fits.evs ha;have hf:a.eval x = .func (.func f) #[] cap.toArray:=hsat.fits _ _ hx;have hrun:(execOp a.eval ⟨some d, .call ⟨.value x,ar.toArray,tys⟩,ty,pos,af,g⟩).run P w = .ok (.enter f (vs++cap).toArray) w:=by
  simp only[execOp,resolve,hf,Deferred.ofValue,Sem.run_bind,Sem.run_pure,Result.andThen_ok,invoke,l0k,hv,l1j,l04,hs.enters]
 rw[hrun,Oper.uponIn_enter];refine⟨fun h=>(by cases h),callsIn_Wd.2 ((hs.calls w M H.ag hp).mono ?_)⟩;rintro en w' ⟨rv,M',rfl,hx,hR⟩;exact k rv M' w' (H.call hx) hx.le hR _ (hsat.put (l06 hn) rv)
abbrev _root_.q1h := @WR.callV
end
end Go.Ph
end
section
namespace Go.Ph
open Go Go.RowKit
section
variable {C : Nat → Prop} {r : Option Nat} {P : Program} {ops : Array Oper} {Q : Exit → Act → World → Prop} {n : Nat} {D : List Deferred} {rest : List Oper} {e : Env} {w0 w : World} {M0 M : Mem} {L L' : List Item} {d : Nat} {v u : Value}
  {x y : Operand} {ty t ts t' tt : TypeId} {pos : String} {af : Array Edge} {g : Option (Nat × Bool)} {dst : Option Tmp} {α : Type} {enc : α → Value} {l : List α}
theorem StX.rowAt (H:StX C w0 M0 M L w)(hm:RowI t enc v l∈L){i:Nat}{a:α}(hi:l[i]? = some a):
 ∃gb cap cur,v = .slice (some ⟨gb,0,none⟩) l.length cap∧w.heap[gb]? = some (.cells cur t)∧l.length≤cap∧cur.size=cap∧cap≤maxLen∧cur.toList.take l.length=l.map enc:=by
 rcases(H.rowOf hm).2 with ⟨hv,hn⟩|⟨gb,cap,cur,hv,_,hg,hnc,hcm,hcs,htake⟩
 · rw[l05 hn] at hi;simp at hi
 exact⟨gb,cap,cur,hv,hg,hnc,by omega,hcm,by simpa using htake⟩
theorem WR.idxRow {i:Nat}{a:α}{k':IntKind}(H:StX C w0 M0 M L w)(ht:P.underlying ts=some (.slice t'))(hz :∀w,(sizeOf t').run P w = .ok 1 w)(hm:RowI t enc v l∈L)(hx:ev e x=some v)(hy:ev e y=some (.int k' (i:Int)))(hi:l[i]? = some a)
 (hw:Wn ops n D e ⟨some d, .indexAddr ts x y,ty,pos,af,g⟩) (hn:Nat.blt d n=true) (k :∀gb,v.ownBlock=some gb→WR r P ops Q n D rest ((d,ptr gb i)::e) w) :
 WR r P ops Q n D (⟨some d, .indexAddr ts x y,ty,pos,af,g⟩::rest) e w:=by
 obtain⟨gb,cap,cur,rfl,hg,h1,h2,h3,h4⟩:=H.rowAt hm hi;have hlt:=(List.getElem?_eq_some_iff.1 hi).1;refine q0I (v:=ptr gb i) (w':=w) ⟨nofun,fun ρ hfi=>?_⟩ hw rfl hn (k gb rfl);have h0:(0:Int)≤(i:Int)∧(i:Int)<(l.length:Int):=by omega
 simp only[execOp,hfi _ _ hx,hfi _ _ hy,Instr.indexAt,Sem.run_bind,asIntOf,run_underlying ht,Result.andThen_ok,Sem.run_pure,hz,h0,and_self,if_true,Addr.add_lit,l0f,l0x,l0n]
theorem Ex.loadRow {gb i:Nat}{a:α}(H:StX C w0 M0 M L w)(hx:ev e x=some (ptr gb i))(hg:v.ownBlock=some gb)(hm:RowI t enc v l∈L)(hi:l[i]? = some a)(ha :∀w,(isAgg tt).run P w = .ok false w):
 Ex P ⟨dst, .load tt x,ty,pos,af,g⟩ e w (enc a) w:=Ex.loadK hx (by
 obtain⟨gb',cap,cur,rfl,hgb,h1,h2,h3,h4⟩:=H.rowAt hm hi;obtain rfl:gb'=gb:=Option.some.inj hg;have hlt:=(List.getElem?_eq_some_iff.1 hi).1;have hc:w.cell? ⟨gb',i,none⟩=some (enc a):=by
  rw[cell_of_row w gb' i _ t _ hgb];have h5:(cur.toList.take l.length)[i]? = some (enc a):=by rw[h4,List.getElem?_map,hi];rfl
  rw[List.getElem?_take,if_pos hlt] at h5;simpa using h5
 simp only[loadVar,Sem.run_bind,ha,Result.andThen_ok,l0j,if_false];simp [load,Sem.run,hc])
theorem WR.storeRow {gb i:Nat}{a:α}{L':Item→List Item}(H:StX C w0 M0 M L w)(hx:ev e x=some (ptr gb i))(hy:ev e y=some (enc a))(ho:One (enc a))(hg:v.ownBlock=some gb)(hu :∀it',Upd L (RowI t enc v l) it' (L' it'))(hi:i<l.length)
 (hs :∀w,(sizeOf tt).run P w = .ok 1 w) (hw:Wn ops n D e ⟨none, .store tt x y,ty,pos,af,g⟩) (k :∀w',StX C w0 M0 M (L' (RowI t enc v (l.set i a))) w'→WR r P ops Q n D rest e w') :
 WR r P ops Q n D (⟨none, .store tt x y,ty,pos,af,g⟩::rest) e w:=by
 have hm:=(hu (RowI t enc v l)).mem;obtain⟨gb',cap,cur,rfl,hgb,h1,h2,h3,h4⟩:=H.rowAt hm (List.getElem?_eq_getElem hi);obtain rfl:gb'=gb:=Option.some.inj hg;have hrun:=run_storeVar (P:=P) (t:=tt) (v:=enc a) (o:=i) (s:=1) hgb hs (by rw[ho.1];rfl) Om (by rw[ho.1];simp [ho.2]);have hset:(cur.toList.take i++(enc a).cells.toList++cur.toList.drop (i+1)).toArray=(cur.toList.set i (enc a)).toArray:=by
  rw[ho.1,l1h,if_pos (by rw[Array.length_toList];omega)];simp
 rw[hset] at hrun;refine WR.stepS (w':=w.setRow gb' (cur.toList.set i (enc a)).toArray) ⟨nofun,fun ρ hf=>?_⟩ hw rfl (k _ (H.upd (hu _) (grownBy_setRow w gb' _) ?_ (fun b' hb' => .inl hb')))
 · simp only[execOp,hf _ _ hx,hf _ _ hy,Instr.storeAt,Instr.sureAddr,Sem.run_bind,Sem.run_pure,Result.andThen_ok,hrun]
 refine⟨by simp, .inr ⟨gb',cap,_,by simp,l0C _,setRow_heap w gb' cur _ t _ hgb,by simpa using h1,h3,by simp [h2],?_⟩⟩;simp only[l0Y,l0x];rw[List.take_set,h4,List.map_set]
end
end Go.Ph
end
section
namespace Go.Ph.Utf
open Go
def nat (l:Ls)(i:Nat):Nat:=(l.getD i 0).toNat
theorem nat_lt (l:Ls)(i:Nat):nat l i<256:=(l.getD i 0).toNat_lt
theorem nat_drop (l:Ls)(a i:Nat):nat (l.drop a) i=nat l (a+i):=by
 unfold nat;rw [l0m,l0m,List.getElem?_drop]
def kindOf (c:Nat):Nat × Nat × Nat :=
 if 192≤c∧c≤223 then(2,c-192,128) else if 224≤c∧c≤239 then(3,c-224,2048) else if 240≤c∧c≤247 then(4,c-240,65536) else(0,0,0)
def okC (x:Nat):Prop:=128≤x∧x≤191
instance (x : Nat):Decidable (okC x):=inferInstanceAs (Decidable (_∧_))
def cont (l:Ls)(n0:Nat):Nat→Option Nat
 | 0=>some n0
 | k+1=>match cont l n0 k with
   | none=>none
   | some n=>if okC (nat l (k+1)) then some (64*n+nat l (k+1)-128) else none
def badN (n least:Nat):Prop:=n<least∨n>1114111∨(55296≤n∧n≤57343)
instance (n least:Nat):Decidable (badN n least):=inferInstanceAs (Decidable (_∨_))
def rune (l:Ls):Int × Nat :=
 if nat l 0<128 then((nat l 0:Int),1)
 else if (kindOf (nat l 0)).1=0∨l.length<(kindOf (nat l 0)).1 then(-1,1)
 else match cont l (kindOf (nat l 0)).2.1 ((kindOf (nat l 0)).1-1) with
  | none=>(-1,1)
  | some n=>if badN n (kindOf (nat l 0)).2.2 then(-1,1) else((n:Int),(kindOf (nat l 0)).1)
def dr (l:Ls):Nat × Nat:=Lib.decodeN l.length (nat l 0) (nat l 1) (nat l 2) (nat l 3)
def chk (n least size:Nat):Int × Nat:=if badN n least then(-1,1) else((n:Int),size)
end Go.Ph.Utf
end
section
namespace Go.Ph
open Go Go.RowKit
abbrev yv (l:Nat):Value := .func (.yield l) #[] #[]
section
variable {C : Nat → Prop} {w0 w w' : World} {M0 M M' : Mem} {L L' A B : List Item}
theorem StX.perm (H:StX C w0 M0 M L w)(h:L.Perm L'):StX C w0 M0 M L' w :=
 ⟨H.ext,fun it hit=>H.own it (h.mem_iff.2 hit),H.sep.perm h (fun h=>Apart.symm h)⟩
theorem Spl.perm (h:Spl L A B):L.Perm (A++B):=by
 induction h with
 | nil=>exact .refl _
 | left _ ih=>exact ih.cons _
 | right _ ih=>exact(ih.cons _).trans List.perm_middle.symm
end
structure LoopRec (rc:LoopState→Option Code→Loop):Prop where
 state :∀s p,(rc s p).state=s
 pending :∀s p,(rc s p).pending=p
 setS :∀s p s',{rc s p with state:=s'}=rc s' p
 setP :∀s p s' p',{rc s p with state:=s',pending:=p'}=rc s' p'
structure IterCt {α:Type}(P:Program)(f:FuncId)(cap:List Value)(A:List Item)(Pre:Mem→Prop)(enc:α→Value)(xs:List α):Prop where
 enters :∀ar w,(callFunc f ar).run P w = .ok (.enter f ar) w
 calls :∀(l:Nat) (Z Zx:List α→List Item→Mem→Prop),(∀pre L M M',Z pre L M→M.le M'→Z pre L M')→
  (∀pre x L w M,(pre++[x]) <+: xs→Z pre L M→StX (feet L) w M M L w→YieldAt (Wd none) 0 P l #[enc x] w fun e w' =>∃M' L',StX (feet L) w M M' L' w'∧
   ((e = .returned (.bool true)∧Z (pre++[x]) L' M')∨(e = .returned (.bool false)∧Zx (pre++[x]) L' M')))→
  ∀L w M,Z [] L M→StX (feet (A++L)) w M M (A++L) w→Pre M→
  Calls P f (yv l::cap).toArray w fun e w' =>∃r M' L',e = .returned r∧StX (feet (A++L)) w M M' L' w'∧(Z xs L' M'∨∃pre,pre <+: xs∧Zx pre L' M')
section
variable {C : Nat → Prop} {r : Option Nat} {P : Program} {ops : Array Oper} {Q : Exit → Act → World → Prop} {n : Nat} {D : List Deferred} {rest : List Oper} {e : Env} {w0 w : World} {M0 M : Mem} {L B : List Item} {d : Nat}
  {x y : Operand} {ty t ts t' : TypeId} {pos : String} {af : Array Edge} {g : Option (Nat × Bool)} {α : Type} {enc : α → Value}
theorem WR.yield {l:Nat}{R:Ending→World→Prop}{v:Value}{tys:Array TypeId}(hY:YieldAt (Wd none) 0 P l #[v] w R)(hx:ev e x=some (yv l))(hy:ev e y=some v)
 (hw:Wn ops n D e ⟨some d, .call ⟨.value x,#[y],tys⟩,ty,pos,af,g⟩) (hn:Nat.blt d n=true)
 (k :∀en w',R en w'→∃b,en = .returned (.bool b)∧WR none P ops Q n D rest ((d, .bool b)::e) w') :
 WR none P ops Q n D (⟨some d, .call ⟨.value x,#[y],tys⟩,ty,pos,af,g⟩::rest) e w:=by
 intro a hsat;unfold wpListIn;rw[if_pos (hw a hsat)];refine⟨fun _ _=>trivial,?_⟩;rw[Oper.semAt_eq _ _ _ (fun c h=>by cases h)];obtain⟨fn,tmps,assign,body,hyr,hR⟩:=hY;have h1:=hsat.fits _ _ hx;have h2:=hsat.fits _ _ hy;have hrun:(execOp a.eval ⟨some d, .call ⟨.value x,#[y],tys⟩,ty,pos,af,g⟩).run P w = .ok (.round l fn tmps assign body) w:=by
  simp only[execOp,resolve,h1,Deferred.ofValue,Sem.run_bind,Sem.run_pure,Result.andThen_ok,invoke,l0k,l0i,l0y,h2,Array.empty_append,hyr]
 rw[hrun,Oper.uponIn_round];refine⟨fun h=>(by cases h),hR.mono ?_⟩;intro en w' hr;obtain⟨b,rfl,hk⟩:=k en w' hr;exact hk _ (hsat.put (l06 hn) _)
def asgPost (P:Program)(lid:Nat)(body:Code)(R:Ending→World→Prop):Exit→Act→World→Prop :=
 Exit.then (fun a₁ w₁ =>∃w₂,(Instr.beginRound lid).run P w₁ = .ok () w₂∧body.wpIn (Wd (some lid)) 0 P (roundPost P lid R) a₁ w₂) (fun _ _ _=>False)
theorem grownBy_putObj2 (w:World)(l:Nat)(o:Obj):w.grownBy (w.putObj l o) (some l):=⟨rfl,rfl,rfl,by simp,fun _ _ hk=>World.putObj_heap_other (fun e=>hk (by rw[e]))⟩
theorem StX.put {l:Nat}{o o':Obj}{L':List Item}(H:StX C w0 M0 M L w)(hu:Upd L (.blk l o) (.blk l o') L'):StX C w0 M0 M L' (w.putObj l o') :=
 H.upd hu (grownBy_putObj2 w l o') (World.putObj_heap_same (Array.getElem?_eq_some_iff.1 (H.blk hu.mem)).1) (fun _ h => .inl h)
theorem WQ.begin {lid:Nat}{rc:LoopState→Option Code→Loop}{body:Code}{R:Ending→World→Prop}{L':List Item}(hrc:LoopRec rc)(H:StX C w0 M0 M L w)(hu:Upd L (.blk lid (.loop (rc .ready none))) (.blk lid (.loop (rc .busy none))) L')
 (k :∀w',StX C w0 M0 M L' w'→WC (some lid) P (roundPost P lid R) n D body e w'):WQ (asgPost P lid body R) .normal n D e w:=fun a ha=>by
 have hb:=H.blk hu.mem;refine⟨_,run_beginRound hb (hrc.state _ _),k _ ?_ a ha⟩;rw[hrc.setS];exact H.put hu
def RR {α:Type}(Z Zx:List α→List Item→Mem→Prop)(L:List Item)(w:World)(M:Mem)(pre:List α)(en:Ending)(w':World):Prop :=
 ∃M' L',StX (feet L) w M M' L' w'∧((en = .returned (.bool true)∧Z pre L' M')∨(en = .returned (.bool false)∧Zx pre L' M'))
def Zr {α:Type}(lid:Nat)(rc:LoopState→Option Code→Loop)(Z:List α→List Item→Mem→Prop)(pre:List α)(L:List Item)(M:Mem):Prop :=∃L0,L = .blk lid (.loop (rc .ready none))::L0∧Z pre L0 M
def Zrx {α:Type}(lid:Nat)(rc:LoopState→Option Code→Loop)(Zx:Code→List α→List Item→Mem→Prop)(pre:List α)(L:List Item)(M:Mem):Prop :=∃L0 c,L = .blk lid (.loop (rc .done (some c)))::L0∧Zx c pre L0 M
variable {lid : Nat} {rc : LoopState → Option Code → Loop} {Z : List α → List Item → Mem → Prop} {Zx : Code → List α → List Item → Mem → Prop} {pre : List α} {w1 : World} {M1 : Mem} {Lh L0 : List Item}
abbrev mark (Dm:Nat):Deferred:={target := .collected Dm,args := #[]}
theorem WC.rangeFunc {Lall A:List Item}{f:FuncId}{cap:List Value}{Pre:Mem→Prop}{xs:List α}{gv:Operand}{p:Tmp}{assign body:Code}
 (H:StX C w0 M0 M Lall w) (hg:ev e gv=some (.func (.func f) #[] cap.toArray)) (hit:IterCt P f cap A Pre enc xs) (hs:Spl Lall (A++L) B) (hp:Pre M) (hpn:Nat.blt p n=true)
 (Z:List α→List Item→Mem→Prop) (Zx:Code→List α→List Item→Mem→Prop) (hZ :∀pre L M M',Z pre L M→M.le M'→Z pre L M') (hz:Z [] L M)
 (hbody :∀(lid:Nat) (rc:LoopState→Option Code→Loop),LoopRec rc→∀pre x L w M,(pre++[x]) <+: xs→Z pre L M→
  StX (feet (.blk lid (.loop (rc .ready none))::L)) w M M (.blk lid (.loop (rc .ready none))::L) w→
  WC (some lid) P (asgPost P lid body (RR (Zr lid rc Z) (Zrx lid rc Zx) (.blk lid (.loop (rc .ready none))::L) w M (pre++[x]))) n [] assign ((p,enc x)::e) w)
 (hdone :∀Dm w M' L',StX C w0 M0 M' (L'++(.blk Dm (.deferred (some []))::B)) w→M.le M'→Z xs L' M'→WQ Q .normal n (mark Dm::D) e w)
 (hstop :∀Dm w M' L' c pre,StX C w0 M0 M' (L'++(.blk Dm (.deferred (some []))::B)) w→M.le M'→pre <+: xs→Zx c pre L' M'→WC none P Q n (mark Dm::D) c e w) :
 WC none P Q n D (.rangeFunc gv #[p] assign body) e w:=by
 intro a ha;refine wpIn_rangeFunc (F:=Wd none) (n:=0) ?_;intro fn _;obtain⟨rc,hrcd⟩ :∃rc:LoopState→Option Code→Loop,rc=fun st pe=>{state:=st,pending:=pe,fn,tmps:=a.tmps,params := #[p],assign,body,defers:=w.heap.size}:=⟨_,rfl⟩
 have hrc:LoopRec rc:=by subst hrcd;exact ⟨fun _ _=>rfl,fun _ _=>rfl,fun _ _ _=>rfl,fun _ _ _ _=>rfl⟩
 have H1:StX C w0 M0 M (.blk w.heap.size (.deferred (some []))::Lall) (w.alloc (.deferred (some []))) :=
  H.new (grownBy_alloc' _ _) (World.alloc_heap_new w _) (fun b hb=>by cases hb;exact l09 _)
 have H2:StX C w0 M0 M (.blk (w.heap.size+1) (.loop (rc .ready none)) :: .blk w.heap.size (.deferred (some []))::Lall) ((w.alloc (.deferred (some []))).alloc (.loop (rc .ready none))) :=
  H1.new (grownBy_alloc' _ _) (by have:=World.alloc_heap_new (w.alloc (.deferred (some []))) (.loop (rc .ready none));rwa [World.size_alloc] at this) (fun b hb=>by cases hb;simp)
 obtain⟨W,hW⟩ :∃W,(w.alloc (.deferred (some []))).alloc (.loop (rc .ready none))=W:=⟨_,rfl⟩
 rw[hW] at H2;have hperm:(Item.blk (w.heap.size+1) (.loop (rc .ready none)) :: .blk w.heap.size (.deferred (some []))::Lall).Perm ((A++(.blk (w.heap.size+1) (.loop (rc .ready none))::L))++(.blk w.heap.size (.deferred (some []))::B)):=by
  have h1:Lall.Perm (A++L++B):=hs.perm;have h2:(A++(Item.blk (w.heap.size+1) (.loop (rc .ready none))::L)).Perm (.blk (w.heap.size+1) (.loop (rc .ready none))::(A++L)):=List.perm_middle;refine(((h1.cons _).trans List.perm_middle.symm).cons _).trans ?_;exact(h2.append_right _).symm
 have H3:=H2.perm hperm;refine⟨w.heap.size+1,[mark w.heap.size],W,{target := .fn (.func f) cap.toArray,args := #[yv (w.heap.size+1)]},W,f,(yv (w.heap.size+1)::cap).toArray,W,?_,?_,fun _ _=>trivial,?_,fun h=>(by cases h),?_⟩
 · rw[←hW,hrcd];exact run_enterLoop_outer _ _ _ _ _
 · have h1:=ha.fits _ _ hg;simp only[resolve,h1,Deferred.ofValue,Sem.run_pure,l0k,l0i,l0y,Array.empty_append];rfl
 · simp only[invoke,l1j,l03,l04,hit.enters]
 refine callsIn_Wd.2 ((hit.calls (w.heap.size+1) (Zr (w.heap.size+1) rc Z) (Zrx (w.heap.size+1) rc Zx) (fun pre L M M' ⟨L0,h1,h2⟩ hle=>⟨L0,h1,hZ _ _ _ _ h2 hle⟩) ?_ _ W M ⟨L,rfl,hz⟩ (H3.hand (Spl.append _ _)) hp).mono ?_)
 · rintro pre x L1 w1 M1 hpre ⟨L0,rfl,hz0⟩ Hs;have hl:=Hs.blk (List.Mem.head _);have hy:=run_yield (P:=P) (args := #[enc x]) hl (by rw[hrcd];rfl);refine⟨_,_,_,_,hy,roundIn_of_wpIn trivial ?_⟩;have hb:=hbody (w.heap.size+1) rc hrc pre x L0 w1 M1 hpre hz0 Hs;have hsat:Sat n [] ((p,enc x)::e) {tmps:=(((rc .ready none).params.zip #[enc x]).foldl (fun tmps (t,a)=>tmps.setIfInBounds t a) (rc .ready none).tmps),defers:=[]}:=by
    have h1:=Sat.put (D:=[]) (a:={tmps:=a.tmps,defers:=[]}) (e:=e) (n:=n) ⟨ha.size,rfl,ha.val⟩ (l06 hpn) (enc x);rw[hrcd];simpa [Act.put] using h1
   have:=hb _ hsat;rw[hrcd] at this ⊢;exact this
 rintro en w3 ⟨rv,M',L',rfl,Hs,hcase⟩;have Hb:=H3.back (Spl.append _ _) Hs;have hle:M.le M':=Hs.ext.le;have hd:Sat n (mark w.heap.size::D) e {a with defers:=[mark w.heap.size]++a.defers}:=⟨ha.size,by simp [ha.defers],ha.val⟩
 rcases hcase with ⟨L0,rfl,hz'⟩|⟨pre,hpre,L0,c,rfl,hz'⟩
 · have hl:=Hb.blk (List.Mem.head _);have hr:=run_endLoop (P:=P) hl (by rw[hrc.state];intro h;cases h);rw[hrc.setS,hrc.pending] at hr;have Hc:=(Hb.put (o' := .loop (rc .exhausted none)) .head).drop (l0I _ _);exact⟨none,_,hr,hdone _ _ M' L0 Hc hle hz' _ hd⟩
 have hl:=Hb.blk (List.Mem.head _);have hr:=run_endLoop (P:=P) hl (by rw[hrc.state];intro h;cases h);rw[hrc.setS,hrc.pending] at hr;have Hc:=(Hb.put (o' := .loop (rc .exhausted (some c))) .head).drop (l0I _ _);exact⟨some c,_,hr,hstop _ _ M' L0 c pre Hc hle hpre hz' _ hd⟩
theorem calls_of_WCM {f:FuncId}{fn:Func}{c:Code}{args:List Value}{R:Ending→World→Prop}
 (hf:P.funcs[f]? = some fn) (hb:fn.body=some c) (hnt:fn.ntmps=n) (hn:Nat.ble args.length n=true)
 (h:WC none P (bodyPostM (Wd none) 0 P fn R) n [] c (envOf 0 args) w):Calls P f args.toArray w R:=by
 refine callsIn_Wd.1 (callsIn_of_wp_marks (F:=Wd none) (n:=0) hf hb trivial ?_);subst hnt;exact h _ (Sat.init (l06 hn))
theorem Ct.ofM {f:FuncId}{fn:Func}{c:Code}{args:List Value}{Pre:Mem→Prop}{R:Value→Mem→Prop}
 (hf:P.funcs[f]? = some fn) (hen :∀ar w,(callFunc f ar).run P w = .ok (.enter f ar) w) (hb:fn.body=some c) (hnt:fn.ntmps=n) (hn:Nat.ble args.length n=true)
 (h :∀w M,St w M M [] w→Pre M→WC none P (bodyPostM (Wd none) 0 P fn (Ret w M R)) n [] c (envOf 0 args) w):Ct P f args Pre R :=
 ⟨hen,fun w M ha hp=>calls_of_WCM hf hb hnt hn (h w M (StX.start ha) hp)⟩
theorem leaves_nil {fn:Func}{tmps:Array Value}{R:Ending→World→Prop}{v:Value}(h:(results fn tmps).run P w = .ok v w)(hR:R (.returned v) w):LeavesInM (Wd none) 0 P fn tmps R [] .returning w:=by
 show LeavesIn _ _ _ _ _ _ _ _ _
 exact⟨_,h,hR⟩
theorem WQ.retM1 {fn:Func}{R:Ending→World→Prop}{Dm:Nat}{L':List Item}(H:StX C w0 M0 M L w)(hrm:Rem L (.blk Dm (.deferred (some []))) L')
 (k :∀w',StX C w0 M0 M L' w'→∃v,(∀a,Sat n [mark Dm] e a→(results fn a.tmps).run P w' = .ok v w')∧R (.returned v) w'):WQ (bodyPostM (Wd none) 0 P fn R) .ret n [mark Dm] e w:=fun a ha=>by
 show LeavesInM _ _ _ _ _ _ _ _ _
 rw[ha.defers];have hb:=H.blk hrm.mem;have hrun:=run_takeDeferred (P:=P) hb;have H':StX C w0 M0 M L' (w.putObj Dm (.deferred none)):=by
  have hit:=H.own _ hrm.mem;refine⟨H.ext.grown (grownBy_putObj2 w Dm _) (fun b hb=>hit.2 b hb),fun it hi=>?_,H.sep.sublist hrm.sublist⟩;have h2:=H.own it (hrm.sublist.subset hi);refine⟨h2.1.kept (fun b hb'=>World.putObj_heap_other (fun he=>?_)),h2.2⟩;subst he;exact hrm.pairs (R:=Apart) (fun x y h=>h.symm) H.sep it hi b rfl hb'
 obtain⟨v,h1,h2⟩:=k _ H';exact⟨by simp, .inl ⟨Dm,_,rfl,hrun,leaves_nil (h1 a ha) h2⟩⟩
theorem resv_run1 {fn:Func}{D:List Deferred}{x:ResultVar}{v:Value}(hr:fn.results = #[x])(h1:resv P w e x v):∀a,Sat n D e a→(results fn a.tmps).run P w = .ok v w :=
 fun a ha=>by rw[results_eq,hr];exact run_res1 _ (resv_run ha h1)
end
end Go.Ph
end
section
namespace Go.Ph
open Go Go.RowKit
theorem get_list (l:Ls)(i:Nat):((⟨l.toArray⟩:ByteArray).get! i).toNat=Utf.nat l i:=by
 unfold Utf.nat;show(l.toArray[i]!).toNat=_
 rw[List.getElem!_toArray,List.getElem!_eq_getElem?_getD,l0m];rfl
theorem decode_list (l:Ls)(i:Nat):Utf8.decode ⟨l.toArray⟩ i=Utf.dr (l.drop i):=by
 unfold Utf.dr;rw[Lib.decode_at,size_mk,get_list,get_list,get_list,get_list,l0a,Utf.nat_drop,Utf.nat_drop,Utf.nat_drop,Utf.nat_drop];rfl
section
variable {C : Nat → Prop} {r : Option Nat} {P : Program} {ops : Array Oper} {Q : Exit → Act → World → Prop} {n : Nat} {D : List Deferred} {rest : List Oper} {e : Env} {w0 w : World} {M0 M : Mem} {L L' : List Item} {d : Nat} {v u : Value}
  {x y : Operand} {ty t t' : TypeId} {pos : String} {af : Array Edge} {g : Option (Nat × Bool)} {dst : Option Tmp} {l : List UInt8}
theorem WR.rangeStr (H:StX C w0 M0 M L w)(ht:P.underlying t=some .string)(hx:ev e x=some (S l))(hw:Wn ops n D e ⟨some d, .range t x,ty,pos,af,g⟩)(hn:Nat.blt d n=true)
 (k :∀b w',StX C w0 M0 M (.blk b (.stringIter ⟨l.toArray⟩ 0)::L) w'→WR r P ops Q n D rest ((d,ptr b 0)::e) w'):WR r P ops Q n D (⟨some d, .range t x,ty,pos,af,g⟩::rest) e w:=by
 refine q0I (v:=ptr w.heap.size 0) (w':=w.alloc (.stringIter ⟨l.toArray⟩ 0)) ⟨nofun,fun ρ hf=>?_⟩ hw rfl hn (k _ _ (H.new (grownBy_alloc' _ _) (World.alloc_heap_new w _) (fun b hb=>by cases hb;exact l09 _)));simp only[execOp,hf _ _ hx,Instr.range,Sem.run_bind,run_underlying ht,Result.andThen_ok,Sem.run_pure];rfl
theorem WR.nextT {b ps:Nat}(H:StX C w0 M0 M L w)(hps:ps<l.length)(hx:ev e x=some (ptr b 0))(hu:Upd L (.blk b (.stringIter ⟨l.toArray⟩ ps)) (.blk b (.stringIter ⟨l.toArray⟩ (ps+(Utf.dr (l.drop ps)).2))) L')
 (hw:Wn ops n D e ⟨some d, .next x true,ty,pos,af,g⟩) (hn:Nat.blt d n=true)
 (k :∀w',StX C w0 M0 M L' w'→WR r P ops Q n D rest ((d, .tuple #[.bool true,I (ps:Int), .int .i32 ((Utf.dr (l.drop ps)).1:Int)])::e) w'):WR r P ops Q n D (⟨some d, .next x true,ty,pos,af,g⟩::rest) e w:=by
 have hb:=H.blk hu.mem;have hlt:=(Array.getElem?_eq_some_iff.1 hb).1;have hget:w.heap[b]'hlt = .stringIter ⟨l.toArray⟩ ps:=(Array.getElem?_eq_some_iff.1 hb).2;refine q0I (w':=w.putObj b (.stringIter ⟨l.toArray⟩ (ps+(Utf.dr (l.drop ps)).2))) ⟨nofun,fun ρ hf=>?_⟩ hw rfl hn (k _ (H.put hu));have hsz:ps<ByteArray.size ⟨l.toArray⟩:=by rw[size_mk];exact hps
 simp only[execOp,hf _ _ hx,Instr.next,Sem.run_bind,getObj,Sem.run,hb,Result.andThen_ok];simp [hsz,decode_list,setObj,hlt,hget,goInt,World.putObj,Sem.run]
theorem WR.nextF {b ps:Nat}(H:StX C w0 M0 M L w)(hps:l.length≤ps)(hx:ev e x=some (ptr b 0))(hm:Item.blk b (.stringIter ⟨l.toArray⟩ ps)∈L)
 (hw:Wn ops n D e ⟨some d, .next x true,ty,pos,af,g⟩) (hn:Nat.blt d n=true)
 (k:WR r P ops Q n D rest ((d, .tuple #[.bool false])::e) w):WR r P ops Q n D (⟨some d, .next x true,ty,pos,af,g⟩::rest) e w:=by
 have hb:=H.blk hm;refine q0I (w':=w) ⟨nofun,fun ρ hf=>?_⟩ hw rfl hn k;have hsz :¬ps<ByteArray.size ⟨l.toArray⟩:=by rw[size_mk];omega
 simp only[execOp,hf _ _ hx,Instr.next,Sem.run_bind,getObj,Sem.run,hb,Result.andThen_ok];simp [hsz]
end
end Go.Ph
end
section
namespace Go.Ph.Gr
open Go Go.Ph.Utf
def cls (n:Int):Int :=
 if n=13 then 1 else if n=10 then 2
 else if (0≤n∧n≤31)∨(127≤n∧n≤159) then 3
 else if (768≤n∧n≤879)∨(6832≤n∧n≤6911)∨(7616≤n∧n≤7679)∨(8400≤n∧n≤8447)∨(65024≤n∧n≤65039)∨(65056≤n∧n≤65071)∨(127995≤n∧n≤127999) then 4
 else if n=8205 then 5
 else if 127462≤n∧n≤127487 then 6
 else if 4352≤n∧n≤4447 then 7
 else if 4448≤n∧n≤4519 then 8
 else if 4520≤n∧n≤4607 then 9 else 0
def wid (n:Int):Bool:=decide ((4352≤n∧n≤4447)∨(11904≤n∧n≤42191)∨(44032≤n∧n≤55203)∨(63744≤n∧n≤64255)∨(65072≤n∧n≤65135)∨(65280≤n∧n≤65376)∨(65504≤n∧n≤65510)∨(127744≤n∧n≤129791)∨(131072≤n∧n≤262141))
abbrev Ch := Int × Ls
def charsF : Nat→Ls→List Ch
 | 0,_=>[]
 | f+1,l=>if l=[] then [] else((rune l).1,l.take (rune l).2)::charsF f (l.drop (rune l).2)
def chars (l:Ls):List Ch:=charsF l.length l
def anyW (l:Ls):Bool:=(chars l).any fun c=>wid c.1
def col (p:Ls):Int:=if 1≤cls (rune p).1∧cls (rune p).1≤5 then 0 else if cls (rune p).1=6 then 2 else if anyW p then 2 else 1
end Go.Ph.Gr
end
section
namespace Go.Ph.Gr
open Go Go.Ph.Utf
end Go.Ph.Gr
end
section
namespace Go.Ph.Chs
open Go Go.Ph.Utf Go.Ph.Gr
def lowB (c:UInt8):UInt8:=if 65≤c.toNat∧c.toNat≤90 then c+32 else c
def lower (l:Ls):Ls:=l.map lowB
theorem ub_eq {a:Int}{n:Nat}(h:a=(n:Int)):ub a=UInt8.ofNat n:=by
 subst h;apply UInt8.toNat_inj.1;have h1:=ub_toNat (n:Int);rw[UInt8.toNat_ofNat'];omega
def fixN (n:Int):Int:=if (0≤n∧n≤1114111)∧¬(55296≤n∧n≤57343) then n else 65533
def utf8M (m:Int):Ls :=
 if m<128 then [ub m]
 else if m<2048 then [ub (192+m / 64),ub (128+m % 64)]
 else if m<65536 then [ub (224+m / 4096),ub (128+m / 64 % 64),ub (128+m % 64)]
 else [ub (240+m / 262144),ub (128+m / 4096 % 64),ub (128+m / 64 % 64),ub (128+m % 64)]
def utf8 (n:Int):Ls:=utf8M (fixN n)
theorem fixN_ok (n:Int):0≤fixN n∧fixN n≤1114111∧¬(55296≤fixN n∧fixN n≤57343):=by
 unfold fixN;split <;> omega
theorem fixN_id {n:Int}(h0:0≤n)(h1:n≤1114111)(h2 :¬(55296≤n∧n≤57343)):fixN n=n:=by
 unfold fixN;rw [if_pos ⟨⟨h0,h1⟩,h2⟩]
theorem fixN_bad {n:Int}(h:n<0∨1114111<n∨(55296≤n∧n≤57343)):fixN n=65533:=by
 unfold fixN;rw [if_neg Om]
theorem valid_iff (n:Int):Utf8.valid n=true↔((0≤n∧n≤1114111)∧¬(55296≤n∧n≤57343)):=by
 unfold Utf8.valid;simp only[l1u,l0e,decide_eq_true_eq];omega
theorem encode_utf8 (n:Int):Utf8.encode n=⟨(utf8 n).toArray⟩:=by
 obtain⟨m,hm,hmb⟩ :∃m:Nat,fixN n=(m:Int)∧(if Utf8.valid n then n.toNat else Utf8.runeError)=m:=by
  by_cases h:(0≤n∧n≤1114111)∧¬(55296≤n∧n≤57343)
  · exact⟨n.toNat,by rw[fixN_id h.1.1 h.1.2 h.2];omega,by rw[if_pos ((valid_iff n).2 h)]⟩
  exact⟨65533,by rw[fixN_bad Om];rfl,by rw[if_neg (fun h'=>h ((valid_iff n).1 h'))];rfl⟩
 unfold Utf8.encode utf8 utf8M;simp only[hmb,hm];by_cases h1:m<128
 · have i1:(m:Int)<128:=by omega
   simp only[if_pos h1,if_pos i1,ub_eq (a:=(m:Int)) (n:=m) rfl]
 have i1 :¬(m:Int)<128:=by omega
 by_cases h2:m<2048
 · have i2:(m:Int)<2048:=by omega
   simp only[if_neg h1,if_neg i1,if_pos h2,if_pos i2,ub_eq (a:=192+(m:Int) / 64) (n:=192+m / 64) Om,ub_eq (a:=128+(m:Int) % 64) (n:=128+m % 64) Om]
 have i2 :¬(m:Int)<2048:=by omega
 by_cases h3:m<65536
 · have i3:(m:Int)<65536:=by omega
   simp only[if_neg h1,if_neg i1,if_neg h2,if_neg i2,if_pos h3,if_pos i3,ub_eq (a:=224+(m:Int) / 4096) (n:=224+m / 4096) Om,ub_eq (a:=128+(m:Int) / 64 % 64) (n:=128+m / 64 % 64) Om,ub_eq (a:=128+(m:Int) % 64) (n:=128+m % 64) Om]
 have i3 :¬(m:Int)<65536:=by omega
 simp only[if_neg h1,if_neg i1,if_neg h2,if_neg i2,if_neg h3,if_neg i3,ub_eq (a:=240+(m:Int) / 262144) (n:=240+m / 262144) Om,ub_eq (a:=128+(m:Int) / 4096 % 64) (n:=128+m / 4096 % 64) Om,ub_eq (a:=128+(m:Int) / 64 % 64) (n:=128+m / 64 % 64) Om,ub_eq (a:=128+(m:Int) % 64) (n:=128+m % 64) Om]
def encS (bound:Int)(c:Int):Option Ls:=if c<bound then some [ub c] else none
def hiS (c:Int):Int:=55296+(c-65536) / 1024
def pre (o:Ls):Except Nat Ls→Except Nat Ls
 | .error e => .error e
 | .ok bs => .ok (o++bs)
end Go.Ph.Chs
end
section
namespace Go.Ph
open Go Go.RowKit
abbrev SRow (g cap:Nat)(t:TypeId)(l:Ls):Item := .blk g (.cells (l.map encB++List.replicate (cap-l.length) (encB 0)).toArray t (cap,cap+1))
abbrev sv (g cap:Nat)(l:Ls):Value := .slice (some ⟨g,0,none⟩) l.length cap
theorem srow_at {l:Ls}{cap i:Nat}{c:UInt8}(hi:l[i]? = some c):(l.map encB++List.replicate (cap-l.length) (encB 0)).toArray[i]? = some (encB c):=by
 have hlt:=(List.getElem?_eq_some_iff.1 hi).1;rw[List.getElem?_toArray,List.getElem?_append_left (by simpa using hlt),List.getElem?_map,hi];rfl
section
variable {C : Nat → Prop} {r : Option Nat} {P : Program} {ops : Array Oper} {Q : Exit → Act → World → Prop} {n : Nat} {D : List Deferred} {rest : List Oper} {e : Env} {w0 w : World} {M0 M : Mem} {L L' : List Item} {d : Nat} {v u z : Value}
  {x y : Operand} {ty t t' te ts tt : TypeId} {pos : String} {af : Array Edge} {g : Option (Nat × Bool)} {dst : Option Tmp} {l : List UInt8}
theorem grownBy_bytes (w:World)(te:TypeId)(s:ByteArray):w.grownBy (Lib.bytesWorld w te s) none :=
 ⟨by simp [Lib.bytesWorld,World.freeze];rfl,by simp [Lib.bytesWorld,World.freeze],by simp [Lib.bytesWorld,World.freeze];rfl,by rw[Lib.bytesWorld_size];omega,fun k hk _=>Lib.bytesWorld_at_old w te s k hk⟩
theorem bytesCells_list (w:World)(te:TypeId)(l:Ls)(hc:l.length≤grownCap w l.length 0 te):Lib.bytesCells w te ⟨l.toArray⟩=(l.map encB++List.replicate (grownCap w l.length 0 te-l.length) (encB 0)).toArray∧(Lib.bytesCells w te ⟨l.toArray⟩).size=grownCap w l.length 0 te:=by
 have h1:Lib.bytesCells w te ⟨l.toArray⟩=(l.map encB++List.replicate (grownCap w l.length 0 te-l.length) (encB 0)).toArray:=by
  unfold Lib.bytesCells;rw[size_mk];apply Array.ext';simp
 refine⟨h1,?_⟩;rw[h1];simp;omega
theorem WR.toBytes {d0:TypeDesc}(H:StX C w0 M0 M L w)(hs:P.underlying t=some d0)(hd:P.underlying t'=some (.slice te))(he:P.underlying te=some (.int .u8))(hx:ev e x=some (S l))(hl:l.length≤maxLen)
 (hw:Wn ops n D e ⟨some d, .convert t t' x,ty,pos,af,g⟩) (hn:Nat.blt d n=true)
 (k :∀gb cap w',l.length≤cap→cap≤maxLen→StX C w0 M0 M (SRow gb cap te l::L) w'→WR r P ops Q n D rest ((d,sv gb cap l)::e) w'):WR r P ops Q n D (⟨some d, .convert t t' x,ty,pos,af,g⟩::rest) e w:=by
 have hc:=grownCap_ge w l.length 0 te;have hm:=grownCap_le_maxLen w l.length 0 te hl;obtain⟨h1,h2⟩:=bytesCells_list w te l hc;have hnew:=Lib.bytesWorld_at_new w te ⟨l.toArray⟩;rw[h2,h1] at hnew;refine q0I (w':=Lib.bytesWorld w te ⟨l.toArray⟩) (v:=sv w.heap.size (grownCap w l.length 0 te) l) ⟨nofun,fun ρ hf=>?_⟩ hw rfl hn (k _ _ _ hc hm (H.new (grownBy_bytes w te _) hnew (fun b hb=>by cases hb;exact l09 _)));have hr:=Lib.run_convert_string_bytes (P:=P) w t t' te ⟨l.toArray⟩ hs hd he;rw[size_mk] at hr;simp only[execOp,hf _ _ hx,Sem.run_bind,hr,Result.andThen_ok,Sem.run_pure]
theorem StX.freezeS {gb cap:Nat}(H:StX C w0 M0 M L w)(hr:Rem L (SRow gb cap t l) L')(hb:w0.heap.size≤gb)(h1:l.length≤cap)(h2:cap≤maxLen):∃M',M.le M'∧Bs M' (sv gb cap l) l∧StX C w0 M0 M' L' w:=by
 obtain⟨h3,h4⟩:=H.freeze hr rfl (H.blk hr.mem) hb;exact⟨_,h3,⟨_,cap,rfl,h1,⟨h2,fun h=>by cases h⟩,fun _=>⟨gb,0,_,t,_,rfl,by simp only[Mem.set,if_true];rfl,fun i x hi=>by rw[l0n];exact srow_at hi⟩⟩,h4⟩
theorem WR.bytesOf {d0:TypeDesc}(H:StX C w0 M0 M L w)(hs:P.underlying t=some d0)(hd:P.underlying t'=some (.slice te))(he:P.underlying te=some (.int .u8))(hx:ev e x=some (S l))(hl:l.length≤maxLen)
 (hw:Wn ops n D e ⟨some d, .convert t t' x,ty,pos,af,g⟩) (hn:Nat.blt d n=true)
 (k :∀v M' w',StX C w0 M0 M' L w'→M.le M'→Bs M' v l→WR r P ops Q n D rest ((d,v)::e) w'):WR r P ops Q n D (⟨some d, .convert t t' x,ty,pos,af,g⟩::rest) e w:=by
 have hc:=grownCap_ge w l.length 0 te;have hm:=grownCap_le_maxLen w l.length 0 te hl;obtain⟨h1,h2⟩:=bytesCells_list w te l hc;have hnew:=Lib.bytesWorld_at_new w te ⟨l.toArray⟩;rw[h2,h1] at hnew;have H1:StX C w0 M0 M (SRow w.heap.size (grownCap w l.length 0 te) te l::L) (Lib.bytesWorld w te ⟨l.toArray⟩):=H.new (grownBy_bytes w te _) hnew (fun b hb=>by cases hb;exact l09 _);obtain⟨M',hle,hB,H2⟩:=H1.freezeS .head H.base hc hm;refine q0I (w':=Lib.bytesWorld w te ⟨l.toArray⟩) (v:=sv w.heap.size (grownCap w l.length 0 te) l) ⟨nofun,fun ρ hf=>?_⟩ hw rfl hn (k _ _ _ H2 hle hB);have hr:=Lib.run_convert_string_bytes (P:=P) w t t' te ⟨l.toArray⟩ hs hd he;rw[size_mk] at hr;simp only[execOp,hf _ _ hx,Sem.run_bind,hr,Result.andThen_ok,Sem.run_pure]
theorem Ex.idxS {gb cap i nn:Nat}{k':IntKind}(ht:P.underlying t=some (.slice te))(hz :∀w,(sizeOf te).run P w = .ok 1 w)(hx:ev e x=some (.slice (some ⟨gb,0,none⟩) nn cap))(hy:ev e y=some (.int k' (i:Int)))(hi:i<nn):Ex P ⟨dst, .indexAddr t x y,ty,pos,af,g⟩ e w (ptr gb i) w :=
 ⟨nofun,fun ρ hfi=>by
  have h0:(0:Int)≤(i:Int)∧(i:Int)<(nn:Int):=by omega
  simp only[execOp,hfi _ _ hx,hfi _ _ hy,Instr.indexAt,Sem.run_bind,asIntOf,run_underlying ht,Result.andThen_ok,Sem.run_pure,hz,h0,and_self,if_true,Addr.add_lit,l0f,l0x,l0n]⟩
theorem Ex.loadS {gb cap i:Nat}{c:UInt8}(H:StX C w0 M0 M L w)(hx:ev e x=some (ptr gb i))(hm:SRow gb cap t l∈L)(hi:l[i]? = some c)(ha :∀w,(isAgg tt).run P w = .ok false w):Ex P ⟨dst, .load tt x,ty,pos,af,g⟩ e w (encB c) w:=Ex.loadK hx (by
 have hc:w.cell? ⟨gb,i,none⟩=some (encB c):=by rw[cell_of_row w gb i _ t _ (H.blk hm)];exact srow_at hi
 simp only[loadVar,Sem.run_bind,ha,Result.andThen_ok,l0j,if_false];simp [load,Sem.run,hc])
theorem run_storeOne {gb o:Nat}{cur:Array Value}{fz:Nat × Nat}(hg:w.heap[gb]? = some (.cells cur t fz))(ho:o<cur.size)(hfz:o<fz.1)(hs :∀w,(sizeOf tt).run P w = .ok 1 w)(hv:v.oneCell'=true)(hv':v.cells = #[v]):(storeVar tt ⟨gb,o,none⟩ v).run P w = .ok () (w.setRow gb (cur.setIfInBounds o v)):=by
 have hcell:w.cell? ⟨gb,o,none⟩=some cur[o]:=by simp [World.cell?,hg,ho]
 have hfro:w.frozen? ⟨gb,o,none⟩=false:=by
  obtain⟨lo,hi⟩:=fz;simp only[World.frozen?,hg,Bool.and_eq_false_iff,decide_eq_false_iff_not];left;simp only at hfz;omega
 have hst:(store ⟨gb,o,none⟩ v).run P w = .ok () (w.setRow gb (cur.setIfInBounds o v)):=by
  rw[run_store P w _ v _ hv,hcell];simp [hfro,setCell_eq_setRow w gb o cur t fz v hg]
 simp only[storeVar,Sem.run_bind,hs,Result.andThen_ok,hv'];simp [storeCells,Addr.add_lit,hst]
theorem WR.storeS {gb cap i:Nat}{c:UInt8}(H:StX C w0 M0 M L w)(hx:ev e x=some (ptr gb i))(hy:ev e y=some (encB c))(hu:Upd L (SRow gb cap t l) (SRow gb cap t (l.set i c)) L')(hi:i<l.length)(hc:l.length≤cap)(hs :∀w,(sizeOf tt).run P w = .ok 1 w)
 (hw:Wn ops n D e ⟨none, .store tt x y,ty,pos,af,g⟩) (k :∀w',StX C w0 M0 M L' w'→WR r P ops Q n D rest e w'):WR r P ops Q n D (⟨none, .store tt x y,ty,pos,af,g⟩::rest) e w:=by
 have hb:=H.blk hu.mem;have hrun:=run_storeOne (P:=P) (tt:=tt) (v:=encB c) (o:=i) hb (by simp;omega) (by simp only[];omega) hs rfl rfl;have hset:((l.map encB++List.replicate (cap-l.length) (encB 0)).toArray.setIfInBounds i (encB c))=((l.set i c).map encB++List.replicate (cap-(l.set i c).length) (encB 0)).toArray:=by
  rw[l0Y,List.map_set];apply Array.ext';simp [hi]
 rw[hset] at hrun;refine WR.stepS (w':=w.setRow gb ((l.set i c).map encB++List.replicate (cap-(l.set i c).length) (encB 0)).toArray) ⟨nofun,fun ρ hf=>?_⟩ hw rfl (k _ (H.upd hu (grownBy_setRow w gb _) (setRow_heap w gb _ _ t _ hb) (fun b' hb' => .inl hb')));simp only[execOp,hf _ _ hx,hf _ _ hy,Instr.storeAt,Instr.sureAddr,Sem.run_bind,Sem.run_pure,Result.andThen_ok,hrun]
theorem Ex.toStrS {gb cap nn:Nat}(ht:P.underlying t=some (.slice te))(he:P.underlying te=some (.int .u8))(hd:P.underlying ts=some .string)(H:StX C w0 M0 M L w)(hm:SRow gb cap t' l∈L)(hnn:nn=l.length)(hx:ev e x=some (.slice (some ⟨gb,0,none⟩) nn cap)):
 Ex P ⟨dst, .convert t ts x,ty,pos,af,g⟩ e w (S l) w :=
 ⟨nofun,fun ρ hfi=>by
  subst hnn;have hr:=run_convert_bytes_back (P:=P) w t ts te ⟨gb,0,none⟩ cap l ht he hd (fun j hj=>by
   rw[Addr.add_lit,l0n,cell_of_row w gb j _ t' _ (H.blk hm),srow_at (List.getElem?_eq_getElem hj)])
  simp only[execOp,hfi _ _ hx,Sem.run_bind,hr,Result.andThen_ok,Sem.run_pure]⟩
theorem WR.litS {α:Type}{enc:α→List Value}{ps:List (Nat × Operand)}{vs:List (Nat × Value)}{bytes len kk:Nat}(T:ElemTy P ts t z kk bytes)(l:List α)(H:StX C w0 M0 M L w)(h0 :∀a,(enc a).length=kk)(hp:evq e ps=some vs)
 (hfl:Instr.fill (fun i=>some (i*kk,kk)) ((Array.range (len*kk)).map (z.cells[· % z.cells.size]!)) vs=some (l.flatMap enc).toArray) (hlen:l.length=len) (hbig:Nat.ble (len*kk) 16777216=true) (hnz:Nat.blt 0 (len*kk)=true)
 (hw:Wn ops n D e ⟨some d, .buildSlice ts len ps.toArray,ty,pos,af,g⟩) (hn:Nat.blt d n=true)
 (k :∀v M' w',StX C w0 M0 M' L w'→M.le M'→SlS M' kk enc v l→WR r P ops Q n D rest ((d,v)::e) w') :
 WR r P ops Q n D (⟨some d, .buildSlice ts len ps.toArray,ty,pos,af,g⟩::rest) e w:=by
 have hbig:=l06 hbig;have hnz:=l06 hnz;obtain⟨i,hi,hz,hsz,_⟩:=T.info;have hs:(sizeOf t).run P w = .ok kk w:=by simp [sizeOf,typeInfo,hi,hsz]
 have hzv:(zeroValue t).run P w = .ok z w:=by simp [zeroValue,typeInfo,hi,hz]
 have H1:=H.new (it := .blk w.heap.size (.cells (l.flatMap enc).toArray t)) (grownBy_alloc' w (.cells (l.flatMap enc).toArray t)) (heap_alloc_new w _) (fun b hb=>by cases hb;exact l09 _);obtain⟨h2,h3⟩:=H1.freeze .head rfl (heap_alloc_new w _) H.base;have hll:l.length≤maxLen:=by
  have:len≤len*kk:=l1z _ T.pos;simp only[maxLen];omega
 refine q0I (w':=w.alloc (.cells (l.flatMap enc).toArray t)) (v := .slice (some ⟨w.heap.size,0,none⟩) len len) ⟨nofun,fun ρ hf=>?_⟩ hw rfl hn (k _ _ _ h3 h2 (by rw[←hlen];exact SlS.ofBlk (t:=t) (fz:=(0,0)) h0 hll (by simp [Mem.set])));have h1:(ps.toArray.map fun x=>(x.1,ρ x.2)).toList=vs:=by simpa using hf.evq hp
 have hnb :¬(len*kk>2 ^ 24):=by omega
 have h00 :¬(len*kk=0):=by omega
 simp only[execOp,Instr.buildSlice,Sem.run_bind,run_underlying T.under,Result.andThen_ok,hs,hnb,if_false,h00,hzv,Sem.run_pure,h1,hfl];rfl
abbrev _root_.q0Y := @WR.litS
end
end Go.Ph
end
section
namespace Go.Ph
open Go Go.RowKit
def Kept (ops:Array Oper)(a a':Act):Prop:=a'.defers=a.defers∧a'.tmps.size=a.tmps.size∧∀t:Nat,(∀(i:Nat) o,ops[i]? = some o→o.dst≠some t)→a'.tmps.getD t undef=a.tmps.getD t undef
def noP (ops:Array Oper)(Q:Exit→Act→World→Prop):Exit→Act→World→Prop
 | .panic ch,a,w =>∀a':Act,Kept ops a a'→Q (.panic ch) a' w
 | x,a,w=>Q x a w
theorem noP_le {ops:Array Oper}{Q:Exit→Act→World→Prop}{x:Exit}{a:Act}{w:World}(h:noP ops Q x a w):Q x a w:=by
 cases x <;> first|exact h|exact h a ⟨rfl,rfl,fun _ _=>rfl⟩
theorem put_defers (a:Act)(o:Option Tmp)(v:Value):(a.put o v).defers=a.defers:=by cases o <;> rfl
theorem noP_put {ops:Array Oper}{Q:Exit→Act→World→Prop}{i:Nat}{o:Oper}{v:Value}{c:List PanicEntry}{a:Act}{w:World}(ho:ops[i]? = some o)(h:noP ops Q (.panic c) (a.put o.dst v) w):noP ops Q (.panic c) a w:=fun a' h'=>by
 refine h a' ⟨by rw[h'.1,put_defers],?_,fun t ht=>?_⟩
 · rw[h'.2.1];cases o.dst <;> simp [Act.put]
 rw[h'.2.2 t ht];have hne:=ht i o ho;cases hd:o.dst with
 | none=>rfl
 | some d =>
   have:d≠t:=fun h=>hne (by rw[hd,h])
   simp [Act.put,Array.getD_eq_getD_getElem?,this]
def WA (r:Option Nat)(P:Program)(ops:Array Oper)(Q:Exit→Act→World→Prop)(n:Nat)(D:List Deferred)(fuel:Nat)(listed:Array Bool)(e:Env)(w:World):Prop :=
 ∀a,Sat n D e a→wpAnyIn (Wd r) 0 P .any ops (noP ops Q) fuel listed a w
abbrev Qa (r:Option Nat)(P:Program)(ops:Array Oper)(Q:Exit→Act→World→Prop)(fuel:Nat)(listed:Array Bool):Exit→Act→World→Prop :=
 Exit.then (wpAnyIn (Wd r) 0 P .any ops (noP ops Q) fuel listed) (noP ops Q)
section
variable {C : Nat → Prop} {r : Option Nat} {P : Program} {ops : Array Oper} {Q : Exit → Act → World → Prop} {n fuel i j k : Nat} {D : List Deferred} {e : Env} {w0 w : World} {M0 M : Mem} {L : List Item} {listed : Array Bool} {o o2 o3 : Oper} {v : Value} {d : Nat}
theorem grownBy_drawn (w:World):w.grownBy {w with drawn:=w.drawn+1} none:=⟨rfl,rfl,rfl,l09 _,fun _ _ _=>rfl⟩
theorem WC.draw {id m:Nat}{l:List Oper}(hm:P.follows .mixedOrders=true)(hl:l.length=m)(H:StX C w0 M0 M L w)
 (k :∀w',StX C w0 M0 M L w'→WA r P l.toArray Q n D m (Array.replicate m false) e w'):WC r P Q n D (.region id l.toArray true) e w:=fun a ha=>by
 refine wpIn_mono (wpIn_region_any hm ?_:(Code.region id l.toArray true).wpIn (Wd r) 0 P (noP l.toArray Q) a w) (fun _ _ _=>noP_le);have:=k _ (H.grow (grownBy_drawn w)) a ha;subst hl;simpa using this
abbrev _root_.q0H := @WC.draw
theorem WQ.any (k:WA r P ops Q n D fuel listed e w):WQ (Qa r P ops Q fuel listed) .normal n D e w:=fun a ha=>k a ha
theorem WA.done (hr:Region.ready .any ops listed=[])(k:WQ Q .normal n D e w):WA r P ops Q n D fuel listed e w:=fun a ha=>wpAnyIn_done (Q:=noP ops Q) hr (k a ha) fuel
abbrev _root_.q08 := @WA.done
theorem WA.op (ho:ops[i]? = some o)(k:WR r P ops (Qa r P ops Q fuel listed) n D [o] e w){a:Act}(ha:Sat n D e a):wpOpIn (Wd r) 0 P ops (noP ops Q) i (wpAnyIn (Wd r) 0 P .any ops (noP ops Q) fuel listed) a w:=by
 have h:=k a ha;unfold wpOpIn;rw[ho];simp only[wpListIn] at h ⊢;exact h
theorem WA.one (hr:Region.ready .any ops listed=[i])(ho:ops[i]? = some o)(k:WR r P ops (Qa r P ops Q fuel (listed.setIfInBounds i true)) n D [o] e w):WA r P ops Q n D (fuel+1) listed e w:=fun a ha =>
 wpAnyIn_all hr Sm fun x hx=>by
  obtain rfl:x=i:=by simpa using hx
  exact WA.op ho k ha
theorem WA.two (hr:Region.ready .any ops listed=[i,j])(ho:ops[i]? = some o)(ho2:ops[j]? = some o2)(k:WR r P ops (Qa r P ops Q fuel (listed.setIfInBounds i true)) n D [o] e w)(k2:WR r P ops (Qa r P ops Q fuel (listed.setIfInBounds j true)) n D [o2] e w):WA r P ops Q n D (fuel+1) listed e w:=fun a ha =>
 wpAnyIn_all hr Sm fun x hx=>by
  rcases List.mem_cons.1 hx with rfl|hx
  · exact WA.op ho k ha
  obtain rfl:x=j:=by simpa using hx
  exact WA.op ho2 k2 ha
abbrev _root_.q0t := @WA.two
theorem WA.three (hr:Region.ready .any ops listed=[i,j,k])(ho:ops[i]? = some o)(ho2:ops[j]? = some o2)(ho3:ops[k]? = some o3)(k1:WR r P ops (Qa r P ops Q fuel (listed.setIfInBounds i true)) n D [o] e w)(k2:WR r P ops (Qa r P ops Q fuel (listed.setIfInBounds j true)) n D [o2] e w)(k3:WR r P ops (Qa r P ops Q fuel (listed.setIfInBounds k true)) n D [o3] e w):WA r P ops Q n D (fuel+1) listed e w:=fun a ha =>
 wpAnyIn_all hr Sm fun x hx=>by
  rcases List.mem_cons.1 hx with rfl|hx
  · exact WA.op ho k1 ha
  rcases List.mem_cons.1 hx with rfl|hx
  · exact WA.op ho2 k2 ha
  obtain rfl:x=k:=by simpa using hx
  exact WA.op ho3 k3 ha
abbrev _root_.q1d := @WA.three
theorem wanted_g {j t:Nat}{b:Bool}(hg:o.guard=some (j,!b))(hj:(ops[j]?).bind (·.dst)=some t)(hb:get e t=some (.bool b)):∀a,Sat n D e a→Region.wanted o (yielded ops a.tmps)=false:=fun a ha=>by
 have:=yielded_of hj ha hb;cases b <;> simp [Region.wanted,hg,this]
theorem WA.takeN (ho:ops[i]? = some o)(hs:Region.noSelect ops=true)(hf:Region.free .any ops listed i=true)(hr:(Region.ready .any ops listed).contains i=true)(hw :∀a,Sat n D e a→Region.wanted o (yielded ops a.tmps)=false)(hd:o.dst=some d)(hn:Nat.blt d n=true)
 (hab :∀w ρ,o.about P w ρ=none) (k:WA none P ops Q n D fuel (listed.setIfInBounds i true) ((d,undef)::e) w):WA none P ops Q n D (fuel+1) listed e w:=fun a ha=>by
 refine wpAnyIn_take (oi:=o) (v:=undef) rfl ho hs hf hr (fun _ _ _ h=>noP_put ho h) ⟨.inr ⟨hw a ha,rfl⟩,fun w=>hab w _⟩ ?_;rw[hd];exact k _ (ha.put (l06 hn) undef)
theorem WA.take (ho:ops[i]? = some o)(hs:Region.noSelect ops=true)(hf:Region.free .any ops listed i=true)(hr:(Region.ready .any ops listed).contains i=true)(hx :∀w,Ex P o e w v w)(hw:Wn ops n D e o)(hd:o.dst=some d)(hn:Nat.blt d n=true)
 (hab :∀w ρ,o.about P w ρ=none) (k:WA none P ops Q n D fuel (listed.setIfInBounds i true) ((d,v)::e) w):WA none P ops Q n D (fuel+1) listed e w:=fun a ha=>by
 refine wpAnyIn_take (oi:=o) (v:=v) rfl ho hs hf hr (fun _ _ _ h=>noP_put ho h) ⟨.inl ⟨hw a ha,fun w=>(hx w).2 _ ha.fits⟩,fun w=>hab w _⟩ ?_;rw[hd];exact k _ (ha.put (l06 hn) v)
abbrev _root_.q0F := @WA.take
theorem WA.takeE {v':Value}(ho:ops[i]? = some o)(hs:Region.noSelect ops=true)(hf:Region.free .any ops listed i=true)(hr:(Region.ready .any ops listed).contains i=true)(hx :∀w,Ex P o e w v w)(hv:v=v')(hw:Wn ops n D e o)(hd:o.dst=some d)(hn:Nat.blt d n=true)
 (hab :∀w ρ,o.about P w ρ=none) (k:WA none P ops Q n D fuel (listed.setIfInBounds i true) ((d,v')::e) w):WA none P ops Q n D (fuel+1) listed e w:=by
 subst hv;exact WA.take ho hs hf hr hx hw hd hn hab k
theorem WA.takeT {p:Prop}[Decidable p](ho:ops[i]? = some o)(hs:Region.noSelect ops=true)(hf:Region.free .any ops listed i=true)(hr:(Region.ready .any ops listed).contains i=true)(hx :∀w,Ex P o e w (.bool (decide p)) w)(h:p)(hw:Wn ops n D e o)(hd:o.dst=some d)(hn:Nat.blt d n=true)
 (hab :∀w ρ,o.about P w ρ=none) (k:WA none P ops Q n D fuel (listed.setIfInBounds i true) ((d, .bool true)::e) w):WA none P ops Q n D (fuel+1) listed e w :=
 WA.takeE ho hs hf hr hx (by rw[decide_eq_true h]) hw hd hn hab k
theorem WA.takeF {p:Prop}[Decidable p](ho:ops[i]? = some o)(hs:Region.noSelect ops=true)(hf:Region.free .any ops listed i=true)(hr:(Region.ready .any ops listed).contains i=true)(hx :∀w,Ex P o e w (.bool (decide p)) w)(h :¬p)(hw:Wn ops n D e o)(hd:o.dst=some d)(hn:Nat.blt d n=true)
 (hab :∀w ρ,o.about P w ρ=none) (k:WA none P ops Q n D fuel (listed.setIfInBounds i true) ((d, .bool false)::e) w):WA none P ops Q n D (fuel+1) listed e w :=
 WA.takeE ho hs hf hr hx (by rw[decide_eq_false h]) hw hd hn hab k
theorem WA.split {p:Prop}[Decidable p](ho:ops[i]? = some o)(hs:Region.noSelect ops=true)(hf:Region.free .any ops listed i=true)(hr:(Region.ready .any ops listed).contains i=true)(hx :∀w,Ex P o e w (.bool (decide p)) w)(hw:Wn ops n D e o)(hd:o.dst=some d)(hn:Nat.blt d n=true)
 (hab :∀w ρ,o.about P w ρ=none) (kt:p→WA none P ops Q n D fuel (listed.setIfInBounds i true) ((d, .bool true)::e) w) (kf :¬p→WA none P ops Q n D fuel (listed.setIfInBounds i true) ((d, .bool false)::e) w):WA none P ops Q n D (fuel+1) listed e w:=by
 by_cases h:p
 · exact WA.takeT ho hs hf hr hx h hw hd hn hab (kt h)
 exact WA.takeF ho hs hf hr hx h hw hd hn hab (kf h)
end
end Go.Ph
end
section
namespace Go.Ph
open Go Go.RowKit Pl
section
variable {r : Option Nat} {P : Program} {Q : Exit → Act → World → Prop} {n : Nat} {D : List Deferred} {e : Env} {w : World}
theorem WC.cutP {x:Code}(J:Env→World→Prop)(hx:WC r P (Exit.then (fun a' w' =>∃e',Sat n D e' a'∧J e' w') Q) n D x e w)(hy :∀e' w',J e' w'→WQ Q .normal n D e' w'):WC r P Q n D x e w :=
 fun a ha=>wpIn_mono (hx a ha) fun ex a' w' h=>by
  cases ex with
  | normal=>obtain⟨e',hs,hJ⟩:=h;exact hy e' w' hJ a' hs
  | _=>exact h
abbrev _root_.q1f := @WC.cutP
theorem WQ.meetP {J:Env→World→Prop}{Q':Exit→Act→World→Prop}(e':Env)(hs:Sub e' e)(hJ:J e' w):
 WQ (Exit.then (fun a' w' =>∃e',Sat n D e' a'∧J e' w') Q') .normal n D e w:=fun _ ha=>⟨e',ha.sub hs,hJ⟩
theorem WC.loopP {c:Code}(J:Nat→Env→World→Prop)(m0:Nat)(e0:Env)(hs:Sub e0 e)(h0:J m0 e0 w)
 (round :∀m e w,J m e w→WC r P (Exit.then (fun a' w' =>∃m' e',Sat n D e' a'∧J m' e' w'∧m'<m) Q) n D c e w):WC r P Q n D (.loop c) e w :=
 WC.loop (ι:=Nat × Env) (fun p=>p.2) (fun p=>J p.1 p.2) (fun p=>p.1) (m0,e0) hs h0 fun p w hp a ha=>wpIn_mono (round p.1 p.2 w hp a ha) fun ex a' w' h=>by
  cases ex with
  | normal=>obtain⟨m',e',h1,h2,h3⟩:=h;exact ⟨⟨m',e'⟩,h1,h2,h3⟩
  | _=>exact h
abbrev _root_.q0y := @WC.loopP
theorem WQ.againP {J:Nat→Env→World→Prop}{m:Nat}{Q':Exit→Act→World→Prop}(m':Nat)(e':Env)(hs:Sub e' e)(hJ:J m' e' w)(hm:m'<m):
 WQ (Exit.then (fun a' w' =>∃m' e',Sat n D e' a'∧J m' e' w'∧m'<m) Q') .normal n D e w:=fun _ ha=>⟨m',e',ha.sub hs,hJ,hm⟩
end
abbrev encBo (b:Bool):Value := .bool b
theorem SlS.nil {α:Type}{kk:Nat}(M:Mem)(enc:α→List Value)(h :∀x,(enc x).length=kk):SlS M kk enc (.slice none 0 0) []:=⟨h,none,0,rfl,by simp,⟨by simp [maxLen],fun _=>rfl⟩,fun h=>absurd rfl h⟩
abbrev _root_.q1e := @SlS.nil
inductive Pick : List Item→List Item→Prop
 | nil {L:List Item}:Pick L []
 | cons {L L1 L':List Item} {it:Item} (h:Rem L it L1) (k:Pick L1 L'):Pick L (it::L')
theorem Pick.sub {L L':List Item}(h:Pick L L'):∀it∈L',it∈L:=by
 induction h with
 | nil=>intro it h;cases h
 | cons h k ih => intro it hit;rcases List.mem_cons.1 hit with rfl|hit
                  · exact h.mem
                  exact h.sublist.subset (ih it hit)
theorem StX.pick {C:Nat→Prop}{w0 w:World}{M0 M:Mem}{L L':List Item}(H:StX C w0 M0 M L w)(h:Pick L L'):StX C w0 M0 M L' w:=by
 refine⟨H.ext,fun it hit=>H.own it (h.sub it hit),?_⟩;have hs:=H.sep;clear H;induction h with
 | nil=>exact List.Pairwise.nil
 | cons h k ih=>exact List.pairwise_cons.2 ⟨fun y hy=>h.pairs (R:=Apart) (fun x y h=>h.symm) hs y (k.sub y hy),ih (hs.sublist h.sublist)⟩
theorem of_not_decide {p:Prop}[Decidable p](h:(!decide p)=true):¬p:=by simpa using h
theorem of_not_decide' {p:Prop}[Decidable p](h:(!decide p)=false):p:=by simpa using h
section
variable {P : Program} {e : Env} {w w' : World} {x y c : Operand} {v u : Value} {dst : Option Tmp} {ty t t' : TypeId} {pos : String} {af : Array Edge} {g : Option (Nat × Bool)} {k : IntKind} {a b z : Int} {l m s : List UInt8}
theorem Ex.addC (h1:ev e x=some (I a))(h2:ev e y=some (I b))(hz:chk (a+b)=some z):Ex P ⟨dst, .binOp .add t x y t',ty,pos,af,g⟩ e w (I z) w:=by
 obtain⟨h,rfl⟩:=chk_some hz;exact Ex.add64 h1 h2 h
abbrev _root_.q0l := @Ex.addC
theorem Ex.subC (h1:ev e x=some (I a))(h2:ev e y=some (I b))(hz:chk (a-b)=some z):Ex P ⟨dst, .binOp .sub t x y t',ty,pos,af,g⟩ e w (I z) w:=by
 obtain⟨h,rfl⟩:=chk_some hz;exact Ex.sub64 h1 h2 h
abbrev _root_.q0W := @Ex.subC
theorem Ex.mulC (h1:ev e x=some (I a))(h2:ev e y=some (I b))(hz:chk (a*b)=some z):Ex P ⟨dst, .binOp .mul t x y t',ty,pos,af,g⟩ e w (I z) w:=by
 obtain⟨h,rfl⟩:=chk_some hz;exact Ex.mul64 h1 h2 h
theorem wrap_u8_nat (n:Nat):IntKind.u8.wrap (n:Int)=((n % 256:Nat):Int):=by rw[IntKind.wrap_u8];omega
theorem Ex.addB {c d:UInt8}(h1:ev e x=some (encB c))(h2:ev e y=some (encB d)):Ex P ⟨dst, .binOp .add t x y t',ty,pos,af,g⟩ e w (encB (c+d)) w:=by
 have:=Ex.add (P:=P) (w:=w) (dst:=dst) (ty:=ty) (t:=t) (t':=t') (pos:=pos) (af:=af) (g:=g) h1 h2;rwa [show IntKind.u8.wrap ((c.toNat:Int)+(d.toNat:Int))=(((c+d).toNat:Nat):Int) by
  rw[show (c.toNat:Int)+(d.toNat:Int)=((c.toNat+d.toNat:Nat):Int) by omega,wrap_u8_nat,UInt8.toNat_add]] at this
theorem Ex.subB {c d:UInt8}(h1:ev e x=some (encB c))(h2:ev e y=some (encB d)):Ex P ⟨dst, .binOp .sub t x y t',ty,pos,af,g⟩ e w (encB (c-d)) w:=by
 have:=Ex.sub (P:=P) (w:=w) (dst:=dst) (ty:=ty) (t:=t) (t':=t') (pos:=pos) (af:=af) (g:=g) h1 h2;have h3:=c.toNat_lt;have h4:=d.toNat_lt;rwa [show IntKind.u8.wrap ((c.toNat:Int)-(d.toNat:Int))=(((c-d).toNat:Nat):Int) by
  rw[IntKind.wrap_u8,UInt8.toNat_sub];omega] at this
theorem Ex.lssB {i j:Nat}(h1:ev e x=some (.int .u8 (i:Int)))(h2:ev e y=some (.int .u8 (j:Int))):Ex P ⟨dst, .binOp .lss t x y t',ty,pos,af,g⟩ e w (.bool (decide (i<j))) w:=by
 have:=q0v (P:=P) (w:=w) (dst:=dst) (ty:=ty) (t:=t) (t':=t') (pos:=pos) (af:=af) (g:=g) h1 h2;rwa [show decide ((i:Int)<(j:Int))=decide (i<j) from decide_eq_decide.2 Om] at this
theorem Ex.leqB {i j:Nat}(h1:ev e x=some (.int .u8 (i:Int)))(h2:ev e y=some (.int .u8 (j:Int))):Ex P ⟨dst, .binOp .leq t x y t',ty,pos,af,g⟩ e w (.bool (decide (i≤j))) w:=by
 have:=q0X (P:=P) (w:=w) (dst:=dst) (ty:=ty) (t:=t) (t':=t') (pos:=pos) (af:=af) (g:=g) h1 h2;rwa [show decide ((i:Int)≤(j:Int))=decide (i≤j) from decide_eq_decide.2 Om] at this
abbrev _root_.q0G := @Ex.leqB
theorem Ex.gtrB {i j:Nat}(h1:ev e x=some (.int .u8 (i:Int)))(h2:ev e y=some (.int .u8 (j:Int))):Ex P ⟨dst, .binOp .gtr t x y t',ty,pos,af,g⟩ e w (.bool (decide (j<i))) w:=by
 have:=q0A (P:=P) (w:=w) (dst:=dst) (ty:=ty) (t:=t) (t':=t') (pos:=pos) (af:=af) (g:=g) h1 h2;rwa [show decide ((j:Int)<(i:Int))=decide (j<i) from decide_eq_decide.2 Om] at this
theorem Ex.geqB {i j:Nat}(h1:ev e x=some (.int .u8 (i:Int)))(h2:ev e y=some (.int .u8 (j:Int))):Ex P ⟨dst, .binOp .geq t x y t',ty,pos,af,g⟩ e w (.bool (decide (j≤i))) w:=by
 have:=q1c (P:=P) (w:=w) (dst:=dst) (ty:=ty) (t:=t) (t':=t') (pos:=pos) (af:=af) (g:=g) h1 h2;rwa [show decide ((j:Int)≤(i:Int))=decide (j≤i) from decide_eq_decide.2 Om] at this
abbrev _root_.q0B := @Ex.geqB
theorem u8_eq {c d:UInt8}:((c.toNat:Int)=(d.toNat:Int))↔c=d:=⟨fun h=>UInt8.toNat_inj.1 Om,fun h=>by rw[h]⟩
theorem Ex.eqlB {c d:UInt8}(h1:ev e x=some (encB c))(h2:ev e y=some (encB d)):Ex P ⟨dst, .binOp .eql t x y t',ty,pos,af,g⟩ e w (.bool (decide (c=d))) w:=by
 have:=q0j (P:=P) (w:=w) (dst:=dst) (ty:=ty) (t:=t) (t':=t') (pos:=pos) (af:=af) (g:=g) h1 h2;rwa [show decide ((c.toNat:Int)=(d.toNat:Int))=decide (c=d) from decide_eq_decide.2 u8_eq] at this
abbrev _root_.q0R := @Ex.eqlB
theorem Ex.neqB {c d:UInt8}(h1:ev e x=some (encB c))(h2:ev e y=some (encB d)):Ex P ⟨dst, .binOp .neq t x y t',ty,pos,af,g⟩ e w (.bool (!decide (c=d))) w:=by
 have:=Ex.neq (P:=P) (w:=w) (dst:=dst) (ty:=ty) (t:=t) (t':=t') (pos:=pos) (af:=af) (g:=g) h1 h2;rwa [show decide ((c.toNat:Int)≠(d.toNat:Int)) = !decide (c=d) by rw[←decide_not];exact decide_eq_decide.2 (not_congr u8_eq)] at this
theorem Ex.neqC (h1:ev e x=some (.int k a))(h2:ev e y=some (.int k b)):Ex P ⟨dst, .binOp .neq t x y t',ty,pos,af,g⟩ e w (.bool (!decide (a=b))) w:=by
 have:=Ex.neq (P:=P) (w:=w) (dst:=dst) (ty:=ty) (t:=t) (t':=t') (pos:=pos) (af:=af) (g:=g) h1 h2;rwa [show decide (a≠b) = !decide (a=b) by rw[←decide_not]] at this
abbrev _root_.q0s := @Ex.neqC
theorem Ex.convU8C {d0:TypeDesc}(hs:P.underlying t=some d0)(hd:P.underlying t'=some (.int .u8))(h:ev e x=some (.int k a)):Ex P ⟨dst, .convert t t' x,ty,pos,af,g⟩ e w (encB (ub8 a)) w:=Ex.convU8 hs hd h
theorem Ex.strNeqC (h1:ev e x=some (S l))(h2:ev e y=some (S m)):Ex P ⟨dst, .binOp .neq t x y t',ty,pos,af,g⟩ e w (.bool (!decide (l=m))) w:=by
 have:=Ex.strNeq (P:=P) (w:=w) (dst:=dst) (ty:=ty) (t:=t) (t':=t') (pos:=pos) (af:=af) (g:=g) h1 h2;rwa [show decide (l≠m) = !decide (l=m) by rw[←decide_not]] at this
abbrev _root_.q0n := @Ex.strNeqC
theorem Ex.strAddC (h1:ev e x=some (S l))(h2:ev e y=some (S m))(hs:cat l m=some s):Ex P ⟨dst, .binOp .add t x y t',ty,pos,af,g⟩ e w (S s) w:=by
 obtain⟨h,rfl⟩:=cat_some hs;exact Ex.strAdd h1 h2 h
abbrev _root_.q0r := @Ex.strAddC
theorem Ex.idxStrC {c:UInt8}{i:Int}(ht:P.underlying t=some .string)(h:ev e x=some (S l))(h2:ev e y=some (.int k i))(hi:idx l i=some c):Ex P ⟨dst, .index t x y,ty,pos,af,g⟩ e w (encB c) w:=by
 obtain⟨h0,hc⟩:=idx_some hi;exact Ex.idxStr (i:=i.toNat) ht h (by rw[h2,l0h h0]) hc
abbrev _root_.q0J := @Ex.idxStrC
theorem Ex.sliceC {i j:Int}{o1 o2:Operand}(ht:P.underlying t=some .string)(h:ev e x=some (S l))(h1:ev e o1=some (I i))(h2:ev e o2=some (I j))(hs:cut l i j=some s):Ex P ⟨dst, .slice t x (some o1) (some o2) none,ty,pos,af,g⟩ e w (S s) w:=by
 obtain⟨⟨a1,a2,a3⟩,rfl⟩:=cut_some hs;exact Ex.sliceStr ht h (.inl ⟨_,rfl,by rw[h1,l0h a1]⟩) (.inl ⟨_,rfl,by rw[h2,l0h Om]⟩) Om Om
theorem Ex.sliceL {i:Int}{o1:Operand}(ht:P.underlying t=some .string)(h:ev e x=some (S l))(h1:ev e o1=some (I i))(hs:cut l i (l.length:Int)=some s):Ex P ⟨dst, .slice t x (some o1) none none,ty,pos,af,g⟩ e w (S s) w:=by
 obtain⟨⟨a1,a2,a3⟩,rfl⟩:=cut_some hs;exact Ex.sliceStr ht h (.inl ⟨_,rfl,by rw[h1,l0h a1]⟩) (.inr ⟨rfl,rfl⟩) Om Om
theorem Ex.sliceH {j:Int}{o2:Operand}(ht:P.underlying t=some .string)(h:ev e x=some (S l))(h2:ev e o2=some (I j))(hs:cut l 0 j=some s):Ex P ⟨dst, .slice t x none (some o2) none,ty,pos,af,g⟩ e w (S s) w:=by
 obtain⟨⟨a1,a2,a3⟩,rfl⟩:=cut_some hs;exact Ex.sliceStr ht h (.inr ⟨rfl,rfl⟩) (.inl ⟨_,rfl,by rw[h2,l0h Om]⟩) Om Om
end
section
variable {C : Nat → Prop} {r : Option Nat} {P : Program} {ops : Array Oper} {Q : Exit → Act → World → Prop} {n : Nat} {D : List Deferred} {rest : List Oper} {e : Env} {w0 w : World} {M0 M : Mem} {L L' : List Item} {d : Nat} {v u z : Value}
  {x y : Operand} {ty t ts t' te : TypeId} {pos : String} {af : Array Edge} {g : Option (Nat × Bool)} {dst : Option Tmp} {α : Type} {enc : α → Value} {l l2 l3 : List α}
theorem WR.idxRowC {i:Int}{a:α}{k':IntKind}(H:StX C w0 M0 M L w)(ht:P.underlying ts=some (.slice t'))(hz :∀w,(sizeOf t').run P w = .ok 1 w)(hm:RowI t enc v l∈L)(hx:ev e x=some v)(hy:ev e y=some (.int k' i))(hi:idx l i=some a)
 (hw:Wn ops n D e ⟨some d, .indexAddr ts x y,ty,pos,af,g⟩) (hn:Nat.blt d n=true) (k :∀gb,v.ownBlock=some gb→WR r P ops Q n D rest ((d,ptr gb i.toNat)::e) w) :
 WR r P ops Q n D (⟨some d, .indexAddr ts x y,ty,pos,af,g⟩::rest) e w:=by
 obtain⟨h0,hc⟩:=idx_some hi;exact WR.idxRow (i:=i.toNat) H ht hz hm hx (by rw[hy,l0h h0]) hc hw hn k
abbrev _root_.q1p := @WR.idxRowC
theorem Ex.loadRowC {tt:TypeId}{gb:Nat}{i:Int}{a:α}(H:StX C w0 M0 M L w)(hx:ev e x=some (ptr gb i.toNat))(hg:v.ownBlock=some gb)(hm:RowI t enc v l∈L)(hi:idx l i=some a)(ha :∀w,(isAgg tt).run P w = .ok false w):
 Ex P ⟨dst, .load tt x,ty,pos,af,g⟩ e w (enc a) w:=Ex.loadRow H hx hg hm (idx_some hi).2 ha
theorem WR.storeRowC {tt:TypeId}{gb:Nat}{i:Int}{a:α}{L':Item→List Item}(H:StX C w0 M0 M L w)(hx:ev e x=some (ptr gb i.toNat))(hy:ev e y=some (enc a))(ho:One (enc a))(hg:v.ownBlock=some gb)(hu :∀it',Upd L (RowI t enc v l) it' (L' it'))(hi:put l i a=some l2)
 (hs :∀w,(sizeOf tt).run P w = .ok 1 w) (hw:Wn ops n D e ⟨none, .store tt x y,ty,pos,af,g⟩) (k :∀w',StX C w0 M0 M (L' (RowI t enc v l2)) w'→WR r P ops Q n D rest e w') :
 WR r P ops Q n D (⟨none, .store tt x y,ty,pos,af,g⟩::rest) e w:=by
 obtain⟨h0,rfl⟩:=put_some hi;exact WR.storeRow H hx hy ho hg hu Om hs hw k
theorem WR.sliceC {i j:Int}{o1 o2:Operand}(ht:P.underlying t=some (.slice t'))(hz :∀w,(sizeOf t').run P w = .ok 1 w)(h:Sl M enc v l)(hx:ev e x=some v)(h1:ev e o1=some (I i))(h2:ev e o2=some (I j))(hs:cut l i j=some l2)
 (hw:Wn ops n D e ⟨some d, .slice t x (some o1) (some o2) none,ty,pos,af,g⟩) (hn:Nat.blt d n=true) (k :∀v',Sl M enc v' l2→WR r P ops Q n D rest ((d,v')::e) w) :
 WR r P ops Q n D (⟨some d, .slice t x (some o1) (some o2) none,ty,pos,af,g⟩::rest) e w:=by
 obtain⟨⟨a1,a2,a3⟩,rfl⟩:=cut_some hs;exact WR.sliceSl ht hz h hx (.inl ⟨_,rfl,by rw[h1,l0h a1]⟩) (.inl ⟨_,rfl,by rw[h2,l0h Om]⟩) Om Om hw hn k
theorem WR.sliceL {i:Int}{o1:Operand}(ht:P.underlying t=some (.slice t'))(hz :∀w,(sizeOf t').run P w = .ok 1 w)(h:Sl M enc v l)(hx:ev e x=some v)(h1:ev e o1=some (I i))(hs:cut l i (l.length:Int)=some l2)
 (hw:Wn ops n D e ⟨some d, .slice t x (some o1) none none,ty,pos,af,g⟩) (hn:Nat.blt d n=true) (k :∀v',Sl M enc v' l2→WR r P ops Q n D rest ((d,v')::e) w) :
 WR r P ops Q n D (⟨some d, .slice t x (some o1) none none,ty,pos,af,g⟩::rest) e w:=by
 obtain⟨⟨a1,a2,a3⟩,rfl⟩:=cut_some hs;exact WR.sliceSl ht hz h hx (.inl ⟨_,rfl,by rw[h1,l0h a1]⟩) (.inr ⟨rfl,rfl⟩) Om Om hw hn k
theorem WR.sliceH {j:Int}{o2:Operand}(ht:P.underlying t=some (.slice t'))(hz :∀w,(sizeOf t').run P w = .ok 1 w)(h:Sl M enc v l)(hx:ev e x=some v)(h2:ev e o2=some (I j))(hs:cut l 0 j=some l2)
 (hw:Wn ops n D e ⟨some d, .slice t x none (some o2) none,ty,pos,af,g⟩) (hn:Nat.blt d n=true) (k :∀v',Sl M enc v' l2→WR r P ops Q n D rest ((d,v')::e) w) :
 WR r P ops Q n D (⟨some d, .slice t x none (some o2) none,ty,pos,af,g⟩::rest) e w:=by
 obtain⟨⟨a1,a2,a3⟩,rfl⟩:=cut_some hs;exact WR.sliceSl ht hz h hx (.inr ⟨rfl,rfl⟩) (.inl ⟨_,rfl,by rw[h2,l0h Om]⟩) Om Om hw hn k
theorem short_of {a b w:Nat}(hw:0<w)(h:(a+b)*w≤lim w):a+b≤maxLen:=by
 have:=lim_le w;have:(a+b)*1≤(a+b)*w:=Nat.mul_le_mul_left _ hw;simp only[maxLen];omega
theorem WR.appC {bytes:Nat}{L':Item→List Item}(T:ElemTy P ts t z 1 bytes)(hbp:Nat.blt 0 bytes=true)(h1 :∀a,(enc a).oneCell'=true)(H:StX C w0 M0 M L w)(hx:ev e x=some v)(hu :∀it',Upd L (RowI t enc v l) it' (L' it'))(hy:ev e y=some u)
 (hs:Sl M enc u l2) (ha:app bytes l l2=some l3)
 (hw:Wn ops n D e ⟨some d, .call ⟨.builtin .append,#[x,y],#[ts,ts]⟩,ty,pos,af,g⟩) (hn:Nat.blt d n=true)
 (k :∀v' w',StX C w0 M0 M (L' (RowI t enc v' l3)) w'→WR r P ops Q n D rest ((d,v')::e) w') :
 WR r P ops Q n D (⟨some d, .call ⟨.builtin .append,#[x,y],#[ts,ts]⟩,ty,pos,af,g⟩::rest) e w:=by
 obtain⟨h,rfl⟩:=app_some ha;exact WR.appendSl T h1 H hx hu hy hs h (short_of (l06 hbp) h) hw hn k
abbrev _root_.q1g := @WR.appC
theorem WR.appStrC {l l2 l3:Ls}{tx:TypeId}{L':Item→List Item}(T:ElemTy P ts t z 1 1)(ht:P.underlying tx=some .string)(H:StX C w0 M0 M L w)(hx:ev e x=some v)(hu :∀it',Upd L (RowI t encB v l) it' (L' it'))(hy:ev e y=some (S l2))
 (ha:app 1 l l2=some l3)
 (hw:Wn ops n D e ⟨some d, .call ⟨.builtin .append,#[x,y],#[ts,tx]⟩,ty,pos,af,g⟩) (hn:Nat.blt d n=true)
 (k :∀v' w',StX C w0 M0 M (L' (RowI t encB v' l3)) w'→WR r P ops Q n D rest ((d,v')::e) w') :
 WR r P ops Q n D (⟨some d, .call ⟨.builtin .append,#[x,y],#[ts,tx]⟩,ty,pos,af,g⟩::rest) e w:=by
 obtain⟨h,rfl⟩:=app_some ha;exact WR.appendStr T ht H hx hu hy (by unfold lim at h;rw [if_pos rfl] at h;omega) hw hn k
abbrev _root_.q0P := @WR.appStrC
theorem WR.bytesC {d0:TypeDesc}{l m:Ls}(H:StX C w0 M0 M L w)(hs:P.underlying t=some d0)(hd:P.underlying t'=some (.slice te))(he:P.underlying te=some (.int .u8))(hx:ev e x=some (S l))(hl:toB l=some m)
 (hw:Wn ops n D e ⟨some d, .convert t t' x,ty,pos,af,g⟩) (hn:Nat.blt d n=true)
 (k :∀v M' w',StX C w0 M0 M' L w'→M.le M'→Bs M' v m→WR r P ops Q n D rest ((d,v)::e) w'):WR r P ops Q n D (⟨some d, .convert t t' x,ty,pos,af,g⟩::rest) e w:=by
 obtain⟨h,rfl⟩:=toB_some hl;exact WR.bytesOf H hs hd he hx (by simp only[maxLen];exact h) hw hn k
end
end Go.Ph
end
section
namespace Go.Ph
open Go Go.RowKit Pl
def lk : List (Nat × (Env→World→Prop))→Nat→Option (Env→World→Prop)
 | [],_=>none
 |(j,J)::l,i=>bif Nat.beq i j then some J else lk l i
def CutX (JN:Env→World→Prop)(JL:List (Nat × (Env→World→Prop)))(n:Nat)(D:List Deferred)(Q:Exit→Act→World→Prop):Exit→Act→World→Prop
 | .normal,a,w =>∃e',Sat n D e' a∧JN e' w
 | .exit id,a,w=>match lk JL id with
   | some J =>∃e',Sat n D e' a∧J e' w
   | none=>Q (.exit id) a w
 | x,a,w=>Q x a w
def AllX (Q:Exit→Act→World→Prop)(n:Nat)(D:List Deferred):List (Nat × (Env→World→Prop))→Prop
 | []=>True
 |(k,J)::l=>(∀e' w',J e' w'→WQ Q (.exit k) n D e' w')∧AllX Q n D l
section
variable {r : Option Nat} {P : Program} {Q : Exit → Act → World → Prop} {n : Nat} {D : List Deferred} {e : Env} {w : World} {JL : List (Nat × (Env → World → Prop))} {JN : Env → World → Prop}
theorem AllX.at {i:Nat}{J:Env→World→Prop}:∀{JL:List (Nat × (Env→World→Prop))},AllX Q n D JL→lk JL i=some J→∀e' w',J e' w'→WQ Q (.exit i) n D e' w'
 | [],_,h=>by cases h
 | (j,K)::l,ha,h=>by
   unfold lk at h;cases hb:Nat.beq i j with
   | true =>
     rw[hb] at h;have hij:i=j:=l0q hb;subst hij;have hk:K=J:=Option.some.inj h;subst hk;exact ha.1
   | false=>rw[hb] at h;exact AllX.at ha.2 h
theorem WC.cutX {x:Code}(JN:Env→World→Prop)(JL:List (Nat × (Env→World→Prop)))(hx:WC r P (CutX JN JL n D Q) n D x e w)(hy :∀e' w',JN e' w'→WQ Q .normal n D e' w')(hz:AllX Q n D JL):WC r P Q n D x e w :=
 fun a ha=>wpIn_mono (hx a ha) fun ex a' w' h=>by
  cases ex with
  | normal=>obtain⟨e',hs,hJ⟩:=h;exact hy e' w' hJ a' hs
  | exit id =>
    simp only[CutX] at h;split at h
    · rename_i J hJ;obtain⟨e',hs,h1⟩:=h;exact hz.at hJ e' w' h1 a' hs
    exact h
  | _=>exact h
abbrev _root_.q0e := @WC.cutX
theorem WQ.meetN {Q':Exit→Act→World→Prop}(e':Env)(hs:Sub e' e)(hJ:JN e' w):WQ (CutX JN JL n D Q') .normal n D e w:=fun _ ha=>⟨e',ha.sub hs,hJ⟩
theorem WQ.meetX {Q':Exit→Act→World→Prop}{id:Nat}{J:Env→World→Prop}(hl:lk JL id=some J)(e':Env)(hs:Sub e' e)(hJ:J e' w):WQ (CutX JN JL n D Q') (.exit id) n D e w:=fun a ha=>by
 simp only[CutX,hl];exact⟨e',ha.sub hs,hJ⟩
end
def Straight (Q:Exit→Act→World→Prop):Exit→Act→World→Prop
 | .goto _,_,_=>False
 | x,a,w=>Q x a w
section
variable {r : Option Nat} {P : Program} {Q : Exit → Act → World → Prop} {n : Nat} {D : List Deferred} {e : Env} {w : World}
theorem stepR_scope' {b:Frame}{a:Act}{k:List Go.Item}{cs:List Frame}{c:Code}:step P (lone (b.atR a (.code (.scope c)::k)) cs w) = .next (lone (b.atR a (.code c :: .inScope c::k)) cs w):=step_lone_go (by simp [stepG,stepG.exec,Frame.atR])
theorem stepR_inScope' {b:Frame}{a:Act}{k:List Go.Item}{cs:List Frame}{c:Code}:step P (lone (b.atR a (.inScope c::k)) cs w) = .next (lone (b.atR a k) cs w):=step_lone_go (by simp [stepG,stepG.exec,Frame.atR])
theorem WC.scope {c:Code}(h:WC r P (Straight Q) n D c e w):WC r P Q n D (.scope c) e w:=by
 intro a ha b k cs hro hb hr;have h0:(lone (b.atR a (.code (.scope c)::k)) cs w).fenced P (Wd r):=fenced_calm hb hr rfl;obtain⟨ex,a₁,w₁,hq,harr⟩:=h a ha b (.inScope c::k) cs hro hb hr;cases ex with
 | normal=>exact⟨.normal,a₁,w₁,hq, .head h0 stepR_scope' (StepsIn.trans harr (.one (fenced_calm hb hr rfl) stepR_inScope'))⟩
 | exit id =>
   have hx:exitTo id (.inScope c::k)=exitTo id k:=by simp [exitTo]
   exact⟨.exit id,a₁,w₁,hq,fun k' hk => .head h0 stepR_scope' (harr.1 k' (by rw[hx];exact hk)),
    fun hr' hk=>let ⟨k₁,h1,h2⟩:=harr.2 hr' (by rw[hx];exact hk);⟨k₁,h1, .head h0 stepR_scope' h2⟩⟩
 | goto l=>exact hq.elim
 | ret=>exact⟨_,a₁,w₁,hq, .of_steps (.one h0 stepR_scope') harr⟩
 | panic ch=>exact⟨_,a₁,w₁,hq, .of_steps (.one h0 stepR_scope') harr⟩
 | outgrown=>exact⟨_,a₁,w₁,hq, .of_steps (.one h0 stepR_scope') harr⟩
theorem WQ.sc (k:WQ Q .normal n D e w):WQ (Straight Q) .normal n D e w:=fun a ha=>k a ha
theorem WQ.scRet (k:WQ Q .ret n D e w):WQ (Straight Q) .ret n D e w:=fun a ha=>k a ha
end
def SOK (M:Mem)(l:Ls)(nn cap:Nat):Prop:=l.length=nn∧nn≤cap∧cap≤maxLen
theorem SOK.mono {M M':Mem}{l:Ls}{nn cap:Nat}(h:SOK M l nn cap)(hl:M.le M'):SOK M' l nn cap:=h
theorem SOK.put {M:Mem}{l l2:Ls}{nn cap:Nat}{i:Int}{c:UInt8}(h:SOK M l nn cap)(hp:put l i c=some l2):SOK M l2 nn cap:=by
 obtain⟨_,rfl⟩:=put_some hp;exact⟨by rw[l0Y];exact h.1,h.2⟩
section
variable {C : Nat → Prop} {r : Option Nat} {P : Program} {ops : Array Oper} {Q : Exit → Act → World → Prop} {n : Nat} {D : List Deferred} {rest : List Oper} {e : Env} {w0 w : World} {M0 M : Mem} {L L' : List Item} {d : Nat} {v u z : Value}
  {x y : Operand} {ty t t' te ts tt : TypeId} {pos : String} {af : Array Edge} {g : Option (Nat × Bool)} {dst : Option Tmp} {l l2 m : List UInt8} {gb cap nn : Nat}
theorem WR.toBytesC {d0:TypeDesc}(H:StX C w0 M0 M L w)(hs:P.underlying t=some d0)(hd:P.underlying t'=some (.slice te))(he:P.underlying te=some (.int .u8))(hx:ev e x=some (S l))(hl:toB l=some m)
 (hw:Wn ops n D e ⟨some d, .convert t t' x,ty,pos,af,g⟩) (hn:Nat.blt d n=true)
 (k :∀gb cap w',SOK M m m.length cap→StX C w0 M0 M (SRow gb cap te m::L) w'→WR r P ops Q n D rest ((d, .slice (some ⟨gb,0,none⟩) m.length cap)::e) w'):WR r P ops Q n D (⟨some d, .convert t t' x,ty,pos,af,g⟩::rest) e w:=by
 obtain⟨h,rfl⟩:=toB_some hl;exact WR.toBytes H hs hd he hx (by simp only[maxLen];exact h) hw hn fun gb cap w' h1 h2 H'=>k gb cap w' ⟨rfl,h1,h2⟩ H'
theorem Ex.lenSOK (ht:P.underlying t=some (.slice t'))(h:SOK M l nn cap)(hx:ev e x=some (.slice (some ⟨gb,0,none⟩) nn cap)):Ex P ⟨dst, .call ⟨.builtin .len,#[x],#[t]⟩,ty,pos,af,g⟩ e w (I l.length) w:=by
 rw[h.1];exact q0L ht hx
theorem Ex.idxSC {i:Int}{a:UInt8}{k':IntKind}(ht:P.underlying t=some (.slice te))(hz :∀w,(sizeOf te).run P w = .ok 1 w)(h:SOK M l nn cap)(hx:ev e x=some (.slice (some ⟨gb,0,none⟩) nn cap))(hy:ev e y=some (.int k' i))(hi:idx l i=some a):Ex P ⟨dst, .indexAddr t x y,ty,pos,af,g⟩ e w (ptr gb i.toNat) w:=by
 have h1:=idx_lt hi;have h2:=h.1;exact Ex.idxS ht hz hx (by rw[hy,l0h h1.1]) Om
theorem Ex.loadSC {i:Int}{a:UInt8}(H:StX C w0 M0 M L w)(hx:ev e x=some (ptr gb i.toNat))(hm:SRow gb cap t l∈L)(hi:idx l i=some a)(ha :∀w,(isAgg tt).run P w = .ok false w):Ex P ⟨dst, .load tt x,ty,pos,af,g⟩ e w (encB a) w:=Ex.loadS H hx hm (idx_some hi).2 ha
theorem WR.storeSC {i:Int}{c:UInt8}{L':Item→List Item}(H:StX C w0 M0 M L w)(hx:ev e x=some (ptr gb i.toNat))(hy:ev e y=some (encB c))(h:SOK M l nn cap)(hu :∀it',Upd L (SRow gb cap t l) it' (L' it'))(hi:put l i c=some l2)(hs :∀w,(sizeOf tt).run P w = .ok 1 w)
 (hw:Wn ops n D e ⟨none, .store tt x y,ty,pos,af,g⟩) (k :∀w',SOK M l2 nn cap→StX C w0 M0 M (L' (SRow gb cap t l2)) w'→WR r P ops Q n D rest e w'):WR r P ops Q n D (⟨none, .store tt x y,ty,pos,af,g⟩::rest) e w:=by
 have hok:=h.put hi;obtain⟨h0,rfl⟩:=put_some hi;exact WR.storeS H hx hy (hu _) Om (by have:=h.1;have:=h.2.1;omega) hs hw (fun w' H'=>k w' hok H')
def FnV (P:Program)(M:Mem)(v:Value)(args:List Value)(R:Value→Mem→Prop):Prop :=∃f cap,v = .func (.func f) #[] (List.toArray cap)∧Ct P f (args++cap) (fun M'=>M.le M') R
theorem FnV.mono {M':Mem}{args:List Value}{R:Value→Mem→Prop}(h:FnV P M v args R)(hl:M.le M'):FnV P M' v args R:=by
 obtain⟨f,cap,h1,h2⟩:=h;exact⟨f,cap,h1,h2.enters,fun w M'' ha hp=>h2.calls w M'' ha (hl.trans hp)⟩
theorem FnV.of {f:FuncId}{args:List Value}{Pre:Mem→Prop}{R:Value→Mem→Prop}(h:Ct P f args Pre R)(hp :∀M',M.le M'→Pre M'):FnV P M (.func (.func f) #[] #[]) args R :=
 ⟨f,[],rfl,by rw[l0l];exact ⟨h.enters,fun w M'' ha hm=>h.calls w M'' ha (hp M'' hm)⟩⟩
theorem FnV.ofCap {f:FuncId}{args:List Value}{Pre:Mem→Prop}{R:Value→Mem→Prop}(cap:List Value)(h:Ct P f (args++cap) Pre R)(hp :∀M',M.le M'→Pre M'):FnV P M (.func (.func f) #[] (List.toArray cap)) args R :=
 ⟨f,cap,rfl,h.enters,fun w M'' ha hm=>h.calls w M'' ha (hp M'' hm)⟩
theorem WR.callF {ar:List Operand}{vs:List Value}{tys:Array TypeId}{R:Value→Mem→Prop}(H:StX C w0 M0 M L w)(hs:FnV P M v vs R)(hx:ev e x=some v)(ha:evs e ar=some vs)
 (hw:Wn ops n D e ⟨some d, .call ⟨.value x,ar.toArray,tys⟩,ty,pos,af,g⟩) (hn:Nat.blt d n=true)
 (k :∀v M' w',StX C w0 M0 M' L w'→M.le M'→R v M'→WR r P ops Q n D rest ((d,v)::e) w') :
 WR r P ops Q n D (⟨some d, .call ⟨.value x,ar.toArray,tys⟩,ty,pos,af,g⟩::rest) e w:=by
 obtain⟨f,cap,rfl,hc⟩:=hs;exact q1h H hc hx ha (Mem.le.refl M) hw hn k
end
end Go.Ph
end
section
namespace Go.Ph
open Go Go.RowKit Pl
abbrev RowS {α:Type}(t:TypeId)(kk:Nat)(enc:α→List Value)(v:Value)(l:List α):Item := .row t kk v l.length (l.flatMap enc)
section
variable {α : Type} {enc : α → List Value} {kk : Nat}
theorem flat_len (h0 :∀x,(enc x).length=kk):∀l:List α,(l.flatMap enc).length=l.length*kk
 | []=>by simp
 | x::l=>by rw[l0t,l01,h0,flat_len h0 l,l02,l0V];omega
end
section
variable {C : Nat → Prop} {r : Option Nat} {P : Program} {ops : Array Oper} {Q : Exit → Act → World → Prop} {n : Nat} {D : List Deferred} {rest : List Oper} {e : Env} {w0 w : World} {M0 M : Mem} {L L' : List Item} {d : Nat} {v u z : Value}
  {x y : Operand} {ty t t' te ts tt : TypeId} {pos : String} {af : Array Edge} {g : Option (Nat × Bool)} {dst : Option Tmp} {α : Type} {enc : α → List Value} {kk : Nat} {l l2 l3 : List α}
theorem StX.newRowS (H:StX C w0 M0 M L w)(t:TypeId)(kk:Nat)(enc:α→List Value):StX C w0 M0 M (RowS t kk enc (.slice none 0 0) []::L) w :=
 H.newNone (World.ownsRow_nil _ _ _ _) rfl
theorem StX.freezeRowS (H:St w0 M0 M L w)(hr:Rem L (RowS t kk enc v l) L')(h0 :∀x,(enc x).length=kk):∃M',M.le M'∧SlS M' kk enc v l∧St w0 M0 M' L' w:=by
 have hown:=H.rowOf hr.mem;rcases hown.2 with ⟨hv,hn⟩|⟨g,cap,cur,hv,hb,hg,hnc,hcm,hcs,htake⟩
 · have:l=[]:=l05 hn;subst this;subst hv;exact⟨M,Mem.le.refl M,q1e M enc h0,H.drop hr.sublist⟩
 have hf:(RowS t kk enc v l).foot=some g:=by rw[hv];rfl
 obtain⟨h1,h2⟩:=H.freeze hr hf hg (((H.own _ hr.mem).2 g hf).2.resolve_right (fun h=>h));refine⟨_,h1,⟨h0,some ⟨g,0,none⟩,cap,hv,hnc,⟨hcm,fun h=>by cases h⟩,fun _=>⟨g,0,cur,t,(0,0),rfl,by simp [Mem.set],fun i x hx j u hj=>?_⟩⟩,h2⟩;have h3:=flat_at h0 l i j x u hx hj;rw[←htake,List.getElem?_take] at h3;split at h3
 · rw[l0n];simpa using h3
 cases h3
theorem StX.lenRowS (H:StX C w0 M0 M L w)(hm:RowS t kk enc v l∈L):∃A c,v = .slice A l.length c:=by
 rcases(H.rowOf hm).2 with ⟨hv,hn⟩|⟨g,cap,cur,hv,_⟩
 · exact⟨none,0,by rw[hv,hn]⟩
 exact⟨_,cap,hv⟩
theorem Ex.lenRowS (ht:P.underlying ts=some (.slice t'))(H:StX C w0 M0 M L w)(hm:RowS t kk enc v l∈L)(hx:ev e x=some v):Ex P ⟨dst, .call ⟨.builtin .len,#[x],#[ts]⟩,ty,pos,af,g⟩ e w (I l.length) w:=by
 obtain⟨A,c,rfl⟩:=H.lenRowS hm;exact q0L ht hx
theorem StX.rowOneS (H:StX C w0 M0 M L w)(hm:RowS t kk enc v l∈L):One v:=by
 obtain⟨A,c,rfl⟩:=H.lenRowS hm;exact One.slice _ _ _
theorem SlS.src (ht:P.underlying t=some (.slice t'))(h:SlS M kk enc v l)(ha:Ag M w)(h1 :∀a,∀u∈enc a,u.oneCell'=true):Src P kk t v l.length (l.flatMap enc) w:=by
 obtain⟨h0,A,c,rfl,hc1,hc2,h3⟩:=h;have h1' :∀u∈l.flatMap enc,u.oneCell'=true:=fun u hu=>by obtain⟨a,_,hu⟩:=List.mem_flatMap.1 hu;exact h1 a u hu
 have hpos :∀j u,(l.flatMap enc)[j]? = some u→∃i x k,l[i]? = some x∧(enc x)[k]? = some u∧j=i*kk+k:=by
  clear h3 h1' hc1 hc2;induction l with
  | nil=>intro j u h;simp at h
  | cons y l ih =>
    intro j u h;rw[l0t] at h;rcases l0G j kk with hj|hj
    · rw[List.getElem?_append_left (by rw[h0];exact hj)] at h;exact⟨0,y,j,rfl,h,by omega⟩
    rw[List.getElem?_append_right (by rw[h0];exact hj),h0] at h;obtain⟨i,x,k,e1,e2,e3⟩:=ih _ _ h;exact⟨i+1,x,k,by simpa using e1,e2,by rw[l0V];omega⟩
 cases A with
 | none =>
   have hnil:l=[]:=by
    have:=hc2.2 rfl;exact l05 Om
   subst hnil;exact Src.ofNil w ht _
 | some ad =>
   rcases l1y l.length with hl|hl
   · have hnil:l=[]:=l05 hl;subst hnil;exact Src.ofSlice w ht ad _ _ _ Sm (fun j u h=>by simp at h) h1'
   obtain⟨b,o,cs,t0,fz,e1,e2,e3⟩:=h3 (fun h=>by rw[h] at hl;simp at hl);cases e1;refine Src.ofSlice w ht ⟨b,o,none⟩ _ _ _ (flat_len h0 l) (fun j u h=>?_) h1';obtain⟨i,x,k,f1,f2,rfl⟩:=hpos j u h;rw[Addr.add_lit];have:=(show CellM M ⟨b,o+(i*kk+k),none⟩ u from⟨rfl,cs,t0,fz,e2,by rw[←l1p];exact e3 i x f1 k u f2⟩).cell ha;exact this
theorem WR.appSC {bytes:Nat}{L':Item→List Item}(T:ElemTy P ts t z kk bytes)(hbp:Nat.blt 0 bytes=true)(h1 :∀a,∀u∈enc a,u.oneCell'=true)(H:StX C w0 M0 M L w)(hx:ev e x=some v)(hu :∀it',Upd L (RowS t kk enc v l) it' (L' it'))(hy:ev e y=some u)
 (hs:SlS M kk enc u l2) (ha:app bytes l l2=some l3)
 (hw:Wn ops n D e ⟨some d, .call ⟨.builtin .append,#[x,y],#[ts,ts]⟩,ty,pos,af,g⟩) (hn:Nat.blt d n=true)
 (k :∀v' w',StX C w0 M0 M (L' (RowS t kk enc v' l3)) w'→WR r P ops Q n D rest ((d,v')::e) w') :
 WR r P ops Q n D (⟨some d, .call ⟨.builtin .append,#[x,y],#[ts,ts]⟩,ty,pos,af,g⟩::rest) e w:=by
 obtain⟨hb,rfl⟩:=app_some ha;have hb':=short_of (l06 hbp) hb;have hm:=(hu (RowS t kk enc v l)).mem;obtain⟨v',w',hrun,h1,h2,h3⟩:=run_append_own_src (P:=P) (ty:=ty) w 0 T v l.length (l.flatMap enc) (H.rowOf hm) u l2.length (l2.flatMap enc) (hs.src T.under H.ag h1) hb' hb (l0C _);have h1':w'.ownsRow 0 t kk v' (l++l2).length ((l++l2).flatMap enc):=by rw[l01,l1k];exact h1
 refine q0I (w':=w') ⟨nofun,fun ρ hfi=>?_⟩ hw rfl hn (k v' w' (H.upd (hu _) h2 h1' (fun b hb'=>?_)))
 · simp only[execOp,resolve,invoke,builtin,Sem.run_bind,Sem.run_pure,Result.andThen_ok,l0k,l0i,l0y,hfi _ _ hx,hfi _ _ hy,hrun]
 have hb'':v'.ownBlock=some b:=hb';rcases h3 with h3|h3
 · exact .inl (h3.symm.trans hb'')
 rw[h3] at hb'';have:w.heap.size=b:=Option.some.inj hb'';exact .inr Om
theorem SlS.part (h:SlS M kk enc v l){i j:Nat}(hij:i≤j)(hj:j≤l.length):
 ∃A c,v = .slice A l.length c∧l.length≤c∧SlS M kk enc (.slice (A.map (fun a=>a.add (i*kk))) (j-i) (c-i)) ((l.take j).drop i):=by
 obtain⟨h0,A,c,rfl,hc1,hc2,h3⟩:=h;have hlen:((l.take j).drop i).length=j-i:=by simp;omega
 refine⟨A,c,rfl,hc1,h0,A.map (fun a=>a.add (i*kk)),c-i,by rw[hlen],by rw[hlen];omega,⟨by have:=hc2.1;omega,fun h=>?_⟩,fun hne=>?_⟩
 · have:A=none:=by cases A <;> simp_all
   have:=hc2.2 this;omega
 obtain⟨b,o,cs,t0,fz,e1,e2,e3⟩:=h3 (fun h=>by rw[h] at hne;simp at hne);refine⟨b,o+i*kk,cs,t0,fz,by rw[e1];simp [Addr.add_lit],e2,fun a x hx m u hm=>?_⟩;rw[List.getElem?_drop,List.getElem?_take] at hx;split at hx
 · have:=e3 (i+a) x hx m u hm;rw[l0V] at this;rw[show o+i*kk+a*kk+m=o+(i*kk+a*kk)+m by omega];exact this
 cases hx
theorem SlS.part2 (h:SlS M kk enc v l){i j:Nat}(hij:i≤j)(hj:j≤l.length):
 ∃A c,v = .slice A l.length c∧l.length≤c∧SlS M kk enc (.slice (if c=i then A else A.map (fun a=>a.add (i*kk))) (j-i) (c-i)) ((l.take j).drop i):=by
 obtain⟨A,c,rfl,hc,hs⟩:=h.part hij hj;refine⟨A,c,rfl,hc,?_⟩;split
 · rename_i hci;have hlen:((l.take j).drop i).length=j-i:=by simp;omega
   have hnil:(l.take j).drop i=[]:=l05 Om;rw[hnil];exact⟨h.1,A,c-i,by rw[l08];congr 1;omega,l0C _,⟨by simp only[maxLen];omega,fun _=>by omega⟩,fun h=>absurd rfl h⟩
 exact hs
theorem run_slice_partS {i j:Nat}{lo hi:Option Value}(ht:P.underlying t=some (.slice t'))(hz :∀w,(sizeOf t').run P w = .ok kk w)(A:Option Addr)(nn c:Nat)(hnc:nn≤c)(hij:i≤j)(hj:j≤nn)
 (hlo:lo=some (I i)∨(lo=none∧i=0)) (hhi:hi=some (I j)∨(hi=none∧j=nn)) :
 (Instr.sliceAt t (.slice A nn c) lo hi none).run P w = .ok (.slice (if c=i then A else A.map (fun a=>a.add (i*kk))) (j-i) (c-i)) w:=by
 have a1:(0:Int)≤(i:Int)∧(i:Int)≤(j:Int):=by omega
 have a2:(0:Int)≤(j:Int)∧(j:Int)≤(c:Int):=by omega
 rcases hlo with rfl|⟨rfl,rfl⟩ <;> rcases hhi with rfl|⟨rfl,rfl⟩ <;>
  simp only[Instr.sliceAt,Instr.slice,Instr.sliceBounds,Instr.sliceBound,asIntOf,Sem.run_bind,run_underlying ht,Result.andThen_ok,Sem.run_pure,a1,a2,and_self,if_true,l0f,hz,l1L]
theorem WR.sliceSS {i j:Nat}{lo hi:Option Operand}(ht:P.underlying t=some (.slice t'))(hz :∀w,(sizeOf t').run P w = .ok kk w)(h:SlS M kk enc v l)(hx:ev e x=some v)
 (hlo:(∃o,lo=some o∧ev e o=some (I i))∨(lo=none∧i=0)) (hhi:(∃o,hi=some o∧ev e o=some (I j))∨(hi=none∧j=l.length)) (hij:i≤j) (hj:j≤l.length)
 (hw:Wn ops n D e ⟨some d, .slice t x lo hi none,ty,pos,af,g⟩) (hn:Nat.blt d n=true) (k :∀v',SlS M kk enc v' ((l.take j).drop i)→WR r P ops Q n D rest ((d,v')::e) w) :
 WR r P ops Q n D (⟨some d, .slice t x lo hi none,ty,pos,af,g⟩::rest) e w:=by
 obtain⟨A,c,rfl,hnc,hs⟩:=h.part2 hij hj;refine q0I (w':=w) ⟨nofun,fun ρ hfi=>?_⟩ hw rfl hn (k _ hs);have hr:=run_slice_partS (P:=P) (w:=w) (lo:=lo.map ρ) (hi:=hi.map ρ) ht hz A l.length c hnc hij hj
  (by rcases hlo with ⟨o,rfl,ho⟩|⟨rfl,h⟩
      · exact .inl (by simp [hfi _ _ ho])
      exact .inr ⟨rfl,h⟩)
  (by rcases hhi with ⟨o,rfl,ho⟩|⟨rfl,h⟩
      · exact .inl (by simp [hfi _ _ ho])
      exact .inr ⟨rfl,h⟩)
 simp only[execOp,hfi _ _ hx,l1b,Sem.run_bind,hr,Result.andThen_ok,Sem.run_pure]
theorem WR.sliceSSH {j:Int}{o2:Operand}(ht:P.underlying t=some (.slice t'))(hz :∀w,(sizeOf t').run P w = .ok kk w)(h:SlS M kk enc v l)(hx:ev e x=some v)(h2:ev e o2=some (I j))(hs:cut l 0 j=some l2)
 (hw:Wn ops n D e ⟨some d, .slice t x none (some o2) none,ty,pos,af,g⟩) (hn:Nat.blt d n=true) (k :∀v',SlS M kk enc v' l2→WR r P ops Q n D rest ((d,v')::e) w) :
 WR r P ops Q n D (⟨some d, .slice t x none (some o2) none,ty,pos,af,g⟩::rest) e w:=by
 obtain⟨⟨a1,a2,a3⟩,rfl⟩:=cut_some hs;exact WR.sliceSS ht hz h hx (.inr ⟨rfl,rfl⟩) (.inl ⟨_,rfl,by rw[h2,l0h Om]⟩) Om Om hw hn k
end
end Go.Ph
end
section
namespace Go.Ph
open Go Go.RowKit
abbrev CoreT := List (Nat × Value × List Nat)
def envD (core:CoreT)(dp:List Nat):Env:=dp.filterMap fun j=>(core[j]?).map fun x=>(x.1,x.2.1)
def envAll (core:CoreT):Env:=core.map fun x=>(x.1,x.2.1)
def edgeOn (o:Oper)(j:Nat):Bool:=o.after.any fun e=>Region.binds .any e&&Nat.beq e.on j
def depsOf (ops:Array Oper)(k:Nat):List Nat:=match ops[k]? with
 | some o=>(o.after.toList.filter (fun e=>Region.binds .any e)).map (·.on)
 | none=>[]
def markC (ops:Array Oper):Nat→List Nat→List Nat
 | 0,ms=>ms
 | k+1,ms=>markC ops k (if ms.contains k then ms++depsOf ops k else ms)
def coreOK (ops:Array Oper)(c:Nat)(ds:List (Nat × List Nat)):Bool :=
 Nat.ble c ops.size&&Nat.beq ds.length c&&(ds.map (·.1)).Nodup &&
 (List.range c).all (fun i=>match ops[i]?,ds[i]? with
  | some o,some (d,dp)=>(o.dst == some d)&&dp.all (fun j=>edgeOn o j&&Nat.blt j c)&&o.after.all (fun e => !Region.binds .any e || Nat.blt e.on i)
  | _,_=>false) &&
 (List.range ops.size).all (fun j=>Nat.blt j c || match ops[j]? with
  | some o=>(List.range c).all (fun i => !Nat.beq i j&&(markC ops (j+1) [j]).contains i)
  | none=>false)
def keysFree (e:Env)(ds:List Nat):Bool:=e.all fun p => !ds.contains p.1
theorem get_none_of_free {e:Env}{ds:List Nat}(h:keysFree e ds=true){d:Nat}(hd:d∈ds):get e d=none:=by
 induction e with
 | nil=>rfl
 | cons p e ih =>
   obtain⟨j,v⟩:=p;simp only[keysFree,l0b,l0e] at h;have hne:d≠j:=by rintro rfl;have:=h.1;simp [hd] at this
   rw[get,show Nat.beq d j=false from by cases hb:Nat.beq d j with|false=>rfl|true=>exact absurd (l0q hb) hne];exact ih h.2
section
variable {C : Nat → Prop} {P : Program} {ops : Array Oper} {Q : Exit → Act → World → Prop} {n : Nat} {D : List Deferred} {e0 : Env} {w0 w : World} {M0 M : Mem} {L : List Item}
def StepsC (P:Program)(ops:Array Oper)(n:Nat)(D:List Deferred)(e0:Env)(C:Nat→Prop)(w0:World)(M0 M:Mem)(L:List Item)(core:CoreT):Nat→CoreT→Prop
 | _,[]=>True
 | i,(d,v,dp)::r=>(∃o,ops[i]? = some o∧∀(E:Env) w M',StX C w0 M0 M' L w→M.le M'→∀Q':Exit→Act→World→Prop,(∀w'' M'',StX C w0 M0 M'' L w''→M'.le M''→WQ Q' .normal n D ((d,v)::(envD core dp++(e0++E))) w'')→WR none P ops Q' n D [o] (envD core dp++(e0++E)) w)∧
  StepsC P ops n D e0 C w0 M0 M L core (i+1) r
theorem StepsC.at {core:CoreT}:∀{r:CoreT} {i:Nat},StepsC P ops n D e0 C w0 M0 M L core i r→∀(k d:Nat) (v:Value) (dp:List Nat),r[k]? = some (d,v,dp)→
 ∃o,ops[i+k]? = some o∧∀(E:Env) w M',StX C w0 M0 M' L w→M.le M'→∀Q':Exit→Act→World→Prop,(∀w'' M'',StX C w0 M0 M'' L w''→M'.le M''→WQ Q' .normal n D ((d,v)::(envD core dp++(e0++E))) w'')→WR none P ops Q' n D [o] (envD core dp++(e0++E)) w
 | [],i,_,k,d,v,dp,hk=>by simp at hk
 | (d0,v0,dp0)::r,i,h,0,d,v,dp,hk=>by
   simp at hk;obtain⟨rfl,rfl,rfl⟩:=hk;exact h.1
 | (d0,v0,dp0)::r,i,h,k+1,d,v,dp,hk=>by
   have:=StepsC.at h.2 k d v dp (by simpa using hk);rwa [show i+1+k=i+(k+1) by omega] at this
def Filled (core:CoreT)(listed:Array Bool)(a:Act):Prop :=∀j d v dp,core[j]? = some (d,v,dp)→listed.getD j false=true→a.tmps.getD d undef=v
theorem Sat.more {a:Act}(h:Sat n D e0 a):∀(e:Env),(∀p∈e,a.tmps.getD p.1 undef=p.2)→Sat n D (e++e0) a
 | [],_=>h
 | (j,u)::e,hp=>by
   have ih:=Sat.more h e (fun p hp'=>hp p (by simp [hp']));refine⟨h.size,h.defers,fun i v hi=>?_⟩;simp only[l03,get] at hi;cases hb:Nat.beq i j with
   | true =>
     rw[hb] at hi;have:i=j:=l0q hb;subst this;have:u=v:=Option.some.inj hi;subst this;exact hp (i,u) Sm
   | false=>rw[hb] at hi;exact ih.val i v hi
theorem edgeOn_listed {o:Oper}{i j:Nat}{listed:Array Bool}(hi:i∈Region.ready .any ops listed)(ho:ops[i]? = some o)(he:edgeOn o j=true):listed.getD j false=true:=by
 unfold Region.ready at hi;rw[List.mem_filter] at hi;have h2:=hi.2;rw[ho] at h2;simp only[l0Q,l1D,l0e] at h2;unfold edgeOn at he;rw[Array.any_eq_true] at he;obtain⟨k,hk,hb⟩:=he;have h3:=(Array.all_eq_true.1 h2.2) k hk;simp only[l0e] at hb;have hj:(o.after[k]).on=j:=l0q hb.2;simp only[hb.1,l1C,l1c,hj] at h3;exact h3
def Closed (ops:Array Oper)(listed:Array Bool):Prop :=∀i o,ops[i]? = some o→listed.getD i false=true→∀x,edgeOn o x=true→listed.getD x false=true
theorem deps_edge {k x:Nat}(h:x∈depsOf ops k):∃o,ops[k]? = some o∧edgeOn o x=true:=by
 unfold depsOf at h;cases ho:ops[k]? with
 | none=>rw[ho] at h;cases h
 | some o =>
   rw[ho] at h;obtain⟨e,he,rfl⟩:=List.mem_map.1 h;obtain⟨h1,h2⟩:=List.mem_filter.1 he;refine⟨o,rfl,?_⟩;unfold edgeOn;rw[←Array.any_toList,List.any_eq_true];exact⟨e,h1,by simp [h2]⟩
theorem markC_listed {j:Nat}{listed:Array Bool}(hj:j∈Region.ready .any ops listed)(hcl:Closed ops listed):∀(k:Nat) (ms:List Nat),(∀x∈ms,x=j∨listed.getD x false=true)→∀x∈markC ops k ms,x=j∨listed.getD x false=true
 | 0,ms,h=>h
 | k + 1,ms,h=>by
   rw[markC];refine markC_listed hj hcl k _ ?_;split
   · rename_i hk;intro x hx;rcases List.mem_append.1 hx with hx|hx
     · exact h x hx
     obtain⟨o,ho,he⟩:=deps_edge hx;rcases h k (List.contains_iff_mem.1 hk) with rfl|hl
     · exact .inr (edgeOn_listed hj ho he)
     exact .inr (hcl k o ho hl x he)
   exact h
theorem ready_unlisted {i:Nat}{listed:Array Bool}(hi:i∈Region.ready .any ops listed):i<ops.size∧listed.getD i true=false:=by
 unfold Region.ready at hi;rw[List.mem_filter] at hi;have h2:=hi.2;simp only[l0e] at h2;exact⟨List.mem_range.1 hi.1,by simpa using h2.1⟩
def lst (m c:Nat):Array Bool:=(List.replicate c true++List.replicate (m-c) false).toArray
theorem WA.conf (core:CoreT){m c:Nat}(hm:ops.size=m)(hc:core.length=c)(hok:coreOK ops c (core.map fun x=>(x.1,x.2.2))=true)(hfree:keysFree e0 (core.map (·.1))=true)(hn:(core.map (·.1)).all (fun d=>Nat.blt d n)=true)
 (H:StX C w0 M0 M L w) (hs:StepsC P ops n D e0 C w0 M0 M L core 0 core)
 (k :∀w M',StX C w0 M0 M' L w→M.le M'→WA none P ops Q n D (m-c) (lst m c) (envAll core++e0) w):WA none P ops Q n D m (Array.replicate m false) e0 w:=by
 unfold coreOK at hok;simp only[l0e,l0d] at hok;obtain⟨⟨⟨⟨o1,o2⟩,o3⟩,o4⟩,o5⟩:=hok;have hcm:c≤m:=by rw[←hm];exact l06 o1
 have hnd:(core.map (·.1)).Nodup:=by
  have:=of_decide_eq_true o3;rw[l1x] at this;exact this
 have hop :∀i,i<c→∃o d v dp,ops[i]? = some o∧core[i]? = some (d,v,dp)∧o.dst=some d∧(∀j∈dp,edgeOn o j=true∧j<c)∧(∀j,edgeOn o j=true→j<i):=fun i hi=>by
  have h1:=List.all_eq_true.1 o4 i (List.mem_range.2 hi);obtain⟨⟨d,v,dp⟩,hci⟩ :∃x,core[i]? = some x:=⟨_,List.getElem?_eq_getElem Om⟩
  rw[List.getElem?_map,hci] at h1;cases ho:ops[i]? with
  | none=>rw[ho] at h1;cases h1
  | some o =>
    rw[ho] at h1;simp only[l0Q,l0e] at h1;refine⟨o,d,v,dp,rfl,hci,by simpa using h1.1.1,fun j hj=>?_,fun j hj=>?_⟩
    · have:=List.all_eq_true.1 h1.1.2 j hj;simp only[l0e] at this;exact⟨this.1,l06 this.2⟩
    unfold edgeOn at hj;rw[Array.any_eq_true] at hj;obtain⟨q,hq,hb⟩:=hj;simp only[l0e] at hb;have h3:=(Array.all_eq_true.1 h1.2) q hq;simp only[hb.1,l1C,l1c] at h3;have:=l0q hb.2;rw[←this];exact l06 h3
 have hlate :∀j,c≤j→j<m→∀i,i<c→i≠j∧i∈markC ops (j+1) [j]:=fun j h1 h2=>by
  have h3:=List.all_eq_true.1 o5 j (List.mem_range.2 Om);have hb:Nat.blt j c=false:=by
   cases hb:Nat.blt j c with
   | false=>rfl
   | true=>have:=l06 hb;omega
  rw[hb,l1c] at h3;cases ho:ops[j]? with
  | none=>rw[ho] at h3;cases h3
  | some o =>
    rw[ho] at h3;intro i hi;have:=List.all_eq_true.1 h3 i (List.mem_range.2 hi);simp only[l0e] at this;exact⟨by omega,List.contains_iff_mem.1 this.2⟩
 -- the invariant
 have main :∀(f:Nat) (listed:Array Bool) (a:Act) (w:World) (M':Mem),listed.size=m→(∀j,c≤j→j<m→listed.getD j true=false)→Closed ops listed→((List.range c).filter (fun j => !listed.getD j true)).length=f→Sat n D e0 a→Filled core listed a→StX C w0 M0 M' L w→M.le M'→
  wpAnyIn (Wd none) 0 P .any ops (noP ops Q) (m-c+f) listed a w:=by
  intro f;induction f with
  | zero =>
    intro listed a w M' h1 h2 hcl h3 h4 h5 h6 h7;have hall :∀j,j<c→listed.getD j true=true:=fun j hj=>by
     cases hb:listed.getD j true with
     | true=>rfl
     | false =>
       have:j∈(List.range c).filter (fun j => !listed.getD j true):=List.mem_filter.2 ⟨List.mem_range.2 hj,by simp [hb]⟩;rw[l05 h3] at this;cases this
    have hl:listed=lst m c:=by
     unfold lst;apply Array.ext
     · simp [h1];omega
     intro i hi1 hi2;have hg:listed.getD i true=listed[i]:=by simp [Array.getD,hi1]
     rcases l0G i c with hc'|hc'
     · have:=hall i hc';rw[hg] at this;rw[this];simp [List.getElem_append,hc']
     have:=h2 i hc' Om;rw[hg] at this;rw[this];simp [List.getElem_append,Nat.not_lt.2 hc']
    rw[l0U,hl];refine k w M' h6 h7 a (h4.more _ (fun p hp=>?_));unfold envAll at hp;obtain⟨x,hx,rfl⟩:=List.mem_map.1 hp;obtain⟨j,hj,rfl⟩:=l0K hx;refine h5 j _ _ (core[j]).2.2 (by rw[List.getElem?_eq_getElem hj]) ?_;have:=hall j Om;have hjs:j<listed.size:=by omega
    simp [Array.getD,hjs] at this ⊢;exact this
  | succ f ih =>
    intro listed a w M' h1 h2 hcl h3 h4 h5 h6 h7;show wpAnyIn (Wd none) 0 P .any ops (noP ops Q) ((m-c+f)+1) listed a w
    -- some operation is ready
    have hsome :∃i,i<c∧listed.getD i true=false∧∀j,j<i→listed.getD j true=true:=by
     have hne:(List.range c).filter (fun j => !listed.getD j true)≠ []:=by intro h;rw [h] at h3;simp at h3
     have :∃i,i<c∧listed.getD i true=false:=by
      obtain⟨x,hx⟩:=List.exists_mem_of_ne_nil _ hne;obtain⟨a1,a2⟩:=List.mem_filter.1 hx;exact⟨x,List.mem_range.1 a1,by simpa using a2⟩
     obtain⟨i,hi⟩:=this;clear h3 hne;induction i using Nat.strongRecOn with
     | _ i ihi =>
       by_cases hj :∃j,j<i∧listed.getD j true=false
       · obtain⟨j,hj1,hj2⟩:=hj;exact ihi j hj1 ⟨by omega,hj2⟩
       refine⟨i,hi.1,hi.2,fun j hj'=>?_⟩;cases hb:listed.getD j true with
       | true=>rfl
       | false=>exact absurd ⟨j,hj',hb⟩ hj
    obtain⟨i0,q1,q2,q3⟩:=hsome;have hready:Region.ready .any ops listed≠ []:=by
     obtain⟨o,d,v,dp,g1,g2,g3,g4,g5⟩:=hop i0 q1;have:i0∈Region.ready .any ops listed:=by
      unfold Region.ready;rw[List.mem_filter];refine⟨List.mem_range.2 Om,?_⟩;rw[g1];simp only[l0Q,l1D,l0e];refine⟨by simp [q2],Array.all_eq_true.2 (fun q hq=>?_)⟩;cases hb:Region.binds .any o.after[q] with
      | false=>rfl
      | true =>
        simp only[l1C,l1c];have hlt:=g5 (o.after[q]).on (by
         unfold edgeOn;rw[Array.any_eq_true];exact⟨q,hq,by simp [hb]⟩)
        have:=q3 _ hlt;have hjs:(o.after[q]).on<listed.size:=by omega
        simp [Array.getD,hjs] at this ⊢;exact this
     intro h;rw[h] at this;cases this
    refine⟨fun h=>absurd h hready,fun i hi=>?_⟩;obtain⟨r1,r2⟩:=ready_unlisted hi;have hic:i<c:=by
     rcases l0G i c with h|h
     · exact h
     exfalso;obtain⟨g1,g2⟩:=hlate i h Om i0 q1;have:=(markC_listed hi hcl (i+1) [i] (fun x hx => .inl (by simpa using hx)) i0 g2).resolve_left g1;have hjs:i0<listed.size:=by omega
     simp [Array.getD,hjs] at this q2;rw[this] at q2;cases q2
    obtain⟨o,d,v,dp,g1,g2,g3,g4,g5⟩:=hop i hic;obtain⟨o',g1',hstep⟩:=hs.at i d v dp g2;rw[l0n,g1] at g1';cases g1';have hE :∀j u,get ((List.range n).map fun j=>(j,a.tmps.getD j undef)) j=some u→a.tmps.getD j undef=u:=fun j u hu=>by
     have :∀(l:List Nat),get (l.map fun j=>(j,a.tmps.getD j undef)) j=some u→a.tmps.getD j undef=u:=by
      intro l;induction l with
      | nil=>intro h;cases h
      | cons x l ihl =>
        intro h;simp only[l0i,get] at h;cases hb:Nat.beq j x with
        | true =>
          rw[hb] at h;have hjx:j=x:=l0q hb;rw[hjx];exact Option.some.inj h
        | false=>rw[hb] at h;exact ihl h
     exact this _ hu
    have hsE:Sat n D ((List.range n).map fun j=>(j,a.tmps.getD j undef)) a:=⟨h4.size,h4.defers,hE⟩
    have hin :∀(e:Env),(∀j u,get e j=some u→a.tmps.getD j undef=u)→∀(e':Env),(∀j u,get e' j=some u→a.tmps.getD j undef=u)→∀j u,get (e++e') j=some u→a.tmps.getD j undef=u:=by
     intro e;induction e with
     | nil=>intro _ e' h' j u hu;exact h' j u hu
     | cons p e ihe =>
       intro h e' h' j u hu;obtain⟨x,y⟩:=p;simp only[l03,get] at hu;cases hb:Nat.beq j x with
       | true =>
         rw[hb] at hu;exact h j u (by simp only[get,hb];exact hu)
       | false =>
         rw[hb] at hu;by_cases hex :∃u',get e j=some u'
         · -- the first part answers
           have key :∀(e:Env) (u':Value),get e j=some u'→get (e++e') j=some u':=by
            intro e;induction e with
            | nil=>intro u' h;cases h
            | cons q e ihq =>
              intro u' h;obtain⟨x',y'⟩:=q;simp only[l03,get] at h ⊢;cases hb':Nat.beq j x' with
              | true=>rw[hb'] at h;exact h
              | false=>rw[hb'] at h;exact ihq u' h
           obtain⟨u',hu'⟩:=hex;have:=key e u' hu';have hu2:get (e++e') j=some u:=hu;rw[this] at hu2;have huu:u'=u:=Option.some.inj hu2;rw[←huu];exact h j u' (by simp only[get,hb];exact hu')
         have key :∀(e:Env),(¬∃u',get e j=some u')→get (e++e') j=get e' j:=by
          intro e;induction e with
          | nil=>intro _;rfl
          | cons q e ihq =>
            intro hne;obtain⟨x',y'⟩:=q;simp only[l03,get];cases hb':Nat.beq j x' with
            | true=>exact absurd ⟨y',by simp [get,hb']⟩ hne
            | false=>exact ihq (fun⟨u',hu'⟩=>hne ⟨u',by simp only[get,hb'];exact hu'⟩)
         have hu2:get (e++e') j=some u:=hu;rw[key e hex] at hu2;exact h' j u hu2
    have hsat:Sat n D (envD core dp++(e0++(List.range n).map fun j=>(j,a.tmps.getD j undef))) a :=
     (show Sat n D (e0++(List.range n).map fun j=>(j,a.tmps.getD j undef)) a from⟨h4.size,h4.defers,hin e0 h4.val _ hE⟩).more _ (fun p hp=>by
     unfold envD at hp;obtain⟨j,hj,hpj⟩:=List.mem_filterMap.1 hp;obtain⟨⟨dj,vj,dpj⟩,hcj,rfl⟩:=Option.map_eq_some_iff.1 hpj;exact h5 j dj vj dpj hcj (edgeOn_listed hi g1 (g4 j hj).1))
    refine WA.op g1 (hstep ((List.range n).map fun j=>(j,a.tmps.getD j undef)) w M' h6 h7 (Qa none P ops Q (m-c+f) (listed.setIfInBounds i true)) (fun w'' M'' hH hle a'' ha''=>?_)) hsat
    -- behind the operation: only its slot has changed
    have hfreed:get e0 d=none:=get_none_of_free hfree (List.mem_map.2 ⟨_,l0r g2,rfl⟩);have hdv:a''.tmps.getD d undef=v:=ha''.val d v (by simp [get]);have hothers :∀t,t≠d→a''.tmps.getD t undef=a.tmps.getD t undef:=fun t ht=>by
     rcases l0G t n with htn|htn
     · have hsome :∃u,get (envD core dp++(e0++(List.range n).map fun j=>(j,a.tmps.getD j undef))) t=some u:=by
        have base :∃u,get ((List.range n).map fun j=>(j,a.tmps.getD j undef)) t=some u:=by
         have :∀(l:List Nat),t∈l→∃u,get (l.map fun j=>(j,a.tmps.getD j undef)) t=some u:=by
          intro l;induction l with
          | nil=>intro h;cases h
          | cons x l ihl =>
            intro h;simp only[l0i,get];cases hb:Nat.beq t x with
            | true=>exact⟨_,rfl⟩
            | false =>
              rcases List.mem_cons.1 h with rfl|h
              · simp at hb
              exact ihl h
         exact this _ (List.mem_range.2 htn)
        have up :∀(e e':Env),(∃u,get e' t=some u)→∃u,get (e++e') t=some u:=by
         intro e;induction e with
         | nil=>intro e' h;exact h
         | cons q e ihq =>
           intro e' h;obtain⟨x',y'⟩:=q;simp only[l03,get];cases hb':Nat.beq t x' with
           | true=>exact⟨_,rfl⟩
           | false=>exact ihq e' h
        exact up _ _ (up _ _ base)
       obtain⟨u,hu⟩:=hsome;rw[hsat.val t u hu];refine ha''.val t u ?_;rw[get,show Nat.beq t d=false from by cases hb:Nat.beq t d with|false=>rfl|true=>exact absurd (l0q hb) ht];exact hu
     rw[Array.getD_eq_getD_getElem?,Array.getD_eq_getD_getElem?,Array.getElem?_eq_none (by rw[ha''.size];exact htn),Array.getElem?_eq_none (by rw[h4.size];exact htn)]
    refine ih (listed.setIfInBounds i true) a'' w'' M'' (by simp [h1]) (fun j hj1 hj2=>?_) (fun y oy hoy hly x hx=>?_) ?_ ⟨ha''.size,ha''.defers,fun t u hu=>?_⟩ (fun j dj vj dpj hj hl=>?_) hH (h7.trans hle)
    · have:=h2 j hj1 hj2;have hji:j≠i:=by omega
      have hjs:j<listed.size:=by omega
      simp [Array.getD,hjs,Array.getElem_setIfInBounds,Ne.symm hji] at this ⊢;exact this
    · have hxl:listed.getD x false=true:=by
       by_cases hyi:y=i
       · subst hyi;exact edgeOn_listed hi hoy hx
       have hys:y<listed.size:=by
        rcases l0G y listed.size with h|h
        · exact h
        simp [Array.getD,Nat.not_lt.2 h] at hly
       have hne:i≠y:=fun h=>hyi h.symm
       have:listed.getD y false=true:=by
        simp [Array.getD,hys,Array.getElem_setIfInBounds,hne] at hly ⊢;exact hly
       exact hcl y oy hoy this x hx
      have hxs:x<listed.size:=by
       rcases l0G x listed.size with h|h
       · exact h
       simp [Array.getD,Nat.not_lt.2 h] at hxl
      simp only[Array.getD,hxs,Array.size_setIfInBounds,dif_pos,Array.getInternal_eq_getElem,Array.getElem_setIfInBounds] at hxl ⊢;split
      · rfl
      exact hxl
    · -- one fewer
      have hiS:i<listed.size:=by omega
      have hnd2:((List.range c).filter (fun j => !listed.getD j true)).Nodup:=List.nodup_range.filter _;have heq:(List.range c).filter (fun j => !(listed.setIfInBounds i true).getD j true)=((List.range c).filter (fun j => !listed.getD j true)).erase i:=by
       rw[hnd2.erase_eq_filter,List.filter_filter];apply List.filter_congr;intro j hj;have hjs:j<listed.size:=by have:=List.mem_range.1 hj;omega
       by_cases hji:j=i
       · subst hji;simp [Array.getD,hjs]
       have:i≠j:=fun h=>hji h.symm
       simp [Array.getD,hjs,Array.getElem_setIfInBounds,this,hji]
      rw[heq,List.length_erase_of_mem (List.mem_filter.2 ⟨List.mem_range.2 hic,by rw[r2];rfl⟩),h3];rfl
    · have htd:t≠d:=by rintro rfl;rw [hfreed] at hu;cases hu
      rw[hothers t htd];exact h4.val t u hu
    have hjs:j<listed.size:=by have:=(List.getElem?_eq_some_iff.1 hj).1;omega
    by_cases hji:j=i
    · subst hji;rw[g2] at hj;cases hj;exact hdv
    have hdd:dj≠d:=by
     rintro rfl;have hj1:j<core.length:=(List.getElem?_eq_some_iff.1 hj).1;have hi1:i<core.length:=(List.getElem?_eq_some_iff.1 g2).1;have e1:(core.map (·.1))[j]'(by simpa using hj1)=dj:=by
      rw[List.getElem_map,(List.getElem?_eq_some_iff.1 hj).2]
     have e2:(core.map (·.1))[i]'(by simpa using hi1)=dj:=by
      rw[List.getElem_map,(List.getElem?_eq_some_iff.1 g2).2]
     exact hji ((List.getElem_inj hnd).1 (e1.trans e2.symm))
    rw[hothers dj hdd];refine h5 j dj vj dpj hj ?_;have:i≠j:=fun h=>hji h.symm
    simp [Array.getD,hjs,Array.getElem_setIfInBounds,this] at hl ⊢;exact hl
 have hfr:((List.range c).filter (fun j => !(Array.replicate m false).getD j true)).length=c:=by
  have:(List.range c).filter (fun j => !(Array.replicate m false).getD j true)=List.range c:=by
   rw[List.filter_eq_self];intro j hj;have:j<m:=by have:=List.mem_range.1 hj;omega
   simp [Array.getD,this]
  rw[this,List.length_range]
 intro a ha;have:=main c (Array.replicate m false) a w M Sm (fun j h1 h2=>by simp [Array.getD,h2]) (fun i o ho hl=>by
  rcases l0G i m with h|h
  · simp [Array.getD,h] at hl
  · simp [Array.getD,Nat.not_lt.2 h] at hl) hfr ha (fun j d v dp hj hl=>by
  have hjc:j<m:=by have:=(List.getElem?_eq_some_iff.1 hj).1;omega
  simp [Array.getD,hjc] at hl) H (Mem.le.refl M)
 rwa [show m-c+c=m by omega] at this
end
end Go.Ph
end
section
namespace Go.Ph
open Go Go.RowKit Pl
def PtM (M:Mem)(b:Nat)(o:Obj):Prop:=M b=some o
theorem PtM.mono {M M':Mem}{b:Nat}{o:Obj}(h:PtM M b o)(hl:M.le M'):PtM M' b o:=hl _ _ h
theorem PtM.cell {M:Mem}{b j:Nat}{cs:List Value}{t:TypeId}{u:Value}(h:PtM M b (.cells cs.toArray t))(hj:cs[j]? = some u):CellM M ⟨b,j,none⟩ u:=⟨rfl,_,_,_,h,by rw[List.getElem?_toArray];exact hj⟩
theorem PtM.all {M:Mem}{b:Nat}{cs:List Value}{t:TypeId}(h:PtM M b (.cells cs.toArray t)):CellsM M ⟨b,0,none⟩ cs:=⟨rfl,_,_,_,h,fun j u hj=>by rw[l0n,List.getElem?_toArray];exact hj⟩
section
variable {C : Nat → Prop} {r : Option Nat} {P : Program} {ops : Array Oper} {Q : Exit → Act → World → Prop} {n : Nat} {D : List Deferred} {rest : List Oper} {e : Env} {w0 w : World} {M0 M : Mem} {L L' : List Item} {d : Nat} {v u z : Value}
  {x y : Operand} {ty t t' te ts tt t0 : TypeId} {pos : String} {af : Array Edge} {g : Option (Nat × Bool)} {dst : Option Tmp} {α : Type} {enc : α → Value} {l l2 l3 l4 : List α} {b len : Nat}
theorem Ex.idxArrC {i:Int}{a:α}{k:IntKind}(hs:P.underlying t=some (.array len t0))(hz :∀w,(sizeOf t0).run P w = .ok 1 w)(hx:ev e x=some (ptr b 0))(hy:ev e y=some (.int k i))(hi:idxA len l i=some a):
 Ex P ⟨dst, .indexAddr t x y,ty,pos,af,g⟩ e w (ptr b i.toNat) w:=by
 obtain⟨h1,h2⟩:=idxA_some hi;have h3:=idx_lt h2;have:=Ex.idxArr (P:=P) (w:=w) (dst:=dst) (ty:=ty) (pos:=pos) (af:=af) (g:=g) (i:=i.toNat) hs hz hx (by rw[hy,l0h h3.1]) Om;rwa [l0n,l0x] at this
theorem map_idx {i:Int}{a:α}(hi:idxA len l i=some a):(l.map enc)[i.toNat]? = some (enc a):=by
 rw[List.getElem?_map,(idx_some (idxA_some hi).2).2];rfl
theorem Ex.loadArrM {i:Int}{a:α}(H:StX C w0 M0 M L w)(hx:ev e x=some (ptr b i.toNat))(hp:PtM M b (.cells (l.map enc).toArray t'))(hi:idxA len l i=some a)(ha :∀w,(isAgg tt).run P w = .ok false w):
 Ex P ⟨dst, .load tt x,ty,pos,af,g⟩ e w (enc a) w:=q0g H hx (hp.cell (map_idx hi)) ha
theorem WR.storeArr {i:Int}{a:α}{L':Item→List Item}(H:StX C w0 M0 M L w)(hx:ev e x=some (ptr b i.toNat))(hy:ev e y=some (enc a))(ho:One (enc a))(hu :∀it',Upd L (.blk b (.cells (l.map enc).toArray t')) it' (L' it'))(hi:putA len l i a=some l2)
 (hs :∀w,(sizeOf tt).run P w = .ok 1 w) (hw:Wn ops n D e ⟨none, .store tt x y,ty,pos,af,g⟩) (k :∀w',StX C w0 M0 M (L' (.blk b (.cells (l2.map enc).toArray t'))) w'→WR r P ops Q n D rest e w') :
 WR r P ops Q n D (⟨none, .store tt x y,ty,pos,af,g⟩::rest) e w:=by
 obtain⟨h1,h2⟩:=putA_some hi;obtain⟨h3,rfl⟩:=put_some h2;exact q0U _ H hx hy (hu _) (by rw[List.map_set]) hs (by rw[l0d];omega) ho.2 ho.1 hw k
theorem Ex.loadAggA (H:StX C w0 M0 M L w)(hx:ev e x=some (ptr b 0))(hm:Item.blk b (.cells (l.map enc).toArray t')∈L)(ha :∀w,(isAgg tt).run P w = .ok true w)(hs :∀w,(sizeOf tt).run P w = .ok len w)(hl:chkA len l=some l2):
 Ex P ⟨dst, .load tt x,ty,pos,af,g⟩ e w (.agg (l2.map enc).toArray) w:=by
 obtain⟨h1,rfl⟩:=chkA_some hl;exact q0f H hx hm ha hs (by rw[l0d];exact h1)
theorem StX.loadAggA (H:StX C w0 M0 M L w)(hm:Item.blk b (.cells (l.map enc).toArray t')∈L)(ha :∀w,(isAgg tt).run P w = .ok true w)(hs :∀w,(sizeOf tt).run P w = .ok len w)(hl:chkA len l=some l2):(loadVar tt ⟨b,0,none⟩).run P w = .ok (.agg (l2.map enc).toArray) w:=by
 obtain⟨h1,rfl⟩:=chkA_some hl;exact H.loadAgg hm ha hs (by rw[l0d];exact h1)
theorem WR.storeA {L':Item→List Item}(H:StX C w0 M0 M L w)(hx:ev e x=some (ptr b 0))(hy:ev e y=some (.agg (l2.map enc).toArray))(ho :∀a,(enc a).oneCell'=true)(hu :∀it',Upd L (.blk b (.cells (l.map enc).toArray t')) it' (L' it'))(h1:chkA len l=some l3)(h2:chkA len l2=some l4)
 (hs :∀w,(sizeOf tt).run P w = .ok len w) (hw:Wn ops n D e ⟨none, .store tt x y,ty,pos,af,g⟩) (k :∀w',StX C w0 M0 M (L' (.blk b (.cells (l2.map enc).toArray t'))) w'→WR r P ops Q n D rest e w') :
 WR r P ops Q n D (⟨none, .store tt x y,ty,pos,af,g⟩::rest) e w:=by
 have e1:=(chkA_some h1).1;have e2:=(chkA_some h2).1;exact q04 _ H hx hy rfl (hu _) hs (by rw[l0d];exact e2) (by rw[l0d];exact e1) (by rw[List.all_map];exact List.all_eq_true.2 (fun a _=>ho a)) hw k
theorem Ex.nilCheckP {p:Addr}(h:ev e x=some (.pointer (some p))):Ex P ⟨dst, .nilCheck x,ty,pos,af,g⟩ e w (.pointer (some p)) w:=⟨nofun,fun ρ hf=>by simp [execOp,hf _ _ h]⟩
abbrev _root_.q0w := @Ex.nilCheckP
theorem Ex.runeStr {d0:TypeDesc}{k:IntKind}{a:Int}(hs:P.underlying t=some d0)(hd:P.underlying t'=some .string)(hx:ev e x=some (.int k a)):Ex P ⟨dst, .convert t t' x,ty,pos,af,g⟩ e w (S (Chs.utf8 a)) w :=
 ⟨nofun,fun ρ hf=>by
  have hr:=run_convert_int_string (P:=P) w t t' k a (by rw[hs];rfl) hd;rw[Chs.encode_utf8] at hr;simp only[execOp,hf _ _ hx,Sem.run_bind,hr,Result.andThen_ok,Sem.run_pure]⟩
theorem StX.freezeVar {cs:Array Value}(H:St w0 M0 M L w)(hr:Rem L (.blk b (.cells cs t)) L'):∃M',M.le M'∧PtM M' b (.cells cs t)∧St w0 M0 M' L' w:=H.freezeBlk hr
end
def NilB (M:Mem)(v:Value)(b:Bool):Prop:=(b=true∧v = .nilIface)∨(b=false∧∃t u,v = .iface t u)
theorem NilB.mono {M M':Mem}{v:Value}{b:Bool}(h:NilB M v b)(hl:M.le M'):NilB M' v b:=h
section
variable {C : Nat → Prop} {r : Option Nat} {P : Program} {ops : Array Oper} {Q : Exit → Act → World → Prop} {n : Nat} {D : List Deferred} {rest : List Oper} {e : Env} {w0 w : World} {M0 M : Mem} {L L' : List Item} {d : Nat} {v u z : Value}
  {x : Operand} {ty t t' te ts tt t0 : TypeId} {pos : String} {af : Array Edge} {g : Option (Nat × Bool)} {dst : Option Tmp} {b : Bool}
theorem Ex.idxAggA {α:Type}{enc:α→Value}{l:List α}{len:Nat}{i:Int}{a:α}{k:IntKind}{y:Operand}(ht:P.underlying t=some (.array len t0))(hz :∀w,(sizeOf t0).run P w = .ok 1 w)(hg :∀w,(isAgg t0).run P w = .ok false w)(hx:ev e x=some (.agg (l.map enc).toArray))(hy:ev e y=some (.int k i))(hi:idxA len l i=some a):
 Ex P ⟨dst, .index t x y,ty,pos,af,g⟩ e w (enc a) w :=
 ⟨nofun,fun ρ hf=>by
  obtain⟨h1,h2⟩:=idxA_some hi;have h3:=idx_lt h2;have h4:=(idx_some h2).2;have h0:(0:Int)≤i∧i<(len:Int):=by omega
  have h5:(l.map enc)[i.toNat]? = some (enc a):=by rw[List.getElem?_map,h4];rfl
  simp only[execOp,hf _ _ hx,hf _ _ hy,Instr.index,asIntOf,Sem.run_bind,run_underlying ht,Result.andThen_ok,Sem.run_pure,hz,h0,and_self,if_true,l0x,part,hg,l0j,if_false,List.getElem?_toArray,h5]⟩
end
def skips (ops:Array Oper)(n:Nat):Env→List Oper→Option Env
 | e,[]=>some e
 | e,o::r=>match o.guard,o.dst with
   | some (j,b),some d=>match (ops[j]?).bind (·.dst) with
     | some t=>match get e t with
       | some (.bool b')=>bif (b' != b)&&Nat.blt d n then skips ops n ((d,undef)::e) r else none
       | some (.tuple _)=>bif Nat.blt d n then skips ops n ((d,undef)::e) r else none
       | _=>none
     | none=>none
   | _,_=>none
section
variable {r : Option Nat} {P : Program} {ops : Array Oper} {Q : Exit → Act → World → Prop} {n : Nat} {D : List Deferred} {e e' : Env} {w : World}
theorem WR.skips :∀{sk:List Oper} {rest:List Oper} {e:Env},Ph.skips ops n e sk=some e'→WR r P ops Q n D rest e' w→WR r P ops Q n D (sk++rest) e w
 | [],rest,e,h,k=>by
   cases h;exact k
 | o :: sk,rest,e,h,k=>by
   rw[Ph.skips] at h;split at h
   case h_2=>cases h
   rename_i j b d hg hd;split at h
   case h_2=>cases h
   rename_i t ht;split at h
   · rename_i b' hb;cases hc:((b' != b)&&Nat.blt d n) with
     | false=>rw[hc] at h;cases h
     | true =>
       rw[hc] at h;rw[l0e] at hc;have hne:b'≠b:=by simpa using hc.1
       exact WR.skipK (fun a ha=>by
        have:=yielded_of ht ha hb;simp [Region.wanted,hg,this,hne]) hd (l06 hc.2) (WR.skips h k)
   · rename_i xs hb;cases hc:Nat.blt d n with
     | false=>rw[hc] at h;cases h
     | true =>
       rw[hc] at h;exact WR.skipK (fun a ha=>by
        have hv:=ha.val t _ hb;have:yielded ops a.tmps j=none:=by
         unfold yielded;rw[ht];simp only[l0S];cases htt:a.tmps[t]? with
         | none=>rfl
         | some x=>simp [htt] at hv;subst hv;rfl
        simp [Region.wanted,hg,this]) hd (l06 hc) (WR.skips h k)
   cases h
theorem WR.skipN (m:Nat){l rest:List Oper}(hr:l.drop m=rest)(h:Ph.skips ops n e (l.take m)=some e')(k:WR r P ops Q n D rest e' w):WR r P ops Q n D l e w:=by
 subst hr;have:=WR.skips h k;rwa [l0w] at this
abbrev _root_.q05 := @WR.skipN
end
end Go.Ph
end
section
namespace Go.Ph
open Go Go.RowKit
theorem kMh {α:Type}{a:α}{l:List α}:a∈a::l:=List.Mem.head _
theorem kMt {α:Type}{a b:α}{l:List α}(h:a∈l):a∈b::l:=List.Mem.tail _ h
theorem kPn {L:List Item}:Pick L []:=Pick.nil
theorem kPc {L L' K:List Item}{it:Item}(h:Rem L it L')(k:Pick L' K):Pick L (it::K):=Pick.cons h k
universe u
theorem _root_.G {α:Sort u}{a:α}:a=a:=rfl
theorem _root_.Kr {p:Prop}(h:p:=by kernel_rfl):p:=h
theorem _root_.Km {p:Prop}(h:p:=by repeat first|exact kMh|apply kMt):p:=h
theorem _root_.Ku {p:Prop}(h:p:=by repeat first|exact Upd.head|apply Upd.tail):p:=h
theorem _root_.Kv {p:Prop}(h:p:=by repeat first|exact Rem.head|apply Rem.tail):p:=h
theorem _root_.Kp {p:Prop}(h:p:=by repeat first|exact kPn|refine kPc (by repeat first|exact Rem.head|apply Rem.tail) ?_):p:=h
theorem _root_.Kf {p:Prop}(h:p:=by rfl):p:=h
class RTo (Q:Exit→Act→World→Prop)(Q0:outParam (Exit→Act→World→Prop)):Prop where
 rto :∀{n:Nat} {D:List Deferred} {e:Env} {w:World},WQ Q0 .ret n D e w→WQ Q .ret n D e w
section
variable {r : Option Nat} {P : Program} {ops : Array Oper} {Q Q0 : Exit → Act → World → Prop} {n fuel : Nat} {D : List Deferred} {rest l : List Oper} {e : Env} {w w' : World} {o : Oper} {d j t : Nat} {v : Value} {op : Go.Op} {x x2 c : Operand} {y z : Code} {ty : TypeId} {pos : String} {af : Array Edge} {K : Act → World → Prop} {listed : Array Bool} {b : Bool}
instance [h : RTo Q Q0]:RTo (Exit.then K Q) Q0:=⟨fun k=>WQ.thenRet (h.rto k)⟩
instance {id : Nat} [h:RTo Q Q0]:RTo (Exit.inBlock id Q) Q0:=⟨fun k=>WQ.inBlockRet (h.rto k)⟩
instance {JN : Env→World→Prop} {JL:List (Nat × (Env→World→Prop))} {n:Nat} {D:List Deferred} [h:RTo Q Q0]:RTo (CutX JN JL n D Q) Q0:=⟨fun{n' D' e w} k a ha=>h.rto k a ha⟩
instance [h : RTo Q Q0]:RTo (Straight Q) Q0:=⟨fun k=>WQ.scRet (h.rto k)⟩
instance {fn : Func} {R:Ending→World→Prop}:RTo (bodyPost P fn R) (bodyPost P fn R):=⟨id⟩
instance {F : Fence} {m:Nat} {fn:Func} {R:Ending→World→Prop}:RTo (bodyPostM F m P fn R) (bodyPostM F m P fn R):=⟨id⟩
instance {lid : Nat} {R:Ending→World→Prop}:RTo (roundPost P lid R) (roundPost P lid R):=⟨id⟩
theorem RT [h:RTo Q Q0](k:WQ Q0 .ret n D e w):WC r P Q n D .ret e w:=WC.ret (h.rto k)
theorem TN {Q':Exit→Act→World→Prop}(k:WC r P Q n D y e w):WQ (Exit.then (y.wpIn (Wd r) 0 P Q) Q') .normal n D e w:=WQ.then k
theorem NL (k:WQ Q .normal n D e w):WR r P ops Q n D [] e w:=WR.nil k
theorem SQ (k:WC r P (Exit.then (y.wpIn (Wd r) 0 P Q) Q) n D z e w):WC r P Q n D (.seq z y) e w:=WC.seq k
theorem RG {id:Nat}(k:WR r P l.toArray Q n D l e w):WC r P Q n D (.region id l.toArray false) e w:=WC.region k
theorem SK (k:WQ Q .normal n D e w):WC r P Q n D .skip e w:=WC.skip k
theorem IB {id:Nat}(k:WQ Q .normal n D e w):WQ (Exit.inBlock id Q) .normal n D e w:=WQ.inBlock k
theorem BL {id:Nat}(k:WC r P (Exit.inBlock id Q) n D y e w):WC r P Q n D (.block id y) e w:=WC.block k
theorem CT (hc:ev e c=some (.bool true))(k:WC r P Q n D y e w):WC r P Q n D (.cond c y z) e w:=WC.condT hc k
theorem CF (hc:ev e c=some (.bool false))(k:WC r P Q n D z e w):WC r P Q n D (.cond c y z) e w:=WC.condF hc k
theorem NA (k:WA r P ops Q n D fuel listed e w):WR r P ops (Qa r P ops Q fuel listed) n D [] e w:=WR.nil (WQ.any k)
theorem ON (i:Nat)(hr:Region.ready .any ops listed=[i])(ho:ops[i]? = some o)(k:WR r P ops (Qa r P ops Q fuel (listed.setIfInBounds i true)) n D [o] e w):WA r P ops Q n D (fuel+1) listed e w:=WA.one hr ho k
theorem MV (h:ev e x=some v)(hn:Nat.blt d n=true)(k:WR r P ops Q n D rest ((d,v)::e) w):WR r P ops Q n D (⟨some d, .move x,ty,pos,af,none⟩::rest) e w:=q0I (q01 h) (q00 rfl) rfl hn k
theorem AS (h:ev e x=some v)(hn:Nat.blt d n=true)(k:WR r P ops Q n D rest ((d,v)::e) w):WR r P ops Q n D (⟨some d, .assign x,ty,pos,af,none⟩::rest) e w:=q0I (q0N h) (q00 rfl) rfl hn k
theorem PT (hc:ev e c=some (.bool true))(h:ev e x=some v)(hn:Nat.blt d n=true)(k:WR r P ops Q n D rest ((d,v)::e) w):WR r P ops Q n D (⟨some d, .pick c x x2,ty,pos,af,none⟩::rest) e w:=q0I (q0q hc h) (q00 rfl) rfl hn k
theorem PF (hc:ev e c=some (.bool false))(h:ev e x2=some v)(hn:Nat.blt d n=true)(k:WR r P ops Q n D rest ((d,v)::e) w):WR r P ops Q n D (⟨some d, .pick c x x2,ty,pos,af,none⟩::rest) e w:=q0I (q0m hc h) (q00 rfl) rfl hn k
theorem ST (hx:Ex P ⟨some d,op,ty,pos,af,none⟩ e w v w')(hn:Nat.blt d n=true)(k:WR r P ops Q n D rest ((d,v)::e) w'):WR r P ops Q n D (⟨some d,op,ty,pos,af,none⟩::rest) e w:=q0I hx (q00 rfl) rfl hn k
theorem SG (hx:Ex P ⟨some d,op,ty,pos,af,some (j,b)⟩ e w v w')(hj:(ops[j]?).bind (·.dst)=some t)(hb:get e t=some (.bool b))(hn:Nat.blt d n=true)(k:WR r P ops Q n D rest ((d,v)::e) w'):WR r P ops Q n D (⟨some d,op,ty,pos,af,some (j,b)⟩::rest) e w:=q0I hx (q06 rfl hj hb) rfl hn k
theorem GT (hj:(ops[j]?).bind (·.dst)=some t)(hb:get e t=some (.bool true))(hn:Nat.blt d n=true)(k:WR r P ops Q n D rest ((d,undef)::e) w):WR r P ops Q n D (⟨some d,op,ty,pos,af,some (j,false)⟩::rest) e w:=WR.skipG (b:=true) rfl hj hb rfl hn k
theorem GF (hj:(ops[j]?).bind (·.dst)=some t)(hb:get e t=some (.bool false))(hn:Nat.blt d n=true)(k:WR r P ops Q n D rest ((d,undef)::e) w):WR r P ops Q n D (⟨some d,op,ty,pos,af,some (j,true)⟩::rest) e w:=WR.skipG (b:=false) rfl hj hb rfl hn k
theorem CB {p:Prop}{_i:Decidable p}(hc:ev e c=some (.bool (decide p)))(kt:p→WC r P Q n D y e w)(kf :¬p→WC r P Q n D z e w):WC r P Q n D (.cond c y z) e w:=q0b hc (fun h=>kt (of_decide_eq_true h)) (fun h=>kf (of_decide_eq_false h))
theorem XL {C:Nat→Prop}{w0:World}{M0 M:Mem}{L:List Item}{g:Option (Nat × Bool)}{dst:Option Nat}{tt t':TypeId}{bk o:Nat}{cs:List Value}(H:StX C w0 M0 M L w)(ha :∀w,(isAgg tt).run P w = .ok false w)(hx:ev e x=some (ptr bk o):=by rfl)(hm:Item.blk bk (.cells cs.toArray t')∈L:=by repeat first|exact kMh|apply kMt)(hv:cs[o]? = some v:=by rfl):Ex P ⟨dst, .load tt x,ty,pos,af,g⟩ e w v w:=Ex.load1 H hx hm ha hv
theorem MN {JN:Env→World→Prop}{JL:List (Nat × (Env→World→Prop))}{Q':Exit→Act→World→Prop}{e':Env}(hJ:JN e' w)(hs:Sub e' e:=by repeat first|exact True.intro|refine⟨rfl,?_⟩):WQ (CutX JN JL n D Q') .normal n D e w:=WQ.meetN e' hs hJ
theorem MP {J:Env→World→Prop}{Q':Exit→Act→World→Prop}{e':Env}(hJ:J e' w)(hs:Sub e' e:=by repeat first|exact True.intro|refine⟨rfl,?_⟩):WQ (Exit.then (fun a' w' =>∃e',Sat n D e' a'∧J e' w') Q') .normal n D e w:=WQ.meetP e' hs hJ
theorem AG {J:Nat→Env→World→Prop}{m:Nat}{Q':Exit→Act→World→Prop}{e':Env}(m':Nat)(hJ:J m' e' w)(hm:m'<m)(hs:Sub e' e:=by repeat first|exact True.intro|refine⟨rfl,?_⟩):WQ (Exit.then (fun a' w' =>∃m' e',Sat n D e' a'∧J m' e' w'∧m'<m) Q') .normal n D e w:=WQ.againP m' e' hs hJ hm
theorem DT {p:Prop}{_i:Decidable p}(h:p)(hx:Ex P ⟨some d,op,ty,pos,af,none⟩ e w (.bool (decide p)) w')(hn:Nat.blt d n=true)(k:WR r P ops Q n D rest ((d, .bool true)::e) w'):WR r P ops Q n D (⟨some d,op,ty,pos,af,none⟩::rest) e w:=q09 hx (congrArg Value.bool (decide_eq_true h)) (q00 rfl) rfl hn k
theorem DF {p:Prop}{_i:Decidable p}(h :¬p)(hx:Ex P ⟨some d,op,ty,pos,af,none⟩ e w (.bool (decide p)) w')(hn:Nat.blt d n=true)(k:WR r P ops Q n D rest ((d, .bool false)::e) w'):WR r P ops Q n D (⟨some d,op,ty,pos,af,none⟩::rest) e w:=q09 hx (congrArg Value.bool (decide_eq_false h)) (q00 rfl) rfl hn k
theorem DU {p:Prop}{_i:Decidable p}(h:p)(hx:Ex P ⟨some d,op,ty,pos,af,some (j,b)⟩ e w (.bool (decide p)) w')(hj:(ops[j]?).bind (·.dst)=some t)(hb:get e t=some (.bool b))(hn:Nat.blt d n=true)(k:WR r P ops Q n D rest ((d, .bool true)::e) w'):WR r P ops Q n D (⟨some d,op,ty,pos,af,some (j,b)⟩::rest) e w:=q09 hx (congrArg Value.bool (decide_eq_true h)) (q06 rfl hj hb) rfl hn k
theorem DG {p:Prop}{_i:Decidable p}(h :¬p)(hx:Ex P ⟨some d,op,ty,pos,af,some (j,b)⟩ e w (.bool (decide p)) w')(hj:(ops[j]?).bind (·.dst)=some t)(hb:get e t=some (.bool b))(hn:Nat.blt d n=true)(k:WR r P ops Q n D rest ((d, .bool false)::e) w'):WR r P ops Q n D (⟨some d,op,ty,pos,af,some (j,b)⟩::rest) e w:=q09 hx (congrArg Value.bool (decide_eq_false h)) (q06 rfl hj hb) rfl hn k
theorem FN {d2:Nat}{y1 y2:Operand}{t1 ty2:TypeId}{pos2:String}{af2:Array Edge}{p:Addr}{bk o i sz:Nat}{fs:Array Field}{f:Field}(h1:ev e y1=some (.pointer (some p)))(hn:Nat.blt d n=true)(hs:P.underlying t1=some (.struct fs))(hf:fs[i]? = some f)(hz :∀w,(sizeOf f.type).run P w = .ok sz w)(h2:ev ((d, .pointer (some p))::e) y2=some (ptr bk o))(hn2:Nat.blt d2 n=true)
 (k:WR r P ops Q n D rest ((d2,ptr bk (o+f.offset))::(d, .pointer (some p))::e) w) (hnz:sz≠0:=by decide):WR r P ops Q n D (⟨some d, .nilCheck y1,ty,pos,af,none⟩::⟨some d2, .fieldAddr t1 y2 i,ty2,pos2,af2,none⟩::rest) e w:=ST (q0w h1) hn (ST (q02 hs hf hz hnz h2) hn2 k)
theorem TK (i:Nat)(ho:ops[i]? = some ⟨some d,op,ty,pos,af,none⟩)(hx :∀w,Ex P ⟨some d,op,ty,pos,af,none⟩ e w v w)(hn:Nat.blt d n=true)(k:WA none P ops Q n D fuel (listed.setIfInBounds i true) ((d,v)::e) w)(hs:Region.noSelect ops=true:=by kernel_rfl)(hf:Region.free .any ops listed i=true:=by kernel_rfl)(hr:(Region.ready .any ops listed).contains i=true:=by kernel_rfl)
 (hab :∀w ρ,(⟨some d,op,ty,pos,af,none⟩:Oper).about P w ρ=none:=by intro _ _;rfl):WA none P ops Q n D (fuel+1) listed e w:=q0F ho hs hf hr hx (q00 rfl) rfl hn hab k
theorem oI {α:Type}{a b:α}(h:some a=some b):a=b:=Option.some.inj h
end
end Go.Ph
end
section
namespace Go.Ph
open Go Go.RowKit Pl
namespace Pl
def mkS {α:Type}(bytes:Nat)(n c:Int)(z:α):Option (List α):=if 0≤n∧n≤c∧(bytes:Int)*c≤281474976710656∧c≤9223372036854775807 then some (List.replicate n.toNat z) else none
theorem mkS_ok {α:Type}{bytes:Nat}{n c:Int}{z:α}(h0:0≤n)(h1:n≤c)(h2:(bytes:Int)*c≤281474976710656)(h3:c≤9223372036854775807):mkS bytes n c z=some (List.replicate n.toNat z):=by unfold mkS;rw [if_pos ⟨h0,h1,h2,h3⟩]
end Pl
theorem mkS_some {α:Type}{bytes:Nat}{n c:Int}{z:α}{l:List α}(h:mkS bytes n c z=some l):(0≤n∧n≤c∧(bytes:Int)*c≤281474976710656∧c≤9223372036854775807)∧l=List.replicate n.toNat z:=by
 unfold mkS at h;split at h
 · cases h;exact ⟨‹_›,rfl⟩
 cases h
theorem made_take {zs:Array Value}{us:List Value}{kk:Nat}(hz:zs.toList=us)(hk:us.length=kk)(hp:0<kk)(n c:Nat)(h:n≤c):(madeCells zs (c*kk)).toList.take (n*kk)=(List.replicate n us).flatten:=by
 have hsz:zs.size=kk:=by rw[←hk,←hz,Array.length_toList]
 apply l0X;intro i;have hle:n*kk≤c*kk:=l0B kk h;by_cases hi:i<n*kk
 · rw [List.getElem?_take_of_lt hi];have h1:i % kk<kk:=l1H _ hp;have h2:i / kk<n:=by rw[Nat.div_lt_iff_lt_mul hp];exact hi
   have hl:(madeCells zs (c*kk)).toList[i]? = some us[i % kk]:=by
    simp only[madeCells,Array.getElem?_toList,Array.getElem?_map];have:(Array.range (c*kk))[i]? = some i:=by
     rw[Array.getElem?_eq_some_iff];exact⟨by rw[Array.size_range];omega,by simp⟩
    rw[this,l0Q,hsz];have:zs[i % kk]! = us[i % kk]:=by
     subst hz;rw[getElem!_pos zs (i % kk) Om];simp
    rw[this]
   rw[hl];have hfl :∀(n i:Nat),i<n*kk→(List.replicate n us).flatten[i]? = some (us[i % kk]'(by rw[hk];exact l1H _ hp)):=by
    intro n;induction n with
    | zero=>intro i hi;simp at hi
    | succ n ih =>
      intro i hi;rw[List.replicate_succ,l0A];by_cases hik:i<kk
      · rw[List.getElem?_append_left Om];have:i % kk=i:=l1d hik;simp only[this];exact List.getElem?_eq_getElem Om
      have h4:(i-kk) % kk=i % kk:=by rw[←Nat.mod_eq_sub_mod Om]
      have h5:=ih (i-kk) (by rw[Nat.succ_mul] at hi;omega);simp only[h4] at h5;rw[List.getElem?_append_right Om,←h5];congr 1;omega
   rw[hfl n i hi]
 have h6:(List.replicate n us).flatten.length=n*kk:=by simp [hk]
 rw[List.getElem?_eq_none (by simp only[l0g,Array.length_toList,size_madeCells];omega),List.getElem?_eq_none Om]
section
variable {C : Nat → Prop} {r : Option Nat} {P : Program} {ops : Array Oper} {Q : Exit → Act → World → Prop} {n : Nat} {D : List Deferred} {rest : List Oper} {e : Env} {w0 w : World} {M0 M : Mem} {L L' : List Item} {d : Nat} {v u z : Value}
  {x y : Operand} {ty t t' te ts tt t0 : TypeId} {pos : String} {af : Array Edge} {g : Option (Nat × Bool)} {dst : Option Tmp} {b : Bool}
theorem run_makeRow {kk bytes:Nat}(T:ElemTy P ts t z kk bytes){us:List Value}(hz:z.cells.toList=us)(k1 k2:IntKind){a c:Int}(h:0≤a∧a≤c∧(bytes:Int)*c≤281474976710656∧c≤9223372036854775807):
 ∃w',(Instr.makeSlice ts (.int k1 a) (.int k2 c)).run P w = .ok (.slice (some ⟨w.heap.size,0,none⟩) a.toNat c.toNat) w'∧
  w'.ownsRow 0 t kk (.slice (some ⟨w.heap.size,0,none⟩) a.toNat c.toNat) a.toNat (List.replicate a.toNat us).flatten∧w.grownBy w' none:=by
 obtain⟨i,hi,hz',hsz,hb⟩:=T.info;subst hb;have hr:=run_make (P:=P) w ts t i z T.under hi hz' k1 k2 a c h.1 h.2.1 h.2.2.1 h.2.2.2;have hus:us.length=kk:=by rw[←hz];simpa using T.zs
 refine⟨_,hr,⟨by simp [hus,Nat.mul_comm], .inr ⟨w.heap.size,c.toNat,madeCells z.cells (c.toNat*i.size),G,l0C _,heap_alloc_new w _,by omega,by simp only[maxLen];omega,by rw[size_madeCells,hsz],?_⟩⟩,World.grownBy_alloc w _ none⟩;rw[hsz];exact made_take hz hus T.pos _ _ Om
theorem WR.mkC {α:Type}{enc:α→Value}{z0:α}{k1 k2:IntKind}{bytes:Nat}{a c:Int}{l:List α}(T:ElemTy P ts t z 1 bytes)(hz:z.cells.toList=[enc z0])(H:StX C w0 M0 M L w)(hx:ev e x=some (.int k1 a))(hy:ev e y=some (.int k2 c))(hm:mkS bytes a c z0=some l)
 (hw:Wn ops n D e ⟨some d, .makeSlice ts x y,ty,pos,af,g⟩) (hn:Nat.blt d n=true)
 (k :∀v' w',StX C w0 M0 M (RowI t enc v' l::L) w'→WR r P ops Q n D rest ((d,v')::e) w') :
 WR r P ops Q n D (⟨some d, .makeSlice ts x y,ty,pos,af,g⟩::rest) e w:=by
 obtain⟨h,rfl⟩:=mkS_some hm;obtain⟨w',hr,ho,hg⟩:=run_makeRow (w:=w) T hz k1 k2 h;refine q0I (w':=w') ⟨nofun,fun ρ hf=>?_⟩ hw G hn (k _ _ (H.new hg (it:=RowI t enc _ (List.replicate a.toNat z0)) (by
  have:(List.replicate a.toNat [enc z0]).flatten=(List.replicate a.toNat z0).map enc:=by simp
  rw[this] at ho;have h2:(List.replicate a.toNat z0).length=a.toNat:=by simp
  show World.ownsRow _ _ _ _ _ (List.replicate a.toNat z0).length _
  rw[h2];exact ho) (fun b hb=>by cases hb;exact l09 _)))
 simp only[execOp,hf _ _ hx,hf _ _ hy,Sem.run_bind,hr,Result.andThen_ok,Sem.run_pure]
end
section
variable {P : Program} {e : Env} {w : World} {x : Operand} {ty t : TypeId} {pos : String} {af : Array Edge} {g : Option (Nat × Bool)} {dst : Option Tmp} {a z : Int}
end
section
variable {P : Program} {α : Type} {enc : α → Value} [DecidableEq α] {t t0 : TypeId} {d n : Nat}
end
def GlF (φ:World→Prop)(M:Mem):Prop :=∀w,Ag M w→φ w
theorem GlF.mono {φ:World→Prop}{M M':Mem}(h:GlF φ M)(hl:M.le M'):GlF φ M':=fun w ha=>h w (fun b o hb=>ha b o (hl b o hb))
end Go.Ph
end
section
namespace Go.Ph
open Go Go.RowKit Pl
namespace Pl
def dgF : Nat→Nat→Ls
 | 0,_=>[]
 | m+1,n=>if n<10 then [UInt8.ofNat (48+n)] else dgF m (n / 10)++[UInt8.ofNat (48+n % 10)]
def itoaP (n:Int):Ls:=if n<0 then 45::dgF 20 n.natAbs else dgF 20 n.toNat
theorem dgF_eq :∀(m n:Nat),n<10 ^ (m+1)→dgF (m+1) n=Lib.decDigits n
 | 0,n,h=>by
   have h:n<10:=by simpa using h
   rw[dgF,Lib.decDigits,if_pos h,dif_pos h]
 | m+1,n,h=>by
   rw[dgF,Lib.decDigits];by_cases hn:n<10
   · rw[if_pos hn,dif_pos hn]
   rw[if_neg hn,dif_neg hn,dgF_eq m (n / 10) (by rw[Nat.div_lt_iff_lt_mul Om,←Nat.pow_succ];exact h)]
theorem itoaP_eq {n:Int}(h : -9223372036854775808≤n∧n≤9223372036854775807):itoaP n=Lib.itoa n:=by
 unfold itoaP Lib.itoa;rw[dgF_eq 19 n.natAbs Om,dgF_eq 19 n.toNat Om]
end Pl
theorem Ext.ofBelow {M:Mem}{w w':World}(ha:Ag M w)(hw:Below w.heap.size w w'):Ext w M w' M :=
 ⟨BelowX.of hw _,Mem.le.refl M,fun b' o' hb'=>by rw[hw.block b' (ha.lt hb')];exact ha b' o' hb',fun b' hb'=>rfl⟩
abbrev _root_.q1q := @Ext.ofBelow
theorem below_grow (w:World)(k:Nat)(os:Array Obj):Below w.heap.size w (Sort.grow (w.drewN k) os):=by
 have h1:Below w.heap.size w (w.drewN k):=below_drewN (Below.refl _ w) k;refine h1.trans ⟨G,G,G,by simp [Sort.grow],fun j hj=>?_⟩;have:j<(w.drewN k).heap.size:=l0L hj h1.size;show((w.drewN k).heap++os)[j]? =(w.drewN k).heap[j]?
 exact Array.getElem?_append_left this
theorem Sl.split {M:Mem}{b:Nat}{t:TypeId}{xs:List ByteArray}{l:List Ls}{n:Nat}(hx:xs.map (·.data.toList)=l)(hn:l.length=n)(hm:n≤9223372036854775807)(h:M b=some (.cells (xs.map Value.string).toArray t (0,0))):Sl M encS (.slice (some ⟨b,0,none⟩) n n) l:=by
 have hl:xs.map Value.string=l.map encS:=by
  subst hx;rw[l1x];apply l1q;intro x _;cases x;simp [encS]
 rw[hl] at h;subst hn;refine⟨some ⟨b,0,none⟩,l.length,G,l09 _,⟨by simp only[maxLen];omega,fun h=>by cases h⟩,fun _=>⟨b,0,_,t,(0,0),G,h,fun i x hi=>?_⟩⟩;rw[l0n,List.getElem?_toArray,List.getElem?_map,hi];rfl
theorem split_of (s sep:Ls):(Lib.splitB ⟨sep.toArray⟩ 0 (Lib.countB ⟨s.toArray⟩ ⟨sep.toArray⟩) ⟨s.toArray⟩).map (·.data.toList)=Lib.split s sep:=by
 rw[Lib.splitB_data];rfl
theorem split_len (s sep:Ls)(h:1≤sep.length):(Lib.split s sep).length=Lib.countB ⟨s.toArray⟩ ⟨sep.toArray⟩+1:=by
 rw[←split_of,l0d];exact Lib.splitB_all ⟨sep.toArray⟩ (by simpa [ByteArray.size] using h) 0 _ _ G
end Go.Ph
end
section
namespace Go.Ph
open Go Go.RowKit Go.ChangeShapes Go.WideShapes Go.ChangeAt
abbrev memOf (W:World):Mem:=fun b=>W.heap[b]?
theorem ag_memOf (W:World):Ag (memOf W) W:=fun _ _ h=>h
section
variable {H : Type} {enc : TypeId × Value → H} {P : Program} {W W' : World}
theorem trodAll_stays (hl:laidOutB P=true)(hB:Below W.heap.size W W'){sp:Nat→Bool}:∀{ts:List TypeId} {vs:List Value} {ds:List (DataW H)} {ps:List MemPlace},(∀t∈ts,P.readableRec t=true∧t<P.types.size)→
 (∀x∈ps,x.block<W.heap.size)→(∀x∈ps,sp x.block=true)→DataW.TrodAll enc P W 0 (fun _=>true) true ts vs ds ps→DataW.TrodAll enc P W' 0 sp true ts vs ds ps
 | [],_,_,_,_,_,_,h=>by
   obtain⟨rfl,rfl,rfl⟩:=trodAll_nil h;exact trodAll_mk0
 | t::ts,_,_,_,ht,hlt,hs,h=>by
   obtain⟨v,vs',d,ds',p,q,rfl,rfl,rfl,h1,h2⟩:=trodAll_cons h;have ht1:=ht t l0H;exact⟨p,q,WideElems.Trod_stays hl ht1.1 ht1.2 h1 (fun x hx=>hB.same (hlt x (l0W _ hx))) (fun x hx=>hs x (l0W _ hx)),
    trodAll_stays hl hB (fun t' ht'=>ht t' (l0p _ ht')) (fun x hx=>hlt x (l0Z _ hx)) (fun x hx=>hs x (l0Z _ hx)) h2,rfl⟩
theorem law_done {f:Func}{s:ChangeSpec}{tb:TypeId}{apart fresh handsOn:Bool}{args:Array Value}{ds:List (DataW H)}{before:List MemPlace}(hl:laidOutB P=true)(hr0:(f.params.toList.all fun t=>P.readableRec t&&decide (t<P.types.size))=true)(hrt:f.resultTypes = #[tb])(hb:P.underlying tb=some .bool)
 (hW:DataW.Whole enc P f.params.toList s.vars apart W args.toList ds [] before) (hA:DataW.TrodAll enc P W 0 (fun _=>true) true f.params.toList args.toList ds before) (hv:s.vars=[]) (h1:(s.fn H (ds++[])).results=[.lit (.bool true)]) (h2:(s.fn H (ds++[])).args=ds) (h3:(s.fn H (ds++[])).vars=[])
 (hB:Below W.heap.size W W'):s.post enc P f apart fresh handsOn false W args (.bool true) W':=by
 have hlt :∀p∈before,p.block<W.heap.size:=fun p hp=>hW.lt p hp
 have hr :∀t∈f.params.toList,P.readableRec t=true∧t<P.types.size:=fun t ht=>by simpa using List.all_eq_true.1 hr0 t ht
 refine⟨ds,[],before,[],before,[],hW,?_,?_,?_,hB.frame _,fun h=>by cases h⟩
 · rw[hrt,h1];exact trodAll_mk1 (shut_bool hb _)
 · rw[h2];exact trodAll_stays hl hB hr hlt (fun x hx=>by simpa using hlt x hx) hA
 rw[hv,h3];rfl
theorem cells_at {A:Addr}{n:Nat}{f:Nat→Value}(hn:0<n)(h :∀i,i<n→W.cell? (A.add i)=some (f i)):∃b o cs t fz,A=⟨b,o,none⟩∧memOf W b=some (.cells cs t fz)∧∀i,i<n→cs[o+i]? = some (f i):=by
 obtain⟨b,o,s⟩:=A;obtain rfl:s=none:=by simpa [Addr.add] using World.cell?_spot (h 0 hn)
 have h0:=h 0 hn;rw[Addr.add_lit] at h0;simp only[World.cell?] at h0;cases hb:W.heap[b]? with
 | none=>rw[hb] at h0;cases h0
 | some ob =>
   cases ob with
   | cells cs t fz =>
     refine⟨b,o,cs,t,fz,G,hb,fun i hi=>?_⟩;have:=h i hi;rw[Addr.add_lit] at this;simpa [World.cell?,hb] using this
   | _=>rw[hb] at h0;cases h0
def DLen {H:Type}(d:DataW H)(n:Nat):Prop:=(d = .nil∧n=0)∨∃els sp,d = .slice els sp∧els.length=n
theorem weights_at {ts:List TypeId}{ds:List (DataW H)}(h :∀x∈DataW.weightsEach P ts ds,x≤reachBytes):∀(j:Nat) (t:TypeId) (d:DataW H),ts[j]? = some t→ds[j]? = some d→∀x∈d.weights P t,x≤reachBytes:=by
 intro j;induction j generalizing ts ds with
 | zero =>
   intro t d ht hd x hx;cases ts with
   | nil=>cases ht
   | cons a ts=>cases ds with
     | nil=>cases hd
     | cons b ds =>
       cases ht;cases hd;exact h x (by rw[DataW.weightsEach];exact l0W _ hx)
 | succ j ih =>
   intro t d ht hd x hx;cases ts with
   | nil=>cases ht
   | cons a ts=>cases ds with
     | nil=>cases hd
     | cons b ds=>exact ih (fun y hy=>h y (by rw[DataW.weightsEach];exact l0Z _ hy)) t d ht hd x hx
theorem weights_of {ts vs:List TypeId}{ds gs:List (DataW H)}(h:(DataW.weightsEach P (ts++vs) (ds++gs)).all (· ≤reachBytes)=true)(j:Nat)(t:TypeId)(d:DataW H)(ht:ts[j]? = some t)(hd:ds[j]? = some d):∀x∈d.weights P t,x≤reachBytes :=
 weights_at (fun x hx=>of_decide_eq_true (List.all_eq_true.1 h x hx)) j t d (by rw[List.getElem?_append_left (List.getElem?_eq_some_iff.1 ht).1];exact ht) (by rw[List.getElem?_append_left (List.getElem?_eq_some_iff.1 hd).1];exact hd)
theorem str_weight {t:TypeId}{b:Ls}(h :∀x∈(DataW.lit (H:=H) (.string b)).weights P t,x≤reachBytes):b.length≤140737488351232:=h b.length (by simp [DataW.weights])
theorem slice_weight {t e:TypeId}{d:DataW H}{n k:Nat}(ht:P.underlying t=some (.slice e))(hb:P.bytesOf e=k)(hk:0<k)(hd:DLen d n)(h :∀x∈d.weights P t,x≤reachBytes):n≤140737488351232:=by
 rcases hd with ⟨_,rfl⟩|⟨els,sp,rfl,rfl⟩
 · omega
 have h1:=h ((els.length+sp.length)*k) (by simp only[DataW.weights,ht,hb];exact l0H);have h2:els.length≤(els.length+sp.length)*k:=l1a (Nat.le_add_right _ _) (l1z _ hk);simp only[reachBytes] at h1;omega
theorem wf_u8 {z:Int}(h:(Lit.int .u8 z).wf=true):0≤z∧z≤255:=by simpa [Lit.wf,IntKind.min,IntKind.max,IntKind.signed,IntKind.bits] using h
end
end Go.Ph
end
section
namespace Go.Ph
open Go Go.RowKit
theorem var_up {P:Program}{W w:World}(ha:Ag (memOf W) w){n:String}{cs:Array Value}(h:W.var? P n=some cs):w.var? P n=some cs:=by
 unfold World.var? at h ⊢;cases hg:P.globalNamed n with
 | none=>rw[hg] at h;cases h
 | some g =>
   rw[hg] at h;simp only[Option.bind_eq_bind,l0S] at h ⊢;cases hb:W.heap[g]? with
   | none=>rw[hb] at h;cases h
   | some o=>rw[ha g o hb];rw [hb] at h;exact h
theorem cell_upM {W w:World}(ha:Ag (memOf W) w){p:Addr}{v:Value}(h:W.cell? p=some v):w.cell? p=some v:=by
 unfold World.cell? at h ⊢;cases hb:W.heap[p.block]? with
 | none=>rw[hb] at h;cases h
 | some o=>rw[ha p.block o hb];rw [hb] at h;exact h
theorem tab_of_reads {P:Program}{W:World}{n:String}{k:IntKind}{zs:List Int}{g len:Nat}{t e:TypeId}(h:Lib.VarReads P W n (Lib.tabData k zs))
 (hg:P.globalNamed n=some g) (hty:(P.globals[g]?).map (·.type)=some t) (ht:P.underlying t=some (.array len e)) (he:P.underlying e=some (.int k)) (hce:P.cellsOf e=1) (hct:P.cellsOf t=len):GlF (fun w=>Lib.TabIs P w n k zs) (memOf W):=by
 obtain⟨g',t',cs,fuel,p,hg',ht',hvar,hd⟩:=h;obtain rfl:=oI (hg.symm.trans hg');obtain rfl:=oI (hty.symm.trans ht');intro w ha;have:=var_up ha hvar;unfold Lib.TabIs;rw[this,←Lib.cells_of_tab ht he hce hct hd]
end Go.Ph
end
section
namespace Go.Ph
open Go Go.RowKit
namespace Pl
def runL {σ α:Type}(Y:σ→α→Option (σ × Bool)):List α→σ→Option σ
 | [],s=>some s
 | x::xs,s=>(Y s x).bind fun r=>if r.2=true then runL Y xs r.1 else some r.1
def stepY {σ α:Type}(stop:σ→Bool)(B:σ→α→Option σ)(s:σ)(x:α):Option (σ × Bool):=if stop s=true then none else(B s x).map fun s'=>(s',!stop s')
abbrev goOn {σ:Type}:σ→Bool:=fun _=>false
end Pl
open Pl
def Thru {σ α:Type}(Y:σ→α→Option (σ × Bool)):List α→σ→σ→Prop
 | [],s,s1=>s1=s
 | x::xs,s,s1 =>∃s2,Y s x=some (s2,true)∧Thru Y xs s2 s1
theorem Thru.run {σ α:Type}{Y:σ→α→Option (σ × Bool)}:∀{pre rest:List α} {s s1:σ},Thru Y pre s s1→runL Y (pre++rest) s=runL Y rest s1
 | [],rest,s,s1,h=>by cases h;rfl
 | x::xs,rest,s,s1,⟨s2,h1,h2⟩=>by
   rw[l03,runL,h1];exact h2.run
structure ItS {α:Type}(P:Program)(f:FuncId)(cap:List Value)(A:List Item)(Pre:Mem→Prop)(enc:α→Value)(run:(σ:Type)→(σ→α→Option (σ × Bool))→σ→Option σ):Prop where
 enters :∀ar w,(callFunc f ar).run P w = .ok (.enter f ar) w
 calls :∀(l:Nat) (σ:Type) (Y:σ→α→Option (σ × Bool)) (Z:σ→List Item→Mem→Prop),(∀s L M M',Z s L M→M.le M'→Z s L M')→
  (∀s x s' b L w M,Y s x=some (s',b)→Z s L M→StX (feet L) w M M L w→YieldAt (Wd none) 0 P l #[enc x] w fun e w' =>∃M' L',StX (feet L) w M M' L' w'∧e = .returned (.bool b)∧Z s' L' M')→
  ∀s s' L w M,run σ Y s=some s'→Z s L M→StX (feet (A++L)) w M M (A++L) w→Pre M→
  Calls P f (yv l::cap).toArray w fun e w' =>∃r M' L',e = .returned r∧StX (feet (A++L)) w M M' L' w'∧Z s' L' M'
section
variable {C : Nat → Prop} {r : Option Nat} {P : Program} {ops : Array Oper} {Q : Exit → Act → World → Prop} {n : Nat} {D : List Deferred} {rest : List Oper} {e : Env} {w0 w : World} {M0 M : Mem} {L B : List Item} {d : Nat}
  {x y : Operand} {ty t ts t' : TypeId} {pos : String} {af : Array Edge} {g : Option (Nat × Bool)} {α σ : Type} {enc : α → Value}
def lpS (rc:LoopState→Option Code→Loop):Option Code→Loop
 | none=>rc .ready none
 | some c=>rc .done (some c)
def RS (Z:σ→List Item→Mem→Prop)(E:σ→Option Code)(lid:Nat)(rc:LoopState→Option Code→Loop)(Lh:List Item)(w:World)(M:Mem)(s:σ)(en:Ending)(w':World):Prop :=
 ∃M' L0,StX (feet Lh) w M M' (.blk lid (.loop (lpS rc (E s)))::L0) w'∧en = .returned (.bool (E s).isNone)∧Z s L0 M'
variable {lid : Nat} {rc : LoopState → Option Code → Loop} {Z : σ → List Item → Mem → Prop} {E : σ → Option Code} {s : σ} {w1 : World} {M1 : Mem} {Lh L0 : List Item}
theorem WQ.rsOn (hrc:LoopRec rc)(H:StX (feet Lh) w1 M1 M (.blk lid (.loop (rc .busy none))::L0) w)(hE:E s=none)(hZ:Z s L0 M):
 WQ (roundPost P lid (RS Z E lid rc Lh w1 M1 s)) .normal n D e w:=fun a _=>by
 have hb:=H.blk (List.Mem.head _);have hr:=run_endRound (P:=P) none hb;simp only[Option.isNone_none,if_true] at hr;rw[hrc.setP] at hr;exact⟨_,_,hr,M,L0,by rw[hE];exact H.put .head,by rw[hE];rfl,hZ⟩
variable {fn : Func} {R : Value → Mem → Prop} {v v1 v2 v3 : Value} {x1 x2 x3 : ResultVar} {Dm : Nat} {L' : List Item}
theorem WQ.nret1 (hr:fn.results = #[x1])(H:St w0 M0 M L w)(hrm:Rem L (.blk Dm (.deferred (some []))) L')(k :∀w,St w0 M0 M L' w→resv P w e x1 v)(hR:R v M):WQ (bodyPostM (Wd none) 0 P fn (Ret w0 M0 R)) .ret n [mark Dm] e w :=
 WQ.retM1 H hrm fun w' H'=>⟨v,resv_run1 hr (k w' H'),_,M,rfl,H'.ext,hR⟩
end
end Go.Ph
end
section
namespace Go.Ph
open Go Go.RowKit Pl
theorem CtX.of {P:Program}{f:FuncId}{fn:Func}{c:Code}{args:List Value}{A:List Item}{Pre:Mem→Prop}{R:Value→Mem→List Item→Prop}{n:Nat}
 (hf:P.funcs[f]? = some fn) (hen :∀ar w,(callFunc f ar).run P w = .ok (.enter f ar) w) (hb:fn.body=some c) (hnt:fn.ntmps=n) (hn:Nat.ble args.length n=true)
 (h :∀w M,StX (feet A) w M M A w→Pre M→WC none P (bodyPost P fn (RetX A w M R)) n [] c (envOf 0 args) w):CtX P f args A Pre R :=
 ⟨hen,fun w M ha hp=>calls_of_WC hf hb hnt hn (h w M ha hp)⟩
abbrev _root_.q1a := @CtX.of
section
variable {C : Nat → Prop} {r : Option Nat} {P : Program} {ops : Array Oper} {Q : Exit → Act → World → Prop} {n : Nat} {D : List Deferred} {rest : List Oper} {e : Env} {w0 w : World} {M0 M : Mem} {L L' A B : List Item} {d : Nat} {v v1 v2 v3 v4 u z : Value}
  {x y : Operand} {ty t t' te ts tt : TypeId} {pos : String} {af : Array Edge} {g : Option (Nat × Bool)} {dst : Option Tmp}
theorem WR.callX {f:FuncId}{ar:List Operand}{vs:List Value}{tys:Array TypeId}{Pre:Mem→Prop}{R:Value→Mem→List Item→Prop}(H:StX C w0 M0 M L w)(hs:CtX P f vs A Pre R)(hspl:Spl L A B)(ha:evs e ar=some vs)(hp:Pre M)
 (hw:Wn ops n D e ⟨some d, .call ⟨.value (.func f),ar.toArray,tys⟩,ty,pos,af,g⟩) (hn:Nat.blt d n=true)
 (k :∀v M' w' its,StX C w0 M0 M' (its++B) w'→M.le M'→R v M' its→WR r P ops Q n D rest ((d,v)::e) w') :
 WR r P ops Q n D (⟨some d, .call ⟨.value (.func f),ar.toArray,tys⟩,ty,pos,af,g⟩::rest) e w:=by
 intro a hsat;unfold wpListIn;rw[if_pos (hw a hsat)];refine⟨fun _ _=>trivial,?_⟩;rw[Oper.semAt_eq _ _ _ (fun c h=>by cases h)];have hv:ar.map a.eval=vs:=hsat.fits.evs ha;have hf:a.eval (.func f) = .func (.func f) #[] #[]:=rfl;have hrun:(execOp a.eval ⟨some d, .call ⟨.value (.func f),ar.toArray,tys⟩,ty,pos,af,g⟩).run P w = .ok (.enter f vs.toArray) w:=by
  simp only[execOp,resolve,hf,Deferred.ofValue,Sem.run_bind,Sem.run_pure,Result.andThen_ok,invoke,l0k,hv,Array.append_empty,Array.empty_append,hs.enters]
 rw[hrun,Oper.uponIn_enter];refine⟨fun h=>(by cases h),callsIn_Wd.2 ((hs.calls w M (H.hand hspl) hp).mono ?_)⟩;rintro en w' ⟨rv,M',its,rfl,hx,hR⟩;exact k rv M' w' its (H.back hspl hx) hx.ext.le hR _ (hsat.put (l06 hn) rv)
abbrev _root_.q0C := @WR.callX
section ret
variable {fn : Func} {R : Value → Mem → List Item → Prop} {its : List Item} {x1 x2 x3 x4 : ResultVar}
theorem WQ.retX0 (hr:fn.results = #[])(H:StX (feet A) w0 M0 M L w)(hp:Pick L its)(hR:R (.tuple #[]) M its):WQ (bodyPost P fn (RetX A w0 M0 R)) .ret n [] e w :=
 fun a ha=>⟨ha.defers, .tuple #[],by simp [results,hr],_,M,its,rfl,H.pick hp,hR⟩
theorem WQ.endX0 (hr:fn.results = #[])(H:StX (feet A) w0 M0 M L w)(hp:Pick L its)(hR:R (.tuple #[]) M its):WQ (bodyPost P fn (RetX A w0 M0 R)) .normal n [] e w :=
 fun a ha=>⟨ha.defers, .tuple #[],by simp [results,hr],_,M,its,rfl,H.pick hp,hR⟩
theorem WQ.retX1 (hr:fn.results = #[x1])(h1:resv P w e x1 v1)(H:StX (feet A) w0 M0 M L w)(hp:Pick L its)(hR:R v1 M its):WQ (bodyPost P fn (RetX A w0 M0 R)) .ret n [] e w :=
 fun a ha=>⟨ha.defers,v1,by rw[results_eq,hr];exact run_res1 _ (resv_run ha h1),_,M,its,rfl,H.pick hp,hR⟩
abbrev _root_.q0S := @WQ.retX1
theorem WQ.retX2 (hr:fn.results = #[x1,x2])(h1:resv P w e x1 v1)(h2:resv P w e x2 v2)(H:StX (feet A) w0 M0 M L w)(hp:Pick L its)(hR:R (.tuple #[v1,v2]) M its):WQ (bodyPost P fn (RetX A w0 M0 R)) .ret n [] e w :=
 fun a ha=>⟨ha.defers, .tuple #[v1,v2],by rw[results_eq,hr];exact run_res2 _ (resv_run ha h1) (resv_run ha h2),_,M,its,rfl,H.pick hp,hR⟩
end ret
end
end Go.Ph
end
section
namespace Go.Ph
open Go Go.RowKit Pl
def BPM (M:Mem)(b:Nat)(p:Value):Prop:=p = .pointer none∨p=ptr b 0
theorem BPM.mono {M M':Mem}{b:Nat}{p:Value}(h:BPM M b p)(_:M.le M'):BPM M' b p:=h
theorem BPM.nil {M:Mem}{b:Nat}:BPM M b (.pointer none) := .inl rfl
theorem BPM.self {M:Mem}{b:Nat}:BPM M b (ptr b 0) := .inr rfl
def SDat (v:Value)(l:Ls)(q:Value):Prop :=∃a,q = .pointer a∧(l≠ []→∃g cp,v = .slice (some ⟨g,0,none⟩) l.length cp∧a=some ⟨g,0,none⟩)
section
variable {C : Nat → Prop} {r : Option Nat} {P : Program} {ops : Array Oper} {Q : Exit → Act → World → Prop} {n : Nat} {D : List Deferred} {rest : List Oper} {e : Env} {w0 w : World} {M0 M : Mem} {L L' A B : List Item} {d : Nat} {v q u z : Value}
  {x y : Operand} {ty t t' te ts tt pt : TypeId} {pos : String} {af : Array Edge} {g : Option (Nat × Bool)} {l : List UInt8}
theorem Ex.builtinSD {w':World}(hx:ev e x=some v)(hr:(Builtin.unsafeSliceData_ #[ts] ty #[v]).run P w = .ok q w'):Ex P ⟨some d, .call ⟨.builtin .unsafeSliceData,#[x],#[ts]⟩,ty,pos,af,g⟩ e w q w' :=
 ⟨nofun,fun ρ hf=>by
  have h1:=hf _ _ hx;simp [execOp,resolve,h1,invoke,hr,go_sem]⟩
theorem WR.sliceData (hp:P.underlying ty=some (.pointer t))(H:StX C w0 M0 M L w)(hm:RowI t encB v l∈L)(hx:ev e x=some v)
 (hw:Wn ops n D e ⟨some d, .call ⟨.builtin .unsafeSliceData,#[x],#[ts]⟩,ty,pos,af,g⟩) (hn:Nat.blt d n=true)
 (k :∀q w',StX C w0 M0 M L w'→SDat v l q→WR r P ops Q n D rest ((d,q)::e) w') :
 WR r P ops Q n D (⟨some d, .call ⟨.builtin .unsafeSliceData,#[x],#[ts]⟩,ty,pos,af,g⟩::rest) e w:=by
 rcases(H.rowOf hm).2 with ⟨hv,hn0⟩|⟨gg,cap,cur,hv,hg0,hg,hrest⟩
 · subst hv;refine WR.run (Ex.builtinSD hx (Lib.run_unsafeSliceData_nil _ _ _ _ _)) hw G hn (k _ _ H ⟨none,G,fun h=>?_⟩);exact absurd (l05 hn0) h
 subst hv;by_cases hc:cap=0
 · subst hc;refine WR.run (Ex.builtinSD hx (Lib.run_unsafeSliceData_zero _ _ _ t hp ⟨gg,0,none⟩ _ (t,cur.size) (by simp [World.shape?,hg]))) hw G hn (k _ _ (H.grow (grownBy_alloc' _ _)) ⟨_,G,fun h=>?_⟩);have:l.length≠0:=by simpa using h
   have h1:=hrest.1;omega
 exact WR.run (Ex.builtinSD hx (Lib.run_unsafeSliceData_row _ _ _ _ _ _ hc)) hw G hn (k _ _ H ⟨_,G,fun _=>⟨gg,cap,G,G⟩⟩)
abbrev _root_.q1n := @WR.sliceData
theorem Ex.builtinUS {w':World}(hx:ev e x=some q)(hy:ev e y=some z)(hr:(Builtin.unsafeString_ #[pt,tt] ty #[q,z]).run P w = .ok v w'):Ex P ⟨some d, .call ⟨.builtin .unsafeString,#[x,y],#[pt,tt]⟩,ty,pos,af,g⟩ e w v w' :=
 ⟨nofun,fun ρ hf=>by
  have h1:=hf _ _ hx;have h2:=hf _ _ hy;simp [execOp,resolve,h1,h2,invoke,hr,go_sem]⟩
theorem grownBy_freeze (w:World)(gg k:Nat):w.grownBy (w.freeze ⟨gg,0,none⟩ k) (some gg):=by
 unfold World.freeze;split
 · exact⟨G,G,G,l09 _,fun _ _ _=>G⟩
 refine⟨G,G,G,by simp,fun k _ hk=>?_⟩;simp only[Array.getElem?_modify];rw[if_neg];intro h;exact hk (by rw[←h])
theorem StX.turn {it:Item}{w':World}(H:StX C w0 M0 M L w)(hr:Rem L it L')(hg:w.grownBy w' it.foot):StX C w0 M0 M L' w':=by
 have hit:=H.own _ hr.mem;refine⟨H.ext.grown hg (fun b hb=>hit.2 b hb),fun x hx=>?_,H.sep.sublist hr.sublist⟩;have h2:=H.own x (hr.sublist.subset hx);refine⟨h2.1.kept (fun b hb=>hg.block b (h2.1.lt b hb) (fun he=>?_)),h2.2⟩;exact hr.pairs (R:=Apart) (fun x y h=>h.symm) H.sep x hx b he.symm hb
theorem WR.unsafeStr (hp:P.underlying pt=some (.pointer t))(hc:P.cellsOf t=1)(H:StX C w0 M0 M L w)(hr:Rem L (RowI t encB v l) L')(hq:SDat v l q)(hx:ev e x=some q)(hy:ev e y=some (I l.length))
 (hw:Wn ops n D e ⟨some d, .call ⟨.builtin .unsafeString,#[x,y],#[pt,tt]⟩,ty,pos,af,g⟩) (hn:Nat.blt d n=true)
 (k :∀w',StX C w0 M0 M L' w'→WR r P ops Q n D rest ((d,S l)::e) w') :
 WR r P ops Q n D (⟨some d, .call ⟨.builtin .unsafeString,#[x,y],#[pt,tt]⟩,ty,pos,af,g⟩::rest) e w:=by
 obtain⟨a,rfl,hq⟩:=hq;by_cases hl:l=[]
 · subst hl;exact WR.run (Ex.builtinUS hx hy (Lib.run_unsafeString_none _ _ _ _ _)) hw G hn (k _ (H.drop hr.sublist))
 obtain⟨gg,cp,rfl,rfl⟩:=hq hl;have hown:=H.rowOf hr.mem;rcases hown.2 with ⟨hv,_⟩|⟨g2,cap,cur,hv,hg0,hg,hrest⟩
 · cases hv
 cases hv;have h63:l.length≤9223372036854775807:=by have h1:=hrest.1;have h2:=hrest.2.1;unfold maxLen at h2;omega
 have hcur:cur.size=cp*1:=hrest.2.2.1;have hrun:=Lib.run_unsafeString_row (P:=P) w pt tt ty t hp hc gg cur.size (by simp [World.shape?,hg]) l hl (by have h1:=hrest.1;omega) h63 (fun j x hx=>by
  have htake:=hrest.2.2.2;have h1:(cur.toList.take (l.length*1))[j]? = some (encB x):=by rw[htake,List.getElem?_map,hx];rfl
  have hj:j<l.length:=(List.getElem?_eq_some_iff.1 hx).1;rw[Addr.add_lit,l0n,Lib.cell_of_heap hg];rw[List.getElem?_take,if_pos Om] at h1;simpa using h1)
 exact WR.run (Ex.builtinUS hx hy hrun) hw G hn (k _ (H.turn hr (grownBy_freeze w gg _)))
abbrev _root_.q1o := @WR.unsafeStr
end
structure ZH {σ:Type}(Z:σ→List Item→Mem→Prop)(s:σ)(L:List Item)(M:Mem):Prop where
 z:Z s L M
 m :∀s L M M',Z s L M→M.le M'→Z s L M'
theorem ZH.mono {σ:Type}{Z:σ→List Item→Mem→Prop}{s:σ}{L:List Item}{M M':Mem}(h:ZH Z s L M)(hl:M.le M'):ZH Z s L M':=⟨h.m _ _ _ _ h.z hl,h.m⟩
end Go.Ph
end
section
namespace Go.Ph
open Go Go.RowKit
namespace Pl
end Pl
open Pl
theorem Pick.skip {L L':List Item}{x:Item}(h:Pick L L'):Pick (x::L) L':=by
 induction h with
 | nil=>exact .nil
 | cons h _ ih=>exact .cons (.tail h) ih
theorem Pick.ofSub {L L':List Item}(h:L'.Sublist L):Pick L L':=by
 induction h with
 | slnil=>exact .nil
 | cons _ _ ih=>exact ih.skip
 | cons_cons _ _ ih=>exact .cons .head ih
def AIn : List Item→List Item→Prop
 | [],_=>True
 | .blk b _::r,L=>(∃o',Item.blk b o'∈L)∧AIn r L
 | _::_,_=>False
section
variable {C : Nat → Prop} {w0 w : World} {M0 M : Mem} {L L' A : List Item} {it : Item} {t : TypeId} {v : Value}
theorem feet_ain (H:StX C w0 M0 M L w)(hr:Rem L it L'){g:Nat}(hg:it.foot=some g):∀{A:List Item},AIn A L'→¬feet A g
 | [],_=>by rintro⟨x,hx,_⟩;cases hx
 | .blk b o::r,⟨⟨o',hm⟩,h2⟩=>by
   rintro⟨x,hx,hxg⟩;rcases List.mem_cons.1 hx with rfl|hx
   · exact hr.pairs (R:=Apart) (fun x y h=>h.symm) H.sep _ hm g hg hxg
   exact feet_ain H hr hg h2 ⟨x,hx,hxg⟩
 | .row _ _ _ _ _::_,h=>h.elim
theorem StX.fresh (H:StX (feet A) w0 M0 M L w)(hr:Rem L it L')(hA:AIn A L'){g:Nat}(hg:it.foot=some g):w0.heap.size≤g :=
 ((H.own _ hr.mem).2 g hg).2.resolve_right (feet_ain H hr hg hA)
theorem StX.freezeRowN {α:Type}{enc:α→Value}{l:List α}(H:StX (feet A) w0 M0 M L w)(hr:Rem L (RowI t enc v l) L')(hA:AIn A L'):∃M',M.le M'∧Sl M' enc v l∧StX (feet A) w0 M0 M' L' w :=
 H.freezeRowX hr (fun g hg=>feet_ain H hr hg hA)
theorem StX.freezeVarN {b:Nat}{cs:Array Value}(H:StX (feet A) w0 M0 M L w)(hr:Rem L (.blk b (.cells cs t)) L')(hA:AIn A L'):∃M',M.le M'∧PtM M' b (.cells cs t)∧StX (feet A) w0 M0 M' L' w:=by
 have hb:=H.blk hr.mem;obtain⟨h1,h2⟩:=H.freeze hr rfl hb (H.fresh hr hA rfl);exact⟨_,h1,by simp [PtM,Mem.set],h2⟩
theorem StX.freezeRowSN {α:Type}{kk:Nat}{enc:α→List Value}{l:List α}(H:StX (feet A) w0 M0 M L w)(hr:Rem L (RowS t kk enc v l) L')(h0 :∀x,(enc x).length=kk)(hA:AIn A L'):∃M',M.le M'∧SlS M' kk enc v l∧StX (feet A) w0 M0 M' L' w:=by
 have hown:=H.rowOf hr.mem;rcases hown.2 with ⟨hv,hn⟩|⟨g,cap,cur,hv,hb,hg,hnc,hcm,hcs,htake⟩
 · have:l=[]:=l05 hn;subst this;subst hv;exact⟨M,Mem.le.refl M,q1e M enc h0,H.drop hr.sublist⟩
 have hf:(RowS t kk enc v l).foot=some g:=by rw[hv];rfl
 obtain⟨h1,h2⟩:=H.freeze hr hf hg (H.fresh hr hA hf);refine⟨_,h1,⟨h0,some ⟨g,0,none⟩,cap,hv,hnc,⟨hcm,fun h=>by cases h⟩,fun _=>⟨g,0,cur,t,(0,0),G,by simp [Mem.set],fun i x hx j u hj=>?_⟩⟩,h2⟩;have h3:=flat_at h0 l i j x u hx hj;rw[←htake,List.getElem?_take] at h3;split at h3
 · rename_i h4;rw[←h3,l0n];simp
 cases h3
end
section
variable {C : Nat → Prop} {r : Option Nat} {P : Program} {ops : Array Oper} {Q : Exit → Act → World → Prop} {n : Nat} {D : List Deferred} {rest : List Oper} {e : Env} {w0 w : World} {M0 M : Mem} {L L' A B Lc : List Item} {d : Nat} {v v1 v2 : Value}
  {x y : Operand} {ty t t' ts : TypeId} {pos : String} {af : Array Edge} {g : Option (Nat × Bool)} {α σ : Type} {enc : α → Value}
def AtP (v:Value)(kk:Nat)(i:Int)(nn b o:Nat):Prop :=∃B c,v = .slice (some ⟨b,B,none⟩) nn c∧o=B+i.toNat*kk∧0≤i∧i<(nn:Int)
theorem Sl.atC {l:List α}{i:Int}{a:α}(h:Sl M enc v l)(hi:idx l i=some a):∃b o,AtP v 1 i l.length b o∧CellM M ⟨b,o,none⟩ (enc a):=by
 obtain⟨h0,hc⟩:=idx_some hi;obtain⟨b,o,c,rfl,hm⟩:=h.addr hc;have hlt:=(List.getElem?_eq_some_iff.1 hc).1;exact⟨b,o+i.toNat,⟨o,c,G,by omega,h0,by omega⟩,hm⟩
theorem SlS.atC {kk:Nat}{encS:α→List Value}{l:List α}{i:Int}{a:α}(h:SlS M kk encS v l)(hi:idx l i=some a):∃b o,AtP v kk i l.length b o∧CellsM M ⟨b,o,none⟩ (encS a):=by
 obtain⟨h0,hc⟩:=idx_some hi;obtain⟨_,A,c,rfl,h1,h2,h3⟩:=h;have hlt:=(List.getElem?_eq_some_iff.1 hc).1;obtain⟨b,o,cs,t0,fz,rfl,e2,e3⟩:=h3 (by rintro rfl;simp at hc);exact⟨b,o+i.toNat*kk,⟨o,c,G,G,h0,by omega⟩,G,cs,t0,fz,e2,fun j u hj=>e3 i.toNat a hc j u hj⟩
theorem Ex.idxAt {dst:Option Tmp}{kk nn b o:Nat}{i:Int}{k':IntKind}(h:AtP v kk i nn b o)(ht:P.underlying t=some (.slice t'))(hz :∀w,(sizeOf t').run P w = .ok kk w)(hx:ev e x=some v)(hy:ev e y=some (.int k' i)):
 Ex P ⟨dst, .indexAddr t x y,ty,pos,af,g⟩ e w (ptr b o) w:=by
 obtain⟨B,c,rfl,rfl,h0,h1⟩:=h;refine⟨nofun,fun ρ hfi=>?_⟩;simp only[execOp,hfi _ _ hx,hfi _ _ hy,Instr.indexAt,Sem.run_bind,asIntOf,run_underlying ht,Result.andThen_ok,Sem.run_pure,hz,h0,h1,and_self,if_true,Addr.add_lit,l0f]
abbrev _root_.q0p := @Ex.idxAt
def RetZ (C:Nat→Prop)(Z:σ→List Item→Mem→Prop)(s':σ)(w:World)(M:Mem)(e:Ending)(w':World):Prop :=∃r M' L',e = .returned r∧StX C w M M' L' w'∧Z s' L' M'
theorem WQ.retZ {fn:Func}{Z:σ→List Item→Mem→Prop}{s s':σ}(hr:fn.results = #[])(H:StX C w0 M0 M L w)(hs:Lc.Sublist L)(hz:ZH Z s Lc M)(he:s=s'):WQ (bodyPost P fn (RetZ C Z s' w0 M0)) .ret n [] e w :=
 fun a ha=>⟨ha.defers, .tuple #[],by simp [results,hr],_,M,Lc,rfl,H.drop hs,he ▸ hz.z⟩
theorem WQ.endZ {fn:Func}{Z:σ→List Item→Mem→Prop}{s s':σ}(hr:fn.results = #[])(H:StX C w0 M0 M L w)(hs:Lc.Sublist L)(hz:ZH Z s Lc M)(he:s=s'):WQ (bodyPost P fn (RetZ C Z s' w0 M0)) .normal n [] e w :=
 fun a ha=>⟨ha.defers, .tuple #[],by simp [results,hr],_,M,Lc,rfl,H.drop hs,he ▸ hz.z⟩
theorem ItS.of {f:FuncId}{fn:Func}{c:Code}{cap:List Value}{Pre:Mem→Prop}{run:(σ:Type)→(σ→α→Option (σ × Bool))→σ→Option σ}
 (hf:P.funcs[f]? = some fn) (hen :∀ar w,(callFunc f ar).run P w = .ok (.enter f ar) w) (hb:fn.body=some c) (hnt:fn.ntmps=n) (hn:Nat.ble (cap.length+1) n=true)
 (h :∀(l:Nat) (σ:Type) (Y:σ→α→Option (σ × Bool)) (Z:σ→List Item→Mem→Prop) (C:Nat→Prop),
  (∀s x s' b L w M,Y s x=some (s',b)→Z s L M→StX (feet L) w M M L w→YieldAt (Wd none) 0 P l #[enc x] w fun e w' =>∃M' L',StX (feet L) w M M' L' w'∧e = .returned (.bool b)∧Z s' L' M')→
  ∀s s' L w M,run σ Y s=some s'→ZH Z s L M→StX C w M M (A++L) w→Pre M→WC none P (bodyPost P fn (RetZ C Z s' w M)) n [] c (envOf 0 (yv l::cap)) w):ItS P f cap A Pre enc run :=
 ⟨hen,fun l σ Y Z hZ hY s s' L w M hrun hz H hp=>calls_of_WC (args:=yv l::cap) hf hb hnt hn (h l σ Y Z _ hY s s' L w M hrun ⟨hz,hZ⟩ H hp)⟩
end
section chk
variable {C : Nat → Prop} {P : Program} {e : Env} {w0 w : World} {M0 M : Mem} {L : List Item} {x y : Operand} {ty t t' te T : TypeId} {pos : String} {af : Array Edge} {g : Option (Nat × Bool)} {dst : Option Tmp} {a : Addr} {j : TypeInfo} {v : Value}
theorem Ex.ptrNil {p:Option Addr}(ht:P.underlying t=some (.pointer te))(hx:ev e x=some (.pointer p)):Ex P ⟨dst, .binOp .eql t x (.const (.pointer none)) t',ty,pos,af,g⟩ e w (.bool p.isNone) w :=
 ⟨nofun,fun ρ hf=>by
  have h1:=hf _ _ hx;have h2:ρ (.const (.pointer none)) = .pointer none:=hf _ _ rfl;have h3:P.underlying t=some (.pointer (P.pointee t)):=by simp [Program.pointee,ht]
  simp [execOp,h1,h2,eqGuard,run_eql_pointer_nil w t p h3]⟩
theorem Ex.ptrNeqSame (hp:P.underlying t=some (.pointer te))(hte:P.info? te=some j)(hx:ev e x=some (.pointer (some a)))(hy:ev e y=some (.pointer (some a))):Ex P ⟨dst, .binOp .neq t x y t',ty,pos,af,g⟩ e w (.bool false) w :=
 ⟨nofun,fun ρ hf=>by
  have h1:=hf _ _ hx;have h2:=hf _ _ hy;simp [execOp,h1,h2,eqGuard,Lib.run_neq_ptr_same w a hp hte]⟩
theorem Ex.toUnsafe {cells:Nat}(hs:P.underlying t=some (.pointer te))(hd:P.underlying t'=some .unsafePointer)(ht:P.info? te=some j)(hj:j.size≠0)(hsh:w.shape? a.block=some (T,cells))(ho:a.off<cells)(hx:ev e x=some (.pointer (some a))):
 Ex P ⟨dst, .convert t t' x,ty,pos,af,g⟩ e w (.pointer (some a)) w :=
 ⟨nofun,fun ρ hf=>by
  have h1:=hf _ _ hx;simp [execOp,h1,Lib.run_to_unsafe w a hs hd ht hj hsh ho]⟩
theorem Ex.fromUnsafe {cells:Nat}(hs:P.underlying t=some .unsafePointer)(hd:P.underlying t'=some (.pointer te))(ht:P.info? te=some j)(hsh:w.shape? a.block=some (T,cells))(hl:liesAt P P.depth T (cells / P.cellsOf T) a.off te 1=true)(hx:ev e x=some (.pointer (some a))):
 Ex P ⟨dst, .convert t t' x,ty,pos,af,g⟩ e w (.pointer (some a)) w :=
 ⟨nofun,fun ρ hf=>by
  have h1:=hf _ _ hx;simp [execOp,h1,Lib.run_from_unsafe w a hs hd ht hsh hl]⟩
theorem Ex.noEscape {f : FuncId}{fn : Func}{tys : Array TypeId}(hf : P.funcs[f]? = some fn)(hname : (fn.name == "runtime.NumGoroutine") = false)(hb : fn.body.isNone = true)(hn : Extern.findNext fn = none)(he : Extern.find fn = some Extern.AbiNoEscape.same)
 (hx:ev e x=some v):Ex P ⟨dst, .call ⟨.value (.func f),#[x],tys⟩,ty,pos,af,g⟩ e w v w :=
 ⟨nofun,fun ρ hfi=>by
  have h1:=hfi _ _ hx;have h2:ρ (.func f) = .func (.func f) #[] #[]:=hfi _ _ rfl;simp [execOp,resolve,h1,h2,Deferred.ofValue,invoke,run_callFunc_extern hf hname hb hn he,Lib.run_noEscape]⟩
end chk
end Go.Ph
end
section
namespace Go.Ph
open Go Go.RowKit Pl
section
variable {C : Nat → Prop} {r : Option Nat} {P : Program} {ops : Array Oper} {Q : Exit → Act → World → Prop} {n : Nat} {D : List Deferred} {rest : List Oper} {e : Env} {w0 w : World} {M0 M : Mem} {L L' : List Item} {d : Nat} {v z : Value}
  {x y : Operand} {ty t ts tt : TypeId} {pos : String} {af : Array Edge} {g : Option (Nat × Bool)} {α : Type} {enc : α → List Value} {kk bytes : Nat} {l : List α} {M : Mem}
theorem WR.litE (T:ElemTy P ts t z kk bytes)(enc:α→List Value)(H:StX C w0 M0 M L w)
 (hw:Wn ops n D e ⟨some d, .buildSlice ts 0 #[],ty,pos,af,g⟩) (hn:Nat.blt d n=true)
 (k :∀v w',StX C w0 M0 M (RowS t kk enc v ([]:List α)::L) w'→WR r P ops Q n D rest ((d,v)::e) w') :
 WR r P ops Q n D (⟨some d, .buildSlice ts 0 #[],ty,pos,af,g⟩::rest) e w:=by
 obtain⟨i,hi,hz,hsz,_⟩:=T.info;have hs:(sizeOf t).run P w = .ok kk w:=by simp [sizeOf,typeInfo,hi,hsz]
 have hrun:(Instr.buildSlice ts 0 #[]).run P w = .ok (.slice (some ⟨w.heap.size,0,none⟩) 0 0) (w.alloc (.cells #[] t)):=by
  simp only[Instr.buildSlice,Sem.run_bind,run_underlying T.under,Result.andThen_ok,hs];rw[if_neg Sm];rw[if_pos Sm];simp only[Sem.run_bind,Sem.run_pure,Result.andThen_ok,Nat.zero_mul];rw[show Array.range 0 = #[] by simp,Array.map_empty];rfl
 refine q0I (w':=w.alloc (.cells #[] t)) (v := .slice (some ⟨w.heap.size,0,none⟩) 0 0) ⟨nofun,fun ρ hf=>?_⟩ hw G hn (k _ _ (H.new (it:=RowS t kk enc (.slice (some ⟨w.heap.size,0,none⟩) 0 0) ([]:List α)) (grownBy_alloc' w _) ?_ (fun b hb=>by cases hb;exact l09 _)))
 · simp only[execOp,Sem.run_bind,Array.map_empty,l0k,hrun,Result.andThen_ok,Sem.run_pure];first|done|simp [hrun]
 exact⟨by simp, .inr ⟨w.heap.size,0,#[],G,l0C _,heap_alloc_new w _,by simp,by simp,by simp,by simp⟩⟩
theorem Ex.eqlNilS {a:Option Addr}{nn c:Nat}{t':TypeId}{dst:Option Tmp}(ht:P.underlying t=some (.slice t'))(hx:ev e x=some (.slice a nn c)):Ex P ⟨dst, .binOp .eql t x (.const (.slice none 0 0)) tt,ty,pos,af,g⟩ e w (.bool a.isNone) w :=
 ⟨nofun,fun ρ hf=>by
  have h2:ρ (.const (.slice none 0 0)) = .slice none 0 0:=hf _ _ rfl;simp [execOp,hf _ _ hx,h2,eqGuard,Go.run_eql_slice_nil w t t' a nn c ht]⟩
theorem SlS.nilOr {M:Mem}(h:SlS M kk enc v l):(v = .slice none 0 0∧l=[])∨∃a c,v = .slice (some a) l.length c:=by
 obtain⟨_,A,c,rfl,h1,h2,_⟩:=h;cases A with
 | none =>
   have hc:=h2.2 rfl;have hl:l=[]:=l05 Om;subst hl;subst hc;exact .inl ⟨G,G⟩
 | some a=>exact .inr ⟨a,c,rfl⟩
theorem Ex.sliceRow {A:Option Addr}{nn c i j:Nat}{t':TypeId}{lo hi:Option Operand}{dst:Option Tmp}(ht:P.underlying t=some (.slice t'))(hz :∀w,(sizeOf t').run P w = .ok kk w)(hx:ev e x=some (.slice A nn c))(hnc:nn≤c)(hij:i≤j)(hj:j≤nn)
 (hlo:(∃o,lo=some o∧ev e o=some (I i))∨(lo=none∧i=0)) (hhi:(∃o,hi=some o∧ev e o=some (I j))∨(hi=none∧j=nn)) :
 Ex P ⟨dst, .slice t x lo hi none,ty,pos,af,g⟩ e w (.slice (if c=i then A else A.map (fun a=>a.add (i*kk))) (j-i) (c-i)) w :=
 ⟨nofun,fun ρ hfi=>by
  have hr:=run_slice_partS (P:=P) (w:=w) (lo:=lo.map ρ) (hi:=hi.map ρ) ht hz A nn c hnc hij hj
   (by rcases hlo with ⟨o,rfl,ho⟩|⟨rfl,h⟩
       · exact .inl (by simp [hfi _ _ ho])
       exact .inr ⟨G,h⟩)
   (by rcases hhi with ⟨o,rfl,ho⟩|⟨rfl,h⟩
       · exact .inl (by simp [hfi _ _ ho])
       exact .inr ⟨G,h⟩)
  simp only[execOp,hfi _ _ hx,l1b,Sem.run_bind,hr,Result.andThen_ok,Sem.run_pure]⟩
end
end Go.Ph
end
section
namespace Go.Ph
open Go Go.RowKit Pl
section
variable {C : Nat → Prop} {r : Option Nat} {P : Program} {ops : Array Oper} {Q : Exit → Act → World → Prop} {n : Nat} {D : List Deferred} {rest : List Oper} {e : Env} {w0 w : World} {M0 M : Mem} {L L' : List Item} {d : Nat} {v z : Value}
  {x y : Operand} {ty t t' ts tt T : TypeId} {pos : String} {af : Array Edge} {g : Option (Nat × Bool)}
end
end Go.Ph
end
section
namespace Go.Ph
open Go Go.RowKit
namespace Pl
def idxO (l:List (Option Ls))(i:Int):Option (Option Ls):=if 0≤i∧i<256 then l[i.toNat]? else none
end Pl
open Pl
section
variable {C : Nat → Prop} {r : Option Nat} {P : Program} {ops : Array Oper} {Q : Exit → Act → World → Prop} {n : Nat} {D : List Deferred} {rest : List Oper} {e : Env} {w0 w : World} {M0 M : Mem} {L L' : List Item} {d : Nat} {v z u : Value}
  {x y : Operand} {ty t t' ts tt te T : TypeId} {pos : String} {af : Array Edge} {g : Option (Nat × Bool)} {α : Type} {enc : α → Value} {l l2 s : List α} {dst : Option Tmp}
def SlO (M:Mem)(v:Value)(o:Option Ls):Prop:=(o=none∧v = .slice none 0 0)∨∃l a c,o=some l∧v = .slice (some a) l.length c∧Sl M encB v l
theorem SlO.mono {M M':Mem}{v:Value}{o:Option Ls}(h:SlO M v o)(hl:M.le M'):SlO M' v o:=by
 rcases h with h|⟨l,a,c,h1,h2,h3⟩
 · exact .inl h
 exact .inr ⟨l,a,c,h1,h2,h3.mono hl⟩
def TabO (M:Mem)(b T:Nat)(tb:List (Option Ls))(tr:List Ls):Prop :=
 ∃(vs:List Value) (vt:Value),PtM M b (.cells (vs++[vt]).toArray T)∧vs.length=256∧(∀(i:Nat) (o:Option Ls),tb[i]? = some o→∃v,vs[i]? = some v∧SlO M v o)∧Sl M encS vt tr
theorem TabO.mono {M M':Mem}{b T:Nat}{tb:List (Option Ls)}{tr:List Ls}(h:TabO M b T tb tr)(hl:M.le M'):TabO M' b T tb tr:=by
 obtain⟨vs,vt,h1,h2,h3,h4⟩:=h;exact⟨vs,vt,h1.mono hl,h2,fun i o ho=>by obtain⟨v,hv,hs⟩:=h3 i o ho;exact ⟨v,hv,hs.mono hl⟩,h4.mono hl⟩
theorem TabO.at {b T:Nat}{tb:List (Option Ls)}{tr:List Ls}{i:Int}{o:Option Ls}(h:TabO M b T tb tr)(hi:idxO tb i=some o):∃v,CellM M ⟨b,0+i.toNat*1,none⟩ v∧SlO M v o:=by
 obtain⟨vs,vt,h1,h2,h3,_⟩:=h;unfold idxO at hi;split at hi
 · obtain⟨v,hv,hs⟩:=h3 _ _ hi;refine⟨v,⟨G,_,_,_,h1,?_⟩,hs⟩;have hlt:=(List.getElem?_eq_some_iff.1 hv).1;show(vs++[vt]).toArray[0+i.toNat*1]? = some v
   rw[l0n,l0x,List.getElem?_toArray,List.getElem?_append_left hlt,hv]
 cases hi
end
end Go.Ph
end
section
namespace Go.Ph
open Go Go.RowKit Pl
section
variable {C : Nat → Prop} {r : Option Nat} {P : Program} {ops : Array Oper} {Q : Exit → Act → World → Prop} {n : Nat} {D : List Deferred} {rest : List Oper} {e : Env} {w0 w w' : World} {M0 M : Mem} {L L' : List Item} {d : Nat} {v z : Value}
  {x y : Operand} {ty t t' ts tt T : TypeId} {pos : String} {af : Array Edge} {g : Option (Nat × Bool)}
end
end Go.Ph
end
section
abbrev _root_.Tf109 := @Go.Proofs.Tryz.func109
abbrev _root_.Tf110 := @Go.Proofs.Tryz.func110
abbrev _root_.Tf111 := @Go.Proofs.Tryz.func111
abbrev _root_.Tf112 := @Go.Proofs.Tryz.func112
abbrev _root_.Tf114 := @Go.Proofs.Tryz.func114
abbrev _root_.Tf115 := @Go.Proofs.Tryz.func115
abbrev _root_.Tf116 := @Go.Proofs.Tryz.func116
abbrev _root_.Tf127 := @Go.Proofs.Tryz.func127
abbrev _root_.Tf146 := @Go.Proofs.Tryz.func146
abbrev _root_.Tf147 := @Go.Proofs.Tryz.func147
abbrev _root_.Tf148 := @Go.Proofs.Tryz.func148
abbrev _root_.Tf149 := @Go.Proofs.Tryz.func149
abbrev _root_.Tf150 := @Go.Proofs.Tryz.func150
abbrev _root_.Tf151 := @Go.Proofs.Tryz.func151
abbrev _root_.Tf152 := @Go.Proofs.Tryz.func152
abbrev _root_.Tf153 := @Go.Proofs.Tryz.func153
abbrev _root_.Tf154 := @Go.Proofs.Tryz.func154
abbrev _root_.Tf172 := @Go.Proofs.Tryz.func172
abbrev _root_.Tf173 := @Go.Proofs.Tryz.func173
abbrev _root_.Tf174 := @Go.Proofs.Tryz.func174
abbrev _root_.Tf175 := @Go.Proofs.Tryz.func175
abbrev _root_.Tf176 := @Go.Proofs.Tryz.func176
abbrev _root_.Tf177 := @Go.Proofs.Tryz.func177
abbrev _root_.Tf178 := @Go.Proofs.Tryz.func178
abbrev _root_.Tf185 := @Go.Proofs.Tryz.func185
abbrev _root_.Tf193 := @Go.Proofs.Tryz.func193
abbrev _root_.Tf194 := @Go.Proofs.Tryz.func194
abbrev _root_.Tf195 := @Go.Proofs.Tryz.func195
abbrev _root_.Tf196 := @Go.Proofs.Tryz.func196
abbrev _root_.Tf197 := @Go.Proofs.Tryz.func197
abbrev _root_.Tf204 := @Go.Proofs.Tryz.func204
abbrev _root_.Tf26 := @Go.Proofs.Tryz.func26
abbrev _root_.Tf54 := @Go.Proofs.Tryz.func54
abbrev _root_.Tf70 := @Go.Proofs.Tryz.func70
abbrev _root_.Tf73 := @Go.Proofs.Tryz.func73
abbrev _root_.Tf78 := @Go.Proofs.Tryz.func78
abbrev _root_.Tf84 := @Go.Proofs.Tryz.func84
abbrev _root_.Tf93 := @Go.Proofs.Tryz.func93
abbrev _root_.Tf95 := @Go.Proofs.Tryz.func95
abbrev _root_.Ta0 := @Go.Proofs.Tryz.isAgg0
abbrev _root_.Ta101 := @Go.Proofs.Tryz.isAgg101
abbrev _root_.Ta108 := @Go.Proofs.Tryz.isAgg108
abbrev _root_.Ta109 := @Go.Proofs.Tryz.isAgg109
abbrev _root_.Ta122 := @Go.Proofs.Tryz.isAgg122
abbrev _root_.Ta124 := @Go.Proofs.Tryz.isAgg124
abbrev _root_.Ta127 := @Go.Proofs.Tryz.isAgg127
abbrev _root_.Ta128 := @Go.Proofs.Tryz.isAgg128
abbrev _root_.Ta131 := @Go.Proofs.Tryz.isAgg131
abbrev _root_.Ta137 := @Go.Proofs.Tryz.isAgg137
abbrev _root_.Ta139 := @Go.Proofs.Tryz.isAgg139
abbrev _root_.Ta141 := @Go.Proofs.Tryz.isAgg141
abbrev _root_.Ta161 := @Go.Proofs.Tryz.isAgg161
abbrev _root_.Ta169 := @Go.Proofs.Tryz.isAgg169
abbrev _root_.Ta172 := @Go.Proofs.Tryz.isAgg172
abbrev _root_.Ta2 := @Go.Proofs.Tryz.isAgg2
abbrev _root_.Ta20 := @Go.Proofs.Tryz.isAgg20
abbrev _root_.Ta201 := @Go.Proofs.Tryz.isAgg201
abbrev _root_.Ta202 := @Go.Proofs.Tryz.isAgg202
abbrev _root_.Ta203 := @Go.Proofs.Tryz.isAgg203
abbrev _root_.Ta206 := @Go.Proofs.Tryz.isAgg206
abbrev _root_.Ta21 := @Go.Proofs.Tryz.isAgg21
abbrev _root_.Ta211 := @Go.Proofs.Tryz.isAgg211
abbrev _root_.Ta22 := @Go.Proofs.Tryz.isAgg22
abbrev _root_.Ta23 := @Go.Proofs.Tryz.isAgg23
abbrev _root_.Ta233 := @Go.Proofs.Tryz.isAgg233
abbrev _root_.Ta234 := @Go.Proofs.Tryz.isAgg234
abbrev _root_.Ta235 := @Go.Proofs.Tryz.isAgg235
abbrev _root_.Ta237 := @Go.Proofs.Tryz.isAgg237
abbrev _root_.Ta238 := @Go.Proofs.Tryz.isAgg238
abbrev _root_.Ta242 := @Go.Proofs.Tryz.isAgg242
abbrev _root_.Ta25 := @Go.Proofs.Tryz.isAgg25
abbrev _root_.Ta26 := @Go.Proofs.Tryz.isAgg26
abbrev _root_.Ta27 := @Go.Proofs.Tryz.isAgg27
abbrev _root_.Ta29 := @Go.Proofs.Tryz.isAgg29
abbrev _root_.Ta3 := @Go.Proofs.Tryz.isAgg3
abbrev _root_.Ta37 := @Go.Proofs.Tryz.isAgg37
abbrev _root_.Ta4 := @Go.Proofs.Tryz.isAgg4
abbrev _root_.Ta49 := @Go.Proofs.Tryz.isAgg49
abbrev _root_.Ta5 := @Go.Proofs.Tryz.isAgg5
abbrev _root_.Ta61 := @Go.Proofs.Tryz.isAgg61
abbrev _root_.Ta64 := @Go.Proofs.Tryz.isAgg64
abbrev _root_.Ta9 := @Go.Proofs.Tryz.isAgg9
abbrev _root_.Ta99 := @Go.Proofs.Tryz.isAgg99
abbrev _root_.Ts0 := @Go.Proofs.Tryz.sizeOf0
abbrev _root_.Ts101 := @Go.Proofs.Tryz.sizeOf101
abbrev _root_.Ts108 := @Go.Proofs.Tryz.sizeOf108
abbrev _root_.Ts109 := @Go.Proofs.Tryz.sizeOf109
abbrev _root_.Ts122 := @Go.Proofs.Tryz.sizeOf122
abbrev _root_.Ts124 := @Go.Proofs.Tryz.sizeOf124
abbrev _root_.Ts127 := @Go.Proofs.Tryz.sizeOf127
abbrev _root_.Ts128 := @Go.Proofs.Tryz.sizeOf128
abbrev _root_.Ts131 := @Go.Proofs.Tryz.sizeOf131
abbrev _root_.Ts137 := @Go.Proofs.Tryz.sizeOf137
abbrev _root_.Ts139 := @Go.Proofs.Tryz.sizeOf139
abbrev _root_.Ts141 := @Go.Proofs.Tryz.sizeOf141
abbrev _root_.Ts161 := @Go.Proofs.Tryz.sizeOf161
abbrev _root_.Ts169 := @Go.Proofs.Tryz.sizeOf169
abbrev _root_.Ts172 := @Go.Proofs.Tryz.sizeOf172
abbrev _root_.Ts2 := @Go.Proofs.Tryz.sizeOf2
abbrev _root_.Ts20 := @Go.Proofs.Tryz.sizeOf20
abbrev _root_.Ts201 := @Go.Proofs.Tryz.sizeOf201
abbrev _root_.Ts202 := @Go.Proofs.Tryz.sizeOf202
abbrev _root_.Ts203 := @Go.Proofs.Tryz.sizeOf203
abbrev _root_.Ts206 := @Go.Proofs.Tryz.sizeOf206
abbrev _root_.Ts21 := @Go.Proofs.Tryz.sizeOf21
abbrev _root_.Ts211 := @Go.Proofs.Tryz.sizeOf211
abbrev _root_.Ts22 := @Go.Proofs.Tryz.sizeOf22
abbrev _root_.Ts23 := @Go.Proofs.Tryz.sizeOf23
abbrev _root_.Ts233 := @Go.Proofs.Tryz.sizeOf233
abbrev _root_.Ts234 := @Go.Proofs.Tryz.sizeOf234
abbrev _root_.Ts235 := @Go.Proofs.Tryz.sizeOf235
abbrev _root_.Ts237 := @Go.Proofs.Tryz.sizeOf237
abbrev _root_.Ts238 := @Go.Proofs.Tryz.sizeOf238
abbrev _root_.Ts242 := @Go.Proofs.Tryz.sizeOf242
abbrev _root_.Ts25 := @Go.Proofs.Tryz.sizeOf25
abbrev _root_.Ts26 := @Go.Proofs.Tryz.sizeOf26
abbrev _root_.Ts27 := @Go.Proofs.Tryz.sizeOf27
abbrev _root_.Ts29 := @Go.Proofs.Tryz.sizeOf29
abbrev _root_.Ts3 := @Go.Proofs.Tryz.sizeOf3
abbrev _root_.Ts37 := @Go.Proofs.Tryz.sizeOf37
abbrev _root_.Ts4 := @Go.Proofs.Tryz.sizeOf4
abbrev _root_.Ts42 := @Go.Proofs.Tryz.sizeOf42
abbrev _root_.Ts49 := @Go.Proofs.Tryz.sizeOf49
abbrev _root_.Ts5 := @Go.Proofs.Tryz.sizeOf5
abbrev _root_.Ts61 := @Go.Proofs.Tryz.sizeOf61
abbrev _root_.Ts64 := @Go.Proofs.Tryz.sizeOf64
abbrev _root_.Ts68 := @Go.Proofs.Tryz.sizeOf68
abbrev _root_.Ts75 := @Go.Proofs.Tryz.sizeOf75
abbrev _root_.Ts9 := @Go.Proofs.Tryz.sizeOf9
abbrev _root_.Tu0 := @Go.Proofs.Tryz.underlying0
abbrev _root_.Tu101 := @Go.Proofs.Tryz.underlying101
abbrev _root_.Tu103 := @Go.Proofs.Tryz.underlying103
abbrev _root_.Tu108 := @Go.Proofs.Tryz.underlying108
abbrev _root_.Tu120 := @Go.Proofs.Tryz.underlying120
abbrev _root_.Tu122 := @Go.Proofs.Tryz.underlying122
abbrev _root_.Tu124 := @Go.Proofs.Tryz.underlying124
abbrev _root_.Tu127 := @Go.Proofs.Tryz.underlying127
abbrev _root_.Tu128 := @Go.Proofs.Tryz.underlying128
abbrev _root_.Tu131 := @Go.Proofs.Tryz.underlying131
abbrev _root_.Tu132 := @Go.Proofs.Tryz.underlying132
abbrev _root_.Tu137 := @Go.Proofs.Tryz.underlying137
abbrev _root_.Tu139 := @Go.Proofs.Tryz.underlying139
abbrev _root_.Tu141 := @Go.Proofs.Tryz.underlying141
abbrev _root_.Tu145 := @Go.Proofs.Tryz.underlying145
abbrev _root_.Tu151 := @Go.Proofs.Tryz.underlying151
abbrev _root_.Tu161 := @Go.Proofs.Tryz.underlying161
abbrev _root_.Tu169 := @Go.Proofs.Tryz.underlying169
abbrev _root_.Tu172 := @Go.Proofs.Tryz.underlying172
abbrev _root_.Tu181 := @Go.Proofs.Tryz.underlying181
abbrev _root_.Tu2 := @Go.Proofs.Tryz.underlying2
abbrev _root_.Tu20 := @Go.Proofs.Tryz.underlying20
abbrev _root_.Tu201 := @Go.Proofs.Tryz.underlying201
abbrev _root_.Tu202 := @Go.Proofs.Tryz.underlying202
abbrev _root_.Tu203 := @Go.Proofs.Tryz.underlying203
abbrev _root_.Tu206 := @Go.Proofs.Tryz.underlying206
abbrev _root_.Tu21 := @Go.Proofs.Tryz.underlying21
abbrev _root_.Tu211 := @Go.Proofs.Tryz.underlying211
abbrev _root_.Tu22 := @Go.Proofs.Tryz.underlying22
abbrev _root_.Tu23 := @Go.Proofs.Tryz.underlying23
abbrev _root_.Tu233 := @Go.Proofs.Tryz.underlying233
abbrev _root_.Tu234 := @Go.Proofs.Tryz.underlying234
abbrev _root_.Tu235 := @Go.Proofs.Tryz.underlying235
abbrev _root_.Tu237 := @Go.Proofs.Tryz.underlying237
abbrev _root_.Tu238 := @Go.Proofs.Tryz.underlying238
abbrev _root_.Tu242 := @Go.Proofs.Tryz.underlying242
abbrev _root_.Tu25 := @Go.Proofs.Tryz.underlying25
abbrev _root_.Tu26 := @Go.Proofs.Tryz.underlying26
abbrev _root_.Tu27 := @Go.Proofs.Tryz.underlying27
abbrev _root_.Tu29 := @Go.Proofs.Tryz.underlying29
abbrev _root_.Tu3 := @Go.Proofs.Tryz.underlying3
abbrev _root_.Tu35 := @Go.Proofs.Tryz.underlying35
abbrev _root_.Tu37 := @Go.Proofs.Tryz.underlying37
abbrev _root_.Tu4 := @Go.Proofs.Tryz.underlying4
abbrev _root_.Tu42 := @Go.Proofs.Tryz.underlying42
abbrev _root_.Tu45 := @Go.Proofs.Tryz.underlying45
abbrev _root_.Tu49 := @Go.Proofs.Tryz.underlying49
abbrev _root_.Tu5 := @Go.Proofs.Tryz.underlying5
abbrev _root_.Tu61 := @Go.Proofs.Tryz.underlying61
abbrev _root_.Tu64 := @Go.Proofs.Tryz.underlying64
abbrev _root_.Tu68 := @Go.Proofs.Tryz.underlying68
abbrev _root_.Tu69 := @Go.Proofs.Tryz.underlying69
abbrev _root_.Tu71 := @Go.Proofs.Tryz.underlying71
abbrev _root_.Tu73 := @Go.Proofs.Tryz.underlying73
abbrev _root_.Tu75 := @Go.Proofs.Tryz.underlying75
abbrev _root_.Tu9 := @Go.Proofs.Tryz.underlying9
abbrev _root_.Tz0 := @Go.Proofs.Tryz.zeroValue0
abbrev _root_.Tz101 := @Go.Proofs.Tryz.zeroValue101
abbrev _root_.Tz108 := @Go.Proofs.Tryz.zeroValue108
abbrev _root_.Tz122 := @Go.Proofs.Tryz.zeroValue122
abbrev _root_.Tz124 := @Go.Proofs.Tryz.zeroValue124
abbrev _root_.Tz127 := @Go.Proofs.Tryz.zeroValue127
abbrev _root_.Tz128 := @Go.Proofs.Tryz.zeroValue128
abbrev _root_.Tz131 := @Go.Proofs.Tryz.zeroValue131
abbrev _root_.Tz139 := @Go.Proofs.Tryz.zeroValue139
abbrev _root_.Tz141 := @Go.Proofs.Tryz.zeroValue141
abbrev _root_.Tz161 := @Go.Proofs.Tryz.zeroValue161
abbrev _root_.Tz169 := @Go.Proofs.Tryz.zeroValue169
abbrev _root_.Tz172 := @Go.Proofs.Tryz.zeroValue172
abbrev _root_.Tz181 := @Go.Proofs.Tryz.zeroValue181
abbrev _root_.Tz2 := @Go.Proofs.Tryz.zeroValue2
abbrev _root_.Tz20 := @Go.Proofs.Tryz.zeroValue20
abbrev _root_.Tz201 := @Go.Proofs.Tryz.zeroValue201
abbrev _root_.Tz202 := @Go.Proofs.Tryz.zeroValue202
abbrev _root_.Tz206 := @Go.Proofs.Tryz.zeroValue206
abbrev _root_.Tz21 := @Go.Proofs.Tryz.zeroValue21
abbrev _root_.Tz211 := @Go.Proofs.Tryz.zeroValue211
abbrev _root_.Tz23 := @Go.Proofs.Tryz.zeroValue23
abbrev _root_.Tz233 := @Go.Proofs.Tryz.zeroValue233
abbrev _root_.Tz234 := @Go.Proofs.Tryz.zeroValue234
abbrev _root_.Tz237 := @Go.Proofs.Tryz.zeroValue237
abbrev _root_.Tz238 := @Go.Proofs.Tryz.zeroValue238
abbrev _root_.Tz25 := @Go.Proofs.Tryz.zeroValue25
abbrev _root_.Tz26 := @Go.Proofs.Tryz.zeroValue26
abbrev _root_.Tz27 := @Go.Proofs.Tryz.zeroValue27
abbrev _root_.Tz29 := @Go.Proofs.Tryz.zeroValue29
abbrev _root_.Tz3 := @Go.Proofs.Tryz.zeroValue3
abbrev _root_.Tz37 := @Go.Proofs.Tryz.zeroValue37
abbrev _root_.Tz4 := @Go.Proofs.Tryz.zeroValue4
abbrev _root_.Tz42 := @Go.Proofs.Tryz.zeroValue42
abbrev _root_.Tz49 := @Go.Proofs.Tryz.zeroValue49
abbrev _root_.Tz5 := @Go.Proofs.Tryz.zeroValue5
abbrev _root_.Tz9 := @Go.Proofs.Tryz.zeroValue9
end
