/-
  Abb, Core, Mem, Ops, Pl, Heap, Multi, Set, Utf, Iter, Str, GrPlain, GrCut, Chs, Conv, Draw, Ext, Exb, Rec, Conf, Arr, Sqz, Make, Lb, Row, Glo, Its, Cx, Bld: own texts of this repository (wip/tpl, wip/plans), merged and shaken by wip/tools/pack.py.
-/
import Derived.KernelRfl
import Derived.OrdersIn
import Derived.TacticsIn
import Derived.Below
import Derived.Maps.AppendAt
import Derived.OneCell
import Derived.Deep.Draws
import Derived.Laws.StructEq
import Derived.WalkKit
import Derived.Deep.AppendSrc
import Derived.Lib.SlBytesConst
import Derived.Lib.DecodeN
import Derived.RangeFuncSeq
import Derived.RangeFuncKeeps
import Derived.Lib.ConvBytes
import Derived.Laws.IdiomStrings
import Derived.Laws.Cover4
import Derived.Laws.Runes
import Derived.WideLaws
import Derived.Laws.MakeOwn
import Derived.ChangeKeysEq
import Derived.Lib.Split
import Derived.Lib.SplitLaws
import Derived.Lib.AtoiAll
import Derived.Lib.AtoiErrMem
import Derived.Lib.ItoaNum
import Derived.Lib.Repeat
import Derived.Sort.Grow
import Derived.WalkSmall
import Derived.ProofKit
import Derived.OpenShut
import Derived.JoinedCond
import Derived.Carry
import Derived.Lib.LaidTab
import Derived.Lib.LaidU8
import Derived.Shelf.Vars
import Derived.Lay
import Derived.Lib.UnsafeStr
import Derived.Lib.Builder
set_option maxRecDepth 100000
set_option linter.unusedVariables false
set_option linter.unusedSimpArgs false
section
theorem _root_.Om {p:Prop}(h:p:=by omega):p:=h
theorem _root_.Dc {p:Prop}(h:p:=by decide):p:=h
theorem _root_.Sm {p:Prop}(h:p:=by simp):p:=h
abbrev _root_.Ls : Type:=List UInt8
abbrev _root_.l00 := @Bool.false_ne_true
abbrev _root_.l01 := @List.length_cons
abbrev _root_.l02 := @List.cons_append
abbrev _root_.l03 := @List.nil_append
abbrev _root_.l04 := @List.length_drop
abbrev _root_.l05 := @List.length_append
abbrev _root_.l06 := @Nat.lt_succ_self
abbrev _root_.l07 := @Nat.le_refl
abbrev _root_.l08 := @List.eq_nil_of_length_eq_zero
abbrev _root_.l09 := @Nat.le_of_ble_eq_true
abbrev _root_.l0a := @List.length_nil
abbrev _root_.l0b := @List.all_cons
abbrev _root_.l0c := @List.length_take
abbrev _root_.l0d := @Bool.and_eq_true
abbrev _root_.l0e := @List.drop_eq_nil_of_le
abbrev _root_.l0f := @List.append_nil
abbrev _root_.l0g := @List.drop_eq_getElem_cons
abbrev _root_.l0h := @Int.toNat_natCast
abbrev _root_.l0i := @List.all_nil
abbrev _root_.l0j := @List.map_cons
abbrev _root_.l0k := @List.append_assoc
abbrev _root_.l0l := @List.length_map
abbrev _root_.l0m := @Bool.false_eq_true
abbrev _root_.l0n := @List.flatMap_cons
abbrev _root_.l0o := @Nat.zero_le
abbrev _root_.l0p := @Nat.or_lt_two_pow
abbrev _root_.l0q := @List.mem_cons_self
abbrev _root_.l0r := @Nat.zero_add
abbrev _root_.l0s := @Int.toNat_of_nonneg
abbrev _root_.l0t := @List.drop_zero
abbrev _root_.l0u := @List.mem_cons_of_mem
abbrev _root_.l0v := @List.map_toArray
abbrev _root_.l0w := @List.take_succ_eq_append_getElem
abbrev _root_.l0x := @List.take_of_length_le
abbrev _root_.l0y := @List.take_length
abbrev _root_.l0z := @List.getD_eq_getElem?_getD
abbrev _root_.l0A := @Nat.eq_of_beq_eq_true
abbrev _root_.l0B := @List.drop_length
abbrev _root_.l0C := @Int.eq_ofNat_of_zero_le
abbrev _root_.l0D := @List.getElem_mem
abbrev _root_.l0E := @List.take_append_drop
abbrev _root_.l0F := @List.length_singleton
abbrev _root_.l0G := @List.drop_drop
abbrev _root_.l0H := @Int.natCast_zero
abbrev _root_.l0I := @List.map_nil
abbrev _root_.l0J := @Option.map_some
abbrev _root_.l0K := @Nat.lt_or_ge
abbrev _root_.l0L := @List.flatten_cons
abbrev _root_.l0M := @List.mem_of_getElem?
abbrev _root_.l0N := @List.sublist_cons_self
abbrev _root_.l0O := @Nat.mul_one
abbrev _root_.l0Q := @Nat.lt_of_lt_of_le
abbrev _root_.l0R := @List.map_append
abbrev _root_.l0S := @List.mem_cons
abbrev _root_.l0T := @List.not_mem_nil
abbrev _root_.l0U := @Nat.add_assoc
abbrev _root_.l0V := @Nat.le_trans
abbrev _root_.l0W := @Nat.mul_le_mul_right
abbrev _root_.l0X := @List.length_set
abbrev _root_.l0Y := @List.drop_succ_cons
abbrev _root_.l0Z := @List.size_toArray
abbrev _root_.l1a := @Nat.add_zero
abbrev _root_.l1b := @List.singleton_append
abbrev _root_.l1c := @List.set_append_right
abbrev _root_.l1d := @Nat.sub_self
abbrev _root_.l1e := @Nat.pow_le_pow_right
abbrev _root_.l1f := @List.mem_append_left
abbrev _root_.l1g := @List.nil_sublist
abbrev _root_.l1h := @Bool.false_or
abbrev _root_.l1i := @List.dropWhile_cons_of_neg
abbrev _root_.l1j := @List.take_left
abbrev _root_.l1k := @List.ext_getElem?
abbrev _root_.l1l := @List.getElem_of_mem
abbrev _root_.l1m := @List.foldl_cons
abbrev _root_.l1n := @Option.bind_some
abbrev _root_.l1o := @List.flatMap_append
abbrev _root_.l1p := @Nat.add_mul
abbrev _root_.l1q := @List.drop_of_length_le
abbrev _root_.l1r := @List.takeWhile_cons_of_pos
abbrev _root_.l1s := @Option.getD_some
abbrev _root_.l1t := @List.flatMap_nil
abbrev _root_.l1u := @Option.map_none
abbrev _root_.l1v := @List.any_eq_false
abbrev _root_.l1w := @List.take_append_of_le_length
abbrev _root_.l1x := @Nat.add_sub_cancel_left
abbrev _root_.l1y := @List.append_toArray
abbrev _root_.l1z := @List.getElem_append
abbrev _root_.l1A := @Nat.mod_eq_of_lt
abbrev _root_.l1B := @List.countP_cons
abbrev _root_.l1C := @Nat.min_eq_left
abbrev _root_.l1D := @List.mem_append_right
abbrev _root_.l1E := @List.countP_le_length
abbrev _root_.l1F := @List.dropWhile_cons_of_pos
abbrev _root_.l1G := @List.takeWhile_cons_of_neg
abbrev _root_.l1H := @List.length_range
abbrev _root_.l1I := @Nat.mod_lt
abbrev _root_.l1J := @List.dropLast_concat
abbrev _root_.l1K := @List.set_eq_take_append_cons_drop
abbrev _root_.l1L := @List.drop_left
abbrev _root_.l1M := @List.take_append
abbrev _root_.l1N := @List.drop_append
abbrev _root_.l1O := @List.map_congr_left
abbrev _root_.l1P := @List.take_succ_cons
abbrev _root_.l1Q := @List.filter_cons_of_neg
abbrev _root_.l1R := @Bool.not_true
abbrev _root_.l1S := @Option.isSome_none
abbrev _root_.l1T := @Bool.or_eq_true
abbrev _root_.l1U := @List.set_cons_zero
abbrev _root_.l1V := @List.filter_append
abbrev _root_.l1W := @Nat.add_comm
abbrev _root_.l1X := @List.map_map
abbrev _root_.l1Y := @List.take_zero
abbrev _root_.l1Z := @Nat.mul_comm
abbrev _root_.l2a := @List.perm_append_comm
abbrev _root_.l2b := @List.length_replicate
abbrev _root_.l2c := @List.getElem_map
abbrev _root_.l2d := @List.drop_eq_nil_iff
abbrev _root_.l2e := @List.all_eq_true
abbrev _root_.l2f := @Bool.true_and
abbrev _root_.l2g := @List.take_left'
abbrev _root_.l2h := @List.mem_or_eq_of_mem_set
abbrev _root_.l2i := @Nat.sub_zero
abbrev _root_.l2j := @Option.isNone_some
abbrev _root_.l2k := @Nat.eq_zero_or_pos
abbrev _root_.l2l := @List.drop_take
abbrev _root_.l2m := @Nat.le_mul_of_pos_right
abbrev _root_.l2n := @List.filter_cons_of_pos
abbrev _root_.l2o := @List.filter_eq_nil_iff
abbrev _root_.l2p := @List.dropWhile_sublist
abbrev _root_.l2q := @List.any_cons
abbrev _root_.l2r := @List.perm_middle
abbrev _root_.l2s := @Nat.le_of_not_lt
abbrev _root_.l2t := @Nat.div_lt_iff_lt_mul
abbrev _root_.l2u := @List.eq_nil_or_concat
abbrev _root_.l2v := @Nat.pow_succ
abbrev _root_.l2w := @List.drop_left'
abbrev _root_.l2x := @List.mem_filter
abbrev _root_.l2y := @List.mem_of_mem_take
abbrev _root_.l2z := @List.any_append
abbrev _root_.l2A := @List.filter_eq_self
abbrev _root_.l2C := @Nat.mul_le_mul
abbrev _root_.l2D := @Nat.or_comm
abbrev _root_.l2E := @Int.le_refl
abbrev _root_.l2F := @Int.natCast_nonneg
abbrev _root_.l2G := @Nat.add_sub_cancel
abbrev _root_.l2J := @List.sum_cons
abbrev _root_.l2K := @Int.emod_eq_of_lt
end
section
namespace Go.Ph
open Go Go.RowKit
abbrev Env := List (Nat × Value)
def get : Env->Nat->Option Value
 | [],_=>none
 |(j,v)::e,i=>bif Nat.beq i j then some v else get e i
def ev (e:Env):Operand->Option Value
 | .tmp t=>get e t
 | .const v=>some v
 | .global g=>some (.pointer (some ⟨g,0,none⟩))
 | .func f=>some (.func (.func f) #[] #[])
def evs (e:Env):List Operand->Option (List Value)
 | []=>some []
 | x::l=>match ev e x,evs e l with
   | some v,some vs=>some (v::vs)
   | _,_=>none
def Fits (e:Env)(ρ:Operand->Value):Prop :=∀x v,ev e x=some v->ρ x=v
theorem Fits.evs {e:Env}{ρ:Operand->Value}(h:Fits e ρ):∀{l:List Operand} {vs:List Value},evs e l=some vs->l.map ρ=vs
 | [],vs,hv=>by simp [Ph.evs] at hv;simp [hv]
 | x :: l,vs,hv=>by
   simp only[Ph.evs] at hv;split at hv
   . rename_i v vs' u E;cases hv;simp [h x v u,h.evs E]
   cases hv
structure Sat (n:Nat)(D:List Deferred)(e:Env)(a:Act):Prop where
 size:a.tmps.size=n
 defers:a.defers=D
 val :∀i v,get e i=some v->a.tmps.getD i undef=v
theorem Sat.fits {n:Nat}{D:List Deferred}{e:Env}{a:Act}(h:Sat n D e a):Fits e a.eval:=by
 intro x v hx;cases x with
 | tmp t=>exact h.val t v hx
 | const u=>exact Option.some.inj hx
 | global g=>exact Option.some.inj hx
 | func f=>exact Option.some.inj hx
theorem Sat.put {n:Nat}{D:List Deferred}{e:Env}{a:Act}(h:Sat n D e a){d:Nat}(hd:d<n)(v:Value):Sat n D ((d,v)::e) (a.put (some d) v):=by
 refine⟨by simp [Act.put,h.size],h.defers,fun i u hi=>?_⟩;simp only[get] at hi;cases hb:Nat.beq i d with
 | true =>
   have:i=d:=l0A hb;subst this;rw[hb] at hi;have:v=u:=Option.some.inj hi;subst this;simp [Act.put,h.size,hd]
 | false =>
   have hne:i≠d:=Nat.ne_of_beq_eq_false hb;rw[hb] at hi;have:=h.val i u hi;simp only[Act.put,Array.getD_eq_getD_getElem?] at this ⊢;rw[Array.getElem?_setIfInBounds_ne (Ne.symm hne)];exact this
def Sub : Env->Env->Prop
 | [],_=>True
 |(i,v)::r,e=>get e i=some v/\Sub r e
theorem Sub.get {r e:Env}(h:Sub r e){i:Nat}{v:Value}(hi:get r i=some v):get e i=some v:=by
 induction r with
 | nil=>cases hi
 | cons p r ih =>
   obtain⟨j,u⟩:=p;simp only[Ph.get] at hi;cases hb:Nat.beq i j with
   | true =>
     have:i=j:=l0A hb;subst this;rw[hb] at hi;have:u=v:=Option.some.inj hi;subst this;exact h.1
   | false=>rw[hb] at hi;exact ih h.2 hi
theorem Sat.sub {n:Nat}{D:List Deferred}{e r:Env}{a:Act}(h:Sat n D e a)(hs:Sub r e):Sat n D r a :=
 ⟨h.size,h.defers,fun i v hi=>h.val i v (hs.get hi)⟩
def Wd (r:Option Nat):Fence:={Fence.wide with round:=r}
theorem callsIn_Wd {r:Option Nat}{n:Nat}{P:Program}{f:FuncId}{args:Array Value}{w:World}{R:Ending->World->Prop}:CallsIn (Wd r) n P f args w R↔Calls P f args w R :=
 (callsIn_wide (n:=n):CallsIn Fence.wide n P f args w R↔_)
def WR (r:Option Nat)(P:Program)(ops:Array Oper)(Q:Exit->Act->World->Prop)(n:Nat)(D:List Deferred)(l:List Oper)(e:Env)(w:World):Prop :=
 ∀a,Sat n D e a->wpListIn (Wd r) 0 P ops Q l a w
def WC (r:Option Nat)(P:Program)(Q:Exit->Act->World->Prop)(n:Nat)(D:List Deferred)(c:Code)(e:Env)(w:World):Prop :=
 ∀a,Sat n D e a->c.wpIn (Wd r) 0 P Q a w
def WQ (Q:Exit->Act->World->Prop)(x:Exit)(n:Nat)(D:List Deferred)(e:Env)(w:World):Prop :=∀a,Sat n D e a->Q x a w
def Ex (P:Program)(o:Oper)(e:Env)(w:World)(v:Value)(w':World):Prop :=
 (∀c,o.op≠ .defer c)/\∀ρ,Fits e ρ->(execOp ρ o).run P w = .ok (.value v) w'
def ExS (P:Program)(o:Oper)(e:Env)(w w':World):Prop :=
 (∀c,o.op≠ .defer c)/\∀ρ,Fits e ρ->(execOp ρ o).run P w = .ok .skip w'
section
variable {r : Option Nat} {P : Program} {ops : Array Oper} {Q : Exit → Act → World → Prop} {n : Nat} {D : List Deferred} {rest l : List Oper} {e : Env} {w w' : World} {o : Oper} {d : Nat} {v : Value}
def Wn (ops:Array Oper)(n:Nat)(D:List Deferred)(e:Env)(o:Oper):Prop :=∀a,Sat n D e a->Region.wanted o (yielded ops a.tmps)=true
theorem Wn.none (hg:o.guard=Option.none):Wn ops n D e o:=fun _ _=>by simp [Region.wanted,hg]
abbrev _root_.q00 := @Wn.none
theorem yielded_of {ops:Array Oper}{j t:Nat}{a:Act}{b:Bool}(hj:(ops[j]?).bind (·.dst)=some t)(ha:Sat n D e a)(hu:get e t=some (.bool b)):
 yielded ops a.tmps j=some b:=by
 have h:=ha.val t _ hu;unfold yielded;rw[hj];simp only[l1n];cases ht:a.tmps[t]? with
 | none=>simp [ht] at h;cases h
 | some x=>simp [ht] at h;subst h;rfl
theorem Wn.some {j t:Nat}{b:Bool}(hg:o.guard=Option.some (j,b))(hj:(ops[j]?).bind (·.dst)=Option.some t)(hb:get e t=Option.some (.bool b)):Wn ops n D e o:=fun a ha=>by
 have:=yielded_of hj ha hb;simp [Region.wanted,hg,this]
abbrev _root_.q0h := @Wn.some
theorem WR.step (hx:Ex P o e w v w')(hw:Wn ops n D e o)(hd:o.dst=some d)(hn:Nat.blt d n=true)(k:WR r P ops Q n D rest ((d,v)::e) w'):WR r P ops Q n D (o::rest) e w:=by
 intro a ha;unfold wpListIn;rw[if_pos (hw a ha)];refine⟨fun _ _=>trivial,?_⟩;rw[Oper.semAt_eq _ _ _ hx.1,hx.2 _ ha.fits,Oper.uponIn_value,hd];exact k _ (ha.put (l09 hn) v)
abbrev _root_.q0w := @WR.step
theorem WR.stepE {v':Value}(hx:Ex P o e w v w')(hv:v=v')(hw:Wn ops n D e o)(hd:o.dst=some d)(hn:Nat.blt d n=true)(k:WR r P ops Q n D rest ((d,v')::e) w'):WR r P ops Q n D (o::rest) e w:=by
 subst hv;exact WR.step hx hw hd hn k
abbrev _root_.q0D := @WR.stepE
theorem WR.stepS (hx:ExS P o e w w')(hw:Wn ops n D e o)(hd:o.dst=none)(k:WR r P ops Q n D rest e w'):WR r P ops Q n D (o::rest) e w:=by
 intro a ha;unfold wpListIn;rw[if_pos (hw a ha)];refine⟨fun _ _=>trivial,?_⟩;rw[Oper.semAt_eq _ _ _ hx.1,hx.2 _ ha.fits,Oper.uponIn_skip,hd];exact k _ ha
theorem WR.stepT {p:Prop}[Decidable p](hx:Ex P o e w (.bool (decide p)) w')(h:p)(hw:Wn ops n D e o)(hd:o.dst=some d)(hn:Nat.blt d n=true)(k:WR r P ops Q n D rest ((d, .bool true)::e) w'):WR r P ops Q n D (o::rest) e w:=by
 rw[decide_eq_true h] at hx;exact WR.step hx hw hd hn k
theorem WR.stepF {p:Prop}[Decidable p](hx:Ex P o e w (.bool (decide p)) w')(h :¬p)(hw:Wn ops n D e o)(hd:o.dst=some d)(hn:Nat.blt d n=true)(k:WR r P ops Q n D rest ((d, .bool false)::e) w'):WR r P ops Q n D (o::rest) e w:=by
 rw[decide_eq_false h] at hx;exact WR.step hx hw hd hn k
theorem WR.split {p:Prop}[Decidable p](hx:Ex P o e w (.bool (decide p)) w')(hw:Wn ops n D e o)(hd:o.dst=some d)(hn:Nat.blt d n=true)(kt:p->WR r P ops Q n D rest ((d, .bool true)::e) w')(kf :¬p->WR r P ops Q n D rest ((d, .bool false)::e) w'):WR r P ops Q n D (o::rest) e w:=by
 by_cases h:p
 . exact WR.stepT hx h hw hd hn (kt h)
 exact WR.stepF hx h hw hd hn (kf h)
abbrev _root_.q0J := @WR.split
theorem WR.skipK (hw :∀a,Sat n D e a->Region.wanted o (yielded ops a.tmps)=false)(hd:o.dst=some d)(hn:d<n)
 (k:WR r P ops Q n D rest ((d,undef)::e) w):WR r P ops Q n D (o::rest) e w:=by
 intro a ha;unfold wpListIn;rw[if_neg (by rw[hw a ha];simp)];refine⟨fun _ _=>trivial,?_⟩;rw[hd];exact k _ (ha.put hn undef)
theorem WR.skipG {j t:Nat}{b:Bool}(hg:o.guard=some (j,!b))(hj:(ops[j]?).bind (·.dst)=some t)(hb:get e t=some (.bool b))(hd:o.dst=some d)(hn:Nat.blt d n=true)
 (k:WR r P ops Q n D rest ((d,undef)::e) w):WR r P ops Q n D (o::rest) e w :=
 WR.skipK (fun a ha=>by
  have:=yielded_of hj ha hb;cases b <;> simp [Region.wanted,hg,this]) hd (l09 hn) k
theorem WR.nil (k:WQ Q .normal n D e w):WR r P ops Q n D [] e w:=fun a ha=>k a ha
abbrev _root_.q1k := @WR.nil
theorem WR.sub {e':Env}(hs:Sub e' e)(k:WR r P ops Q n D l e' w):WR r P ops Q n D l e w:=fun a ha=>k a (ha.sub hs)
theorem WC.sub {c:Code}{e':Env}(hs:Sub e' e)(k:WC r P Q n D c e' w):WC r P Q n D c e w:=fun a ha=>k a (ha.sub hs)
theorem WC.region {id:Nat}{l:List Oper}(k:WR r P l.toArray Q n D l e w):WC r P Q n D (.region id l.toArray false) e w:=fun a ha=>wpIn_region_lit (k a ha)
abbrev _root_.q1o := @WC.region
theorem WC.seq {x y:Code}(k:WC r P (Exit.then (y.wpIn (Wd r) 0 P Q) Q) n D x e w):WC r P Q n D (.seq x y) e w:=fun a ha=>wpIn_seq (k a ha)
theorem WQ.then {y:Code}{Q':Exit->Act->World->Prop}(k:WC r P Q n D y e w):WQ (Exit.then (y.wpIn (Wd r) 0 P Q) Q') .normal n D e w:=fun a ha=>k a ha
theorem WC.skip (k:WQ Q .normal n D e w):WC r P Q n D .skip e w:=fun a ha=>wpIn_skip (k a ha)
theorem WC.ret (k:WQ Q .ret n D e w):WC r P Q n D .ret e w:=fun a ha=>wpIn_ret (k a ha)
theorem WC.exit {id:Nat}(k:WQ Q (.exit id) n D e w):WC r P Q n D (.exit id) e w:=fun a ha=>wpIn_exit (k a ha)
abbrev _root_.q0j := @WC.exit
theorem WC.block {id:Nat}{c:Code}(k:WC r P (Exit.inBlock id Q) n D c e w):WC r P Q n D (.block id c) e w:=fun a ha=>wpIn_block (k a ha)
theorem WC.condT {c:Operand}{x y:Code}(hc:ev e c=some (.bool true))(k:WC r P Q n D x e w):WC r P Q n D (.cond c x y) e w:=fun a ha=>wpIn_cond_true (ha.fits _ _ hc) (k a ha)
theorem WC.condF {c:Operand}{x y:Code}(hc:ev e c=some (.bool false))(k:WC r P Q n D y e w):WC r P Q n D (.cond c x y) e w:=fun a ha=>wpIn_cond_false (ha.fits _ _ hc) (k a ha)
theorem WC.condB {c:Operand}{x y:Code}{b:Bool}(hc:ev e c=some (.bool b))(kt:b=true->WC r P Q n D x e w)(kf:b=false->WC r P Q n D y e w):WC r P Q n D (.cond c x y) e w :=
 fun a ha=>wpIn_cond_split (ha.fits _ _ hc) (fun h=>kt h a ha) (fun h=>kf h a ha)
abbrev _root_.q0a := @WC.condB
theorem WC.loop {ι:Type}{c:Code}(E:ι->Env)(I:ι->World->Prop)(μ:ι->Nat)(u:ι)(hs:Sub (E u) e)(N:I u w)
 (round :∀x w,I x w->WC r P (Exit.then (fun a' w' =>∃y,Sat n D (E y) a'/\I y w'/\μ y<μ x) Q) n D c (E x) w):WC r P Q n D (.loop c) e w:=by
 intro a ha b k cs hro hb hr;have key :∀m,∀x a w,μ x=m->Sat n D (E x) a->I x w->
  ∃e a' w',Q e a' w'/\ArrivesIn (Machine.fenced P (Wd r)) P (lone (b.atR a (.code c :: .inLoop c::k)) cs w) b k cs e a' w':=by
  intro m;induction m using Nat.strongRecOn with
  | _ m ih =>
    intro x a w hm hsat hI;obtain⟨ex,a₁,w₁,hq,harr⟩:=round x w hI a hsat b (.inLoop c::k) cs hro hb hr;cases ex with
    | normal =>
      obtain⟨y,J,hI1,hlt⟩:=hq;obtain⟨O,U,V,K,harr2⟩:=ih (μ y) (hm ▸ hlt) y a₁ w₁ rfl J hI1;exact⟨O,U,V,K, .of_steps (StepsIn.trans harr (.one (fenced_calm hb hr rfl) stepR_inLoop)) harr2⟩
    | exit id=>exact⟨_,a₁,w₁,hq, .pass (x := .inLoop c) rfl (fun _ _ => .inl Sm) harr⟩
    | goto l=>exact⟨_,a₁,w₁,hq, .pass (x := .inLoop c) rfl (fun _ _ => .inl Sm) harr⟩
    | ret=>exact⟨_,a₁,w₁,hq, .pass (x := .inLoop c) rfl (fun _ _ => .inl Sm) harr⟩
    | panic ch=>exact⟨_,a₁,w₁,hq, .pass (x := .inLoop c) rfl (fun _ _ => .inl Sm) harr⟩
    | outgrown=>exact⟨_,a₁,w₁,hq, .pass (x := .inLoop c) rfl (fun _ _ => .inl Sm) harr⟩
 obtain⟨e',a',w',hq,harr⟩:=key _ u a w rfl (ha.sub hs) N;exact⟨e',a',w',hq, .of_steps (.one (fenced_calm hb hr rfl) stepR_loop) harr⟩
theorem WC.cut {ι:Type}{x y:Code}(E:ι->Env)(I:ι->World->Prop)
 (hx:WC r P (Exit.then (fun a' w' =>∃z,Sat n D (E z) a'/\I z w') Q) n D x e w) (hy :∀z w,I z w->WC r P Q n D y (E z) w):WC r P Q n D (.seq x y) e w :=
 fun a ha=>wpIn_seq (wpIn_mono (hx a ha) fun ex a' w' h=>by
  cases ex with
  | normal=>obtain⟨z,hs,hI⟩:=h;exact hy z w' hI a' hs
  | _=>exact h)
theorem WC.loop1 {α:Type}{c:Code}(E:α->Env)(J:α->World->Prop)(μ:α->Nat)(u:α)(hs:Sub (E u) e)(N:J u w)
 (round :∀u w,J u w->WC r P (Exit.then (fun a' w' =>∃K,Sat n D (E K) a'/\J K w'/\μ K<μ u) Q) n D c (E u) w):WC r P Q n D (.loop c) e w :=
 WC.loop (ι:=α) (fun p=>E p) (fun p=>J p) (fun p=>μ p) u hs N fun p w hp a ha=>wpIn_mono (round p w hp a ha) fun ex a' w' h=>by
  cases ex with
  | normal=>obtain⟨K,O,U,V⟩:=h;exact ⟨K,O,U,V⟩
  | _=>exact h
theorem WQ.again1 {α:Type}{E:α->Env}{J:α->World->Prop}{μ:α->Nat}{m:Nat}{Q':Exit->Act->World->Prop}(u:α)(hs:Sub (E u) e)(hJ:J u w)(hμ:μ u<m):
 WQ (Exit.then (fun a' w' =>∃K,Sat n D (E K) a'/\J K w'/\μ K<m) Q') .normal n D e w:=fun _ ha=>⟨u,ha.sub hs,hJ,hμ⟩
abbrev _root_.q1x := @WQ.again1
theorem WQ.inBlock {id:Nat}(k:WQ Q .normal n D e w):WQ (Exit.inBlock id Q) .normal n D e w:=fun a ha=>k a ha
theorem WQ.inBlockRet {id:Nat}(k:WQ Q .ret n D e w):WQ (Exit.inBlock id Q) .ret n D e w:=fun a ha=>k a ha
theorem WQ.thenRet {K:Act->World->Prop}(k:WQ Q .ret n D e w):WQ (Exit.then K Q) .ret n D e w:=fun a ha=>k a ha
theorem WQ.thenExit {K:Act->World->Prop}{id:Nat}(k:WQ Q (.exit id) n D e w):WQ (Exit.then K Q) (.exit id) n D e w:=fun a ha=>k a ha
abbrev _root_.q03 := @WQ.thenExit
theorem WQ.exitHere {id:Nat}(k:WQ Q .normal n D e w):WQ (Exit.inBlock id Q) (.exit id) n D e w:=fun a ha=>by
 show Exit.inBlock id Q (.exit id) a w
 simp only[Exit.inBlock,if_true];exact k a ha
abbrev _root_.q0b := @WQ.exitHere
theorem WQ.exitOut {id id':Nat}(h:Nat.beq id' id=false)(k:WQ Q (.exit id') n D e w):WQ (Exit.inBlock id Q) (.exit id') n D e w:=fun a ha=>by
 have hne:id'≠id:=Nat.ne_of_beq_eq_false h;simp only[Exit.inBlock,hne,if_false];exact k a ha
abbrev _root_.q1r := @WQ.exitOut
end
end Go.Ph
end
section
namespace Go.Ph
open Go Go.RowKit
abbrev Mem := Nat->Option Obj
def Mem.le (M M':Mem):Prop :=∀b o,M b=some o->M' b=some o
theorem Mem.le.refl (M:Mem):M.le M:=fun _ _ h=>h
theorem Mem.le.trans {A B C:Mem}(h:A.le B)(k:B.le C):A.le C:=fun b o hb=>k b o (h b o hb)
def Ag (M:Mem)(w:World):Prop :=∀b o,M b=some o->w.heap[b]? = some o
theorem Ag.lt {M:Mem}{w:World}(h:Ag M w){b:Nat}{o:Obj}(hb:M b=some o):b<w.heap.size:=(Array.getElem?_eq_some_iff.1 (h b o hb)).1
theorem Ag.none {M:Mem}{w:World}(h:Ag M w){b:Nat}(hb:w.heap.size<=b):M b=none:=by
 cases hm:M b with
 | none=>rfl
 | some o=>have:=h.lt hm;omega
structure BelowX (C:Nat->Prop)(w w':World):Prop where
 os:w'.os=w.os
 tape:w'.tape=w.tape
 output:w'.output=w.output
 size:w.heap.size<=w'.heap.size
 block :∀k,k<w.heap.size->¬C k->w'.heap[k]? = w.heap[k]?
structure ExtX (C:Nat->Prop)(w:World)(M:Mem)(w':World)(M':Mem):Prop where
 below:BelowX C w w'
 le:M.le M'
 ag:Ag M' w'
 old :∀b,b<w.heap.size->M' b=M b
abbrev Ext := ExtX (fun _=>False)
theorem BelowX.plain {w w':World}(h:BelowX (fun _=>False) w w'):Below w.heap.size w w':=⟨h.os,h.tape,h.output,h.size,fun k hk=>h.block k hk (fun h=>h)⟩
theorem BelowX.of {w w':World}(h:Below w.heap.size w w')(C:Nat->Prop):BelowX C w w':=⟨h.os,h.tape,h.output,h.size,fun k hk _=>h.block k hk⟩
theorem ExtX.refl {C:Nat->Prop}{M:Mem}{w:World}(h:Ag M w):ExtX C w M w M:=⟨⟨rfl,rfl,rfl,l07 _,fun _ _ _=>rfl⟩,fun _ _ h=>h,h,fun _ _=>rfl⟩
theorem Ext.refl {M:Mem}{w:World}(h:Ag M w):Ext w M w M:=ExtX.refl h
abbrev _root_.q1G := @Ext.refl
theorem ExtX.trans {C C':Nat->Prop}{w u E:World}{M M1 M2:Mem}(h:ExtX C w M u M1)(k:ExtX C' u M1 E M2)(hc :∀b,b<w.heap.size->C' b->C b):ExtX C w M E M2 :=
 ⟨⟨k.below.os.trans h.below.os,k.below.tape.trans h.below.tape,k.below.output.trans h.below.output,l0V h.below.size k.below.size,
  fun i hi hn=>(k.below.block i (l0Q hi h.below.size) (fun h'=>hn (hc i hi h'))).trans (h.below.block i hi hn)⟩,
  h.le.trans k.le,k.ag,fun b hb=>(k.old b (l0Q hb h.below.size)).trans (h.old b hb)⟩
inductive Item where
 | blk (b:Nat) (o:Obj)
 | row (t:TypeId) (size:Nat) (v:Value) (n:Nat) (xs:List Value)
def Item.foot : Item->Option Nat
 | .blk b _=>some b
 | .row _ _ v _ _=>v.ownBlock
def Item.holds (w:World):Item->Prop
 | .blk b o=>w.heap[b]? = some o
 | .row t s v n xs=>w.ownsRow 0 t s v n xs
theorem Item.holds.lt {w:World}{it:Item}(h:it.holds w):∀b,it.foot=some b->b<w.heap.size:=by
 intro b hb;cases it with
 | blk b' o =>
   have:b'=b:=Option.some.inj hb;subst this;exact(Array.getElem?_eq_some_iff.1 h).1
 | row t s v n xs=>exact(World.ownsRow.lt h b hb).2
theorem Item.holds.kept {w w':World}{it:Item}(h:it.holds w)(hg :∀b,it.foot=some b->w'.heap[b]? = w.heap[b]?):it.holds w':=by
 cases it with
 | blk b o=>exact(hg b rfl).trans h
 | row t s v n xs =>
   refine⟨h.1,?_⟩;rcases h.2 with E|⟨g,cap,cur,hv,hb,u,J⟩
   . exact .inl E
   exact .inr ⟨g,cap,cur,hv,hb,(hg g (by rw[Item.foot,hv];rfl)).trans u,J⟩
structure StX (C:Nat->Prop)(w0:World)(M0 M:Mem)(L:List Item)(w:World):Prop where
 ext:ExtX C w0 M0 w M
 own :∀it∈L,it.holds w/\∀b,it.foot=some b->M b=none/\(w0.heap.size<=b∨C b)
 sep:L.Pairwise (fun x y =>∀b,x.foot=some b->y.foot≠some b)
abbrev St := StX (fun _=>False)
theorem StX.start {C:Nat->Prop}{w:World}{M:Mem}(h:Ag M w):StX C w M M [] w:=⟨ExtX.refl h,fun _ hx=>(by cases hx),List.Pairwise.nil⟩
section
variable {C C' : Nat → Prop} {w0 w w' : World} {M0 M M' : Mem} {L L' : List Item} {it it' : Item}
theorem StX.ag (H:StX C w0 M0 M L w):Ag M w:=H.ext.ag
theorem StX.base (H:StX C w0 M0 M L w):w0.heap.size<=w.heap.size:=H.ext.below.size
theorem ExtX.grown {row:Option Nat}(h:ExtX C w0 M0 w M)(hg:w.grownBy w' row)(hr :∀b,row=some b->M b=none/\(w0.heap.size<=b∨C b)):ExtX C w0 M0 w' M :=
 ⟨⟨hg.os.trans h.below.os,hg.tape.trans h.below.tape,hg.output.trans h.below.output,l0V h.below.size hg.size,
  fun k hk hn=>(hg.block k (l0Q hk h.below.size) (fun e=>(hr k e.symm).2.elim (fun u=>absurd hk Om) hn)).trans (h.below.block k hk hn)⟩,
  h.le,fun b o hb=>(hg.block b (h.ag.lt hb) (fun e=>by rw[(hr b e.symm).1] at hb;cases hb)).trans (h.ag b o hb),h.old⟩
theorem StX.grow (H:StX C w0 M0 M L w)(hg:w.grownBy w' none):StX C w0 M0 M L w' :=
 ⟨H.ext.grown hg Sm,fun it hit=>⟨(H.own it hit).1.kept (fun b hb=>hg.block b ((H.own it hit).1.lt b hb) Sm),(H.own it hit).2⟩,H.sep⟩
theorem StX.drew (H:StX C w0 M0 M L w):StX C w0 M0 M L w.drew:=H.grow ⟨rfl,rfl,rfl,l07 _,fun _ _ _=>rfl⟩
theorem StX.drewN (H:StX C w0 M0 M L w)(n:Nat):StX C w0 M0 M L (w.drewN n):=H.grow ⟨rfl,rfl,rfl,l07 _,fun _ _ _=>rfl⟩
theorem StX.new (H:StX C w0 M0 M L w)(hg:w.grownBy w' none)(hh:it.holds w')(hf :∀b,it.foot=some b->w.heap.size<=b):StX C w0 M0 M (it::L) w':=by
 have H':=H.grow hg;refine⟨H'.ext,fun x hx=>?_,?_⟩
 . rcases List.mem_cons.1 hx with rfl|hx
   . exact⟨hh,fun b hb=>⟨H.ag.none (hf b hb), .inl (l0V H.base (hf b hb))⟩⟩
   exact H'.own x hx
 refine List.pairwise_cons.2 ⟨fun y hy b hb hyb=>?_,H.sep⟩;have u:=hf b hb;have E:=(H.own y hy).1.lt b hyb;omega
theorem StX.newNone (H:StX C w0 M0 M L w)(hh:it.holds w)(hf:it.foot=none):StX C w0 M0 M (it::L) w :=
 H.new ⟨rfl,rfl,rfl,l07 _,fun _ _ _=>rfl⟩ hh (by rw[hf];simp)
inductive Upd : List Item->Item->Item->List Item->Prop
 | head {it it':Item} {L:List Item}:Upd (it::L) it it' (it'::L)
 | tail {p it it':Item} {L L':List Item} (h:Upd L it it' L'):Upd (p::L) it it' (p::L')
theorem Upd.mem (h:Upd L it it' L'):it∈L:=by
 induction h with
 | head=>simp
 | tail _ ih=>simp [ih]
theorem Upd.mem' (h:Upd L it it' L'):∀x∈L',x=it'∨x∈L:=by
 induction h with
 | head => intro x hx;rcases List.mem_cons.1 hx with rfl|hx
           . exact .inl rfl
           exact .inr (by simp [hx])
 | tail _ ih => intro x hx;rcases List.mem_cons.1 hx with rfl|hx
                . exact .inr Sm
                rcases ih x hx with h|h
                . exact .inl h
                exact .inr (by simp [h])
theorem Upd.pairs {R:Item->Item->Prop}(hu:Upd L it it' L')(hs :∀x y,R x y->R y x)(hp:L.Pairwise R)(hn :∀x∈L,R it x->R it' x):
 L'.Pairwise R/\∀x∈L',x=it'∨R it x:=by
 induction hu with
 | head =>
   obtain⟨u,E⟩:=List.pairwise_cons.1 hp;exact⟨List.pairwise_cons.2 ⟨fun y hy=>hn y (by simp [hy]) (u y hy),E⟩,fun x hx=>by
    rcases List.mem_cons.1 hx with rfl|hx
    . exact .inl rfl
    exact .inr (u x hx)⟩
 | tail hu ih =>
   rename_i p it it' L L';obtain⟨u,E⟩:=List.pairwise_cons.1 hp;obtain⟨J,K⟩:=ih E (fun x hx=>hn x (by simp [hx]));have hpit:R it p:=hs _ _ (u _ hu.mem);refine⟨List.pairwise_cons.2 ⟨fun y hy=>?_,J⟩,fun x hx=>?_⟩
   . rcases hu.mem' y hy with rfl|hy'
     . exact hs _ _ (hn p Sm hpit)
     exact u y hy'
   rcases List.mem_cons.1 hx with rfl|hx
   . exact .inr hpit
   exact K x hx
abbrev Apart (x y:Item):Prop :=∀b,x.foot=some b->y.foot≠some b
theorem Apart.symm {x y:Item}(h:Apart x y):Apart y x:=fun b hb hx=>h b hx hb
theorem StX.upd (H:StX C w0 M0 M L w)(hu:Upd L it it' L')(hg:w.grownBy w' it.foot)(hh:it'.holds w')(hf :∀b,it'.foot=some b->it.foot=some b∨w.heap.size<=b):StX C w0 M0 M L' w':=by
 have hit:=H.own it hu.mem;obtain⟨hp,hq⟩:=hu.pairs (R:=Apart) (fun x y h=>h.symm) H.sep (fun x hx hr b hb hxb=>by
  rcases hf b hb with h|h
  . exact hr b h hxb
  have:=(H.own x hx).1.lt b hxb;omega)
 have hnew :∀b,it'.foot=some b->M b=none/\(w0.heap.size<=b∨C b):=fun b hb=>by
  rcases hf b hb with h|h
  . exact hit.2 b h
  exact⟨H.ag.none h, .inl (l0V H.base h)⟩
 refine⟨H.ext.grown hg hit.2,fun x hx=>?_,hp⟩;rcases hq x hx with rfl|hr
 . exact⟨hh,hnew⟩
 rcases hu.mem' x hx with rfl|hxL
 . exact⟨hh,hnew⟩
 exact⟨(H.own x hxL).1.kept (fun b hb=>hg.block b ((H.own x hxL).1.lt b hb) (fun he=>hr b he.symm hb)),(H.own x hxL).2⟩
inductive Rem : List Item->Item->List Item->Prop
 | head {it:Item} {L:List Item}:Rem (it::L) it L
 | tail {p it:Item} {L L':List Item} (h:Rem L it L'):Rem (p::L) it (p::L')
theorem Rem.mem (h:Rem L it L'):it∈L:=by
 induction h with
 | head=>simp
 | tail _ ih=>simp [ih]
theorem Rem.sublist (h:Rem L it L'):L'.Sublist L:=by
 induction h with
 | head=>exact l0N _ _
 | tail _ ih=>exact ih.cons_cons _
theorem Rem.pairs {R:Item->Item->Prop}(hu:Rem L it L')(hs :∀x y,R x y->R y x)(hp:L.Pairwise R):∀x∈L',R it x:=by
 induction hu with
 | head=>exact(List.pairwise_cons.1 hp).1
 | tail hu ih =>
   obtain⟨u,E⟩:=List.pairwise_cons.1 hp;intro x hx;rcases List.mem_cons.1 hx with rfl|hx
   . exact hs _ _ (u _ hu.mem)
   exact ih E x hx
theorem StX.drop (H:StX C w0 M0 M L w)(hs:L'.Sublist L):StX C w0 M0 M L' w:=⟨H.ext,fun it hit=>H.own it (hs.subset hit),H.sep.sublist hs⟩
def Mem.set (M:Mem)(b:Nat)(o:Obj):Mem:=fun b'=>if b'=b then some o else M b'
theorem StX.freeze (H:StX C w0 M0 M L w)(hu:Rem L it L'){b:Nat}{o:Obj}(hf:it.foot=some b)(ho:w.heap[b]? = some o)(hb:w0.heap.size<=b):M.le (M.set b o)/\StX C w0 M0 (M.set b o) L' w:=by
 have hit:=H.own it hu.mem;have u:M.le (M.set b o):=fun b' o' hbm=>by
  by_cases h:b'=b
  . subst h;rw [(hit.2 b' hf).1] at hbm;cases hbm
  simp [Mem.set,h,hbm]
 refine⟨u,⟨H.ext.below,H.ext.le.trans u,fun b' o' hb=>?_,fun b' hb'=>?_⟩,fun x hx=>?_,H.sep.sublist hu.sublist⟩
 . by_cases h:b'=b
   . subst h;simp only[Mem.set,if_true] at hb;rw [<-hb];exact ho
   simp only[Mem.set,h,if_false] at hb;exact H.ag b' o' hb
 . have hne:b'≠b:=by omega
   simp only[Mem.set,hne,if_false];exact H.ext.old b' hb'
 have hx':=H.own x (hu.sublist.subset hx);refine⟨hx'.1,fun b' hb'=>?_⟩;have hne:b'≠b:=fun h=>by
  subst h;exact hu.pairs (R:=Apart) (fun x y h=>h.symm) H.sep x hx b' hf hb'
 simp only[Mem.set,hne,if_false];exact hx'.2 b' hb'
def feet (L:List Item)(b:Nat):Prop :=∃it∈L,it.foot=some b
inductive Spl : List Item->List Item->List Item->Prop
 | nil:Spl [] [] []
 | left {x:Item} {L A B:List Item} (h:Spl L A B):Spl (x::L) (x::A) B
 | right {x:Item} {L A B:List Item} (h:Spl L A B):Spl (x::L) A (x::B)
theorem Spl.all (L:List Item):Spl L [] L:=by
 induction L with
 | nil=>exact .nil
 | cons x L ih=>exact .right ih
abbrev _root_.q0r := @Spl.all
theorem Spl.whole (L:List Item):Spl L L []:=by
 induction L with
 | nil=>exact .nil
 | cons x L ih=>exact .left ih
abbrev _root_.q1p := @Spl.whole
theorem Spl.subs {A B:List Item}(h:Spl L A B):A.Sublist L/\B.Sublist L:=by
 induction h with
 | nil=>exact⟨List.Sublist.refl _,List.Sublist.refl _⟩
 | left _ ih=>exact⟨ih.1.cons_cons _,ih.2.cons _⟩
 | right _ ih=>exact⟨ih.1.cons _,ih.2.cons_cons _⟩
theorem Spl.cross {R:Item->Item->Prop}{A B:List Item}(h:Spl L A B)(hs :∀x y,R x y->R y x)(hp:L.Pairwise R):∀x∈A,∀y∈B,R x y:=by
 induction h with
 | nil=>intro x hx;cases hx
 | left h ih =>
   obtain⟨u,E⟩:=List.pairwise_cons.1 hp;intro x hx y hy;rcases List.mem_cons.1 hx with rfl|hx
   . exact u y (h.subs.2.subset hy)
   exact ih E x hx y hy
 | right h ih =>
   obtain⟨u,E⟩:=List.pairwise_cons.1 hp;intro x hx y hy;rcases List.mem_cons.1 hy with rfl|hy
   . exact hs _ _ (u x (h.subs.1.subset hx))
   exact ih E x hx y hy
theorem Spl.append (A B:List Item):Spl (A++B) A B:=by
 induction A with
 | nil=>exact Spl.all B
 | cons x A ih=>exact .left ih
abbrev _root_.q1B := @Spl.append
theorem StX.hand {A B:List Item}(H:StX C w0 M0 M L w)(hs:Spl L A B):StX (feet A) w M M A w :=
 ⟨ExtX.refl H.ag,fun it hit=>⟨(H.own it (hs.subs.1.subset hit)).1,fun b hb=>⟨((H.own it (hs.subs.1.subset hit)).2 b hb).1, .inr ⟨it,hit,hb⟩⟩⟩,H.sep.sublist hs.subs.1⟩
theorem StX.back {A B A':List Item}(H:StX C w0 M0 M L w)(hs:Spl L A B)(h:StX (feet A) w M M' A' w'):StX C w0 M0 M' (A'++B) w':=by
 have hB :∀it∈B,∀b,it.foot=some b->w'.heap[b]? = w.heap[b]?/\M' b=none:=fun it hit b hb=>by
  have u:=H.own it (hs.subs.2.subset hit);have hlt:=u.1.lt b hb;refine⟨h.ext.below.block b hlt (fun⟨x,hx,hxb⟩=>hs.cross (R:=Apart) (fun x y h=>h.symm) H.sep x hx it hit b hxb hb),?_⟩;rw[h.ext.old b hlt];exact(u.2 b hb).1
 refine⟨H.ext.trans h.ext (fun b hb ⟨x,hx,hxb⟩=>by
  rcases((H.own x (hs.subs.1.subset hx)).2 b hxb).2 with u|u
  . omega
  exact u),fun it hit=>?_,?_⟩
 . rcases List.mem_append.1 hit with u|u
   . refine⟨(h.own it u).1,fun b hb=>⟨((h.own it u).2 b hb).1,?_⟩⟩;rcases((h.own it u).2 b hb).2 with E|⟨x,hx,hxb⟩
     . exact .inl (l0V H.base E)
     exact((H.own x (hs.subs.1.subset hx)).2 b hxb).2
   have E:=H.own it (hs.subs.2.subset u);exact⟨E.1.kept (fun b hb=>(hB it u b hb).1),fun b hb=>⟨(hB it u b hb).2,(E.2 b hb).2⟩⟩
 refine List.pairwise_append.2 ⟨h.sep,H.sep.sublist hs.subs.2,fun x hx y hy b hxb hyb=>?_⟩;have hlt:=(H.own y (hs.subs.2.subset hy)).1.lt b hyb;rcases((h.own x hx).2 b hxb).2 with E|⟨z,hz,hzb⟩
 . omega
 exact hs.cross (R:=Apart) (fun x y h=>h.symm) H.sep z hz y hy b hzb hyb
theorem feet_nil : feet []=fun _=>False:=by funext b;simp [feet]
theorem StX.callO {its:List Item}(H:StX C w0 M0 M L w)(h:St w M M' its w'):StX C w0 M0 M' (its++L) w' :=
 H.back (Spl.all L) (by rw[feet_nil];exact h)
theorem StX.call (H:StX C w0 M0 M L w)(h:Ext w M w' M'):StX C w0 M0 M' L w' :=
 H.callO (its:=[]) ⟨h,fun _ hx=>(by cases hx),List.Pairwise.nil⟩
theorem StX.blk (H:StX C w0 M0 M L w){b:Nat}{o:Obj}(h:Item.blk b o∈L):w.heap[b]? = some o:=(H.own _ h).1
theorem StX.rowOf (H:StX C w0 M0 M L w){t:TypeId}{s:Nat}{v:Value}{n:Nat}{xs:List Value}(h:Item.row t s v n xs∈L):w.ownsRow 0 t s v n xs:=(H.own _ h).1
end
def Ret (w:World)(M:Mem)(R:Value->Mem->Prop)(e:Ending)(w':World):Prop :=∃r M',e = .returned r/\Ext w M w' M'/\R r M'
structure Ct (P:Program)(f:FuncId)(args:List Value)(Pre:Mem->Prop)(R:Value->Mem->Prop):Prop where
 enters :∀ar w,(callFunc f ar).run P w = .ok (.enter f ar) w
 calls :∀w M,Ag M w->Pre M->Calls P f args.toArray w (Ret w M R)
def RetX (A:List Item)(w:World)(M:Mem)(R:Value->Mem->List Item->Prop)(e:Ending)(w':World):Prop :=∃r M' its,e = .returned r/\StX (feet A) w M M' its w'/\R r M' its
structure CtX (P:Program)(f:FuncId)(args:List Value)(A:List Item)(Pre:Mem->Prop)(R:Value->Mem->List Item->Prop):Prop where
 enters :∀ar w,(callFunc f ar).run P w = .ok (.enter f ar) w
 calls :∀w M,StX (feet A) w M M A w->Pre M->Calls P f args.toArray w (RetX A w M R)
def RetO (w:World)(M:Mem)(R:Value->Mem->List Item->Prop)(e:Ending)(w':World):Prop :=∃r M' its,e = .returned r/\St w M M' its w'/\R r M' its
structure CtO (P:Program)(f:FuncId)(args:List Value)(Pre:Mem->Prop)(R:Value->Mem->List Item->Prop):Prop where
 enters :∀ar w,(callFunc f ar).run P w = .ok (.enter f ar) w
 calls :∀w M,Ag M w->Pre M->Calls P f args.toArray w (RetO w M R)
theorem Ct.mono {P:Program}{f:FuncId}{args:List Value}{Pre:Mem->Prop}{R R':Value->Mem->Prop}(h:Ct P f args Pre R)(hr :∀v M,R v M->R' v M):Ct P f args Pre R' :=
 ⟨h.enters,fun w M ha hp=>(h.calls w M ha hp).mono fun _ _ ⟨r,M',he,hx,hR⟩=>⟨r,M',he,hx,hr _ _ hR⟩⟩
def envOf : Nat->List Value->Env
 | _,[]=>[]
 | i,v::vs=>(i,v)::envOf (i+1) vs
theorem get_envOf (vs:List Value):∀(i j:Nat) (v:Value),get (envOf i vs) j=some v->i<=j/\vs[j-i]? = some v:=by
 induction vs with
 | nil=>intro i j v h;cases h
 | cons u vs ih =>
   intro i j v h;simp only[envOf,get] at h;cases hb:Nat.beq j i with
   | true =>
     have:j=i:=l0A hb;subst this;rw[hb] at h;have:u=v:=Option.some.inj h;subst this;simp
   | false =>
     rw[hb] at h;obtain⟨J,E⟩:=ih (i+1) j v h;refine⟨by omega,?_⟩;rw[show j-i=(j-(i+1))+1 by omega,List.getElem?_cons_succ];exact E
theorem Sat.init {n:Nat}{args:List Value}(hn:args.length<=n):Sat n [] (envOf 0 args) {tmps:=args.toArray++Array.replicate (n-args.toArray.size) undef,defers:=[]}:=by
 refine⟨by simp;omega,rfl,fun i v hi=>?_⟩;obtain⟨_,h⟩:=get_envOf args 0 i v hi;have hlt:i<args.length:=(List.getElem?_eq_some_iff.1 h).1;simp only[l2i] at h;have h':=(List.getElem?_eq_some_iff.1 h).2;simp [Array.getElem?_append,hlt,h']
theorem calls_of_WC {P:Program}{f:FuncId}{fn:Func}{c:Code}{args:List Value}{w:World}{R:Ending->World->Prop}{n:Nat}
 (hf:P.funcs[f]? = some fn) (hb:fn.body=some c) (hnt:fn.ntmps=n) (hn:Nat.ble args.length n=true)
 (h:WC none P (bodyPost P fn R) n [] c (envOf 0 args) w):Calls P f args.toArray w R:=by
 refine callsIn_Wd.1 (callsIn_of_wp (F:=Wd none) (n:=0) hf hb trivial ?_);subst hnt;exact h _ (Sat.init (l09 hn))
theorem Ct.of {P:Program}{f:FuncId}{fn:Func}{c:Code}{args:List Value}{Pre:Mem->Prop}{R:Value->Mem->Prop}{n:Nat}
 (hf:P.funcs[f]? = some fn) (hen :∀ar w,(callFunc f ar).run P w = .ok (.enter f ar) w) (hb:fn.body=some c) (hnt:fn.ntmps=n) (hn:Nat.ble args.length n=true)
 (h :∀w M,St w M M [] w->Pre M->WC none P (bodyPost P fn (Ret w M R)) n [] c (envOf 0 args) w):Ct P f args Pre R :=
 ⟨hen,fun w M ha hp=>calls_of_WC hf hb hnt hn (h w M (StX.start ha) hp)⟩
theorem CtO.of {P:Program}{f:FuncId}{fn:Func}{c:Code}{args:List Value}{Pre:Mem->Prop}{R:Value->Mem->List Item->Prop}{n:Nat}
 (hf:P.funcs[f]? = some fn) (hen :∀ar w,(callFunc f ar).run P w = .ok (.enter f ar) w) (hb:fn.body=some c) (hnt:fn.ntmps=n) (hn:Nat.ble args.length n=true)
 (h :∀w M,St w M M [] w->Pre M->WC none P (bodyPost P fn (RetO w M R)) n [] c (envOf 0 args) w):CtO P f args Pre R :=
 ⟨hen,fun w M ha hp=>calls_of_WC hf hb hnt hn (h w M (StX.start ha) hp)⟩
theorem enters {P : Program}{f : FuncId}{fn : Func}(hf : P.funcs[f]? = some fn)(hname : (fn.name == "runtime.NumGoroutine") = false)(hb : fn.body.isNone = false):
 ∀ar w,(callFunc f ar).run P w = .ok (.enter f ar) w:=by
 intro ar w
 have u : ¬ fn.name = "runtime.NumGoroutine" := by simpa using hname
 have E :¬fn.body=none:=by intro h;simp [h] at hb
 simp [callFunc,hf,u,E,go_sem]
section
variable {P : Program} {fn : Func} {w0 w : World} {M0 M : Mem} {R : Value → Mem → Prop} {n : Nat} {e : Env} {v v1 v2 v3 v4 : Value}
def resv (P:Program)(w:World)(e:Env):ResultVar->Value->Prop
 | .tmp t,v=>get e t=some v
 | .cell a t,v =>∃p,get e a=some (.pointer (some p))/\(loadVar t p).run P w = .ok v w
def resf (tmps:Array Value):ResultVar->Sem Value
 | .tmp t=>pure (tmps.getD t undef)
 | .cell a t=>do loadVar t (<-asAddr (tmps.getD a undef))
theorem results_eq (fn:Func)(tmps:Array Value):results fn tmps=(do let vs <-fn.results.mapM (resf tmps);pure (if h:vs.size=1 then vs[0] else .tuple vs)):=by
 unfold results;congr 1
theorem resv_run {D:List Deferred}{a:Act}{x:ResultVar}(ha:Sat n D e a)(h:resv P w e x v):(resf a.tmps x).run P w = .ok v w:=by
 cases x with
 | tmp t =>
   show(pure (a.tmps.getD t undef):Sem Value).run P w=_
   rw[ha.val t v h];rfl
 | cell ad t =>
   obtain⟨p,hp,hl⟩:=h;show(do loadVar t (<-asAddr (a.tmps.getD ad undef)):Sem Value).run P w=_
   rw[ha.val ad _ hp];exact hl
section
variable (f : ResultVar → Sem Value)
theorem run_res1 {x:ResultVar}(u:(f x).run P w = .ok v w):(do let vs <-(#[x]:Array ResultVar).mapM f;pure (if h:vs.size=1 then vs[0] else .tuple vs):Sem Value).run P w = .ok v w:=by simp [u]
theorem run_res2 {x y:ResultVar}(u:(f x).run P w = .ok v1 w)(E:(f y).run P w = .ok v2 w):(do let vs <-(#[x,y]:Array ResultVar).mapM f;pure (if h:vs.size=1 then vs[0] else .tuple vs):Sem Value).run P w = .ok (.tuple #[v1,v2]) w:=by simp [u,E]
theorem run_res3 {x y z:ResultVar}(u:(f x).run P w = .ok v1 w)(E:(f y).run P w = .ok v2 w)(J:(f z).run P w = .ok v3 w):(do let vs <-(#[x,y,z]:Array ResultVar).mapM f;pure (if h:vs.size=1 then vs[0] else .tuple vs):Sem Value).run P w = .ok (.tuple #[v1,v2,v3]) w:=by simp [u,E,J]
end
theorem WQ.ret1O {x:ResultVar}{L its:List Item}{R:Value->Mem->List Item->Prop}(hr:fn.results = #[x])(u:resv P w e x v)(H:St w0 M0 M L w)(hs:its.Sublist L)(hR:R v M its):WQ (bodyPost P fn (RetO w0 M0 R)) .ret n [] e w :=
 fun a ha=>⟨ha.defers,v,by rw[results_eq,hr];exact run_res1 _ (resv_run ha u),_,M,its,rfl,H.drop hs,hR⟩
theorem WQ.ret2O {x y:ResultVar}{L its:List Item}{R:Value->Mem->List Item->Prop}(hr:fn.results = #[x,y])(u:resv P w e x v1)(E:resv P w e y v2)(H:St w0 M0 M L w)(hs:its.Sublist L)(hR:R (.tuple #[v1,v2]) M its):WQ (bodyPost P fn (RetO w0 M0 R)) .ret n [] e w :=
 fun a ha=>⟨ha.defers, .tuple #[v1,v2],by rw[results_eq,hr];exact run_res2 _ (resv_run ha u) (resv_run ha E),_,M,its,rfl,H.drop hs,hR⟩
abbrev _root_.q1J := @WQ.ret2O
theorem WQ.ret1 {x:ResultVar}(hr:fn.results = #[x])(u:resv P w e x v)(H:Ext w0 M0 w M)(hR:R v M):WQ (bodyPost P fn (Ret w0 M0 R)) .ret n [] e w :=
 fun a ha=>⟨ha.defers,v,by rw[results_eq,hr];exact run_res1 _ (resv_run ha u),_,M,rfl,H,hR⟩
abbrev _root_.q07 := @WQ.ret1
theorem WQ.ret2 {x y:ResultVar}(hr:fn.results = #[x,y])(u:resv P w e x v1)(E:resv P w e y v2)(H:Ext w0 M0 w M)(hR:R (.tuple #[v1,v2]) M):WQ (bodyPost P fn (Ret w0 M0 R)) .ret n [] e w :=
 fun a ha=>⟨ha.defers, .tuple #[v1,v2],by rw[results_eq,hr];exact run_res2 _ (resv_run ha u) (resv_run ha E),_,M,rfl,H,hR⟩
abbrev _root_.q0t := @WQ.ret2
theorem WQ.ret3 {x y z:ResultVar}(hr:fn.results = #[x,y,z])(u:resv P w e x v1)(E:resv P w e y v2)(J:resv P w e z v3)(H:Ext w0 M0 w M)(hR:R (.tuple #[v1,v2,v3]) M):WQ (bodyPost P fn (Ret w0 M0 R)) .ret n [] e w :=
 fun a ha=>⟨ha.defers, .tuple #[v1,v2,v3],by rw[results_eq,hr];exact run_res3 _ (resv_run ha u) (resv_run ha E) (resv_run ha J),_,M,rfl,H,hR⟩
end
end Go.Ph
end
section
namespace Go.Ph
open Go Go.RowKit
abbrev S (l:Ls):Value := .string ⟨l.toArray⟩
abbrev I (n:Int):Value := .int .i64 n
abbrev ptr (b o:Nat):Value := .pointer (some ⟨b,o,none⟩)
theorem i64_in {x:Int}(h : -9223372036854775808<=x/\x<=9223372036854775807):IntKind.i64.wrap x=x:=by
 rw[IntKind.wrap_i64];omega
theorem u8_in {x:Int}(h:0<=x/\x<256):IntKind.u8.wrap x=x:=by
 rw[IntKind.wrap_u8];omega
theorem u64_in {x:Int}(h:0<=x/\x<18446744073709551616):IntKind.u64.wrap x=x:=by
 rw[IntKind.wrap_u64];omega
section
variable {P : Program} {e : Env} {w w' : World} {x y c : Operand} {v u : Value} {dst : Option Tmp} {ty t t' : TypeId} {pos : String} {af : Array Edge} {g : Option (Nat × Bool)} {k : IntKind} {a b : Int}
theorem Ex.move (h:ev e x=some v):Ex P ⟨dst, .move x,ty,pos,af,g⟩ e w v w:=⟨nofun,fun ρ hf=>by simp [execOp,hf _ _ h]⟩
abbrev _root_.q06 := @Ex.move
theorem Ex.assign (h:ev e x=some v):Ex P ⟨dst, .assign x,ty,pos,af,g⟩ e w v w:=⟨nofun,fun ρ hf=>by simp [execOp,hf _ _ h]⟩
abbrev _root_.q1u := @Ex.assign
theorem Ex.pickT (hc:ev e c=some (.bool true))(h:ev e x=some v):Ex P ⟨dst, .pick c x y,ty,pos,af,g⟩ e w v w:=⟨nofun,fun ρ hf=>by simp [execOp,asBool,hf _ _ hc,hf _ _ h]⟩
theorem Ex.pickF (hc:ev e c=some (.bool false))(h:ev e y=some v):Ex P ⟨dst, .pick c x y,ty,pos,af,g⟩ e w v w:=⟨nofun,fun ρ hf=>by simp [execOp,asBool,hf _ _ hc,hf _ _ h]⟩
theorem run_guard_int (op:BinOp)(k k':IntKind)(a b:Int):(eqGuard op t x y (.int k a) (.int k' b)).run P w = .ok () w:=by
 unfold eqGuard;split <;> rfl
theorem Ex.int {op:BinOp}{k':IntKind}(E:ev e x=some (.int k a))(J:ev e y=some (.int k' b))(hr:(binOp op t (.int k a) (.int k' b)).run P w = .ok v w):Ex P ⟨dst, .binOp op t x y t',ty,pos,af,g⟩ e w v w :=
 ⟨nofun,fun ρ hf=>by
  have hg:=run_guard_int (P:=P) (w:=w) (t:=t) (x:=x) (y:=y) op k k' a b;simp only[execOp,hf _ _ E,hf _ _ J,Sem.run_bind,hg,hr,Result.andThen_ok,Sem.run_pure]⟩
theorem Ex.add (E:ev e x=some (.int k a))(J:ev e y=some (.int k b)):Ex P ⟨dst, .binOp .add t x y t',ty,pos,af,g⟩ e w (.int k (k.wrap (a+b))) w:=Ex.int E J (by simp [binOp,Op.intArith])
theorem Ex.sub (E:ev e x=some (.int k a))(J:ev e y=some (.int k b)):Ex P ⟨dst, .binOp .sub t x y t',ty,pos,af,g⟩ e w (.int k (k.wrap (a-b))) w:=Ex.int E J (by simp [binOp,Op.intArith])
theorem Ex.mul (E:ev e x=some (.int k a))(J:ev e y=some (.int k b)):Ex P ⟨dst, .binOp .mul t x y t',ty,pos,af,g⟩ e w (.int k (k.wrap (a*b))) w:=Ex.int E J (by simp [binOp,Op.intArith])
theorem Ex.add64 (E:ev e x=some (I a))(J:ev e y=some (I b))(h : -9223372036854775808<=a+b/\a+b<=9223372036854775807):Ex P ⟨dst, .binOp .add t x y t',ty,pos,af,g⟩ e w (I (a+b)) w:=by
 have:=Ex.add (P:=P) (w:=w) (dst:=dst) (ty:=ty) (t:=t) (t':=t') (pos:=pos) (af:=af) (g:=g) E J;rwa [i64_in h] at this
theorem Ex.sub64 (E:ev e x=some (I a))(J:ev e y=some (I b))(h : -9223372036854775808<=a-b/\a-b<=9223372036854775807):Ex P ⟨dst, .binOp .sub t x y t',ty,pos,af,g⟩ e w (I (a-b)) w:=by
 have:=Ex.sub (P:=P) (w:=w) (dst:=dst) (ty:=ty) (t:=t) (t':=t') (pos:=pos) (af:=af) (g:=g) E J;rwa [i64_in h] at this
theorem Ex.mul64 (E:ev e x=some (I a))(J:ev e y=some (I b))(h : -9223372036854775808<=a*b/\a*b<=9223372036854775807):Ex P ⟨dst, .binOp .mul t x y t',ty,pos,af,g⟩ e w (I (a*b)) w:=by
 have:=Ex.mul (P:=P) (w:=w) (dst:=dst) (ty:=ty) (t:=t) (t':=t') (pos:=pos) (af:=af) (g:=g) E J;rwa [i64_in h] at this
theorem Ex.quoT (E:ev e x=some (.int k a))(J:ev e y=some (.int k b))(h:b≠0):Ex P ⟨dst, .binOp .quo t x y t',ty,pos,af,g⟩ e w (.int k (k.wrap (a.tdiv b))) w :=
 Ex.int E J (by simp [binOp,Op.intDiv,h])
theorem Ex.remT (E:ev e x=some (.int k a))(J:ev e y=some (.int k b))(h:b≠0):Ex P ⟨dst, .binOp .rem t x y t',ty,pos,af,g⟩ e w (.int k (a.tmod b)) w :=
 Ex.int E J (by simp [binOp,Op.intDiv,h])
theorem Ex.shl {k':IntKind}(E:ev e x=some (.int k a))(J:ev e y=some (.int k' b))(h:0<=b):Ex P ⟨dst, .binOp .shl t x y t',ty,pos,af,g⟩ e w (.int k (k.wrap (a*2 ^ min b.toNat k.bits))) w :=
 Ex.int E J (by simp [binOp,Op.shift];omega)
theorem Ex.shr {k':IntKind}(E:ev e x=some (.int k a))(J:ev e y=some (.int k' b))(h:0<=b):Ex P ⟨dst, .binOp .shr t x y t',ty,pos,af,g⟩ e w (.int k (a.fdiv (2 ^ min b.toNat k.bits))) w :=
 Ex.int E J (by simp [binOp,Op.shift];omega)
theorem Ex.shrN {m s:Nat}{k':IntKind}(E:ev e x=some (.int k (m:Int)))(J:ev e y=some (.int k' (s:Int)))(hs:s<=k.bits):Ex P ⟨dst, .binOp .shr t x y t',ty,pos,af,g⟩ e w (.int k ((m / 2 ^ s:Nat):Int)) w:=by
 have:=Ex.shr (P:=P) (w:=w) (dst:=dst) (ty:=ty) (t:=t) (t':=t') (pos:=pos) (af:=af) (g:=g) E J Om;have K:(m:Int).fdiv (2 ^ min (s:Int).toNat k.bits)=((m / 2 ^ s:Nat):Int):=by
  rw[l0h,l1C hs,Int.fdiv_eq_ediv_of_nonneg _ (Int.pow_nonneg Dc)];simp
 rwa [K] at this
theorem Ex.shlK {m s:Nat}{k':IntKind}(E:ev e x=some (.int k (m:Int)))(J:ev e y=some (.int k' (s:Int)))(hs:s<=k.bits):Ex P ⟨dst, .binOp .shl t x y t',ty,pos,af,g⟩ e w (.int k (k.wrap ((m*2 ^ s:Nat):Int))) w:=by
 have:=Ex.shl (P:=P) (w:=w) (dst:=dst) (ty:=ty) (t:=t) (t':=t') (pos:=pos) (af:=af) (g:=g) E J Om;have K:(m:Int)*2 ^ min (s:Int).toNat k.bits=((m*2 ^ s:Nat):Int):=by
  rw[l0h,l1C hs];simp
 rwa [K] at this
theorem ofInt_nat (b a:Nat)(ha:a<2 ^ b):(BitVec.ofInt b (a:Int)).toNat=a:=by
 rw[BitVec.ofInt_natCast,BitVec.toNat_ofNat];exact l1A ha
theorem ofInt_i64 (a:Nat)(ha:a<9223372036854775808):(BitVec.ofInt 64 (a:Int)).toNat=a:=by
 rw[BitVec.ofInt_natCast,BitVec.toNat_ofNat];exact l1A Om
theorem Ex.andN {m s:Nat}(E:ev e x=some (I (m:Int)))(J:ev e y=some (I (s:Int)))(hm:m<9223372036854775808)(hs:s<9223372036854775808):Ex P ⟨dst, .binOp .and t x y t',ty,pos,af,g⟩ e w (I ((m &&& s:Nat):Int)) w :=
 Ex.int E J (by
  have hx:m &&& s<2 ^ 63:=Nat.and_lt_two_pow _ Om;have hr:IntKind.i64.wrap ((BitVec.ofInt 64 (m:Int) &&& BitVec.ofInt 64 (s:Int)).toNat:Int)=((m &&& s:Nat):Int):=by
   rw[BitVec.toNat_and,ofInt_i64 m hm,ofInt_i64 s hs];exact i64_in Om
  show(Op.intBits .and .i64 (m:Int) (s:Int)).run P w=_
  simp only[Op.intBits,IntKind.bits,Sem.run_pure];exact congrArg (fun z=>Result.ok (I z) w) hr)
theorem Ex.orN {m s:Nat}(E:ev e x=some (I (m:Int)))(J:ev e y=some (I (s:Int)))(hm:m<9223372036854775808)(hs:s<9223372036854775808):Ex P ⟨dst, .binOp .or t x y t',ty,pos,af,g⟩ e w (I ((m ||| s:Nat):Int)) w :=
 Ex.int E J (by
  have hx:m ||| s<2 ^ 63:=l0p Om Om;have hr:IntKind.i64.wrap ((BitVec.ofInt 64 (m:Int) ||| BitVec.ofInt 64 (s:Int)).toNat:Int)=((m ||| s:Nat):Int):=by
   rw[BitVec.toNat_or,ofInt_i64 m hm,ofInt_i64 s hs];exact i64_in Om
  show(Op.intBits .or .i64 (m:Int) (s:Int)).run P w=_
  simp only[Op.intBits,IntKind.bits,Sem.run_pure];exact congrArg (fun z=>Result.ok (I z) w) hr)
theorem Ex.convU64 {E:TypeDesc}(hs:P.underlying t=some E)(hd:P.underlying t'=some (.int .u64))(h:ev e x=some (.int k a))(hr:0<=a/\a<=9223372036854775807):Ex P ⟨dst, .convert t t' x,ty,pos,af,g⟩ e w (.int .u64 a) w:=⟨nofun,fun ρ hf=>by
 have:IntKind.u64.wrap a=a:=by rw[IntKind.wrap_u64];omega
 simp [execOp,hf _ _ h,convert,underlying,hs,hd,Conv.intToInt,this,go_sem]⟩
abbrev _root_.q1C := @Ex.convU64
theorem Ex.bits {op:BinOp}{r:Int}(E:ev e x=some (.int k a))(J:ev e y=some (.int k b))(hr :∀w,(Op.intBits op k a b).run P w = .ok (.int k r) w)(hop:op = .and∨op = .or∨op = .xor∨op = .andNot):Ex P ⟨dst, .binOp op t x y t',ty,pos,af,g⟩ e w (.int k r) w :=
 Ex.int E J (by rcases hop with h|h|h|h <;> subst h <;> simp [binOp,hr])
theorem Ex.andK {m s:Nat}(E:ev e x=some (.int k (m:Int)))(J:ev e y=some (.int k (s:Int)))(hm:m<2 ^ k.bits)(hs:s<2 ^ k.bits):Ex P ⟨dst, .binOp .and t x y t',ty,pos,af,g⟩ e w (.int k (k.wrap ((m &&& s:Nat):Int))) w :=
 Ex.bits E J (fun w=>by simp only[Op.intBits,Sem.run_pure,BitVec.toNat_and,ofInt_nat _ m hm,ofInt_nat _ s hs]) (.inl rfl)
theorem Ex.orK {m s:Nat}(E:ev e x=some (.int k (m:Int)))(J:ev e y=some (.int k (s:Int)))(hm:m<2 ^ k.bits)(hs:s<2 ^ k.bits):Ex P ⟨dst, .binOp .or t x y t',ty,pos,af,g⟩ e w (.int k (k.wrap ((m ||| s:Nat):Int))) w :=
 Ex.bits E J (fun w=>by simp only[Op.intBits,Sem.run_pure,BitVec.toNat_or,ofInt_nat _ m hm,ofInt_nat _ s hs]) (.inr (.inl rfl))
theorem Ex.lss (E:ev e x=some (.int k a))(J:ev e y=some (.int k b)):Ex P ⟨dst, .binOp .lss t x y t',ty,pos,af,g⟩ e w (.bool (decide (a<b))) w:=Ex.int E J (by simp [binOp,Op.intCmp])
abbrev _root_.q0m := @Ex.lss
theorem Ex.leq (E:ev e x=some (.int k a))(J:ev e y=some (.int k b)):Ex P ⟨dst, .binOp .leq t x y t',ty,pos,af,g⟩ e w (.bool (decide (a<=b))) w:=Ex.int E J (by simp [binOp,Op.intCmp])
abbrev _root_.q1q := @Ex.leq
theorem Ex.gtr (E:ev e x=some (.int k a))(J:ev e y=some (.int k b)):Ex P ⟨dst, .binOp .gtr t x y t',ty,pos,af,g⟩ e w (.bool (decide (b<a))) w:=Ex.int E J (by simp [binOp,Op.intCmp])
abbrev _root_.q0C := @Ex.gtr
theorem Ex.geq (E:ev e x=some (.int k a))(J:ev e y=some (.int k b)):Ex P ⟨dst, .binOp .geq t x y t',ty,pos,af,g⟩ e w (.bool (decide (b<=a))) w:=Ex.int E J (by simp [binOp,Op.intCmp])
abbrev _root_.q0R := @Ex.geq
theorem Ex.eql (E:ev e x=some (.int k a))(J:ev e y=some (.int k b)):Ex P ⟨dst, .binOp .eql t x y t',ty,pos,af,g⟩ e w (.bool (decide (a=b))) w:=Ex.int E J (by simp [binOp,Op.intCmp];rfl)
abbrev _root_.q0u := @Ex.eql
theorem Ex.neq (E:ev e x=some (.int k a))(J:ev e y=some (.int k b)):Ex P ⟨dst, .binOp .neq t x y t',ty,pos,af,g⟩ e w (.bool (decide (a≠b))) w:=Ex.int E J (by simp [binOp,Op.intCmp,bne];rfl)
theorem Ex.not {b:Bool}(h:ev e x=some (.bool b)):Ex P ⟨dst, .unOp .not t x,ty,pos,af,g⟩ e w (.bool (!b)) w:=⟨nofun,fun ρ hf=>by simp [execOp,hf _ _ h,Op.unary]⟩
abbrev _root_.q0y := @Ex.not
theorem Ex.conv {k':IntKind}{E:TypeDesc}(hs:P.underlying t=some E)(hd:P.underlying t'=some (.int k'))(h:ev e x=some (.int k a)):Ex P ⟨dst, .convert t t' x,ty,pos,af,g⟩ e w (.int k' (k'.wrap a)) w :=
 ⟨nofun,fun ρ hf=>by simp [execOp,hf _ _ h,convert,underlying,hs,hd,Conv.intToInt,go_sem]⟩
theorem Ex.convI {E:TypeDesc}(hs:P.underlying t=some E)(hd:P.underlying t'=some (.int .i64))(h:ev e x=some (.int k a))(hr : -9223372036854775808<=a/\a<=9223372036854775807):Ex P ⟨dst, .convert t t' x,ty,pos,af,g⟩ e w (I a) w:=by
 have:=Ex.conv (P:=P) (w:=w) (dst:=dst) (ty:=ty) (pos:=pos) (af:=af) (g:=g) hs hd h
 rwa [i64_in hr] at this
theorem Ex.convB {c:UInt8}{E:TypeDesc}(hs:P.underlying t=some E)(hd:P.underlying t'=some (.int .i64))(h:ev e x=some (.int .u8 (c.toNat:Int))):Ex P ⟨dst, .convert t t' x,ty,pos,af,g⟩ e w (I (c.toNat:Int)) w :=
 Ex.convI hs hd h (by have:=c.toNat_lt;omega)
def ub (a:Int):UInt8:=UInt8.ofNat (a % 256).toNat
theorem ub_toNat (a:Int):((ub a).toNat:Int)=a % 256:=by
 have E:0<=a % 256:=Int.emod_nonneg _ Dc;have J:a % 256<256:=Int.emod_lt_of_pos _ Dc;unfold ub;rw[UInt8.toNat_ofNat'];omega
theorem Ex.convU8 {E:TypeDesc}(hs:P.underlying t=some E)(hd:P.underlying t'=some (.int .u8))(h:ev e x=some (.int k a)):Ex P ⟨dst, .convert t t' x,ty,pos,af,g⟩ e w (.int .u8 ((ub a).toNat:Int)) w:=by
 have:=Ex.conv (P:=P) (w:=w) (dst:=dst) (ty:=ty) (pos:=pos) (af:=af) (g:=g) hs hd h
 rw[ub_toNat,<-IntKind.wrap_u8];exact this
theorem Ex.eqlAgg {xs ys:Array Value}{p:Prop}[Decidable p](E:ev e x=some (.agg xs))(J:ev e y=some (.agg ys))(hg:P.eqGuardType P.depth t=false)(hr :∀w,(Op.equalIn 10000 t (.agg xs) (.agg ys)).run P w = .ok (decide p) w):Ex P ⟨dst, .binOp .eql t x y t',ty,pos,af,g⟩ e w (.bool (decide p)) w :=
 ⟨nofun,fun ρ hf=>by simp only[execOp,hf _ _ E,hf _ _ J,Sem.run_bind,run_eqGuard_agg _ _ _ _ _ _ _ hg,Result.andThen_ok,run_eql_struct,hr,Sem.run_pure]⟩
theorem Ex.extract {vs:List Value}{i:Nat}(h:ev e x=some (.tuple vs.toArray))(hi:vs[i]? = some v):Ex P ⟨dst, .extract x i,ty,pos,af,g⟩ e w v w :=
 ⟨nofun,fun ρ hf=>by simp [execOp,hf _ _ h,Instr.extract,hi]⟩
abbrev _root_.q05 := @Ex.extract
variable {l m : List UInt8}
theorem size_mk (l:Ls):ByteArray.size ⟨l.toArray⟩=l.length:=by simp [ByteArray.size]
theorem Ex.str {op:BinOp}(E:ev e x=some (S l))(J:ev e y=some (S m))(hr:(Op.stringOp op ⟨l.toArray⟩ ⟨m.toArray⟩).run P w = .ok v w):Ex P ⟨dst, .binOp op t x y t',ty,pos,af,g⟩ e w v w :=
 ⟨nofun,fun ρ hf=>by
  have hg:(eqGuard op t x y (S l) (S m)).run P w = .ok () w:=by unfold eqGuard;split <;> rfl
  have hb:(binOp op t (S l) (S m)).run P w = .ok v w:=by cases op <;> exact hr
  simp only[execOp,hf _ _ E,hf _ _ J,Sem.run_bind,hg,hb,Result.andThen_ok,Sem.run_pure]⟩
theorem Ex.strAdd (E:ev e x=some (S l))(J:ev e y=some (S m))(hs:l.length+m.length<=9223372036854775807):Ex P ⟨dst, .binOp .add t x y t',ty,pos,af,g⟩ e w (S (l++m)) w :=
 Ex.str E J (by
  have K:(⟨l.toArray⟩:ByteArray)++⟨m.toArray⟩=⟨(l++m).toArray⟩:=by
   apply ByteArray.ext;simp
  have :¬(IntKind.i64.max<((l.length+m.length:Nat):Int)):=by
   simp only[IntKind.max,IntKind.signed,IntKind.bits];omega
  simp only[Op.stringOp,size_mk,gt_iff_lt,this,if_false,K,Sem.run_pure])
theorem Ex.strEql (E:ev e x=some (S l))(J:ev e y=some (S m)):Ex P ⟨dst, .binOp .eql t x y t',ty,pos,af,g⟩ e w (.bool (decide (l=m))) w :=
 Ex.str E J (by
  have:(l == m)=decide (l=m):=by by_cases h:l=m <;> simp [h]
  simp [Op.stringOp,this])
abbrev _root_.q0B := @Ex.strEql
theorem Ex.strNeq (E:ev e x=some (S l))(J:ev e y=some (S m)):Ex P ⟨dst, .binOp .neq t x y t',ty,pos,af,g⟩ e w (.bool (decide (l≠m))) w :=
 Ex.str E J (by
  have:(!(l == m))=decide (l≠m):=by by_cases h:l=m <;> simp [h]
  simp [Op.stringOp,this])
theorem extract_mk (l:Ls)(i j:Nat):(⟨l.toArray⟩:ByteArray).extract i j=⟨((l.take j).drop i).toArray⟩:=by
 apply ByteArray.ext;rw[ByteArray.data_extract];apply Array.ext';simp [l2l]
theorem run_slice_str {i j:Nat}{lo hi:Option Value}(ht:P.underlying t=some .string)(hij:i<=j)(hj:j<=l.length)
 (hlo:lo=some (I i)∨(lo=none/\i=0)) (hhi:hi=some (I j)∨(hi=none/\j=l.length)) :
 (Instr.sliceAt t (S l) lo hi none).run P w = .ok (S ((l.take j).drop i)) w:=by
 have E:(0:Int)<=(i:Int)/\(i:Int)<=(j:Int):=by omega
 have J:(0:Int)<=(j:Int)/\(j:Int)<=(l.length:Int):=by omega
 rcases hlo with rfl|⟨rfl,rfl⟩ <;> rcases hhi with rfl|⟨rfl,rfl⟩ <;>
  simp only[Instr.sliceAt,Instr.slice,Instr.sliceBounds,Instr.sliceBound,asIntOf,Sem.run_bind,run_underlying ht,Result.andThen_ok,Sem.run_pure,E,J,and_self,if_true,l0h,l1S,size_mk,extract_mk,l0m,if_false]
theorem Ex.sliceStr {i j:Nat}{lo hi:Option Operand}(ht:P.underlying t=some .string)(h:ev e x=some (S l))
 (hlo:(∃o,lo=some o/\ev e o=some (I i))∨(lo=none/\i=0)) (hhi:(∃o,hi=some o/\ev e o=some (I j))∨(hi=none/\j=l.length)) (hij:i<=j) (hj:j<=l.length) :
 Ex P ⟨dst, .slice t x lo hi none,ty,pos,af,g⟩ e w (S ((l.take j).drop i)) w :=
 ⟨nofun,fun ρ hf=>by
  have hr:=run_slice_str (P:=P) (w:=w) (lo:=lo.map ρ) (hi:=hi.map ρ) ht hij hj
   (by rcases hlo with ⟨o,rfl,ho⟩|⟨rfl,h⟩
       . exact .inl (by simp [hf _ _ ho])
       exact .inr ⟨rfl,h⟩)
   (by rcases hhi with ⟨o,rfl,ho⟩|⟨rfl,h⟩
       . exact .inl (by simp [hf _ _ ho])
       exact .inr ⟨rfl,h⟩)
  simp only[execOp,hf _ _ h,l1u,Sem.run_bind,hr,Result.andThen_ok,Sem.run_pure]⟩
abbrev _root_.q0X := @Ex.sliceStr
theorem Ex.lenStr (ht:P.underlying t=some .string)(h:ev e x=some (S l)):Ex P ⟨dst, .call ⟨.builtin .len,#[x],#[t]⟩,ty,pos,af,g⟩ e w (I l.length) w :=
 ⟨nofun,fun ρ hf=>by simp [hf _ _ h,Builtin.len_,underlying,ht,goInt,size_mk,go_sem]⟩
abbrev _root_.q0g := @Ex.lenStr
theorem Ex.lenSlice {A:Option Addr}{n cp:Nat}{E:TypeId}(ht:P.underlying t=some (.slice E))(h:ev e x=some (.slice A n cp)):Ex P ⟨dst, .call ⟨.builtin .len,#[x],#[t]⟩,ty,pos,af,g⟩ e w (I n) w :=
 ⟨nofun,fun ρ hf=>by simp [hf _ _ h,Builtin.len_,underlying,ht,goInt,go_sem]⟩
abbrev _root_.q1L := @Ex.lenSlice
theorem Ex.min2 (E:ev e x=some (.int k a))(J:ev e y=some (.int k b)){ts:Array TypeId}:Ex P ⟨dst, .call ⟨.builtin .min,#[x,y],ts⟩,ty,pos,af,g⟩ e w (.int k (min a b)) w :=
 ⟨nofun,fun ρ hf=>by
  have:(if b<a then b else a)=min a b:=by omega
  simp [hf _ _ E,hf _ _ J,Builtin.min_,Builtin.min2,this,go_sem]⟩
theorem Ex.max2 (E:ev e x=some (.int k a))(J:ev e y=some (.int k b)){ts:Array TypeId}:Ex P ⟨dst, .call ⟨.builtin .max,#[x,y],ts⟩,ty,pos,af,g⟩ e w (.int k (max a b)) w :=
 ⟨nofun,fun ρ hf=>by
  have:(if a<b then b else a)=max a b:=by omega
  simp [hf _ _ E,hf _ _ J,Builtin.max_,Builtin.max2,this,go_sem]⟩
theorem Ex.idxStr {i:Nat}{c:UInt8}{k:IntKind}(ht:P.underlying t=some .string)(h:ev e x=some (S l))(E:ev e y=some (.int k (i:Int)))(hi:l[i]? = some c):Ex P ⟨dst, .index t x y,ty,pos,af,g⟩ e w (.int .u8 (c.toNat:Int)) w :=
 ⟨nofun,fun ρ hf=>by
  have hg:(⟨l.toArray⟩:ByteArray)[i]? = some c:=by
   have hlt:=(List.getElem?_eq_some_iff.1 hi).1;have E:=(List.getElem?_eq_some_iff.1 hi).2;rw[getElem?_pos (⟨l.toArray⟩:ByteArray) i (by simpa [ByteArray.size] using hlt)];simp [ByteArray.getElem_eq_getElem_data,E]
  simp [execOp,hf _ _ h,hf _ _ E,Instr.index,asIntOf,underlying,ht,hg,go_sem]⟩
abbrev _root_.q0M := @Ex.idxStr
end
end Go.Ph
end
section
namespace Go.Ph.Pl
def FU : Nat:=18446744073709551616
theorem FU_eq : FU=18446744073709551616:=rfl
theorem bnd {α β:Type}{o:Option α}{k:α->Option β}{r:β}(h:o.bind k=some r):∃x,o=some x/\k x=some r:=Option.bind_eq_some_iff.1 h
theorem bsome {α β:Type}(a:α)(f:α->Option β):(some a).bind f=f a:=by rw[l1n]
def chk (x:Int):Option Int:=if -9223372036854775808<=x/\x<=9223372036854775807 then some x else none
theorem chk_ok {x:Int}(u : -9223372036854775808<=x)(E:x<=9223372036854775807):chk x=some x:=by unfold chk;rw [if_pos ⟨u,E⟩]
theorem chk_some {x y:Int}(h:chk x=some y):(-9223372036854775808<=x/\x<=9223372036854775807)/\y=x:=by
 unfold chk at h;split at h
 . rename_i u;exact ⟨u,(Option.some.inj h).symm⟩
 cases h
theorem chk_succ {i:Nat}(h:i+1<=9223372036854775807):chk ((i:Int)+1)=some ((i+1:Nat):Int):=chk_ok Om Om
theorem chk_addN {i:Nat}(k:Nat)(h:i+k<=9223372036854775807):chk ((i:Int)+(k:Int))=some ((i+k:Nat):Int):=by rw[Int.natCast_add];exact chk_ok Om Om
theorem chk_pred {i:Nat}(u:1<=i)(h:i<=9223372036854775807):chk ((i:Int)-1)=some ((i-1:Nat):Int):=by rw[show ((i-1:Nat):Int)=(i:Int)-1 by omega];exact chk_ok Om Om
def idx {α:Type}(l:List α)(i:Int):Option α:=if 0<=i then l[i.toNat]? else none
theorem idx_some {α:Type}{l:List α}{i:Int}{a:α}(h:idx l i=some a):0<=i/\l[i.toNat]? = some a:=by
 unfold idx at h;split at h
 . exact⟨by assumption,h⟩
 cases h
theorem idx_nat {α:Type}(l:List α)(i:Nat):idx l (i:Int)=l[i]? := by unfold idx;rw [if_pos (l2F i),l0h]
theorem idx_lt {α:Type}{l:List α}{i:Int}{a:α}(h:idx l i=some a):0<=i/\i<l.length:=by
 obtain⟨E,u⟩:=idx_some h;have:=(List.getElem?_eq_some_iff.1 u).1;omega
def cut {α:Type}(l:List α)(i j:Int):Option (List α):=if 0<=i/\i<=j/\j<=(l.length:Int) then some ((l.take j.toNat).drop i.toNat) else none
theorem cut_some {α:Type}{l m:List α}{i j:Int}(h:cut l i j=some m):(0<=i/\i<=j/\j<=(l.length:Int))/\m=(l.take j.toNat).drop i.toNat:=by
 unfold cut at h;split at h
 . exact⟨by assumption,(Option.some.inj h).symm⟩
 cases h
theorem cut_ok {α:Type}{l:List α}{i j:Int}(u:0<=i)(E:i<=j)(J:j<=(l.length:Int)):cut l i j=some ((l.take j.toNat).drop i.toNat):=by unfold cut;rw [if_pos ⟨u,E,J⟩]
theorem cut_of {α:Type}{l:List α}{i j:Int}{a b:Nat}(hi:i=(a:Int))(hj:j=(b:Int))(h:a<=b)(hb:b<=l.length):cut l i j=some ((l.take b).drop a):=by
 subst hi hj;rw [cut_ok Om Om Om];rfl
theorem cut_from {α:Type}{l:List α}{i:Int}{a:Nat}(hi:i=(a:Int))(h:a<=l.length):cut l i (l.length:Int)=some (l.drop a):=by
 rw[cut_of hi rfl h (l07 _),l0y]
theorem cut_to {α:Type}{l:List α}{j:Int}{b:Nat}(hj:j=(b:Int))(h:b<=l.length):cut l 0 j=some (l.take b):=by
 have:=cut_of (l:=l) (i:=0) (a:=0) rfl hj (l0o _) h;rwa [l0t] at this
def cat (a b:Ls):Option Ls:=if a.length+b.length<=9223372036854775807 then some (a++b) else none
theorem cat_ok {a b:Ls}(h:a.length+b.length<=9223372036854775807):cat a b=some (a++b):=by unfold cat;rw [if_pos h]
theorem cat_some {a b c:Ls}(h:cat a b=some c):a.length+b.length<=9223372036854775807/\c=a++b:=by
 unfold cat at h;split at h
 . exact⟨by assumption,(Option.some.inj h).symm⟩
 cases h
def lim (w:Nat):Nat:=if w=1 then 175921860444160 else 140737488355328
theorem lim_ge (w:Nat):140737488355328<=lim w:=by unfold lim;split <;> omega
theorem lim_le (w:Nat):lim w<=175921860444160:=by unfold lim;split <;> omega
def app {α:Type}(w:Nat)(a b:List α):Option (List α):=if (a.length+b.length)*w<=lim w then some (a++b) else none
theorem app_ok {α:Type}{w:Nat}{a b:List α}(h:(a.length+b.length)*w<=140737488355328):app w a b=some (a++b):=by unfold app;rw [if_pos (l0V h (lim_ge w))]
theorem app_ok1 {α:Type}{a b:List α}(h:a.length+b.length<=175921860444160):app 1 a b=some (a++b):=by unfold app lim;rw [if_pos (by simpa using h)]
theorem app_some {α:Type}{w:Nat}{a b c:List α}(h:app w a b=some c):(a.length+b.length)*w<=lim w/\c=a++b:=by
 unfold app at h;split at h
 . exact⟨by assumption,(Option.some.inj h).symm⟩
 cases h
def put {α:Type}(l:List α)(i:Int)(a:α):Option (List α):=if 0<=i/\i<(l.length:Int) then some (l.set i.toNat a) else none
theorem put_some {α:Type}{l m:List α}{i:Int}{a:α}(h:put l i a=some m):(0<=i/\i<(l.length:Int))/\m=l.set i.toNat a:=by
 unfold put at h;split at h
 . exact⟨by assumption,(Option.some.inj h).symm⟩
 cases h
theorem put_ok {α:Type}{l:List α}{i:Int}{a:α}(u:0<=i)(E:i<(l.length:Int)):put l i a=some (l.set i.toNat a):=by unfold put;rw [if_pos ⟨u,E⟩]
def idxA {α:Type}(n:Nat)(l:List α)(i:Int):Option α:=if l.length=n then idx l i else none
theorem idxA_some {α:Type}{n:Nat}{l:List α}{i:Int}{a:α}(h:idxA n l i=some a):l.length=n/\idx l i=some a:=by
 unfold idxA at h;split at h
 . exact⟨by assumption,h⟩
 cases h
def putA {α:Type}(n:Nat)(l:List α)(i:Int)(a:α):Option (List α):=if l.length=n then put l i a else none
theorem putA_some {α:Type}{n:Nat}{l m:List α}{i:Int}{a:α}(h:putA n l i a=some m):l.length=n/\put l i a=some m:=by
 unfold putA at h;split at h
 . exact⟨by assumption,h⟩
 cases h
def chkA {α:Type}(n:Nat)(l:List α):Option (List α):=if l.length=n then some l else none
theorem chkA_some {α:Type}{n:Nat}{l m:List α}(h:chkA n l=some m):l.length=n/\m=l:=by
 unfold chkA at h;split at h
 . exact⟨by assumption,(Option.some.inj h).symm⟩
 cases h
theorem chkA_ok {α:Type}{n:Nat}{l:List α}(h:l.length=n):chkA n l=some l:=by unfold chkA;rw [if_pos h]
def quo (a b:Int):Option Int:=if b=0 then none else chk (a.tdiv b)
theorem quo_some {a b c:Int}(h:quo a b=some c):b≠0/\(-9223372036854775808<=a.tdiv b/\a.tdiv b<=9223372036854775807)/\c=a.tdiv b:=by
 unfold quo at h;split at h
 . cases h
 exact⟨by assumption,chk_some h⟩
def rem (a b:Int):Option Int:=if b=0 then none else some (a.tmod b)
theorem rem_some {a b c:Int}(h:rem a b=some c):b≠0/\c=a.tmod b:=by
 unfold rem at h;split at h
 . cases h
 exact⟨by assumption,(Option.some.inj h).symm⟩
def toB (l:Ls):Option Ls:=if l.length<=9223372036854775807 then some l else none
theorem toB_ok {l:Ls}(h:l.length<=9223372036854775807):toB l=some l:=by unfold toB;rw [if_pos h]
theorem toB_some {l m:Ls}(h:toB l=some m):l.length<=9223372036854775807/\m=l:=by
 unfold toB at h;split at h
 . exact⟨by assumption,(Option.some.inj h).symm⟩
 cases h
def ixB (l:Ls)(c:UInt8):Int:=if l.idxOf c<l.length then(l.idxOf c:Int) else -1
def ub8 (a:Int):UInt8:=UInt8.ofNat (a % 256).toNat
end Go.Ph.Pl
end
section
namespace Go.Ph
open Go Go.RowKit
def CellM (M:Mem)(p:Addr)(v:Value):Prop:=p.spot=none/\∃cs t fz,M p.block=some (.cells cs t fz)/\cs[p.off]? = some v
theorem CellM.mono {M M':Mem}{p:Addr}{v:Value}(h:CellM M p v)(hl:M.le M'):CellM M' p v :=
 ⟨h.1,let ⟨cs,t,fz,E,J⟩:=h.2;⟨cs,t,fz,hl _ _ E,J⟩⟩
theorem CellM.cell {M:Mem}{w:World}{p:Addr}{v:Value}(h:CellM M p v)(ha:Ag M w):w.cell? p=some v:=by
 obtain⟨hs,cs,t,fz,E,J⟩:=h;simp [World.cell?,ha _ _ E,hs,J]
def Sl {α:Type}(M:Mem)(enc:α->Value)(v:Value)(l:List α):Prop :=
 ∃A c,v = .slice A l.length c/\l.length<=c/\(c<=maxLen/\(A=none->c=0))/\
  (l≠ []->∃b o cs t fz,A=some ⟨b,o,none⟩/\M b=some (.cells cs t fz)/\∀i x,l[i]? = some x->cs[o+i]? = some (enc x))
abbrev encB (u:UInt8):Value := .int .u8 (u.toNat:Int)
abbrev encS (l:Ls):Value:=S l
abbrev Bs (M:Mem)(v:Value)(l:Ls):Prop:=Sl M encB v l
section
variable {α : Type} {M M' : Mem} {enc : α → Value} {v : Value} {l : List α}
theorem Sl.mono (h:Sl M enc v l)(hl:M.le M'):Sl M' enc v l:=by
 obtain⟨A,c,hv,E,J,K⟩:=h;refine⟨A,c,hv,E,J,fun hne=>?_⟩;obtain⟨b,o,cs,t,fz,N,O,U⟩:=K hne;exact⟨b,o,cs,t,fz,N,hl _ _ O,U⟩
theorem Sl.nil (M:Mem)(enc:α->Value):Sl M enc (.slice none 0 0) []:=⟨none,0,rfl,by simp,⟨by simp [maxLen],fun _=>rfl⟩,fun h=>absurd rfl h⟩
abbrev _root_.q0U := @Sl.nil
theorem Sl.cells (h:Sl M enc v l){w:World}(ha:Ag M w):∃A c,v = .slice A l.length c/\(∀ad,A=some ad->∀j u,(l.map enc)[j]? = some u->w.cell? (ad.add j)=some u)/\(A=none->l=[]/\c=0):=by
 obtain⟨A,c,hv,U,O,J⟩:=h;refine⟨A,c,hv,fun ad had j u hu=>?_,fun hA=>?_⟩
 . have hne:l≠ []:=by rintro rfl;simp at hu
   obtain⟨b,o,cs,t,fz,E,K,N⟩:=J hne;have:ad=⟨b,o,none⟩:=by rw[had] at E;exact Option.some.inj E
   subst this;rw[List.getElem?_map] at hu;obtain⟨x,hx,rfl⟩:=Option.map_eq_some_iff.1 hu;rw[Addr.add_lit];exact(CellM.cell ⟨rfl,cs,t,fz,K,N j x hx⟩ ha)
 refine⟨?_,O.2 hA⟩;cases l with
 | nil=>rfl
 | cons x l =>
   obtain⟨b,o,cs,t,fz,E,K,N⟩:=J Sm;rw[hA] at E;cases E
theorem Sl.part (h:Sl M enc v l){i j:Nat}(hij:i<=j)(hj:j<=l.length):
 ∃A n c,v = .slice A n c/\n=l.length/\n<=c/\Sl M enc (.slice (if c=i then A else A.map (·.add i)) (j-i) (c-i)) ((l.take j).drop i):=by
 obtain⟨A,c,hv,E,J,K⟩:=h;refine⟨A,_,c,hv,rfl,E,(if c=i then A else A.map (·.add i)),c-i,?_,?_,⟨by omega,fun hA=>?_⟩,fun hne=>?_⟩
 . simp only[l04,l0c];rw[show min j l.length=j by omega]
 . simp only[l04,l0c];omega
 . by_cases hci:c=i
   . omega
   rw[if_neg hci] at hA;have:=J.2 (by simpa using hA);omega
 have hlt:i<j:=by
  rcases l0K i j with h|h
  . exact h
  exact absurd (l08 (by simp;omega)) hne
 have hne':l≠ []:=by rintro rfl;simp at hj;omega
 obtain⟨b,o,cs,t,fz,N,O,U⟩:=K hne';refine⟨b,o+i,cs,t,fz,?_,O,fun k x hx=>?_⟩
 . rw[if_neg Om,N];simp [Addr.add_lit]
 rw[l0U];apply U;rw[List.getElem?_drop,List.getElem?_take] at hx;split at hx
 . exact hx
 cases hx
end
abbrev RowI {α:Type}(t:TypeId)(enc:α->Value)(v:Value)(l:List α):Item := .row t 1 v l.length (l.map enc)
section
variable {C : Nat → Prop} {α : Type} {w0 w : World} {M0 M : Mem} {L L' : List Item} {t : TypeId} {enc : α → Value} {v : Value} {l : List α}
theorem StX.newRow (H:StX C w0 M0 M L w)(t:TypeId)(enc:α->Value):StX C w0 M0 M (RowI t enc (.slice none 0 0) []::L) w :=
 H.newNone (World.ownsRow_nil _ _ _ _) rfl
theorem StX.freezeRowX (H:StX C w0 M0 M L w)(hr:Rem L (RowI t enc v l) L')(hC :∀b,v.ownBlock=some b->¬C b):∃M',M.le M'/\Sl M' enc v l/\StX C w0 M0 M' L' w:=by
 have hown:=H.rowOf hr.mem;rcases hown.2 with ⟨hv,hn⟩|⟨g,cap,cur,hv,hb,hg,hnc,hcm,hcs,htake⟩
 . have:l=[]:=l08 hn;subst this;subst hv;exact⟨M,Mem.le.refl M,Sl.nil M enc,H.drop hr.sublist⟩
 have hf:(RowI t enc v l).foot=some g:=by rw[hv];rfl
 obtain⟨J,K⟩:=H.freeze hr hf hg (((H.own _ hr.mem).2 g hf).2.resolve_right (hC g hf));refine⟨_,J,⟨some ⟨g,0,none⟩,cap,hv,hnc,⟨hcm,fun h=>by cases h⟩,fun _=>⟨g,0,cur,t,(0,0),rfl,by simp [Mem.set],fun i x hx=>?_⟩⟩,K⟩;have hi:=(List.getElem?_eq_some_iff.1 hx).1;have E:(cur.toList.take (l.length*1))[i]? = some (enc x):=by rw[htake,List.getElem?_map,hx];rfl
 rw[List.getElem?_take,if_pos Om] at E;simpa using E
theorem StX.freezeRow (H:St w0 M0 M L w)(hr:Rem L (RowI t enc v l) L'):∃M',M.le M'/\Sl M' enc v l/\St w0 M0 M' L' w:=H.freezeRowX hr (fun _ _ h=>h)
theorem StX.lenRow (H:StX C w0 M0 M L w)(hm:RowI t enc v l∈L):∃A c,v = .slice A l.length c:=by
 rcases(H.rowOf hm).2 with ⟨hv,hn⟩|⟨g,cap,cur,hv,_⟩
 . exact⟨none,0,by rw[hv,hn]⟩
 exact⟨_,cap,hv⟩
end
def One (v:Value):Prop:=v.cells = #[v]/\v.oneCell'=true
theorem One.slice (A:Option Addr)(n c:Nat):One (.slice A n c):=⟨rfl,rfl⟩
theorem One.cells {v:Value}(h:One v):v.cells=[v].toArray:=h.1
theorem Sl.one {α:Type}{M:Mem}{enc:α->Value}{v:Value}{l:List α}(h:Sl M enc v l):One v:=by
 obtain⟨A,c,rfl,_⟩:=h;exact One.slice _ _ _
theorem StX.rowOne {C:Nat->Prop}{α:Type}{w0 w:World}{M0 M:Mem}{L:List Item}{t:TypeId}{enc:α->Value}{v:Value}{l:List α}(H:StX C w0 M0 M L w)(hm:RowI t enc v l∈L):One v:=by
 obtain⟨A,c,rfl⟩:=H.lenRow hm;exact One.slice _ _ _
structure ElemTy (P:Program)(ts t:TypeId)(z:Value)(size bytes:Nat):Prop where
 under:P.underlying ts=some (.slice t)
 info :∃i,P.info? t=some i/\i.zero=some z/\i.size=size/\i.bytes=bytes
 zs:z.cells.size=size
 pos:0<size
theorem ElemTy.mk' {P:Program}{ts t:TypeId}{z:Value}{size bytes:Nat}(hu:P.underlying ts=some (.slice t))(h:(P.info? t).map (fun i=>(i.zero,i.size,i.bytes))=some (some z,size,bytes))(hz:z.cells.size=size)(hp:0<size):ElemTy P ts t z size bytes :=
 ⟨hu,by
  obtain⟨i,hi,E⟩:=Option.map_eq_some_iff.1 h;simp only[Prod.mk.injEq] at E;exact⟨i,hi,E.1,E.2.1,E.2.2⟩,hz,hp⟩
abbrev _root_.q1h := @ElemTy.mk'
theorem growslice_lim {need old bytes:Nat}(h:old<need)(hb:need*bytes<=Pl.lim bytes):Builtin.nextslicecap need old*bytes<=281474976710656:=by
 by_cases E:bytes=1
 . subst E;unfold Pl.lim at hb;rw[if_pos rfl] at hb;rw[l0O] at hb ⊢;unfold Builtin.nextslicecap;split
   . omega
   split
   . omega
   rw[growBy_four];repeat' split
   all_goals omega
 unfold Pl.lim at hb;rw[if_neg E] at hb;exact growslice_fits h hb
theorem run_append_own_src {P:Program}(w:World)(base:Nat){ts tx ty t:TypeId}{z:Value}{size bytes:Nat}(T:ElemTy P ts t z size bytes)
 (v:Value) (n:Nat) (xs:List Value) (hown:w.ownsRow base t size v n xs) (x:Value) (m:Nat) (news:List Value) (hs:Src P size tx x m news w)
 (E:n+m<=maxLen) (hbytes:(n+m)*bytes<=Pl.lim bytes) (hbase:base<=w.heap.size) :
 ∃v' w',(Builtin.append_ #[ts,tx] ty #[v,x]).run P w = .ok v' w'/\w'.ownsRow base t size v' (n+m) (xs++news)/\w.grownBy w' v.ownBlock/\
  (v'.ownBlock=v.ownBlock∨v'.ownBlock=some w.heap.size):=by
 obtain⟨i,hi,hz,rfl,rfl⟩:=T.info;have ht:=T.under;have hzs:=T.zs;have hl:=hs.newsLen;have hsmall:n+m<=9223372036854775807:=by simp only[maxLen] at E;omega
 have hlen:(xs++news).length=(n+m)*i.size:=by rw[l05,hown.1,hl,l1p]
 have grown :∀(old:Nat),old<n+m->∀(row:Option Nat),
  (w.drew.alloc (.cells ((xs++news).toArray++Builtin.zeroCells z.cells (grownCap w (n+m) old t-(n+m))) t)).ownsRow base t i.size
   (.slice (some ⟨w.heap.size,0,none⟩) (n+m) (grownCap w (n+m) old t)) (n+m) (xs++news)/\
  w.grownBy (w.drew.alloc (.cells ((xs++news).toArray++Builtin.zeroCells z.cells (grownCap w (n+m) old t-(n+m))) t)) row:=by
  intro old ho row;have hge:=grownCap_ge w (n+m) old t;have hcm:grownCap w (n+m) old t<=maxLen:=grownCap_le_maxLen w (n+m) old t E;refine⟨⟨hlen, .inr ⟨w.heap.size,_,_,rfl,hbase,heap_alloc_new w.drew _,hge,hcm,?_,?_⟩⟩,⟨rfl,rfl,rfl,by simp,fun k hk _=>Below.heap_alloc w.drew _ k hk⟩⟩
  . simp only[Array.size_append,l0Z,size_zeroCells,hzs,hlen,<-l1p];congr 1;omega
  simp only[Array.toList_append];rw[<-hlen];exact l1j
 rcases hown.2 with ⟨rfl,rfl⟩|⟨g,cap,cur,rfl,hbg,hg,hnc,hcm,hcs,htake⟩
 . have hx:xs=[]:=l08 (by simpa using hown.1);subst hx;by_cases hm:m=0
   . subst hm;have hn:news=[]:=l08 (by simpa using hl);subst hn;refine⟨.slice none 0 0,w,?_,World.ownsRow_nil w base t i.size,⟨rfl,rfl,rfl,l07 _,fun _ _ _=>rfl⟩,Or.inl rfl⟩;have J:=hs.cells;rcases hs.kind with ⟨e',hk⟩|hk <;> simp [Builtin.append_,run_underlying ht,run_underlying hk,sizeOf,typeInfo,hi,hs.len,J]
   have hr:=run_append_grow_src (P:=P) w ts tx ty t i z ht hi hz none 0 0 [] (run_firstCells_none w.drew i.size 0 0 0) x m news hs Om Om (growslice_lim Om (by simpa using hbytes));have hgr:=grown 0 Om (Value.ownBlock (.slice none 0 0));simp only[l0r,l03] at hgr hr ⊢;exact⟨_,_,hr,hgr.1,hgr.2,Or.inr rfl⟩
 by_cases hroom:n+m<=cap
 . have hfit:n*i.size+news.length<=cur.size:=by rw[hl,hcs,<-l1p];exact l0W _ hroom
   have hst:=run_storeCells_at P g (n*i.size) t news 0 cur w hg (by simpa using hfit) hs.one;simp only[l1a] at hst;have hr:(Builtin.append_ #[ts,tx] ty #[.slice (some ⟨g,0,none⟩) n cap,x]).run P w = .ok (.slice (some ⟨g,0,none⟩) (n+m) cap) (w.setRow g (cur.toList.take (n*i.size)++news++cur.toList.drop (n*i.size+news.length)).toArray):=by
    rcases hs.kind with ⟨e',hk⟩|hk <;> simp [Builtin.append_,run_underlying ht,run_underlying hk,sizeOf,typeInfo,hi,hs.len,hroom,hs.cells,Addr.add_lit,hst]
   refine⟨_,_,hr,⟨hlen, .inr ⟨g,cap,_,rfl,hbg,setRow_heap w g cur _ t _ hg,hroom,hcm,?_,?_⟩⟩,⟨rfl,rfl,rfl,by simp,fun k _ hk=>setRow_other w g k _ (fun e=>hk (by simp [Value.ownBlock,e]))⟩,Or.inl rfl⟩
   . simp only[l0Z,l05,l0c,l04,Array.length_toList];omega
   rw[htake,<-hlen];exact l1j
 have holds :∀j u,xs[j]? = some u->w.cell? ((⟨g,0,none⟩:Addr).add j)=some u:=hown.cells (g:=g) rfl;have hr:=run_append_grow_src (P:=P) w ts tx ty t i z ht hi hz (some ⟨g,0,none⟩) n cap xs (run_firstCells_some w.drew i.size n ⟨g,0,none⟩ n cap xs hown.1 (by simpa using holds)) x m news hs Om Om (growslice_lim Om hbytes);have hgr:=grown cap Om (Value.ownBlock (.slice (some ⟨g,0,none⟩) n cap));exact⟨_,_,hr,hgr.1,hgr.2,Or.inr rfl⟩
section
variable {C : Nat → Prop} {r : Option Nat} {P : Program} {ops : Array Oper} {Q : Exit → Act → World → Prop} {n : Nat} {D : List Deferred} {rest : List Oper} {e : Env} {w0 w : World} {M0 M : Mem} {L L' : List Item} {d : Nat} {v u z : Value}
  {x y : Operand} {ty t ts t' : TypeId} {pos : String} {af : Array Edge} {g : Option (Nat × Bool)}
theorem WR.run {o:Oper}{w':World}(hx:Ex P o e w v w')(hw:Wn ops n D e o)(hd:o.dst=some d)(hn:Nat.blt d n=true)(k:WR r P ops Q n D rest ((d,v)::e) w'):WR r P ops Q n D (o::rest) e w:=q0w hx hw hd hn k
theorem grownBy_alloc' (w:World)(o:Obj):w.grownBy (w.alloc o) none:=World.grownBy_alloc w o none
theorem WR.alloc (cs:List Value)(H:StX C w0 M0 M L w)(hz :∀w,(zeroValue t).run P w = .ok z w)(hc:z.cells=cs.toArray)(hw:Wn ops n D e ⟨some d, .alloc t,ty,pos,af,g⟩)(hn:Nat.blt d n=true)
 (k :∀b w',StX C w0 M0 M (.blk b (.cells cs.toArray t)::L) w'->WR r P ops Q n D rest ((d,ptr b 0)::e) w'):WR r P ops Q n D (⟨some d, .alloc t,ty,pos,af,g⟩::rest) e w:=by
 rw[<-hc] at k;refine q0w (v:=ptr w.heap.size 0) (w':=w.alloc (.cells z.cells t)) ⟨nofun,fun ρ _=>?_⟩ hw rfl hn (k _ _ (H.new (grownBy_alloc' _ _) (heap_alloc_new w _) (fun b hb=>by cases hb;exact l07 _)));simp only[execOp,Instr.alloc,hz,newVar,newRow,Sem.run_bind,Sem.run_pure,Result.andThen_ok];rfl
abbrev _root_.q09 := @WR.alloc
theorem WR.box (cs:List Value)(H:StX C w0 M0 M L w)(hv:ev e x=some v)(hc:v.cells=cs.toArray)(hw:Wn ops n D e ⟨some d, .box t x,ty,pos,af,g⟩)(hn:Nat.blt d n=true)
 (k :∀b w',StX C w0 M0 M (.blk b (.cells cs.toArray t)::L) w'->WR r P ops Q n D rest ((d,ptr b 0)::e) w'):WR r P ops Q n D (⟨some d, .box t x,ty,pos,af,g⟩::rest) e w:=by
 rw[<-hc] at k;refine q0w (v:=ptr w.heap.size 0) (w':=w.alloc (.cells v.cells t)) ⟨nofun,fun ρ hf=>?_⟩ hw rfl hn (k _ _ (H.new (grownBy_alloc' _ _) (heap_alloc_new w _) (fun b hb=>by cases hb;exact l07 _)));simp only[execOp,Instr.box,hf _ _ hv,newVar,newRow,Sem.run_bind,Sem.run_pure];rfl
abbrev _root_.q0F := @WR.box
theorem run_storeVar {b o:Nat}{cs:Array Value}{s:Nat}(hb:w.heap[b]? = some (.cells cs t'))(hs :∀w,(sizeOf t).run P w = .ok s w)(hvs:v.cells.size=s)(hfit:o+s<=cs.size)(E :∀u∈v.cells.toList,u.oneCell'=true):
 (storeVar t ⟨b,o,none⟩ v).run P w = .ok () (w.setRow b (cs.toList.take o++v.cells.toList++cs.toList.drop (o+s)).toArray):=by
 have hst:=run_storeCells_at P b o t' v.cells.toList 0 cs w hb (by simp [hvs];omega) E;simp only[l1a] at hst;have hl:v.cells.toList.length=s:=by simp [hvs]
 rw[hl] at hst;simp only[storeVar,Sem.run_bind,hs,Result.andThen_ok,hvs,ne_eq,not_true_eq_false,if_false,hst]
theorem grownBy_setRow (w:World)(b:Nat)(cs:Array Value):w.grownBy (w.setRow b cs) (some b):=⟨rfl,rfl,rfl,by simp,fun k _ hk=>setRow_other w b k _ (fun e=>hk (by rw[e]))⟩
theorem WR.storeK {b o:Nat}{cs cs':Array Value}{s:Nat}(H:StX C w0 M0 M L w)(hx:ev e x=some (ptr b o))(hy:ev e y=some v)(hu:Upd L (.blk b (.cells cs t')) (.blk b (.cells cs' t')) L')
 (hs :∀w,(sizeOf t).run P w = .ok s w) (hvs:v.cells.size=s) (hfit:o+s<=cs.size) (E :∀u∈v.cells.toList,u.oneCell'=true) (hcs:(cs.toList.take o++v.cells.toList++cs.toList.drop (o+s)).toArray=cs')
 (hw:Wn ops n D e ⟨none, .store t x y,ty,pos,af,g⟩) (k :∀w',StX C w0 M0 M L' w'->WR r P ops Q n D rest e w'):WR r P ops Q n D (⟨none, .store t x y,ty,pos,af,g⟩::rest) e w:=by
 have hb:=H.blk hu.mem;have hrun:=run_storeVar (P:=P) hb hs hvs hfit E;rw[hcs] at hrun;refine WR.stepS (w':=w.setRow b cs') ⟨nofun,fun ρ hf=>?_⟩ hw rfl (k _ (H.upd hu (grownBy_setRow w b cs') (setRow_heap w b cs cs' t' _ hb) (fun b' hb' => .inl hb')));simp only[execOp,hf _ _ hx,hf _ _ hy,Instr.storeAt,Instr.sureAddr,Sem.run_bind,Sem.run_pure,Result.andThen_ok,hrun]
theorem WR.store {b:Nat}{E:List Value}(cs:List Value){s:Nat}(H:StX C w0 M0 M L w)(hx:ev e x=some (ptr b 0))(hy:ev e y=some v)(hc:v.cells=cs.toArray)(hu:Upd L (.blk b (.cells E.toArray t')) (.blk b (.cells cs.toArray t')) L')
 (hs :∀w,(sizeOf t).run P w = .ok s w) (hvs:cs.length=s) (hcs:E.length=s) (J:cs.all (·.oneCell')=true)
 (hw:Wn ops n D e ⟨none, .store t x y,ty,pos,af,g⟩) (k :∀w',StX C w0 M0 M L' w'->WR r P ops Q n D rest e w'):WR r P ops Q n D (⟨none, .store t x y,ty,pos,af,g⟩::rest) e w :=
 WR.storeK H hx hy hu hs (by rw[hc];simpa using hvs) (by simp;omega) (fun u hu=>by rw[hc] at hu;exact List.all_eq_true.1 J u (by simpa using hu)) (by
  rw[hc];apply Array.ext';simp [hcs]) hw k
abbrev _root_.q04 := @WR.store
theorem WR.store1 {b o:Nat}{E:List Value}(cs:List Value)(H:StX C w0 M0 M L w)(hx:ev e x=some (ptr b o))(hy:ev e y=some v)(hu:Upd L (.blk b (.cells E.toArray t')) (.blk b (.cells cs.toArray t')) L')(hc:E.set o v=cs)
 (hs :∀w,(sizeOf t).run P w = .ok 1 w) (ho:o<E.length) (hv:v.oneCell'=true) (hv':v.cells = #[v])
 (hw:Wn ops n D e ⟨none, .store t x y,ty,pos,af,g⟩) (k :∀w',StX C w0 M0 M L' w'->WR r P ops Q n D rest e w'):WR r P ops Q n D (⟨none, .store t x y,ty,pos,af,g⟩::rest) e w :=
 WR.storeK H hx hy hu hs (by rw[hv'];rfl) (by simp;omega) (by rw[hv'];simp [hv]) (by
  rw[hv',<-hc];apply Array.ext';simp only[l1K];simp [ho]) hw k
abbrev _root_.q1d := @WR.store1
theorem WR.putV {b o:Nat}{E:List Value}(cs:List Value)(H:StX C w0 M0 M L w)(hx:ev e x=some (ptr b o))(hy:ev e y=some v)(hv:One v)(hu:Upd L (.blk b (.cells E.toArray t')) (.blk b (.cells cs.toArray t')) L')(hc:E.set o v=cs)
 (hs :∀w,(sizeOf t).run P w = .ok 1 w) (ho:o<E.length)
 (hw:Wn ops n D e ⟨none, .store t x y,ty,pos,af,g⟩) (k :∀w',StX C w0 M0 M L' w'->WR r P ops Q n D rest e w'):WR r P ops Q n D (⟨none, .store t x y,ty,pos,af,g⟩::rest) e w :=
 WR.store1 cs H hx hy hu hc hs ho hv.2 hv.1 hw k
abbrev _root_.q0Q := @WR.putV
theorem StX.loadAgg {b s:Nat}{cs:List Value}(H:StX C w0 M0 M L w)(hm:Item.blk b (.cells cs.toArray t')∈L)(ha :∀w,(isAgg t).run P w = .ok true w)(hs :∀w,(sizeOf t).run P w = .ok s w)(hl:cs.length=s):(loadVar t ⟨b,0,none⟩).run P w = .ok (.agg cs.toArray) w:=by
 have hb:=H.blk hm;subst hl;have hl:(loadCells ⟨b,0,none⟩ cs.length).run P w = .ok cs.toArray w :=
  run_loadCells_list (P:=P) w ⟨b,0,none⟩ cs (fun j v hv=>by
   rw[Addr.add_lit,l0r,cell_of_row w b j _ t' _ hb];simpa using hv)
 simp only[loadVar,Sem.run_bind,ha,Result.andThen_ok,if_true,hs,hl,Sem.run_pure]
theorem StX.load1 {b o:Nat}{cs:List Value}(H:StX C w0 M0 M L w)(hm:Item.blk b (.cells cs.toArray t')∈L)(ha :∀w,(isAgg t).run P w = .ok false w)(hv:cs[o]? = some v):(loadVar t ⟨b,o,none⟩).run P w = .ok v w:=by
 have hc:w.cell? ⟨b,o,none⟩=some v:=by rw[cell_of_row w b o _ t' _ (H.blk hm)];simpa using hv
 simp only[loadVar,Sem.run_bind,ha,Result.andThen_ok,l0m,if_false];simp [load,Sem.run,hc]
theorem Ag.load1 {p:Addr}(ha:Ag M w)(hc:CellM M p v)(hg :∀w,(isAgg t).run P w = .ok false w):(loadVar t p).run P w = .ok v w:=by
 have hc:=hc.cell ha;simp only[loadVar,Sem.run_bind,hg,Result.andThen_ok,l0m,if_false];simp [load,Sem.run,hc]
variable {dst : Option Tmp}
theorem Ex.loadK {p:Addr}(hx:ev e x=some (.pointer (some p)))(h:(loadVar t p).run P w = .ok v w):Ex P ⟨dst, .load t x,ty,pos,af,g⟩ e w v w :=
 ⟨nofun,fun ρ hf=>by simp only[execOp,hf _ _ hx,Instr.loadAt,Instr.sureAddr,Sem.run_bind,Sem.run_pure,Result.andThen_ok,h]⟩
theorem Ex.loadAgg {b s:Nat}{cs:List Value}(H:StX C w0 M0 M L w)(hx:ev e x=some (ptr b 0))(hm:Item.blk b (.cells cs.toArray t')∈L)(ha :∀w,(isAgg t).run P w = .ok true w)(hs :∀w,(sizeOf t).run P w = .ok s w)(hl:cs.length=s):
 Ex P ⟨dst, .load t x,ty,pos,af,g⟩ e w (.agg cs.toArray) w:=Ex.loadK hx (H.loadAgg hm ha hs hl)
abbrev _root_.q08 := @Ex.loadAgg
theorem Ex.load1 {b o:Nat}{cs:List Value}(H:StX C w0 M0 M L w)(hx:ev e x=some (ptr b o))(hm:Item.blk b (.cells cs.toArray t')∈L)(ha :∀w,(isAgg t).run P w = .ok false w)(hv:cs[o]? = some v):
 Ex P ⟨dst, .load t x,ty,pos,af,g⟩ e w v w:=Ex.loadK hx (H.load1 hm ha hv)
theorem Ex.loadM {p:Addr}(H:StX C w0 M0 M L w)(hx:ev e x=some (.pointer (some p)))(hc:CellM M p v)(ha :∀w,(isAgg t).run P w = .ok false w):
 Ex P ⟨dst, .load t x,ty,pos,af,g⟩ e w v w:=Ex.loadK hx (H.ag.load1 hc ha)
abbrev _root_.q0n := @Ex.loadM
theorem Ex.fieldAddr {b o i sz:Nat}{fs:Array Field}{f:Field}(hs:P.underlying t=some (.struct fs))(hf:fs[i]? = some f)(hz :∀w,(sizeOf f.type).run P w = .ok sz w)(hnz:sz≠0)(hx:ev e x=some (ptr b o)):
 Ex P ⟨dst, .fieldAddr t x i,ty,pos,af,g⟩ e w (ptr b (o+f.offset)) w :=
 ⟨nofun,fun ρ hfi=>by
  simp only[execOp,hfi _ _ hx,Instr.fieldAt,Sem.run_bind,run_underlying hs,Result.andThen_ok,hf,Instr.sureAddr,Sem.run_pure,fieldPlace,hz,hnz,if_false,Addr.add_lit]⟩
abbrev _root_.q01 := @Ex.fieldAddr
theorem Ex.idxArr {b o i len sz:Nat}{E:TypeId}{k:IntKind}(hs:P.underlying t=some (.array len E))(hz :∀w,(sizeOf E).run P w = .ok sz w)(hx:ev e x=some (ptr b o))(hy:ev e y=some (.int k (i:Int)))(hi:i<len):
 Ex P ⟨dst, .indexAddr t x y,ty,pos,af,g⟩ e w (ptr b (o+i*sz)) w :=
 ⟨nofun,fun ρ hfi=>by
  have J:(0:Int)<=(i:Int)/\(i:Int)<(len:Int):=by omega
  simp only[execOp,hfi _ _ hx,hfi _ _ hy,Instr.indexAt,Sem.run_bind,asIntOf,run_underlying hs,Result.andThen_ok,Instr.sureAddr,Sem.run_pure,hz,J,and_self,if_true,Addr.add_lit,l0h]⟩
abbrev _root_.q1n := @Ex.idxArr
variable {α : Type} {enc : α → Value} {l l2 : List α}
theorem Ex.lenSl (ht:P.underlying t=some (.slice t'))(h:Sl M enc v l)(hx:ev e x=some v):Ex P ⟨dst, .call ⟨.builtin .len,#[x],#[t]⟩,ty,pos,af,g⟩ e w (I l.length) w:=by
 obtain⟨A,c,rfl,_⟩:=h;exact q1L ht hx
abbrev _root_.q0o := @Ex.lenSl
theorem Ex.lenRow (ht:P.underlying t=some (.slice t'))(H:StX C w0 M0 M L w)(hm:RowI ts enc v l∈L)(hx:ev e x=some v):Ex P ⟨dst, .call ⟨.builtin .len,#[x],#[t]⟩,ty,pos,af,g⟩ e w (I l.length) w:=by
 obtain⟨A,c,rfl⟩:=H.lenRow hm;exact q1L ht hx
abbrev _root_.q1w := @Ex.lenRow
theorem Sl.addr (h:Sl M enc v l){i:Nat}{a:α}(hi:l[i]? = some a):∃b o c,v = .slice (some ⟨b,o,none⟩) l.length c/\CellM M ⟨b,o+i,none⟩ (enc a):=by
 obtain⟨A,c,rfl,N,O,E⟩:=h;obtain⟨b,o,cs,t,fz,rfl,J,K⟩:=E (by rintro rfl;simp at hi);exact⟨b,o,c,rfl,rfl,cs,t,fz,J,K i a hi⟩
theorem run_slice_part {i j:Nat}{lo hi:Option Value}(ht:P.underlying t=some (.slice t'))(hz :∀w,(sizeOf t').run P w = .ok 1 w)(A:Option Addr)(nn c:Nat)(hnc:nn<=c)(hij:i<=j)(hj:j<=nn)
 (hlo:lo=some (I i)∨(lo=none/\i=0)) (hhi:hi=some (I j)∨(hi=none/\j=nn)) :
 (Instr.sliceAt t (.slice A nn c) lo hi none).run P w = .ok (.slice (if c=i then A else A.map (·.add i)) (j-i) (c-i)) w:=by
 have E:(0:Int)<=(i:Int)/\(i:Int)<=(j:Int):=by omega
 have J:(0:Int)<=(j:Int)/\(j:Int)<=(c:Int):=by omega
 rcases hlo with rfl|⟨rfl,rfl⟩ <;> rcases hhi with rfl|⟨rfl,rfl⟩ <;>
  simp only[Instr.sliceAt,Instr.slice,Instr.sliceBounds,Instr.sliceBound,asIntOf,Sem.run_bind,run_underlying ht,Result.andThen_ok,Sem.run_pure,E,J,and_self,if_true,l0h,hz,l0O,l1S]
theorem WR.sliceSl {i j:Nat}{lo hi:Option Operand}(ht:P.underlying t=some (.slice t'))(hz :∀w,(sizeOf t').run P w = .ok 1 w)(h:Sl M enc v l)(hx:ev e x=some v)
 (hlo:(∃o,lo=some o/\ev e o=some (I i))∨(lo=none/\i=0)) (hhi:(∃o,hi=some o/\ev e o=some (I j))∨(hi=none/\j=l.length)) (hij:i<=j) (hj:j<=l.length)
 (hw:Wn ops n D e ⟨some d, .slice t x lo hi none,ty,pos,af,g⟩) (hn:Nat.blt d n=true) (k :∀v',Sl M enc v' ((l.take j).drop i)->WR r P ops Q n D rest ((d,v')::e) w) :
 WR r P ops Q n D (⟨some d, .slice t x lo hi none,ty,pos,af,g⟩::rest) e w:=by
 obtain⟨A,nn,c,rfl,rfl,hnc,hs⟩:=h.part hij hj;refine q0w (w':=w) ⟨nofun,fun ρ hfi=>?_⟩ hw rfl hn (k _ hs);have hr:=run_slice_part (P:=P) (w:=w) (lo:=lo.map ρ) (hi:=hi.map ρ) ht hz A l.length c hnc hij hj
  (by rcases hlo with ⟨o,rfl,ho⟩|⟨rfl,h⟩
      . exact .inl (by simp [hfi _ _ ho])
      exact .inr ⟨rfl,h⟩)
  (by rcases hhi with ⟨o,rfl,ho⟩|⟨rfl,h⟩
      . exact .inl (by simp [hfi _ _ ho])
      exact .inr ⟨rfl,h⟩)
 simp only[execOp,hfi _ _ hx,l1u,Sem.run_bind,hr,Result.andThen_ok,Sem.run_pure]
theorem Ex.makeFunc {f:FuncId}{cs:List Operand}{vs:List Value}(hc:evs e cs=some vs):Ex P ⟨dst, .makeFunc (.func f) #[] cs.toArray,ty,pos,af,g⟩ e w (.func (.func f) #[] vs.toArray) w :=
 ⟨nofun,fun ρ hfi=>by simp [execOp,Instr.makeFunc,hfi.evs hc]⟩
abbrev _root_.q1s := @Ex.makeFunc
theorem Sl.toStr {l:Ls}{ts:TypeId}(ht:P.underlying t=some (.slice t'))(he:P.underlying t'=some (.int .u8))(hd:P.underlying ts=some .string)(h:Bs M v l)(ha:Ag M w):(convert t ts v).run P w = .ok (S l) w:=by
 obtain⟨A,c,rfl,hc,hn⟩:=h.cells ha;cases A with
 | none =>
   obtain⟨rfl,rfl⟩:=hn rfl;exact run_convert_bytes_nil w t t' ht he _ _ ts hd
 | some ad =>
   rw[run_convert_bytes_string w t ts t' (some ad) _ _ ht he hd];have hl:(loadCells ad (l.map encB).length).run P w = .ok (l.map encB).toArray w:=run_loadCells_list (P:=P) w ad (l.map encB) (hc ad rfl);rw[l0l] at hl;simp only[Conv.bytesToString,Sem.run_bind,hl,Result.andThen_ok];have key :∀(m:Ls) (acc:ByteArray),(forIn (m.map encB).toArray acc (fun c (s:ByteArray)=>(do
    let .int .u8 n := c | stuck "bytesToString: byte expected"
    pure (ForInStep.yield (s.push (UInt8.ofNat n.toNat))):Sem (ForInStep ByteArray)))).run P w = .ok ⟨acc.data++m.toArray⟩ w:=by
    intro m;induction m with
    | nil=>intro acc;simp
    | cons x m ih =>
      intro acc;have J:(acc.push x).data++m.toArray=acc.data++(x::m).toArray:=by
       apply Array.ext';simp
      have:=ih (acc.push x);rw[J] at this;simp at this ⊢;exact this
   have E:=key l ByteArray.empty;simp at E ⊢;rw[E]
theorem Ex.toStr {l:Ls}{ts:TypeId}(ht:P.underlying t=some (.slice t'))(he:P.underlying t'=some (.int .u8))(hd:P.underlying ts=some .string)(H:StX C w0 M0 M L w)(h:Bs M v l)(hx:ev e x=some v):
 Ex P ⟨dst, .convert t ts x,ty,pos,af,g⟩ e w (S l) w :=
 ⟨nofun,fun ρ hfi=>by simp only[execOp,hfi _ _ hx,Sem.run_bind,h.toStr ht he hd H.ag,Result.andThen_ok,Sem.run_pure]⟩
abbrev _root_.q0Y := @Ex.toStr
theorem Sl.src (ht:P.underlying t=some (.slice t'))(h:Sl M enc v l)(ha:Ag M w)(J :∀a,(enc a).oneCell'=true):Src P 1 t v l.length (l.map enc) w:=by
 obtain⟨A,c,rfl,hc,hn⟩:=h.cells ha;have E :∀u∈l.map enc,u.oneCell'=true:=fun u hu=>by obtain⟨a,_,rfl⟩:=List.mem_map.1 hu;exact J a
 cases A with
 | none =>
   obtain⟨rfl,rfl⟩:=hn rfl;exact Src.ofNil w ht _
 | some ad=>exact Src.ofSlice w ht ad _ _ _ Sm (hc ad rfl) E
theorem srcStr {l:Ls}(ht:P.underlying t=some .string):Src P 1 t (S l) l.length (l.map encB) w:=by
 have:=Src.ofString w ht ⟨l.toArray⟩;rw[size_mk] at this;have E:byteCells ⟨l.toArray⟩=l.map encB:=by simp [byteCells]
 rwa [E] at this
theorem WR.appendK {z:Value}{bytes:Nat}{tx:TypeId}{L':Item->List Item}(T:ElemTy P ts t z 1 bytes)(H:StX C w0 M0 M L w)(hx:ev e x=some v)(hu :∀it',Upd L (RowI t enc v l) it' (L' it'))(hy:ev e y=some u)
 (hs:Src P 1 tx u l2.length (l2.map enc) w) (hb:(l.length+l2.length)*bytes<=Pl.lim bytes) (hb':l.length+l2.length<=maxLen)
 (hw:Wn ops n D e ⟨some d, .call ⟨.builtin .append,#[x,y],#[ts,tx]⟩,ty,pos,af,g⟩) (hn:Nat.blt d n=true)
 (k :∀v' w',StX C w0 M0 M (L' (RowI t enc v' (l++l2))) w'->WR r P ops Q n D rest ((d,v')::e) w') :
 WR r P ops Q n D (⟨some d, .call ⟨.builtin .append,#[x,y],#[ts,tx]⟩,ty,pos,af,g⟩::rest) e w:=by
 have hm:=(hu (RowI t enc v l)).mem;obtain⟨v',w',hrun,K,N,E⟩:=run_append_own_src (P:=P) (ty:=ty) w 0 T v l.length (l.map enc) (H.rowOf hm) u l2.length (l2.map enc) hs hb' hb (l0o _);have J:w'.ownsRow 0 t 1 v' (l++l2).length ((l++l2).map enc):=by rw[l05,l0R];exact K
 refine q0w (w':=w') ⟨nofun,fun ρ hfi=>?_⟩ hw rfl hn (k v' w' (H.upd (hu _) N J (fun b hb'=>?_)))
 . simp only[execOp,resolve,invoke,builtin,Sem.run_bind,Sem.run_pure,Result.andThen_ok,l0v,l0j,l0I,hfi _ _ hx,hfi _ _ hy,hrun]
 have hb'':v'.ownBlock=some b:=hb';rcases E with E|E
 . exact .inl (E.symm.trans hb'')
 rw[E] at hb'';have:w.heap.size=b:=Option.some.inj hb'';exact .inr Om
theorem WR.appendSl {z:Value}{bytes:Nat}{L':Item->List Item}(T:ElemTy P ts t z 1 bytes)(E :∀a,(enc a).oneCell'=true)(H:StX C w0 M0 M L w)(hx:ev e x=some v)(hu :∀it',Upd L (RowI t enc v l) it' (L' it'))(hy:ev e y=some u)
 (hs:Sl M enc u l2) (hb:(l.length+l2.length)*bytes<=Pl.lim bytes) (hb':l.length+l2.length<=maxLen)
 (hw:Wn ops n D e ⟨some d, .call ⟨.builtin .append,#[x,y],#[ts,ts]⟩,ty,pos,af,g⟩) (hn:Nat.blt d n=true)
 (k :∀v' w',StX C w0 M0 M (L' (RowI t enc v' (l++l2))) w'->WR r P ops Q n D rest ((d,v')::e) w') :
 WR r P ops Q n D (⟨some d, .call ⟨.builtin .append,#[x,y],#[ts,ts]⟩,ty,pos,af,g⟩::rest) e w :=
 WR.appendK T H hx hu hy (hs.src T.under H.ag E) hb hb' hw hn k
theorem WR.appendStr {z:Value}{l l2:Ls}{tx:TypeId}{L':Item->List Item}(T:ElemTy P ts t z 1 1)(ht:P.underlying tx=some .string)(H:StX C w0 M0 M L w)(hx:ev e x=some v)(hu :∀it',Upd L (RowI t encB v l) it' (L' it'))(hy:ev e y=some (S l2))
 (hb:l.length+l2.length<=175921860444160)
 (hw:Wn ops n D e ⟨some d, .call ⟨.builtin .append,#[x,y],#[ts,tx]⟩,ty,pos,af,g⟩) (hn:Nat.blt d n=true)
 (k :∀v' w',StX C w0 M0 M (L' (RowI t encB v' (l++l2))) w'->WR r P ops Q n D rest ((d,v')::e) w') :
 WR r P ops Q n D (⟨some d, .call ⟨.builtin .append,#[x,y],#[ts,tx]⟩,ty,pos,af,g⟩::rest) e w :=
 WR.appendK T H hx hu hy (srcStr ht) (by unfold Pl.lim;rw [if_pos rfl];omega) (by simp only[maxLen];omega) hw hn k
def evq (e:Env):List (Nat × Operand)->Option (List (Nat × Value))
 | []=>some []
 |(i,x)::r=>match ev e x,evq e r with|some v,some vs=>some ((i,v)::vs)|_,_=>none
theorem Fits.evq {ρ:Operand->Value}(hf:Fits e ρ):∀{ps:List (Nat × Operand)} {vs:List (Nat × Value)},evq e ps=some vs->ps.map (fun p=>(p.1,ρ p.2))=vs
 | [],vs,h=>by simp [Ph.evq] at h;simp [h]
 | (i,x)::r,vs,h=>by
   simp only[Ph.evq] at h;split at h
   . rename_i v vs' E J;cases h;simp [hf _ _ E,hf.evq J]
   cases h
theorem Ex.build {ps:List (Nat × Operand)}{vs:List (Nat × Value)}{fs:Array Field}{places:Array (Nat × Nat)}(cs:List Value)(hu:P.underlying t=some (.struct fs))(hz :∀w,(zeroValue t).run P w = .ok z w)
 (hpl :∀w,(fs.mapM fun f=>do pure (f.offset,<-sizeOf f.type):Sem (Array (Nat × Nat))).run P w = .ok places w) (hp:evq e ps=some vs) (hfl:Instr.fill (places[·]?) z.cells vs=some cs.toArray) :
 Ex P ⟨dst, .build t ps.toArray,ty,pos,af,g⟩ e w (.agg cs.toArray) w :=
 ⟨nofun,fun ρ hf=>by
  have E:(ps.toArray.map fun x=>(x.1,ρ x.2)).toList=vs:=by simpa using hf.evq hp
  simp only[execOp,Instr.build,Sem.run_bind,hz,Result.andThen_ok,run_underlying hu,hpl,E,hfl,Sem.run_pure]⟩
abbrev _root_.q0v := @Ex.build
def evp (e:Env):Nat->List (Nat × Operand)->Option (List Value)
 | _,[]=>some []
 | k,(i,x)::r=>bif Nat.beq i k then(match ev e x,evp e (k+1) r with|some v,some vs=>some (v::vs)|_,_=>none) else none
theorem fill_all {e:Env}{ρ:Operand->Value}(hf:Fits e ρ):∀(ps:List (Nat × Operand)) (k:Nat) (vs:List Value) (cs:List Value),evp e k ps=some vs->(∀v∈vs,v.cells = #[v])->k+vs.length<=cs.length->
 Instr.fill (fun i=>some (i*1,1)) cs.toArray (ps.map fun p=>(p.1,ρ p.2))=some (cs.take k++vs++cs.drop (k+vs.length)).toArray
 | [],k,vs,cs,h,_,_=>by
   simp only[evp,Option.some.injEq] at h;subst h;simp [Instr.fill]
 | (i, x)::r,k,vs,cs,h,E,hk=>by
   simp only[evp] at h;cases hb:Nat.beq i k with
   | false=>rw[hb] at h;cases h
   | true =>
     have:i=k:=l0A hb;subst this;rw[hb] at h;simp only[cond_true] at h;split at h
     . rename_i v vs' J K;cases h;simp only[l01] at hk;have hv:v.cells = #[v]:=E v Sm;have hkl:i<cs.length:=by omega
       have ih:=fill_all hf r (i+1) vs' (cs.set i v) K (fun u hu=>E u (by simp [hu])) (by simp;omega);simp only[l0j,hf _ _ J,Instr.fill,hv];have N :¬((decide ((#[v]:Array Value).size≠1) || decide (i*1+(#[v]:Array Value).size>cs.toArray.size))=true):=by simp;omega
       rw[if_neg N];have O:((#[v]:Array Value).zipIdx.foldl (fun cs (c,j)=>cs.setIfInBounds (i*1+j) c) cs.toArray)=(cs.set i v).toArray:=by simp
       rw[O,ih];congr 2;have hd:(cs.set i v).drop (i+1+vs'.length)=cs.drop (i+1+vs'.length):=List.drop_set_of_lt Om;have htk:(cs.set i v).take (i+1)=cs.take i++[v]:=by
        rw[l0w (by simp;omega),List.take_set_of_le Om];simp
       rw[hd,htk];simp [l0U,l1W 1]
     cases h
theorem run_buildSlice {ps:List (Nat × Operand)}{vs:List Value}{ρ:Operand->Value}{bytes:Nat}(hf:Fits e ρ)(T:ElemTy P ts t z 1 bytes)(hp:evp e 0 ps=some vs)(J :∀v∈vs,v.cells = #[v]){len:Nat}(hlen:vs.length=len)(hbig:len<=16777216):
 (Instr.buildSlice ts len (ps.toArray.map fun(i,x)=>(i,ρ x))).run P w = .ok (.slice (some ⟨w.heap.size,0,none⟩) len len) (w.alloc (.cells vs.toArray t)):=by
 obtain⟨i,hi,hz,hsz,_⟩:=T.info;subst hlen;have hs:(sizeOf t).run P w = .ok 1 w:=by simp [sizeOf,typeInfo,hi,hsz]
 have hzv:(zeroValue t).run P w = .ok z w:=by simp [zeroValue,typeInfo,hi,hz]
 have hnb :¬(vs.length*1>2 ^ 24):=by omega
 have fl :∀cs:List Value,cs.length=vs.length->Instr.fill (fun i=>some (i*1,1)) cs.toArray (ps.map fun p=>(p.1,ρ p.2))=some vs.toArray:=fun cs hcs=>by
  have:=fill_all hf ps 0 vs cs hp J Om;rw[this];simp [hcs]
 have fl' :∀cs:Array Value,cs.size=vs.length->Instr.fill (fun i=>some (i*1,1)) cs (ps.toArray.map fun x=>(x.1,ρ x.2)).toList=some vs.toArray:=fun cs hcs=>by
  have:=fl cs.toList (by simpa using hcs);simpa using this
 by_cases E:vs.length*1=0
 . simp only[Instr.buildSlice,Sem.run_bind,run_underlying T.under,Result.andThen_ok,hs,hnb,if_false];rw[if_pos E];simp only[Sem.run_bind,Sem.run_pure,Result.andThen_ok];rw[fl' _ Sm];rfl
 simp only[Instr.buildSlice,Sem.run_bind,run_underlying T.under,Result.andThen_ok,hs,hnb,if_false];rw[if_neg E];simp only[Sem.run_bind,hzv,Sem.run_pure,Result.andThen_ok];rw[fl' _ Sm];rfl
theorem WR.lit {ps:List (Nat × Operand)}{vs:List Value}{bytes len:Nat}(T:ElemTy P ts t z 1 bytes)(l:List α)(H:StX C w0 M0 M L w)(hp:evp e 0 ps=some vs)(hl:vs=l.map enc)(E :∀a,(enc a).cells = #[enc a])(hlen:l.length=len)(hbig:Nat.ble len 16777216=true)
 (hw:Wn ops n D e ⟨some d, .buildSlice ts len ps.toArray,ty,pos,af,g⟩) (hn:Nat.blt d n=true)
 (k :∀v M' w',StX C w0 M0 M' L w'->M.le M'->Sl M' enc v l->WR r P ops Q n D rest ((d,v)::e) w') :
 WR r P ops Q n D (⟨some d, .buildSlice ts len ps.toArray,ty,pos,af,g⟩::rest) e w:=by
 have hbig:=l09 hbig;have H1:=H.new (it := .blk w.heap.size (.cells vs.toArray t)) (grownBy_alloc' w (.cells vs.toArray t)) (heap_alloc_new w _) (fun b hb=>by cases hb;exact l07 _);obtain⟨J,K⟩:=H1.freeze .head rfl (heap_alloc_new w _) H.base;refine q0w (w':=w.alloc (.cells vs.toArray t)) (v := .slice (some ⟨w.heap.size,0,none⟩) len len) ⟨nofun,fun ρ hf=>?_⟩ hw rfl hn (k _ _ _ K J ⟨some ⟨w.heap.size,0,none⟩,len,by rw[hlen],by omega,⟨by simp only[maxLen];omega,fun h=>by cases h⟩,fun _=>⟨w.heap.size,0,vs.toArray,t,(0,0),rfl,by simp [Mem.set],fun i x hx=>?_⟩⟩)
 . have:=run_buildSlice (P:=P) (w:=w) hf T hp (fun v hv=>by rw[hl] at hv;obtain ⟨a,_,rfl⟩:=List.mem_map.1 hv;exact E a) (len:=len) (by rw[hl];simpa using hlen) hbig;simp only[execOp,Sem.run_bind,this,Result.andThen_ok,Sem.run_pure]
 rw[hl];simp [hx]
abbrev _root_.q0O := @WR.lit
theorem WR.litC {ps:List (Nat × Operand)}{vs:List Value}{bytes len E:Nat}{ty':TypeId}{pos':String}{af':Array Edge}{g':Option (Nat × Bool)}(T:ElemTy P ts t z 1 bytes)(J:P.underlying t=some (.int .u8))(l:Ls)(H:StX C w0 M0 M L w)(hp:evp e 0 ps=some vs)(hl:vs=l.map encB)(hlen:l.length=len)(hbig:Nat.ble len 16777216=true)
 (hw:Wn ops n D e ⟨some d, .buildSlice ts len ps.toArray,ty,pos,af,g⟩) (hn:Nat.blt d n=true)
 (hw' :∀v,Wn ops n D ((d,v)::e) ⟨some E, .convert ts ts (.tmp d),ty',pos',af',g'⟩) (hn':Nat.blt E n=true)
 (k :∀v M' w',StX C w0 M0 M' L w'->M.le M'->Bs M' v l->WR r P ops Q n D rest ((E,v)::(d,v)::e) w') :
 WR r P ops Q n D (⟨some d, .buildSlice ts len ps.toArray,ty,pos,af,g⟩::⟨some E, .convert ts ts (.tmp d),ty',pos',af',g'⟩::rest) e w:=by
 have hbig:=l09 hbig;have hvs:vs.length=len:=by rw[hl];simpa using hlen
 refine q0w (w':=w.alloc (.cells vs.toArray t)) (v := .slice (some ⟨w.heap.size,0,none⟩) len len) ⟨nofun,fun ρ hf=>?_⟩ hw rfl hn ?_
 . have:=run_buildSlice (P:=P) (w:=w) hf T hp (fun v hv=>by rw[hl] at hv;obtain ⟨a,_,rfl⟩:=List.mem_map.1 hv;rfl) (len:=len) hvs hbig;simp only[execOp,Sem.run_bind,this,Result.andThen_ok,Sem.run_pure]
 have hc:=Lib.run_convert_bytes_const (P:=P) w ts t vs.toArray len len T.under J;have H1:=H.new (w':=w.alloc (.cells vs.toArray t (len,len+1))) (it := .blk w.heap.size (.cells vs.toArray t (len,len+1))) (grownBy_alloc' w _) (heap_alloc_new w _) (fun b hb=>by cases hb;exact l07 _);obtain⟨K,N⟩:=H1.freeze .head rfl (heap_alloc_new w _) H.base;refine q0w (w':=w.alloc (.cells vs.toArray t (len,len+1))) (v := .slice (some ⟨w.heap.size,0,none⟩) len len) ⟨nofun,fun ρ hf=>?_⟩ (hw' _) rfl hn' (k _ _ _ N K ⟨some ⟨w.heap.size,0,none⟩,len,by rw[hlen],by omega,⟨by simp only[maxLen];omega,fun h=>by cases h⟩,fun _=>⟨w.heap.size,0,vs.toArray,t,(len,len+1),rfl,by simp [Mem.set],fun i x hx=>?_⟩⟩)
 . have hg:ρ (.tmp d) = .slice (some ⟨w.heap.size,0,none⟩) len len:=hf _ _ (by simp [ev,get]);have hsz:vs.toArray.size=len:=by simpa using hvs
   rw[hsz] at hc;simp only[execOp,hg,Sem.run_bind,hc,Result.andThen_ok,Sem.run_pure]
 rw[hl];simp [hx]
theorem WR.call {f:FuncId}{ar:List Operand}{vs:List Value}{tys:Array TypeId}{Pre:Mem->Prop}{R:Value->Mem->Prop}(H:StX C w0 M0 M L w)(hs:Ct P f vs Pre R)(ha:evs e ar=some vs)(hp:Pre M)
 (hw:Wn ops n D e ⟨some d, .call ⟨.value (.func f),ar.toArray,tys⟩,ty,pos,af,g⟩) (hn:Nat.blt d n=true)
 (k :∀v M' w',StX C w0 M0 M' L w'->M.le M'->R v M'->WR r P ops Q n D rest ((d,v)::e) w') :
 WR r P ops Q n D (⟨some d, .call ⟨.value (.func f),ar.toArray,tys⟩,ty,pos,af,g⟩::rest) e w:=by
 intro a hsat;unfold wpListIn;rw[if_pos (hw a hsat)];refine⟨fun _ _=>trivial,?_⟩;rw[Oper.semAt_eq _ _ _ (fun c h=>by cases h)];have hv:ar.map a.eval=vs:=hsat.fits.evs ha;have hf:a.eval (.func f) = .func (.func f) #[] #[]:=rfl;have hrun:(execOp a.eval ⟨some d, .call ⟨.value (.func f),ar.toArray,tys⟩,ty,pos,af,g⟩).run P w = .ok (.enter f vs.toArray) w:=by
  simp only[execOp,resolve,hf,Deferred.ofValue,Sem.run_bind,Sem.run_pure,Result.andThen_ok,invoke,l0v,hv,Array.append_empty,Array.empty_append,hs.enters]
 rw[hrun,Oper.uponIn_enter];refine⟨fun h=>(by cases h),callsIn_Wd.2 ((hs.calls w M H.ag hp).mono ?_)⟩;rintro en w' ⟨rv,M',rfl,hx,hR⟩;exact k rv M' w' (H.call hx) hx.le hR _ (hsat.put (l09 hn) rv)
abbrev _root_.q02 := @WR.call
theorem WR.callO {f:FuncId}{ar:List Operand}{vs:List Value}{tys:Array TypeId}{Pre:Mem->Prop}{R:Value->Mem->List Item->Prop}(H:StX C w0 M0 M L w)(hs:CtO P f vs Pre R)(ha:evs e ar=some vs)(hp:Pre M)
 (hw:Wn ops n D e ⟨some d, .call ⟨.value (.func f),ar.toArray,tys⟩,ty,pos,af,g⟩) (hn:Nat.blt d n=true)
 (k :∀v M' w' its,StX C w0 M0 M' (its++L) w'->M.le M'->R v M' its->WR r P ops Q n D rest ((d,v)::e) w') :
 WR r P ops Q n D (⟨some d, .call ⟨.value (.func f),ar.toArray,tys⟩,ty,pos,af,g⟩::rest) e w:=by
 intro a hsat;unfold wpListIn;rw[if_pos (hw a hsat)];refine⟨fun _ _=>trivial,?_⟩;rw[Oper.semAt_eq _ _ _ (fun c h=>by cases h)];have hv:ar.map a.eval=vs:=hsat.fits.evs ha;have hf:a.eval (.func f) = .func (.func f) #[] #[]:=rfl;have hrun:(execOp a.eval ⟨some d, .call ⟨.value (.func f),ar.toArray,tys⟩,ty,pos,af,g⟩).run P w = .ok (.enter f vs.toArray) w:=by
  simp only[execOp,resolve,hf,Deferred.ofValue,Sem.run_bind,Sem.run_pure,Result.andThen_ok,invoke,l0v,hv,Array.append_empty,Array.empty_append,hs.enters]
 rw[hrun,Oper.uponIn_enter];refine⟨fun h=>(by cases h),callsIn_Wd.2 ((hs.calls w M H.ag hp).mono ?_)⟩;rintro en w' ⟨rv,M',its,rfl,hx,hR⟩;exact k rv M' w' its (H.callO hx) hx.ext.le hR _ (hsat.put (l09 hn) rv)
abbrev _root_.q1l := @WR.callO
end
end Go.Ph
end
section
namespace Go.Ph
open Go Go.RowKit
def CellsM (M:Mem)(p:Addr)(vs:List Value):Prop:=p.spot=none/\∃cs t fz,M p.block=some (.cells cs t fz)/\∀j u,vs[j]? = some u->cs[p.off+j]? = some u
theorem CellsM.mono {M M':Mem}{p:Addr}{vs:List Value}(h:CellsM M p vs)(hl:M.le M'):CellsM M' p vs :=
 ⟨h.1,let ⟨cs,t,fz,E,J⟩:=h.2;⟨cs,t,fz,hl _ _ E,J⟩⟩
theorem CellsM.at {M:Mem}{b o j:Nat}{vs:List Value}{u:Value}(h:CellsM M ⟨b,o,none⟩ vs)(hj:vs[j]? = some u):CellM M ⟨b,o+j,none⟩ u :=
 ⟨rfl,let ⟨cs,t,fz,E,J⟩:=h.2;⟨cs,t,fz,E,J j u hj⟩⟩
def SlS {α:Type}(M:Mem)(k:Nat)(enc:α->List Value)(v:Value)(l:List α):Prop :=
 (∀x,(enc x).length=k)/\∃A c,v = .slice A l.length c/\l.length<=c/\(c<=maxLen/\(A=none->c=0))/\
  (l≠ []->∃b o cs t fz,A=some ⟨b,o,none⟩/\M b=some (.cells cs t fz)/\∀i x,l[i]? = some x->∀j u,(enc x)[j]? = some u->cs[o+i*k+j]? = some u)
section
variable {α : Type} {M M' : Mem} {kk : Nat} {enc : α → List Value} {v : Value} {l : List α}
theorem SlS.mono (h:SlS M kk enc v l)(hl:M.le M'):SlS M' kk enc v l:=by
 obtain⟨E,A,c,hv,J,K,N⟩:=h;refine⟨E,A,c,hv,J,K,fun hne=>?_⟩;obtain⟨b,o,cs,t,fz,O,U,V⟩:=N hne;exact⟨b,o,cs,t,fz,O,hl _ _ U,V⟩
theorem SlS.one (h:SlS M kk enc v l):One v:=by
 obtain⟨_,A,c,rfl,_⟩:=h;exact One.slice _ _ _
theorem flat_at (E :∀x,(enc x).length=kk):∀(l:List α) (i j:Nat) (x:α) (u:Value),l[i]? = some x->(enc x)[j]? = some u->(l.flatMap enc)[i*kk+j]? = some u:=by
 intro l;induction l with
 | nil=>intro i j x u hi;simp at hi
 | cons y l ih =>
   intro i j x u hi hj;have hjl:j<kk:=by have:=(List.getElem?_eq_some_iff.1 hj).1;rw [E] at this;exact this
   rw[l0n];cases i with
   | zero =>
     have:y=x:=by simpa using hi
     subst this;rw[Nat.zero_mul,l0r,List.getElem?_append_left (by rw[E];exact hjl)];exact hj
   | succ i =>
     rw[List.getElem?_append_right (by rw[E,l1p];omega),E,show (i+1)*kk+j-kk=i*kk+j by rw[l1p];omega];exact ih i j x u (by simpa using hi) hj
theorem SlS.ofBlk {b:Nat}{t:TypeId}{fz:Nat × Nat}(E :∀x,(enc x).length=kk)(hl:l.length<=maxLen)(hb:M b=some (.cells (l.flatMap enc).toArray t fz)):SlS M kk enc (.slice (some ⟨b,0,none⟩) l.length l.length) l :=
 ⟨E,some ⟨b,0,none⟩,l.length,rfl,l07 _,⟨hl,fun h=>by cases h⟩,fun _=>⟨b,0,_,t,fz,rfl,hb,fun i x hi j u hj=>by
  rw[l0r];simpa using flat_at E l i j x u hi hj⟩⟩
end
section
variable {C : Nat → Prop} {w0 w : World} {M0 M : Mem} {L L' : List Item}
theorem StX.freezeBlk {b:Nat}{cs:Array Value}{t:TypeId}(H:St w0 M0 M L w)(hr:Rem L (.blk b (.cells cs t)) L'):∃M',M.le M'/\M' b=some (.cells cs t)/\St w0 M0 M' L' w:=by
 have hb:=H.blk hr.mem;obtain⟨E,J⟩:=H.freeze hr rfl hb (((H.own _ hr.mem).2 b rfl).2.resolve_right (fun h=>h));exact⟨_,E,by simp [Mem.set],J⟩
end
section
variable {C : Nat → Prop} {r : Option Nat} {P : Program} {ops : Array Oper} {Q : Exit → Act → World → Prop} {n : Nat} {D : List Deferred} {rest : List Oper} {e : Env} {w0 w : World} {M0 M : Mem} {L L' : List Item} {d : Nat} {v u z : Value}
  {x y : Operand} {ty t ts t' : TypeId} {pos : String} {af : Array Edge} {g : Option (Nat × Bool)} {dst : Option Tmp} {α : Type} {kk : Nat} {enc : α → List Value} {l : List α}
theorem Ex.lenSlS (ht:P.underlying t=some (.slice t'))(h:SlS M kk enc v l)(hx:ev e x=some v):Ex P ⟨dst, .call ⟨.builtin .len,#[x],#[t]⟩,ty,pos,af,g⟩ e w (I l.length) w:=by
 obtain⟨_,A,c,rfl,_⟩:=h;exact q1L ht hx
abbrev _root_.q0N := @Ex.lenSlS
theorem Ex.loadAggM {b o s:Nat}{cs:List Value}(H:StX C w0 M0 M L w)(hx:ev e x=some (ptr b o))(hc:CellsM M ⟨b,o,none⟩ cs)(ha :∀w,(isAgg t).run P w = .ok true w)(hs :∀w,(sizeOf t).run P w = .ok s w)(hl:cs.length=s):
 Ex P ⟨dst, .load t x,ty,pos,af,g⟩ e w (.agg cs.toArray) w:=Ex.loadK hx (by
 subst hl;have hlc:(loadCells ⟨b,o,none⟩ cs.length).run P w = .ok cs.toArray w :=
  run_loadCells_list (P:=P) w ⟨b,o,none⟩ cs (fun j v hv=>by rw[Addr.add_lit];exact (hc.at hv).cell H.ag)
 simp only[loadVar,Sem.run_bind,ha,Result.andThen_ok,if_true,hs,hlc,Sem.run_pure])
abbrev _root_.q0G := @Ex.loadAggM
theorem Ex.buildArr {ps:List (Nat × Operand)}{vs:List (Nat × Value)}{len size:Nat}{E:TypeId}(cs:List Value)(hu:P.underlying t=some (.array len E))(hz :∀w,(zeroValue t).run P w = .ok z w)(hs :∀w,(sizeOf E).run P w = .ok size w)
 (hp:evq e ps=some vs) (hfl:Instr.fill (fun i=>some (i*size,size)) z.cells vs=some cs.toArray):Ex P ⟨dst, .build t ps.toArray,ty,pos,af,g⟩ e w (.agg cs.toArray) w :=
 ⟨nofun,fun ρ hf=>by
  have J:(ps.toArray.map fun x=>(x.1,ρ x.2)).toList=vs:=by simpa using hf.evq hp
  simp only[execOp,Instr.build,Sem.run_bind,hz,Result.andThen_ok,run_underlying hu,hs,J,hfl,Sem.run_pure]⟩
theorem WR.callV {f:FuncId}{ar:List Operand}{vs cap:List Value}{tys:Array TypeId}{Pre:Mem->Prop}{R:Value->Mem->Prop}(H:StX C w0 M0 M L w)(hs:Ct P f (vs++cap) Pre R)(hx:ev e x=some (.func (.func f) #[] cap.toArray))(ha:evs e ar=some vs)(hp:Pre M)
 (hw:Wn ops n D e ⟨some d, .call ⟨.value x,ar.toArray,tys⟩,ty,pos,af,g⟩) (hn:Nat.blt d n=true)
 (k :∀v M' w',StX C w0 M0 M' L w'->M.le M'->R v M'->WR r P ops Q n D rest ((d,v)::e) w') :
 WR r P ops Q n D (⟨some d, .call ⟨.value x,ar.toArray,tys⟩,ty,pos,af,g⟩::rest) e w:=by
 intro a hsat;unfold wpListIn;rw[if_pos (hw a hsat)];refine⟨fun _ _=>trivial,?_⟩;rw[Oper.semAt_eq _ _ _ (fun c h=>by cases h)];have hv:ar.map a.eval=vs:=hsat.fits.evs ha;have hf:a.eval x = .func (.func f) #[] cap.toArray:=hsat.fits _ _ hx;have hrun:(execOp a.eval ⟨some d, .call ⟨.value x,ar.toArray,tys⟩,ty,pos,af,g⟩).run P w = .ok (.enter f (vs++cap).toArray) w:=by
  simp only[execOp,resolve,hf,Deferred.ofValue,Sem.run_bind,Sem.run_pure,Result.andThen_ok,invoke,l0v,hv,l1y,l03,hs.enters]
 rw[hrun,Oper.uponIn_enter];refine⟨fun h=>(by cases h),callsIn_Wd.2 ((hs.calls w M H.ag hp).mono ?_)⟩;rintro en w' ⟨rv,M',rfl,hx,hR⟩;exact k rv M' w' (H.call hx) hx.le hR _ (hsat.put (l09 hn) rv)
end
end Go.Ph
end
section
namespace Go.Ph
open Go Go.RowKit
section
variable {C : Nat → Prop} {r : Option Nat} {P : Program} {ops : Array Oper} {Q : Exit → Act → World → Prop} {n : Nat} {D : List Deferred} {rest : List Oper} {e : Env} {w0 w : World} {M0 M : Mem} {L L' : List Item} {d : Nat} {v u : Value}
  {x y : Operand} {ty t ts t' tt : TypeId} {pos : String} {af : Array Edge} {g : Option (Nat × Bool)} {dst : Option Tmp} {α : Type} {enc : α → Value} {l : List α}
theorem StX.rowAt (H:StX C w0 M0 M L w)(hm:RowI t enc v l∈L){i:Nat}{a:α}(hi:l[i]? = some a):
 ∃gb cap cur,v = .slice (some ⟨gb,0,none⟩) l.length cap/\w.heap[gb]? = some (.cells cur t)/\l.length<=cap/\cur.size=cap/\cap<=maxLen/\cur.toList.take l.length=l.map enc:=by
 rcases(H.rowOf hm).2 with ⟨hv,hn⟩|⟨gb,cap,cur,hv,_,hg,hnc,hcm,hcs,htake⟩
 . rw[l08 hn] at hi;simp at hi
 exact⟨gb,cap,cur,hv,hg,hnc,by omega,hcm,by simpa using htake⟩
theorem WR.idxRow {i:Nat}{a:α}{k':IntKind}(H:StX C w0 M0 M L w)(ht:P.underlying ts=some (.slice t'))(hz :∀w,(sizeOf t').run P w = .ok 1 w)(hm:RowI t enc v l∈L)(hx:ev e x=some v)(hy:ev e y=some (.int k' (i:Int)))(hi:l[i]? = some a)
 (hw:Wn ops n D e ⟨some d, .indexAddr ts x y,ty,pos,af,g⟩) (hn:Nat.blt d n=true) (k :∀gb,v.ownBlock=some gb->WR r P ops Q n D rest ((d,ptr gb i)::e) w) :
 WR r P ops Q n D (⟨some d, .indexAddr ts x y,ty,pos,af,g⟩::rest) e w:=by
 obtain⟨gb,cap,cur,rfl,hg,J,K,N,O⟩:=H.rowAt hm hi;have hlt:=(List.getElem?_eq_some_iff.1 hi).1;refine q0w (v:=ptr gb i) (w':=w) ⟨nofun,fun ρ hfi=>?_⟩ hw rfl hn (k gb rfl);have E:(0:Int)<=(i:Int)/\(i:Int)<(l.length:Int):=by omega
 simp only[execOp,hfi _ _ hx,hfi _ _ hy,Instr.indexAt,Sem.run_bind,asIntOf,run_underlying ht,Result.andThen_ok,Sem.run_pure,hz,E,and_self,if_true,Addr.add_lit,l0h,l0O,l0r]
theorem Ex.loadRow {gb i:Nat}{a:α}(H:StX C w0 M0 M L w)(hx:ev e x=some (ptr gb i))(hg:v.ownBlock=some gb)(hm:RowI t enc v l∈L)(hi:l[i]? = some a)(ha :∀w,(isAgg tt).run P w = .ok false w):
 Ex P ⟨dst, .load tt x,ty,pos,af,g⟩ e w (enc a) w:=Ex.loadK hx (by
 obtain⟨gb',cap,cur,rfl,hgb,K,N,O,J⟩:=H.rowAt hm hi;obtain rfl:gb'=gb:=Option.some.inj hg;have hlt:=(List.getElem?_eq_some_iff.1 hi).1;have hc:w.cell? ⟨gb',i,none⟩=some (enc a):=by
  rw[cell_of_row w gb' i _ t _ hgb];have E:(cur.toList.take l.length)[i]? = some (enc a):=by rw[J,List.getElem?_map,hi];rfl
  rw[List.getElem?_take,if_pos hlt] at E;simpa using E
 simp only[loadVar,Sem.run_bind,ha,Result.andThen_ok,l0m,if_false];simp [load,Sem.run,hc])
theorem WR.storeRow {gb i:Nat}{a:α}{L':Item->List Item}(H:StX C w0 M0 M L w)(hx:ev e x=some (ptr gb i))(hy:ev e y=some (enc a))(ho:One (enc a))(hg:v.ownBlock=some gb)(hu :∀it',Upd L (RowI t enc v l) it' (L' it'))(hi:i<l.length)
 (hs :∀w,(sizeOf tt).run P w = .ok 1 w) (hw:Wn ops n D e ⟨none, .store tt x y,ty,pos,af,g⟩) (k :∀w',StX C w0 M0 M (L' (RowI t enc v (l.set i a))) w'->WR r P ops Q n D rest e w') :
 WR r P ops Q n D (⟨none, .store tt x y,ty,pos,af,g⟩::rest) e w:=by
 have hm:=(hu (RowI t enc v l)).mem;obtain⟨gb',cap,cur,rfl,hgb,E,J,K,N⟩:=H.rowAt hm (List.getElem?_eq_getElem hi);obtain rfl:gb'=gb:=Option.some.inj hg;have hrun:=run_storeVar (P:=P) (t:=tt) (v:=enc a) (o:=i) (s:=1) hgb hs (by rw[ho.1];rfl) Om (by rw[ho.1];simp [ho.2]);have hset:(cur.toList.take i++(enc a).cells.toList++cur.toList.drop (i+1)).toArray=(cur.toList.set i (enc a)).toArray:=by
  rw[ho.1,l1K,if_pos (by rw[Array.length_toList];omega)];simp
 rw[hset] at hrun;refine WR.stepS (w':=w.setRow gb' (cur.toList.set i (enc a)).toArray) ⟨nofun,fun ρ hf=>?_⟩ hw rfl (k _ (H.upd (hu _) (grownBy_setRow w gb' _) ?_ (fun b' hb' => .inl hb')))
 . simp only[execOp,hf _ _ hx,hf _ _ hy,Instr.storeAt,Instr.sureAddr,Sem.run_bind,Sem.run_pure,Result.andThen_ok,hrun]
 refine⟨by simp, .inr ⟨gb',cap,_,by simp,l0o _,setRow_heap w gb' cur _ t _ hgb,by simpa using E,K,by simp [J],?_⟩⟩;simp only[l0X,l0O];rw[List.take_set,N,List.map_set]
end
end Go.Ph
end
section
namespace Go.Ph.Utf
open Go
def nat (l:Ls)(i:Nat):Nat:=(l.getD i 0).toNat
theorem nat_lt (l:Ls)(i:Nat):nat l i<256:=(l.getD i 0).toNat_lt
theorem nat_of {l:Ls}{i:Nat}{u:UInt8}(h:l[i]? = some u):nat l i=u.toNat:=by
 unfold nat;rw [l0z,h];rfl
theorem nat_drop (l:Ls)(a i:Nat):nat (l.drop a) i=nat l (a+i):=by
 unfold nat;rw [l0z,l0z,List.getElem?_drop]
def kindOf (c:Nat):Nat × Nat × Nat :=
 if 192<=c/\c<=223 then(2,c-192,128) else if 224<=c/\c<=239 then(3,c-224,2048) else if 240<=c/\c<=247 then(4,c-240,65536) else(0,0,0)
def okC (x:Nat):Prop:=128<=x/\x<=191
instance (x : Nat):Decidable (okC x):=inferInstanceAs (Decidable (_/\_))
def cont (l:Ls)(u:Nat):Nat->Option Nat
 | 0=>some u
 | k+1=>match cont l u k with
   | none=>none
   | some n=>if okC (nat l (k+1)) then some (64*n+nat l (k+1)-128) else none
def badN (n least:Nat):Prop:=n<least∨n>1114111∨(55296<=n/\n<=57343)
instance (n least:Nat):Decidable (badN n least):=inferInstanceAs (Decidable (_∨_))
def rune (l:Ls):Int × Nat :=
 if nat l 0<128 then((nat l 0:Int),1)
 else if (kindOf (nat l 0)).1=0∨l.length<(kindOf (nat l 0)).1 then(-1,1)
 else match cont l (kindOf (nat l 0)).2.1 ((kindOf (nat l 0)).1-1) with
  | none=>(-1,1)
  | some n=>if badN n (kindOf (nat l 0)).2.2 then(-1,1) else((n:Int),(kindOf (nat l 0)).1)
def dr (l:Ls):Nat × Nat:=Lib.decodeN l.length (nat l 0) (nat l 1) (nat l 2) (nat l 3)
theorem kindOf_cases (c:Nat):(kindOf c=(0,0,0)/\¬(192<=c/\c<=247))∨(kindOf c=(2,c-192,128)/\192<=c/\c<=223)∨(kindOf c=(3,c-224,2048)/\224<=c/\c<=239)∨(kindOf c=(4,c-240,65536)/\240<=c/\c<=247):=by
 unfold kindOf;split
 . exact .inr (.inl ⟨rfl,by omega⟩)
 split
 . exact .inr (.inr (.inl ⟨rfl,by omega⟩))
 split
 . exact .inr (.inr (.inr ⟨rfl,by omega⟩))
 exact .inl ⟨rfl,by omega⟩
def chk (n least size:Nat):Int × Nat:=if badN n least then(-1,1) else((n:Int),size)
def runeN (m u E J K:Nat):Int × Nat :=
 if u<128 then((u:Int),1)
 else if 192<=u/\u<=223 then(if 2<=m/\okC E then chk (64*(u-192)+E-128) 128 2 else(-1,1))
 else if 224<=u/\u<=239 then(if 3<=m/\okC E/\okC J then chk (64*(64*(u-224)+E-128)+J-128) 2048 3 else(-1,1))
 else if 240<=u/\u<=247 then(if 4<=m/\okC E/\okC J/\okC K then chk (64*(64*(64*(u-240)+E-128)+J-128)+K-128) 65536 4 else(-1,1))
 else(-1,1)
theorem rune_eq (l:Ls):rune l=runeN l.length (nat l 0) (nat l 1) (nat l 2) (nat l 3):=by
 unfold rune runeN;by_cases ha:nat l 0<128
 . rw[if_pos ha,if_pos ha]
 rw[if_neg ha,if_neg ha];rcases kindOf_cases (nat l 0) with ⟨hk,hr⟩|⟨hk,hr⟩|⟨hk,hr⟩|⟨hk,hr⟩
 . rw[hk,if_pos (.inl rfl),if_neg Om,if_neg Om,if_neg Om]
 . rw[hk,if_pos hr];simp only[cont,chk];by_cases hm:2<=l.length <;> by_cases u:okC (nat l 1) <;> simp [hm,u]
   all_goals omega
 . have E :¬(192<=nat l 0/\nat l 0<=223):=by omega
   rw[hk,if_neg E,if_pos hr];simp only[cont,chk];by_cases hm:3<=l.length <;> by_cases u:okC (nat l 1) <;> by_cases J:okC (nat l 2) <;> simp [hm,u,J]
   all_goals omega
 have E :¬(192<=nat l 0/\nat l 0<=223):=by omega
 have K :¬(224<=nat l 0/\nat l 0<=239):=by omega
 rw[hk,if_neg E,if_neg K,if_pos hr];simp only[cont,chk];by_cases hm:4<=l.length <;> by_cases u:okC (nat l 1) <;> by_cases J:okC (nat l 2) <;> by_cases N:okC (nat l 3) <;> simp [hm,u,J,N]
 all_goals omega
theorem runeN_dr (m u E J K:Nat)(h0:u<256)(h1:E<256)(h2:J<256)(h3:K<256):Lib.decodeN m u E J K=if (runeN m u E J K).1<0 then(65533,1) else((runeN m u E J K).1.toNat,(runeN m u E J K).2):=by
 have V:E / 64=2↔okC E:=by unfold okC;omega
 have Y:J / 64=2↔okC J:=by unfold okC;omega
 have c3:K / 64=2↔okC K:=by unfold okC;omega
 have hchk :∀n least size:Nat,(if (chk n least size).1<0 then((65533,1):Nat × Nat) else((chk n least size).1.toNat,(chk n least size).2))=if badN n least then(65533,1) else(n,size):=by
  intro n least size;unfold chk;by_cases hb:badN n least
  . simp [hb]
  simp only[if_neg hb];rw[if_neg Om,l0h]
 unfold Lib.decodeN runeN;by_cases ha:u<128
 . simp only[if_pos ha];rw[if_neg Om,l0h]
 simp only[if_neg ha];by_cases Z:192<=u/\u<=223
 . have q1:u / 32=6:=by omega
   have O :¬u / 16=14:=by omega
   have N :¬u / 8=30:=by omega
   simp only[if_pos Z,q1,O,N,false_and,if_false,true_and,V];by_cases hc:2<=m/\okC E
   . rw[if_pos ⟨by omega,hc.2⟩];simp only[if_pos hc];rw[hchk];obtain⟨hm,ho⟩:=hc;unfold okC at ho;rw[show 64*(u-192)+E-128=u % 32*64+E % 64 by omega];by_cases hb:u % 32*64+E % 64≥128
     . rw[if_pos hb,if_neg (by unfold badN;omega)]
     rw[if_neg hb,if_pos (by unfold badN;omega)]
   rw[if_neg (fun h=>hc ⟨by omega,h.2⟩)];simp only[if_neg hc];rfl
 simp only[if_neg Z];have q1 :¬u / 32=6:=by omega
 by_cases k2:224<=u/\u<=239
 . have O:u / 16=14:=by omega
   have N :¬u / 8=30:=by omega
   simp only[if_pos k2,q1,O,N,false_and,if_false,true_and,V,Y];by_cases hc:3<=m/\okC E/\okC J
   . rw[if_pos ⟨⟨by omega,hc.2.1⟩,⟨by omega,hc.2.2⟩⟩];simp only[if_pos hc];rw[hchk];obtain⟨hm,ho,U⟩:=hc;unfold okC at ho U;rw[show 64*(64*(u-224)+E-128)+J-128=u % 16*4096+E % 64*64+J % 64 by omega];generalize u % 16*4096+E % 64*64+J % 64=q;by_cases hb:q≥2048/\(q<55296∨(57344<=q/\q<=1114111))
     . rw[if_pos hb,if_neg (by unfold badN;omega)]
     rw[if_neg hb,if_pos (by unfold badN;omega)]
   rw[if_neg (fun h=>hc ⟨by omega,h.1.2,h.2.2⟩)];simp only[if_neg hc];rfl
 simp only[if_neg k2];have O :¬u / 16=14:=by omega
 by_cases k3:240<=u/\u<=247
 . have N:u / 8=30:=by omega
   simp only[if_pos k3,q1,O,N,false_and,if_false,true_and,V,Y,c3];by_cases hc:4<=m/\okC E/\okC J/\okC K
   . rw[if_pos ⟨⟨by omega,hc.2.1⟩,⟨by omega,hc.2.2.1⟩,⟨by omega,hc.2.2.2⟩⟩];simp only[if_pos hc];rw[hchk];obtain⟨hm,ho,U,a2⟩:=hc;unfold okC at ho U a2;rw[show 64*(64*(64*(u-240)+E-128)+J-128)+K-128=u % 8*262144+E % 64*4096+J % 64*64+K % 64 by omega];generalize u % 8*262144+E % 64*4096+J % 64*64+K % 64=q;by_cases hb:q≥65536/\(q<55296∨(57344<=q/\q<=1114111))
     . rw[if_pos hb,if_neg (by unfold badN;omega)]
     rw[if_neg hb,if_pos (by unfold badN;omega)]
   rw[if_neg (fun h=>hc ⟨by omega,h.1.2,h.2.1.2,h.2.2.2⟩)];simp only[if_neg hc];rfl
 have N :¬u / 8=30:=by omega
 simp only[if_neg k3,q1,O,N,false_and,if_false];rfl
theorem rune_dr (l:Ls):dr l=if (rune l).1<0 then(65533,1) else((rune l).1.toNat,(rune l).2):=by
 rw[rune_eq];exact runeN_dr _ _ _ _ _ (nat_lt _ _) (nat_lt _ _) (nat_lt _ _) (nat_lt _ _)
theorem rune_size (l:Ls):1<=(rune l).2/\(rune l).2<=4/\(l≠ []->(rune l).2<=l.length):=by
 have hl:l≠ []->1<=l.length:=fun h=>List.length_pos_iff.2 h
 unfold rune;split
 . exact⟨by simp,by simp,hl⟩
 split
 . exact⟨by simp,by simp,hl⟩
 rename_i _ h;have hk:=kindOf_cases (nat l 0);split
 . exact⟨by simp,by simp,hl⟩
 split
 . exact⟨by simp,by simp,hl⟩
 simp only[];refine⟨by omega,?_,fun _=>by omega⟩;rcases hk with ⟨e,_⟩|⟨e,_⟩|⟨e,_⟩|⟨e,_⟩ <;> rw[e] <;> simp
theorem rune_lt (l:Ls): -1<=(rune l).1/\(rune l).1<=1114111:=by
 have u:=nat_lt l 0;unfold rune;repeat' split
 all_goals simp only[]
 all_goals first|omega|(rename_i h;unfold badN at h;omega)
theorem chk_cases (n least size:Nat):chk n least size=(-1,1)∨(chk n least size=((n:Int),size)/\¬badN n least):=by
 unfold chk;split
 . exact .inl rfl
 exact .inr ⟨rfl,by assumption⟩
theorem first_ok (l:Ls)(h :¬(((dr l).1:Int)=65533/\((dr l).2:Int)=1)):0<=(rune l).1/\((dr l).1:Int)=(rune l).1/\(dr l).2=(rune l).2:=by
 by_cases hn:(rune l).1<0
 . rw[rune_dr,if_pos hn] at h;exact absurd ⟨rfl,rfl⟩ h
 rw[rune_dr,if_neg hn];exact⟨by omega,by simp only[];omega,rfl⟩
theorem rune_ascii {l:Ls}(h:nat l 0<128):rune l=((nat l 0:Int),1):=by unfold rune;rw [if_pos h]
end Go.Ph.Utf
end
section
namespace Go.Ph
open Go Go.RowKit
abbrev yv (l:Nat):Value := .func (.yield l) #[] #[]
section
variable {C : Nat → Prop} {w0 w w' : World} {M0 M M' : Mem} {L L' A B : List Item}
theorem StX.perm (H:StX C w0 M0 M L w)(h:L.Perm L'):StX C w0 M0 M L' w :=
 ⟨H.ext,fun it hit=>H.own it (h.mem_iff.2 hit),H.sep.perm h (fun h=>Apart.symm h)⟩
theorem Spl.perm (h:Spl L A B):L.Perm (A++B):=by
 induction h with
 | nil=>exact .refl _
 | left _ ih=>exact ih.cons _
 | right _ ih=>exact(ih.cons _).trans List.perm_middle.symm
end
structure LoopRec (rc:LoopState->Option Code->Loop):Prop where
 state :∀s p,(rc s p).state=s
 pending :∀s p,(rc s p).pending=p
 setS :∀s p s',{rc s p with state:=s'}=rc s' p
 setP :∀s p s' p',{rc s p with state:=s',pending:=p'}=rc s' p'
structure IterCt {α:Type}(P:Program)(f:FuncId)(cap:List Value)(A:List Item)(Pre:Mem->Prop)(enc:α->Value)(xs:List α):Prop where
 enters :∀ar w,(callFunc f ar).run P w = .ok (.enter f ar) w
 calls :∀(l:Nat) (Z Zx:List α->List Item->Mem->Prop),(∀pre L M M',Z pre L M->M.le M'->Z pre L M')->
  (∀pre x L w M,(pre++[x]) <+: xs->Z pre L M->StX (feet L) w M M L w->YieldAt (Wd none) 0 P l #[enc x] w fun e w' =>∃M' L',StX (feet L) w M M' L' w'/\
   ((e = .returned (.bool true)/\Z (pre++[x]) L' M')∨(e = .returned (.bool false)/\Zx (pre++[x]) L' M')))->
  ∀L w M,Z [] L M->StX (feet (A++L)) w M M (A++L) w->Pre M->
  Calls P f (yv l::cap).toArray w fun e w' =>∃r M' L',e = .returned r/\StX (feet (A++L)) w M M' L' w'/\(Z xs L' M'∨∃pre,pre <+: xs/\Zx pre L' M')
section
variable {C : Nat → Prop} {r : Option Nat} {P : Program} {ops : Array Oper} {Q : Exit → Act → World → Prop} {n : Nat} {D : List Deferred} {rest : List Oper} {e : Env} {w0 w : World} {M0 M : Mem} {L B : List Item} {d : Nat}
  {x y : Operand} {ty t ts t' : TypeId} {pos : String} {af : Array Edge} {g : Option (Nat × Bool)} {α : Type} {enc : α → Value}
theorem WR.yield {l:Nat}{R:Ending->World->Prop}{v:Value}{tys:Array TypeId}(hY:YieldAt (Wd none) 0 P l #[v] w R)(hx:ev e x=some (yv l))(hy:ev e y=some v)
 (hw:Wn ops n D e ⟨some d, .call ⟨.value x,#[y],tys⟩,ty,pos,af,g⟩) (hn:Nat.blt d n=true)
 (k :∀en w',R en w'->∃b,en = .returned (.bool b)/\WR none P ops Q n D rest ((d, .bool b)::e) w') :
 WR none P ops Q n D (⟨some d, .call ⟨.value x,#[y],tys⟩,ty,pos,af,g⟩::rest) e w:=by
 intro a hsat;unfold wpListIn;rw[if_pos (hw a hsat)];refine⟨fun _ _=>trivial,?_⟩;rw[Oper.semAt_eq _ _ _ (fun c h=>by cases h)];obtain⟨fn,tmps,assign,body,hyr,hR⟩:=hY;have u:=hsat.fits _ _ hx;have E:=hsat.fits _ _ hy;have hrun:(execOp a.eval ⟨some d, .call ⟨.value x,#[y],tys⟩,ty,pos,af,g⟩).run P w = .ok (.round l fn tmps assign body) w:=by
  simp only[execOp,resolve,u,Deferred.ofValue,Sem.run_bind,Sem.run_pure,Result.andThen_ok,invoke,l0v,l0j,l0I,E,Array.empty_append,hyr]
 rw[hrun,Oper.uponIn_round];refine⟨fun h=>(by cases h),hR.mono ?_⟩;intro en w' hr;obtain⟨b,rfl,hk⟩:=k en w' hr;exact hk _ (hsat.put (l09 hn) _)
def asgPost (P:Program)(lid:Nat)(body:Code)(R:Ending->World->Prop):Exit->Act->World->Prop :=
 Exit.then (fun a₁ w₁ =>∃w₂,(Instr.beginRound lid).run P w₁ = .ok () w₂/\body.wpIn (Wd (some lid)) 0 P (roundPost P lid R) a₁ w₂) (fun _ _ _=>False)
theorem grownBy_putObj2 (w:World)(l:Nat)(o:Obj):w.grownBy (w.putObj l o) (some l):=⟨rfl,rfl,rfl,by simp,fun _ _ hk=>World.putObj_heap_other (fun e=>hk (by rw[e]))⟩
theorem StX.put {l:Nat}{o o':Obj}{L':List Item}(H:StX C w0 M0 M L w)(hu:Upd L (.blk l o) (.blk l o') L'):StX C w0 M0 M L' (w.putObj l o') :=
 H.upd hu (grownBy_putObj2 w l o') (World.putObj_heap_same (Array.getElem?_eq_some_iff.1 (H.blk hu.mem)).1) (fun _ h => .inl h)
theorem WQ.begin {lid:Nat}{rc:LoopState->Option Code->Loop}{body:Code}{R:Ending->World->Prop}{L':List Item}(hrc:LoopRec rc)(H:StX C w0 M0 M L w)(hu:Upd L (.blk lid (.loop (rc .ready none))) (.blk lid (.loop (rc .busy none))) L')
 (k :∀w',StX C w0 M0 M L' w'->WC (some lid) P (roundPost P lid R) n D body e w'):WQ (asgPost P lid body R) .normal n D e w:=fun a ha=>by
 have hb:=H.blk hu.mem;refine⟨_,run_beginRound hb (hrc.state _ _),k _ ?_ a ha⟩;rw[hrc.setS];exact H.put hu
def RR {α:Type}(Z Zx:List α->List Item->Mem->Prop)(L:List Item)(w:World)(M:Mem)(pre:List α)(en:Ending)(w':World):Prop :=
 ∃M' L',StX (feet L) w M M' L' w'/\((en = .returned (.bool true)/\Z pre L' M')∨(en = .returned (.bool false)/\Zx pre L' M'))
def Zr {α:Type}(lid:Nat)(rc:LoopState->Option Code->Loop)(Z:List α->List Item->Mem->Prop)(pre:List α)(L:List Item)(M:Mem):Prop :=∃L0,L = .blk lid (.loop (rc .ready none))::L0/\Z pre L0 M
def Zrx {α:Type}(lid:Nat)(rc:LoopState->Option Code->Loop)(Zx:Code->List α->List Item->Mem->Prop)(pre:List α)(L:List Item)(M:Mem):Prop :=∃L0 c,L = .blk lid (.loop (rc .done (some c)))::L0/\Zx c pre L0 M
variable {lid : Nat} {rc : LoopState → Option Code → Loop} {Z : List α → List Item → Mem → Prop} {Zx : Code → List α → List Item → Mem → Prop} {pre : List α} {w1 : World} {M1 : Mem} {Lh L0 : List Item}
abbrev mark (Dm:Nat):Deferred:={target := .collected Dm,args := #[]}
theorem WC.rangeFunc {Lall A:List Item}{f:FuncId}{cap:List Value}{Pre:Mem->Prop}{xs:List α}{gv:Operand}{p:Tmp}{assign body:Code}
 (H:StX C w0 M0 M Lall w) (hg:ev e gv=some (.func (.func f) #[] cap.toArray)) (hit:IterCt P f cap A Pre enc xs) (hs:Spl Lall (A++L) B) (hp:Pre M) (hpn:Nat.blt p n=true)
 (Z:List α->List Item->Mem->Prop) (Zx:Code->List α->List Item->Mem->Prop) (hZ :∀pre L M M',Z pre L M->M.le M'->Z pre L M') (hz:Z [] L M)
 (hbody :∀(lid:Nat) (rc:LoopState->Option Code->Loop),LoopRec rc->∀pre x L w M,(pre++[x]) <+: xs->Z pre L M->
  StX (feet (.blk lid (.loop (rc .ready none))::L)) w M M (.blk lid (.loop (rc .ready none))::L) w->
  WC (some lid) P (asgPost P lid body (RR (Zr lid rc Z) (Zrx lid rc Zx) (.blk lid (.loop (rc .ready none))::L) w M (pre++[x]))) n [] assign ((p,enc x)::e) w)
 (hdone :∀Dm w M' L',StX C w0 M0 M' (L'++(.blk Dm (.deferred (some []))::B)) w->M.le M'->Z xs L' M'->WQ Q .normal n (mark Dm::D) e w)
 (hstop :∀Dm w M' L' c pre,StX C w0 M0 M' (L'++(.blk Dm (.deferred (some []))::B)) w->M.le M'->pre <+: xs->Zx c pre L' M'->WC none P Q n (mark Dm::D) c e w) :
 WC none P Q n D (.rangeFunc gv #[p] assign body) e w:=by
 intro a ha;refine wpIn_rangeFunc (F:=Wd none) (n:=0) ?_;intro fn _;obtain⟨rc,hrcd⟩ :∃rc:LoopState->Option Code->Loop,rc=fun st pe=>{state:=st,pending:=pe,fn,tmps:=a.tmps,params := #[p],assign,body,defers:=w.heap.size}:=⟨_,rfl⟩
 have hrc:LoopRec rc:=by subst hrcd;exact ⟨fun _ _=>rfl,fun _ _=>rfl,fun _ _ _=>rfl,fun _ _ _ _=>rfl⟩
 have H1:StX C w0 M0 M (.blk w.heap.size (.deferred (some []))::Lall) (w.alloc (.deferred (some []))) :=
  H.new (grownBy_alloc' _ _) (World.alloc_heap_new w _) (fun b hb=>by cases hb;exact l07 _)
 have H2:StX C w0 M0 M (.blk (w.heap.size+1) (.loop (rc .ready none)) :: .blk w.heap.size (.deferred (some []))::Lall) ((w.alloc (.deferred (some []))).alloc (.loop (rc .ready none))) :=
  H1.new (grownBy_alloc' _ _) (by have:=World.alloc_heap_new (w.alloc (.deferred (some []))) (.loop (rc .ready none));rwa [World.size_alloc] at this) (fun b hb=>by cases hb;simp)
 obtain⟨W,hW⟩ :∃W,(w.alloc (.deferred (some []))).alloc (.loop (rc .ready none))=W:=⟨_,rfl⟩
 rw[hW] at H2;have hperm:(Item.blk (w.heap.size+1) (.loop (rc .ready none)) :: .blk w.heap.size (.deferred (some []))::Lall).Perm ((A++(.blk (w.heap.size+1) (.loop (rc .ready none))::L))++(.blk w.heap.size (.deferred (some []))::B)):=by
  have u:Lall.Perm (A++L++B):=hs.perm;have J:(A++(Item.blk (w.heap.size+1) (.loop (rc .ready none))::L)).Perm (.blk (w.heap.size+1) (.loop (rc .ready none))::(A++L)):=l2r;refine(((u.cons _).trans List.perm_middle.symm).cons _).trans ?_;exact(J.append_right _).symm
 have H3:=H2.perm hperm;refine⟨w.heap.size+1,[mark w.heap.size],W,{target := .fn (.func f) cap.toArray,args := #[yv (w.heap.size+1)]},W,f,(yv (w.heap.size+1)::cap).toArray,W,?_,?_,fun _ _=>trivial,?_,fun h=>(by cases h),?_⟩
 . rw[<-hW,hrcd];exact run_enterLoop_outer _ _ _ _ _
 . have u:=ha.fits _ _ hg;simp only[resolve,u,Deferred.ofValue,Sem.run_pure,l0v,l0j,l0I,Array.empty_append];rfl
 . simp only[invoke,l1y,l02,l03,hit.enters]
 refine callsIn_Wd.2 ((hit.calls (w.heap.size+1) (Zr (w.heap.size+1) rc Z) (Zrx (w.heap.size+1) rc Zx) (fun pre L M M' ⟨L0,u,J⟩ E=>⟨L0,u,hZ _ _ _ _ J E⟩) ?_ _ W M ⟨L,rfl,hz⟩ (H3.hand (q1B _ _)) hp).mono ?_)
 . rintro pre x L1 w1 M1 hpre ⟨L0,rfl,K⟩ Hs;have hl:=Hs.blk (List.Mem.head _);have hy:=run_yield (P:=P) (args := #[enc x]) hl (by rw[hrcd];rfl);refine⟨_,_,_,_,hy,roundIn_of_wpIn trivial ?_⟩;have hb:=hbody (w.heap.size+1) rc hrc pre x L0 w1 M1 hpre K Hs;have hsat:Sat n [] ((p,enc x)::e) {tmps:=(((rc .ready none).params.zip #[enc x]).foldl (fun tmps (t,a)=>tmps.setIfInBounds t a) (rc .ready none).tmps),defers:=[]}:=by
    have u:=Sat.put (D:=[]) (a:={tmps:=a.tmps,defers:=[]}) (e:=e) (n:=n) ⟨ha.size,rfl,ha.val⟩ (l09 hpn) (enc x);rw[hrcd];simpa [Act.put] using u
   have:=hb _ hsat;rw[hrcd] at this ⊢;exact this
 rintro en N ⟨rv,M',L',rfl,Hs,hcase⟩;have Hb:=H3.back (q1B _ _) Hs;have E:M.le M':=Hs.ext.le;have hd:Sat n (mark w.heap.size::D) e {a with defers:=[mark w.heap.size]++a.defers}:=⟨ha.size,by simp [ha.defers],ha.val⟩
 rcases hcase with ⟨L0,rfl,hz'⟩|⟨pre,hpre,L0,c,rfl,hz'⟩
 . have hl:=Hb.blk (List.Mem.head _);have hr:=run_endLoop (P:=P) hl (by rw[hrc.state];intro h;cases h);rw[hrc.setS,hrc.pending] at hr;have Hc:=(Hb.put (o' := .loop (rc .exhausted none)) .head).drop (l0N _ _);exact⟨none,_,hr,hdone _ _ M' L0 Hc E hz' _ hd⟩
 have hl:=Hb.blk (List.Mem.head _);have hr:=run_endLoop (P:=P) hl (by rw[hrc.state];intro h;cases h);rw[hrc.setS,hrc.pending] at hr;have Hc:=(Hb.put (o' := .loop (rc .exhausted (some c))) .head).drop (l0N _ _);exact⟨some c,_,hr,hstop _ _ M' L0 c pre Hc E hpre hz' _ hd⟩
theorem calls_of_WCM {f:FuncId}{fn:Func}{c:Code}{args:List Value}{R:Ending->World->Prop}
 (hf:P.funcs[f]? = some fn) (hb:fn.body=some c) (hnt:fn.ntmps=n) (hn:Nat.ble args.length n=true)
 (h:WC none P (bodyPostM (Wd none) 0 P fn R) n [] c (envOf 0 args) w):Calls P f args.toArray w R:=by
 refine callsIn_Wd.1 (callsIn_of_wp_marks (F:=Wd none) (n:=0) hf hb trivial ?_);subst hnt;exact h _ (Sat.init (l09 hn))
theorem Ct.ofM {f:FuncId}{fn:Func}{c:Code}{args:List Value}{Pre:Mem->Prop}{R:Value->Mem->Prop}
 (hf:P.funcs[f]? = some fn) (hen :∀ar w,(callFunc f ar).run P w = .ok (.enter f ar) w) (hb:fn.body=some c) (hnt:fn.ntmps=n) (hn:Nat.ble args.length n=true)
 (h :∀w M,St w M M [] w->Pre M->WC none P (bodyPostM (Wd none) 0 P fn (Ret w M R)) n [] c (envOf 0 args) w):Ct P f args Pre R :=
 ⟨hen,fun w M ha hp=>calls_of_WCM hf hb hnt hn (h w M (StX.start ha) hp)⟩
theorem leaves_nil {fn:Func}{tmps:Array Value}{R:Ending->World->Prop}{v:Value}(h:(results fn tmps).run P w = .ok v w)(hR:R (.returned v) w):LeavesInM (Wd none) 0 P fn tmps R [] .returning w:=by
 show LeavesIn _ _ _ _ _ _ _ _ _
 exact⟨_,h,hR⟩
theorem WQ.retM0 {fn:Func}{R:Ending->World->Prop}{v:Value}(hr :∀a,Sat n [] e a->(results fn a.tmps).run P w = .ok v w)(hR:R (.returned v) w):WQ (bodyPostM (Wd none) 0 P fn R) .ret n [] e w:=fun a ha=>by
 show LeavesInM _ _ _ _ _ _ _ _ _
 rw[ha.defers];exact leaves_nil (hr a ha) hR
theorem WQ.retM1 {fn:Func}{R:Ending->World->Prop}{Dm:Nat}{L':List Item}(H:StX C w0 M0 M L w)(hrm:Rem L (.blk Dm (.deferred (some []))) L')
 (k :∀w',StX C w0 M0 M L' w'->∃v,(∀a,Sat n [mark Dm] e a->(results fn a.tmps).run P w' = .ok v w')/\R (.returned v) w'):WQ (bodyPostM (Wd none) 0 P fn R) .ret n [mark Dm] e w:=fun a ha=>by
 show LeavesInM _ _ _ _ _ _ _ _ _
 rw[ha.defers];have hb:=H.blk hrm.mem;have hrun:=run_takeDeferred (P:=P) hb;have H':StX C w0 M0 M L' (w.putObj Dm (.deferred none)):=by
  have hit:=H.own _ hrm.mem;refine⟨H.ext.grown (grownBy_putObj2 w Dm _) (fun b hb=>hit.2 b hb),fun it hi=>?_,H.sep.sublist hrm.sublist⟩;have u:=H.own it (hrm.sublist.subset hi);refine⟨u.1.kept (fun b hb'=>World.putObj_heap_other (fun he=>?_)),u.2⟩;subst he;exact hrm.pairs (R:=Apart) (fun x y h=>h.symm) H.sep it hi b rfl hb'
 obtain⟨v,E,u⟩:=k _ H';exact⟨by simp, .inl ⟨Dm,_,rfl,hrun,leaves_nil (E a ha) u⟩⟩
theorem resv_run2 {fn:Func}{D:List Deferred}{x y:ResultVar}{u E:Value}(hr:fn.results = #[x,y])(J:resv P w e x u)(K:resv P w e y E):∀a,Sat n D e a->(results fn a.tmps).run P w = .ok (.tuple #[u,E]) w :=
 fun a ha=>by rw[results_eq,hr];exact run_res2 _ (resv_run ha J) (resv_run ha K)
theorem resv_run1 {fn:Func}{D:List Deferred}{x:ResultVar}{v:Value}(hr:fn.results = #[x])(u:resv P w e x v):∀a,Sat n D e a->(results fn a.tmps).run P w = .ok v w :=
 fun a ha=>by rw[results_eq,hr];exact run_res1 _ (resv_run ha u)
end
end Go.Ph
end
section
namespace Go.Ph
open Go Go.RowKit
theorem get_list (l:Ls)(i:Nat):((⟨l.toArray⟩:ByteArray).get! i).toNat=Utf.nat l i:=by
 unfold Utf.nat;show(l.toArray[i]!).toNat=_
 rw[List.getElem!_toArray,List.getElem!_eq_getElem?_getD,l0z];rfl
theorem decode_list (l:Ls)(i:Nat):Utf8.decode ⟨l.toArray⟩ i=Utf.dr (l.drop i):=by
 unfold Utf.dr;rw[Lib.decode_at,size_mk,get_list,get_list,get_list,get_list,l04,Utf.nat_drop,Utf.nat_drop,Utf.nat_drop,Utf.nat_drop];rfl
section
variable {C : Nat → Prop} {r : Option Nat} {P : Program} {ops : Array Oper} {Q : Exit → Act → World → Prop} {n : Nat} {D : List Deferred} {rest : List Oper} {e : Env} {w0 w : World} {M0 M : Mem} {L L' : List Item} {d : Nat} {v u : Value}
  {x y : Operand} {ty t t' : TypeId} {pos : String} {af : Array Edge} {g : Option (Nat × Bool)} {dst : Option Tmp} {l : List UInt8}
theorem WR.rangeStr (H:StX C w0 M0 M L w)(ht:P.underlying t=some .string)(hx:ev e x=some (S l))(hw:Wn ops n D e ⟨some d, .range t x,ty,pos,af,g⟩)(hn:Nat.blt d n=true)
 (k :∀b w',StX C w0 M0 M (.blk b (.stringIter ⟨l.toArray⟩ 0)::L) w'->WR r P ops Q n D rest ((d,ptr b 0)::e) w'):WR r P ops Q n D (⟨some d, .range t x,ty,pos,af,g⟩::rest) e w:=by
 refine q0w (v:=ptr w.heap.size 0) (w':=w.alloc (.stringIter ⟨l.toArray⟩ 0)) ⟨nofun,fun ρ hf=>?_⟩ hw rfl hn (k _ _ (H.new (grownBy_alloc' _ _) (World.alloc_heap_new w _) (fun b hb=>by cases hb;exact l07 _)));simp only[execOp,hf _ _ hx,Instr.range,Sem.run_bind,run_underlying ht,Result.andThen_ok,Sem.run_pure];rfl
theorem WR.nextT {b ps:Nat}(H:StX C w0 M0 M L w)(hps:ps<l.length)(hx:ev e x=some (ptr b 0))(hu:Upd L (.blk b (.stringIter ⟨l.toArray⟩ ps)) (.blk b (.stringIter ⟨l.toArray⟩ (ps+(Utf.dr (l.drop ps)).2))) L')
 (hw:Wn ops n D e ⟨some d, .next x true,ty,pos,af,g⟩) (hn:Nat.blt d n=true)
 (k :∀w',StX C w0 M0 M L' w'->WR r P ops Q n D rest ((d, .tuple #[.bool true,I (ps:Int), .int .i32 ((Utf.dr (l.drop ps)).1:Int)])::e) w'):WR r P ops Q n D (⟨some d, .next x true,ty,pos,af,g⟩::rest) e w:=by
 have hb:=H.blk hu.mem;have hlt:=(Array.getElem?_eq_some_iff.1 hb).1;have hget:w.heap[b]'hlt = .stringIter ⟨l.toArray⟩ ps:=(Array.getElem?_eq_some_iff.1 hb).2;refine q0w (w':=w.putObj b (.stringIter ⟨l.toArray⟩ (ps+(Utf.dr (l.drop ps)).2))) ⟨nofun,fun ρ hf=>?_⟩ hw rfl hn (k _ (H.put hu));have hsz:ps<ByteArray.size ⟨l.toArray⟩:=by rw[size_mk];exact hps
 simp only[execOp,hf _ _ hx,Instr.next,Sem.run_bind,getObj,Sem.run,hb,Result.andThen_ok];simp [hsz,decode_list,setObj,hlt,hget,goInt,World.putObj,Sem.run]
theorem WR.nextF {b ps:Nat}(H:StX C w0 M0 M L w)(hps:l.length<=ps)(hx:ev e x=some (ptr b 0))(hm:Item.blk b (.stringIter ⟨l.toArray⟩ ps)∈L)
 (hw:Wn ops n D e ⟨some d, .next x true,ty,pos,af,g⟩) (hn:Nat.blt d n=true)
 (k:WR r P ops Q n D rest ((d, .tuple #[.bool false])::e) w):WR r P ops Q n D (⟨some d, .next x true,ty,pos,af,g⟩::rest) e w:=by
 have hb:=H.blk hm;refine q0w (w':=w) ⟨nofun,fun ρ hf=>?_⟩ hw rfl hn k;have hsz :¬ps<ByteArray.size ⟨l.toArray⟩:=by rw[size_mk];omega
 simp only[execOp,hf _ _ hx,Instr.next,Sem.run_bind,getObj,Sem.run,hb,Result.andThen_ok];simp [hsz]
end
end Go.Ph
end
section
namespace Go.Ph.Gr
open Go Go.Ph.Utf
def cls (n:Int):Int :=
 if n=13 then 1 else if n=10 then 2
 else if (0<=n/\n<=31)∨(127<=n/\n<=159) then 3
 else if (768<=n/\n<=879)∨(6832<=n/\n<=6911)∨(7616<=n/\n<=7679)∨(8400<=n/\n<=8447)∨(65024<=n/\n<=65039)∨(65056<=n/\n<=65071)∨(127995<=n/\n<=127999) then 4
 else if n=8205 then 5
 else if 127462<=n/\n<=127487 then 6
 else if 4352<=n/\n<=4447 then 7
 else if 4448<=n/\n<=4519 then 8
 else if 4520<=n/\n<=4607 then 9 else 0
def wid (n:Int):Bool:=decide ((4352<=n/\n<=4447)∨(11904<=n/\n<=42191)∨(44032<=n/\n<=55203)∨(63744<=n/\n<=64255)∨(65072<=n/\n<=65135)∨(65280<=n/\n<=65376)∨(65504<=n/\n<=65510)∨(127744<=n/\n<=129791)∨(131072<=n/\n<=262141))
def contC (a b fl:Int):Bool :=
 if a=1/\b=2 then true
 else if (1<=a/\a<=3)∨(1<=b/\b<=3) then false
 else if b=4∨b=5 then true
 else if a=5 then decide (b=0)
 else if b=6 then decide (fl % 2=1)
 else decide ((a=7/\(b=7∨b=8))∨(a=8/\(b=8∨b=9))∨(a=9/\b=9))
def con (a b:Int)(fl:Nat):Bool:=if a<0∨b<0 then false else contC (cls a) (cls b) (fl:Int)
def flN (n:Int)(fl:Nat):Nat:=if 0<=n/\cls n=6 then fl+1 else 0
abbrev Ch := Int × Ls
def charsF : Nat->Ls->List Ch
 | 0,_=>[]
 | f+1,l=>if l=[] then [] else((rune l).1,l.take (rune l).2)::charsF f (l.drop (rune l).2)
def chars (l:Ls):List Ch:=charsF l.length l
theorem charsF_more (f:Nat):∀(g:Nat) (l:Ls),l.length<=f->l.length<=g->charsF f l=charsF g l:=by
 induction f with
 | zero =>
   intro g l hf _;obtain rfl:=l08 (Nat.le_zero.1 hf);cases g <;> simp [charsF]
 | succ f ih =>
   intro g l hf hg;by_cases hl:l=[]
   . subst hl;cases g <;> simp [charsF]
   obtain⟨E,_,u⟩:=rune_size l;have J:=u hl;cases g with
   | zero=>exact absurd (l08 (Nat.le_zero.1 hg)) hl
   | succ g =>
     simp only[charsF,if_neg hl];rw[ih g _ (by rw[l04];omega) (by rw[l04];omega)]
theorem chars_nil : chars []=[]:=rfl
theorem chars_cons {l:Ls}(hl:l≠ []):chars l=((rune l).1,l.take (rune l).2)::chars (l.drop (rune l).2):=by
 obtain⟨E,_,u⟩:=rune_size l;have J:=u hl;unfold chars;cases hn:l.length with
 | zero=>exact absurd (l08 hn) hl
 | succ n =>
   rw[charsF,if_neg hl,charsF_more n _ _ (by rw[l04];omega) (l07 _)]
theorem chars_flat (l:Ls):((chars l).map (·.2)).flatten=l:=by
 have key :∀(n:Nat) (l:Ls),l.length<=n->((chars l).map (·.2)).flatten=l:=by
  intro n;induction n with
  | zero=>intro l h;obtain rfl:=l08 (Nat.le_zero.1 h);rfl
  | succ n ih =>
    intro l h;by_cases hl:l=[]
    . subst hl;rfl
    obtain⟨E,_,u⟩:=rune_size l;have J:=u hl;rw[chars_cons hl,l0j,l0L,ih _ (by rw[l04];omega),l0E]
 exact key _ l (l07 _)
def seg (cur:List Ch)(prev:Int)(fl:Nat):List Ch->List (List Ch)
 | []=>[cur]
 | c::r=>if con prev c.1 fl then seg (cur++[c]) c.1 (flN c.1 fl) r else cur::seg [c] c.1 (flN c.1 0) r
def segs : List Ch->List (List Ch)
 | []=>[]
 | c::r=>seg [c] c.1 (flN c.1 0) r
def byts (g:List Ch):Ls:=(g.map (·.2)).flatten
def pieces (l:Ls):List Ls:=(segs (chars l)).map byts
theorem drop_ne {t:Ls}{n:Nat}(hn:n<t.length):t.drop n≠ []:=fun h=>by
 have:=List.drop_eq_nil_iff.1 h;omega
def anyW (l:Ls):Bool:=(chars l).any fun c=>wid c.1
def col (p:Ls):Int:=if 1<=cls (rune p).1/\cls (rune p).1<=5 then 0 else if cls (rune p).1=6 then 2 else if anyW p then 2 else 1
theorem chars_ne (l:Ls):∀c∈chars l,c.2≠ []:=by
 have key :∀(n:Nat) (l:Ls),l.length<=n->∀c∈chars l,c.2≠ []:=by
  intro n;induction n with
  | zero=>intro l h c hc;obtain rfl:=l08 (Nat.le_zero.1 h);cases hc
  | succ n ih =>
    intro l h c hc;by_cases hl:l=[]
    . subst hl;cases hc
    obtain⟨E,_,u⟩:=rune_size l;have J:=u hl;rw[chars_cons hl] at hc;rcases List.mem_cons.1 hc with rfl|hc
    . intro e;have:=congrArg List.length e;rw[l0c,l0a] at this;omega
    exact ih _ (by rw[l04];omega) c hc
 exact key _ l (l07 _)
theorem seg_flat (cs:List Ch):∀(cur:List Ch) (prev:Int) (fl:Nat),(seg cur prev fl cs).flatten=cur++cs:=by
 induction cs with
 | nil=>intro cur prev fl;simp [seg]
 | cons c cs ih =>
   intro cur prev fl;rw[seg];split
   . rw[ih];simp
   rw[l0L,ih];simp
theorem segs_flat (cs:List Ch):(segs cs).flatten=cs:=by
 cases cs with
 | nil=>rfl
 | cons c cs=>rw[segs,seg_flat];rfl
theorem seg_ne (cs:List Ch):∀(cur:List Ch) (prev:Int) (fl:Nat),cur≠ []->∀g∈seg cur prev fl cs,g≠ []:=by
 induction cs with
 | nil=>intro cur prev fl h g hg;simp [seg] at hg;rw [hg];exact h
 | cons c cs ih =>
   intro cur prev fl h g hg;rw[seg] at hg;split at hg
   . exact ih _ _ _ Sm g hg
   rcases List.mem_cons.1 hg with rfl|hg
   . exact h
   exact ih _ _ _ Sm g hg
theorem segs_ne (cs:List Ch):∀g∈segs cs,g≠ []:=by
 cases cs with
 | nil=>intro g hg;cases hg
 | cons c cs=>exact seg_ne cs _ _ _ Sm
theorem pieces_flat (l:Ls):(pieces l).flatten=l:=by
 have u :∀gs:List (List Ch),(gs.map byts).flatten=byts gs.flatten:=by
  intro gs;induction gs with
  | nil=>rfl
  | cons g gs ih=>rw[l0j,l0L,ih,l0L];simp [byts]
 unfold pieces;rw[u,segs_flat];exact chars_flat l
theorem pieces_ne (l:Ls):∀p∈pieces l,p≠ []:=by
 intro p hp;obtain⟨g,hg,rfl⟩:=List.mem_map.1 hp;have u:=segs_ne _ g hg;cases g with
 | nil=>exact absurd rfl u
 | cons c g =>
   have hc:c∈chars l:=by rw[<-segs_flat (chars l)];exact List.mem_flatten.2 ⟨_,hg,l0q⟩
   have E:=chars_ne l c hc;intro e;simp [byts] at e;exact E e.1
theorem flat_le (ps:List Ls)(h :∀p∈ps,p≠ []):ps.length<=ps.flatten.length:=by
 induction ps with
 | nil=>simp
 | cons p ps ih =>
   have u:=List.length_pos_iff.2 (h p l0q);have E:=ih (fun q hq=>h q (l0u _ hq));simp only[l01,l0L,l05];omega
theorem pieces_len (l:Ls):(pieces l).length<=l.length:=by
 have:=flat_le (pieces l) (pieces_ne l);rwa [pieces_flat] at this
end Go.Ph.Gr
end
section
namespace Go.Ph.Gr
open Go Go.Ph.Utf
end Go.Ph.Gr
end
section
namespace Go.Ph.Chs
open Go Go.Ph.Utf Go.Ph.Gr
def lowB (c:UInt8):UInt8:=if 65<=c.toNat/\c.toNat<=90 then c+32 else c
def lower (l:Ls):Ls:=l.map lowB
theorem lower_len (l:Ls):(lower l).length=l.length:=l0l _
theorem ub_eq {a:Int}{n:Nat}(h:a=(n:Int)):ub a=UInt8.ofNat n:=by
 subst h;apply UInt8.toNat_inj.1;have u:=ub_toNat (n:Int);rw[UInt8.toNat_ofNat'];omega
theorem ub_nat {a:Int}(u:0<=a)(E:a<256):((ub a).toNat:Int)=a:=by
 rw[ub_toNat];omega
theorem ub_byte (c:UInt8):ub (c.toNat:Int)=c:=by
 apply UInt8.toNat_inj.1;have u:=ub_toNat (c.toNat:Int);have E:=c.toNat_lt;omega
def fixN (n:Int):Int:=if (0<=n/\n<=1114111)/\¬(55296<=n/\n<=57343) then n else 65533
def utf8M (m:Int):Ls :=
 if m<128 then [ub m]
 else if m<2048 then [ub (192+m / 64),ub (128+m % 64)]
 else if m<65536 then [ub (224+m / 4096),ub (128+m / 64 % 64),ub (128+m % 64)]
 else [ub (240+m / 262144),ub (128+m / 4096 % 64),ub (128+m / 64 % 64),ub (128+m % 64)]
def utf8 (n:Int):Ls:=utf8M (fixN n)
theorem fixN_ok (n:Int):0<=fixN n/\fixN n<=1114111/\¬(55296<=fixN n/\fixN n<=57343):=by
 unfold fixN;split <;> omega
theorem fixN_id {n:Int}(u:0<=n)(E:n<=1114111)(J :¬(55296<=n/\n<=57343)):fixN n=n:=by
 unfold fixN;rw [if_pos ⟨⟨u,E⟩,J⟩]
theorem fixN_bad {n:Int}(h:n<0∨1114111<n∨(55296<=n/\n<=57343)):fixN n=65533:=by
 unfold fixN;rw [if_neg Om]
theorem valid_iff (n:Int):Utf8.valid n=true↔((0<=n/\n<=1114111)/\¬(55296<=n/\n<=57343)):=by
 unfold Utf8.valid;simp only[l1T,l0d,decide_eq_true_eq];omega
theorem encode_utf8 (n:Int):Utf8.encode n=⟨(utf8 n).toArray⟩:=by
 obtain⟨m,hm,hmb⟩ :∃m:Nat,fixN n=(m:Int)/\(if Utf8.valid n then n.toNat else Utf8.runeError)=m:=by
  by_cases h:(0<=n/\n<=1114111)/\¬(55296<=n/\n<=57343)
  . exact⟨n.toNat,by rw[fixN_id h.1.1 h.1.2 h.2];omega,by rw[if_pos ((valid_iff n).2 h)]⟩
  exact⟨65533,by rw[fixN_bad Om];rfl,by rw[if_neg (fun h'=>h ((valid_iff n).1 h'))];rfl⟩
 unfold Utf8.encode utf8 utf8M;simp only[hmb,hm];by_cases E:m<128
 . have u:(m:Int)<128:=by omega
   simp only[if_pos E,if_pos u,ub_eq (a:=(m:Int)) (n:=m) rfl]
 have u :¬(m:Int)<128:=by omega
 by_cases K:m<2048
 . have J:(m:Int)<2048:=by omega
   simp only[if_neg E,if_neg u,if_pos K,if_pos J,ub_eq (a:=192+(m:Int) / 64) (n:=192+m / 64) Om,ub_eq (a:=128+(m:Int) % 64) (n:=128+m % 64) Om]
 have J :¬(m:Int)<2048:=by omega
 by_cases O:m<65536
 . have N:(m:Int)<65536:=by omega
   simp only[if_neg E,if_neg u,if_neg K,if_neg J,if_pos O,if_pos N,ub_eq (a:=224+(m:Int) / 4096) (n:=224+m / 4096) Om,ub_eq (a:=128+(m:Int) / 64 % 64) (n:=128+m / 64 % 64) Om,ub_eq (a:=128+(m:Int) % 64) (n:=128+m % 64) Om]
 have N :¬(m:Int)<65536:=by omega
 simp only[if_neg E,if_neg u,if_neg K,if_neg J,if_neg O,if_neg N,ub_eq (a:=240+(m:Int) / 262144) (n:=240+m / 262144) Om,ub_eq (a:=128+(m:Int) / 4096 % 64) (n:=128+m / 4096 % 64) Om,ub_eq (a:=128+(m:Int) / 64 % 64) (n:=128+m / 64 % 64) Om,ub_eq (a:=128+(m:Int) % 64) (n:=128+m % 64) Om]
theorem nat_head (c:UInt8)(l:Ls):nat (c::l) 0=c.toNat:=by
 unfold nat;simp [l0z]
theorem list_at {l:Ls}{i:Nat}(h:i<l.length):l[i]? = some (ub (nat l i:Int)):=by
 rw[List.getElem?_eq_getElem h];unfold nat;rw[l0z,List.getElem?_eq_getElem h,l1s,ub_byte]
theorem take_utf8_1 {l:Ls}(h:1<=l.length):l.take 1=[ub (nat l 0:Int)]:=by
 apply l1k;intro i;rcases i with _|i
 . rw[List.getElem?_take,if_pos Om,list_at h];rfl
 rw[List.getElem?_take,if_neg Om];rfl
theorem take_utf8_2 {l:Ls}(h:2<=l.length):l.take 2=[ub (nat l 0:Int),ub (nat l 1:Int)]:=by
 apply l1k;intro i;rcases i with _|_|i
 . rw[List.getElem?_take,if_pos Om,list_at Om];rfl
 . rw[List.getElem?_take,if_pos Om,list_at Om];rfl
 rw[List.getElem?_take,if_neg Om];rfl
theorem take_utf8_3 {l:Ls}(h:3<=l.length):l.take 3=[ub (nat l 0:Int),ub (nat l 1:Int),ub (nat l 2:Int)]:=by
 apply l1k;intro i;rcases i with _|_|_|i
 . rw[List.getElem?_take,if_pos Om,list_at Om];rfl
 . rw[List.getElem?_take,if_pos Om,list_at Om];rfl
 . rw[List.getElem?_take,if_pos Om,list_at Om];rfl
 rw[List.getElem?_take,if_neg Om];rfl
theorem take_utf8_4 {l:Ls}(h:4<=l.length):l.take 4=[ub (nat l 0:Int),ub (nat l 1:Int),ub (nat l 2:Int),ub (nat l 3:Int)]:=by
 apply l1k;intro i;rcases i with _|_|_|_|i
 . rw[List.getElem?_take,if_pos Om,list_at Om];rfl
 . rw[List.getElem?_take,if_pos Om,list_at Om];rfl
 . rw[List.getElem?_take,if_pos Om,list_at Om];rfl
 . rw[List.getElem?_take,if_pos Om,list_at Om];rfl
 rw[List.getElem?_take,if_neg Om];rfl
theorem rune_valid (l:Ls)(h:0<=(rune l).1):(rune l).1<=1114111/\¬(55296<=(rune l).1/\(rune l).1<=57343):=by
 refine⟨(rune_lt l).2,?_⟩;have u:=nat_lt l 0;revert h;unfold rune;repeat' split
 all_goals intro h
 all_goals simp only[] at h ⊢
 all_goals first|omega|(rename_i hb;unfold badN at hb;omega)
theorem Y6z (l:Ls)(hl:l≠ [])(h:0<=(rune l).1):utf8 (rune l).1=l.take (rune l).2:=by
 obtain⟨u,E⟩:=rune_valid l h;unfold utf8;rw[fixN_id h u E];have hlen:1<=l.length:=List.length_pos_iff.2 hl;have Z:=nat_lt l 0;have n1:=nat_lt l 1;have n2:=nat_lt l 2;have n3:=nat_lt l 3;rw[rune_eq] at h u E ⊢;unfold runeN at h u E ⊢;by_cases ha:nat l 0<128
 . rw[if_pos ha];simp only[];rw[take_utf8_1 hlen];unfold utf8M;rw[if_pos Om]
 rw[if_neg ha] at h u E ⊢;by_cases O:192<=nat l 0/\nat l 0<=223
 . rw[if_pos O] at h u E ⊢;split at h
   . rename_i hc;rw[if_pos hc] at u E ⊢;obtain⟨hm,J⟩:=hc;unfold okC at J;rcases chk_cases (64*(nat l 0-192)+nat l 1-128) 128 2 with e|⟨e,hb⟩
     . rw[e] at h;simp only[] at h;omega
     rw[e];simp only[];unfold badN at hb;rw[take_utf8_2 hm];generalize hN:64*(nat l 0-192)+nat l 1-128=N at hb;unfold utf8M;rw[if_neg Om,if_pos Om,show 192+(N:Int) / 64=(nat l 0:Int) by omega,show 128+(N:Int) % 64=(nat l 1:Int) by omega]
   simp only[] at h;omega
 rw[if_neg O] at h u E ⊢;by_cases U:224<=nat l 0/\nat l 0<=239
 . rw[if_pos U] at h u E ⊢;split at h
   . rename_i hc;rw[if_pos hc] at u E ⊢;obtain⟨hm,J,K⟩:=hc;unfold okC at J K;rcases chk_cases (64*(64*(nat l 0-224)+nat l 1-128)+nat l 2-128) 2048 3 with e|⟨e,hb⟩
     . rw[e] at h;simp only[] at h;omega
     rw[e];simp only[];unfold badN at hb;rw[take_utf8_3 hm];generalize hN:64*(64*(nat l 0-224)+nat l 1-128)+nat l 2-128=N at hb;unfold utf8M;rw[if_neg Om,if_neg Om,if_pos Om,show 224+(N:Int) / 4096=(nat l 0:Int) by omega,show 128+(N:Int) / 64 % 64=(nat l 1:Int) by omega,show 128+(N:Int) % 64=(nat l 2:Int) by omega]
   simp only[] at h;omega
 rw[if_neg U] at h u E ⊢;by_cases V:240<=nat l 0/\nat l 0<=247
 . rw[if_pos V] at h u E ⊢;split at h
   . rename_i hc;rw[if_pos hc] at u E ⊢;obtain⟨hm,J,K,Y⟩:=hc;unfold okC at J K Y;rcases chk_cases (64*(64*(64*(nat l 0-240)+nat l 1-128)+nat l 2-128)+nat l 3-128) 65536 4 with e|⟨e,hb⟩
     . rw[e] at h;simp only[] at h;omega
     rw[e];simp only[];unfold badN at hb;rw[take_utf8_4 hm];generalize hN:64*(64*(64*(nat l 0-240)+nat l 1-128)+nat l 2-128)+nat l 3-128=N at hb;unfold utf8M;rw[if_neg Om,if_neg Om,if_neg Om,show 240+(N:Int) / 262144=(nat l 0:Int) by omega,show 128+(N:Int) / 4096 % 64=(nat l 1:Int) by omega,show 128+(N:Int) / 64 % 64=(nat l 2:Int) by omega,show 128+(N:Int) % 64=(nat l 3:Int) by omega]
   simp only[] at h;omega
 rw[if_neg V] at h;simp only[] at h;omega
def vld (l:Ls):Bool:=(chars l).all fun c=>decide (0<=c.1)
theorem vld_cons {l:Ls}(hl:l≠ []):vld l=(decide (0<=(rune l).1)&&vld (l.drop (rune l).2)):=by
 unfold vld;rw [chars_cons hl,l0b]
theorem vld_ascii {l:Ls}(hl:l≠ [])(h:nat l 0<128):vld l=vld (l.drop 1):=by
 rw[vld_cons hl,rune_ascii h];simp
theorem vld_asciis :∀(k:Nat) (l:Ls),k<=l.length->(∀i,i<k->nat l i<128)->vld l=vld (l.drop k):=by
 intro k;induction k with
 | zero=>intro l _ _;rfl
 | succ k ih =>
   intro l hk h;have hl:l≠ []:=by rintro rfl;simp at hk
   rw[vld_ascii hl (h 0 Om),ih (l.drop 1) (by rw[l04];omega) (fun i hi=>by rw[nat_drop,l1W];exact h (i+1) Om),l0G,l1W]
def encS (bound:Int)(c:Int):Option Ls:=if c<bound then some [ub c] else none
def hiS (c:Int):Int:=55296+(c-65536) / 1024
def pre (o:Ls):Except Nat Ls->Except Nat Ls
 | .error e => .error e
 | .ok bs => .ok (o++bs)
def okN (n:Int):Prop:=(0<=n/\n<=1114111)/\¬(55296<=n/\n<=57343)
def w8 (l:Ls):Nat:=nat l 0 ||| nat l 1 <<< 8 ||| nat l 2 <<< 16 ||| nat l 3 <<< 24 ||| nat l 4 <<< 32 ||| nat l 5 <<< 40 ||| nat l 6 <<< 48 ||| nat l 7 <<< 56
theorem bit7 {b:Nat}(hb:b<256)(h:b.testBit 7=false):b<128:=by
 rcases l0K b 128 with u|u
 . exact u
 have:b / 2 ^ 7 % 2=1:=by omega
 rw[Nat.testBit_eq_decide_div_mod_eq,this] at h;simp at h
theorem w8_small {l:Ls}{x:Nat}(h:(w8 l ||| x) &&& 9259542123273814144=0):∀i,i<8->nat l i<128:=by
 have key :∀j,(9259542123273814144:Nat).testBit j=true->(w8 l).testBit j=false:=by
  intro j hj;have:=congrArg (fun z=>Nat.testBit z j) h;simp only[Nat.testBit_and,Nat.testBit_or,hj,Bool.and_true,Nat.zero_testBit,Bool.or_eq_false_iff] at this;exact this.1
 have u:=key 7 Dc;have E:=key 15 Dc;have J:=key 23 Dc;have K:=key 31 Dc;have N:=key 39 Dc;have O:=key 47 Dc;have U:=key 55 Dc;have V:=key 63 Dc;unfold w8 at u E J K N O U V;simp only[Nat.testBit_or,Nat.testBit_shiftLeft,Bool.or_eq_false_iff,Bool.and_eq_false_iff,decide_eq_false_iff_not] at u E J K N O U V;intro i hi;refine bit7 (nat_lt l i) ?_;rcases i with _|_|_|_|_|_|_|_|i
 . exact u.1.1.1.1.1.1.1
 . exact E.1.1.1.1.1.1.2.resolve_left Om
 . exact J.1.1.1.1.1.2.resolve_left Om
 . exact K.1.1.1.1.2.resolve_left Om
 . exact N.1.1.1.2.resolve_left Om
 . exact O.1.1.2.resolve_left Om
 . exact U.1.2.resolve_left Om
 . exact V.2.resolve_left Om
 omega
theorem w8_lt (l:Ls):w8 l<2 ^ 64:=by
 have hb :∀i k,k<=56->nat l i <<< k<2 ^ 64:=by
  intro i k hk;rw[Nat.shiftLeft_eq];have E:=nat_lt l i;have u:2 ^ k<=2 ^ 56:=l1e Dc hk;exact Nat.lt_of_le_of_lt (l2C (show nat l i<=255 by omega) u) Dc
 unfold w8;have J:=nat_lt l 0;exact l0p (l0p (l0p (l0p (l0p (l0p (l0p Om (hb 1 8 Dc)) (hb 2 16 Dc)) (hb 3 24 Dc)) (hb 4 32 Dc)) (hb 5 40 Dc)) (hb 6 48 Dc)) (hb 7 56 Dc)
end Go.Ph.Chs
end
section
namespace Go.Ph
open Go Go.RowKit
abbrev SRow (g cap:Nat)(t:TypeId)(l:Ls):Item := .blk g (.cells (l.map encB++List.replicate (cap-l.length) (encB 0)).toArray t (cap,cap+1))
abbrev sv (g cap:Nat)(l:Ls):Value := .slice (some ⟨g,0,none⟩) l.length cap
theorem srow_at {l:Ls}{cap i:Nat}{c:UInt8}(hi:l[i]? = some c):(l.map encB++List.replicate (cap-l.length) (encB 0)).toArray[i]? = some (encB c):=by
 have hlt:=(List.getElem?_eq_some_iff.1 hi).1;rw[List.getElem?_toArray,List.getElem?_append_left (by simpa using hlt),List.getElem?_map,hi];rfl
section
variable {C : Nat → Prop} {r : Option Nat} {P : Program} {ops : Array Oper} {Q : Exit → Act → World → Prop} {n : Nat} {D : List Deferred} {rest : List Oper} {e : Env} {w0 w : World} {M0 M : Mem} {L L' : List Item} {d : Nat} {v u z : Value}
  {x y : Operand} {ty t t' te ts tt : TypeId} {pos : String} {af : Array Edge} {g : Option (Nat × Bool)} {dst : Option Tmp} {l : List UInt8}
theorem grownBy_bytes (w:World)(te:TypeId)(s:ByteArray):w.grownBy (Lib.bytesWorld w te s) none :=
 ⟨by simp [Lib.bytesWorld,World.freeze];rfl,by simp [Lib.bytesWorld,World.freeze],by simp [Lib.bytesWorld,World.freeze];rfl,by rw[Lib.bytesWorld_size];omega,fun k hk _=>Lib.bytesWorld_at_old w te s k hk⟩
theorem bytesCells_list (w:World)(te:TypeId)(l:Ls)(hc:l.length<=grownCap w l.length 0 te):Lib.bytesCells w te ⟨l.toArray⟩=(l.map encB++List.replicate (grownCap w l.length 0 te-l.length) (encB 0)).toArray/\(Lib.bytesCells w te ⟨l.toArray⟩).size=grownCap w l.length 0 te:=by
 have E:Lib.bytesCells w te ⟨l.toArray⟩=(l.map encB++List.replicate (grownCap w l.length 0 te-l.length) (encB 0)).toArray:=by
  unfold Lib.bytesCells;rw[size_mk];apply Array.ext';simp
 refine⟨E,?_⟩;rw[E];simp;omega
theorem WR.toBytes {E:TypeDesc}(H:StX C w0 M0 M L w)(hs:P.underlying t=some E)(hd:P.underlying t'=some (.slice te))(he:P.underlying te=some (.int .u8))(hx:ev e x=some (S l))(hl:l.length<=maxLen)
 (hw:Wn ops n D e ⟨some d, .convert t t' x,ty,pos,af,g⟩) (hn:Nat.blt d n=true)
 (k :∀gb cap w',l.length<=cap->cap<=maxLen->StX C w0 M0 M (SRow gb cap te l::L) w'->WR r P ops Q n D rest ((d,sv gb cap l)::e) w'):WR r P ops Q n D (⟨some d, .convert t t' x,ty,pos,af,g⟩::rest) e w:=by
 have hc:=grownCap_ge w l.length 0 te;have hm:=grownCap_le_maxLen w l.length 0 te hl;obtain⟨J,K⟩:=bytesCells_list w te l hc;have hnew:=Lib.bytesWorld_at_new w te ⟨l.toArray⟩;rw[K,J] at hnew;refine q0w (w':=Lib.bytesWorld w te ⟨l.toArray⟩) (v:=sv w.heap.size (grownCap w l.length 0 te) l) ⟨nofun,fun ρ hf=>?_⟩ hw rfl hn (k _ _ _ hc hm (H.new (grownBy_bytes w te _) hnew (fun b hb=>by cases hb;exact l07 _)));have hr:=Lib.run_convert_string_bytes (P:=P) w t t' te ⟨l.toArray⟩ hs hd he;rw[size_mk] at hr;simp only[execOp,hf _ _ hx,Sem.run_bind,hr,Result.andThen_ok,Sem.run_pure]
theorem StX.freezeS {gb cap:Nat}(H:StX C w0 M0 M L w)(hr:Rem L (SRow gb cap t l) L')(hb:w0.heap.size<=gb)(E:l.length<=cap)(J:cap<=maxLen):∃M',M.le M'/\Bs M' (sv gb cap l) l/\StX C w0 M0 M' L' w:=by
 obtain⟨K,N⟩:=H.freeze hr rfl (H.blk hr.mem) hb;exact⟨_,K,⟨_,cap,rfl,E,⟨J,fun h=>by cases h⟩,fun _=>⟨gb,0,_,t,_,rfl,by simp only[Mem.set,if_true];rfl,fun i x hi=>by rw[l0r];exact srow_at hi⟩⟩,N⟩
theorem WR.bytesOf {J:TypeDesc}(H:StX C w0 M0 M L w)(hs:P.underlying t=some J)(hd:P.underlying t'=some (.slice te))(he:P.underlying te=some (.int .u8))(hx:ev e x=some (S l))(hl:l.length<=maxLen)
 (hw:Wn ops n D e ⟨some d, .convert t t' x,ty,pos,af,g⟩) (hn:Nat.blt d n=true)
 (k :∀v M' w',StX C w0 M0 M' L w'->M.le M'->Bs M' v l->WR r P ops Q n D rest ((d,v)::e) w'):WR r P ops Q n D (⟨some d, .convert t t' x,ty,pos,af,g⟩::rest) e w:=by
 have hc:=grownCap_ge w l.length 0 te;have hm:=grownCap_le_maxLen w l.length 0 te hl;obtain⟨K,N⟩:=bytesCells_list w te l hc;have hnew:=Lib.bytesWorld_at_new w te ⟨l.toArray⟩;rw[N,K] at hnew;have H1:StX C w0 M0 M (SRow w.heap.size (grownCap w l.length 0 te) te l::L) (Lib.bytesWorld w te ⟨l.toArray⟩):=H.new (grownBy_bytes w te _) hnew (fun b hb=>by cases hb;exact l07 _);obtain⟨M',E,hB,H2⟩:=H1.freezeS .head H.base hc hm;refine q0w (w':=Lib.bytesWorld w te ⟨l.toArray⟩) (v:=sv w.heap.size (grownCap w l.length 0 te) l) ⟨nofun,fun ρ hf=>?_⟩ hw rfl hn (k _ _ _ H2 E hB);have hr:=Lib.run_convert_string_bytes (P:=P) w t t' te ⟨l.toArray⟩ hs hd he;rw[size_mk] at hr;simp only[execOp,hf _ _ hx,Sem.run_bind,hr,Result.andThen_ok,Sem.run_pure]
theorem Ex.idxS {gb cap i nn:Nat}{k':IntKind}(ht:P.underlying t=some (.slice te))(hz :∀w,(sizeOf te).run P w = .ok 1 w)(hx:ev e x=some (.slice (some ⟨gb,0,none⟩) nn cap))(hy:ev e y=some (.int k' (i:Int)))(hi:i<nn):Ex P ⟨dst, .indexAddr t x y,ty,pos,af,g⟩ e w (ptr gb i) w :=
 ⟨nofun,fun ρ hfi=>by
  have E:(0:Int)<=(i:Int)/\(i:Int)<(nn:Int):=by omega
  simp only[execOp,hfi _ _ hx,hfi _ _ hy,Instr.indexAt,Sem.run_bind,asIntOf,run_underlying ht,Result.andThen_ok,Sem.run_pure,hz,E,and_self,if_true,Addr.add_lit,l0h,l0O,l0r]⟩
theorem Ex.loadS {gb cap i:Nat}{c:UInt8}(H:StX C w0 M0 M L w)(hx:ev e x=some (ptr gb i))(hm:SRow gb cap t l∈L)(hi:l[i]? = some c)(ha :∀w,(isAgg tt).run P w = .ok false w):Ex P ⟨dst, .load tt x,ty,pos,af,g⟩ e w (encB c) w:=Ex.loadK hx (by
 have hc:w.cell? ⟨gb,i,none⟩=some (encB c):=by rw[cell_of_row w gb i _ t _ (H.blk hm)];exact srow_at hi
 simp only[loadVar,Sem.run_bind,ha,Result.andThen_ok,l0m,if_false];simp [load,Sem.run,hc])
theorem run_storeOne {gb o:Nat}{cur:Array Value}{fz:Nat × Nat}(hg:w.heap[gb]? = some (.cells cur t fz))(ho:o<cur.size)(hfz:o<fz.1)(hs :∀w,(sizeOf tt).run P w = .ok 1 w)(hv:v.oneCell'=true)(hv':v.cells = #[v]):(storeVar tt ⟨gb,o,none⟩ v).run P w = .ok () (w.setRow gb (cur.setIfInBounds o v)):=by
 have hcell:w.cell? ⟨gb,o,none⟩=some cur[o]:=by simp [World.cell?,hg,ho]
 have hfro:w.frozen? ⟨gb,o,none⟩=false:=by
  obtain⟨lo,hi⟩:=fz;simp only[World.frozen?,hg,Bool.and_eq_false_iff,decide_eq_false_iff_not];left;simp only at hfz;omega
 have hst:(store ⟨gb,o,none⟩ v).run P w = .ok () (w.setRow gb (cur.setIfInBounds o v)):=by
  rw[run_store P w _ v _ hv,hcell];simp [hfro,setCell_eq_setRow w gb o cur t fz v hg]
 simp only[storeVar,Sem.run_bind,hs,Result.andThen_ok,hv'];simp [storeCells,Addr.add_lit,hst]
theorem WR.storeS {gb cap i:Nat}{c:UInt8}(H:StX C w0 M0 M L w)(hx:ev e x=some (ptr gb i))(hy:ev e y=some (encB c))(hu:Upd L (SRow gb cap t l) (SRow gb cap t (l.set i c)) L')(hi:i<l.length)(hc:l.length<=cap)(hs :∀w,(sizeOf tt).run P w = .ok 1 w)
 (hw:Wn ops n D e ⟨none, .store tt x y,ty,pos,af,g⟩) (k :∀w',StX C w0 M0 M L' w'->WR r P ops Q n D rest e w'):WR r P ops Q n D (⟨none, .store tt x y,ty,pos,af,g⟩::rest) e w:=by
 have hb:=H.blk hu.mem;have hrun:=run_storeOne (P:=P) (tt:=tt) (v:=encB c) (o:=i) hb (by simp;omega) (by simp only[];omega) hs rfl rfl;have hset:((l.map encB++List.replicate (cap-l.length) (encB 0)).toArray.setIfInBounds i (encB c))=((l.set i c).map encB++List.replicate (cap-(l.set i c).length) (encB 0)).toArray:=by
  rw[l0X,List.map_set];apply Array.ext';simp [hi]
 rw[hset] at hrun;refine WR.stepS (w':=w.setRow gb ((l.set i c).map encB++List.replicate (cap-(l.set i c).length) (encB 0)).toArray) ⟨nofun,fun ρ hf=>?_⟩ hw rfl (k _ (H.upd hu (grownBy_setRow w gb _) (setRow_heap w gb _ _ t _ hb) (fun b' hb' => .inl hb')));simp only[execOp,hf _ _ hx,hf _ _ hy,Instr.storeAt,Instr.sureAddr,Sem.run_bind,Sem.run_pure,Result.andThen_ok,hrun]
theorem Ex.toStrS {gb cap nn:Nat}(ht:P.underlying t=some (.slice te))(he:P.underlying te=some (.int .u8))(hd:P.underlying ts=some .string)(H:StX C w0 M0 M L w)(hm:SRow gb cap t' l∈L)(hnn:nn=l.length)(hx:ev e x=some (.slice (some ⟨gb,0,none⟩) nn cap)):
 Ex P ⟨dst, .convert t ts x,ty,pos,af,g⟩ e w (S l) w :=
 ⟨nofun,fun ρ hfi=>by
  subst hnn;have hr:=run_convert_bytes_back (P:=P) w t ts te ⟨gb,0,none⟩ cap l ht he hd (fun j hj=>by
   rw[Addr.add_lit,l0r,cell_of_row w gb j _ t' _ (H.blk hm),srow_at (List.getElem?_eq_getElem hj)])
  simp only[execOp,hfi _ _ hx,Sem.run_bind,hr,Result.andThen_ok,Sem.run_pure]⟩
theorem WR.litS {α:Type}{enc:α->List Value}{ps:List (Nat × Operand)}{vs:List (Nat × Value)}{bytes len kk:Nat}(T:ElemTy P ts t z kk bytes)(l:List α)(H:StX C w0 M0 M L w)(J :∀a,(enc a).length=kk)(hp:evq e ps=some vs)
 (hfl:Instr.fill (fun i=>some (i*kk,kk)) ((Array.range (len*kk)).map (z.cells[· % z.cells.size]!)) vs=some (l.flatMap enc).toArray) (hlen:l.length=len) (hbig:Nat.ble (len*kk) 16777216=true) (hnz:Nat.blt 0 (len*kk)=true)
 (hw:Wn ops n D e ⟨some d, .buildSlice ts len ps.toArray,ty,pos,af,g⟩) (hn:Nat.blt d n=true)
 (k :∀v M' w',StX C w0 M0 M' L w'->M.le M'->SlS M' kk enc v l->WR r P ops Q n D rest ((d,v)::e) w') :
 WR r P ops Q n D (⟨some d, .buildSlice ts len ps.toArray,ty,pos,af,g⟩::rest) e w:=by
 have hbig:=l09 hbig;have hnz:=l09 hnz;obtain⟨i,hi,hz,hsz,_⟩:=T.info;have hs:(sizeOf t).run P w = .ok kk w:=by simp [sizeOf,typeInfo,hi,hsz]
 have hzv:(zeroValue t).run P w = .ok z w:=by simp [zeroValue,typeInfo,hi,hz]
 have H1:=H.new (it := .blk w.heap.size (.cells (l.flatMap enc).toArray t)) (grownBy_alloc' w (.cells (l.flatMap enc).toArray t)) (heap_alloc_new w _) (fun b hb=>by cases hb;exact l07 _);obtain⟨K,N⟩:=H1.freeze .head rfl (heap_alloc_new w _) H.base;have hll:l.length<=maxLen:=by
  have:len<=len*kk:=l2m _ T.pos;simp only[maxLen];omega
 refine q0w (w':=w.alloc (.cells (l.flatMap enc).toArray t)) (v := .slice (some ⟨w.heap.size,0,none⟩) len len) ⟨nofun,fun ρ hf=>?_⟩ hw rfl hn (k _ _ _ N K (by rw[<-hlen];exact SlS.ofBlk (t:=t) (fz:=(0,0)) J hll (by simp [Mem.set])));have O:(ps.toArray.map fun x=>(x.1,ρ x.2)).toList=vs:=by simpa using hf.evq hp
 have hnb :¬(len*kk>2 ^ 24):=by omega
 have E :¬(len*kk=0):=by omega
 simp only[execOp,Instr.buildSlice,Sem.run_bind,run_underlying T.under,Result.andThen_ok,hs,hnb,if_false,E,hzv,Sem.run_pure,O,hfl];rfl
abbrev _root_.q1t := @WR.litS
end
end Go.Ph
end
section
namespace Go.Ph
open Go Go.RowKit
def Kept (ops:Array Oper)(a a':Act):Prop:=a'.defers=a.defers/\a'.tmps.size=a.tmps.size/\∀t:Nat,(∀(i:Nat) o,ops[i]? = some o->o.dst≠some t)->a'.tmps.getD t undef=a.tmps.getD t undef
def noP (ops:Array Oper)(Q:Exit->Act->World->Prop):Exit->Act->World->Prop
 | .panic ch,a,w =>∀a':Act,Kept ops a a'->Q (.panic ch) a' w
 | x,a,w=>Q x a w
theorem noP_le {ops:Array Oper}{Q:Exit->Act->World->Prop}{x:Exit}{a:Act}{w:World}(h:noP ops Q x a w):Q x a w:=by
 cases x <;> first|exact h|exact h a ⟨rfl,rfl,fun _ _=>rfl⟩
theorem put_defers (a:Act)(o:Option Tmp)(v:Value):(a.put o v).defers=a.defers:=by cases o <;> rfl
theorem noP_put {ops:Array Oper}{Q:Exit->Act->World->Prop}{i:Nat}{o:Oper}{v:Value}{c:List PanicEntry}{a:Act}{w:World}(ho:ops[i]? = some o)(h:noP ops Q (.panic c) (a.put o.dst v) w):noP ops Q (.panic c) a w:=fun a' h'=>by
 refine h a' ⟨by rw[h'.1,put_defers],?_,fun t ht=>?_⟩
 . rw[h'.2.1];cases o.dst <;> simp [Act.put]
 rw[h'.2.2 t ht];have hne:=ht i o ho;cases hd:o.dst with
 | none=>rfl
 | some d =>
   have:d≠t:=fun h=>hne (by rw[hd,h])
   simp [Act.put,Array.getD_eq_getD_getElem?,this]
def WA (r:Option Nat)(P:Program)(ops:Array Oper)(Q:Exit->Act->World->Prop)(n:Nat)(D:List Deferred)(fuel:Nat)(listed:Array Bool)(e:Env)(w:World):Prop :=
 ∀a,Sat n D e a->wpAnyIn (Wd r) 0 P .any ops (noP ops Q) fuel listed a w
abbrev Qa (r:Option Nat)(P:Program)(ops:Array Oper)(Q:Exit->Act->World->Prop)(fuel:Nat)(listed:Array Bool):Exit->Act->World->Prop :=
 Exit.then (wpAnyIn (Wd r) 0 P .any ops (noP ops Q) fuel listed) (noP ops Q)
section
variable {C : Nat → Prop} {r : Option Nat} {P : Program} {ops : Array Oper} {Q : Exit → Act → World → Prop} {n fuel i j k : Nat} {D : List Deferred} {e : Env} {w0 w : World} {M0 M : Mem} {L : List Item} {listed : Array Bool} {o o2 o3 : Oper} {v : Value} {d : Nat}
theorem grownBy_drawn (w:World):w.grownBy {w with drawn:=w.drawn+1} none:=⟨rfl,rfl,rfl,l07 _,fun _ _ _=>rfl⟩
theorem WC.draw {id m:Nat}{l:List Oper}(hm:P.follows .mixedOrders=true)(hl:l.length=m)(H:StX C w0 M0 M L w)
 (k :∀w',StX C w0 M0 M L w'->WA r P l.toArray Q n D m (Array.replicate m false) e w'):WC r P Q n D (.region id l.toArray true) e w:=fun a ha=>by
 refine wpIn_mono (wpIn_region_any hm ?_:(Code.region id l.toArray true).wpIn (Wd r) 0 P (noP l.toArray Q) a w) (fun _ _ _=>noP_le);have:=k _ (H.grow (grownBy_drawn w)) a ha;subst hl;simpa using this
abbrev _root_.q0x := @WC.draw
theorem WQ.any (k:WA r P ops Q n D fuel listed e w):WQ (Qa r P ops Q fuel listed) .normal n D e w:=fun a ha=>k a ha
theorem WA.done (hr:Region.ready .any ops listed=[])(k:WQ Q .normal n D e w):WA r P ops Q n D fuel listed e w:=fun a ha=>wpAnyIn_done (Q:=noP ops Q) hr (k a ha) fuel
abbrev _root_.q0f := @WA.done
theorem WA.op (ho:ops[i]? = some o)(k:WR r P ops (Qa r P ops Q fuel listed) n D [o] e w){a:Act}(ha:Sat n D e a):wpOpIn (Wd r) 0 P ops (noP ops Q) i (wpAnyIn (Wd r) 0 P .any ops (noP ops Q) fuel listed) a w:=by
 have h:=k a ha;unfold wpOpIn;rw[ho];simp only[wpListIn] at h ⊢;exact h
theorem WA.one (hr:Region.ready .any ops listed=[i])(ho:ops[i]? = some o)(k:WR r P ops (Qa r P ops Q fuel (listed.setIfInBounds i true)) n D [o] e w):WA r P ops Q n D (fuel+1) listed e w:=fun a ha =>
 wpAnyIn_all hr Sm fun x hx=>by
  obtain rfl:x=i:=by simpa using hx
  exact WA.op ho k ha
theorem WA.two (hr:Region.ready .any ops listed=[i,j])(ho:ops[i]? = some o)(u:ops[j]? = some o2)(k:WR r P ops (Qa r P ops Q fuel (listed.setIfInBounds i true)) n D [o] e w)(E:WR r P ops (Qa r P ops Q fuel (listed.setIfInBounds j true)) n D [o2] e w):WA r P ops Q n D (fuel+1) listed e w:=fun a ha =>
 wpAnyIn_all hr Sm fun x hx=>by
  rcases List.mem_cons.1 hx with rfl|hx
  . exact WA.op ho k ha
  obtain rfl:x=j:=by simpa using hx
  exact WA.op u E ha
abbrev _root_.q0E := @WA.two
theorem WA.three (hr:Region.ready .any ops listed=[i,j,k])(ho:ops[i]? = some o)(u:ops[j]? = some o2)(E:ops[k]? = some o3)(J:WR r P ops (Qa r P ops Q fuel (listed.setIfInBounds i true)) n D [o] e w)(K:WR r P ops (Qa r P ops Q fuel (listed.setIfInBounds j true)) n D [o2] e w)(N:WR r P ops (Qa r P ops Q fuel (listed.setIfInBounds k true)) n D [o3] e w):WA r P ops Q n D (fuel+1) listed e w:=fun a ha =>
 wpAnyIn_all hr Sm fun x hx=>by
  rcases List.mem_cons.1 hx with rfl|hx
  . exact WA.op ho J ha
  rcases List.mem_cons.1 hx with rfl|hx
  . exact WA.op u K ha
  obtain rfl:x=k:=by simpa using hx
  exact WA.op E N ha
theorem wanted_g {j t:Nat}{b:Bool}(hg:o.guard=some (j,!b))(hj:(ops[j]?).bind (·.dst)=some t)(hb:get e t=some (.bool b)):∀a,Sat n D e a->Region.wanted o (yielded ops a.tmps)=false:=fun a ha=>by
 have:=yielded_of hj ha hb;cases b <;> simp [Region.wanted,hg,this]
theorem WA.takeN (ho:ops[i]? = some o)(hs:Region.noSelect ops=true)(hf:Region.free .any ops listed i=true)(hr:(Region.ready .any ops listed).contains i=true)(hw :∀a,Sat n D e a->Region.wanted o (yielded ops a.tmps)=false)(hd:o.dst=some d)(hn:Nat.blt d n=true)
 (hab :∀w ρ,o.about P w ρ=none) (k:WA none P ops Q n D fuel (listed.setIfInBounds i true) ((d,undef)::e) w):WA none P ops Q n D (fuel+1) listed e w:=fun a ha=>by
 refine wpAnyIn_take (oi:=o) (v:=undef) rfl ho hs hf hr (fun _ _ _ h=>noP_put ho h) ⟨.inr ⟨hw a ha,rfl⟩,fun w=>hab w _⟩ ?_;rw[hd];exact k _ (ha.put (l09 hn) undef)
abbrev _root_.q0I := @WA.takeN
theorem WA.take (ho:ops[i]? = some o)(hs:Region.noSelect ops=true)(hf:Region.free .any ops listed i=true)(hr:(Region.ready .any ops listed).contains i=true)(hx :∀w,Ex P o e w v w)(hw:Wn ops n D e o)(hd:o.dst=some d)(hn:Nat.blt d n=true)
 (hab :∀w ρ,o.about P w ρ=none) (k:WA none P ops Q n D fuel (listed.setIfInBounds i true) ((d,v)::e) w):WA none P ops Q n D (fuel+1) listed e w:=fun a ha=>by
 refine wpAnyIn_take (oi:=o) (v:=v) rfl ho hs hf hr (fun _ _ _ h=>noP_put ho h) ⟨.inl ⟨hw a ha,fun w=>(hx w).2 _ ha.fits⟩,fun w=>hab w _⟩ ?_;rw[hd];exact k _ (ha.put (l09 hn) v)
abbrev _root_.q0P := @WA.take
theorem WA.takeE {v':Value}(ho:ops[i]? = some o)(hs:Region.noSelect ops=true)(hf:Region.free .any ops listed i=true)(hr:(Region.ready .any ops listed).contains i=true)(hx :∀w,Ex P o e w v w)(hv:v=v')(hw:Wn ops n D e o)(hd:o.dst=some d)(hn:Nat.blt d n=true)
 (hab :∀w ρ,o.about P w ρ=none) (k:WA none P ops Q n D fuel (listed.setIfInBounds i true) ((d,v')::e) w):WA none P ops Q n D (fuel+1) listed e w:=by
 subst hv;exact WA.take ho hs hf hr hx hw hd hn hab k
abbrev _root_.q1c := @WA.takeE
theorem WA.takeT {p:Prop}[Decidable p](ho:ops[i]? = some o)(hs:Region.noSelect ops=true)(hf:Region.free .any ops listed i=true)(hr:(Region.ready .any ops listed).contains i=true)(hx :∀w,Ex P o e w (.bool (decide p)) w)(h:p)(hw:Wn ops n D e o)(hd:o.dst=some d)(hn:Nat.blt d n=true)
 (hab :∀w ρ,o.about P w ρ=none) (k:WA none P ops Q n D fuel (listed.setIfInBounds i true) ((d, .bool true)::e) w):WA none P ops Q n D (fuel+1) listed e w :=
 WA.takeE ho hs hf hr hx (by rw[decide_eq_true h]) hw hd hn hab k
theorem WA.takeF {p:Prop}[Decidable p](ho:ops[i]? = some o)(hs:Region.noSelect ops=true)(hf:Region.free .any ops listed i=true)(hr:(Region.ready .any ops listed).contains i=true)(hx :∀w,Ex P o e w (.bool (decide p)) w)(h :¬p)(hw:Wn ops n D e o)(hd:o.dst=some d)(hn:Nat.blt d n=true)
 (hab :∀w ρ,o.about P w ρ=none) (k:WA none P ops Q n D fuel (listed.setIfInBounds i true) ((d, .bool false)::e) w):WA none P ops Q n D (fuel+1) listed e w :=
 WA.takeE ho hs hf hr hx (by rw[decide_eq_false h]) hw hd hn hab k
theorem WA.split {p:Prop}[Decidable p](ho:ops[i]? = some o)(hs:Region.noSelect ops=true)(hf:Region.free .any ops listed i=true)(hr:(Region.ready .any ops listed).contains i=true)(hx :∀w,Ex P o e w (.bool (decide p)) w)(hw:Wn ops n D e o)(hd:o.dst=some d)(hn:Nat.blt d n=true)
 (hab :∀w ρ,o.about P w ρ=none) (kt:p->WA none P ops Q n D fuel (listed.setIfInBounds i true) ((d, .bool true)::e) w) (kf :¬p->WA none P ops Q n D fuel (listed.setIfInBounds i true) ((d, .bool false)::e) w):WA none P ops Q n D (fuel+1) listed e w:=by
 by_cases h:p
 . exact WA.takeT ho hs hf hr hx h hw hd hn hab (kt h)
 exact WA.takeF ho hs hf hr hx h hw hd hn hab (kf h)
end
end Go.Ph
end
section
namespace Go.Ph
open Go Go.RowKit Pl
section
variable {r : Option Nat} {P : Program} {Q : Exit → Act → World → Prop} {n : Nat} {D : List Deferred} {e : Env} {w : World}
theorem WC.cutP {x:Code}(J:Env->World->Prop)(hx:WC r P (Exit.then (fun a' w' =>∃e',Sat n D e' a'/\J e' w') Q) n D x e w)(hy :∀e' w',J e' w'->WQ Q .normal n D e' w'):WC r P Q n D x e w :=
 fun a ha=>wpIn_mono (hx a ha) fun ex a' w' h=>by
  cases ex with
  | normal=>obtain⟨e',hs,hJ⟩:=h;exact hy e' w' hJ a' hs
  | _=>exact h
abbrev _root_.q0V := @WC.cutP
theorem WQ.meetP {J:Env->World->Prop}{Q':Exit->Act->World->Prop}(e':Env)(hs:Sub e' e)(hJ:J e' w):
 WQ (Exit.then (fun a' w' =>∃e',Sat n D e' a'/\J e' w') Q') .normal n D e w:=fun _ ha=>⟨e',ha.sub hs,hJ⟩
theorem WC.loopP {c:Code}(J:Nat->Env->World->Prop)(K:Nat)(E:Env)(hs:Sub E e)(N:J K E w)
 (round :∀m e w,J m e w->WC r P (Exit.then (fun a' w' =>∃m' e',Sat n D e' a'/\J m' e' w'/\m'<m) Q) n D c e w):WC r P Q n D (.loop c) e w :=
 WC.loop (ι:=Nat × Env) (fun p=>p.2) (fun p=>J p.1 p.2) (fun p=>p.1) (K,E) hs N fun p w hp a ha=>wpIn_mono (round p.1 p.2 w hp a ha) fun ex a' w' h=>by
  cases ex with
  | normal=>obtain⟨m',e',O,U,V⟩:=h;exact ⟨⟨m',e'⟩,O,U,V⟩
  | _=>exact h
abbrev _root_.q0l := @WC.loopP
theorem WQ.againP {J:Nat->Env->World->Prop}{m:Nat}{Q':Exit->Act->World->Prop}(m':Nat)(e':Env)(hs:Sub e' e)(hJ:J m' e' w)(hm:m'<m):
 WQ (Exit.then (fun a' w' =>∃m' e',Sat n D e' a'/\J m' e' w'/\m'<m) Q') .normal n D e w:=fun _ ha=>⟨m',e',ha.sub hs,hJ,hm⟩
end
abbrev encBo (b:Bool):Value := .bool b
theorem SlS.nil {α:Type}{kk:Nat}(M:Mem)(enc:α->List Value)(h :∀x,(enc x).length=kk):SlS M kk enc (.slice none 0 0) []:=⟨h,none,0,rfl,by simp,⟨by simp [maxLen],fun _=>rfl⟩,fun h=>absurd rfl h⟩
abbrev _root_.q1a := @SlS.nil
inductive Pick : List Item->List Item->Prop
 | nil {L:List Item}:Pick L []
 | cons {L L1 L':List Item} {it:Item} (h:Rem L it L1) (k:Pick L1 L'):Pick L (it::L')
theorem Pick.sub {L L':List Item}(h:Pick L L'):∀it∈L',it∈L:=by
 induction h with
 | nil=>intro it h;cases h
 | cons h k ih => intro it hit;rcases List.mem_cons.1 hit with rfl|hit
                  . exact h.mem
                  exact h.sublist.subset (ih it hit)
theorem StX.pick {C:Nat->Prop}{w0 w:World}{M0 M:Mem}{L L':List Item}(H:StX C w0 M0 M L w)(h:Pick L L'):StX C w0 M0 M L' w:=by
 refine⟨H.ext,fun it hit=>H.own it (h.sub it hit),?_⟩;have hs:=H.sep;clear H;induction h with
 | nil=>exact List.Pairwise.nil
 | cons h k ih=>exact List.pairwise_cons.2 ⟨fun y hy=>h.pairs (R:=Apart) (fun x y h=>h.symm) hs y (k.sub y hy),ih (hs.sublist h.sublist)⟩
theorem of_not_decide {p:Prop}[Decidable p](h:(!decide p)=true):¬p:=by simpa using h
theorem of_not_decide' {p:Prop}[Decidable p](h:(!decide p)=false):p:=by simpa using h
section
variable {P : Program} {e : Env} {w w' : World} {x y c : Operand} {v u : Value} {dst : Option Tmp} {ty t t' : TypeId} {pos : String} {af : Array Edge} {g : Option (Nat × Bool)} {k : IntKind} {a b z : Int} {l m s : List UInt8}
theorem Ex.addC (E:ev e x=some (I a))(J:ev e y=some (I b))(hz:chk (a+b)=some z):Ex P ⟨dst, .binOp .add t x y t',ty,pos,af,g⟩ e w (I z) w:=by
 obtain⟨h,rfl⟩:=chk_some hz;exact Ex.add64 E J h
abbrev _root_.q0e := @Ex.addC
theorem Ex.subC (E:ev e x=some (I a))(J:ev e y=some (I b))(hz:chk (a-b)=some z):Ex P ⟨dst, .binOp .sub t x y t',ty,pos,af,g⟩ e w (I z) w:=by
 obtain⟨h,rfl⟩:=chk_some hz;exact Ex.sub64 E J h
abbrev _root_.q0K := @Ex.subC
theorem Ex.mulC (E:ev e x=some (I a))(J:ev e y=some (I b))(hz:chk (a*b)=some z):Ex P ⟨dst, .binOp .mul t x y t',ty,pos,af,g⟩ e w (I z) w:=by
 obtain⟨h,rfl⟩:=chk_some hz;exact Ex.mul64 E J h
theorem Ex.quoC (E:ev e x=some (I a))(J:ev e y=some (I b))(hz:quo a b=some z):Ex P ⟨dst, .binOp .quo t x y t',ty,pos,af,g⟩ e w (I z) w:=by
 obtain⟨K,h,rfl⟩:=quo_some hz;have:=Ex.quoT (P:=P) (w:=w) (dst:=dst) (ty:=ty) (t:=t) (t':=t') (pos:=pos) (af:=af) (g:=g) E J K;rwa [i64_in h] at this
theorem Ex.remC (E:ev e x=some (I a))(J:ev e y=some (I b))(hz:rem a b=some z):Ex P ⟨dst, .binOp .rem t x y t',ty,pos,af,g⟩ e w (I z) w:=by
 obtain⟨K,rfl⟩:=rem_some hz;exact Ex.remT E J K
theorem wrap_u8_nat (n:Nat):IntKind.u8.wrap (n:Int)=((n % 256:Nat):Int):=by rw[IntKind.wrap_u8];omega
theorem Ex.addB {c d:UInt8}(E:ev e x=some (encB c))(J:ev e y=some (encB d)):Ex P ⟨dst, .binOp .add t x y t',ty,pos,af,g⟩ e w (encB (c+d)) w:=by
 have:=Ex.add (P:=P) (w:=w) (dst:=dst) (ty:=ty) (t:=t) (t':=t') (pos:=pos) (af:=af) (g:=g) E J;rwa [show IntKind.u8.wrap ((c.toNat:Int)+(d.toNat:Int))=(((c+d).toNat:Nat):Int) by
  rw[show (c.toNat:Int)+(d.toNat:Int)=((c.toNat+d.toNat:Nat):Int) by omega,wrap_u8_nat,UInt8.toNat_add]] at this
theorem Ex.subB {c d:UInt8}(E:ev e x=some (encB c))(J:ev e y=some (encB d)):Ex P ⟨dst, .binOp .sub t x y t',ty,pos,af,g⟩ e w (encB (c-d)) w:=by
 have:=Ex.sub (P:=P) (w:=w) (dst:=dst) (ty:=ty) (t:=t) (t':=t') (pos:=pos) (af:=af) (g:=g) E J;have K:=c.toNat_lt;have N:=d.toNat_lt;rwa [show IntKind.u8.wrap ((c.toNat:Int)-(d.toNat:Int))=(((c-d).toNat:Nat):Int) by
  rw[IntKind.wrap_u8,UInt8.toNat_sub];omega] at this
theorem Ex.shrB {c:UInt8}{m:Nat}{k':IntKind}(E:ev e x=some (encB c))(J:ev e y=some (.int k' (m:Int)))(hm:m<=8):Ex P ⟨dst, .binOp .shr t x y t',ty,pos,af,g⟩ e w (encB (UInt8.ofNat (c.toNat / 2 ^ m))) w:=by
 have:=Ex.shrN (P:=P) (w:=w) (dst:=dst) (ty:=ty) (t:=t) (t':=t') (pos:=pos) (af:=af) (g:=g) E J hm;have K:=c.toNat_lt;have N:c.toNat / 2 ^ m<=c.toNat:=Nat.div_le_self _ _;rwa [show ((c.toNat / 2 ^ m:Nat):Int)=(((UInt8.ofNat (c.toNat / 2 ^ m)).toNat:Nat):Int) by rw[UInt8.toNat_ofNat',l1A Om]] at this
theorem Ex.shlB {c:UInt8}{m:Nat}{k':IntKind}(E:ev e x=some (encB c))(J:ev e y=some (.int k' (m:Int)))(hm:m<=8):Ex P ⟨dst, .binOp .shl t x y t',ty,pos,af,g⟩ e w (encB (UInt8.ofNat (c.toNat*2 ^ m))) w:=by
 have:=Ex.shlK (P:=P) (w:=w) (dst:=dst) (ty:=ty) (t:=t) (t':=t') (pos:=pos) (af:=af) (g:=g) E J hm;rwa [show IntKind.u8.wrap ((c.toNat*2 ^ m:Nat):Int)=(((UInt8.ofNat (c.toNat*2 ^ m)).toNat:Nat):Int) by rw[wrap_u8_nat,UInt8.toNat_ofNat']] at this
theorem Ex.andB {c d:UInt8}(E:ev e x=some (encB c))(J:ev e y=some (encB d)):Ex P ⟨dst, .binOp .and t x y t',ty,pos,af,g⟩ e w (encB (c &&& d)) w:=by
 have:=Ex.andK (P:=P) (w:=w) (dst:=dst) (ty:=ty) (t:=t) (t':=t') (pos:=pos) (af:=af) (g:=g) E J c.toNat_lt d.toNat_lt;have K:c.toNat &&& d.toNat<256:=Nat.and_lt_two_pow (n:=8) _ d.toNat_lt;rwa [show IntKind.u8.wrap ((c.toNat &&& d.toNat:Nat):Int)=(((c &&& d).toNat:Nat):Int) by rw[wrap_u8_nat,UInt8.toNat_and,l1A K]] at this
theorem Ex.orB {c d:UInt8}(E:ev e x=some (encB c))(J:ev e y=some (encB d)):Ex P ⟨dst, .binOp .or t x y t',ty,pos,af,g⟩ e w (encB (c ||| d)) w:=by
 have:=Ex.orK (P:=P) (w:=w) (dst:=dst) (ty:=ty) (t:=t) (t':=t') (pos:=pos) (af:=af) (g:=g) E J c.toNat_lt d.toNat_lt;have K:c.toNat ||| d.toNat<256:=l0p (n:=8) c.toNat_lt d.toNat_lt;rwa [show IntKind.u8.wrap ((c.toNat ||| d.toNat:Nat):Int)=(((c ||| d).toNat:Nat):Int) by rw[wrap_u8_nat,UInt8.toNat_or,l1A K]] at this
theorem Ex.lssB {i j:Nat}(E:ev e x=some (.int .u8 (i:Int)))(J:ev e y=some (.int .u8 (j:Int))):Ex P ⟨dst, .binOp .lss t x y t',ty,pos,af,g⟩ e w (.bool (decide (i<j))) w:=by
 have:=q0m (P:=P) (w:=w) (dst:=dst) (ty:=ty) (t:=t) (t':=t') (pos:=pos) (af:=af) (g:=g) E J;rwa [show decide ((i:Int)<(j:Int))=decide (i<j) from decide_eq_decide.2 Om] at this
theorem Ex.leqB {i j:Nat}(E:ev e x=some (.int .u8 (i:Int)))(J:ev e y=some (.int .u8 (j:Int))):Ex P ⟨dst, .binOp .leq t x y t',ty,pos,af,g⟩ e w (.bool (decide (i<=j))) w:=by
 have:=q1q (P:=P) (w:=w) (dst:=dst) (ty:=ty) (t:=t) (t':=t') (pos:=pos) (af:=af) (g:=g) E J;rwa [show decide ((i:Int)<=(j:Int))=decide (i<=j) from decide_eq_decide.2 Om] at this
theorem Ex.geqB {i j:Nat}(E:ev e x=some (.int .u8 (i:Int)))(J:ev e y=some (.int .u8 (j:Int))):Ex P ⟨dst, .binOp .geq t x y t',ty,pos,af,g⟩ e w (.bool (decide (j<=i))) w:=by
 have:=q0R (P:=P) (w:=w) (dst:=dst) (ty:=ty) (t:=t) (t':=t') (pos:=pos) (af:=af) (g:=g) E J;rwa [show decide ((j:Int)<=(i:Int))=decide (j<=i) from decide_eq_decide.2 Om] at this
abbrev _root_.q1g := @Ex.geqB
theorem u8_eq {c d:UInt8}:((c.toNat:Int)=(d.toNat:Int))↔c=d:=⟨fun h=>UInt8.toNat_inj.1 Om,fun h=>by rw[h]⟩
theorem Ex.eqlB {c d:UInt8}(E:ev e x=some (encB c))(J:ev e y=some (encB d)):Ex P ⟨dst, .binOp .eql t x y t',ty,pos,af,g⟩ e w (.bool (decide (c=d))) w:=by
 have:=q0u (P:=P) (w:=w) (dst:=dst) (ty:=ty) (t:=t) (t':=t') (pos:=pos) (af:=af) (g:=g) E J;rwa [show decide ((c.toNat:Int)=(d.toNat:Int))=decide (c=d) from decide_eq_decide.2 u8_eq] at this
abbrev _root_.q0L := @Ex.eqlB
theorem Ex.neqB {c d:UInt8}(E:ev e x=some (encB c))(J:ev e y=some (encB d)):Ex P ⟨dst, .binOp .neq t x y t',ty,pos,af,g⟩ e w (.bool (!decide (c=d))) w:=by
 have:=Ex.neq (P:=P) (w:=w) (dst:=dst) (ty:=ty) (t:=t) (t':=t') (pos:=pos) (af:=af) (g:=g) E J;rwa [show decide ((c.toNat:Int)≠(d.toNat:Int)) = !decide (c=d) by rw[<-decide_not];exact decide_eq_decide.2 (not_congr u8_eq)] at this
theorem Ex.neqC (E:ev e x=some (.int k a))(J:ev e y=some (.int k b)):Ex P ⟨dst, .binOp .neq t x y t',ty,pos,af,g⟩ e w (.bool (!decide (a=b))) w:=by
 have:=Ex.neq (P:=P) (w:=w) (dst:=dst) (ty:=ty) (t:=t) (t':=t') (pos:=pos) (af:=af) (g:=g) E J;rwa [show decide (a≠b) = !decide (a=b) by rw[<-decide_not]] at this
abbrev _root_.q1j := @Ex.neqC
theorem Ex.convU8C {E:TypeDesc}(hs:P.underlying t=some E)(hd:P.underlying t'=some (.int .u8))(h:ev e x=some (.int k a)):Ex P ⟨dst, .convert t t' x,ty,pos,af,g⟩ e w (encB (ub8 a)) w:=Ex.convU8 hs hd h
theorem Ex.strNeqC (E:ev e x=some (S l))(J:ev e y=some (S m)):Ex P ⟨dst, .binOp .neq t x y t',ty,pos,af,g⟩ e w (.bool (!decide (l=m))) w:=by
 have:=Ex.strNeq (P:=P) (w:=w) (dst:=dst) (ty:=ty) (t:=t) (t':=t') (pos:=pos) (af:=af) (g:=g) E J;rwa [show decide (l≠m) = !decide (l=m) by rw[<-decide_not]] at this
abbrev _root_.q1m := @Ex.strNeqC
theorem Ex.strAddC (E:ev e x=some (S l))(J:ev e y=some (S m))(hs:cat l m=some s):Ex P ⟨dst, .binOp .add t x y t',ty,pos,af,g⟩ e w (S s) w:=by
 obtain⟨h,rfl⟩:=cat_some hs;exact Ex.strAdd E J h
abbrev _root_.q0d := @Ex.strAddC
theorem Ex.idxStrC {c:UInt8}{i:Int}(ht:P.underlying t=some .string)(h:ev e x=some (S l))(E:ev e y=some (.int k i))(hi:idx l i=some c):Ex P ⟨dst, .index t x y,ty,pos,af,g⟩ e w (encB c) w:=by
 obtain⟨J,hc⟩:=idx_some hi;exact q0M (i:=i.toNat) ht h (by rw[E,l0s J]) hc
abbrev _root_.q0p := @Ex.idxStrC
theorem Ex.sliceC {i j:Int}{E J:Operand}(ht:P.underlying t=some .string)(h:ev e x=some (S l))(K:ev e E=some (I i))(N:ev e J=some (I j))(hs:cut l i j=some s):Ex P ⟨dst, .slice t x (some E) (some J) none,ty,pos,af,g⟩ e w (S s) w:=by
 obtain⟨⟨O,U,V⟩,rfl⟩:=cut_some hs;exact q0X ht h (.inl ⟨_,rfl,by rw[K,l0s O]⟩) (.inl ⟨_,rfl,by rw[N,l0s Om]⟩) Om Om
theorem Ex.sliceL {i:Int}{E:Operand}(ht:P.underlying t=some .string)(h:ev e x=some (S l))(J:ev e E=some (I i))(hs:cut l i (l.length:Int)=some s):Ex P ⟨dst, .slice t x (some E) none none,ty,pos,af,g⟩ e w (S s) w:=by
 obtain⟨⟨K,N,O⟩,rfl⟩:=cut_some hs;exact q0X ht h (.inl ⟨_,rfl,by rw[J,l0s K]⟩) (.inr ⟨rfl,rfl⟩) Om Om
abbrev _root_.q1f := @Ex.sliceL
theorem Ex.sliceH {j:Int}{E:Operand}(ht:P.underlying t=some .string)(h:ev e x=some (S l))(J:ev e E=some (I j))(hs:cut l 0 j=some s):Ex P ⟨dst, .slice t x none (some E) none,ty,pos,af,g⟩ e w (S s) w:=by
 obtain⟨⟨K,N,O⟩,rfl⟩:=cut_some hs;exact q0X ht h (.inr ⟨rfl,rfl⟩) (.inl ⟨_,rfl,by rw[J,l0s Om]⟩) Om Om
abbrev _root_.q1y := @Ex.sliceH
end
section
variable {C : Nat → Prop} {r : Option Nat} {P : Program} {ops : Array Oper} {Q : Exit → Act → World → Prop} {n : Nat} {D : List Deferred} {rest : List Oper} {e : Env} {w0 w : World} {M0 M : Mem} {L L' : List Item} {d : Nat} {v u z : Value}
  {x y : Operand} {ty t ts t' te : TypeId} {pos : String} {af : Array Edge} {g : Option (Nat × Bool)} {dst : Option Tmp} {α : Type} {enc : α → Value} {l l2 l3 : List α}
theorem WR.idxRowC {i:Int}{a:α}{k':IntKind}(H:StX C w0 M0 M L w)(ht:P.underlying ts=some (.slice t'))(hz :∀w,(sizeOf t').run P w = .ok 1 w)(hm:RowI t enc v l∈L)(hx:ev e x=some v)(hy:ev e y=some (.int k' i))(hi:idx l i=some a)
 (hw:Wn ops n D e ⟨some d, .indexAddr ts x y,ty,pos,af,g⟩) (hn:Nat.blt d n=true) (k :∀gb,v.ownBlock=some gb->WR r P ops Q n D rest ((d,ptr gb i.toNat)::e) w) :
 WR r P ops Q n D (⟨some d, .indexAddr ts x y,ty,pos,af,g⟩::rest) e w:=by
 obtain⟨E,hc⟩:=idx_some hi;exact WR.idxRow (i:=i.toNat) H ht hz hm hx (by rw[hy,l0s E]) hc hw hn k
theorem Ex.loadRowC {tt:TypeId}{gb:Nat}{i:Int}{a:α}(H:StX C w0 M0 M L w)(hx:ev e x=some (ptr gb i.toNat))(hg:v.ownBlock=some gb)(hm:RowI t enc v l∈L)(hi:idx l i=some a)(ha :∀w,(isAgg tt).run P w = .ok false w):
 Ex P ⟨dst, .load tt x,ty,pos,af,g⟩ e w (enc a) w:=Ex.loadRow H hx hg hm (idx_some hi).2 ha
theorem WR.storeRowC {tt:TypeId}{gb:Nat}{i:Int}{a:α}{L':Item->List Item}(H:StX C w0 M0 M L w)(hx:ev e x=some (ptr gb i.toNat))(hy:ev e y=some (enc a))(ho:One (enc a))(hg:v.ownBlock=some gb)(hu :∀it',Upd L (RowI t enc v l) it' (L' it'))(hi:put l i a=some l2)
 (hs :∀w,(sizeOf tt).run P w = .ok 1 w) (hw:Wn ops n D e ⟨none, .store tt x y,ty,pos,af,g⟩) (k :∀w',StX C w0 M0 M (L' (RowI t enc v l2)) w'->WR r P ops Q n D rest e w') :
 WR r P ops Q n D (⟨none, .store tt x y,ty,pos,af,g⟩::rest) e w:=by
 obtain⟨E,rfl⟩:=put_some hi;exact WR.storeRow H hx hy ho hg hu Om hs hw k
theorem WR.sliceC {i j:Int}{E J:Operand}(ht:P.underlying t=some (.slice t'))(hz :∀w,(sizeOf t').run P w = .ok 1 w)(h:Sl M enc v l)(hx:ev e x=some v)(K:ev e E=some (I i))(N:ev e J=some (I j))(hs:cut l i j=some l2)
 (hw:Wn ops n D e ⟨some d, .slice t x (some E) (some J) none,ty,pos,af,g⟩) (hn:Nat.blt d n=true) (k :∀v',Sl M enc v' l2->WR r P ops Q n D rest ((d,v')::e) w) :
 WR r P ops Q n D (⟨some d, .slice t x (some E) (some J) none,ty,pos,af,g⟩::rest) e w:=by
 obtain⟨⟨O,U,V⟩,rfl⟩:=cut_some hs;exact WR.sliceSl ht hz h hx (.inl ⟨_,rfl,by rw[K,l0s O]⟩) (.inl ⟨_,rfl,by rw[N,l0s Om]⟩) Om Om hw hn k
theorem WR.sliceL {i:Int}{E:Operand}(ht:P.underlying t=some (.slice t'))(hz :∀w,(sizeOf t').run P w = .ok 1 w)(h:Sl M enc v l)(hx:ev e x=some v)(J:ev e E=some (I i))(hs:cut l i (l.length:Int)=some l2)
 (hw:Wn ops n D e ⟨some d, .slice t x (some E) none none,ty,pos,af,g⟩) (hn:Nat.blt d n=true) (k :∀v',Sl M enc v' l2->WR r P ops Q n D rest ((d,v')::e) w) :
 WR r P ops Q n D (⟨some d, .slice t x (some E) none none,ty,pos,af,g⟩::rest) e w:=by
 obtain⟨⟨K,N,O⟩,rfl⟩:=cut_some hs;exact WR.sliceSl ht hz h hx (.inl ⟨_,rfl,by rw[J,l0s K]⟩) (.inr ⟨rfl,rfl⟩) Om Om hw hn k
theorem WR.sliceH {j:Int}{E:Operand}(ht:P.underlying t=some (.slice t'))(hz :∀w,(sizeOf t').run P w = .ok 1 w)(h:Sl M enc v l)(hx:ev e x=some v)(J:ev e E=some (I j))(hs:cut l 0 j=some l2)
 (hw:Wn ops n D e ⟨some d, .slice t x none (some E) none,ty,pos,af,g⟩) (hn:Nat.blt d n=true) (k :∀v',Sl M enc v' l2->WR r P ops Q n D rest ((d,v')::e) w) :
 WR r P ops Q n D (⟨some d, .slice t x none (some E) none,ty,pos,af,g⟩::rest) e w:=by
 obtain⟨⟨K,N,O⟩,rfl⟩:=cut_some hs;exact WR.sliceSl ht hz h hx (.inr ⟨rfl,rfl⟩) (.inl ⟨_,rfl,by rw[J,l0s Om]⟩) Om Om hw hn k
theorem short_of {a b w:Nat}(hw:0<w)(h:(a+b)*w<=lim w):a+b<=maxLen:=by
 have:=lim_le w;have:(a+b)*1<=(a+b)*w:=Nat.mul_le_mul_left _ hw;simp only[maxLen];omega
theorem WR.appC {bytes:Nat}{L':Item->List Item}(T:ElemTy P ts t z 1 bytes)(hbp:Nat.blt 0 bytes=true)(E :∀a,(enc a).oneCell'=true)(H:StX C w0 M0 M L w)(hx:ev e x=some v)(hu :∀it',Upd L (RowI t enc v l) it' (L' it'))(hy:ev e y=some u)
 (hs:Sl M enc u l2) (ha:app bytes l l2=some l3)
 (hw:Wn ops n D e ⟨some d, .call ⟨.builtin .append,#[x,y],#[ts,ts]⟩,ty,pos,af,g⟩) (hn:Nat.blt d n=true)
 (k :∀v' w',StX C w0 M0 M (L' (RowI t enc v' l3)) w'->WR r P ops Q n D rest ((d,v')::e) w') :
 WR r P ops Q n D (⟨some d, .call ⟨.builtin .append,#[x,y],#[ts,ts]⟩,ty,pos,af,g⟩::rest) e w:=by
 obtain⟨h,rfl⟩:=app_some ha;exact WR.appendSl T E H hx hu hy hs h (short_of (l09 hbp) h) hw hn k
abbrev _root_.q0H := @WR.appC
theorem WR.appStrC {l l2 l3:Ls}{tx:TypeId}{L':Item->List Item}(T:ElemTy P ts t z 1 1)(ht:P.underlying tx=some .string)(H:StX C w0 M0 M L w)(hx:ev e x=some v)(hu :∀it',Upd L (RowI t encB v l) it' (L' it'))(hy:ev e y=some (S l2))
 (ha:app 1 l l2=some l3)
 (hw:Wn ops n D e ⟨some d, .call ⟨.builtin .append,#[x,y],#[ts,tx]⟩,ty,pos,af,g⟩) (hn:Nat.blt d n=true)
 (k :∀v' w',StX C w0 M0 M (L' (RowI t encB v' l3)) w'->WR r P ops Q n D rest ((d,v')::e) w') :
 WR r P ops Q n D (⟨some d, .call ⟨.builtin .append,#[x,y],#[ts,tx]⟩,ty,pos,af,g⟩::rest) e w:=by
 obtain⟨h,rfl⟩:=app_some ha;exact WR.appendStr T ht H hx hu hy (by unfold lim at h;rw [if_pos rfl] at h;omega) hw hn k
abbrev _root_.q1D := @WR.appStrC
end
end Go.Ph
end
section
namespace Go.Ph
open Go Go.RowKit Pl
def lk : List (Nat × (Env->World->Prop))->Nat->Option (Env->World->Prop)
 | [],_=>none
 |(j,J)::l,i=>bif Nat.beq i j then some J else lk l i
def CutX (JN:Env->World->Prop)(JL:List (Nat × (Env->World->Prop)))(n:Nat)(D:List Deferred)(Q:Exit->Act->World->Prop):Exit->Act->World->Prop
 | .normal,a,w =>∃e',Sat n D e' a/\JN e' w
 | .exit id,a,w=>match lk JL id with
   | some J =>∃e',Sat n D e' a/\J e' w
   | none=>Q (.exit id) a w
 | x,a,w=>Q x a w
def AllX (Q:Exit->Act->World->Prop)(n:Nat)(D:List Deferred):List (Nat × (Env->World->Prop))->Prop
 | []=>True
 |(k,J)::l=>(∀e' w',J e' w'->WQ Q (.exit k) n D e' w')/\AllX Q n D l
section
variable {r : Option Nat} {P : Program} {Q : Exit → Act → World → Prop} {n : Nat} {D : List Deferred} {e : Env} {w : World} {JL : List (Nat × (Env → World → Prop))} {JN : Env → World → Prop}
theorem AllX.at {i:Nat}{J:Env->World->Prop}:∀{JL:List (Nat × (Env->World->Prop))},AllX Q n D JL->lk JL i=some J->∀e' w',J e' w'->WQ Q (.exit i) n D e' w'
 | [],_,h=>by cases h
 | (j,K)::l,ha,h=>by
   unfold lk at h;cases hb:Nat.beq i j with
   | true =>
     rw[hb] at h;have hij:i=j:=l0A hb;subst hij;have hk:K=J:=Option.some.inj h;subst hk;exact ha.1
   | false=>rw[hb] at h;exact AllX.at ha.2 h
theorem WC.cutX {x:Code}(JN:Env->World->Prop)(JL:List (Nat × (Env->World->Prop)))(hx:WC r P (CutX JN JL n D Q) n D x e w)(hy :∀e' w',JN e' w'->WQ Q .normal n D e' w')(hz:AllX Q n D JL):WC r P Q n D x e w :=
 fun a ha=>wpIn_mono (hx a ha) fun ex a' w' h=>by
  cases ex with
  | normal=>obtain⟨e',hs,hJ⟩:=h;exact hy e' w' hJ a' hs
  | exit id =>
    simp only[CutX] at h;split at h
    . rename_i J hJ;obtain⟨e',hs,E⟩:=h;exact hz.at hJ e' w' E a' hs
    exact h
  | _=>exact h
abbrev _root_.q0c := @WC.cutX
theorem WQ.meetN {Q':Exit->Act->World->Prop}(e':Env)(hs:Sub e' e)(hJ:JN e' w):WQ (CutX JN JL n D Q') .normal n D e w:=fun _ ha=>⟨e',ha.sub hs,hJ⟩
theorem WQ.meetX {Q':Exit->Act->World->Prop}{id:Nat}{J:Env->World->Prop}(hl:lk JL id=some J)(e':Env)(hs:Sub e' e)(hJ:J e' w):WQ (CutX JN JL n D Q') (.exit id) n D e w:=fun a ha=>by
 simp only[CutX,hl];exact⟨e',ha.sub hs,hJ⟩
end
def Straight (Q:Exit->Act->World->Prop):Exit->Act->World->Prop
 | .goto _,_,_=>False
 | x,a,w=>Q x a w
section
variable {r : Option Nat} {P : Program} {Q : Exit → Act → World → Prop} {n : Nat} {D : List Deferred} {e : Env} {w : World}
theorem stepR_scope' {b:Frame}{a:Act}{k:List Go.Item}{cs:List Frame}{c:Code}:step P (lone (b.atR a (.code (.scope c)::k)) cs w) = .next (lone (b.atR a (.code c :: .inScope c::k)) cs w):=step_lone_go (by simp [stepG,stepG.exec,Frame.atR])
theorem stepR_inScope' {b:Frame}{a:Act}{k:List Go.Item}{cs:List Frame}{c:Code}:step P (lone (b.atR a (.inScope c::k)) cs w) = .next (lone (b.atR a k) cs w):=step_lone_go (by simp [stepG,stepG.exec,Frame.atR])
theorem WC.scope {c:Code}(h:WC r P (Straight Q) n D c e w):WC r P Q n D (.scope c) e w:=by
 intro a ha b k cs hro hb hr;have E:(lone (b.atR a (.code (.scope c)::k)) cs w).fenced P (Wd r):=fenced_calm hb hr rfl;obtain⟨ex,a₁,w₁,hq,harr⟩:=h a ha b (.inScope c::k) cs hro hb hr;cases ex with
 | normal=>exact⟨.normal,a₁,w₁,hq, .head E stepR_scope' (StepsIn.trans harr (.one (fenced_calm hb hr rfl) stepR_inScope'))⟩
 | exit id =>
   have hx:exitTo id (.inScope c::k)=exitTo id k:=by simp [exitTo]
   exact⟨.exit id,a₁,w₁,hq,fun k' hk => .head E stepR_scope' (harr.1 k' (by rw[hx];exact hk)),
    fun hr' hk=>let ⟨k₁,J,K⟩:=harr.2 hr' (by rw[hx];exact hk);⟨k₁,J, .head E stepR_scope' K⟩⟩
 | goto l=>exact hq.elim
 | ret=>exact⟨_,a₁,w₁,hq, .of_steps (.one E stepR_scope') harr⟩
 | panic ch=>exact⟨_,a₁,w₁,hq, .of_steps (.one E stepR_scope') harr⟩
 | outgrown=>exact⟨_,a₁,w₁,hq, .of_steps (.one E stepR_scope') harr⟩
theorem WQ.sc (k:WQ Q .normal n D e w):WQ (Straight Q) .normal n D e w:=fun a ha=>k a ha
theorem WQ.scRet (k:WQ Q .ret n D e w):WQ (Straight Q) .ret n D e w:=fun a ha=>k a ha
end
def SOK (M:Mem)(l:Ls)(nn cap:Nat):Prop:=l.length=nn/\nn<=cap/\cap<=maxLen
theorem SOK.mono {M M':Mem}{l:Ls}{nn cap:Nat}(h:SOK M l nn cap)(hl:M.le M'):SOK M' l nn cap:=h
theorem SOK.put {M:Mem}{l l2:Ls}{nn cap:Nat}{i:Int}{c:UInt8}(h:SOK M l nn cap)(hp:put l i c=some l2):SOK M l2 nn cap:=by
 obtain⟨_,rfl⟩:=put_some hp;exact⟨by rw[l0X];exact h.1,h.2⟩
section
variable {C : Nat → Prop} {r : Option Nat} {P : Program} {ops : Array Oper} {Q : Exit → Act → World → Prop} {n : Nat} {D : List Deferred} {rest : List Oper} {e : Env} {w0 w : World} {M0 M : Mem} {L L' : List Item} {d : Nat} {v u z : Value}
  {x y : Operand} {ty t t' te ts tt : TypeId} {pos : String} {af : Array Edge} {g : Option (Nat × Bool)} {dst : Option Tmp} {l l2 m : List UInt8} {gb cap nn : Nat}
theorem WR.toBytesC {E:TypeDesc}(H:StX C w0 M0 M L w)(hs:P.underlying t=some E)(hd:P.underlying t'=some (.slice te))(he:P.underlying te=some (.int .u8))(hx:ev e x=some (S l))(hl:toB l=some m)
 (hw:Wn ops n D e ⟨some d, .convert t t' x,ty,pos,af,g⟩) (hn:Nat.blt d n=true)
 (k :∀gb cap w',SOK M m m.length cap->StX C w0 M0 M (SRow gb cap te m::L) w'->WR r P ops Q n D rest ((d, .slice (some ⟨gb,0,none⟩) m.length cap)::e) w'):WR r P ops Q n D (⟨some d, .convert t t' x,ty,pos,af,g⟩::rest) e w:=by
 obtain⟨h,rfl⟩:=toB_some hl;exact WR.toBytes H hs hd he hx (by simp only[maxLen];exact h) hw hn fun gb cap w' J K H'=>k gb cap w' ⟨rfl,J,K⟩ H'
theorem Ex.lenSOK (ht:P.underlying t=some (.slice t'))(h:SOK M l nn cap)(hx:ev e x=some (.slice (some ⟨gb,0,none⟩) nn cap)):Ex P ⟨dst, .call ⟨.builtin .len,#[x],#[t]⟩,ty,pos,af,g⟩ e w (I l.length) w:=by
 rw[h.1];exact q1L ht hx
theorem Ex.idxSC {i:Int}{a:UInt8}{k':IntKind}(ht:P.underlying t=some (.slice te))(hz :∀w,(sizeOf te).run P w = .ok 1 w)(h:SOK M l nn cap)(hx:ev e x=some (.slice (some ⟨gb,0,none⟩) nn cap))(hy:ev e y=some (.int k' i))(hi:idx l i=some a):Ex P ⟨dst, .indexAddr t x y,ty,pos,af,g⟩ e w (ptr gb i.toNat) w:=by
 have E:=idx_lt hi;have J:=h.1;exact Ex.idxS ht hz hx (by rw[hy,l0s E.1]) Om
theorem Ex.loadSC {i:Int}{a:UInt8}(H:StX C w0 M0 M L w)(hx:ev e x=some (ptr gb i.toNat))(hm:SRow gb cap t l∈L)(hi:idx l i=some a)(ha :∀w,(isAgg tt).run P w = .ok false w):Ex P ⟨dst, .load tt x,ty,pos,af,g⟩ e w (encB a) w:=Ex.loadS H hx hm (idx_some hi).2 ha
theorem WR.storeSC {i:Int}{c:UInt8}{L':Item->List Item}(H:StX C w0 M0 M L w)(hx:ev e x=some (ptr gb i.toNat))(hy:ev e y=some (encB c))(h:SOK M l nn cap)(hu :∀it',Upd L (SRow gb cap t l) it' (L' it'))(hi:put l i c=some l2)(hs :∀w,(sizeOf tt).run P w = .ok 1 w)
 (hw:Wn ops n D e ⟨none, .store tt x y,ty,pos,af,g⟩) (k :∀w',SOK M l2 nn cap->StX C w0 M0 M (L' (SRow gb cap t l2)) w'->WR r P ops Q n D rest e w'):WR r P ops Q n D (⟨none, .store tt x y,ty,pos,af,g⟩::rest) e w:=by
 have hok:=h.put hi;obtain⟨E,rfl⟩:=put_some hi;exact WR.storeS H hx hy (hu _) Om (by have:=h.1;have:=h.2.1;omega) hs hw (fun w' H'=>k w' hok H')
def FnV (P:Program)(M:Mem)(v:Value)(args:List Value)(R:Value->Mem->Prop):Prop :=∃f cap,v = .func (.func f) #[] (List.toArray cap)/\Ct P f (args++cap) (fun M'=>M.le M') R
theorem FnV.mono {M':Mem}{args:List Value}{R:Value->Mem->Prop}(h:FnV P M v args R)(hl:M.le M'):FnV P M' v args R:=by
 obtain⟨f,cap,J,E⟩:=h;exact⟨f,cap,J,E.enters,fun w M'' ha hp=>E.calls w M'' ha (hl.trans hp)⟩
theorem FnV.of {f:FuncId}{args:List Value}{Pre:Mem->Prop}{R:Value->Mem->Prop}(h:Ct P f args Pre R)(hp :∀M',M.le M'->Pre M'):FnV P M (.func (.func f) #[] #[]) args R :=
 ⟨f,[],rfl,by rw[l0f];exact ⟨h.enters,fun w M'' ha hm=>h.calls w M'' ha (hp M'' hm)⟩⟩
theorem FnV.ofCap {f:FuncId}{args:List Value}{Pre:Mem->Prop}{R:Value->Mem->Prop}(cap:List Value)(h:Ct P f (args++cap) Pre R)(hp :∀M',M.le M'->Pre M'):FnV P M (.func (.func f) #[] (List.toArray cap)) args R :=
 ⟨f,cap,rfl,h.enters,fun w M'' ha hm=>h.calls w M'' ha (hp M'' hm)⟩
theorem WR.callF {ar:List Operand}{vs:List Value}{tys:Array TypeId}{R:Value->Mem->Prop}(H:StX C w0 M0 M L w)(hs:FnV P M v vs R)(hx:ev e x=some v)(ha:evs e ar=some vs)
 (hw:Wn ops n D e ⟨some d, .call ⟨.value x,ar.toArray,tys⟩,ty,pos,af,g⟩) (hn:Nat.blt d n=true)
 (k :∀v M' w',StX C w0 M0 M' L w'->M.le M'->R v M'->WR r P ops Q n D rest ((d,v)::e) w') :
 WR r P ops Q n D (⟨some d, .call ⟨.value x,ar.toArray,tys⟩,ty,pos,af,g⟩::rest) e w:=by
 obtain⟨f,cap,rfl,hc⟩:=hs;exact WR.callV H hc hx ha (Mem.le.refl M) hw hn k
end
end Go.Ph
end
section
namespace Go.Ph
open Go Go.RowKit Pl
abbrev RowS {α:Type}(t:TypeId)(kk:Nat)(enc:α->List Value)(v:Value)(l:List α):Item := .row t kk v l.length (l.flatMap enc)
theorem splice {α:Type}(cur U:List α)(n p off s kk:Nat)(hU:U.length=s)(hoff:off+s<=kk)(h:p+kk<=n)(hn:n<=cur.length):
 (cur.take (p+off)++U++cur.drop (p+off+s)).take n=(cur.take n).take p++((((cur.take n).drop p).take kk).take off++U++(((cur.take n).drop p).take kk).drop (off+s))++(cur.take n).drop (p+kk):=by
  obtain⟨a,b,rfl,hb⟩ :∃a b,cur=a++b/\a.length=n:=⟨cur.take n,cur.drop n,by simp,by simp;omega⟩
  obtain⟨c,d,rfl,hc⟩ :∃c d,a=c++d/\c.length=p:=⟨a.take p,a.drop p,by simp,by simp;omega⟩
  obtain⟨x,y,rfl,hx⟩ :∃c x,d=c++x/\c.length=kk:=⟨d.take kk,d.drop kk,by simp,by simp at *;omega⟩
  obtain⟨E,N,rfl,O⟩ :∃c d,x=c++d/\c.length=off:=⟨x.take off,x.drop off,by simp,by simp at *;omega⟩
  obtain⟨K,J,rfl,a6⟩ :∃c d,N=c++d/\c.length=s:=⟨N.take s,N.drop s,by simp,by simp at *;omega⟩
  subst hc O;simp only[l05] at hb hx;have V:((c++(E++(K++J)++y))++b).take (c.length+E.length)=c++E:=by
   rw[show (c++(E++(K++J)++y))++b=(c++E)++(K++J++y++b) by simp];exact l2g Sm
  have Y:((c++(E++(K++J)++y))++b).drop (c.length+E.length+s)=J++y++b:=by
   rw[show (c++(E++(K++J)++y))++b=(c++E++K)++(J++y++b) by simp];exact l2w (by simp;omega)
  have Z:((c++(E++(K++J)++y))++b).take n=c++(E++(K++J)++y):=l2g (by simp;omega);rw[V,Y,Z];have e4:(c++(E++(K++J)++y)).take c.length=c:=l1j;have e5:(c++(E++(K++J)++y)).drop c.length=(E++(K++J))++y:=by rw[l1L]
  have e6:((E++(K++J))++y).take kk=E++(K++J):=l2g (by simp;omega);have e7:(E++(K++J)).take E.length=E:=l1j;have e8:(E++(K++J)).drop (E.length+s)=J:=by rw[show E++(K++J)=(E++K)++J by simp];exact l2w (by simp;omega)
  have e9:(c++(E++(K++J)++y)).drop (c.length+kk)=y:=by rw[show c++(E++(K++J)++y)=(c++E++K++J)++y by simp];exact l2w (by simp;omega)
  rw[e4,e5,e6,e7,e8,e9];rw[show c++E++U++(J++y++b)=(c++(E++U++J)++y)++b by simp];exact l2g (by simp;omega)
section
variable {α : Type} {enc : α → List Value} {kk : Nat}
theorem flat_len (E :∀x,(enc x).length=kk):∀l:List α,(l.flatMap enc).length=l.length*kk
 | []=>by simp
 | x::l=>by rw[l0n,l05,E,flat_len E l,l01,l1p];omega
theorem flat_set (E :∀x,(enc x).length=kk):∀(l:List α) (i:Nat) (a:α),i<l.length->(l.set i a).flatMap enc=(l.flatMap enc).take (i*kk)++enc a++(l.flatMap enc).drop (i*kk+kk)
 | [],i,a,h=>by simp at h
 | x::l,0,a,_=>by
   rw[l1U,l0n,l0n,Nat.zero_mul,l1Y,l03,l0r,List.drop_append_of_le_length (by rw[E];exact l07 _),l1q (by rw[E];exact l07 _),l03]
 | x::l,i+1,a,h=>by
   have ih:=flat_set E l i a (by simpa using h);rw[List.set_cons_succ,l0n,l0n,ih,l1p,Nat.one_mul];have J:(enc x++l.flatMap enc).take (i*kk+kk)=enc x++(l.flatMap enc).take (i*kk):=by
    rw[l1M,l0x (l:=enc x) (by rw[E];omega),E,show i*kk+kk-kk=i*kk by omega]
   have K:(enc x++l.flatMap enc).drop (i*kk+kk+kk)=(l.flatMap enc).drop (i*kk+kk):=by
    rw[l1N,l1q (l:=enc x) (by rw[E];omega),E,show i*kk+kk+kk-kk=i*kk+kk by omega,l03]
   rw[J,K];simp [l0k]
end
section
variable {C : Nat → Prop} {r : Option Nat} {P : Program} {ops : Array Oper} {Q : Exit → Act → World → Prop} {n : Nat} {D : List Deferred} {rest : List Oper} {e : Env} {w0 w : World} {M0 M : Mem} {L L' : List Item} {d : Nat} {v u z : Value}
  {x y : Operand} {ty t t' te ts tt : TypeId} {pos : String} {af : Array Edge} {g : Option (Nat × Bool)} {dst : Option Tmp} {α : Type} {enc : α → List Value} {kk : Nat} {l l2 l3 : List α}
theorem StX.newRowS (H:StX C w0 M0 M L w)(t:TypeId)(kk:Nat)(enc:α->List Value):StX C w0 M0 M (RowS t kk enc (.slice none 0 0) []::L) w :=
 H.newNone (World.ownsRow_nil _ _ _ _) rfl
theorem StX.freezeRowS (H:St w0 M0 M L w)(hr:Rem L (RowS t kk enc v l) L')(J :∀x,(enc x).length=kk):∃M',M.le M'/\SlS M' kk enc v l/\St w0 M0 M' L' w:=by
 have hown:=H.rowOf hr.mem;rcases hown.2 with ⟨hv,hn⟩|⟨g,cap,cur,hv,hb,hg,hnc,hcm,hcs,htake⟩
 . have:l=[]:=l08 hn;subst this;subst hv;exact⟨M,Mem.le.refl M,q1a M enc J,H.drop hr.sublist⟩
 have hf:(RowS t kk enc v l).foot=some g:=by rw[hv];rfl
 obtain⟨K,N⟩:=H.freeze hr hf hg (((H.own _ hr.mem).2 g hf).2.resolve_right (fun h=>h));refine⟨_,K,⟨J,some ⟨g,0,none⟩,cap,hv,hnc,⟨hcm,fun h=>by cases h⟩,fun _=>⟨g,0,cur,t,(0,0),rfl,by simp [Mem.set],fun i x hx j u hj=>?_⟩⟩,N⟩;have E:=flat_at J l i j x u hx hj;rw[<-htake,List.getElem?_take] at E;split at E
 . rw[l0r];simpa using E
 cases E
theorem StX.lenRowS (H:StX C w0 M0 M L w)(hm:RowS t kk enc v l∈L):∃A c,v = .slice A l.length c:=by
 rcases(H.rowOf hm).2 with ⟨hv,hn⟩|⟨g,cap,cur,hv,_⟩
 . exact⟨none,0,by rw[hv,hn]⟩
 exact⟨_,cap,hv⟩
theorem Ex.lenRowS (ht:P.underlying ts=some (.slice t'))(H:StX C w0 M0 M L w)(hm:RowS t kk enc v l∈L)(hx:ev e x=some v):Ex P ⟨dst, .call ⟨.builtin .len,#[x],#[ts]⟩,ty,pos,af,g⟩ e w (I l.length) w:=by
 obtain⟨A,c,rfl⟩:=H.lenRowS hm;exact q1L ht hx
abbrev _root_.q1v := @Ex.lenRowS
theorem StX.rowOneS (H:StX C w0 M0 M L w)(hm:RowS t kk enc v l∈L):One v:=by
 obtain⟨A,c,rfl⟩:=H.lenRowS hm;exact One.slice _ _ _
theorem SlS.src (ht:P.underlying t=some (.slice t'))(h:SlS M kk enc v l)(ha:Ag M w)(Z :∀a,∀u∈enc a,u.oneCell'=true):Src P kk t v l.length (l.flatMap enc) w:=by
 obtain⟨J,A,c,rfl,U,K,V⟩:=h;have E :∀u∈l.flatMap enc,u.oneCell'=true:=fun u hu=>by obtain⟨a,_,hu⟩:=List.mem_flatMap.1 hu;exact Z a u hu
 have hpos :∀j u,(l.flatMap enc)[j]? = some u->∃i x k,l[i]? = some x/\(enc x)[k]? = some u/\j=i*kk+k:=by
  clear V E U K;induction l with
  | nil=>intro j u h;simp at h
  | cons y l ih =>
    intro j u h;rw[l0n] at h;rcases l0K j kk with hj|hj
    . rw[List.getElem?_append_left (by rw[J];exact hj)] at h;exact⟨0,y,j,rfl,h,by omega⟩
    rw[List.getElem?_append_right (by rw[J];exact hj),J] at h;obtain⟨i,x,k,N,O,Y⟩:=ih _ _ h;exact⟨i+1,x,k,by simpa using N,O,by rw[l1p];omega⟩
 cases A with
 | none =>
   have hnil:l=[]:=by
    have:=K.2 rfl;exact l08 Om
   subst hnil;exact Src.ofNil w ht _
 | some ad =>
   rcases l2k l.length with hl|hl
   . have hnil:l=[]:=l08 hl;subst hnil;exact Src.ofSlice w ht ad _ _ _ Sm (fun j u h=>by simp at h) E
   obtain⟨b,o,cs,t0,fz,N,O,Y⟩:=V (fun h=>by rw[h] at hl;simp at hl);cases N;refine Src.ofSlice w ht ⟨b,o,none⟩ _ _ _ (flat_len J l) (fun j u h=>?_) E;obtain⟨i,x,k,f1,f2,rfl⟩:=hpos j u h;rw[Addr.add_lit];have:=(show CellM M ⟨b,o+(i*kk+k),none⟩ u from⟨rfl,cs,t0,fz,O,by rw[<-l0U];exact Y i x f1 k u f2⟩).cell ha;exact this
theorem WR.appSC {bytes:Nat}{L':Item->List Item}(T:ElemTy P ts t z kk bytes)(hbp:Nat.blt 0 bytes=true)(J :∀a,∀u∈enc a,u.oneCell'=true)(H:StX C w0 M0 M L w)(hx:ev e x=some v)(hu :∀it',Upd L (RowS t kk enc v l) it' (L' it'))(hy:ev e y=some u)
 (hs:SlS M kk enc u l2) (ha:app bytes l l2=some l3)
 (hw:Wn ops n D e ⟨some d, .call ⟨.builtin .append,#[x,y],#[ts,ts]⟩,ty,pos,af,g⟩) (hn:Nat.blt d n=true)
 (k :∀v' w',StX C w0 M0 M (L' (RowS t kk enc v' l3)) w'->WR r P ops Q n D rest ((d,v')::e) w') :
 WR r P ops Q n D (⟨some d, .call ⟨.builtin .append,#[x,y],#[ts,ts]⟩,ty,pos,af,g⟩::rest) e w:=by
 obtain⟨hb,rfl⟩:=app_some ha;have hb':=short_of (l09 hbp) hb;have hm:=(hu (RowS t kk enc v l)).mem;obtain⟨v',w',hrun,J,N,E⟩:=run_append_own_src (P:=P) (ty:=ty) w 0 T v l.length (l.flatMap enc) (H.rowOf hm) u l2.length (l2.flatMap enc) (hs.src T.under H.ag J) hb' hb (l0o _);have K:w'.ownsRow 0 t kk v' (l++l2).length ((l++l2).flatMap enc):=by rw[l05,l1o];exact J
 refine q0w (w':=w') ⟨nofun,fun ρ hfi=>?_⟩ hw rfl hn (k v' w' (H.upd (hu _) N K (fun b hb'=>?_)))
 . simp only[execOp,resolve,invoke,builtin,Sem.run_bind,Sem.run_pure,Result.andThen_ok,l0v,l0j,l0I,hfi _ _ hx,hfi _ _ hy,hrun]
 have hb'':v'.ownBlock=some b:=hb';rcases E with E|E
 . exact .inl (E.symm.trans hb'')
 rw[E] at hb'';have:w.heap.size=b:=Option.some.inj hb'';exact .inr Om
theorem StX.rowAtS (H:StX C w0 M0 M L w)(hm:RowS t kk enc v l∈L){i:Nat}{a:α}(hi:l[i]? = some a):
 ∃gb cap cur,v = .slice (some ⟨gb,0,none⟩) l.length cap/\w.heap[gb]? = some (.cells cur t)/\l.length<=cap/\cur.size=cap*kk/\cap<=maxLen/\cur.toList.take (l.length*kk)=l.flatMap enc:=by
 rcases(H.rowOf hm).2 with ⟨hv,hn⟩|⟨gb,cap,cur,hv,_,hg,hnc,hcm,hcs,htake⟩
 . rw[l08 hn] at hi;simp at hi
 exact⟨gb,cap,cur,hv,hg,hnc,hcs,hcm,htake⟩
theorem WR.idxRowSC {i:Int}{a:α}{k':IntKind}(H:StX C w0 M0 M L w)(ht:P.underlying ts=some (.slice t'))(hz :∀w,(sizeOf t').run P w = .ok kk w)(hm:RowS t kk enc v l∈L)(hx:ev e x=some v)(hy:ev e y=some (.int k' i))(hi:idx l i=some a)
 (hw:Wn ops n D e ⟨some d, .indexAddr ts x y,ty,pos,af,g⟩) (hn:Nat.blt d n=true) (k :∀gb,v.ownBlock=some gb->WR r P ops Q n D rest ((d,ptr gb (i.toNat*kk))::e) w) :
 WR r P ops Q n D (⟨some d, .indexAddr ts x y,ty,pos,af,g⟩::rest) e w:=by
 obtain⟨E,hi⟩:=idx_some hi;obtain⟨j,rfl⟩:=l0C E;rw[l0h] at hi k;obtain⟨gb,cap,cur,rfl,hg,K,N,O,U⟩:=H.rowAtS hm hi;have hlt:=(List.getElem?_eq_some_iff.1 hi).1;refine q0w (v:=ptr gb (j*kk)) (w':=w) ⟨nofun,fun ρ hfi=>?_⟩ hw rfl hn (k gb rfl);have J:(0:Int)<=(j:Int)/\(j:Int)<(l.length:Int):=by omega
 simp only[execOp,hfi _ _ hx,hfi _ _ hy,Instr.indexAt,Sem.run_bind,asIntOf,run_underlying ht,Result.andThen_ok,Sem.run_pure,hz,J,and_self,if_true,Addr.add_lit,l0h,l0r]
abbrev _root_.q0z := @WR.idxRowSC
theorem StX.rowCell {gb i j:Nat}{a:α}{u:Value}(H:StX C w0 M0 M L w)(hg:v.ownBlock=some gb)(hm:RowS t kk enc v l∈L)(J :∀x,(enc x).length=kk)(hi:l[i]? = some a)(hu:(enc a)[j]? = some u):w.cell? ⟨gb,i*kk+j,none⟩=some u:=by
 obtain⟨gb',cap,cur,rfl,hgb,N,O,U,K⟩:=H.rowAtS hm hi;obtain rfl:gb'=gb:=Option.some.inj hg;rw[cell_of_row w gb' _ _ t _ hgb];have E:=flat_at J l i j a u hi hu;rw[<-K,List.getElem?_take] at E;split at E
 . simpa using E
 cases E
theorem Ex.loadRowF {gb j:Nat}{i:Int}{a:α}(H:StX C w0 M0 M L w)(hx:ev e x=some (ptr gb (i.toNat*kk+j)))(hg:v.ownBlock=some gb)(hm:RowS t kk enc v l∈L)(E :∀x,(enc x).length=kk)(hi:idx l i=some a)(hu:(enc a)[j]? = some u)(ha :∀w,(isAgg tt).run P w = .ok false w):
 Ex P ⟨dst, .load tt x,ty,pos,af,g⟩ e w u w:=Ex.loadK hx (by
 have hc:=H.rowCell hg hm E (idx_some hi).2 hu;simp only[loadVar,Sem.run_bind,ha,Result.andThen_ok,l0m,if_false];simp [load,Sem.run,hc])
abbrev _root_.q0A := @Ex.loadRowF
theorem Ex.loadRowA {gb:Nat}{i:Int}{a:α}(H:StX C w0 M0 M L w)(hx:ev e x=some (ptr gb (i.toNat*kk)))(hg:v.ownBlock=some gb)(hm:RowS t kk enc v l∈L)(E :∀x,(enc x).length=kk)(hi:idx l i=some a)(ha :∀w,(isAgg tt).run P w = .ok true w)(hs :∀w,(sizeOf tt).run P w = .ok kk w):
 Ex P ⟨dst, .load tt x,ty,pos,af,g⟩ e w (.agg (enc a).toArray) w:=Ex.loadK hx (by
 have hl:=E a;have hlc:(loadCells ⟨gb,i.toNat*kk,none⟩ (enc a).length).run P w = .ok (enc a).toArray w :=
  run_loadCells_list (P:=P) w ⟨gb,i.toNat*kk,none⟩ (enc a) (fun j v hv=>by rw[Addr.add_lit];exact H.rowCell hg hm E (idx_some hi).2 hv)
 rw[hl] at hlc;simp only[loadVar,Sem.run_bind,ha,Result.andThen_ok,if_true,hs,hlc,Sem.run_pure])
theorem WR.storeRowK {gb i off s:Nat}{a':α}{L':Item->List Item}(H:StX C w0 M0 M L w)(hx:ev e x=some (ptr gb (i*kk+off)))(hy:ev e y=some u)(hg:v.ownBlock=some gb)(hu :∀it',Upd L (RowS t kk enc v l) it' (L' it'))(E :∀x,(enc x).length=kk)(hi:i<l.length)(hoff:off+s<=kk)
 (hs :∀w,(sizeOf tt).run P w = .ok s w) (hvs:u.cells.size=s) (N :∀z∈u.cells.toList,z.oneCell'=true) (he :∀a,l[i]? = some a->enc a'=(enc a).take off++u.cells.toList++(enc a).drop (off+s))
 (hw:Wn ops n D e ⟨none, .store tt x y,ty,pos,af,g⟩) (k :∀w',StX C w0 M0 M (L' (RowS t kk enc v (l.set i a'))) w'->WR r P ops Q n D rest e w') :
 WR r P ops Q n D (⟨none, .store tt x y,ty,pos,af,g⟩::rest) e w:=by
 have hm:=(hu (RowS t kk enc v l)).mem;have hia:l[i]? = some l[i]:=List.getElem?_eq_getElem hi;obtain⟨gb',cap,cur,rfl,hgb,J,O,U,V⟩:=H.rowAtS hm hia;obtain rfl:gb'=gb:=Option.some.inj hg;have K:(i+1)*kk<=l.length*kk:=l0W _ hi;have Y:l.length*kk<=cap*kk:=l0W _ J;rw[l1p,Nat.one_mul] at K;have hrun:=run_storeVar (P:=P) (t:=tt) (v:=u) (o:=i*kk+off) (s:=s) hgb hs hvs Om N;refine WR.stepS (w':=w.setRow gb' (cur.toList.take (i*kk+off)++u.cells.toList++cur.toList.drop (i*kk+off+s)).toArray) ⟨nofun,fun ρ hf=>?_⟩ hw rfl (k _ (H.upd (hu _) (grownBy_setRow w gb' _) ?_ (fun b' hb' => .inl hb')))
 . simp only[execOp,hf _ _ hx,hf _ _ hy,Instr.storeAt,Instr.sureAddr,Sem.run_bind,Sem.run_pure,Result.andThen_ok,hrun]
 refine⟨by rw[l0X,flat_len E,l0X], .inr ⟨gb',cap,_,by simp,l0o _,setRow_heap w gb' cur _ t _ hgb,by simpa using J,U,?_,?_⟩⟩
 . simp only[l0Z,l05,l0c,l04,Array.length_toList,hvs];omega
 simp only[l0X];rw[flat_set E l i a' hi,he _ hia];have hul:u.cells.toList.length=s:=by simpa using hvs
 have hcl:cur.toList.length=cap*kk:=by simpa using O
 have hfa:(enc l[i])=((l.flatMap enc).drop (i*kk)).take kk:=by
  apply l1k;intro j;rw[List.getElem?_take,List.getElem?_drop];split
  . rename_i hj;have hj':j<(enc l[i]).length:=by rw[E];exact hj
    rw[flat_at E l i j _ _ hia (List.getElem?_eq_getElem hj')];exact List.getElem?_eq_getElem hj'
  rw[List.getElem?_eq_none (by rw[E];omega)]
 rw[hfa,<-V];exact splice cur.toList u.cells.toList (l.length*kk) (i*kk) off s kk hul hoff Om Om
theorem WR.storeRowFC {gb j:Nat}{i:Int}{a a':α}{L':Item->List Item}(H:StX C w0 M0 M L w)(hx:ev e x=some (ptr gb (i.toNat*kk+j)))(hy:ev e y=some u)(ho:One u)(hg:v.ownBlock=some gb)(hu :∀it',Upd L (RowS t kk enc v l) it' (L' it'))(E :∀x,(enc x).length=kk)(hi:idx l i=some a)(hp:put l i a'=some l2)(hj:Nat.blt j kk=true)
 (he:enc a'=(enc a).set j u) (hs :∀w,(sizeOf tt).run P w = .ok 1 w) (hw:Wn ops n D e ⟨none, .store tt x y,ty,pos,af,g⟩) (k :∀w',StX C w0 M0 M (L' (RowS t kk enc v l2)) w'->WR r P ops Q n D rest e w') :
 WR r P ops Q n D (⟨none, .store tt x y,ty,pos,af,g⟩::rest) e w:=by
 obtain⟨J,rfl⟩:=put_some hp;have hj:=l09 hj;refine WR.storeRowK (s:=1) H hx hy hg hu E Om hj hs (by rw[ho.1];rfl) (by rw[ho.1];simp [ho.2]) (fun b hb=>?_) hw k;rw[(idx_some hi).2] at hb;cases hb;rw[he,ho.1,l1K,if_pos (by rw[E];exact hj)];simp
theorem WR.storeRowAC {gb:Nat}{i:Int}{a':α}{L':Item->List Item}(H:StX C w0 M0 M L w)(hx:ev e x=some (ptr gb (i.toNat*kk)))(hy:ev e y=some (.agg (enc a').toArray))(J :∀z∈enc a',z.oneCell'=true)(hg:v.ownBlock=some gb)(hu :∀it',Upd L (RowS t kk enc v l) it' (L' it'))(E :∀x,(enc x).length=kk)(hp:put l i a'=some l2)
 (hs :∀w,(sizeOf tt).run P w = .ok kk w) (hw:Wn ops n D e ⟨none, .store tt x y,ty,pos,af,g⟩) (k :∀w',StX C w0 M0 M (L' (RowS t kk enc v l2)) w'->WR r P ops Q n D rest e w') :
 WR r P ops Q n D (⟨none, .store tt x y,ty,pos,af,g⟩::rest) e w:=by
 obtain⟨K,rfl⟩:=put_some hp;refine WR.storeRowK (off:=0) (s:=kk) H hx hy hg hu E Om Om hs (by simp [Value.cells,E]) (by simpa [Value.cells] using J) (fun b hb=>?_) hw k;rw[l1q (by rw[E];omega)];simp [Value.cells]
theorem SlS.part (h:SlS M kk enc v l){i j:Nat}(hij:i<=j)(hj:j<=l.length):
 ∃A c,v = .slice A l.length c/\l.length<=c/\SlS M kk enc (.slice (A.map (fun a=>a.add (i*kk))) (j-i) (c-i)) ((l.take j).drop i):=by
 obtain⟨K,A,c,rfl,J,E,N⟩:=h;have hlen:((l.take j).drop i).length=j-i:=by simp;omega
 refine⟨A,c,rfl,J,K,A.map (fun a=>a.add (i*kk)),c-i,by rw[hlen],by rw[hlen];omega,⟨by have:=E.1;omega,fun h=>?_⟩,fun hne=>?_⟩
 . have:A=none:=by cases A <;> simp_all
   have:=E.2 this;omega
 obtain⟨b,o,cs,O,fz,U,V,Y⟩:=N (fun h=>by rw[h] at hne;simp at hne);refine⟨b,o+i*kk,cs,O,fz,by rw[U];simp [Addr.add_lit],V,fun a x hx m u hm=>?_⟩;rw[List.getElem?_drop,List.getElem?_take] at hx;split at hx
 . have:=Y (i+a) x hx m u hm;rw[l1p] at this;rw[show o+i*kk+a*kk+m=o+(i*kk+a*kk)+m by omega];exact this
 cases hx
theorem SlS.part2 (h:SlS M kk enc v l){i j:Nat}(hij:i<=j)(hj:j<=l.length):
 ∃A c,v = .slice A l.length c/\l.length<=c/\SlS M kk enc (.slice (if c=i then A else A.map (fun a=>a.add (i*kk))) (j-i) (c-i)) ((l.take j).drop i):=by
 obtain⟨A,c,rfl,hc,hs⟩:=h.part hij hj;refine⟨A,c,rfl,hc,?_⟩;split
 . rename_i hci;have hlen:((l.take j).drop i).length=j-i:=by simp;omega
   have hnil:(l.take j).drop i=[]:=l08 Om;rw[hnil];exact⟨h.1,A,c-i,by rw[l0a];congr 1;omega,l0o _,⟨by simp only[maxLen];omega,fun _=>by omega⟩,fun h=>absurd rfl h⟩
 exact hs
theorem run_slice_partS {i j:Nat}{lo hi:Option Value}(ht:P.underlying t=some (.slice t'))(hz :∀w,(sizeOf t').run P w = .ok kk w)(A:Option Addr)(nn c:Nat)(hnc:nn<=c)(hij:i<=j)(hj:j<=nn)
 (hlo:lo=some (I i)∨(lo=none/\i=0)) (hhi:hi=some (I j)∨(hi=none/\j=nn)) :
 (Instr.sliceAt t (.slice A nn c) lo hi none).run P w = .ok (.slice (if c=i then A else A.map (fun a=>a.add (i*kk))) (j-i) (c-i)) w:=by
 have E:(0:Int)<=(i:Int)/\(i:Int)<=(j:Int):=by omega
 have J:(0:Int)<=(j:Int)/\(j:Int)<=(c:Int):=by omega
 rcases hlo with rfl|⟨rfl,rfl⟩ <;> rcases hhi with rfl|⟨rfl,rfl⟩ <;>
  simp only[Instr.sliceAt,Instr.slice,Instr.sliceBounds,Instr.sliceBound,asIntOf,Sem.run_bind,run_underlying ht,Result.andThen_ok,Sem.run_pure,E,J,and_self,if_true,l0h,hz,l1S]
theorem WR.sliceSS {i j:Nat}{lo hi:Option Operand}(ht:P.underlying t=some (.slice t'))(hz :∀w,(sizeOf t').run P w = .ok kk w)(h:SlS M kk enc v l)(hx:ev e x=some v)
 (hlo:(∃o,lo=some o/\ev e o=some (I i))∨(lo=none/\i=0)) (hhi:(∃o,hi=some o/\ev e o=some (I j))∨(hi=none/\j=l.length)) (hij:i<=j) (hj:j<=l.length)
 (hw:Wn ops n D e ⟨some d, .slice t x lo hi none,ty,pos,af,g⟩) (hn:Nat.blt d n=true) (k :∀v',SlS M kk enc v' ((l.take j).drop i)->WR r P ops Q n D rest ((d,v')::e) w) :
 WR r P ops Q n D (⟨some d, .slice t x lo hi none,ty,pos,af,g⟩::rest) e w:=by
 obtain⟨A,c,rfl,hnc,hs⟩:=h.part2 hij hj;refine q0w (w':=w) ⟨nofun,fun ρ hfi=>?_⟩ hw rfl hn (k _ hs);have hr:=run_slice_partS (P:=P) (w:=w) (lo:=lo.map ρ) (hi:=hi.map ρ) ht hz A l.length c hnc hij hj
  (by rcases hlo with ⟨o,rfl,ho⟩|⟨rfl,h⟩
      . exact .inl (by simp [hfi _ _ ho])
      exact .inr ⟨rfl,h⟩)
  (by rcases hhi with ⟨o,rfl,ho⟩|⟨rfl,h⟩
      . exact .inl (by simp [hfi _ _ ho])
      exact .inr ⟨rfl,h⟩)
 simp only[execOp,hfi _ _ hx,l1u,Sem.run_bind,hr,Result.andThen_ok,Sem.run_pure]
theorem WR.sliceSSH {j:Int}{E:Operand}(ht:P.underlying t=some (.slice t'))(hz :∀w,(sizeOf t').run P w = .ok kk w)(h:SlS M kk enc v l)(hx:ev e x=some v)(J:ev e E=some (I j))(hs:cut l 0 j=some l2)
 (hw:Wn ops n D e ⟨some d, .slice t x none (some E) none,ty,pos,af,g⟩) (hn:Nat.blt d n=true) (k :∀v',SlS M kk enc v' l2->WR r P ops Q n D rest ((d,v')::e) w) :
 WR r P ops Q n D (⟨some d, .slice t x none (some E) none,ty,pos,af,g⟩::rest) e w:=by
 obtain⟨⟨K,N,O⟩,rfl⟩:=cut_some hs;exact WR.sliceSS ht hz h hx (.inr ⟨rfl,rfl⟩) (.inl ⟨_,rfl,by rw[J,l0s Om]⟩) Om Om hw hn k
end
end Go.Ph
end
section
namespace Go.Ph
open Go Go.RowKit
abbrev CoreT := List (Nat × Value × List Nat)
def envD (core:CoreT)(dp:List Nat):Env:=dp.filterMap fun j=>(core[j]?).map fun x=>(x.1,x.2.1)
def envAll (core:CoreT):Env:=core.map fun x=>(x.1,x.2.1)
def edgeOn (o:Oper)(j:Nat):Bool:=o.after.any fun e=>Region.binds .any e&&Nat.beq e.on j
def depsOf (ops:Array Oper)(k:Nat):List Nat:=match ops[k]? with
 | some o=>(o.after.toList.filter (fun e=>Region.binds .any e)).map (·.on)
 | none=>[]
def markC (ops:Array Oper):Nat->List Nat->List Nat
 | 0,ms=>ms
 | k+1,ms=>markC ops k (if ms.contains k then ms++depsOf ops k else ms)
def coreOK (ops:Array Oper)(c:Nat)(ds:List (Nat × List Nat)):Bool :=
 Nat.ble c ops.size&&Nat.beq ds.length c&&(ds.map (·.1)).Nodup &&
 (List.range c).all (fun i=>match ops[i]?,ds[i]? with
  | some o,some (d,dp)=>(o.dst == some d)&&dp.all (fun j=>edgeOn o j&&Nat.blt j c)&&o.after.all (fun e => !Region.binds .any e || Nat.blt e.on i)
  | _,_=>false) &&
 (List.range ops.size).all (fun j=>Nat.blt j c || match ops[j]? with
  | some o=>(List.range c).all (fun i => !Nat.beq i j&&(markC ops (j+1) [j]).contains i)
  | none=>false)
def keysFree (e:Env)(ds:List Nat):Bool:=e.all fun p => !ds.contains p.1
theorem get_none_of_free {e:Env}{ds:List Nat}(h:keysFree e ds=true){d:Nat}(hd:d∈ds):get e d=none:=by
 induction e with
 | nil=>rfl
 | cons p e ih =>
   obtain⟨j,v⟩:=p;simp only[keysFree,l0b,l0d] at h;have hne:d≠j:=by rintro rfl;have:=h.1;simp [hd] at this
   rw[get,show Nat.beq d j=false from by cases hb:Nat.beq d j with|false=>rfl|true=>exact absurd (l0A hb) hne];exact ih h.2
section
variable {rr : Option Nat} {C : Nat → Prop} {P : Program} {ops : Array Oper} {Q : Exit → Act → World → Prop} {n : Nat} {D : List Deferred} {e0 : Env} {w0 w : World} {M0 M : Mem} {L : List Item}
def StepsC (rr:Option Nat)(P:Program)(ops:Array Oper)(n:Nat)(D:List Deferred)(e0:Env)(C:Nat->Prop)(w0:World)(M0 M:Mem)(L:List Item)(core:CoreT):Nat->CoreT->Prop
 | _,[]=>True
 | i,(d,v,dp)::r=>(∃o,ops[i]? = some o/\∀(E:Env) w M',StX C w0 M0 M' L w->M.le M'->∀Q':Exit->Act->World->Prop,(∀w'' M'',StX C w0 M0 M'' L w''->M'.le M''->WQ Q' .normal n D ((d,v)::(envD core dp++(e0++E))) w'')->WR rr P ops Q' n D [o] (envD core dp++(e0++E)) w)/\
  StepsC rr P ops n D e0 C w0 M0 M L core (i+1) r
theorem StepsC.at {core:CoreT}:∀{r:CoreT} {i:Nat},StepsC rr P ops n D e0 C w0 M0 M L core i r->∀(k d:Nat) (v:Value) (dp:List Nat),r[k]? = some (d,v,dp)->
 ∃o,ops[i+k]? = some o/\∀(E:Env) w M',StX C w0 M0 M' L w->M.le M'->∀Q':Exit->Act->World->Prop,(∀w'' M'',StX C w0 M0 M'' L w''->M'.le M''->WQ Q' .normal n D ((d,v)::(envD core dp++(e0++E))) w'')->WR rr P ops Q' n D [o] (envD core dp++(e0++E)) w
 | [],i,_,k,d,v,dp,hk=>by simp at hk
 | (J,K,u)::r,i,h,0,d,v,dp,hk=>by
   simp at hk;obtain⟨rfl,rfl,rfl⟩:=hk;exact h.1
 | (J,K,u)::r,i,h,k+1,d,v,dp,hk=>by
   have:=StepsC.at h.2 k d v dp (by simpa using hk);rwa [show i+1+k=i+(k+1) by omega] at this
def Filled (core:CoreT)(listed:Array Bool)(a:Act):Prop :=∀j d v dp,core[j]? = some (d,v,dp)->listed.getD j false=true->a.tmps.getD d undef=v
theorem Sat.more {a:Act}(h:Sat n D e0 a):∀(e:Env),(∀p∈e,a.tmps.getD p.1 undef=p.2)->Sat n D (e++e0) a
 | [],_=>h
 | (j,u)::e,hp=>by
   have ih:=Sat.more h e (fun p hp'=>hp p (by simp [hp']));refine⟨h.size,h.defers,fun i v hi=>?_⟩;simp only[l02,get] at hi;cases hb:Nat.beq i j with
   | true =>
     rw[hb] at hi;have:i=j:=l0A hb;subst this;have:u=v:=Option.some.inj hi;subst this;exact hp (i,u) Sm
   | false=>rw[hb] at hi;exact ih.val i v hi
theorem edgeOn_listed {o:Oper}{i j:Nat}{listed:Array Bool}(hi:i∈Region.ready .any ops listed)(ho:ops[i]? = some o)(he:edgeOn o j=true):listed.getD j false=true:=by
 unfold Region.ready at hi;rw[l2x] at hi;have u:=hi.2;rw[ho] at u;simp only[l0J,l1s,l0d] at u;unfold edgeOn at he;rw[Array.any_eq_true] at he;obtain⟨k,hk,hb⟩:=he;have E:=(Array.all_eq_true.1 u.2) k hk;simp only[l0d] at hb;have hj:(o.after[k]).on=j:=l0A hb.2;simp only[hb.1,l1R,l1h,hj] at E;exact E
def Closed (ops:Array Oper)(listed:Array Bool):Prop :=∀i o,ops[i]? = some o->listed.getD i false=true->∀x,edgeOn o x=true->listed.getD x false=true
theorem deps_edge {k x:Nat}(h:x∈depsOf ops k):∃o,ops[k]? = some o/\edgeOn o x=true:=by
 unfold depsOf at h;cases ho:ops[k]? with
 | none=>rw[ho] at h;cases h
 | some o =>
   rw[ho] at h;obtain⟨e,he,rfl⟩:=List.mem_map.1 h;obtain⟨u,E⟩:=List.mem_filter.1 he;refine⟨o,rfl,?_⟩;unfold edgeOn;rw[<-Array.any_toList,List.any_eq_true];exact⟨e,u,by simp [E]⟩
theorem markC_listed {j:Nat}{listed:Array Bool}(hj:j∈Region.ready .any ops listed)(hcl:Closed ops listed):∀(k:Nat) (ms:List Nat),(∀x∈ms,x=j∨listed.getD x false=true)->∀x∈markC ops k ms,x=j∨listed.getD x false=true
 | 0,ms,h=>h
 | k + 1,ms,h=>by
   rw[markC];refine markC_listed hj hcl k _ ?_;split
   . rename_i hk;intro x hx;rcases List.mem_append.1 hx with hx|hx
     . exact h x hx
     obtain⟨o,ho,he⟩:=deps_edge hx;rcases h k (List.contains_iff_mem.1 hk) with rfl|hl
     . exact .inr (edgeOn_listed hj ho he)
     exact .inr (hcl k o ho hl x he)
   exact h
theorem ready_unlisted {i:Nat}{listed:Array Bool}(hi:i∈Region.ready .any ops listed):i<ops.size/\listed.getD i true=false:=by
 unfold Region.ready at hi;rw[l2x] at hi;have u:=hi.2;simp only[l0d] at u;exact⟨List.mem_range.1 hi.1,by simpa using u.1⟩
def lst (m c:Nat):Array Bool:=(List.replicate c true++List.replicate (m-c) false).toArray
theorem WA.conf (core:CoreT){m c:Nat}(hm:ops.size=m)(hc:core.length=c)(hok:coreOK ops c (core.map fun x=>(x.1,x.2.2))=true)(hfree:keysFree e0 (core.map (·.1))=true)(hn:(core.map (·.1)).all (fun d=>Nat.blt d n)=true)
 (H:StX C w0 M0 M L w) (hs:StepsC rr P ops n D e0 C w0 M0 M L core 0 core)
 (k :∀w M',StX C w0 M0 M' L w->M.le M'->WA rr P ops Q n D (m-c) (lst m c) (envAll core++e0) w):WA rr P ops Q n D m (Array.replicate m false) e0 w:=by
 unfold coreOK at hok;simp only[l0d,l0l] at hok;obtain⟨⟨⟨⟨o1,o2⟩,o3⟩,o4⟩,o5⟩:=hok;have hcm:c<=m:=by rw[<-hm];exact l09 o1
 have hnd:(core.map (·.1)).Nodup:=by
  have:=of_decide_eq_true o3;rw[l1X] at this;exact this
 have hop :∀i,i<c->∃o d v dp,ops[i]? = some o/\core[i]? = some (d,v,dp)/\o.dst=some d/\(∀j∈dp,edgeOn o j=true/\j<c)/\(∀j,edgeOn o j=true->j<i):=fun i hi=>by
  have J:=List.all_eq_true.1 o4 i (List.mem_range.2 hi);obtain⟨⟨d,v,dp⟩,hci⟩ :∃x,core[i]? = some x:=⟨_,List.getElem?_eq_getElem Om⟩
  rw[List.getElem?_map,hci] at J;cases ho:ops[i]? with
  | none=>rw[ho] at J;cases J
  | some o =>
    rw[ho] at J;simp only[l0J,l0d] at J;refine⟨o,d,v,dp,rfl,hci,by simpa using J.1.1,fun j hj=>?_,fun j hj=>?_⟩
    . have:=List.all_eq_true.1 J.1.2 j hj;simp only[l0d] at this;exact⟨this.1,l09 this.2⟩
    unfold edgeOn at hj;rw[Array.any_eq_true] at hj;obtain⟨q,hq,hb⟩:=hj;simp only[l0d] at hb;have E:=(Array.all_eq_true.1 J.2) q hq;simp only[hb.1,l1R,l1h] at E;have:=l0A hb.2;rw[<-this];exact l09 E
 have hlate :∀j,c<=j->j<m->∀i,i<c->i≠j/\i∈markC ops (j+1) [j]:=fun j J Y=>by
  have E:=List.all_eq_true.1 o5 j (List.mem_range.2 Om);have hb:Nat.blt j c=false:=by
   cases hb:Nat.blt j c with
   | false=>rfl
   | true=>have:=l09 hb;omega
  rw[hb,l1h] at E;cases ho:ops[j]? with
  | none=>rw[ho] at E;cases E
  | some o =>
    rw[ho] at E;intro i hi;have:=List.all_eq_true.1 E i (List.mem_range.2 hi);simp only[l0d] at this;exact⟨by omega,List.contains_iff_mem.1 this.2⟩
 -- the invariant
 have main :∀(f:Nat) (listed:Array Bool) (a:Act) (w:World) (M':Mem),listed.size=m->(∀j,c<=j->j<m->listed.getD j true=false)->Closed ops listed->((List.range c).filter (fun j => !listed.getD j true)).length=f->Sat n D e0 a->Filled core listed a->StX C w0 M0 M' L w->M.le M'->
  wpAnyIn (Wd rr) 0 P .any ops (noP ops Q) (m-c+f) listed a w:=by
  intro f;induction f with
  | zero =>
    intro listed a w M' J Y hcl E K h5 h6 h7;have hall :∀j,j<c->listed.getD j true=true:=fun j hj=>by
     cases hb:listed.getD j true with
     | true=>rfl
     | false =>
       have:j∈(List.range c).filter (fun j => !listed.getD j true):=List.mem_filter.2 ⟨List.mem_range.2 hj,by simp [hb]⟩;rw[l08 E] at this;cases this
    have hl:listed=lst m c:=by
     unfold lst;apply Array.ext
     . simp [J];omega
     intro i Z aq;have hg:listed.getD i true=listed[i]:=by simp [Array.getD,Z]
     rcases l0K i c with hc'|hc'
     . have:=hall i hc';rw[hg] at this;rw[this];simp [l1z,hc']
     have:=Y i hc' Om;rw[hg] at this;rw[this];simp [l1z,Nat.not_lt.2 hc']
    rw[l1a,hl];refine k w M' h6 h7 a (K.more _ (fun p hp=>?_));unfold envAll at hp;obtain⟨x,hx,rfl⟩:=List.mem_map.1 hp;obtain⟨j,hj,rfl⟩:=l1l hx;refine h5 j _ _ (core[j]).2.2 (by rw[List.getElem?_eq_getElem hj]) ?_;have:=hall j Om;have hjs:j<listed.size:=by omega
    simp [Array.getD,hjs] at this ⊢;exact this
  | succ f ih =>
    intro listed a w M' J Y hcl E K h5 h6 h7;show wpAnyIn (Wd rr) 0 P .any ops (noP ops Q) ((m-c+f)+1) listed a w
    -- some operation is ready
    have hsome :∃i,i<c/\listed.getD i true=false/\∀j,j<i->listed.getD j true=true:=by
     have hne:(List.range c).filter (fun j => !listed.getD j true)≠ []:=by intro h;rw [h] at E;simp at E
     have :∃i,i<c/\listed.getD i true=false:=by
      obtain⟨x,hx⟩:=List.exists_mem_of_ne_nil _ hne;obtain⟨a1,a2⟩:=List.mem_filter.1 hx;exact⟨x,List.mem_range.1 a1,by simpa using a2⟩
     obtain⟨i,hi⟩:=this;clear E hne;induction i using Nat.strongRecOn with
     | _ i ihi =>
       by_cases hj :∃j,j<i/\listed.getD j true=false
       . obtain⟨j,N,a0⟩:=hj;exact ihi j N ⟨by omega,a0⟩
       refine⟨i,hi.1,hi.2,fun j hj'=>?_⟩;cases hb:listed.getD j true with
       | true=>rfl
       | false=>exact absurd ⟨j,hj',hb⟩ hj
    obtain⟨i0,q1,q2,q3⟩:=hsome;have hready:Region.ready .any ops listed≠ []:=by
     obtain⟨o,d,v,dp,V,O,g3,g4,g5⟩:=hop i0 q1;have:i0∈Region.ready .any ops listed:=by
      unfold Region.ready;rw[l2x];refine⟨List.mem_range.2 Om,?_⟩;rw[V];simp only[l0J,l1s,l0d];refine⟨by simp [q2],Array.all_eq_true.2 (fun q hq=>?_)⟩;cases hb:Region.binds .any o.after[q] with
      | false=>rfl
      | true =>
        simp only[l1R,l1h];have hlt:=g5 (o.after[q]).on (by
         unfold edgeOn;rw[Array.any_eq_true];exact⟨q,hq,by simp [hb]⟩)
        have:=q3 _ hlt;have hjs:(o.after[q]).on<listed.size:=by omega
        simp [Array.getD,hjs] at this ⊢;exact this
     intro h;rw[h] at this;cases this
    refine⟨fun h=>absurd h hready,fun i hi=>?_⟩;obtain⟨r1,r2⟩:=ready_unlisted hi;have hic:i<c:=by
     rcases l0K i c with h|h
     . exact h
     exfalso;obtain⟨V,O⟩:=hlate i h Om i0 q1;have:=(markC_listed hi hcl (i+1) [i] (fun x hx => .inl (by simpa using hx)) i0 O).resolve_left V;have hjs:i0<listed.size:=by omega
     simp [Array.getD,hjs] at this q2;rw[this] at q2;cases q2
    obtain⟨o,d,v,dp,V,O,g3,g4,g5⟩:=hop i hic;obtain⟨o',a7,hstep⟩:=hs.at i d v dp O;rw[l0r,V] at a7;cases a7;have hE :∀j u,get ((List.range n).map fun j=>(j,a.tmps.getD j undef)) j=some u->a.tmps.getD j undef=u:=fun j u hu=>by
     have :∀(l:List Nat),get (l.map fun j=>(j,a.tmps.getD j undef)) j=some u->a.tmps.getD j undef=u:=by
      intro l;induction l with
      | nil=>intro h;cases h
      | cons x l ihl =>
        intro h;simp only[l0j,get] at h;cases hb:Nat.beq j x with
        | true =>
          rw[hb] at h;have hjx:j=x:=l0A hb;rw[hjx];exact Option.some.inj h
        | false=>rw[hb] at h;exact ihl h
     exact this _ hu
    have hsE:Sat n D ((List.range n).map fun j=>(j,a.tmps.getD j undef)) a:=⟨K.size,K.defers,hE⟩
    have hin :∀(e:Env),(∀j u,get e j=some u->a.tmps.getD j undef=u)->∀(e':Env),(∀j u,get e' j=some u->a.tmps.getD j undef=u)->∀j u,get (e++e') j=some u->a.tmps.getD j undef=u:=by
     intro e;induction e with
     | nil=>intro _ e' h' j u hu;exact h' j u hu
     | cons p e ihe =>
       intro h e' h' j u hu;obtain⟨x,y⟩:=p;simp only[l02,get] at hu;cases hb:Nat.beq j x with
       | true =>
         rw[hb] at hu;exact h j u (by simp only[get,hb];exact hu)
       | false =>
         rw[hb] at hu;by_cases hex :∃u',get e j=some u'
         . -- the first part answers
           have key :∀(e:Env) (u':Value),get e j=some u'->get (e++e') j=some u':=by
            intro e;induction e with
            | nil=>intro u' h;cases h
            | cons q e ihq =>
              intro u' h;obtain⟨x',y'⟩:=q;simp only[l02,get] at h ⊢;cases hb':Nat.beq j x' with
              | true=>rw[hb'] at h;exact h
              | false=>rw[hb'] at h;exact ihq u' h
           obtain⟨u',hu'⟩:=hex;have:=key e u' hu';have U:get (e++e') j=some u:=hu;rw[this] at U;have huu:u'=u:=Option.some.inj U;rw[<-huu];exact h j u' (by simp only[get,hb];exact hu')
         have key :∀(e:Env),(¬∃u',get e j=some u')->get (e++e') j=get e' j:=by
          intro e;induction e with
          | nil=>intro _;rfl
          | cons q e ihq =>
            intro hne;obtain⟨x',y'⟩:=q;simp only[l02,get];cases hb':Nat.beq j x' with
            | true=>exact absurd ⟨y',by simp [get,hb']⟩ hne
            | false=>exact ihq (fun⟨u',hu'⟩=>hne ⟨u',by simp only[get,hb'];exact hu'⟩)
         have U:get (e++e') j=some u:=hu;rw[key e hex] at U;exact h' j u U
    have hsat:Sat n D (envD core dp++(e0++(List.range n).map fun j=>(j,a.tmps.getD j undef))) a :=
     (show Sat n D (e0++(List.range n).map fun j=>(j,a.tmps.getD j undef)) a from⟨K.size,K.defers,hin e0 K.val _ hE⟩).more _ (fun p hp=>by
     unfold envD at hp;obtain⟨j,hj,hpj⟩:=List.mem_filterMap.1 hp;obtain⟨⟨dj,vj,dpj⟩,hcj,rfl⟩:=Option.map_eq_some_iff.1 hpj;exact h5 j dj vj dpj hcj (edgeOn_listed hi V (g4 j hj).1))
    refine WA.op V (hstep ((List.range n).map fun j=>(j,a.tmps.getD j undef)) w M' h6 h7 (Qa rr P ops Q (m-c+f) (listed.setIfInBounds i true)) (fun w'' M'' hH ac a'' ha''=>?_)) hsat
    -- behind the operation: only its slot has changed
    have hfreed:get e0 d=none:=get_none_of_free hfree (List.mem_map.2 ⟨_,l0M O,rfl⟩);have hdv:a''.tmps.getD d undef=v:=ha''.val d v (by simp [get]);have hothers :∀t,t≠d->a''.tmps.getD t undef=a.tmps.getD t undef:=fun t ht=>by
     rcases l0K t n with htn|htn
     . have hsome :∃u,get (envD core dp++(e0++(List.range n).map fun j=>(j,a.tmps.getD j undef))) t=some u:=by
        have base :∃u,get ((List.range n).map fun j=>(j,a.tmps.getD j undef)) t=some u:=by
         have :∀(l:List Nat),t∈l->∃u,get (l.map fun j=>(j,a.tmps.getD j undef)) t=some u:=by
          intro l;induction l with
          | nil=>intro h;cases h
          | cons x l ihl =>
            intro h;simp only[l0j,get];cases hb:Nat.beq t x with
            | true=>exact⟨_,rfl⟩
            | false =>
              rcases List.mem_cons.1 h with rfl|h
              . simp at hb
              exact ihl h
         exact this _ (List.mem_range.2 htn)
        have up :∀(e e':Env),(∃u,get e' t=some u)->∃u,get (e++e') t=some u:=by
         intro e;induction e with
         | nil=>intro e' h;exact h
         | cons q e ihq =>
           intro e' h;obtain⟨x',y'⟩:=q;simp only[l02,get];cases hb':Nat.beq t x' with
           | true=>exact⟨_,rfl⟩
           | false=>exact ihq e' h
        exact up _ _ (up _ _ base)
       obtain⟨u,hu⟩:=hsome;rw[hsat.val t u hu];refine ha''.val t u ?_;rw[get,show Nat.beq t d=false from by cases hb:Nat.beq t d with|false=>rfl|true=>exact absurd (l0A hb) ht];exact hu
     rw[Array.getD_eq_getD_getElem?,Array.getD_eq_getD_getElem?,Array.getElem?_eq_none (by rw[ha''.size];exact htn),Array.getElem?_eq_none (by rw[K.size];exact htn)]
    refine ih (listed.setIfInBounds i true) a'' w'' M'' (by simp [J]) (fun j N a0=>?_) (fun y oy hoy hly x hx=>?_) ?_ ⟨ha''.size,ha''.defers,fun t u hu=>?_⟩ (fun j dj vj dpj hj hl=>?_) hH (h7.trans ac)
    . have:=Y j N a0;have hji:j≠i:=by omega
      have hjs:j<listed.size:=by omega
      simp [Array.getD,hjs,Array.getElem_setIfInBounds,Ne.symm hji] at this ⊢;exact this
    . have hxl:listed.getD x false=true:=by
       by_cases hyi:y=i
       . subst hyi;exact edgeOn_listed hi hoy hx
       have hys:y<listed.size:=by
        rcases l0K y listed.size with h|h
        . exact h
        simp [Array.getD,Nat.not_lt.2 h] at hly
       have hne:i≠y:=fun h=>hyi h.symm
       have:listed.getD y false=true:=by
        simp [Array.getD,hys,Array.getElem_setIfInBounds,hne] at hly ⊢;exact hly
       exact hcl y oy hoy this x hx
      have hxs:x<listed.size:=by
       rcases l0K x listed.size with h|h
       . exact h
       simp [Array.getD,Nat.not_lt.2 h] at hxl
      simp only[Array.getD,hxs,Array.size_setIfInBounds,dif_pos,Array.getInternal_eq_getElem,Array.getElem_setIfInBounds] at hxl ⊢;split
      . rfl
      exact hxl
    . -- one fewer
      have hiS:i<listed.size:=by omega
      have a9:((List.range c).filter (fun j => !listed.getD j true)).Nodup:=List.nodup_range.filter _;have heq:(List.range c).filter (fun j => !(listed.setIfInBounds i true).getD j true)=((List.range c).filter (fun j => !listed.getD j true)).erase i:=by
       rw[a9.erase_eq_filter,List.filter_filter];apply List.filter_congr;intro j hj;have hjs:j<listed.size:=by have:=List.mem_range.1 hj;omega
       by_cases hji:j=i
       . subst hji;simp [Array.getD,hjs]
       have:i≠j:=fun h=>hji h.symm
       simp [Array.getD,hjs,Array.getElem_setIfInBounds,this,hji]
      rw[heq,List.length_erase_of_mem (List.mem_filter.2 ⟨List.mem_range.2 hic,by rw[r2];rfl⟩),E];rfl
    . have htd:t≠d:=by rintro rfl;rw [hfreed] at hu;cases hu
      rw[hothers t htd];exact K.val t u hu
    have hjs:j<listed.size:=by have:=(List.getElem?_eq_some_iff.1 hj).1;omega
    by_cases hji:j=i
    . subst hji;rw[O] at hj;cases hj;exact hdv
    have hdd:dj≠d:=by
     rintro rfl;have N:j<core.length:=(List.getElem?_eq_some_iff.1 hj).1;have Z:i<core.length:=(List.getElem?_eq_some_iff.1 O).1;have e1:(core.map (·.1))[j]'(by simpa using N)=dj:=by
      rw[l2c,(List.getElem?_eq_some_iff.1 hj).2]
     have e2:(core.map (·.1))[i]'(by simpa using Z)=dj:=by
      rw[l2c,(List.getElem?_eq_some_iff.1 O).2]
     exact hji ((List.getElem_inj hnd).1 (e1.trans e2.symm))
    rw[hothers dj hdd];refine h5 j dj vj dpj hj ?_;have:i≠j:=fun h=>hji h.symm
    simp [Array.getD,hjs,Array.getElem_setIfInBounds,this] at hl ⊢;exact hl
 have hfr:((List.range c).filter (fun j => !(Array.replicate m false).getD j true)).length=c:=by
  have:(List.range c).filter (fun j => !(Array.replicate m false).getD j true)=List.range c:=by
   rw[l2A];intro j hj;have:j<m:=by have:=List.mem_range.1 hj;omega
   simp [Array.getD,this]
  rw[this,l1H]
 intro a ha;have:=main c (Array.replicate m false) a w M Sm (fun j J Y=>by simp [Array.getD,Y]) (fun i o ho hl=>by
  rcases l0K i m with h|h
  . simp [Array.getD,h] at hl
  . simp [Array.getD,Nat.not_lt.2 h] at hl) hfr ha (fun j d v dp hj hl=>by
  have hjc:j<m:=by have:=(List.getElem?_eq_some_iff.1 hj).1;omega
  simp [Array.getD,hjc] at hl) H (Mem.le.refl M)
 rwa [show m-c+c=m by omega] at this
end
end Go.Ph
end
section
namespace Go.Ph
open Go Go.RowKit Pl
def PtM (M:Mem)(b:Nat)(o:Obj):Prop:=M b=some o
theorem PtM.mono {M M':Mem}{b:Nat}{o:Obj}(h:PtM M b o)(hl:M.le M'):PtM M' b o:=hl _ _ h
theorem PtM.cell {M:Mem}{b j:Nat}{cs:List Value}{t:TypeId}{u:Value}(h:PtM M b (.cells cs.toArray t))(hj:cs[j]? = some u):CellM M ⟨b,j,none⟩ u:=⟨rfl,_,_,_,h,by rw[List.getElem?_toArray];exact hj⟩
theorem PtM.all {M:Mem}{b:Nat}{cs:List Value}{t:TypeId}(h:PtM M b (.cells cs.toArray t)):CellsM M ⟨b,0,none⟩ cs:=⟨rfl,_,_,_,h,fun j u hj=>by rw[l0r,List.getElem?_toArray];exact hj⟩
section
variable {C : Nat → Prop} {r : Option Nat} {P : Program} {ops : Array Oper} {Q : Exit → Act → World → Prop} {n : Nat} {D : List Deferred} {rest : List Oper} {e : Env} {w0 w : World} {M0 M : Mem} {L L' : List Item} {d : Nat} {v u z : Value}
  {x y : Operand} {ty t t' te ts tt t0 : TypeId} {pos : String} {af : Array Edge} {g : Option (Nat × Bool)} {dst : Option Tmp} {α : Type} {enc : α → Value} {l l2 l3 l4 : List α} {b len : Nat}
theorem Ex.idxArrC {i:Int}{a:α}{k:IntKind}(hs:P.underlying t=some (.array len t0))(hz :∀w,(sizeOf t0).run P w = .ok 1 w)(hx:ev e x=some (ptr b 0))(hy:ev e y=some (.int k i))(hi:idxA len l i=some a):
 Ex P ⟨dst, .indexAddr t x y,ty,pos,af,g⟩ e w (ptr b i.toNat) w:=by
 obtain⟨K,E⟩:=idxA_some hi;have J:=idx_lt E;have:=q1n (P:=P) (w:=w) (dst:=dst) (ty:=ty) (pos:=pos) (af:=af) (g:=g) (i:=i.toNat) hs hz hx (by rw[hy,l0s J.1]) Om;rwa [l0r,l0O] at this
theorem map_idx {i:Int}{a:α}(hi:idxA len l i=some a):(l.map enc)[i.toNat]? = some (enc a):=by
 rw[List.getElem?_map,(idx_some (idxA_some hi).2).2];rfl
theorem Ex.loadArrM {i:Int}{a:α}(H:StX C w0 M0 M L w)(hx:ev e x=some (ptr b i.toNat))(hp:PtM M b (.cells (l.map enc).toArray t'))(hi:idxA len l i=some a)(ha :∀w,(isAgg tt).run P w = .ok false w):
 Ex P ⟨dst, .load tt x,ty,pos,af,g⟩ e w (enc a) w:=q0n H hx (hp.cell (map_idx hi)) ha
theorem WR.storeArr {i:Int}{a:α}{L':Item->List Item}(H:StX C w0 M0 M L w)(hx:ev e x=some (ptr b i.toNat))(hy:ev e y=some (enc a))(ho:One (enc a))(hu :∀it',Upd L (.blk b (.cells (l.map enc).toArray t')) it' (L' it'))(hi:putA len l i a=some l2)
 (hs :∀w,(sizeOf tt).run P w = .ok 1 w) (hw:Wn ops n D e ⟨none, .store tt x y,ty,pos,af,g⟩) (k :∀w',StX C w0 M0 M (L' (.blk b (.cells (l2.map enc).toArray t'))) w'->WR r P ops Q n D rest e w') :
 WR r P ops Q n D (⟨none, .store tt x y,ty,pos,af,g⟩::rest) e w:=by
 obtain⟨J,E⟩:=putA_some hi;obtain⟨K,rfl⟩:=put_some E;exact q1d _ H hx hy (hu _) (by rw[List.map_set]) hs (by rw[l0l];omega) ho.2 ho.1 hw k
theorem Ex.loadAggA (H:StX C w0 M0 M L w)(hx:ev e x=some (ptr b 0))(hm:Item.blk b (.cells (l.map enc).toArray t')∈L)(ha :∀w,(isAgg tt).run P w = .ok true w)(hs :∀w,(sizeOf tt).run P w = .ok len w)(hl:chkA len l=some l2):
 Ex P ⟨dst, .load tt x,ty,pos,af,g⟩ e w (.agg (l2.map enc).toArray) w:=by
 obtain⟨E,rfl⟩:=chkA_some hl;exact q08 H hx hm ha hs (by rw[l0l];exact E)
theorem StX.loadAggA (H:StX C w0 M0 M L w)(hm:Item.blk b (.cells (l.map enc).toArray t')∈L)(ha :∀w,(isAgg tt).run P w = .ok true w)(hs :∀w,(sizeOf tt).run P w = .ok len w)(hl:chkA len l=some l2):(loadVar tt ⟨b,0,none⟩).run P w = .ok (.agg (l2.map enc).toArray) w:=by
 obtain⟨E,rfl⟩:=chkA_some hl;exact H.loadAgg hm ha hs (by rw[l0l];exact E)
theorem WR.storeA {L':Item->List Item}(H:StX C w0 M0 M L w)(hx:ev e x=some (ptr b 0))(hy:ev e y=some (.agg (l2.map enc).toArray))(ho :∀a,(enc a).oneCell'=true)(hu :∀it',Upd L (.blk b (.cells (l.map enc).toArray t')) it' (L' it'))(E:chkA len l=some l3)(J:chkA len l2=some l4)
 (hs :∀w,(sizeOf tt).run P w = .ok len w) (hw:Wn ops n D e ⟨none, .store tt x y,ty,pos,af,g⟩) (k :∀w',StX C w0 M0 M (L' (.blk b (.cells (l2.map enc).toArray t'))) w'->WR r P ops Q n D rest e w') :
 WR r P ops Q n D (⟨none, .store tt x y,ty,pos,af,g⟩::rest) e w:=by
 have K:=(chkA_some E).1;have N:=(chkA_some J).1;exact q04 _ H hx hy rfl (hu _) hs (by rw[l0l];exact N) (by rw[l0l];exact K) (by rw[List.all_map];exact List.all_eq_true.2 (fun a _=>ho a)) hw k
abbrev _root_.q1z := @WR.storeA
theorem Ex.nilCheckP {p:Addr}(h:ev e x=some (.pointer (some p))):Ex P ⟨dst, .nilCheck x,ty,pos,af,g⟩ e w (.pointer (some p)) w:=⟨nofun,fun ρ hf=>by simp [execOp,hf _ _ h]⟩
abbrev _root_.q0S := @Ex.nilCheckP
theorem Ex.runeStr {E:TypeDesc}{k:IntKind}{a:Int}(hs:P.underlying t=some E)(hd:P.underlying t'=some .string)(hx:ev e x=some (.int k a)):Ex P ⟨dst, .convert t t' x,ty,pos,af,g⟩ e w (S (Chs.utf8 a)) w :=
 ⟨nofun,fun ρ hf=>by
  have hr:=run_convert_int_string (P:=P) w t t' k a (by rw[hs];rfl) hd;rw[Chs.encode_utf8] at hr;simp only[execOp,hf _ _ hx,Sem.run_bind,hr,Result.andThen_ok,Sem.run_pure]⟩
theorem StX.freezeVar {cs:Array Value}(H:St w0 M0 M L w)(hr:Rem L (.blk b (.cells cs t)) L'):∃M',M.le M'/\PtM M' b (.cells cs t)/\St w0 M0 M' L' w:=H.freezeBlk hr
end
def NilB (M:Mem)(v:Value)(b:Bool):Prop:=(b=true/\v = .nilIface)∨(b=false/\∃t u,v = .iface t u)
theorem NilB.mono {M M':Mem}{v:Value}{b:Bool}(h:NilB M v b)(hl:M.le M'):NilB M' v b:=h
section
variable {C : Nat → Prop} {r : Option Nat} {P : Program} {ops : Array Oper} {Q : Exit → Act → World → Prop} {n : Nat} {D : List Deferred} {rest : List Oper} {e : Env} {w0 w : World} {M0 M : Mem} {L L' : List Item} {d : Nat} {v u z : Value}
  {x : Operand} {ty t t' te ts tt t0 : TypeId} {pos : String} {af : Array Edge} {g : Option (Nat × Bool)} {dst : Option Tmp} {b : Bool}
theorem Ex.neqNil (ht:P.underlying t=some (.interface (P.methodsAt t)))(h:NilB M v b)(hx:ev e x=some v):Ex P ⟨dst, .binOp .neq t x (.const .nilIface) t',ty,pos,af,g⟩ e w (.bool (!b)) w :=
 ⟨nofun,fun ρ hf=>by
  have E:ρ (.const .nilIface) = .nilIface:=hf _ _ rfl;rcases h with ⟨rfl,rfl⟩|⟨rfl,J,K,rfl⟩ <;>
  simp [execOp,hf _ _ hx,E,eqGuard,run_neq_held_nil _ _ _ _ ht,run_neq_nil_nil _ _ ht]⟩
theorem PtM.sl {α:Type}{M:Mem}{b n:Nat}{enc:α->Value}{l l2:List α}{t:TypeId}(h:PtM M b (.cells (l.map enc).toArray t))(hl:chkA n l=some l2)(hm:Nat.ble n 9223372036854775807=true):Sl M enc (.slice (some ⟨b,0,none⟩) n n) l2:=by
 obtain⟨E,rfl⟩:=chkA_some hl;have hm:=l09 hm;refine⟨some ⟨b,0,none⟩,n,by rw[E],by omega,⟨by simp only[maxLen];omega,fun h=>by cases h⟩,fun _=>⟨b,0,_,t,(0,0),rfl,h,fun i x hi=>?_⟩⟩;rw[l0r,List.getElem?_toArray,List.getElem?_map,hi];rfl
end
def skips (ops:Array Oper)(n:Nat):Env->List Oper->Option Env
 | e,[]=>some e
 | e,o::r=>match o.guard,o.dst with
   | some (j,b),some d=>match (ops[j]?).bind (·.dst) with
     | some t=>match get e t with
       | some (.bool b')=>bif (b' != b)&&Nat.blt d n then skips ops n ((d,undef)::e) r else none
       | some (.tuple _)=>bif Nat.blt d n then skips ops n ((d,undef)::e) r else none
       | _=>none
     | none=>none
   | _,_=>none
section
variable {r : Option Nat} {P : Program} {ops : Array Oper} {Q : Exit → Act → World → Prop} {n : Nat} {D : List Deferred} {e e' : Env} {w : World}
theorem WR.skips :∀{sk:List Oper} {rest:List Oper} {e:Env},Ph.skips ops n e sk=some e'->WR r P ops Q n D rest e' w->WR r P ops Q n D (sk++rest) e w
 | [],rest,e,h,k=>by
   cases h;exact k
 | o :: sk,rest,e,h,k=>by
   rw[Ph.skips] at h;split at h
   case h_2=>cases h
   rename_i j b d hg hd;split at h
   case h_2=>cases h
   rename_i t ht;split at h
   . rename_i b' hb;cases hc:((b' != b)&&Nat.blt d n) with
     | false=>rw[hc] at h;cases h
     | true =>
       rw[hc] at h;rw[l0d] at hc;have hne:b'≠b:=by simpa using hc.1
       exact WR.skipK (fun a ha=>by
        have:=yielded_of ht ha hb;simp [Region.wanted,hg,this,hne]) hd (l09 hc.2) (WR.skips h k)
   . rename_i xs hb;cases hc:Nat.blt d n with
     | false=>rw[hc] at h;cases h
     | true =>
       rw[hc] at h;exact WR.skipK (fun a ha=>by
        have hv:=ha.val t _ hb;have:yielded ops a.tmps j=none:=by
         unfold yielded;rw[ht];simp only[l1n];cases htt:a.tmps[t]? with
         | none=>rfl
         | some x=>simp [htt] at hv;subst hv;rfl
        simp [Region.wanted,hg,this]) hd (l09 hc) (WR.skips h k)
   cases h
theorem WR.skipN (m:Nat){l rest:List Oper}(hr:l.drop m=rest)(h:Ph.skips ops n e (l.take m)=some e')(k:WR r P ops Q n D rest e' w):WR r P ops Q n D l e w:=by
 subst hr;have:=WR.skips h k;rwa [l0E] at this
abbrev _root_.q0i := @WR.skipN
end
end Go.Ph
end
section
namespace Go.Ph
open Go Go.RowKit
theorem kMh {α:Type}{a:α}{l:List α}:a∈a::l:=List.Mem.head _
theorem kMt {α:Type}{a b:α}{l:List α}(h:a∈l):a∈b::l:=List.Mem.tail _ h
theorem kPn {L:List Item}:Pick L []:=Pick.nil
theorem kPc {L L' K:List Item}{it:Item}(h:Rem L it L')(k:Pick L' K):Pick L (it::K):=Pick.cons h k
universe u
theorem _root_.G {α:Sort u}{a:α}:a=a:=rfl
theorem _root_.Kr {p:Prop}(h:p:=by kernel_rfl):p:=h
theorem _root_.Km {p:Prop}(h:p:=by repeat first|exact kMh|apply kMt):p:=h
theorem _root_.Ku {p:Prop}(h:p:=by repeat first|exact Upd.head|apply Upd.tail):p:=h
theorem _root_.Kv {p:Prop}(h:p:=by repeat first|exact Rem.head|apply Rem.tail):p:=h
theorem _root_.Kp {p:Prop}(h:p:=by repeat first|exact kPn|refine kPc (by repeat first|exact Rem.head|apply Rem.tail) ?_):p:=h
theorem _root_.Kf {p:Prop}(h:p:=by rfl):p:=h
class RTo (Q:Exit->Act->World->Prop)(Q0:outParam (Exit->Act->World->Prop)):Prop where
 rto :∀{n:Nat} {D:List Deferred} {e:Env} {w:World},WQ Q0 .ret n D e w->WQ Q .ret n D e w
section
variable {r : Option Nat} {P : Program} {ops : Array Oper} {Q Q0 : Exit → Act → World → Prop} {n fuel : Nat} {D : List Deferred} {rest l : List Oper} {e : Env} {w w' : World} {o : Oper} {d j t : Nat} {v : Value} {op : Go.Op} {x x2 c : Operand} {y z : Code} {ty : TypeId} {pos : String} {af : Array Edge} {K : Act → World → Prop} {listed : Array Bool} {b : Bool}
instance [h : RTo Q Q0]:RTo (Exit.then K Q) Q0:=⟨fun k=>WQ.thenRet (h.rto k)⟩
instance {id : Nat} [h:RTo Q Q0]:RTo (Exit.inBlock id Q) Q0:=⟨fun k=>WQ.inBlockRet (h.rto k)⟩
instance {JN : Env->World->Prop} {JL:List (Nat × (Env->World->Prop))} {n:Nat} {D:List Deferred} [h:RTo Q Q0]:RTo (CutX JN JL n D Q) Q0:=⟨fun{n' D' e w} k a ha=>h.rto k a ha⟩
instance [h : RTo Q Q0]:RTo (Straight Q) Q0:=⟨fun k=>WQ.scRet (h.rto k)⟩
instance {fn : Func} {R:Ending->World->Prop}:RTo (bodyPost P fn R) (bodyPost P fn R):=⟨id⟩
instance {F : Fence} {m:Nat} {fn:Func} {R:Ending->World->Prop}:RTo (bodyPostM F m P fn R) (bodyPostM F m P fn R):=⟨id⟩
instance {lid : Nat} {R:Ending->World->Prop}:RTo (roundPost P lid R) (roundPost P lid R):=⟨id⟩
theorem RT [h:RTo Q Q0](k:WQ Q0 .ret n D e w):WC r P Q n D .ret e w:=WC.ret (h.rto k)
theorem TN {Q':Exit->Act->World->Prop}(k:WC r P Q n D y e w):WQ (Exit.then (y.wpIn (Wd r) 0 P Q) Q') .normal n D e w:=WQ.then k
theorem NL (k:WQ Q .normal n D e w):WR r P ops Q n D [] e w:=q1k k
theorem SQ (k:WC r P (Exit.then (y.wpIn (Wd r) 0 P Q) Q) n D z e w):WC r P Q n D (.seq z y) e w:=WC.seq k
theorem RG {id:Nat}(k:WR r P l.toArray Q n D l e w):WC r P Q n D (.region id l.toArray false) e w:=q1o k
theorem SK (k:WQ Q .normal n D e w):WC r P Q n D .skip e w:=WC.skip k
theorem IB {id:Nat}(k:WQ Q .normal n D e w):WQ (Exit.inBlock id Q) .normal n D e w:=WQ.inBlock k
theorem BL {id:Nat}(k:WC r P (Exit.inBlock id Q) n D y e w):WC r P Q n D (.block id y) e w:=WC.block k
theorem CT (hc:ev e c=some (.bool true))(k:WC r P Q n D y e w):WC r P Q n D (.cond c y z) e w:=WC.condT hc k
theorem CF (hc:ev e c=some (.bool false))(k:WC r P Q n D z e w):WC r P Q n D (.cond c y z) e w:=WC.condF hc k
theorem NA (k:WA r P ops Q n D fuel listed e w):WR r P ops (Qa r P ops Q fuel listed) n D [] e w:=q1k (WQ.any k)
theorem ON (i:Nat)(hr:Region.ready .any ops listed=[i])(ho:ops[i]? = some o)(k:WR r P ops (Qa r P ops Q fuel (listed.setIfInBounds i true)) n D [o] e w):WA r P ops Q n D (fuel+1) listed e w:=WA.one hr ho k
theorem MV (h:ev e x=some v)(hn:Nat.blt d n=true)(k:WR r P ops Q n D rest ((d,v)::e) w):WR r P ops Q n D (⟨some d, .move x,ty,pos,af,none⟩::rest) e w:=q0w (q06 h) (q00 rfl) rfl hn k
theorem AS (h:ev e x=some v)(hn:Nat.blt d n=true)(k:WR r P ops Q n D rest ((d,v)::e) w):WR r P ops Q n D (⟨some d, .assign x,ty,pos,af,none⟩::rest) e w:=q0w (q1u h) (q00 rfl) rfl hn k
theorem PT (hc:ev e c=some (.bool true))(h:ev e x=some v)(hn:Nat.blt d n=true)(k:WR r P ops Q n D rest ((d,v)::e) w):WR r P ops Q n D (⟨some d, .pick c x x2,ty,pos,af,none⟩::rest) e w:=q0w (Ex.pickT hc h) (q00 rfl) rfl hn k
theorem PF (hc:ev e c=some (.bool false))(h:ev e x2=some v)(hn:Nat.blt d n=true)(k:WR r P ops Q n D rest ((d,v)::e) w):WR r P ops Q n D (⟨some d, .pick c x x2,ty,pos,af,none⟩::rest) e w:=q0w (Ex.pickF hc h) (q00 rfl) rfl hn k
theorem ST (hx:Ex P ⟨some d,op,ty,pos,af,none⟩ e w v w')(hn:Nat.blt d n=true)(k:WR r P ops Q n D rest ((d,v)::e) w'):WR r P ops Q n D (⟨some d,op,ty,pos,af,none⟩::rest) e w:=q0w hx (q00 rfl) rfl hn k
theorem SG (hx:Ex P ⟨some d,op,ty,pos,af,some (j,b)⟩ e w v w')(hj:(ops[j]?).bind (·.dst)=some t)(hb:get e t=some (.bool b))(hn:Nat.blt d n=true)(k:WR r P ops Q n D rest ((d,v)::e) w'):WR r P ops Q n D (⟨some d,op,ty,pos,af,some (j,b)⟩::rest) e w:=q0w hx (q0h rfl hj hb) rfl hn k
theorem GT (hj:(ops[j]?).bind (·.dst)=some t)(hb:get e t=some (.bool true))(hn:Nat.blt d n=true)(k:WR r P ops Q n D rest ((d,undef)::e) w):WR r P ops Q n D (⟨some d,op,ty,pos,af,some (j,false)⟩::rest) e w:=WR.skipG (b:=true) rfl hj hb rfl hn k
theorem GF (hj:(ops[j]?).bind (·.dst)=some t)(hb:get e t=some (.bool false))(hn:Nat.blt d n=true)(k:WR r P ops Q n D rest ((d,undef)::e) w):WR r P ops Q n D (⟨some d,op,ty,pos,af,some (j,true)⟩::rest) e w:=WR.skipG (b:=false) rfl hj hb rfl hn k
theorem CB {p:Prop}{_i:Decidable p}(hc:ev e c=some (.bool (decide p)))(kt:p->WC r P Q n D y e w)(kf :¬p->WC r P Q n D z e w):WC r P Q n D (.cond c y z) e w:=q0a hc (fun h=>kt (of_decide_eq_true h)) (fun h=>kf (of_decide_eq_false h))
theorem XL {C:Nat->Prop}{u:World}{M0 M:Mem}{L:List Item}{g:Option (Nat × Bool)}{dst:Option Nat}{tt t':TypeId}{bk o:Nat}{cs:List Value}(H:StX C u M0 M L w)(ha :∀w,(isAgg tt).run P w = .ok false w)(hx:ev e x=some (ptr bk o):=by rfl)(hm:Item.blk bk (.cells cs.toArray t')∈L:=by repeat first|exact kMh|apply kMt)(hv:cs[o]? = some v:=by rfl):Ex P ⟨dst, .load tt x,ty,pos,af,g⟩ e w v w:=Ex.load1 H hx hm ha hv
theorem MN {JN:Env->World->Prop}{JL:List (Nat × (Env->World->Prop))}{Q':Exit->Act->World->Prop}{e':Env}(hJ:JN e' w)(hs:Sub e' e:=by repeat first|exact True.intro|refine⟨rfl,?_⟩):WQ (CutX JN JL n D Q') .normal n D e w:=WQ.meetN e' hs hJ
theorem MP {J:Env->World->Prop}{Q':Exit->Act->World->Prop}{e':Env}(hJ:J e' w)(hs:Sub e' e:=by repeat first|exact True.intro|refine⟨rfl,?_⟩):WQ (Exit.then (fun a' w' =>∃e',Sat n D e' a'/\J e' w') Q') .normal n D e w:=WQ.meetP e' hs hJ
theorem AG {J:Nat->Env->World->Prop}{m:Nat}{Q':Exit->Act->World->Prop}{e':Env}(m':Nat)(hJ:J m' e' w)(hm:m'<m)(hs:Sub e' e:=by repeat first|exact True.intro|refine⟨rfl,?_⟩):WQ (Exit.then (fun a' w' =>∃m' e',Sat n D e' a'/\J m' e' w'/\m'<m) Q') .normal n D e w:=WQ.againP m' e' hs hJ hm
theorem DT {p:Prop}{_i:Decidable p}(h:p)(hx:Ex P ⟨some d,op,ty,pos,af,none⟩ e w (.bool (decide p)) w')(hn:Nat.blt d n=true)(k:WR r P ops Q n D rest ((d, .bool true)::e) w'):WR r P ops Q n D (⟨some d,op,ty,pos,af,none⟩::rest) e w:=q0D hx (congrArg Value.bool (decide_eq_true h)) (q00 rfl) rfl hn k
theorem DF {p:Prop}{_i:Decidable p}(h :¬p)(hx:Ex P ⟨some d,op,ty,pos,af,none⟩ e w (.bool (decide p)) w')(hn:Nat.blt d n=true)(k:WR r P ops Q n D rest ((d, .bool false)::e) w'):WR r P ops Q n D (⟨some d,op,ty,pos,af,none⟩::rest) e w:=q0D hx (congrArg Value.bool (decide_eq_false h)) (q00 rfl) rfl hn k
theorem DU {p:Prop}{_i:Decidable p}(h:p)(hx:Ex P ⟨some d,op,ty,pos,af,some (j,b)⟩ e w (.bool (decide p)) w')(hj:(ops[j]?).bind (·.dst)=some t)(hb:get e t=some (.bool b))(hn:Nat.blt d n=true)(k:WR r P ops Q n D rest ((d, .bool true)::e) w'):WR r P ops Q n D (⟨some d,op,ty,pos,af,some (j,b)⟩::rest) e w:=q0D hx (congrArg Value.bool (decide_eq_true h)) (q0h rfl hj hb) rfl hn k
theorem DG {p:Prop}{_i:Decidable p}(h :¬p)(hx:Ex P ⟨some d,op,ty,pos,af,some (j,b)⟩ e w (.bool (decide p)) w')(hj:(ops[j]?).bind (·.dst)=some t)(hb:get e t=some (.bool b))(hn:Nat.blt d n=true)(k:WR r P ops Q n D rest ((d, .bool false)::e) w'):WR r P ops Q n D (⟨some d,op,ty,pos,af,some (j,b)⟩::rest) e w:=q0D hx (congrArg Value.bool (decide_eq_false h)) (q0h rfl hj hb) rfl hn k
theorem FN {u:Nat}{J N:Operand}{O U:TypeId}{E:String}{V:Array Edge}{p:Addr}{bk o i sz:Nat}{fs:Array Field}{f:Field}(Z:ev e J=some (.pointer (some p)))(hn:Nat.blt d n=true)(hs:P.underlying O=some (.struct fs))(hf:fs[i]? = some f)(hz :∀w,(sizeOf f.type).run P w = .ok sz w)(h2:ev ((d, .pointer (some p))::e) N=some (ptr bk o))(Y:Nat.blt u n=true)
 (k:WR r P ops Q n D rest ((u,ptr bk (o+f.offset))::(d, .pointer (some p))::e) w) (hnz:sz≠0:=by decide):WR r P ops Q n D (⟨some d, .nilCheck J,ty,pos,af,none⟩::⟨some u, .fieldAddr O N i,U,E,V,none⟩::rest) e w:=ST (q0S Z) hn (ST (q01 hs hf hz hnz h2) Y k)
theorem TK (i:Nat)(ho:ops[i]? = some ⟨some d,op,ty,pos,af,none⟩)(hx :∀w,Ex P ⟨some d,op,ty,pos,af,none⟩ e w v w)(hn:Nat.blt d n=true)(k:WA none P ops Q n D fuel (listed.setIfInBounds i true) ((d,v)::e) w)(hs:Region.noSelect ops=true:=by kernel_rfl)(hf:Region.free .any ops listed i=true:=by kernel_rfl)(hr:(Region.ready .any ops listed).contains i=true:=by kernel_rfl)
 (hab :∀w ρ,(⟨some d,op,ty,pos,af,none⟩:Oper).about P w ρ=none:=by intro _ _;rfl):WA none P ops Q n D (fuel+1) listed e w:=q0P ho hs hf hr hx (q00 rfl) rfl hn hab k
theorem oI {α:Type}{a b:α}(h:some a=some b):a=b:=Option.some.inj h
end
end Go.Ph
end
section
namespace Go.Ph
open Go Go.RowKit Pl
namespace Pl
def mkS {α:Type}(bytes:Nat)(n c:Int)(z:α):Option (List α):=if 0<=n/\n<=c/\(bytes:Int)*c<=281474976710656/\c<=9223372036854775807 then some (List.replicate n.toNat z) else none
theorem mkS_ok {α:Type}{bytes:Nat}{n c:Int}{z:α}(E:0<=n)(J:n<=c)(K:(bytes:Int)*c<=281474976710656)(N:c<=9223372036854775807):mkS bytes n c z=some (List.replicate n.toNat z):=by unfold mkS;rw [if_pos ⟨E,J,K,N⟩]
end Pl
theorem mkS_some {α:Type}{bytes:Nat}{n c:Int}{z:α}{l:List α}(h:mkS bytes n c z=some l):(0<=n/\n<=c/\(bytes:Int)*c<=281474976710656/\c<=9223372036854775807)/\l=List.replicate n.toNat z:=by
 unfold mkS at h;split at h
 . cases h;exact ⟨‹_›,rfl⟩
 cases h
theorem made_take {zs:Array Value}{us:List Value}{kk:Nat}(hz:zs.toList=us)(hk:us.length=kk)(hp:0<kk)(n c:Nat)(h:n<=c):(madeCells zs (c*kk)).toList.take (n*kk)=(List.replicate n us).flatten:=by
 have hsz:zs.size=kk:=by rw[<-hk,<-hz,Array.length_toList]
 apply l1k;intro i;have K:n*kk<=c*kk:=l0W kk h;by_cases hi:i<n*kk
 . rw [List.getElem?_take_of_lt hi];have N:i % kk<kk:=l1I _ hp;have O:i / kk<n:=by rw[l2t hp];exact hi
   have hl:(madeCells zs (c*kk)).toList[i]? = some us[i % kk]:=by
    simp only[madeCells,Array.getElem?_toList,Array.getElem?_map];have:(Array.range (c*kk))[i]? = some i:=by
     rw[Array.getElem?_eq_some_iff];exact⟨by rw[Array.size_range];omega,by simp⟩
    rw[this,l0J,hsz];have:zs[i % kk]! = us[i % kk]:=by
     subst hz;rw[getElem!_pos zs (i % kk) Om];simp
    rw[this]
   rw[hl];have hfl :∀(n i:Nat),i<n*kk->(List.replicate n us).flatten[i]? = some (us[i % kk]'(by rw[hk];exact l1I _ hp)):=by
    intro n;induction n with
    | zero=>intro i hi;simp at hi
    | succ n ih =>
      intro i hi;rw[List.replicate_succ,l0L];by_cases hik:i<kk
      . rw[List.getElem?_append_left Om];have:i % kk=i:=l1A hik;simp only[this];exact List.getElem?_eq_getElem Om
      have J:(i-kk) % kk=i % kk:=by rw[<-Nat.mod_eq_sub_mod Om]
      have E:=ih (i-kk) (by rw[Nat.succ_mul] at hi;omega);simp only[J] at E;rw[List.getElem?_append_right Om,<-E];congr 1;omega
   rw[hfl n i hi]
 have U:(List.replicate n us).flatten.length=n*kk:=by simp [hk]
 rw[List.getElem?_eq_none (by simp only[l0c,Array.length_toList,size_madeCells];omega),List.getElem?_eq_none Om]
section
variable {C : Nat → Prop} {r : Option Nat} {P : Program} {ops : Array Oper} {Q : Exit → Act → World → Prop} {n : Nat} {D : List Deferred} {rest : List Oper} {e : Env} {w0 w : World} {M0 M : Mem} {L L' : List Item} {d : Nat} {v u z : Value}
  {x y : Operand} {ty t t' te ts tt t0 : TypeId} {pos : String} {af : Array Edge} {g : Option (Nat × Bool)} {dst : Option Tmp} {b : Bool}
theorem run_makeRow {kk bytes:Nat}(T:ElemTy P ts t z kk bytes){us:List Value}(hz:z.cells.toList=us)(E J:IntKind){a c:Int}(h:0<=a/\a<=c/\(bytes:Int)*c<=281474976710656/\c<=9223372036854775807):
 ∃w',(Instr.makeSlice ts (.int E a) (.int J c)).run P w = .ok (.slice (some ⟨w.heap.size,0,none⟩) a.toNat c.toNat) w'/\
  w'.ownsRow 0 t kk (.slice (some ⟨w.heap.size,0,none⟩) a.toNat c.toNat) a.toNat (List.replicate a.toNat us).flatten/\w.grownBy w' none:=by
 obtain⟨i,hi,hz',hsz,hb⟩:=T.info;subst hb;have hr:=run_make (P:=P) w ts t i z T.under hi hz' E J a c h.1 h.2.1 h.2.2.1 h.2.2.2;have hus:us.length=kk:=by rw[<-hz];simpa using T.zs
 refine⟨_,hr,⟨by simp [hus,l1Z], .inr ⟨w.heap.size,c.toNat,madeCells z.cells (c.toNat*i.size),G,l0o _,heap_alloc_new w _,by omega,by simp only[maxLen];omega,by rw[size_madeCells,hsz],?_⟩⟩,World.grownBy_alloc w _ none⟩;rw[hsz];exact made_take hz hus T.pos _ _ Om
theorem WR.mkC {α:Type}{enc:α->Value}{z0:α}{E J:IntKind}{bytes:Nat}{a c:Int}{l:List α}(T:ElemTy P ts t z 1 bytes)(hz:z.cells.toList=[enc z0])(H:StX C w0 M0 M L w)(hx:ev e x=some (.int E a))(hy:ev e y=some (.int J c))(hm:mkS bytes a c z0=some l)
 (hw:Wn ops n D e ⟨some d, .makeSlice ts x y,ty,pos,af,g⟩) (hn:Nat.blt d n=true)
 (k :∀v' w',StX C w0 M0 M (RowI t enc v' l::L) w'->WR r P ops Q n D rest ((d,v')::e) w') :
 WR r P ops Q n D (⟨some d, .makeSlice ts x y,ty,pos,af,g⟩::rest) e w:=by
 obtain⟨h,rfl⟩:=mkS_some hm;obtain⟨w',hr,ho,hg⟩:=run_makeRow (w:=w) T hz E J h;refine q0w (w':=w') ⟨nofun,fun ρ hf=>?_⟩ hw G hn (k _ _ (H.new hg (it:=RowI t enc _ (List.replicate a.toNat z0)) (by
  have:(List.replicate a.toNat [enc z0]).flatten=(List.replicate a.toNat z0).map enc:=by simp
  rw[this] at ho;have K:(List.replicate a.toNat z0).length=a.toNat:=by simp
  show World.ownsRow _ _ _ _ _ (List.replicate a.toNat z0).length _
  rw[K];exact ho) (fun b hb=>by cases hb;exact l07 _)))
 simp only[execOp,hf _ _ hx,hf _ _ hy,Sem.run_bind,hr,Result.andThen_ok,Sem.run_pure]
end
section
variable {P : Program} {e : Env} {w : World} {x : Operand} {ty t : TypeId} {pos : String} {af : Array Edge} {g : Option (Nat × Bool)} {dst : Option Tmp} {a z : Int}
end
section
variable {P : Program} {α : Type} {enc : α → Value} [DecidableEq α] {t t0 : TypeId} {d n : Nat}
end
def GlF (φ:World->Prop)(M:Mem):Prop :=∀w,Ag M w->φ w
theorem GlF.mono {φ:World->Prop}{M M':Mem}(h:GlF φ M)(hl:M.le M'):GlF φ M':=fun w ha=>h w (fun b o hb=>ha b o (hl b o hb))
end Go.Ph
end
section
namespace Go.Ph
open Go Go.RowKit Pl
namespace Pl
def dgF : Nat->Nat->Ls
 | 0,_=>[]
 | m+1,n=>if n<10 then [UInt8.ofNat (48+n)] else dgF m (n / 10)++[UInt8.ofNat (48+n % 10)]
def itoaP (n:Int):Ls:=if n<0 then 45::dgF 20 n.natAbs else dgF 20 n.toNat
theorem dgF_eq :∀(m n:Nat),n<10 ^ (m+1)->dgF (m+1) n=Lib.decDigits n
 | 0,n,h=>by
   have h:n<10:=by simpa using h
   rw[dgF,Lib.decDigits,if_pos h,dif_pos h]
 | m+1,n,h=>by
   rw[dgF,Lib.decDigits];by_cases hn:n<10
   . rw[if_pos hn,dif_pos hn]
   rw[if_neg hn,dif_neg hn,dgF_eq m (n / 10) (by rw[l2t Om,<-l2v];exact h)]
theorem itoaP_eq {n:Int}(h : -9223372036854775808<=n/\n<=9223372036854775807):itoaP n=Lib.itoa n:=by
 unfold itoaP Lib.itoa;rw[dgF_eq 19 n.natAbs Om,dgF_eq 19 n.toNat Om]
def atoiP (l:Ls):Int × Bool:=match Lib.atoiAll l with
 | .ok v=>(v,true)
 | .range=>(Lib.atoiSat l,false)
 | _=>(0,false)
end Pl
theorem Ext.ofBelow {M:Mem}{w w':World}(ha:Ag M w)(hw:Below w.heap.size w w'):Ext w M w' M :=
 ⟨BelowX.of hw _,Mem.le.refl M,fun b' o' hb'=>by rw[hw.block b' (ha.lt hb')];exact ha b' o' hb',fun b' hb'=>rfl⟩
abbrev _root_.q1N := @Ext.ofBelow
theorem below_grow (w:World)(k:Nat)(os:Array Obj):Below w.heap.size w (Sort.grow (w.drewN k) os):=by
 have u:Below w.heap.size w (w.drewN k):=below_drewN (Below.refl _ w) k;refine u.trans ⟨G,G,G,by simp [Sort.grow],fun j hj=>?_⟩;have:j<(w.drewN k).heap.size:=l0Q hj u.size;show((w.drewN k).heap++os)[j]? =(w.drewN k).heap[j]?
 exact Array.getElem?_append_left this
theorem Sl.split {M:Mem}{b:Nat}{t:TypeId}{xs:List ByteArray}{l:List Ls}{n:Nat}(hx:xs.map (·.data.toList)=l)(hn:l.length=n)(hm:n<=9223372036854775807)(h:M b=some (.cells (xs.map Value.string).toArray t (0,0))):Sl M encS (.slice (some ⟨b,0,none⟩) n n) l:=by
 have hl:xs.map Value.string=l.map encS:=by
  subst hx;rw[l1X];apply l1O;intro x _;cases x;simp [encS]
 rw[hl] at h;subst hn;refine⟨some ⟨b,0,none⟩,l.length,G,l07 _,⟨by simp only[maxLen];omega,fun h=>by cases h⟩,fun _=>⟨b,0,_,t,(0,0),G,h,fun i x hi=>?_⟩⟩;rw[l0r,List.getElem?_toArray,List.getElem?_map,hi];rfl
end Go.Ph
end
section
namespace Go.Ph
open Go Go.RowKit Go.ChangeShapes Go.WideShapes Go.ChangeAt
abbrev memOf (W:World):Mem:=fun b=>W.heap[b]?
theorem ag_memOf (W:World):Ag (memOf W) W:=fun _ _ h=>h
section
variable {H : Type} {enc : TypeId × Value → H} {P : Program} {W W' : World}
theorem trodAll_stays (hl:laidOutB P=true)(hB:Below W.heap.size W W'){sp:Nat->Bool}:∀{ts:List TypeId} {vs:List Value} {ds:List (DataW H)} {ps:List MemPlace},(∀t∈ts,P.readableRec t=true/\t<P.types.size)->
 (∀x∈ps,x.block<W.heap.size)->(∀x∈ps,sp x.block=true)->DataW.TrodAll enc P W 0 (fun _=>true) true ts vs ds ps->DataW.TrodAll enc P W' 0 sp true ts vs ds ps
 | [],_,_,_,_,_,_,h=>by
   obtain⟨rfl,rfl,rfl⟩:=trodAll_nil h;exact trodAll_mk0
 | t::ts,_,_,_,ht,hlt,hs,h=>by
   obtain⟨v,vs',d,ds',p,q,rfl,rfl,rfl,E,J⟩:=trodAll_cons h;have u:=ht t l0q;exact⟨p,q,WideElems.Trod_stays hl u.1 u.2 E (fun x hx=>hB.same (hlt x (l1f _ hx))) (fun x hx=>hs x (l1f _ hx)),
    trodAll_stays hl hB (fun t' ht'=>ht t' (l0u _ ht')) (fun x hx=>hlt x (l1D _ hx)) (fun x hx=>hs x (l1D _ hx)) J,rfl⟩
theorem law_done {f:Func}{s:ChangeSpec}{tb:TypeId}{apart fresh handsOn:Bool}{args:Array Value}{ds:List (DataW H)}{before:List MemPlace}(hl:laidOutB P=true)(u:(f.params.toList.all fun t=>P.readableRec t&&decide (t<P.types.size))=true)(hrt:f.resultTypes = #[tb])(hb:P.underlying tb=some .bool)
 (hW:DataW.Whole enc P f.params.toList s.vars apart W args.toList ds [] before) (hA:DataW.TrodAll enc P W 0 (fun _=>true) true f.params.toList args.toList ds before) (hv:s.vars=[]) (E:(s.fn H (ds++[])).results=[.lit (.bool true)]) (J:(s.fn H (ds++[])).args=ds) (K:(s.fn H (ds++[])).vars=[])
 (hB:Below W.heap.size W W'):s.post enc P f apart fresh handsOn false W args (.bool true) W':=by
 have hlt :∀p∈before,p.block<W.heap.size:=fun p hp=>hW.lt p hp
 have hr :∀t∈f.params.toList,P.readableRec t=true/\t<P.types.size:=fun t ht=>by simpa using List.all_eq_true.1 u t ht
 refine⟨ds,[],before,[],before,[],hW,?_,?_,?_,hB.frame _,fun h=>by cases h⟩
 . rw[hrt,E];exact trodAll_mk1 (shut_bool hb _)
 . rw[J];exact trodAll_stays hl hB hr hlt (fun x hx=>by simpa using hlt x hx) hA
 rw[hv,K];rfl
theorem cells_at {A:Addr}{n:Nat}{f:Nat->Value}(hn:0<n)(h :∀i,i<n->W.cell? (A.add i)=some (f i)):∃b o cs t fz,A=⟨b,o,none⟩/\memOf W b=some (.cells cs t fz)/\∀i,i<n->cs[o+i]? = some (f i):=by
 obtain⟨b,o,s⟩:=A;obtain rfl:s=none:=by simpa [Addr.add] using World.cell?_spot (h 0 hn)
 have u:=h 0 hn;rw[Addr.add_lit] at u;simp only[World.cell?] at u;cases hb:W.heap[b]? with
 | none=>rw[hb] at u;cases u
 | some ob =>
   cases ob with
   | cells cs t fz =>
     refine⟨b,o,cs,t,fz,G,hb,fun i hi=>?_⟩;have:=h i hi;rw[Addr.add_lit] at this;simpa [World.cell?,hb] using this
   | _=>rw[hb] at u;cases u
def DLen {H:Type}(d:DataW H)(n:Nat):Prop:=(d = .nil/\n=0)∨∃els sp,d = .slice els sp/\els.length=n
theorem weights_at {ts:List TypeId}{ds:List (DataW H)}(h :∀x∈DataW.weightsEach P ts ds,x<=reachBytes):∀(j:Nat) (t:TypeId) (d:DataW H),ts[j]? = some t->ds[j]? = some d->∀x∈d.weights P t,x<=reachBytes:=by
 intro j;induction j generalizing ts ds with
 | zero =>
   intro t d ht hd x hx;cases ts with
   | nil=>cases ht
   | cons a ts=>cases ds with
     | nil=>cases hd
     | cons b ds =>
       cases ht;cases hd;exact h x (by rw[DataW.weightsEach];exact l1f _ hx)
 | succ j ih =>
   intro t d ht hd x hx;cases ts with
   | nil=>cases ht
   | cons a ts=>cases ds with
     | nil=>cases hd
     | cons b ds=>exact ih (fun y hy=>h y (by rw[DataW.weightsEach];exact l1D _ hy)) t d ht hd x hx
theorem weights_of {ts vs:List TypeId}{ds gs:List (DataW H)}(h:(DataW.weightsEach P (ts++vs) (ds++gs)).all (· <=reachBytes)=true)(j:Nat)(t:TypeId)(d:DataW H)(ht:ts[j]? = some t)(hd:ds[j]? = some d):∀x∈d.weights P t,x<=reachBytes :=
 weights_at (fun x hx=>of_decide_eq_true (List.all_eq_true.1 h x hx)) j t d (by rw[List.getElem?_append_left (List.getElem?_eq_some_iff.1 ht).1];exact ht) (by rw[List.getElem?_append_left (List.getElem?_eq_some_iff.1 hd).1];exact hd)
theorem slice_weight {t e:TypeId}{d:DataW H}{n k:Nat}(ht:P.underlying t=some (.slice e))(hb:P.bytesOf e=k)(hk:0<k)(hd:DLen d n)(h :∀x∈d.weights P t,x<=reachBytes):n<=140737488351232:=by
 rcases hd with ⟨_,rfl⟩|⟨els,sp,rfl,rfl⟩
 . omega
 have u:=h ((els.length+sp.length)*k) (by simp only[DataW.weights,ht,hb];exact l0q);have E:els.length<=(els.length+sp.length)*k:=l0V (Nat.le_add_right _ _) (l2m _ hk);simp only[reachBytes] at u;omega
theorem wf_u8 {z:Int}(h:(Lit.int .u8 z).wf=true):0<=z/\z<=255:=by simpa [Lit.wf,IntKind.min,IntKind.max,IntKind.signed,IntKind.bits] using h
end
end Go.Ph
end
section
namespace Go.Ph
open Go Go.RowKit
theorem var_up {P:Program}{W w:World}(ha:Ag (memOf W) w){n:String}{cs:Array Value}(h:W.var? P n=some cs):w.var? P n=some cs:=by
 unfold World.var? at h ⊢;cases hg:P.globalNamed n with
 | none=>rw[hg] at h;cases h
 | some g =>
   rw[hg] at h;simp only[Option.bind_eq_bind,l1n] at h ⊢;cases hb:W.heap[g]? with
   | none=>rw[hb] at h;cases h
   | some o=>rw[ha g o hb];rw [hb] at h;exact h
theorem cell_upM {W w:World}(ha:Ag (memOf W) w){p:Addr}{v:Value}(h:W.cell? p=some v):w.cell? p=some v:=by
 unfold World.cell? at h ⊢;cases hb:W.heap[p.block]? with
 | none=>rw[hb] at h;cases h
 | some o=>rw[ha p.block o hb];rw [hb] at h;exact h
theorem tab_of_reads {P:Program}{W:World}{n:String}{k:IntKind}{zs:List Int}{g len:Nat}{t e:TypeId}(h:Lib.VarReads P W n (Lib.tabData k zs))
 (hg:P.globalNamed n=some g) (hty:(P.globals[g]?).map (·.type)=some t) (ht:P.underlying t=some (.array len e)) (he:P.underlying e=some (.int k)) (hce:P.cellsOf e=1) (hct:P.cellsOf t=len):GlF (fun w=>Lib.TabIs P w n k zs) (memOf W):=by
 obtain⟨g',t',cs,fuel,p,hg',ht',hvar,hd⟩:=h;obtain rfl:=oI (hg.symm.trans hg');obtain rfl:=oI (hty.symm.trans ht');intro w ha;have:=var_up ha hvar;unfold Lib.TabIs;rw[this,<-Lib.cells_of_tab ht he hce hct hd]
theorem iface_of_reads {P:Program}{W:World}{n:String}{nm:String}{d:DataW Unit}{g:Nat}{t:TypeId}(h:Lib.VarReads P W n (.iface nm d))
 (hg:P.globalNamed n=some g) (hty:(P.globals[g]?).map (·.type)=some t) (ht:P.underlying t=some (.interface (P.methodsAt t))):GlF (fun w =>∃tp p,w.var? P n=some #[.iface tp p]) (memOf W):=by
 obtain⟨g',t',cs,fuel,p,hg',ht',hvar,hd⟩:=h;obtain rfl:=oI (hg.symm.trans hg');obtain rfl:=oI (hty.symm.trans ht');intro w ha;have hup:=var_up ha hvar;cases fuel with
 | zero=>cases hd
 | succ fuel =>
   simp only[DataW.trod,ht] at hd;split at hd <;> try (simp_all;done)
   rename_i u v hh hcs;exact⟨u,v,by rw[hup];congr 1;cases cs;simp_all⟩
end Go.Ph
end
section
namespace Go.Ph
open Go Go.RowKit
namespace Pl
def runL {σ α:Type}(Y:σ->α->Option (σ × Bool)):List α->σ->Option σ
 | [],s=>some s
 | x::xs,s=>(Y s x).bind fun r=>if r.2=true then runL Y xs r.1 else some r.1
def stepY {σ α:Type}(stop:σ->Bool)(B:σ->α->Option σ)(s:σ)(x:α):Option (σ × Bool):=if stop s=true then none else(B s x).map fun s'=>(s',!stop s')
abbrev goOn {σ:Type}:σ->Bool:=fun _=>false
end Pl
open Pl
def Thru {σ α:Type}(Y:σ->α->Option (σ × Bool)):List α->σ->σ->Prop
 | [],s,u=>u=s
 | x::xs,s,u =>∃J,Y s x=some (J,true)/\Thru Y xs J u
theorem Thru.run {σ α:Type}{Y:σ->α->Option (σ × Bool)}:∀{pre rest:List α} {s u:σ},Thru Y pre s u->runL Y (pre++rest) s=runL Y rest u
 | [],rest,s,u,h=>by cases h;rfl
 | x::xs,rest,s,u,⟨N,J,K⟩=>by
   rw[l02,runL,J];exact K.run
structure ItS {α:Type}(P:Program)(f:FuncId)(cap:List Value)(A:List Item)(Pre:Mem->Prop)(enc:α->Value)(run:(σ:Type)->(σ->α->Option (σ × Bool))->σ->Option σ):Prop where
 enters :∀ar w,(callFunc f ar).run P w = .ok (.enter f ar) w
 calls :∀(l:Nat) (σ:Type) (Y:σ->α->Option (σ × Bool)) (Z:σ->List Item->Mem->Prop),(∀s L M M',Z s L M->M.le M'->Z s L M')->
  (∀s x s' b L w M,Y s x=some (s',b)->Z s L M->StX (feet L) w M M L w->YieldAt (Wd none) 0 P l #[enc x] w fun e w' =>∃M' L',StX (feet L) w M M' L' w'/\e = .returned (.bool b)/\Z s' L' M')->
  ∀s s' L w M,run σ Y s=some s'->Z s L M->StX (feet (A++L)) w M M (A++L) w->Pre M->
  Calls P f (yv l::cap).toArray w fun e w' =>∃r M' L',e = .returned r/\StX (feet (A++L)) w M M' L' w'/\Z s' L' M'
section
variable {C : Nat → Prop} {r : Option Nat} {P : Program} {ops : Array Oper} {Q : Exit → Act → World → Prop} {n : Nat} {D : List Deferred} {rest : List Oper} {e : Env} {w0 w : World} {M0 M : Mem} {L B : List Item} {d : Nat}
  {x y : Operand} {ty t ts t' : TypeId} {pos : String} {af : Array Edge} {g : Option (Nat × Bool)} {α σ : Type} {enc : α → Value}
def lpS (rc:LoopState->Option Code->Loop):Option Code->Loop
 | none=>rc .ready none
 | some c=>rc .done (some c)
def RS (Z:σ->List Item->Mem->Prop)(E:σ->Option Code)(lid:Nat)(rc:LoopState->Option Code->Loop)(Lh:List Item)(w:World)(M:Mem)(s:σ)(en:Ending)(w':World):Prop :=
 ∃M' L0,StX (feet Lh) w M M' (.blk lid (.loop (lpS rc (E s)))::L0) w'/\en = .returned (.bool (E s).isNone)/\Z s L0 M'
variable {lid : Nat} {rc : LoopState → Option Code → Loop} {Z : σ → List Item → Mem → Prop} {E : σ → Option Code} {s : σ} {w1 : World} {M1 : Mem} {Lh L0 : List Item}
theorem WQ.rsOn (hrc:LoopRec rc)(H:StX (feet Lh) w1 M1 M (.blk lid (.loop (rc .busy none))::L0) w)(hE:E s=none)(hZ:Z s L0 M):
 WQ (roundPost P lid (RS Z E lid rc Lh w1 M1 s)) .normal n D e w:=fun a _=>by
 have hb:=H.blk (List.Mem.head _);have hr:=run_endRound (P:=P) none hb;simp only[Option.isNone_none,if_true] at hr;rw[hrc.setP] at hr;exact⟨_,_,hr,M,L0,by rw[hE];exact H.put .head,by rw[hE];rfl,hZ⟩
theorem WQ.rsRet (hrc:LoopRec rc)(H:StX (feet Lh) w1 M1 M (.blk lid (.loop (rc .busy none))::L0) w)(hE:E s=some .ret)(hZ:Z s L0 M):
 WQ (roundPost P lid (RS Z E lid rc Lh w1 M1 s)) .ret n D e w:=fun a _=>by
 have hb:=H.blk (List.Mem.head _);have hr:=run_endRound (P:=P) (some .ret) hb;simp only[l2j,l0m,if_false] at hr;rw[hrc.setP] at hr;exact⟨_,_,hr,M,L0,by rw[hE];exact H.put .head,by rw[hE];rfl,hZ⟩
variable {fn : Func} {R : Value → Mem → Prop} {v v1 v2 v3 : Value} {x1 x2 x3 : ResultVar} {Dm : Nat} {L' : List Item}
theorem WQ.mret2 (hr:fn.results = #[x1,x2])(u:resv P w e x1 v1)(J:resv P w e x2 v2)(H:Ext w0 M0 w M)(hR:R (.tuple #[v1,v2]) M):WQ (bodyPostM (Wd none) 0 P fn (Ret w0 M0 R)) .ret n [] e w :=
 WQ.retM0 (resv_run2 hr u J) ⟨_,M,rfl,H,hR⟩
theorem WQ.nret1 (hr:fn.results = #[x1])(H:St w0 M0 M L w)(hrm:Rem L (.blk Dm (.deferred (some []))) L')(k :∀w,St w0 M0 M L' w->resv P w e x1 v)(hR:R v M):WQ (bodyPostM (Wd none) 0 P fn (Ret w0 M0 R)) .ret n [mark Dm] e w :=
 WQ.retM1 H hrm fun w' H'=>⟨v,resv_run1 hr (k w' H'),_,M,rfl,H'.ext,hR⟩
theorem WQ.nret2 (hr:fn.results = #[x1,x2])(H:St w0 M0 M L w)(hrm:Rem L (.blk Dm (.deferred (some []))) L')(k :∀w,St w0 M0 M L' w->resv P w e x1 v1/\resv P w e x2 v2)(hR:R (.tuple #[v1,v2]) M):WQ (bodyPostM (Wd none) 0 P fn (Ret w0 M0 R)) .ret n [mark Dm] e w :=
 WQ.retM1 H hrm fun w' H'=>⟨_,resv_run2 hr (k w' H').1 (k w' H').2,_,M,rfl,H'.ext,hR⟩
end
end Go.Ph
end
section
namespace Go.Ph
open Go Go.RowKit Pl
theorem CtX.of {P:Program}{f:FuncId}{fn:Func}{c:Code}{args:List Value}{A:List Item}{Pre:Mem->Prop}{R:Value->Mem->List Item->Prop}{n:Nat}
 (hf:P.funcs[f]? = some fn) (hen :∀ar w,(callFunc f ar).run P w = .ok (.enter f ar) w) (hb:fn.body=some c) (hnt:fn.ntmps=n) (hn:Nat.ble args.length n=true)
 (h :∀w M,StX (feet A) w M M A w->Pre M->WC none P (bodyPost P fn (RetX A w M R)) n [] c (envOf 0 args) w):CtX P f args A Pre R :=
 ⟨hen,fun w M ha hp=>calls_of_WC hf hb hnt hn (h w M ha hp)⟩
abbrev _root_.q0W := @CtX.of
section
variable {C : Nat → Prop} {r : Option Nat} {P : Program} {ops : Array Oper} {Q : Exit → Act → World → Prop} {n : Nat} {D : List Deferred} {rest : List Oper} {e : Env} {w0 w : World} {M0 M : Mem} {L L' A B : List Item} {d : Nat} {v v1 v2 v3 v4 u z : Value}
  {x y : Operand} {ty t t' te ts tt : TypeId} {pos : String} {af : Array Edge} {g : Option (Nat × Bool)} {dst : Option Tmp}
theorem WR.callX {f:FuncId}{ar:List Operand}{vs:List Value}{tys:Array TypeId}{Pre:Mem->Prop}{R:Value->Mem->List Item->Prop}(H:StX C w0 M0 M L w)(hs:CtX P f vs A Pre R)(hspl:Spl L A B)(ha:evs e ar=some vs)(hp:Pre M)
 (hw:Wn ops n D e ⟨some d, .call ⟨.value (.func f),ar.toArray,tys⟩,ty,pos,af,g⟩) (hn:Nat.blt d n=true)
 (k :∀v M' w' its,StX C w0 M0 M' (its++B) w'->M.le M'->R v M' its->WR r P ops Q n D rest ((d,v)::e) w') :
 WR r P ops Q n D (⟨some d, .call ⟨.value (.func f),ar.toArray,tys⟩,ty,pos,af,g⟩::rest) e w:=by
 intro a hsat;unfold wpListIn;rw[if_pos (hw a hsat)];refine⟨fun _ _=>trivial,?_⟩;rw[Oper.semAt_eq _ _ _ (fun c h=>by cases h)];have hv:ar.map a.eval=vs:=hsat.fits.evs ha;have hf:a.eval (.func f) = .func (.func f) #[] #[]:=rfl;have hrun:(execOp a.eval ⟨some d, .call ⟨.value (.func f),ar.toArray,tys⟩,ty,pos,af,g⟩).run P w = .ok (.enter f vs.toArray) w:=by
  simp only[execOp,resolve,hf,Deferred.ofValue,Sem.run_bind,Sem.run_pure,Result.andThen_ok,invoke,l0v,hv,Array.append_empty,Array.empty_append,hs.enters]
 rw[hrun,Oper.uponIn_enter];refine⟨fun h=>(by cases h),callsIn_Wd.2 ((hs.calls w M (H.hand hspl) hp).mono ?_)⟩;rintro en w' ⟨rv,M',its,rfl,hx,hR⟩;exact k rv M' w' its (H.back hspl hx) hx.ext.le hR _ (hsat.put (l09 hn) rv)
abbrev _root_.q0q := @WR.callX
section ret
variable {fn : Func} {R : Value → Mem → List Item → Prop} {its : List Item} {x1 x2 x3 x4 : ResultVar}
theorem WQ.endX0 (hr:fn.results = #[])(H:StX (feet A) w0 M0 M L w)(hp:Pick L its)(hR:R (.tuple #[]) M its):WQ (bodyPost P fn (RetX A w0 M0 R)) .normal n [] e w :=
 fun a ha=>⟨ha.defers, .tuple #[],by simp [results,hr],_,M,its,rfl,H.pick hp,hR⟩
theorem WQ.retX1 (hr:fn.results = #[x1])(E:resv P w e x1 v1)(H:StX (feet A) w0 M0 M L w)(hp:Pick L its)(hR:R v1 M its):WQ (bodyPost P fn (RetX A w0 M0 R)) .ret n [] e w :=
 fun a ha=>⟨ha.defers,v1,by rw[results_eq,hr];exact run_res1 _ (resv_run ha E),_,M,its,rfl,H.pick hp,hR⟩
abbrev _root_.q0T := @WQ.retX1
theorem WQ.retX2 (hr:fn.results = #[x1,x2])(E:resv P w e x1 v1)(J:resv P w e x2 v2)(H:StX (feet A) w0 M0 M L w)(hp:Pick L its)(hR:R (.tuple #[v1,v2]) M its):WQ (bodyPost P fn (RetX A w0 M0 R)) .ret n [] e w :=
 fun a ha=>⟨ha.defers, .tuple #[v1,v2],by rw[results_eq,hr];exact run_res2 _ (resv_run ha E) (resv_run ha J),_,M,its,rfl,H.pick hp,hR⟩
abbrev _root_.q0Z := @WQ.retX2
end ret
end
end Go.Ph
end
section
namespace Go.Ph
open Go Go.RowKit Pl
def BPM (M:Mem)(b:Nat)(p:Value):Prop:=p = .pointer none∨p=ptr b 0
theorem BPM.mono {M M':Mem}{b:Nat}{p:Value}(h:BPM M b p)(_:M.le M'):BPM M' b p:=h
theorem BPM.nil {M:Mem}{b:Nat}:BPM M b (.pointer none) := .inl rfl
theorem BPM.self {M:Mem}{b:Nat}:BPM M b (ptr b 0) := .inr rfl
def SDat (v:Value)(l:Ls)(q:Value):Prop :=∃a,q = .pointer a/\(l≠ []->∃g cp,v = .slice (some ⟨g,0,none⟩) l.length cp/\a=some ⟨g,0,none⟩)
section
variable {C : Nat → Prop} {r : Option Nat} {P : Program} {ops : Array Oper} {Q : Exit → Act → World → Prop} {n : Nat} {D : List Deferred} {rest : List Oper} {e : Env} {w0 w : World} {M0 M : Mem} {L L' A B : List Item} {d : Nat} {v q u z : Value}
  {x y : Operand} {ty t t' te ts tt pt : TypeId} {pos : String} {af : Array Edge} {g : Option (Nat × Bool)} {l : List UInt8}
theorem Ex.builtinSD {w':World}(hx:ev e x=some v)(hr:(Builtin.unsafeSliceData_ #[ts] ty #[v]).run P w = .ok q w'):Ex P ⟨some d, .call ⟨.builtin .unsafeSliceData,#[x],#[ts]⟩,ty,pos,af,g⟩ e w q w' :=
 ⟨nofun,fun ρ hf=>by
  have E:=hf _ _ hx;simp [execOp,resolve,E,invoke,hr,go_sem]⟩
theorem WR.sliceData (hp:P.underlying ty=some (.pointer t))(H:StX C w0 M0 M L w)(hm:RowI t encB v l∈L)(hx:ev e x=some v)
 (hw:Wn ops n D e ⟨some d, .call ⟨.builtin .unsafeSliceData,#[x],#[ts]⟩,ty,pos,af,g⟩) (hn:Nat.blt d n=true)
 (k :∀q w',StX C w0 M0 M L w'->SDat v l q->WR r P ops Q n D rest ((d,q)::e) w') :
 WR r P ops Q n D (⟨some d, .call ⟨.builtin .unsafeSliceData,#[x],#[ts]⟩,ty,pos,af,g⟩::rest) e w:=by
 rcases(H.rowOf hm).2 with ⟨hv,E⟩|⟨gg,cap,cur,hv,J,hg,hrest⟩
 . subst hv;refine WR.run (Ex.builtinSD hx (Lib.run_unsafeSliceData_nil _ _ _ _ _)) hw G hn (k _ _ H ⟨none,G,fun h=>?_⟩);exact absurd (l08 E) h
 subst hv;by_cases hc:cap=0
 . subst hc;refine WR.run (Ex.builtinSD hx (Lib.run_unsafeSliceData_zero _ _ _ t hp ⟨gg,0,none⟩ _ (t,cur.size) (by simp [World.shape?,hg]))) hw G hn (k _ _ (H.grow (grownBy_alloc' _ _)) ⟨_,G,fun h=>?_⟩);have:l.length≠0:=by simpa using h
   have K:=hrest.1;omega
 exact WR.run (Ex.builtinSD hx (Lib.run_unsafeSliceData_row _ _ _ _ _ _ hc)) hw G hn (k _ _ H ⟨_,G,fun _=>⟨gg,cap,G,G⟩⟩)
abbrev _root_.q1H := @WR.sliceData
theorem Ex.builtinUS {w':World}(hx:ev e x=some q)(hy:ev e y=some z)(hr:(Builtin.unsafeString_ #[pt,tt] ty #[q,z]).run P w = .ok v w'):Ex P ⟨some d, .call ⟨.builtin .unsafeString,#[x,y],#[pt,tt]⟩,ty,pos,af,g⟩ e w v w' :=
 ⟨nofun,fun ρ hf=>by
  have E:=hf _ _ hx;have J:=hf _ _ hy;simp [execOp,resolve,E,J,invoke,hr,go_sem]⟩
theorem grownBy_freeze (w:World)(gg k:Nat):w.grownBy (w.freeze ⟨gg,0,none⟩ k) (some gg):=by
 unfold World.freeze;split
 . exact⟨G,G,G,l07 _,fun _ _ _=>G⟩
 refine⟨G,G,G,by simp,fun k _ hk=>?_⟩;simp only[Array.getElem?_modify];rw[if_neg];intro h;exact hk (by rw[<-h])
theorem StX.turn {it:Item}{w':World}(H:StX C w0 M0 M L w)(hr:Rem L it L')(hg:w.grownBy w' it.foot):StX C w0 M0 M L' w':=by
 have hit:=H.own _ hr.mem;refine⟨H.ext.grown hg (fun b hb=>hit.2 b hb),fun x hx=>?_,H.sep.sublist hr.sublist⟩;have E:=H.own x (hr.sublist.subset hx);refine⟨E.1.kept (fun b hb=>hg.block b (E.1.lt b hb) (fun he=>?_)),E.2⟩;exact hr.pairs (R:=Apart) (fun x y h=>h.symm) H.sep x hx b he.symm hb
theorem WR.unsafeStr (hp:P.underlying pt=some (.pointer t))(hc:P.cellsOf t=1)(H:StX C w0 M0 M L w)(hr:Rem L (RowI t encB v l) L')(hq:SDat v l q)(hx:ev e x=some q)(hy:ev e y=some (I l.length))
 (hw:Wn ops n D e ⟨some d, .call ⟨.builtin .unsafeString,#[x,y],#[pt,tt]⟩,ty,pos,af,g⟩) (hn:Nat.blt d n=true)
 (k :∀w',StX C w0 M0 M L' w'->WR r P ops Q n D rest ((d,S l)::e) w') :
 WR r P ops Q n D (⟨some d, .call ⟨.builtin .unsafeString,#[x,y],#[pt,tt]⟩,ty,pos,af,g⟩::rest) e w:=by
 obtain⟨a,rfl,hq⟩:=hq;by_cases hl:l=[]
 . subst hl;exact WR.run (Ex.builtinUS hx hy (Lib.run_unsafeString_none _ _ _ _ _)) hw G hn (k _ (H.drop hr.sublist))
 obtain⟨gg,cp,rfl,rfl⟩:=hq hl;have hown:=H.rowOf hr.mem;rcases hown.2 with ⟨hv,_⟩|⟨O,cap,cur,hv,N,hg,hrest⟩
 . cases hv
 cases hv;have J:l.length<=9223372036854775807:=by have E:=hrest.1;have K:=hrest.2.1;unfold maxLen at K;omega
 have hcur:cur.size=cp*1:=hrest.2.2.1;have hrun:=Lib.run_unsafeString_row (P:=P) w pt tt ty t hp hc gg cur.size (by simp [World.shape?,hg]) l hl (by have E:=hrest.1;omega) J (fun j x hx=>by
  have htake:=hrest.2.2.2;have E:(cur.toList.take (l.length*1))[j]? = some (encB x):=by rw[htake,List.getElem?_map,hx];rfl
  have hj:j<l.length:=(List.getElem?_eq_some_iff.1 hx).1;rw[Addr.add_lit,l0r,Lib.cell_of_heap hg];rw[List.getElem?_take,if_pos Om] at E;simpa using E)
 exact WR.run (Ex.builtinUS hx hy hrun) hw G hn (k _ (H.turn hr (grownBy_freeze w gg _)))
abbrev _root_.q1I := @WR.unsafeStr
end
structure ZH {σ:Type}(Z:σ->List Item->Mem->Prop)(s:σ)(L:List Item)(M:Mem):Prop where
 z:Z s L M
 m :∀s L M M',Z s L M->M.le M'->Z s L M'
theorem ZH.mono {σ:Type}{Z:σ->List Item->Mem->Prop}{s:σ}{L:List Item}{M M':Mem}(h:ZH Z s L M)(hl:M.le M'):ZH Z s L M':=⟨h.m _ _ _ _ h.z hl,h.m⟩
end Go.Ph
end
