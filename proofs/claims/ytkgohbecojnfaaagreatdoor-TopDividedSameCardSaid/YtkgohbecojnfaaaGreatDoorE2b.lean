/-
  Seq, Qt, Pan, Sqy, Lb, Row, Glo, Cl, Rpl, Tbl, Tv, Als, Shelf, Cls, Glb, Card, Open, Opf, Opg, Qa, Rl, Any, Dfr, Bor, Dx, Ux, Itr, Itw, Cnf, Grw, Box, Itv, Mpl, Bit, GrRef, Rcl, Low, Val, Vst, Once, Msd, Mse, Srt, Slt, Msx, Lp: own texts of this repository (wip/tpl, wip/plans), merged and shaken by wip/tools/pack.py.
-/
import Derived.WalkSmall
import Derived.Lib.Split
import Derived.Lib.SplitLaws
import Derived.Lib.AtoiAll
import Derived.Lib.AtoiErrMem
import Derived.Lib.ItoaNum
import Derived.Lib.Repeat
import Derived.Sort.Grow
import Derived.WalkKit
import Derived.ProofKit
import Derived.OpenShut
import Derived.JoinedCond
import Derived.Carry
import Derived.Lib.LaidTab
import Derived.Lib.LaidU8
import Derived.Shelf.Vars
import Derived.Lay
import Derived.Lib.LazyBuf
import Derived.Laws.CopyRow
import Derived.Laws.IdiomCopy
import Derived.Test.YtkgohbecojnfaaaGreatDoorProg
import Derived.Shelf.Strings.Builder1
import Derived.Shelf.Strings.Builder2
import Derived.Shelf.Strings.Trim
import Derived.Shelf.Small.Utf8
import Derived.Shelf.Small.Bits
import Derived.Shelf.Small.Strs
import Derived.Shelf.Small.Wraps
import Derived.Shelf.Strings.BuilderF
import Derived.Shelf.Strings.BuilderK
import Derived.Shelf.Utf8.RuneCount
import Derived.Shelf.Strings.Builder2Cap
import Derived.Shelf.Strconv.Atoi
import Derived.Shelf.Strconv.Itoa0
import Derived.Shelf.Strconv.Itoa1
import Derived.Shelf.LaysM
import Derived.Shelf.Strconv.Itoa2
import Derived.Shelf.Strconv.Itoa3
import Derived.Shelf.Strconv.AtoiErrFast
import Derived.Shelf.Strconv.ParseIntEmpty
import Derived.Shelf.Strconv.AtoiFail
import Derived.Shelf.Strconv.Clone
import Derived.Shelf.Strconv.SyntaxError
import Derived.Shelf.LaysC
import Derived.Shelf.Strconv.ToError
import Derived.Shelf.Strconv.AtoiErr
import Derived.Shelf.Strconv.ErrVar
import Derived.Shelf.Strconv.Lower
import Derived.Shelf.Strconv.ParseUint10
import Derived.Shelf.Strconv.ParseUint10Empty
import Derived.Shelf.Strconv.ParseUint10Any
import Derived.Shelf.Strconv.ParseInt10
import Derived.Shelf.Strconv.AtoiLong
import Derived.Shelf.Strconv.AtoiInnerAll
import Derived.Shelf.Strconv.RangeError
import Derived.Shelf.Strconv.ToErrorRange
import Derived.Shelf.Strconv.AtoiAll
import Derived.Shelf.Strconv.ErrVarAll
import Derived.Shelf.Strconv.ParseUintEmpty
import Derived.Shelf.Strconv.ParseUint10b64
import Derived.Shelf.Strconv.ParseUint10b32
import Derived.Shelf.Strconv.ParseUint10b16
import Derived.Shelf.Strconv.ParseUint10b8
import Derived.Shelf.Strconv.ParseUint10At
import Derived.Shelf.Strconv.ParseInt10At64
import Derived.Shelf.Strconv.ParseInt10At32
import Derived.Shelf.Strconv.ParseInt10At16
import Derived.Shelf.Strconv.ParseInt10At8
import Derived.Shelf.Strconv.ParseInt10All
import Derived.Shelf.Strings.Search1
import Derived.Shelf.Strings.Search2
import Derived.Shelf.Strings.Search3
import Derived.Shelf.Strings.Cut
import Derived.Shelf.Strings.Count
import Derived.Shelf.Strings.Shaped
import Derived.Shelf.Strings.Prefix
import Derived.Shelf.Strings.Split
import Derived.Shelf.Unicode.Decode
import Derived.Shelf.Strings.Runes
import Derived.Shelf.Strings.RuneCount
import Derived.Shelf.Strings.IndexAny
import Derived.Shelf.Strings.AsciiSet
import Derived.Shelf.Strings.IndexAnyAll
import Derived.Shelf.Bits.Mul64
import Derived.Shelf.Strings.Repeat
import Derived.Shelf.Unicode.DecodeSlow
import Derived.Shelf.Unicode.DecodeAny
import Derived.Shelf.Unicode.DecodeLast
import Derived.Shelf.Strings.MapAny
import Derived.Shelf.Strings.BuilderCap
import Derived.Shelf.Bytes.SlIndexSmall
import Derived.Shelf.Bytes.SlIndexAt
import Derived.Shelf.Bytes.SlSearch0
import Derived.Shelf.Bytes.SlSearch1
import Derived.Shelf.Bytes.SlSearch2
import Derived.Shelf.Bytes.SlIndexWhole
import Derived.Shelf.Bytes.SlSmallAll
import Derived.Shelf.Bytes.SlEqualAll
import Derived.Shelf.Bytes.Small
import Derived.Shelf.Bytes.IndexByte
import Derived.Test.YtkgohbecojnfaaaGreatDoorRows
import Derived.KernelRfl
import Derived.Deep.DeepHandedRow
import Derived.Deep.Slices
import Derived.ChangeMaps5
import Derived.ChangeSame
import Derived.RecoverIn
import Derived.DefersIn
import Derived.Lib.AppendZerosOnto
import Derived.Lib.DecodeN
import Derived.Tactics
import Derived.Tactics2
import Derived.Defers
import Derived.Laws.Pointers
import Derived.Laws.LoneSync
import Derived.RegionTactic
import Derived.RegionCalls
import Derived.ChangeAlike
import Derived.Sort.AssemblyPlain
import Derived.Lib.BitFns
import Derived.Shelf.SlSortCmp.WholeK
import Derived.Shelf.SlGeneric
import Derived.Test.YtkgohbecojnfaaaGreatDoorE2a
set_option maxRecDepth 100000
set_option linter.unusedVariables false
set_option linter.unusedSimpArgs false
section
namespace Go.Ph
open Go Go.RowKit
def chainB (ops:Array Oper):List Nat->Array Bool->Bool
 | [],_=>true
 | i::is,l=>(Region.ready .any ops l == [i])&&(ops[i]?).isSome&&chainB ops is (l.setIfInBounds i true)
def opsAt (ops:Array Oper):List Nat->List Oper
 | []=>[]
 | i::is=>match ops[i]? with
   | some o=>o::opsAt ops is
   | none=>[]
def finL : List Nat->Array Bool->Array Bool
 | [],l=>l
 | i::is,l=>finL is (l.setIfInBounds i true)
def noCall (o:Oper):Bool:=match o.op with
 | .call _=>false
 | _=>true
theorem noCall_about {o:Oper}(h:noCall o=true)(P:Program)(w:World)(ρ:Operand->Value):o.about P w ρ=none:=by
 unfold noCall at h;unfold Oper.about;split
 . rename_i c hc;rw [hc] at h;cases h
 rfl
def freesB (ops:Array Oper):List Nat->Array Bool->Bool
 | [],_=>true
 | i::is,l=>(match ops[i]? with|some o=>noCall o|none=>false)&&Region.free .any ops l i&&(Region.ready .any ops l).contains i&&freesB ops is (l.setIfInBounds i true)
section
variable {r : Option Nat} {P : Program} {ops : Array Oper} {Q : Exit → Act → World → Prop} {n fuel : Nat} {D : List Deferred} {e e' : Env} {w : World} {listed : Array Bool}
theorem chain_sound :∀(is:List Nat) (listed:Array Bool) (a:Act) (w:World),chainB ops is listed=true->wpListIn (Wd r) 0 P ops (Qa r P ops Q fuel (finL is listed)) (opsAt ops is) a w->wpAnyIn (Wd r) 0 P .any ops (noP ops Q) (fuel+is.length) listed a w
 | [],listed,a,w,hc,h=>h
 | i::is,listed,a,w,hc,h=>by
   rw[chainB,l0n,l0n] at hc;obtain⟨⟨u,E⟩,J⟩:=hc;have u:Region.ready .any ops listed=[i]:=by simpa using u
   obtain⟨o,ho⟩:=l2I.1 E;rw[opsAt,ho] at h;refine wpAnyIn_all u Sm fun x hx=>?_
   obtain rfl:x=i:=by simpa using hx
   have K:wpOpIn (Wd r) 0 P ops (noP ops Q) x (wpListIn (Wd r) 0 P ops (Qa r P ops Q fuel (finL (x::is) listed)) (opsAt ops is)) a w:=by
    unfold wpOpIn;rw[ho];simp only[wpListIn] at h ⊢;exact h
   exact wpOpIn_mono (fun a w hk=>chain_sound is (listed.setIfInBounds x true) a w J hk) K
theorem WA.seq (is:List Nat){f:Nat}(hf:f=fuel+is.length)(hc:chainB ops is listed=true)(k:WR r P ops (Qa r P ops Q fuel (finL is listed)) n D (opsAt ops is) e w):WA r P ops Q n D f listed e w:=fun a ha=>by
 subst hf;exact chain_sound is listed a w hc (k a ha)
abbrev _root_.q0k := @WA.seq
theorem skips_one {o:Oper}(h:skips ops n e [o]=some e'):∃d,o.dst=some d/\d<n/\e'=(d,undef)::e/\∀D a,Sat n D e a->Region.wanted o (yielded ops a.tmps)=false:=by
 rw[skips] at h;split at h
 case h_2=>cases h
 rename_i j b d hg hd;split at h
 case h_2=>cases h
 rename_i t ht;split at h
 . rename_i b' hb;cases hc:((b' != b)&&Nat.blt d n) with
   | false=>rw[hc] at h;cases h
   | true =>
     rw[hc] at h;rw[l0n] at hc;have hne:b'≠b:=by simpa using hc.1
     rw[cond_true,skips] at h;exact⟨d,hd,l0h hc.2,(oI h).symm,fun D a ha=>by
      have:=yielded_of ht ha hb;simp [Region.wanted,hg,this,hne]⟩
 . rename_i xs hb;cases hc:Nat.blt d n with
   | false=>rw[hc] at h;cases h
   | true =>
     rw[hc] at h;rw[cond_true,skips] at h;exact⟨d,hd,l0h hc,(oI h).symm,fun D a ha=>by
      have hv:=ha.val t _ hb;have:yielded ops a.tmps j=none:=by
       unfold yielded;rw[ht];simp only[l1U];cases htt:a.tmps[t]? with
       | none=>rfl
       | some x=>simp [htt] at hv;subst hv;rfl
      simp [Region.wanted,hg,this]⟩
 cases h
theorem skips_cons {o:Oper}{l:List Oper}(h:skips ops n e (o::l)=some e'):∃u,skips ops n e [o]=some u/\skips ops n u l=some e':=by
 rw[skips] at h;split at h
 case h_2=>cases h
 rename_i j b d hg hd;split at h
 case h_2=>cases h
 rename_i t ht;split at h
 . rename_i b' hb;cases hc:((b' != b)&&Nat.blt d n) with
   | false=>rw[hc] at h;cases h
   | true =>
     rw[hc,cond_true] at h;refine⟨_,?_,h⟩;rw[skips,hg,hd];simp only[ht,hb,hc,cond_true];rfl
 . rename_i xs hb;cases hc:Nat.blt d n with
   | false=>rw[hc] at h;cases h
   | true =>
     rw[hc,cond_true] at h;refine⟨_,?_,h⟩;rw[skips,hg,hd];simp only[ht,hb,hc,cond_true];rfl
 cases h
theorem takes_sound (hs:Region.noSelect ops=true):∀(is:List Nat) (e:Env) (listed:Array Bool),freesB ops is listed=true->skips ops n e (opsAt ops is)=some e'->WA none P ops Q n D fuel (finL is listed) e' w->WA none P ops Q n D (fuel+is.length) listed e w
 | [],e,listed,_,h,k=>by cases h;exact k
 | i :: is,e,listed,hf,h,k=>by
   rw[freesB,l0n,l0n,l0n] at hf;obtain⟨⟨⟨u,E⟩,J⟩,K⟩:=hf;cases ho:ops[i]? with
   | none=>rw[ho] at u;cases u
   | some o =>
     rw[ho] at u;rw[opsAt,ho] at h;obtain⟨U,N,O⟩:=skips_cons h;obtain⟨d,hd,hn,rfl,hw⟩:=skips_one N;exact q0G ho hs E J (hw D) hd (Nat.ble_eq_true_of_le hn) (fun w ρ=>noCall_about u P w ρ) (takes_sound hs is _ _ K O k)
theorem WA.takes (is:List Nat){f:Nat}(hf:f=fuel+is.length)(hs:Region.noSelect ops=true)(hc:freesB ops is listed=true)(h:Ph.skips ops n e (opsAt ops is)=some e')(k:WA none P ops Q n D fuel (finL is listed) e' w):WA none P ops Q n D f listed e w:=by
 subst hf;exact takes_sound hs is e listed hc h k
end
section
variable {P : Program} {e : Env} {w : World} {x y : Operand} {dst : Option Tmp} {ty t t' : TypeId} {pos : String} {af : Array Edge} {g : Option (Nat × Bool)} {a b : Bool}
end
end Go.Ph
end
section
namespace Go.Ph
open Go Go.RowKit
def Keeps {α:Type}(s:Sem α):Prop :=∀(P:Program) (w:World) (x:α) (w':World),s.run P w = .ok x w'->w'=w
theorem Keeps.pure {α:Type}(a:α):Keeps (Pure.pure a:Sem α):=fun P w x w' h=>by
 rw[Sem.run_pure] at h;cases h;rfl
theorem Keeps.bind {α β:Type}{s:Sem α}{f:α->Sem β}(h:Keeps s)(hf :∀a,Keeps (f a)):Keeps (s >>= f):=fun P w x w' hr=>by
 rw[Sem.run_bind] at hr;cases u:s.run P w with
 | ok a E =>
   rw[u,Result.andThen_ok] at hr;rw[h P w a E u] at hr;exact hf a P w x w' hr
 | halt c E=>rw[u] at hr;cases hr
theorem Keeps.load {a:Addr}{m:Mode}:Keeps (Go.load a m):=fun P w x w' h=>by
 unfold Go.load at h;simp only[Sem.run] at h;split at h
 . cases h;rfl
 split at h
 . cases h;rfl
 cases h
theorem Keeps.program : Keeps Go.program:=fun P w x w' h=>by
 unfold Go.program at h;simp only[Sem.run] at h;cases h;rfl
theorem Keeps.halt {α:Type}{c:Halt}:Keeps (Sem.halt c:Sem α):=fun P w x w' h=>by
 simp only[Sem.run] at h;cases h
theorem Keeps.typeInfo {t:TypeId}:Keeps (Go.typeInfo t):=by
 unfold Go.typeInfo;refine Keeps.bind Keeps.program fun p=>?_
 split
 . exact Keeps.pure _
 exact Keeps.halt
theorem Keeps.underlying {t:TypeId}:Keeps (Go.underlying t):=by
 unfold Go.underlying;refine Keeps.bind Keeps.program fun p=>?_
 split
 . exact Keeps.pure _
 exact Keeps.halt
theorem Keeps.sizeOf {t:TypeId}:Keeps (Go.sizeOf t):=Keeps.bind Keeps.typeInfo fun p=>Keeps.pure _
theorem Keeps.isAgg {t:TypeId}:Keeps (Go.isAgg t):=by
 unfold Go.isAgg;refine Keeps.bind Keeps.underlying fun p=>?_
 split <;> exact Keeps.pure _
theorem Keeps.loadCellsFrom {a:Addr}:∀(n i:Nat) (acc:Array Value),Keeps (Go.loadCellsFrom a i n acc)
 | 0,i,acc=>Keeps.pure _
 | n+1,i,acc=>Keeps.bind Keeps.load fun v=>Keeps.loadCellsFrom n (i+1) _
theorem Keeps.loadVar {t:TypeId}{a:Addr}:Keeps (Go.loadVar t a):=by
 unfold Go.loadVar;refine Keeps.bind Keeps.isAgg fun b=>?_
 split
 . exact Keeps.bind Keeps.sizeOf fun n=>Keeps.bind (Keeps.loadCellsFrom n 0 _) fun c=>Keeps.pure _
 exact Keeps.load
theorem Keeps.loadAt {t:TypeId}{v:Value}:Keeps (Instr.loadAt t v):=by
 unfold Instr.loadAt;refine Keeps.bind ?_ fun a=>Keeps.loadVar
 unfold Instr.sureAddr;split
 . exact Keeps.pure _
 exact Keeps.halt
def quietB (o:Oper):Bool:=match o.op with
 | .move _=>true
 | .assign _=>true
 | .load _ _=>true
 | _=>false
def Quiet (o:Oper):Prop :=∀(ρ:Operand->Value) (P:Program) (w:World) (x:Next) (w':World),(execOp ρ o).run P w = .ok x w'->w'=w/\∃u,x = .value u
theorem quiet_of {o:Oper}(h:quietB o=true):Quiet o:=fun ρ P w x w' hr=>by
 unfold quietB at h;unfold execOp at hr;split at h
 . rename_i y hy;rw[hy] at hr;simp only[Sem.run_pure] at hr;cases hr;exact ⟨rfl,_,rfl⟩
 . rename_i y hy;rw[hy] at hr;simp only[Sem.run_pure] at hr;cases hr;exact ⟨rfl,_,rfl⟩
 . rename_i t y hy;rw[hy] at hr;simp only[Sem.run_bind] at hr;cases u:(Instr.loadAt t (ρ y)).run P w with
   | ok a E =>
     rw[u] at hr;simp only[Result.andThen_ok,Sem.run_pure] at hr;cases hr;exact⟨Keeps.loadAt P w a w' u,_,G⟩
   | halt c E=>rw[u] at hr;cases hr
 cases h
def holdB (ops:Array Oper)(listed:Array Bool)(B:List Nat)(i:Nat):Bool :=
 !B.contains i&&(List.range ops.size).all fun k=>match ops[k]? with
  | none=>true
  | some ok=>listed.getD k true || k == i ||(bif B.contains k then quietB ok&&(match ops[i]? with|some oi=>oi.apart ops ok|none=>false) else ok.after.any fun e=>Region.binds .any e&&(e.on == i ||(!B.contains e.on && !listed.getD e.on true)))
def YieldsAt (P:Program)(ops:Array Oper)(o:Oper)(v:Value)(a:Act)(w:World):Prop :=
 Region.wanted o (yielded ops a.tmps)=true/\(execOp a.eval o).run P w = .ok (.value v) w/\∀w,o.about P w a.eval=none
section
variable {F : Fence} {n : Nat} {P : Program} {ops : Array Oper} {Q : Exit → Act → World → Prop}
theorem YieldsAt.wpOpIn {i:Nat}{o:Oper}{v:Value}{a:Act}{w:World}(hro:F.round=none)(hi:ops[i]? = some o)(hy:YieldsAt P ops o v a w){K:Act->World->Prop}(h:K (a.put o.dst v) w):wpOpIn F n P ops Q i K a w:=by
 unfold Go.wpOpIn;simp only[hi];have hab :∀f,o.about P w a.eval=some f->F.fn f:=fun f hf=>by rw[hy.2.2 w] at hf;cases hf
 simp only[hy.1,if_true,Oper.wpIn,hro,Oper.semAt_none,hy.2.1,Oper.uponIn];exact⟨hab,h⟩
theorem wpOpIn_putQ {j:Nat}{oi oj:Oper}{v:Value}(hro:F.round=none)(hj:ops[j]? = some oj)(hq:Quiet oj)(hap:oi.apart ops oj=true)
 (hsi :∀cs b,oi.op≠ .select cs b) (hsj :∀cs b,oj.op≠ .select cs b)
 (hQ :∀c a w,Q (.panic c) (a.put oi.dst v) w->Q (.panic c) a w) {K:Act->World->Prop} {a:Act} {w:World}
 (hy:YieldsAt P ops oi v a w) (h:wpOpIn F n P ops Q j K (a.put oi.dst v) w) :
 wpOpIn F n P ops Q j (fun a' w'=>YieldsAt P ops oi v a' w'/\K (a'.put oi.dst v) w') a w:=by
 obtain⟨E,N,J⟩:=Oper.apart_spec hap;have keep :∀u,YieldsAt P ops oi v (a.put oj.dst u) w:=fun u =>
  ⟨by rw[wanted_put oi a oj.dst u J];exact hy.1,by rw[execOp_put oi hsi a oj.dst u J];exact hy.2.1,fun w=>by rw[about_put oi w a oj.dst u J];exact hy.2.2 w⟩
 unfold Go.wpOpIn at *;simp only[hj] at *;rw[wanted_put oj a oi.dst v E,about_put oj w a oi.dst v E] at h;split
 . rename_i hw;simp only[hw,if_true] at h;unfold Oper.wpIn at *;rw[about_put oj w a oi.dst v E] at h;refine⟨h.1,?_⟩;have h:=h.2;rw[hro,Oper.semAt_none,execOp_put oj hsj a oi.dst v E] at h;rw[hro,Oper.semAt_none];cases hr:(execOp a.eval oj).run P w with
   | ok x w' =>
     obtain⟨rfl,u,rfl⟩:=hq _ _ _ _ _ hr;rw[hr] at h;simp only[Oper.uponIn] at h ⊢;exact⟨keep u,by rw[<-Act.put_comm a v u N];exact h⟩
   | halt x w' =>
     rw[hr] at h;cases x <;> simp only[Oper.uponIn] at h ⊢
     case panic u=>exact hQ _ _ _ h
 rename_i hw;simp only[hw] at h;exact⟨h.1,keep _,by rw[<-Act.put_comm a v undef N];exact h.2⟩
theorem wpAnyIn_firstQ {i:Nat}{oi:Oper}{v:Value}{B:List Nat}{L0:Array Bool}(hro:F.round=none)(hi:ops[i]? = some oi)(hsel :∀(j:Nat) (o:Oper) cs b,ops[j]? = some o->o.op≠ .select cs b)
 (hQ :∀c a w,Q (.panic c) (a.put oi.dst v) w->Q (.panic c) a w) (hiB:i∉B) (Y:L0.getD i true=false)
 (hk :∀k ok,ops[k]? = some ok->L0.getD k true=false->k≠i->(k∈B/\Quiet ok/\oi.apart ops ok=true)∨(k∉B/\∃e∈ok.after,Region.binds .any e=true/\(e.on=i∨(e.on∉B/\L0.getD e.on true=false)))) :
 ∀(fuel:Nat) (listed:Array Bool) (a:Act) (w:World),(∀k,k∉B->L0.getD k true=false->listed.getD k false=false/\listed.getD k true=false)->(∀k,L0.getD k true=true->listed.getD k true=true)->
  i∈Region.ready .any ops listed->YieldsAt P ops oi v a w->
  wpAnyIn F n P .any ops Q fuel (listed.setIfInBounds i true) (a.put oi.dst v) w->wpAnyIn F n P .any ops Q (fuel+1) listed a w:=by
 have inB :∀(listed:Array Bool) (j:Nat),(∀k,k∉B->L0.getD k true=false->listed.getD k false=false/\listed.getD k true=false)->(∀k,L0.getD k true=true->listed.getD k true=true)->j∈Region.ready .any ops listed->j≠i->
  ∃oj,ops[j]? = some oj/\j∈B/\Quiet oj/\oi.apart ops oj=true:=fun listed j u E hj hji=>by
  obtain⟨hjun,oj,hoj,hall⟩:=mem_ready.1 hj;have Z:L0.getD j true=false:=by
   cases hc:L0.getD j true with
   | false=>rfl
   | true=>rw[E j hc] at hjun;cases hjun
  rcases hk j oj hoj Z hji with ⟨K,U,N⟩|⟨K,e,he,hb,hor⟩
  . exact⟨oj,hoj,K,U,N⟩
  have O:=hall e he hb;rcases hor with V|⟨V,h6⟩
  . rw[V,(u i hiB Y).1] at O;cases O
  rw[(u e.on V h6).1] at O;cases O
 intro fuel;induction fuel with
 | zero =>
   intro listed a w u E hr hy H;refine⟨fun h=>(by rw[h] at hr;cases hr),fun j hj=>?_⟩;by_cases hji:j=i
   . subst hji;exact hy.wpOpIn hro hi H
   have:=ready_mono hj hji;rw[H.1] at this;cases this
 | succ fuel ih =>
   intro listed a w u E hr hy H;refine⟨fun h=>(by rw[h] at hr;cases hr),fun j hj=>?_⟩;by_cases hji:j=i
   . subst hji;exact hy.wpOpIn hro hi H
   obtain⟨oj,hoj,hjB,hq,hap⟩:=inB listed j u E hj hji;have K:=H.2 j (ready_mono hj hji);have U:=wpOpIn_putQ hro hoj hq hap (fun cs b=>hsel i oi cs b hi) (fun cs b=>hsel j oj cs b hoj) hQ hy K;refine wpOpIn_mono (fun a' w' N=>ih (listed.setIfInBounds j true) a' w' (fun k hkB J=>?_) (fun k J=>?_) (ready_mono hr (Ne.symm hji)) N.1 ?_) U
   . have hjk:j≠k:=fun h=>hkB (h ▸ hjB)
     rw[getD_set_ne false hjk,getD_set_ne true hjk];exact u k hkB J
   . by_cases hjk:j=k
     . subst hjk;rcases l1r j listed.size with h'|h'
       . simp [h']
       simp [l2s h']
     rw[getD_set_ne true hjk];exact E k J
   rw[Array.setIfInBounds_comm _ _ hji];exact N.2
end
section
variable {P : Program} {ops : Array Oper} {Q : Exit → Act → World → Prop} {n fuel i d : Nat} {D : List Deferred} {e : Env} {w : World} {listed : Array Bool} {o : Oper} {v : Value}
theorem getD_ff {l:Array Bool}{k:Nat}(h:l.getD k true=false):l.getD k false=false:=by
 rcases l1r k l.size with h'|h'
 . simp [h'] at h ⊢;exact h
 simp [l2s h'] at h
theorem WA.takeM (B:List Nat)(ho:ops[i]? = some o)(hs:Region.noSelect ops=true)(hk:holdB ops listed B i=true)(hr:(Region.ready .any ops listed).contains i=true)(hx:Ex P o e w v w)(hw:Wn ops n D e o)(hd:o.dst=some d)(hn:Nat.blt d n=true)
 (hab :∀w ρ,o.about P w ρ=none) (k:WA none P ops Q n D fuel (listed.setIfInBounds i true) ((d,v)::e) w):WA none P ops Q n D (fuel+1) listed e w:=fun a ha=>by
 unfold holdB at hk;rw[l0n] at hk;have hiB:i∉B:=by simpa using hk.1
 have hr':i∈Region.ready .any ops listed:=by simpa using hr
 have K:=(mem_ready.1 hr').1;refine wpAnyIn_firstQ (F:=Wd none) (B:=B) (L0:=listed) G ho (Region.noSelect_spec hs) (fun _ _ _ h=>noP_put ho h) hiB K (fun j oj hj u hji=>?_) fuel listed a w (fun k _ u=>⟨getD_ff u,u⟩) (fun k h=>h) hr' ⟨hw a ha,hx.2 _ ha.fits,fun w=>hab w _⟩ ?_
 . have hlt:j<ops.size:=(l0T.1 hj).1;have:=l0C.1 hk.2 j (l1j.2 hlt);rw[hj] at this;simp only[u,l1V,l2O,beq_iff_eq,hji,false_or] at this;cases hB:B.contains j with
   | true =>
     rw[hB,cond_true,ho,l0n] at this;exact .inl ⟨by simpa using hB,quiet_of this.1,this.2⟩
   | false =>
     rw[hB,cond_false] at this;obtain⟨ed,N,E⟩:=Array.any_eq_true'.1 this;simp only[l0n,l2O,beq_iff_eq,l3i] at E;refine .inr ⟨by simpa using hB,ed,N,E.1,?_⟩;rcases E.2 with J|⟨J,O⟩
     . exact .inl J
     exact .inr ⟨by simpa using J,O⟩
 rw[hd];exact k _ (ha.put (l0h hn) v)
abbrev _root_.q1i := @WA.takeM
end
end Go.Ph
end
section
namespace Go.Ph
open Go Go.RowKit Pl
def onePanic (v:Value):List PanicEntry:=[{v,recovered:=false}]
section
variable {Q : Exit → Act → World → Prop} {ch : List PanicEntry} {D : List Deferred} {w : World} {n : Nat} {e e' : Env}
def Unwr (ops:Array Oper)(e:Env):Bool:=e.all fun p=>ops.toList.all fun o=>match o.dst with|some t => !Nat.beq t p.1|none=>true
theorem Unwr.of {ops:Array Oper}:∀{e:Env},Unwr ops e=true->∀i v,get e i=some v->∀(j:Nat) o,ops[j]? = some o->o.dst≠some i
 | [],_,i,v,hg,_,_,_=>by simp [get] at hg
 | (k,u)::e,h,i,v,hg,j,o,ho=>by
   unfold Unwr at h;rw[l0i,l0n] at h;simp only[get] at hg;cases hb:Nat.beq i k with
   | true =>
     have hik:i=k:=l1f hb;subst hik;have hm:o∈ops.toList:=by rw[<-l2k] at ho;exact l0S ho
     have E:=l0C.1 h.1 o hm;intro hd;rw[hd] at E;simp at E
   | false =>
     rw[hb] at hg;exact Unwr.of (e:=e) h.2 i v hg j o ho
end
def RetPan (A:List Item)(w:World)(M:Mem)(v:Value)(e:Ending)(w':World):Prop :=∃M',e = .panicked (onePanic v)/\StX (feet A) w M M' [] w'
structure CtPan (P:Program)(f:FuncId)(args:List Value)(A:List Item)(Pre:Mem->Prop)(v:Value):Prop where
 enters :∀ar w,(callFunc f ar).run P w = .ok (.enter f ar) w
 calls :∀w M,StX (feet A) w M M A w->Pre M->Calls P f args.toArray w (RetPan A w M v)
def RetS {X Y:Type}(A:List Item)(w:World)(M:Mem)(R:X->Value->Mem->List Item->Prop)(pv:Y->Value):X ⊕ Y->Ending->World->Prop
 | .inl x=>RetX A w M (R x)
 | .inr n=>RetPan A w M (pv n)
def CtS {X Y:Type}(P:Program)(f:FuncId)(args:List Value)(A:List Item)(Pre:Mem->Prop)(R:X->Value->Mem->List Item->Prop)(pv:Y->Value):X ⊕ Y->Prop
 | .inl x=>CtX P f args A Pre (R x)
 | .inr n=>CtPan P f args A Pre (pv n)
theorem CtS.of {X Y:Type}{P:Program}{f:FuncId}{fn:Func}{c:Code}{args:List Value}{A:List Item}{Pre:Mem->Prop}{R:X->Value->Mem->List Item->Prop}{pv:Y->Value}{r:X ⊕ Y}{n:Nat}
 (hf:P.funcs[f]? = some fn) (hen :∀ar w,(callFunc f ar).run P w = .ok (.enter f ar) w) (hb:fn.body=some c) (hnt:fn.ntmps=n) (hn:Nat.ble args.length n=true)
 (h :∀w M,StX (feet A) w M M A w->Pre M->WC none P (bodyPost P fn (RetS A w M R pv r)) n [] c (envOf 0 args) w):CtS P f args A Pre R pv r:=by
 cases r with
 | inl x=>exact⟨hen,fun w M ha hp=>calls_of_WC hf hb hnt hn (h w M ha hp)⟩
 | inr m=>exact⟨hen,fun w M ha hp=>calls_of_WC hf hb hnt hn (h w M ha hp)⟩
section
variable {C : Nat → Prop} {r : Option Nat} {P : Program} {ops : Array Oper} {Q : Exit → Act → World → Prop} {n : Nat} {D : List Deferred} {rest : List Oper} {e : Env} {w0 w : World} {M0 M : Mem} {L L' A B : List Item} {v u : Value}
  {x y : Operand} {ty t t' : TypeId} {pos : String} {af : Array Edge} {g : Option (Nat × Bool)} {dst : Option Tmp}
theorem Ex.ifaceV (hn:P.concrete t=true)(hx:ev e x=some v):Ex P ⟨dst, .makeInterface t x,ty,pos,af,g⟩ e w (.iface t v) w :=
 ⟨nofun,fun ρ hf=>by simp [execOp,hf _ _ hx,run_makeInterface _ _ _ hn]⟩
theorem WR.callVX {f:FuncId}{ar:List Operand}{vs cap:List Value}{tys:Array TypeId}{Pre:Mem->Prop}{R:Value->Mem->List Item->Prop}(H:StX C w0 M0 M L w)(hs:CtX P f (vs++cap) A Pre R)(hspl:Spl L A B)(hx:ev e x=some (.func (.func f) #[] cap.toArray))(ha:evs e ar=some vs)(hp:Pre M)
 {d:Nat} (hw:Wn ops n D e ⟨some d, .call ⟨.value x,ar.toArray,tys⟩,ty,pos,af,g⟩) (hn:Nat.blt d n=true)
 (k :∀v M' w' its,StX C w0 M0 M' (its++B) w'->M.le M'->R v M' its->WR r P ops Q n D rest ((d,v)::e) w') :
 WR r P ops Q n D (⟨some d, .call ⟨.value x,ar.toArray,tys⟩,ty,pos,af,g⟩::rest) e w:=by
 intro a hsat;unfold wpListIn;rw[l01 (hw a hsat)];refine⟨fun _ _=>trivial,?_⟩;rw[Oper.semAt_eq _ _ _ (fun c h=>by cases h)];have hv:ar.map a.eval=vs:=hsat.fits.evs ha;have hf:a.eval x = .func (.func f) #[] cap.toArray:=hsat.fits _ _ hx;have hrun:(execOp a.eval ⟨some d, .call ⟨.value x,ar.toArray,tys⟩,ty,pos,af,g⟩).run P w = .ok (.enter f (vs++cap).toArray) w:=by
  simp only[execOp,resolve,hf,Deferred.ofValue,Sem.run_bind,Sem.run_pure,Result.andThen_ok,invoke,l0J,hv,l2p,l07,hs.enters]
 rw[hrun,Oper.uponIn_enter];refine⟨fun h=>(by cases h),callsIn_Wd.2 ((hs.calls w M (H.hand hspl) hp).mono ?_)⟩;rintro en w' ⟨rv,M',its,rfl,hx,hR⟩;exact k rv M' w' its (H.back hspl hx) hx.ext.le hR _ (hsat.put (l0h hn) rv)
end
end Go.Ph
end
section
namespace Go.Ph
open Go Go.RowKit Pl
theorem Rem.perm {L L':List Item}{a:Item}(h:Rem L a L'):L.Perm (a::L'):=by
 induction h with
 | head=>exact List.Perm.refl _
 | tail _ ih=>exact(ih.cons _).trans (List.Perm.swap _ _ _)
inductive Tak : List Item->List Item->List Item->Prop
 | nil {L:List Item}:Tak L [] L
 | cons {L L' A B:List Item} {a:Item} (h:Rem L a L') (k:Tak L' A B):Tak L (a::A) B
theorem Pick.all :∀L:List Item,Pick L L
 | [] => .nil
 | _::L => .cons .head (Pick.all L)
theorem Tak.pick {L A B:List Item}(h:Tak L A B):Pick L (A++B):=by
 induction h with
 | nil=>exact Pick.all _
 | cons h _ ih=>exact Pick.cons h ih
theorem _root_.Kt {p:Prop}(h:p:=by repeat' first|exact Rem.head|exact Tak.nil|apply Tak.cons|apply Rem.tail):p:=h
section
variable {C : Nat → Prop} {r : Option Nat} {P : Program} {ops : Array Oper} {Q : Exit → Act → World → Prop} {n : Nat} {D : List Deferred} {rest : List Oper} {e : Env} {w0 w : World} {M0 M : Mem} {L A B : List Item} {d : Nat}
  {x : Operand} {ty : TypeId} {pos : String} {af : Array Edge} {g : Option (Nat × Bool)}
theorem XC {f:FuncId}{ar:List Operand}{vs:List Value}{tys:Array TypeId}{Pre:Mem->Prop}{R:Value->Mem->List Item->Prop}(H:StX C w0 M0 M L w)(hs:CtX P f vs A Pre R)(ha:evs e ar=some vs)(hp:Pre M)
 (hw:Wn ops n D e ⟨some d, .call ⟨.value (.func f),ar.toArray,tys⟩,ty,pos,af,g⟩) (hn:Nat.blt d n=true) (hk:Tak L A B)
 (k :∀v M' w' its,StX C w0 M0 M' (its++B) w'->M.le M'->R v M' its->WR r P ops Q n D rest ((d,v)::e) w') :
 WR r P ops Q n D (⟨some d, .call ⟨.value (.func f),ar.toArray,tys⟩,ty,pos,af,g⟩::rest) e w:=q0R (H.pick hk.pick) hs (q1r A B) ha hp hw hn k
end
end Go.Ph
end
section
namespace Go.Ph
open Go Go.RowKit Pl
namespace Pl
def dgF : Nat->Nat->Ls
 | 0,_=>[]
 | m+1,n=>if n<10 then [UInt8.ofNat (48+n)] else dgF m (n / 10)++[UInt8.ofNat (48+n % 10)]
def itoaP (n:Int):Ls:=if n<0 then 45::dgF 20 n.natAbs else dgF 20 n.toNat
theorem dgF_eq :∀(m n:Nat),n<10 ^ (m+1)->dgF (m+1) n=Lib.decDigits n
 | 0,n,h=>by
   have h:n<10:=by simpa using h
   rw[dgF,Lib.decDigits,l01 h,dif_pos h]
 | m+1,n,h=>by
   rw[dgF,Lib.decDigits];by_cases hn:n<10
   . rw[l01 hn,dif_pos hn]
   rw[l00 hn,dif_neg hn,dgF_eq m (n / 10) (by rw[l3o Om,<-l3r];exact h)]
theorem itoaP_eq {n:Int}(h : -9223372036854775808<=n/\n<=9223372036854775807):itoaP n=Lib.itoa n:=by
 unfold itoaP Lib.itoa;rw[dgF_eq 19 n.natAbs Om,dgF_eq 19 n.toNat Om]
def atoiP (l:Ls):Int × Bool:=match Lib.atoiAll l with
 | .ok v=>(v,true)
 | .range=>(Lib.atoiSat l,false)
 | _=>(0,false)
end Pl
theorem Ext.ofBelow {M:Mem}{w w':World}(ha:Ag M w)(hw:Below w.heap.size w w'):Ext w M w' M :=
 ⟨BelowX.of hw _,Mem.le.refl M,fun b' o' hb'=>by rw[hw.block b' (ha.lt hb')];exact ha b' o' hb',fun b' hb'=>rfl⟩
abbrev _root_.q1N := @Ext.ofBelow
theorem below_grow (w:World)(k:Nat)(os:Array Obj):Below w.heap.size w (Sort.grow (w.drewN k) os):=by
 have u:Below w.heap.size w (w.drewN k):=below_drewN (Below.refl _ w) k;refine u.trans ⟨G,G,G,by simp [Sort.grow],fun j hj=>?_⟩;have:j<(w.drewN k).heap.size:=l1t hj u.size;show((w.drewN k).heap++os)[j]? =(w.drewN k).heap[j]?
 exact Array.getElem?_append_left this
theorem Sl.split {M:Mem}{b:Nat}{t:TypeId}{xs:List ByteArray}{l:List Ls}{n:Nat}(hx:xs.map (·.data.toList)=l)(hn:l.length=n)(hm:n<=9223372036854775807)(h:M b=some (.cells (xs.map Value.string).toArray t (0,0))):Sl M encS (.slice (some ⟨b,0,none⟩) n n) l:=by
 have hl:xs.map Value.string=l.map encS:=by
  subst hx;rw[l3c];apply l2K;intro x _;cases x;simp [encS]
 rw[hl] at h;subst hn;refine⟨some ⟨b,0,none⟩,l.length,G,l0b _,⟨by simp only[maxLen];omega,fun h=>by cases h⟩,fun _=>⟨b,0,_,t,(0,0),G,h,fun i x hi=>?_⟩⟩;rw[l0D,l1i,l0H,hi];rfl
end Go.Ph
end
section
namespace Go.Ph
open Go Go.RowKit Go.ChangeShapes Go.WideShapes Go.ChangeAt
abbrev memOf (W:World):Mem:=fun b=>W.heap[b]?
theorem ag_memOf (W:World):Ag (memOf W) W:=fun _ _ h=>h
section
variable {H : Type} {enc : TypeId × Value → H} {P : Program} {W W' : World}
theorem trodAll_stays (hl:laidOutB P=true)(hB:Below W.heap.size W W'){sp:Nat->Bool}:∀{ts:List TypeId} {vs:List Value} {ds:List (DataW H)} {ps:List MemPlace},(∀t∈ts,P.readableRec t=true/\t<P.types.size)->
 (∀x∈ps,x.block<W.heap.size)->(∀x∈ps,sp x.block=true)->DataW.TrodAll enc P W 0 (fun _=>true) true ts vs ds ps->DataW.TrodAll enc P W' 0 sp true ts vs ds ps
 | [],_,_,_,_,_,_,h=>by
   obtain⟨rfl,rfl,rfl⟩:=trodAll_nil h;exact trodAll_mk0
 | t::ts,_,_,_,ht,hlt,hs,h=>by
   obtain⟨v,vs',d,ds',p,q,rfl,rfl,rfl,E,J⟩:=trodAll_cons h;have u:=ht t l0o;exact⟨p,q,WideElems.Trod_stays hl u.1 u.2 E (fun x hx=>hB.same (hlt x (l1K _ hx))) (fun x hx=>hs x (l1K _ hx)),
    trodAll_stays hl hB (fun t' ht'=>ht t' (l0t _ ht')) (fun x hx=>hlt x (l2w _ hx)) (fun x hx=>hs x (l2w _ hx)) J,rfl⟩
theorem law_done {f:Func}{s:ChangeSpec}{tb:TypeId}{apart fresh handsOn:Bool}{args:Array Value}{ds:List (DataW H)}{before:List MemPlace}(hl:laidOutB P=true)(u:(f.params.toList.all fun t=>P.readableRec t&&decide (t<P.types.size))=true)(hrt:f.resultTypes = #[tb])(hb:P.underlying tb=some .bool)
 (hW:DataW.Whole enc P f.params.toList s.vars apart W args.toList ds [] before) (hA:DataW.TrodAll enc P W 0 (fun _=>true) true f.params.toList args.toList ds before) (hv:s.vars=[]) (E:(s.fn H (ds++[])).results=[.lit (.bool true)]) (J:(s.fn H (ds++[])).args=ds) (K:(s.fn H (ds++[])).vars=[])
 (hB:Below W.heap.size W W'):s.post enc P f apart fresh handsOn false W args (.bool true) W':=by
 have hlt :∀p∈before,p.block<W.heap.size:=fun p hp=>hW.lt p hp
 have hr :∀t∈f.params.toList,P.readableRec t=true/\t<P.types.size:=fun t ht=>by simpa using l0C.1 u t ht
 refine⟨ds,[],before,[],before,[],hW,?_,?_,?_,hB.frame _,fun h=>by cases h⟩
 . rw[hrt,E];exact trodAll_mk1 (shut_bool hb _)
 . rw[J];exact trodAll_stays hl hB hr hlt (fun x hx=>by simpa using hlt x hx) hA
 rw[hv,K];rfl
theorem cells_at {A:Addr}{n:Nat}{f:Nat->Value}(hn:0<n)(h :∀i,i<n->W.cell? (A.add i)=some (f i)):∃b o cs t fz,A=⟨b,o,none⟩/\memOf W b=some (.cells cs t fz)/\∀i,i<n->cs[o+i]? = some (f i):=by
 obtain⟨b,o,s⟩:=A;obtain rfl:s=none:=by simpa [Addr.add] using World.cell?_spot (h 0 hn)
 have u:=h 0 hn;rw[Addr.add_lit] at u;simp only[World.cell?] at u;cases hb:W.heap[b]? with
 | none=>rw[hb] at u;cases u
 | some ob =>
   cases ob with
   | cells cs t fz =>
     refine⟨b,o,cs,t,fz,G,hb,fun i hi=>?_⟩;have:=h i hi;rw[Addr.add_lit] at this;simpa [World.cell?,hb] using this
   | _=>rw[hb] at u;cases u
def DLen {H:Type}(d:DataW H)(n:Nat):Prop:=(d = .nil/\n=0)∨∃els sp,d = .slice els sp/\els.length=n
theorem weights_at {ts:List TypeId}{ds:List (DataW H)}(h :∀x∈DataW.weightsEach P ts ds,x<=reachBytes):∀(j:Nat) (t:TypeId) (d:DataW H),ts[j]? = some t->ds[j]? = some d->∀x∈d.weights P t,x<=reachBytes:=by
 intro j;induction j generalizing ts ds with
 | zero =>
   intro t d ht hd x hx;cases ts with
   | nil=>cases ht
   | cons a ts=>cases ds with
     | nil=>cases hd
     | cons b ds =>
       cases ht;cases hd;exact h x (by rw[DataW.weightsEach];exact l1K _ hx)
 | succ j ih =>
   intro t d ht hd x hx;cases ts with
   | nil=>cases ht
   | cons a ts=>cases ds with
     | nil=>cases hd
     | cons b ds=>exact ih (fun y hy=>h y (by rw[DataW.weightsEach];exact l2w _ hy)) t d ht hd x hx
theorem weights_of {ts vs:List TypeId}{ds gs:List (DataW H)}(h:(DataW.weightsEach P (ts++vs) (ds++gs)).all (· <=reachBytes)=true)(j:Nat)(t:TypeId)(d:DataW H)(ht:ts[j]? = some t)(hd:ds[j]? = some d):∀x∈d.weights P t,x<=reachBytes :=
 weights_at (fun x hx=>of_decide_eq_true (l0C.1 h x hx)) j t d (by rw[l1e (l0c.1 ht).1];exact ht) (by rw[l1e (l0c.1 hd).1];exact hd)
theorem slice_weight {t e:TypeId}{d:DataW H}{n k:Nat}(ht:P.underlying t=some (.slice e))(hb:P.bytesOf e=k)(hk:0<k)(hd:DLen d n)(h :∀x∈d.weights P t,x<=reachBytes):n<=140737488351232:=by
 rcases hd with ⟨_,rfl⟩|⟨els,sp,rfl,rfl⟩
 . omega
 have u:=h ((els.length+sp.length)*k) (by simp only[DataW.weights,ht,hb];exact l0o);have E:els.length<=(els.length+sp.length)*k:=l1B (Nat.le_add_right _ _) (l3f _ hk);simp only[reachBytes] at u;omega
theorem wf_u8 {z:Int}(h:(Lit.int .u8 z).wf=true):0<=z/\z<=255:=by simpa [Lit.wf,IntKind.min,IntKind.max,IntKind.signed,IntKind.bits] using h
end
end Go.Ph
end
section
namespace Go.Ph
open Go Go.RowKit
theorem var_up {P:Program}{W w:World}(ha:Ag (memOf W) w){n:String}{cs:Array Value}(h:W.var? P n=some cs):w.var? P n=some cs:=by
 unfold World.var? at h ⊢;cases hg:P.globalNamed n with
 | none=>rw[hg] at h;cases h
 | some g =>
   rw[hg] at h;simp only[Option.bind_eq_bind,l1U] at h ⊢;cases hb:W.heap[g]? with
   | none=>rw[hb] at h;cases h
   | some o=>rw[ha g o hb];rw [hb] at h;exact h
theorem cell_upM {W w:World}(ha:Ag (memOf W) w){p:Addr}{v:Value}(h:W.cell? p=some v):w.cell? p=some v:=by
 unfold World.cell? at h ⊢;cases hb:W.heap[p.block]? with
 | none=>rw[hb] at h;cases h
 | some o=>rw[ha p.block o hb];rw [hb] at h;exact h
theorem tab_of_reads {P:Program}{W:World}{n:String}{k:IntKind}{zs:List Int}{g len:Nat}{t e:TypeId}(h:Lib.VarReads P W n (Lib.tabData k zs))
 (hg:P.globalNamed n=some g) (hty:(P.globals[g]?).map (·.type)=some t) (ht:P.underlying t=some (.array len e)) (he:P.underlying e=some (.int k)) (hce:P.cellsOf e=1) (hct:P.cellsOf t=len):GlF (fun w=>Lib.TabIs P w n k zs) (memOf W):=by
 obtain⟨g',t',cs,fuel,p,hg',ht',hvar,hd⟩:=h;obtain rfl:=oI (hg.symm.trans hg');obtain rfl:=oI (hty.symm.trans ht');intro w ha;have:=var_up ha hvar;unfold Lib.TabIs;rw[this,<-Lib.cells_of_tab ht he hce hct hd]
theorem iface_of_reads {P:Program}{W:World}{n:String}{nm:String}{d:DataW Unit}{g:Nat}{t:TypeId}(h:Lib.VarReads P W n (.iface nm d))
 (hg:P.globalNamed n=some g) (hty:(P.globals[g]?).map (·.type)=some t) (ht:P.underlying t=some (.interface (P.methodsAt t))):GlF (fun w =>∃tp p,w.var? P n=some #[.iface tp p]) (memOf W):=by
 obtain⟨g',t',cs,fuel,p,hg',ht',hvar,hd⟩:=h;obtain rfl:=oI (hg.symm.trans hg');obtain rfl:=oI (hty.symm.trans ht');intro w ha;have hup:=var_up ha hvar;cases fuel with
 | zero=>cases hd
 | succ fuel =>
   simp only[DataW.trod,ht] at hd;split at hd <;> try (simp_all;done)
   rename_i u v hh hcs;exact⟨u,v,by rw[hup];congr 1;cases cs;simp_all⟩
end Go.Ph
end
section
namespace Go.Ph
open Go Go.RowKit Pl
section
variable {C : Nat → Prop} {r : Option Nat} {P : Program} {ops : Array Oper} {Q : Exit → Act → World → Prop} {n : Nat} {D : List Deferred} {rest : List Oper} {e : Env} {w0 w : World} {M0 M : Mem} {L L' : List Item} {d : Nat} {v z : Value}
  {x y : Operand} {ty t ts tt : TypeId} {pos : String} {af : Array Edge} {g : Option (Nat × Bool)} {α : Type} {enc : α → List Value} {kk bytes : Nat} {l : List α} {M : Mem}
theorem WR.litE (T:ElemTy P ts t z kk bytes)(enc:α->List Value)(H:StX C w0 M0 M L w)
 (hw:Wn ops n D e ⟨some d, .buildSlice ts 0 #[],ty,pos,af,g⟩) (hn:Nat.blt d n=true)
 (k :∀v w',StX C w0 M0 M (RowS t kk enc v ([]:List α)::L) w'->WR r P ops Q n D rest ((d,v)::e) w') :
 WR r P ops Q n D (⟨some d, .buildSlice ts 0 #[],ty,pos,af,g⟩::rest) e w:=by
 obtain⟨i,hi,hz,hsz,_⟩:=T.info;have hs:(sizeOf t).run P w = .ok kk w:=by simp [sizeOf,typeInfo,hi,hsz]
 have hrun:(Instr.buildSlice ts 0 #[]).run P w = .ok (.slice (some ⟨w.heap.size,0,none⟩) 0 0) (w.alloc (.cells #[] t)):=by
  simp only[Instr.buildSlice,Sem.run_bind,run_underlying T.under,Result.andThen_ok,hs];rw[l00 Sm];rw[l01 Sm];simp only[Sem.run_bind,Sem.run_pure,Result.andThen_ok,Nat.zero_mul];rw[show Array.range 0 = #[] by simp,Array.map_empty];rfl
 refine q0u (w':=w.alloc (.cells #[] t)) (v := .slice (some ⟨w.heap.size,0,none⟩) 0 0) ⟨nofun,fun ρ hf=>?_⟩ hw G hn (k _ _ (H.new (it:=RowS t kk enc (.slice (some ⟨w.heap.size,0,none⟩) 0 0) ([]:List α)) (grownBy_alloc' w _) ?_ (fun b hb=>by cases hb;exact l0b _)))
 . simp only[execOp,Sem.run_bind,Array.map_empty,l0J,hrun,Result.andThen_ok,Sem.run_pure];first|done|simp [hrun]
 exact⟨by simp, .inr ⟨w.heap.size,0,#[],G,l0x _,heap_alloc_new w _,by simp,by simp,by simp,by simp⟩⟩
theorem Ex.eqlNilS {a:Option Addr}{nn c:Nat}{t':TypeId}{dst:Option Tmp}(ht:P.underlying t=some (.slice t'))(hx:ev e x=some (.slice a nn c)):Ex P ⟨dst, .binOp .eql t x (.const (.slice none 0 0)) tt,ty,pos,af,g⟩ e w (.bool a.isNone) w :=
 ⟨nofun,fun ρ hf=>by
  have u:ρ (.const (.slice none 0 0)) = .slice none 0 0:=hf _ _ rfl;simp [execOp,hf _ _ hx,u,eqGuard,Go.run_eql_slice_nil w t t' a nn c ht]⟩
abbrev _root_.q1b := @Ex.eqlNilS
theorem SlS.nilOr {M:Mem}(h:SlS M kk enc v l):(v = .slice none 0 0/\l=[])∨∃a c,v = .slice (some a) l.length c:=by
 obtain⟨_,A,c,rfl,E,u,_⟩:=h;cases A with
 | none =>
   have hc:=u.2 rfl;have hl:l=[]:=l0e Om;subst hl;subst hc;exact .inl ⟨G,G⟩
 | some a=>exact .inr ⟨a,c,rfl⟩
theorem WR.stepN {o:Oper}{w':World}(hx:Ex P o e w v w')(hw:Wn ops n D e o)(hd:o.dst=none)(k:WR r P ops Q n D rest e w'):WR r P ops Q n D (o::rest) e w:=by
 intro a ha;unfold wpListIn;rw[l01 (hw a ha)];refine⟨fun _ _=>trivial,?_⟩;rw[Oper.semAt_eq _ _ _ hx.1,hx.2 _ ha.fits,Oper.uponIn_value,hd];exact k _ ha
theorem zero_len (zc:Array Value)(m:Nat):(Builtin.zeroCells zc m).toList.length=m*zc.size:=by simp [Builtin.zeroCells]
theorem zero_one {zc:Array Value}(h :∀u∈zc.toList,u.oneCell'=true)(hp:0<zc.size)(m:Nat):∀u∈(Builtin.zeroCells zc m).toList,u.oneCell'=true:=fun u hu=>by
 unfold Builtin.zeroCells at hu;rw[Array.mem_toList_iff] at hu;obtain⟨i,_,rfl⟩:=Array.mem_map.1 hu;have hlt:i % zc.size<zc.size:=l2A _ hp;rw[getElem!_pos zc _ hlt];exact h _ Sm
theorem WR.clearTail {gb cap i:Nat}{q:List α}{A:Option Addr}(T:ElemTy P ts t z kk bytes)(K :∀u∈z.cells.toList,u.oneCell'=true)(E :∀x,(enc x).length=kk)(H:StX C w0 M0 M L w)(hi:i<=q.length)
 (hu :∀it',Upd L (RowS t kk enc (.slice (some ⟨gb,0,none⟩) q.length cap) q) it' (it'::L')) (hx:ev e x=some (.slice A (q.length-i) (cap-i))) (hA:i<q.length->A=some ⟨gb,i*kk,none⟩)
 (hw:Wn ops n D e ⟨none, .call ⟨.builtin .clear,#[x],#[ts]⟩,ty,pos,af,g⟩)
 (k :∀w',StX C w0 M0 M (RowS t kk enc (.slice (some ⟨gb,0,none⟩) i cap) (q.take i)::L') w'->WR r P ops Q n D rest e w') :
 WR r P ops Q n D (⟨none, .call ⟨.builtin .clear,#[x],#[ts]⟩,ty,pos,af,g⟩::rest) e w:=by
 have hm:=(hu (RowS t kk enc (.slice (some ⟨gb,0,none⟩) q.length cap) q)).mem;obtain⟨ti,hti,hz,hsz,_⟩:=T.info;have hzv :∀w,(zeroValue t).run P w = .ok z w:=fun w=>by simp [zeroValue,typeInfo,hti,hz]
 have hlt:(q.take i).length=i:=by rw[l0j];omega
 have hrow:=H.rowOf hm;rcases hrow.2 with ⟨hv,_⟩|⟨g',cap',cur,hv,Z,hg,N,O,U,V⟩
 . cases hv
 cases hv;have hik:i*kk<=q.length*kk:=l1C _ hi;have hqk:q.length*kk<=cap*kk:=l1C _ N;have htk:(q.flatMap enc).take (i*kk)=(q.take i).flatMap enc:=by
  have Y:q.flatMap enc=(q.take i).flatMap enc++(q.drop i).flatMap enc:=by rw[<-l1P,l0X]
  rw[Y,l1T (by rw[flat_len E,hlt];exact l0b _),l0P (by rw[flat_len E,hlt];exact l0b _)]
 by_cases J:i=q.length
 . have hrun:(Builtin.clear_ #[ts] ty #[.slice A 0 (cap-i)]).run P w = .ok (.tuple #[]) w:=by
    cases A <;> simp [Builtin.clear_,run_underlying T.under]
   rw[show q.length-i=0 by omega] at hx;refine WR.stepN (v := .tuple #[]) (w':=w) ⟨nofun,fun ρ hf=>?_⟩ hw G (k _ (H.upd (hu _) (World.grownBy.refl _ _) ?_ (fun b hb => .inl hb)))
   . simp only[execOp,resolve,invoke,builtin,Sem.run_bind,Sem.run_pure,Result.andThen_ok,l0J,l0p,l1d,hf _ _ hx,hrun]
   subst J;rw[l0M];exact hrow
 have hA:=hA Om;subst hA;have hzl:=zero_len z.cells (q.length-i);have hzs:z.cells.size=kk:=T.zs;rw[hzs,Nat.sub_mul] at hzl;have hst:=run_storeCells_at P gb (i*kk) t (Builtin.zeroCells z.cells (q.length-i)).toList 0 cur w hg Om (zero_one K (by have:=T.pos;omega) _);simp only[l1M] at hst;have hrun:(Builtin.clear_ #[ts] ty #[.slice (some ⟨gb,i*kk,none⟩) (q.length-i) (cap-i)]).run P w = .ok (.tuple #[]) (w.setRow gb (cur.toList.take (i*kk)++(Builtin.zeroCells z.cells (q.length-i)).toList++cur.toList.drop (i*kk+(Builtin.zeroCells z.cells (q.length-i)).toList.length)).toArray):=by
  obtain⟨m,hm⟩ :∃m,q.length-i=m+1:=⟨q.length-i-1,by omega⟩
  rw[hm] at hst ⊢;simp [Builtin.clear_,run_underlying T.under,hzv,hst]
 obtain⟨cs,hcs⟩ :∃cs,(cur.toList.take (i*kk)++(Builtin.zeroCells z.cells (q.length-i)).toList++cur.toList.drop (i*kk+(Builtin.zeroCells z.cells (q.length-i)).toList.length)).toArray=cs:=⟨_,rfl⟩
 rw[hcs] at hrun;refine WR.stepN (v := .tuple #[]) (w':=w.setRow gb cs) ⟨nofun,fun ρ hf=>?_⟩ hw G (k _ (H.upd (hu _) (grownBy_setRow w gb cs) ?_ (fun b hb => .inl hb)))
 . simp only[execOp,resolve,invoke,builtin,Sem.run_bind,Sem.run_pure,Result.andThen_ok,l0J,l0p,l1d,hf _ _ hx,hrun]
 have hcl:cur.toList.length=cap*kk:=by simpa using U
 subst hcs;refine⟨by rw[flat_len E], .inr ⟨gb,cap,_,by rw[hlt],l0x _,setRow_heap w gb cur _ t _ hg,by rw[hlt];omega,O,?_,?_⟩⟩
 . simp only[l1F,l05,l0j,l08,l1y,hzl];omega
 rw[hlt,l0s,l1T (by rw[l0j];omega),List.take_take,Nat.min_self,<-htk,<-V,List.take_take,l2v hik]
theorem Ex.sliceRow {A:Option Addr}{nn c i j:Nat}{t':TypeId}{lo hi:Option Operand}{dst:Option Tmp}(ht:P.underlying t=some (.slice t'))(hz :∀w,(sizeOf t').run P w = .ok kk w)(hx:ev e x=some (.slice A nn c))(hnc:nn<=c)(hij:i<=j)(hj:j<=nn)
 (hlo:(∃o,lo=some o/\ev e o=some (I i))∨(lo=none/\i=0)) (hhi:(∃o,hi=some o/\ev e o=some (I j))∨(hi=none/\j=nn)) :
 Ex P ⟨dst, .slice t x lo hi none,ty,pos,af,g⟩ e w (.slice (if c=i then A else A.map (fun a=>a.add (i*kk))) (j-i) (c-i)) w :=
 ⟨nofun,fun ρ hfi=>by
  have hr:=run_slice_partS (P:=P) (w:=w) (lo:=lo.map ρ) (hi:=hi.map ρ) ht hz A nn c hnc hij hj
   (by rcases hlo with ⟨o,rfl,ho⟩|⟨rfl,h⟩
       . exact .inl (by simp [hfi _ _ ho])
       exact .inr ⟨G,h⟩)
   (by rcases hhi with ⟨o,rfl,ho⟩|⟨rfl,h⟩
       . exact .inl (by simp [hfi _ _ ho])
       exact .inr ⟨G,h⟩)
  simp only[execOp,hfi _ _ hx,l2n,Sem.run_bind,hr,Result.andThen_ok,Sem.run_pure]⟩
abbrev _root_.q1M := @Ex.sliceRow
theorem Ex.clearNil {c:Nat}{t':TypeId}{dst:Option Tmp}(ht:P.underlying ts=some (.slice t'))(hx:ev e x=some (.slice none 0 c)):Ex P ⟨dst, .call ⟨.builtin .clear,#[x],#[ts]⟩,ty,pos,af,g⟩ e w (.tuple #[]) w :=
 ⟨nofun,fun ρ hf=>by
  have hrun:(Builtin.clear_ #[ts] ty #[.slice none 0 c]).run P w = .ok (.tuple #[]) w:=by simp [Builtin.clear_,run_underlying ht]
  simp only[execOp,resolve,invoke,builtin,Sem.run_bind,Sem.run_pure,Result.andThen_ok,l0J,l0p,l1d,hf _ _ hx,hrun]⟩
end
end Go.Ph
end
section
namespace Go.Ph
open Go Go.RowKit Pl
section
variable {C : Nat → Prop} {r : Option Nat} {P : Program} {ops : Array Oper} {Q : Exit → Act → World → Prop} {n : Nat} {D : List Deferred} {rest : List Oper} {e : Env} {w0 w : World} {M0 M : Mem} {L L' : List Item} {d : Nat} {v z : Value}
  {x y : Operand} {ty t t' ts tt T : TypeId} {pos : String} {af : Array Edge} {g : Option (Nat × Bool)}
def MethAt (P:Program)(t:TypeId)(v:Value)(name:String)(f:FuncId)(z:Value):Prop :=∀w,(method (P.types.size+Made.depth) t v name).run P w = .ok (f,z) w
theorem WR.callI {f:FuncId}{ar:List Operand}{vs:List Value}{tys:Array TypeId}{Pre:Mem->Prop}{R:Value->Mem->Prop}{name:String}(H:StX C w0 M0 M L w)(hs:Ct P f (z::vs) Pre R)(hm:MethAt P t v name f z)(hx:ev e x=some (.iface t v))(ha:evs e ar=some vs)(hp:Pre M)
 (hw:Wn ops n D e ⟨some d, .call ⟨.invoke x name,ar.toArray,tys⟩,ty,pos,af,g⟩) (hn:Nat.blt d n=true)
 (k :∀v M' w',StX C w0 M0 M' L w'->M.le M'->R v M'->WR r P ops Q n D rest ((d,v)::e) w') :
 WR r P ops Q n D (⟨some d, .call ⟨.invoke x name,ar.toArray,tys⟩,ty,pos,af,g⟩::rest) e w:=by
 intro a hsat;unfold wpListIn;rw[l01 (hw a hsat)];refine⟨fun _ _=>trivial,?_⟩;rw[Oper.semAt_eq _ _ _ (fun c h=>by cases h)];have hv:ar.map a.eval=vs:=hsat.fits.evs ha;have hf:a.eval x = .iface t v:=hsat.fits _ _ hx;have hrun:(execOp a.eval ⟨some d, .call ⟨.invoke x name,ar.toArray,tys⟩,ty,pos,af,g⟩).run P w = .ok (.enter f (z::vs).toArray) w:=by
  have u:(#[Value.iface t v]++ar.toArray.map a.eval)[0]? = some (Value.iface t v):=by simp
  have E:(#[Value.iface t v]++ar.toArray.map a.eval).extract 1 (#[Value.iface t v]++ar.toArray.map a.eval).size=vs.toArray:=by
   rw[l0J,hv];apply Array.ext';simp
  simp only[execOp,resolve,hf,Sem.run_bind,Sem.run_pure,Result.andThen_ok,invoke];rw[u,E];have J:=hm w;simp only[callMethod,Sem.run_bind,run_program,Result.andThen_ok,J];rw[hs.enters];simp
 rw[hrun,Oper.uponIn_enter];refine⟨fun h=>(by cases h),callsIn_Wd.2 ((hs.calls w M H.ag hp).mono ?_)⟩;rintro en w' ⟨rv,M',rfl,hx,hR⟩;exact k rv M' w' (H.call hx) hx.le hR _ (hsat.put (l0h hn) rv)
theorem StX.setC {b o:Nat}{cs:Array Value}(H:StX C w0 M0 M L w)(hu:Upd L (.blk b (.cells cs T)) (.blk b (.cells (cs.setIfInBounds o v) T)) L'):StX C w0 M0 M L' (w.setCell ⟨b,o,none⟩ v):=by
 have hbk:=H.blk hu.mem;refine H.upd hu ⟨G,G,G,?_,fun k _ hk=>?_⟩ ?_ (fun b' hb' => .inl hb')
 . simp [World.setCell]
 . simp only[World.setCell,l1S];rw[l00];intro h;exact hk (by rw[<-h];rfl)
 show(w.setCell _ _).heap[b]? = _
 simp only[World.setCell,l1S,hbk,if_true];rfl
theorem Ex.makeFuncF {dst:Option Tmp}{f:FuncId}{cs:List Operand}{vs:List Value}(hc:evs e cs=some vs):Ex P ⟨dst, .makeFunc (.func f) cs.toArray #[],ty,pos,af,g⟩ e w (.func (.func f) vs.toArray #[]) w :=
 ⟨nofun,fun ρ hfi=>by simp [execOp,Instr.makeFunc,hfi.evs hc]⟩
theorem Ex.makeIface {dst:Option Tmp}{te:TypeId}(ht:P.underlying t=some (.pointer te))(hx:ev e x=some v):Ex P ⟨dst, .makeInterface t x,ty,pos,af,g⟩ e w (.iface t v) w :=
 ⟨nofun,fun ρ hfi=>by simp [execOp,hfi _ _ hx,Instr.makeInterface,run_underlying ht]⟩
theorem StX.cellOf {b o:Nat}{cs:Array Value}(H:StX C w0 M0 M L w)(hm:Item.blk b (.cells cs T)∈L)(h:cs[o]? = some v):w.cell? ⟨b,o,none⟩=some v:=by
 rw[Lib.cell_of_heap (H.blk hm)];exact h
theorem StX.thawOf {b o:Nat}{cs:Array Value}(H:StX C w0 M0 M L w)(hm:Item.blk b (.cells cs T)∈L):w.frozen? ⟨b,o,none⟩=false:=Lib.frozen_of_heap (H.blk hm) o
end
end Go.Ph
end
section
namespace Go.Ph
open Go Go.RowKit
namespace Pl
def frm {α:Type}(l:List α)(j:Int):Option Int:=if 0<=j/\j<=(l.length:Int) then some j else none
def cpyO {α:Type}(l:List α)(j:Int)(s:List α):Option (List α × Int) :=
 some (l.take j.toNat++s.take (l.length-j.toNat)++l.drop (j.toNat+(s.take (l.length-j.toNat)).length),((s.take (l.length-j.toNat)).length:Int))
def idxO (l:List (Option Ls))(i:Int):Option (Option Ls):=if 0<=i/\i<256 then l[i.toNat]? else none
end Pl
open Pl
theorem frm_some {α:Type}{l:List α}{j n:Int}(h:frm l j=some n):j=n/\0<=j/\j<=(l.length:Int):=by
 unfold frm at h;split at h
 . rename_i hb;cases h;exact ⟨rfl,hb⟩
 cases h
theorem frm_ok {α:Type}{l:List α}{j:Nat}(h:j<=l.length):frm l (j:Int)=some (j:Int):=by unfold frm;rw [l01 ⟨by omega,by omega⟩]
def RSub (v:Value)(n j:Nat)(u:Value):Prop :=∃A c,v = .slice A n c/\j<=n/\n<=c/\u = .slice (if c=j then A else A.map (fun a=>a.add (j*1))) (n-j) (c-j)
section
variable {C : Nat → Prop} {r : Option Nat} {P : Program} {ops : Array Oper} {Q : Exit → Act → World → Prop} {n : Nat} {D : List Deferred} {rest : List Oper} {e : Env} {w0 w : World} {M0 M : Mem} {L L' : List Item} {d : Nat} {v z u : Value}
  {x y : Operand} {ty t t' ts tt te T : TypeId} {pos : String} {af : Array Edge} {g : Option (Nat × Bool)} {α : Type} {enc : α → Value} {l l2 s : List α} {dst : Option Tmp}
theorem WR.litR {ps:List (Nat × Operand)}{vs:List Value}{bytes len:Nat}(T:ElemTy P ts t z 1 bytes)(l:List α)(H:StX C w0 M0 M L w)(hp:evp e 0 ps=some vs)(hl:vs=l.map enc)(E :∀a,(enc a).cells = #[enc a])(hlen:l.length=len)(hbig:Nat.ble len 16777216=true)
 (hw:Wn ops n D e ⟨some d, .buildSlice ts len ps.toArray,ty,pos,af,g⟩) (hn:Nat.blt d n=true)
 (k :∀v w',StX C w0 M0 M (RowI t enc v l::L) w'->WR r P ops Q n D rest ((d,v)::e) w') :
 WR r P ops Q n D (⟨some d, .buildSlice ts len ps.toArray,ty,pos,af,g⟩::rest) e w:=by
 have hbig:=l0h hbig;refine q0u (w':=w.alloc (.cells vs.toArray t)) (v := .slice (some ⟨w.heap.size,0,none⟩) len len) ⟨nofun,fun ρ hf=>?_⟩ hw G hn (k _ _ (H.new (it:=RowI t enc (.slice (some ⟨w.heap.size,0,none⟩) len len) l) (grownBy_alloc' w (.cells vs.toArray t)) ?_ (fun b hb=>by cases hb;exact l0b _)))
 . have:=run_buildSlice (P:=P) (w:=w) hf T hp (fun v hv=>by rw[hl] at hv;obtain ⟨a,_,rfl⟩:=l0Z.1 hv;exact E a) (len:=len) (by rw[hl];simpa using hlen) hbig;simp only[execOp,Sem.run_bind,this,Result.andThen_ok,Sem.run_pure]
 subst hl;subst hlen;exact⟨by simp, .inr ⟨w.heap.size,l.length,(l.map enc).toArray,G,l0x _,heap_alloc_new w _,l0b _,by simp only[maxLen];omega,by simp,by rw[l1l];exact l0P Sm⟩⟩
theorem WR.rowFrom {j E:Int}(ht:P.underlying ts=some (.slice t'))(hz :∀w,(sizeOf t').run P w = .ok 1 w)(H:StX C w0 M0 M L w)(hm:RowI t enc v l∈L)(hj:frm l j=some E)(hx:ev e x=some v)(hy:ev e y=some (I j))
 (hw:Wn ops n D e ⟨some d, .slice ts x (some y) none none,ty,pos,af,g⟩) (hn:Nat.blt d n=true)
 (k :∀u,RSub v l.length E.toNat u->WR r P ops Q n D rest ((d,u)::e) w) :
 WR r P ops Q n D (⟨some d, .slice ts x (some y) none none,ty,pos,af,g⟩::rest) e w:=by
 obtain⟨rfl,K,N⟩:=frm_some hj;obtain⟨m,rfl⟩:=l0W K;have hrow:=H.rowOf hm;have hnc :∃A c,v = .slice A l.length c/\l.length<=c:=by
  rcases hrow.2 with ⟨hv,J⟩|⟨g',cap,cur,hv,_,_,hc,_⟩
  . exact⟨none,0,by rw[hv,J],by omega⟩
  exact⟨_,cap,hv,hc⟩
 obtain⟨A,c,rfl,hlc⟩:=hnc;have hml:m<=l.length:=by omega
 have hex:=q1M (P:=P) (w:=w) (kk:=1) (i:=m) (j:=l.length) (dst:=some d) (ty:=ty) (pos:=pos) (af:=af) (g:=g) (lo:=some y) (hi:=none) ht hz hx hlc hml (l0b _) (.inl ⟨y,rfl,hy⟩) (.inr ⟨rfl,rfl⟩);exact q0u hex hw G hn (k _ ⟨A,c,G,hml,hlc,G⟩)
theorem take_cpy {a:List Value}{b:List α}{j k' n:Nat}(h:a.take n=b.map enc)(hb:b.length=n)(s:List α)(hs:j+s.length<=n)(ha:n<=a.length):(a.take j++s.map enc++a.drop (j+s.length)).take n=(b.take j++s++b.drop (j+s.length)).map enc:=by
 have E:a.take j=(b.take j).map enc:=by rw[List.map_take,<-h,List.take_take,l2v Om]
 have J:(a.drop (j+s.length)).take (n-(j+s.length))=(b.drop (j+s.length)).map enc:=by rw[List.map_drop,<-h,l2R]
 have hx:(a.take j++s.map enc).length=j+s.length:=by rw[l05,l0j,l0w];omega
 rw[l2G,l0P (l:=a.take j++s.map enc) Om,hx,J,E,l1v,l1v]
theorem WR.copyC {j:Int}{m:Int}(hu:P.underlying ts=some (.slice te))(hs:(P.info? te).map (·.size)=some 1)(V :∀a,(enc a).oneCell'=true)(H:StX C w0 M0 M L w){L':Item->List Item}(hU :∀it',Upd L (RowI t enc v l) it' (L' it'))(hr:RSub v l.length j.toNat u)(hsl:Sl M enc z s)(hc:cpyO l j s=some (l2,m))(hx:ev e x=some u)(hy:ev e y=some z)
 (hw:Wn ops n D e ⟨some d, .call ⟨.builtin .copy,#[x,y],#[ts,tt]⟩,ty,pos,af,g⟩) (hn:Nat.blt d n=true)
 (k :∀w',StX C w0 M0 M (L' (RowI t enc v l2)) w'->WR r P ops Q n D rest ((d,I m)::e) w') :
 WR r P ops Q n D (⟨some d, .call ⟨.builtin .copy,#[x,y],#[ts,tt]⟩,ty,pos,af,g⟩::rest) e w:=by
 obtain⟨i,hi⟩ :∃i,j.toNat=i:=⟨_,rfl⟩
 rw[hi] at hr;unfold cpyO at hc;rw[hi] at hc;simp only[Option.some.injEq,Prod.mk.injEq] at hc;obtain⟨rfl,rfl⟩:=hc;obtain⟨A,c,rfl,hjn,hnc,rfl⟩:=hr;have Y:=hsl;obtain⟨A2,N,rfl,a3,a4,O⟩:=hsl;have hm:=(hU (RowI t enc (.slice A l.length c) l)).mem;have hlen:(s.take (l.length-i)).length=Nat.min s.length (l.length-i):=by rw[l0j,Nat.min_comm]
 have step :∀w',(Builtin.copy_ #[ts,tt] ty #[.slice (if c=i then A else A.map (fun a=>a.add (i*1))) (l.length-i) (c-i), .slice A2 s.length N]).run P w = .ok (goInt (s.take (l.length-i)).length) w'->StX C w0 M0 M (L' (RowI t enc (.slice A l.length c) (l.take i++s.take (l.length-i)++l.drop (i+(s.take (l.length-i)).length)))) w'->WR r P ops Q n D (⟨some d, .call ⟨.builtin .copy,#[x,y],#[ts,tt]⟩,ty,pos,af,g⟩::rest) e w:=by
  intro w' hrun H';refine q0u (v:=I _) (w':=w') ⟨nofun,fun ρ hf=>?_⟩ hw G hn (k w' H');simp only[execOp,resolve,invoke,builtin,Sem.run_bind,Sem.run_pure,Result.andThen_ok,l0J,l0p,l1d,hf _ _ hx,hf _ _ hy,hrun];try rfl
 by_cases J:Nat.min s.length (l.length-i)=0
 . have K:s.take (l.length-i)=[]:=l0e (by rw[hlen,J]);refine step w ?_ ?_
   . rw[K];exact run_copy_none w ts tt ty te _ _ _ _ _ _ hu hs J
   rw[K,l0m];simp only[l0d,l1M,l0X];exact H.upd (hU _) (World.grownBy.refl _ _) (H.own _ hm).1 (fun b hb => .inl hb)
 have hrow:=H.rowOf hm;rcases hrow.2 with ⟨hv,U⟩|⟨g',cap,cur,hv,_,hg,hcc,hcm,hcs,htk⟩
 . exact absurd (by rw[U];show min s.length (0-i)=0;omega) J
 cases hv;have hpos:0<s.length/\0<l.length-i:=by
  have hmin:Nat.min s.length (l.length-i)=min s.length (l.length-i):=rfl;rw[hmin] at J;omega
 have hne:s≠ []:=by rintro rfl;simp at hpos
 obtain⟨Z,o2,a5,t2,a6,rfl,e2,e3⟩:=O hne;rw[l1l] at hcs htk;have hkl:(s.take (l.length-i)).length<=l.length-i:=by rw[l0j];omega
 have hrun:=run_copy_row (P:=P) w ts tt ty te g' i (l.length-i) (c-i) ⟨Z,o2,none⟩ s.length N cur t ((s.take (l.length-i)).map enc) hu hs hg (by rw[l0w,hlen]) (fun q x hq=>by
  rw[l0H] at hq;obtain⟨a,ha,rfl⟩:=l0A.1 hq;have ha':s[q]? = some a:=by
   rw[l0z] at ha;split at ha
   . exact ha
   cases ha
  have hcell:=e3 q a ha';rw[Addr.add_lit];unfold World.cell?;rw[H.ag _ _ e2];simpa using hcell) (by rw[l0w];omega) (fun x hx=>by
  obtain⟨a,_,rfl⟩:=l0Z.1 hx;exact V a)
 rw[l0w] at hrun;have hcne :¬c=i:=by omega
 refine step _ (by
  rw[l00 hcne];simp only[l0Y,Addr.add_lit,l0D,l1l];exact hrun) (H.upd (hU _) (grownBy_setRow w g' _) ?_ (fun b hb => .inl hb))
 have E:(l.take i++s.take (l.length-i)++l.drop (i+(s.take (l.length-i)).length)).length=l.length:=by
  simp only[l05,l08,l0j] at hkl ⊢;omega
 refine⟨by simp, .inr ⟨g',c,_,by rw[E],l0x _,setRow_heap w g' cur _ t _ hg,by rw[E];exact hcc,hcm,?_,?_⟩⟩
 . simp only[l1F,l05,l0j,l08,l0w,l1y,l1l] at hkl ⊢;omega
 rw[E,l1l];have:=take_cpy (k':=0) (enc:=enc) htk rfl (j:=i) (s.take (l.length-i)) Om Ow;simpa using this
def SlO (M:Mem)(v:Value)(o:Option Ls):Prop:=(o=none/\v = .slice none 0 0)∨∃l a c,o=some l/\v = .slice (some a) l.length c/\Sl M encB v l
theorem SlO.mono {M M':Mem}{v:Value}{o:Option Ls}(h:SlO M v o)(hl:M.le M'):SlO M' v o:=by
 rcases h with h|⟨l,a,c,E,J,K⟩
 . exact .inl h
 exact .inr ⟨l,a,c,E,J,K.mono hl⟩
theorem SlO.sl {v:Value}{o:Option Ls}(h:SlO M v o):Sl M encB v (o.getD []):=by
 rcases h with ⟨rfl,rfl⟩|⟨l,a,c,rfl,_,E⟩
 . exact q0U _ _
 exact E
def TabO (M:Mem)(b T:Nat)(tb:List (Option Ls))(tr:List Ls):Prop :=
 ∃(vs:List Value) (vt:Value),PtM M b (.cells (vs++[vt]).toArray T)/\vs.length=256/\(∀(i:Nat) (o:Option Ls),tb[i]? = some o->∃v,vs[i]? = some v/\SlO M v o)/\Sl M encS vt tr
theorem TabO.mono {M M':Mem}{b T:Nat}{tb:List (Option Ls)}{tr:List Ls}(h:TabO M b T tb tr)(hl:M.le M'):TabO M' b T tb tr:=by
 obtain⟨vs,vt,E,J,K,N⟩:=h;exact⟨vs,vt,E.mono hl,J,fun i o ho=>by obtain⟨v,hv,hs⟩:=K i o ho;exact ⟨v,hv,hs.mono hl⟩,N.mono hl⟩
theorem TabO.at {b T:Nat}{tb:List (Option Ls)}{tr:List Ls}{i:Int}{o:Option Ls}(h:TabO M b T tb tr)(hi:idxO tb i=some o):∃v,CellM M ⟨b,0+i.toNat*1,none⟩ v/\SlO M v o:=by
 obtain⟨vs,vt,E,K,J,_⟩:=h;unfold idxO at hi;split at hi
 . obtain⟨v,hv,hs⟩:=J _ _ hi;refine⟨v,⟨G,_,_,_,E,?_⟩,hs⟩;have hlt:=(l0c.1 hv).1;show(vs++[vt]).toArray[0+i.toNat*1]? = some v
   rw[l0D,l1l,l1i,l1e hlt,hv]
 cases hi
theorem TabO.tl {b T:Nat}{tb:List (Option Ls)}{tr:List Ls}(h:TabO M b T tb tr):∃v,CellM M ⟨b,256,none⟩ v/\Sl M encS v tr:=by
 obtain⟨vs,vt,E,J,_,K⟩:=h;refine⟨vt,⟨G,_,_,_,E,?_⟩,K⟩;show(vs++[vt]).toArray[256]? = some vt
 rw[l1i,l0L Om,J];rfl
theorem Ex.idxArrO {b o:Nat}{i:Int}{E:TypeId}{k:IntKind}{tb:List (Option Ls)}{q:Option Ls}(hs:P.underlying t=some (.array 256 E))(hz :∀w,(sizeOf E).run P w = .ok 1 w)(hx:ev e x=some (ptr b o))(hy:ev e y=some (.int k i))(h:idxO tb i=some q):
 Ex P ⟨dst, .indexAddr t x y,ty,pos,af,g⟩ e w (ptr b (o+i.toNat*1)) w:=by
 unfold idxO at h;split at h
 . rename_i hb;obtain⟨m,rfl⟩:=l0W hb.1;exact q1n hs hz hx hy Om
 cases h
theorem Ex.neqNilO {o:Option Ls}(ht:P.underlying t=some (.slice t'))(h:SlO M v o)(hx:ev e x=some v):Ex P ⟨dst, .binOp .neq t x (.const (.slice none 0 0)) tt,ty,pos,af,g⟩ e w (.bool o.isSome) w:=by
 refine⟨nofun,fun ρ hf=>?_⟩;have E:ρ (.const (.slice none 0 0)) = .slice none 0 0:=hf _ _ rfl;rcases h with ⟨rfl,rfl⟩|⟨l,a,c,rfl,rfl,_⟩
 . simp [execOp,hf _ _ hx,E,eqGuard,Go.run_neq_slice_nil w t t' none 0 0 ht]
 simp [execOp,hf _ _ hx,E,eqGuard,Go.run_neq_slice_nil w t t' (some a) _ _ ht]
end
end Go.Ph
end
section
namespace Go.Ph
open Go Go.RowKit Pl
section
variable {C : Nat → Prop} {r : Option Nat} {P : Program} {ops : Array Oper} {Q : Exit → Act → World → Prop} {n : Nat} {D : List Deferred} {rest : List Oper} {e : Env} {w0 w w' : World} {M0 M : Mem} {L L' : List Item} {d : Nat} {v z : Value}
  {x y : Operand} {ty t t' ts tt T : TypeId} {pos : String} {af : Array Edge} {g : Option (Nat × Bool)}
theorem WR.callW {f:FuncId}{ar:List Operand}{vs:List Value}{tys:Array TypeId}{R:World->Prop}{v:Value}(hen :∀ar w,(callFunc f ar).run P w = .ok (.enter f ar) w)(hc:Calls P f vs.toArray w fun e w'=>e = .returned v/\R w')(ha:evs e ar=some vs)
 (hw:Wn ops n D e ⟨some d, .call ⟨.value (.func f),ar.toArray,tys⟩,ty,pos,af,g⟩) (hn:Nat.blt d n=true)
 (k :∀w',R w'->WR r P ops Q n D rest ((d,v)::e) w') :
 WR r P ops Q n D (⟨some d, .call ⟨.value (.func f),ar.toArray,tys⟩,ty,pos,af,g⟩::rest) e w:=by
 intro a hsat;unfold wpListIn;rw[l01 (hw a hsat)];refine⟨fun _ _=>trivial,?_⟩;rw[Oper.semAt_eq _ _ _ (fun c h=>by cases h)];have hv:ar.map a.eval=vs:=hsat.fits.evs ha;have hf:a.eval (.func f) = .func (.func f) #[] #[]:=rfl;have hrun:(execOp a.eval ⟨some d, .call ⟨.value (.func f),ar.toArray,tys⟩,ty,pos,af,g⟩).run P w = .ok (.enter f vs.toArray) w:=by
  simp only[execOp,resolve,hf,Deferred.ofValue,Sem.run_bind,Sem.run_pure,Result.andThen_ok,invoke,l0J,hv,l2j,l1h,hen]
 rw[hrun,Oper.uponIn_enter];refine⟨fun h=>(by cases h),callsIn_Wd.2 (hc.mono ?_)⟩;rintro en w' ⟨rfl,hR⟩;exact k w' hR _ (hsat.put (l0h hn) v)
theorem StX.restart (H0:St w0 M0 M0 [] w0)(H:St w0 M0 M L w)(hb:Below w0.heap.size w w')(hL :∀it∈L',it.holds w'/\∀b,it.foot=some b->w0.heap.size<=b)(hs:L'.Pairwise (fun x y =>∀b,x.foot=some b->y.foot≠some b)):St w0 M0 M0 L' w':=by
 have hblk :∀k,k<w0.heap.size->w'.heap[k]? = w.heap[k]? := fun k hk=>hb.block k hk
 refine⟨⟨⟨hb.os.trans H.ext.below.os,hb.tape.trans H.ext.below.tape,hb.output.trans H.ext.below.output,l1B H.ext.below.size hb.size,fun k hk hn=>(hblk k hk).trans (H.ext.below.block k hk hn)⟩,Mem.le.refl _,fun b o hbo=>?_,fun _ _=>G⟩,fun it hit=>⟨(hL it hit).1,fun b hf=>⟨?_, .inl ((hL it hit).2 b hf)⟩⟩,hs⟩
 . rw[hblk b (H0.ag.lt hbo)];exact H.ag _ _ (H.ext.le _ _ hbo)
 exact H0.ag.none ((hL it hit).2 b hf)
theorem WR.appStrRoom {l l2:Ls}{tx:TypeId}{gb cap:Nat}{L':Item->List Item}(T:ElemTy P ts t z 1 1)(ht:P.underlying tx=some .string)(H:StX C w0 M0 M L w)(hx:ev e x=some (.slice (some ⟨gb,0,none⟩) l.length cap))(hu :∀it',Upd L (RowI t encB (.slice (some ⟨gb,0,none⟩) l.length cap) l) it' (L' it'))(hy:ev e y=some (S l2))
 (hroom:l.length+l2.length<=cap)
 (hw:Wn ops n D e ⟨some d, .call ⟨.builtin .append,#[x,y],#[ts,tx]⟩,ty,pos,af,g⟩) (hn:Nat.blt d n=true)
 (k :∀w',StX C w0 M0 M (L' (RowI t encB (.slice (some ⟨gb,0,none⟩) (l++l2).length cap) (l++l2))) w'->WR r P ops Q n D rest ((d, .slice (some ⟨gb,0,none⟩) (l++l2).length cap)::e) w') :
 WR r P ops Q n D (⟨some d, .call ⟨.builtin .append,#[x,y],#[ts,tx]⟩,ty,pos,af,g⟩::rest) e w:=by
 have hm:=(hu (RowI t encB (.slice (some ⟨gb,0,none⟩) l.length cap) l)).mem;have hs:Src P 1 tx (S l2) l2.length (l2.map encB) w:=srcStr ht;obtain⟨i,hi,hz,hsz,hby⟩:=T.info;rcases(H.rowOf hm).2 with ⟨hv,_⟩|⟨g',cap',cur,hv,_,hg,hnc,hcm,hcs,htk⟩
 . cases hv
 cases hv;rw[l1l] at hcs htk;have hl:=hs.newsLen;have hfit:l.length+(l2.map encB).length<=cur.size:=by rw[l0w,hcs];exact hroom
 have hst:=run_storeCells_at P gb l.length t (l2.map encB) 0 cur w hg (by simpa using hfit) hs.one;simp only[l1M] at hst;have hun:=T.under;have hr:(Builtin.append_ #[ts,tx] ty #[.slice (some ⟨gb,0,none⟩) l.length cap,S l2]).run P w = .ok (.slice (some ⟨gb,0,none⟩) (l.length+l2.length) cap) (w.setRow gb (cur.toList.take l.length++l2.map encB++cur.toList.drop (l.length+(l2.map encB).length)).toArray):=by
  rcases hs.kind with ⟨e',hk⟩|hk <;> simp [Builtin.append_,run_underlying hun,run_underlying hk,sizeOf,typeInfo,hi,hsz,hs.len,hroom,hs.cells,Addr.add_lit,hst]
 rw[<-l05] at hr;refine q0u (w':=w.setRow gb (cur.toList.take l.length++l2.map encB++cur.toList.drop (l.length+(l2.map encB).length)).toArray) ⟨nofun,fun ρ hfi=>?_⟩ hw G hn (k _ (H.upd (hu _) (grownBy_setRow w gb _) ?_ (fun b hb => .inl hb)))
 . simp only[execOp,resolve,invoke,builtin,Sem.run_bind,Sem.run_pure,Result.andThen_ok,l0J,l0p,l1d,hfi _ _ hx,hfi _ _ hy,hr]
 refine⟨by simp, .inr ⟨gb,cap,_,G,l0x _,setRow_heap w gb cur _ t _ hg,by rw[l05];exact hroom,hcm,?_,?_⟩⟩
 . simp only[l1F,l05,l0j,l08,l1y,l0w,l1l] at hfit ⊢;omega
 rw[htk,l05,l1l,<-l1v,l2G,l0w,l05,l0P Sm];simp
end
end Go.Ph
end
section
namespace Go
abbrev Tf100 := @Proofs.Tryz.func100
abbrev Tf104 := @Proofs.Tryz.func104
abbrev Tf110 := @Proofs.Tryz.func110
abbrev Tf111 := @Proofs.Tryz.func111
abbrev Tf112 := @Proofs.Tryz.func112
abbrev Tf126 := @Proofs.Tryz.func126
abbrev Tf142 := @Proofs.Tryz.func142
abbrev Tf143 := @Proofs.Tryz.func143
abbrev Tf144 := @Proofs.Tryz.func144
abbrev Tf145 := @Proofs.Tryz.func145
abbrev Tf147 := @Proofs.Tryz.func147
abbrev Tf148 := @Proofs.Tryz.func148
abbrev Tf149 := @Proofs.Tryz.func149
abbrev Tf157 := @Proofs.Tryz.func157
abbrev Tf159 := @Proofs.Tryz.func159
abbrev Tf177 := @Proofs.Tryz.func177
abbrev Tf178 := @Proofs.Tryz.func178
abbrev Tf179 := @Proofs.Tryz.func179
abbrev Tf180 := @Proofs.Tryz.func180
abbrev Tf181 := @Proofs.Tryz.func181
abbrev Tf183 := @Proofs.Tryz.func183
abbrev Tf184 := @Proofs.Tryz.func184
abbrev Tf185 := @Proofs.Tryz.func185
abbrev Tf186 := @Proofs.Tryz.func186
abbrev Tf187 := @Proofs.Tryz.func187
abbrev Tf211 := @Proofs.Tryz.func211
abbrev Tf212 := @Proofs.Tryz.func212
abbrev Tf213 := @Proofs.Tryz.func213
abbrev Tf214 := @Proofs.Tryz.func214
abbrev Tf215 := @Proofs.Tryz.func215
abbrev Tf256 := @Proofs.Tryz.func256
abbrev Tf270 := @Proofs.Tryz.func270
abbrev Tf271 := @Proofs.Tryz.func271
abbrev Tf278 := @Proofs.Tryz.func278
abbrev Tf279 := @Proofs.Tryz.func279
abbrev Tf311 := @Proofs.Tryz.func311
abbrev Tf34 := @Proofs.Tryz.func34
abbrev Tf35 := @Proofs.Tryz.func35
abbrev Tf63 := @Proofs.Tryz.func63
abbrev Tf73 := @Proofs.Tryz.func73
abbrev Tf74 := @Proofs.Tryz.func74
abbrev Tf75 := @Proofs.Tryz.func75
abbrev Ta0 := @Proofs.Tryz.isAgg0
abbrev Ta103 := @Proofs.Tryz.isAgg103
abbrev Ta105 := @Proofs.Tryz.isAgg105
abbrev Ta109 := @Proofs.Tryz.isAgg109
abbrev Ta128 := @Proofs.Tryz.isAgg128
abbrev Ta143 := @Proofs.Tryz.isAgg143
abbrev Ta167 := @Proofs.Tryz.isAgg167
abbrev Ta170 := @Proofs.Tryz.isAgg170
abbrev Ta172 := @Proofs.Tryz.isAgg172
abbrev Ta175 := @Proofs.Tryz.isAgg175
abbrev Ta179 := @Proofs.Tryz.isAgg179
abbrev Ta182 := @Proofs.Tryz.isAgg182
abbrev Ta187 := @Proofs.Tryz.isAgg187
abbrev Ta2 := @Proofs.Tryz.isAgg2
abbrev Ta20 := @Proofs.Tryz.isAgg20
abbrev Ta204 := @Proofs.Tryz.isAgg204
abbrev Ta208 := @Proofs.Tryz.isAgg208
abbrev Ta21 := @Proofs.Tryz.isAgg21
abbrev Ta211 := @Proofs.Tryz.isAgg211
abbrev Ta214 := @Proofs.Tryz.isAgg214
abbrev Ta22 := @Proofs.Tryz.isAgg22
abbrev Ta225 := @Proofs.Tryz.isAgg225
abbrev Ta23 := @Proofs.Tryz.isAgg23
abbrev Ta239 := @Proofs.Tryz.isAgg239
abbrev Ta246 := @Proofs.Tryz.isAgg246
abbrev Ta247 := @Proofs.Tryz.isAgg247
abbrev Ta25 := @Proofs.Tryz.isAgg25
abbrev Ta255 := @Proofs.Tryz.isAgg255
abbrev Ta256 := @Proofs.Tryz.isAgg256
abbrev Ta28 := @Proofs.Tryz.isAgg28
abbrev Ta3 := @Proofs.Tryz.isAgg3
abbrev Ta307 := @Proofs.Tryz.isAgg307
abbrev Ta314 := @Proofs.Tryz.isAgg314
abbrev Ta315 := @Proofs.Tryz.isAgg315
abbrev Ta323 := @Proofs.Tryz.isAgg323
abbrev Ta324 := @Proofs.Tryz.isAgg324
abbrev Ta326 := @Proofs.Tryz.isAgg326
abbrev Ta33 := @Proofs.Tryz.isAgg33
abbrev Ta336 := @Proofs.Tryz.isAgg336
abbrev Ta339 := @Proofs.Tryz.isAgg339
abbrev Ta37 := @Proofs.Tryz.isAgg37
abbrev Ta39 := @Proofs.Tryz.isAgg39
abbrev Ta4 := @Proofs.Tryz.isAgg4
abbrev Ta46 := @Proofs.Tryz.isAgg46
abbrev Ta5 := @Proofs.Tryz.isAgg5
abbrev Ta77 := @Proofs.Tryz.isAgg77
abbrev Ta89 := @Proofs.Tryz.isAgg89
abbrev Ta9 := @Proofs.Tryz.isAgg9
abbrev Ts0 := @Proofs.Tryz.sizeOf0
abbrev Ts103 := @Proofs.Tryz.sizeOf103
abbrev Ts105 := @Proofs.Tryz.sizeOf105
abbrev Ts109 := @Proofs.Tryz.sizeOf109
abbrev Ts128 := @Proofs.Tryz.sizeOf128
abbrev Ts138 := @Proofs.Tryz.sizeOf138
abbrev Ts143 := @Proofs.Tryz.sizeOf143
abbrev Ts167 := @Proofs.Tryz.sizeOf167
abbrev Ts170 := @Proofs.Tryz.sizeOf170
abbrev Ts172 := @Proofs.Tryz.sizeOf172
abbrev Ts175 := @Proofs.Tryz.sizeOf175
abbrev Ts179 := @Proofs.Tryz.sizeOf179
abbrev Ts182 := @Proofs.Tryz.sizeOf182
abbrev Ts187 := @Proofs.Tryz.sizeOf187
abbrev Ts2 := @Proofs.Tryz.sizeOf2
abbrev Ts20 := @Proofs.Tryz.sizeOf20
abbrev Ts204 := @Proofs.Tryz.sizeOf204
abbrev Ts208 := @Proofs.Tryz.sizeOf208
abbrev Ts21 := @Proofs.Tryz.sizeOf21
abbrev Ts211 := @Proofs.Tryz.sizeOf211
abbrev Ts214 := @Proofs.Tryz.sizeOf214
abbrev Ts22 := @Proofs.Tryz.sizeOf22
abbrev Ts225 := @Proofs.Tryz.sizeOf225
abbrev Ts228 := @Proofs.Tryz.sizeOf228
abbrev Ts23 := @Proofs.Tryz.sizeOf23
abbrev Ts239 := @Proofs.Tryz.sizeOf239
abbrev Ts246 := @Proofs.Tryz.sizeOf246
abbrev Ts247 := @Proofs.Tryz.sizeOf247
abbrev Ts25 := @Proofs.Tryz.sizeOf25
abbrev Ts255 := @Proofs.Tryz.sizeOf255
abbrev Ts256 := @Proofs.Tryz.sizeOf256
abbrev Ts28 := @Proofs.Tryz.sizeOf28
abbrev Ts3 := @Proofs.Tryz.sizeOf3
abbrev Ts307 := @Proofs.Tryz.sizeOf307
abbrev Ts314 := @Proofs.Tryz.sizeOf314
abbrev Ts315 := @Proofs.Tryz.sizeOf315
abbrev Ts323 := @Proofs.Tryz.sizeOf323
abbrev Ts324 := @Proofs.Tryz.sizeOf324
abbrev Ts326 := @Proofs.Tryz.sizeOf326
abbrev Ts33 := @Proofs.Tryz.sizeOf33
abbrev Ts336 := @Proofs.Tryz.sizeOf336
abbrev Ts339 := @Proofs.Tryz.sizeOf339
abbrev Ts37 := @Proofs.Tryz.sizeOf37
abbrev Ts39 := @Proofs.Tryz.sizeOf39
abbrev Ts4 := @Proofs.Tryz.sizeOf4
abbrev Ts46 := @Proofs.Tryz.sizeOf46
abbrev Ts5 := @Proofs.Tryz.sizeOf5
abbrev Ts77 := @Proofs.Tryz.sizeOf77
abbrev Ts89 := @Proofs.Tryz.sizeOf89
abbrev Ts9 := @Proofs.Tryz.sizeOf9
abbrev Ts98 := @Proofs.Tryz.sizeOf98
abbrev Tu0 := @Proofs.Tryz.underlying0
abbrev Tu103 := @Proofs.Tryz.underlying103
abbrev Tu105 := @Proofs.Tryz.underlying105
abbrev Tu109 := @Proofs.Tryz.underlying109
abbrev Tu128 := @Proofs.Tryz.underlying128
abbrev Tu140 := @Proofs.Tryz.underlying140
abbrev Tu143 := @Proofs.Tryz.underlying143
abbrev Tu167 := @Proofs.Tryz.underlying167
abbrev Tu170 := @Proofs.Tryz.underlying170
abbrev Tu172 := @Proofs.Tryz.underlying172
abbrev Tu175 := @Proofs.Tryz.underlying175
abbrev Tu176 := @Proofs.Tryz.underlying176
abbrev Tu179 := @Proofs.Tryz.underlying179
abbrev Tu182 := @Proofs.Tryz.underlying182
abbrev Tu187 := @Proofs.Tryz.underlying187
abbrev Tu2 := @Proofs.Tryz.underlying2
abbrev Tu20 := @Proofs.Tryz.underlying20
abbrev Tu204 := @Proofs.Tryz.underlying204
abbrev Tu208 := @Proofs.Tryz.underlying208
abbrev Tu21 := @Proofs.Tryz.underlying21
abbrev Tu211 := @Proofs.Tryz.underlying211
abbrev Tu214 := @Proofs.Tryz.underlying214
abbrev Tu22 := @Proofs.Tryz.underlying22
abbrev Tu225 := @Proofs.Tryz.underlying225
abbrev Tu226 := @Proofs.Tryz.underlying226
abbrev Tu228 := @Proofs.Tryz.underlying228
abbrev Tu23 := @Proofs.Tryz.underlying23
abbrev Tu230 := @Proofs.Tryz.underlying230
abbrev Tu235 := @Proofs.Tryz.underlying235
abbrev Tu237 := @Proofs.Tryz.underlying237
abbrev Tu239 := @Proofs.Tryz.underlying239
abbrev Tu246 := @Proofs.Tryz.underlying246
abbrev Tu247 := @Proofs.Tryz.underlying247
abbrev Tu249 := @Proofs.Tryz.underlying249
abbrev Tu25 := @Proofs.Tryz.underlying25
abbrev Tu253 := @Proofs.Tryz.underlying253
abbrev Tu255 := @Proofs.Tryz.underlying255
abbrev Tu256 := @Proofs.Tryz.underlying256
abbrev Tu28 := @Proofs.Tryz.underlying28
abbrev Tu3 := @Proofs.Tryz.underlying3
abbrev Tu314 := @Proofs.Tryz.underlying314
abbrev Tu315 := @Proofs.Tryz.underlying315
abbrev Tu323 := @Proofs.Tryz.underlying323
abbrev Tu324 := @Proofs.Tryz.underlying324
abbrev Tu326 := @Proofs.Tryz.underlying326
abbrev Tu33 := @Proofs.Tryz.underlying33
abbrev Tu336 := @Proofs.Tryz.underlying336
abbrev Tu339 := @Proofs.Tryz.underlying339
abbrev Tu347 := @Proofs.Tryz.underlying347
abbrev Tu349 := @Proofs.Tryz.underlying349
abbrev Tu37 := @Proofs.Tryz.underlying37
abbrev Tu39 := @Proofs.Tryz.underlying39
abbrev Tu4 := @Proofs.Tryz.underlying4
abbrev Tu46 := @Proofs.Tryz.underlying46
abbrev Tu5 := @Proofs.Tryz.underlying5
abbrev Tu59 := @Proofs.Tryz.underlying59
abbrev Tu77 := @Proofs.Tryz.underlying77
abbrev Tu89 := @Proofs.Tryz.underlying89
abbrev Tu9 := @Proofs.Tryz.underlying9
abbrev Tu98 := @Proofs.Tryz.underlying98
abbrev Tz0 := @Proofs.Tryz.zeroValue0
abbrev Tz105 := @Proofs.Tryz.zeroValue105
abbrev Tz109 := @Proofs.Tryz.zeroValue109
abbrev Tz128 := @Proofs.Tryz.zeroValue128
abbrev Tz143 := @Proofs.Tryz.zeroValue143
abbrev Tz167 := @Proofs.Tryz.zeroValue167
abbrev Tz170 := @Proofs.Tryz.zeroValue170
abbrev Tz172 := @Proofs.Tryz.zeroValue172
abbrev Tz175 := @Proofs.Tryz.zeroValue175
abbrev Tz176 := @Proofs.Tryz.zeroValue176
abbrev Tz179 := @Proofs.Tryz.zeroValue179
abbrev Tz182 := @Proofs.Tryz.zeroValue182
abbrev Tz187 := @Proofs.Tryz.zeroValue187
abbrev Tz2 := @Proofs.Tryz.zeroValue2
abbrev Tz20 := @Proofs.Tryz.zeroValue20
abbrev Tz204 := @Proofs.Tryz.zeroValue204
abbrev Tz208 := @Proofs.Tryz.zeroValue208
abbrev Tz21 := @Proofs.Tryz.zeroValue21
abbrev Tz211 := @Proofs.Tryz.zeroValue211
abbrev Tz214 := @Proofs.Tryz.zeroValue214
abbrev Tz23 := @Proofs.Tryz.zeroValue23
abbrev Tz239 := @Proofs.Tryz.zeroValue239
abbrev Tz246 := @Proofs.Tryz.zeroValue246
abbrev Tz247 := @Proofs.Tryz.zeroValue247
abbrev Tz25 := @Proofs.Tryz.zeroValue25
abbrev Tz255 := @Proofs.Tryz.zeroValue255
abbrev Tz28 := @Proofs.Tryz.zeroValue28
abbrev Tz3 := @Proofs.Tryz.zeroValue3
abbrev Tz314 := @Proofs.Tryz.zeroValue314
abbrev Tz315 := @Proofs.Tryz.zeroValue315
abbrev Tz323 := @Proofs.Tryz.zeroValue323
abbrev Tz324 := @Proofs.Tryz.zeroValue324
abbrev Tz326 := @Proofs.Tryz.zeroValue326
abbrev Tz33 := @Proofs.Tryz.zeroValue33
abbrev Tz336 := @Proofs.Tryz.zeroValue336
abbrev Tz339 := @Proofs.Tryz.zeroValue339
abbrev Tz347 := @Proofs.Tryz.zeroValue347
abbrev Tz349 := @Proofs.Tryz.zeroValue349
abbrev Tz39 := @Proofs.Tryz.zeroValue39
abbrev Tz4 := @Proofs.Tryz.zeroValue4
abbrev Tz46 := @Proofs.Tryz.zeroValue46
abbrev Tz5 := @Proofs.Tryz.zeroValue5
abbrev Tz9 := @Proofs.Tryz.zeroValue9
abbrev Tz98 := @Proofs.Tryz.zeroValue98
end Go
end
section
namespace Go.Proofs
open Go.Shelf
def Tryz.lays165_ren : Go.Shelf.Ren:=⟨fun|165=>99|240=>139|241=>140|276=>170|277=>171|n=>n,fun|70=>170|3=>3|0=>0|4=>4|9=>9|20=>20|72=>172|37=>23|164=>249|5=>5|n=>n,fun|n=>n⟩
theorem Tryz.lays165 : Go.Proofs.Lays.n165 Tryz.prog Tryz.lays165_ren:={
 mixed:=by kernel_rfl
 f165:=Tryz.func99.trans Ks
 f240:=Tryz.func139.trans Ks
 f241:=Tryz.func140.trans Ks
 f276:=Tryz.func170.trans Ks
 f277:=Tryz.func171.trans Ks
 t0:=Tu0
 a0:=Ta0
 z0:=Ts0
 v0:=Tz0
 t3:=Tu3
 a3:=Ta3
 z3:=Ts3
 v3:=Tz3
 t4:=Tu4
 a4:=Ta4
 z4:=Ts4
 v4:=Tz4
 t9:=Tu9
 a9:=Ta9
 z9:=Ts9
 v9:=Tz9
 t20:=Tu20
 a20:=Ta20
 z20:=Ts20
 v20:=Tz20
 t37:=Tu23
 a37:=Ta23
 z37:=Ts23
 v37:=Tz23
 t70:=Tu170
 a70:=Ta170
 z70:=Ts170
 v70:=Tz170
 t72:=Tu172
 a72:=Ta172
 z72:=Ts172
 v72:=Tz172
 t164:=Tu249
 a164:=Tryz.isAgg249
 z164:=Tryz.sizeOf249
 v164:=Tryz.zeroValue249}
theorem Tryz.Builder_Extra_165 : Builder.Extra Tryz.prog Tryz.lays165_ren:={
 sizeBuilder:=by kernel_rfl
 liesBuilder:=by kernel_rfl
 t5:=Tu5
 a5:=Ta5
 z5:=Ts5
 v5:=Tz5
 infoByte:=by kernel_rfl
 cellsByte:=by kernel_rfl
 sizeByte:=by kernel_rfl
 neB5:=by decide}
def Tryz.lays137_ren : Go.Shelf.Ren:=⟨fun|137=>186|217=>183|266=>214|n=>n,fun|9=>9|5=>5|3=>3|n=>n,fun|n=>n⟩
theorem Tryz.lays137 : Go.Proofs.Lays.n137 Tryz.prog Tryz.lays137_ren:={
 mixed:=by kernel_rfl
 f137:=Tf186.trans Ks
 f217:=Tf183.trans Ks
 f266:=Tf214.trans Ks
 t3:=Tu3
 a3:=Ta3
 z3:=Ts3
 v3:=Tz3
 t5:=Tu5
 a5:=Ta5
 z5:=Ts5
 v5:=Tz5
 t9:=Tu9
 a9:=Ta9
 z9:=Ts9
 v9:=Tz9}
open Go.RowKit in
theorem Tryz.strings_IndexByte (s:ByteArray) (c:Int) (w:World) :
 Calls Tryz.prog 186 #[.string s, .int .u8 c] w fun e w'=>e = .returned (.int .i64 (Lib.indexByte s.data.toList c.toNat.toUInt8))/\w'=w:=Any.strings_IndexByte Tryz.lays137 s c w
open Go.RowKit in
theorem Tryz.Builder_Grow_fresh_cap (B b n:Nat) (w:World) (hB:B<=b) (hbk:w.heap[b]? = some (.cells #[.pointer none, .slice none 0 0] 172 (0,0))) (hBw:B<=w.heap.size) (hn:n<=281474976710656) :
 Calls Tryz.prog 99 #[.pointer (some ⟨b,0,none⟩), .int .i64 n] w fun e w'=>e = .returned (.tuple #[])/\(Lib.BuilderAt 172 5 B b (.pointer (some ⟨b,0,none⟩)) [] w'/\Below B w w')/\∃p cap,w'.cell? ⟨b,1,none⟩=some (.slice p 0 cap)/\n<=cap:=Any.Builder_Grow_fresh_cap Tryz.lays165 Tryz.Builder_Extra_165 B b n w hB hbk hBw hn
def Tryz.lays172_ren : Go.Shelf.Ren:=⟨fun|172=>227|244=>246|245=>247|247=>256|279=>257|280=>258|281=>259|282=>260|287=>270|316=>271|171=>34|205=>272|321=>278|322=>279|243=>63|246=>104|283=>142|284=>143|285=>144|286=>145|129=>178|317=>177|318=>179|319=>180|320=>181|337=>211|338=>212|n=>n,fun|9=>9|3=>3|75=>175|76=>176|4=>4|5=>5|167=>323|37=>23|0=>0|85=>324|2=>2|168=>326|53=>33|175=>336|46=>167|210=>339|127=>208|145=>349|143=>347|21=>21|171=>211|173=>214|212=>255|51=>128|20=>20|213=>256|232=>314|233=>315|80=>179|n=>n,fun|15=>6|16=>7|17=>3|18=>4|19=>5|n=>n⟩
theorem Tryz.lays172 : Go.Proofs.Lays.n172 Tryz.prog Tryz.lays172_ren:={
 mixed:=by kernel_rfl
 f129:=Tf178.trans Ks
 f171:=Tf34.trans Ks
 f172:=Tryz.func227.trans Ks
 f205:=Tryz.func272.trans Ks
 f243:=Tf63.trans Ks
 f244:=Tryz.func246.trans Ks
 f245:=Tryz.func247.trans Ks
 f246:=Tf104.trans Ks
 f247:=Tf256.trans Ks
 f279:=Tryz.func257.trans Ks
 f280:=Tryz.func258.trans Ks
 f281:=Tryz.func259.trans Ks
 f282:=Tryz.func260.trans Ks
 f283:=Tf142.trans Ks
 f284:=Tf143.trans Ks
 f285:=Tf144.trans Ks
 f286:=Tf145.trans Ks
 f287:=Tf270.trans Ks
 f316:=Tf271.trans Ks
 f317:=Tf177.trans Ks
 f318:=Tf179.trans Ks
 f319:=Tf180.trans Ks
 f320:=Tf181.trans Ks
 f321:=Tf278.trans Ks
 f322:=Tf279.trans Ks
 f337:=Tf211.trans Ks
 f338:=Tf212.trans Ks
 t0:=Tu0
 a0:=Ta0
 z0:=Ts0
 v0:=Tz0
 t2:=Tu2
 a2:=Ta2
 z2:=Ts2
 v2:=Tz2
 t3:=Tu3
 a3:=Ta3
 z3:=Ts3
 v3:=Tz3
 t4:=Tu4
 a4:=Ta4
 z4:=Ts4
 v4:=Tz4
 t5:=Tu5
 a5:=Ta5
 z5:=Ts5
 v5:=Tz5
 t9:=Tu9
 a9:=Ta9
 z9:=Ts9
 v9:=Tz9
 t20:=Tu20
 a20:=Ta20
 z20:=Ts20
 v20:=Tz20
 t21:=Tu21
 a21:=Ta21
 z21:=Ts21
 v21:=Tz21
 t37:=Tu23
 a37:=Ta23
 z37:=Ts23
 v37:=Tz23
 t46:=Tu167
 a46:=Ta167
 z46:=Ts167
 v46:=Tz167
 t51:=Tu128
 a51:=Ta128
 z51:=Ts128
 v51:=Tz128
 t53:=Tu33
 a53:=Ta33
 z53:=Ts33
 v53:=Tz33
 t75:=Tu175
 a75:=Ta175
 z75:=Ts175
 v75:=Tz175
 t76:=Tu176
 a76:=Tryz.isAgg176
 z76:=Tryz.sizeOf176
 v76:=Tz176
 t85:=Tu324
 a85:=Ta324
 z85:=Ts324
 v85:=Tz324
 t127:=Tu208
 a127:=Ta208
 z127:=Ts208
 v127:=Tz208
 t143:=Tu347
 a143:=Tryz.isAgg347
 z143:=Tryz.sizeOf347
 v143:=Tz347
 t145:=Tu349
 a145:=Tryz.isAgg349
 z145:=Tryz.sizeOf349
 v145:=Tz349
 t167:=Tu323
 a167:=Ta323
 z167:=Ts323
 v167:=Tz323
 t168:=Tu326
 a168:=Ta326
 z168:=Ts326
 v168:=Tz326
 t171:=Tu211
 a171:=Ta211
 z171:=Ts211
 v171:=Tz211
 t173:=Tu214
 a173:=Ta214
 z173:=Ts214
 v173:=Tz214
 t175:=Tu336
 a175:=Ta336
 z175:=Ts336
 v175:=Tz336
 t210:=Tu339
 a210:=Ta339
 z210:=Ts339
 v210:=Tz339
 t212:=Tu255
 a212:=Ta255
 z212:=Ts255
 v212:=Tz255
 t213:=Tu256
 a213:=Ta256
 z213:=Ts256
 t232:=Tu314
 a232:=Ta314
 z232:=Ts314
 v232:=Tz314
 t233:=Tu315
 a233:=Ta315
 z233:=Ts315
 v233:=Tz315
 g15:=by kernel_rfl
 g16:=by kernel_rfl
 g17:=by kernel_rfl
 g18:=by kernel_rfl
 g19:=by kernel_rfl}
open Go.RowKit in
theorem Tryz.strconv_Atoi (s:ByteArray) (n:Int) (hl:s.size<=18) (h:Lib.atoi s.data.toList=some n) (w:World) :
 Calls Tryz.prog 227 #[.string s] w fun e w'=>e = .returned (.tuple #[.int .i64 n, .nilIface])/\∃t,w'=Lib.bytesWorld w 5 t:=Any.strconv_Atoi Tryz.lays172 s n hl h w
def Tryz.laysM171_ren : Go.Shelf.Ren:=⟨fun|171=>34|243=>63|246=>104|283=>142|284=>143|285=>144|286=>145|129=>178|317=>177|318=>179|319=>180|320=>181|337=>211|338=>212|n=>n,fun|3=>3|9=>9|2=>2|4=>4|171=>211|0=>0|53=>33|37=>23|5=>5|173=>214|212=>255|51=>128|20=>20|213=>256|46=>167|232=>314|233=>315|n=>n,fun|17=>3|18=>4|19=>5|n=>n⟩
theorem Tryz.laysM171 : Go.Proofs.LaysM.n171 Tryz.prog Tryz.laysM171_ren:={
 mixed:=by kernel_rfl
 f129:=Tf178.trans Ks
 f171:=Tf34.trans Ks
 f243:=Tf63.trans Ks
 f246:=Tf104.trans Ks
 f283:=Tf142.trans Ks
 f284:=Tf143.trans Ks
 f285:=Tf144.trans Ks
 f286:=Tf145.trans Ks
 f317:=Tf177.trans Ks
 f318:=Tf179.trans Ks
 f319:=Tf180.trans Ks
 f320:=Tf181.trans Ks
 f337:=Tf211.trans Ks
 f338:=Tf212.trans Ks
 t0:=Tu0
 a0:=Ta0
 z0:=Ts0
 v0:=Tz0
 t2:=Tu2
 a2:=Ta2
 z2:=Ts2
 v2:=Tz2
 t3:=Tu3
 a3:=Ta3
 z3:=Ts3
 v3:=Tz3
 t4:=Tu4
 a4:=Ta4
 z4:=Ts4
 v4:=Tz4
 t5:=Tu5
 a5:=Ta5
 z5:=Ts5
 v5:=Tz5
 t9:=Tu9
 a9:=Ta9
 z9:=Ts9
 v9:=Tz9
 t20:=Tu20
 a20:=Ta20
 z20:=Ts20
 v20:=Tz20
 t37:=Tu23
 a37:=Ta23
 z37:=Ts23
 v37:=Tz23
 t46:=Tu167
 a46:=Ta167
 z46:=Ts167
 v46:=Tz167
 t51:=Tu128
 a51:=Ta128
 z51:=Ts128
 v51:=Tz128
 t53:=Tu33
 a53:=Ta33
 z53:=Ts33
 v53:=Tz33
 t171:=Tu211
 a171:=Ta211
 z171:=Ts211
 v171:=Tz211
 t173:=Tu214
 a173:=Ta214
 z173:=Ts214
 v173:=Tz214
 t212:=Tu255
 a212:=Ta255
 z212:=Ts255
 v212:=Tz255
 t213:=Tu256
 a213:=Ta256
 z213:=Ts256
 t232:=Tu314
 a232:=Ta314
 z232:=Ts314
 v232:=Tz314
 t233:=Tu315
 a233:=Ta315
 z233:=Ts315
 v233:=Tz315
 g17:=by kernel_rfl
 g18:=by kernel_rfl
 g19:=by kernel_rfl
 i0:=by kernel_rfl
 i2:=by kernel_rfl
 i3:=by kernel_rfl
 i4:=by kernel_rfl
 i5:=by kernel_rfl
 i9:=by kernel_rfl
 i20:=by kernel_rfl
 i37:=by kernel_rfl
 i46:=by kernel_rfl
 i51:=by kernel_rfl
 i53:=by kernel_rfl
 i171:=by kernel_rfl
 i173:=by kernel_rfl
 i212:=by kernel_rfl
 i232:=by kernel_rfl
 i233:=by kernel_rfl
 m17:=by kernel_rfl
 m18:=by kernel_rfl
 m19:=by kernel_rfl}
open Go.RowKit Go.Sort Go.Lib in
theorem Tryz.strconv_Itoa (n : Int) (h0 : -9223372036854775808 <= n) (h1 : n <= 9223372036854775807) (w : World) (htab : Lib.TabIs Tryz.prog w "internal/strconv.uint64pow10" .u64 Lib.pow10Tab) :
 Calls Tryz.prog 34 #[.int .i64 n] w fun e w'=>e = .returned (.string ⟨(Lib.itoa n).toArray⟩)/\∃k os,w'=grow (w.drewN k) os:=Any.strconv_Itoa Tryz.laysM171 n h0 h1 w htab
def Tryz.laysC172_ren : Go.Shelf.Ren:=⟨fun|172=>227|244=>246|245=>247|247=>256|279=>257|280=>258|281=>259|282=>260|287=>270|316=>271|171=>34|205=>272|321=>278|322=>279|243=>63|246=>104|283=>142|284=>143|285=>144|286=>145|129=>178|317=>177|318=>179|319=>180|320=>181|337=>211|338=>212|n=>n,fun|9=>9|3=>3|75=>175|76=>176|4=>4|5=>5|167=>323|37=>23|0=>0|85=>324|2=>2|168=>326|53=>33|175=>336|46=>167|210=>339|127=>208|145=>349|143=>347|21=>21|171=>211|173=>214|212=>255|51=>128|20=>20|213=>256|232=>314|233=>315|80=>179|n=>n,fun|15=>6|16=>7|17=>3|18=>4|19=>5|n=>n⟩
theorem Tryz.laysC172 : Go.Proofs.LaysC.n172 Tryz.prog Tryz.laysC172_ren:={
 mixed:=by kernel_rfl
 f129:=Tf178.trans Ks
 f171:=Tf34.trans Ks
 f172:=Tryz.func227.trans Ks
 f205:=Tryz.func272.trans Ks
 f243:=Tf63.trans Ks
 f244:=Tryz.func246.trans Ks
 f245:=Tryz.func247.trans Ks
 f246:=Tf104.trans Ks
 f247:=Tf256.trans Ks
 f279:=Tryz.func257.trans Ks
 f280:=Tryz.func258.trans Ks
 f281:=Tryz.func259.trans Ks
 f282:=Tryz.func260.trans Ks
 f283:=Tf142.trans Ks
 f284:=Tf143.trans Ks
 f285:=Tf144.trans Ks
 f286:=Tf145.trans Ks
 f287:=Tf270.trans Ks
 f316:=Tf271.trans Ks
 f317:=Tf177.trans Ks
 f318:=Tf179.trans Ks
 f319:=Tf180.trans Ks
 f320:=Tf181.trans Ks
 f321:=Tf278.trans Ks
 f322:=Tf279.trans Ks
 f337:=Tf211.trans Ks
 f338:=Tf212.trans Ks
 t0:=Tu0
 a0:=Ta0
 z0:=Ts0
 v0:=Tz0
 t2:=Tu2
 a2:=Ta2
 z2:=Ts2
 v2:=Tz2
 t3:=Tu3
 a3:=Ta3
 z3:=Ts3
 v3:=Tz3
 t4:=Tu4
 a4:=Ta4
 z4:=Ts4
 v4:=Tz4
 t5:=Tu5
 a5:=Ta5
 z5:=Ts5
 v5:=Tz5
 t9:=Tu9
 a9:=Ta9
 z9:=Ts9
 v9:=Tz9
 t20:=Tu20
 a20:=Ta20
 z20:=Ts20
 v20:=Tz20
 t21:=Tu21
 a21:=Ta21
 z21:=Ts21
 v21:=Tz21
 t37:=Tu23
 a37:=Ta23
 z37:=Ts23
 v37:=Tz23
 t46:=Tu167
 a46:=Ta167
 z46:=Ts167
 v46:=Tz167
 t51:=Tu128
 a51:=Ta128
 z51:=Ts128
 v51:=Tz128
 t53:=Tu33
 a53:=Ta33
 z53:=Ts33
 v53:=Tz33
 t75:=Tu175
 a75:=Ta175
 z75:=Ts175
 v75:=Tz175
 t76:=Tu176
 a76:=Tryz.isAgg176
 z76:=Tryz.sizeOf176
 v76:=Tz176
 t85:=Tu324
 a85:=Ta324
 z85:=Ts324
 v85:=Tz324
 t127:=Tu208
 a127:=Ta208
 z127:=Ts208
 v127:=Tz208
 t143:=Tu347
 a143:=Tryz.isAgg347
 z143:=Tryz.sizeOf347
 v143:=Tz347
 t145:=Tu349
 a145:=Tryz.isAgg349
 z145:=Tryz.sizeOf349
 v145:=Tz349
 t167:=Tu323
 a167:=Ta323
 z167:=Ts323
 v167:=Tz323
 t168:=Tu326
 a168:=Ta326
 z168:=Ts326
 v168:=Tz326
 t171:=Tu211
 a171:=Ta211
 z171:=Ts211
 v171:=Tz211
 t173:=Tu214
 a173:=Ta214
 z173:=Ts214
 v173:=Tz214
 t175:=Tu336
 a175:=Ta336
 z175:=Ts336
 v175:=Tz336
 t210:=Tu339
 a210:=Ta339
 z210:=Ts339
 v210:=Tz339
 t212:=Tu255
 a212:=Ta255
 z212:=Ts255
 v212:=Tz255
 t213:=Tu256
 a213:=Ta256
 z213:=Ts256
 t232:=Tu314
 a232:=Ta314
 z232:=Ts314
 v232:=Tz314
 t233:=Tu315
 a233:=Ta315
 z233:=Ts315
 v233:=Tz315
 g15:=by kernel_rfl
 g16:=by kernel_rfl
 g17:=by kernel_rfl
 g18:=by kernel_rfl
 g19:=by kernel_rfl
 t80:=Tu179
 a80:=Ta179
 z80:=Ts179
 v80:=Tz179
 i0:=by kernel_rfl
 i2:=by kernel_rfl
 i3:=by kernel_rfl
 i4:=by kernel_rfl
 i5:=by kernel_rfl
 i9:=by kernel_rfl
 i20:=by kernel_rfl
 i21:=by kernel_rfl
 i37:=by kernel_rfl
 i46:=by kernel_rfl
 i51:=by kernel_rfl
 i53:=by kernel_rfl
 i75:=by kernel_rfl
 i76:=by kernel_rfl
 i80:=by kernel_rfl
 i85:=by kernel_rfl
 i127:=by kernel_rfl
 i143:=by kernel_rfl
 i145:=by kernel_rfl
 i167:=by kernel_rfl
 i168:=by kernel_rfl
 i171:=by kernel_rfl
 i173:=by kernel_rfl
 i175:=by kernel_rfl
 i210:=by kernel_rfl
 i212:=by kernel_rfl
 i232:=by kernel_rfl
 i233:=by kernel_rfl
 m15:=by kernel_rfl
 m16:=by kernel_rfl
 m17:=by kernel_rfl
 m18:=by kernel_rfl
 m19:=by kernel_rfl
 c0:=by kernel_rfl
 c2:=by kernel_rfl
 c3:=by kernel_rfl
 c4:=by kernel_rfl
 c5:=by kernel_rfl
 c9:=by kernel_rfl
 c20:=by kernel_rfl
 c21:=by kernel_rfl
 c37:=by kernel_rfl
 c46:=by kernel_rfl
 c51:=by kernel_rfl
 c53:=by kernel_rfl
 c75:=by kernel_rfl
 c76:=by kernel_rfl
 c80:=by kernel_rfl
 c85:=by kernel_rfl
 c127:=by kernel_rfl
 c143:=by kernel_rfl
 c145:=by kernel_rfl
 c167:=by kernel_rfl
 c168:=by kernel_rfl
 c171:=by kernel_rfl
 c173:=by kernel_rfl
 c175:=by kernel_rfl
 c210:=by kernel_rfl
 c212:=by kernel_rfl
 c213:=by kernel_rfl
 c232:=by kernel_rfl
 c233:=by kernel_rfl}
open Go.RowKit in
theorem Tryz.strconv_Atoi_ok (s:ByteArray) (hmax:s.size<=9223372036854775806) (v:Int) (h:Lib.atoiAll s.data.toList = .ok v) (w:World) :
 Calls Tryz.prog 227 #[.string s] w fun e w'=>e = .returned (.tuple #[.int .i64 v, .nilIface])/\(w'=w∨∃t,w'=Lib.bytesWorld w 5 t):=Any.strconv_Atoi_ok Tryz.laysC172 s hmax v h w
open Go.RowKit in
theorem Tryz.strconv_Atoi_syntax_var (s : ByteArray) (hlim : s.size <= 281474976710656) (h : Lib.atoiAll s.data.toList = .syntax) (tp : TypeId) (p : Value) (w : World) (hvar : w.var? Tryz.prog "strconv.ErrSyntax" = some #[.iface tp p]) :
 Calls Tryz.prog 227 #[.string s] w fun e w' =>∃N,e = .returned (.tuple #[.int .i64 0, .iface 326 (.pointer (some ⟨N,0,none⟩))])/\w.heap.size<=N/\w'.heap[N]? = some (.cells #[.string ⟨#[65,116,111,105]⟩, .string s, .iface tp p] 339 (0,0))/\Below w.heap.size w w':=Any.strconv_Atoi_syntax_var Tryz.laysC172 s hlim h tp p w hvar
open Go.RowKit in
theorem Tryz.strconv_Atoi_range_var (s : ByteArray) (hlim : s.size <= 281474976710656) (h : Lib.atoiAll s.data.toList = .range) (tp : TypeId) (p : Value) (w : World) (hvar : w.var? Tryz.prog "strconv.ErrRange" = some #[.iface tp p]) :
 Calls Tryz.prog 227 #[.string s] w fun e w' =>∃N,e = .returned (.tuple #[.int .i64 (Lib.atoiSat s.data.toList), .iface 326 (.pointer (some ⟨N,0,none⟩))])/\w.heap.size<=N/\w'.heap[N]? = some (.cells #[.string ⟨#[65,116,111,105]⟩, .string s, .iface tp p] 339 (0,0))/\Below w.heap.size w w':=Any.strconv_Atoi_range_var Tryz.laysC172 s hlim h tp p w hvar
def Tryz.lays219_ren : Go.Shelf.Ren:=⟨fun|219=>147|217=>183|225=>184|224=>159|267=>185|266=>214|314=>215|n=>n,fun|9=>9|3=>3|4=>4|5=>5|46=>167|146=>204|51=>128|n=>n,fun|1=>0|n=>n⟩
theorem Tryz.lays219 : Go.Proofs.Lays.n219 Tryz.prog Tryz.lays219_ren:={
 mixed:=by kernel_rfl
 f217:=Tf183.trans Ks
 f219:=Tf147.trans Ks
 f224:=Tf159.trans Ks
 f225:=Tf184.trans Ks
 f266:=Tf214.trans Ks
 f267:=Tf185.trans Ks
 f314:=Tf215.trans Ks
 t3:=Tu3
 a3:=Ta3
 z3:=Ts3
 v3:=Tz3
 t4:=Tu4
 a4:=Ta4
 z4:=Ts4
 v4:=Tz4
 t5:=Tu5
 a5:=Ta5
 z5:=Ts5
 v5:=Tz5
 t9:=Tu9
 a9:=Ta9
 z9:=Ts9
 v9:=Tz9
 t46:=Tu167
 a46:=Ta167
 z46:=Ts167
 v46:=Tz167
 t51:=Tu128
 a51:=Ta128
 z51:=Ts128
 v51:=Tz128
 t146:=Tu204
 a146:=Ta204
 z146:=Ts204
 v146:=Tz204
 g1:=by kernel_rfl}
open Go.RowKit Go.Lib in
theorem Tryz.stringslite_Index (s sub:ByteArray) (m:Int) (w:World) (hs:s.size<4294967281) (hm:w.cell? ⟨0,0,none⟩=some (.int .i64 m)) :
 Calls Tryz.prog 147 #[.string s, .string sub] w fun e w'=>e = .returned (.int .i64 (Lib.index s.data.toList sub.data.toList))/\w'=w:=Any.stringslite_Index Tryz.lays219 s sub m w hs hm
def Tryz.lays138_ren : Go.Shelf.Ren:=⟨fun|138=>308|195=>309|218=>310|143=>311|219=>147|217=>183|225=>184|224=>159|267=>185|266=>214|314=>215|n=>n,fun|9=>9|3=>3|4=>4|5=>5|0=>0|46=>167|146=>204|51=>128|n=>n,fun|1=>0|n=>n⟩
theorem Tryz.lays138 : Go.Proofs.Lays.n138 Tryz.prog Tryz.lays138_ren:={
 mixed:=by kernel_rfl
 f138:=Tryz.func308.trans Ks
 f143:=Tf311.trans Ks
 f195:=Tryz.func309.trans Ks
 f217:=Tf183.trans Ks
 f218:=Tryz.func310.trans Ks
 f219:=Tf147.trans Ks
 f224:=Tf159.trans Ks
 f225:=Tf184.trans Ks
 f266:=Tf214.trans Ks
 f267:=Tf185.trans Ks
 f314:=Tf215.trans Ks
 t0:=Tu0
 a0:=Ta0
 z0:=Ts0
 v0:=Tz0
 t3:=Tu3
 a3:=Ta3
 z3:=Ts3
 v3:=Tz3
 t4:=Tu4
 a4:=Ta4
 z4:=Ts4
 v4:=Tz4
 t5:=Tu5
 a5:=Ta5
 z5:=Ts5
 v5:=Tz5
 t9:=Tu9
 a9:=Ta9
 z9:=Ts9
 v9:=Tz9
 t46:=Tu167
 a46:=Ta167
 z46:=Ts167
 v46:=Tz167
 t51:=Tu128
 a51:=Ta128
 z51:=Ts128
 v51:=Tz128
 t146:=Tu204
 a146:=Ta204
 z146:=Ts204
 v146:=Tz204
 g1:=by kernel_rfl}
open Go.RowKit Go.Lib in
theorem Tryz.strings_Count_one (s:ByteArray) (c:UInt8) (w:World) :
 Calls Tryz.prog 308 #[.string s, .string ⟨#[c]⟩] w fun e w'=>e = .returned (.int .i64 (Lib.countByte s.data.toList c))/\w'=w:=Any.strings_Count_one Tryz.lays138 s c w
def Tryz.lays197_ren : Go.Shelf.Ren:=⟨fun|197=>112|260=>148|n=>n,fun|9=>9|21=>21|3=>3|4=>4|5=>5|105=>187|119=>225|0=>0|46=>167|139=>247|138=>246|n=>n,fun|3=>1|4=>2|n=>n⟩
theorem Tryz.lays197 : Go.Proofs.Lays.n197 Tryz.prog Tryz.lays197_ren:={
 mixed:=by kernel_rfl
 f197:=Tf112.trans Ks
 f260:=Tf148.trans Ks
 t0:=Tu0
 a0:=Ta0
 z0:=Ts0
 v0:=Tz0
 t3:=Tu3
 a3:=Ta3
 z3:=Ts3
 v3:=Tz3
 t4:=Tu4
 a4:=Ta4
 z4:=Ts4
 v4:=Tz4
 t5:=Tu5
 a5:=Ta5
 z5:=Ts5
 v5:=Tz5
 t9:=Tu9
 a9:=Ta9
 z9:=Ts9
 v9:=Tz9
 t21:=Tu21
 a21:=Ta21
 z21:=Ts21
 v21:=Tz21
 t46:=Tu167
 a46:=Ta167
 z46:=Ts167
 v46:=Tz167
 t105:=Tu187
 a105:=Ta187
 z105:=Ts187
 v105:=Tz187
 t119:=Tu225
 a119:=Ta225
 z119:=Ts225
 t138:=Tu246
 a138:=Ta246
 z138:=Ts246
 v138:=Tz246
 t139:=Tu247
 a139:=Ta247
 z139:=Ts247
 v139:=Tz247
 g3:=by kernel_rfl
 g4:=by kernel_rfl}
def Tryz.lays105_ren : Go.Shelf.Ren:=⟨fun|105=>61|212=>98|99=>92|165=>99|166=>100|170=>101|169=>102|263=>137|264=>138|206=>126|240=>139|241=>140|276=>170|277=>171|n=>n,fun|9=>9|3=>3|4=>4|20=>20|0=>0|46=>167|109=>168|5=>5|72=>172|76=>176|51=>128|146=>204|53=>33|148=>206|70=>170|37=>23|75=>175|127=>208|164=>249|80=>179|n=>n,fun|n=>n⟩
theorem Tryz.lays105 : Go.Proofs.Lays.n105 Tryz.prog Tryz.lays105_ren:={
 mixed:=by kernel_rfl
 f99:=Tryz.func92.trans Ks
 f105:=Tryz.func61.trans Ks
 f165:=Tryz.func99.trans Ks
 f166:=Tf100.trans Ks
 f169:=Tryz.func102.trans Ks
 f170:=Tryz.func101.trans Ks
 f206:=Tf126.trans Ks
 f212:=Tryz.func98.trans Ks
 f240:=Tryz.func139.trans Ks
 f241:=Tryz.func140.trans Ks
 f263:=Tryz.func137.trans Ks
 f264:=Tryz.func138.trans Ks
 f276:=Tryz.func170.trans Ks
 f277:=Tryz.func171.trans Ks
 t0:=Tu0
 a0:=Ta0
 z0:=Ts0
 v0:=Tz0
 t3:=Tu3
 a3:=Ta3
 z3:=Ts3
 v3:=Tz3
 t4:=Tu4
 a4:=Ta4
 z4:=Ts4
 v4:=Tz4
 t5:=Tu5
 a5:=Ta5
 z5:=Ts5
 v5:=Tz5
 t9:=Tu9
 a9:=Ta9
 z9:=Ts9
 v9:=Tz9
 t20:=Tu20
 a20:=Ta20
 z20:=Ts20
 v20:=Tz20
 t37:=Tu23
 a37:=Ta23
 z37:=Ts23
 v37:=Tz23
 t46:=Tu167
 a46:=Ta167
 z46:=Ts167
 v46:=Tz167
 t51:=Tu128
 a51:=Ta128
 z51:=Ts128
 v51:=Tz128
 t53:=Tu33
 a53:=Ta33
 z53:=Ts33
 v53:=Tz33
 t70:=Tu170
 a70:=Ta170
 z70:=Ts170
 v70:=Tz170
 t72:=Tu172
 a72:=Ta172
 z72:=Ts172
 v72:=Tz172
 t75:=Tu175
 a75:=Ta175
 z75:=Ts175
 v75:=Tz175
 t76:=Tu176
 a76:=Tryz.isAgg176
 z76:=Tryz.sizeOf176
 v76:=Tz176
 t109:=Tryz.underlying168
 a109:=Tryz.isAgg168
 z109:=Tryz.sizeOf168
 v109:=Tryz.zeroValue168
 t127:=Tu208
 a127:=Ta208
 z127:=Ts208
 v127:=Tz208
 t146:=Tu204
 a146:=Ta204
 z146:=Ts204
 v146:=Tz204
 t148:=Tryz.underlying206
 a148:=Tryz.isAgg206
 z148:=Tryz.sizeOf206
 v148:=Tryz.zeroValue206
 t164:=Tu249
 a164:=Tryz.isAgg249
 z164:=Tryz.sizeOf249
 v164:=Tryz.zeroValue249}
theorem Tryz.Builder_Extra_105 : Builder.Extra Tryz.prog Tryz.lays105_ren:={
 sizeBuilder:=by kernel_rfl
 liesBuilder:=by kernel_rfl
 t5:=Tu5
 a5:=Ta5
 z5:=Ts5
 v5:=Tz5
 infoByte:=by kernel_rfl
 cellsByte:=by kernel_rfl
 sizeByte:=by kernel_rfl
 neB5:=by decide}
open Go.RowKit Go.Lib in
theorem Tryz.strings_Repeat (s:ByteArray) (c:Nat) (w:World) (hc:c<=9223372036854775807) (hlen:s.size*c<=140737488355328) :
 Calls Tryz.prog 61 #[.string s, .int .i64 c] w fun e w'=>e = .returned (.string ⟨(Lib.repeatL s.data.toList c).toArray⟩)/\Below w.heap.size w w':=Any.strings_Repeat Tryz.lays105 Tryz.Builder_Extra_105 s c w hc hlen
def Tryz.lays260_ren : Go.Shelf.Ren:=⟨fun|260=>148|n=>n,fun|9=>9|21=>21|3=>3|4=>4|5=>5|119=>225|0=>0|46=>167|139=>247|138=>246|n=>n,fun|3=>1|4=>2|n=>n⟩
theorem Tryz.lays260 : Go.Proofs.Lays.n260 Tryz.prog Tryz.lays260_ren:={
 mixed:=by kernel_rfl
 f260:=Tf148.trans Ks
 t0:=Tu0
 a0:=Ta0
 z0:=Ts0
 v0:=Tz0
 t3:=Tu3
 a3:=Ta3
 z3:=Ts3
 v3:=Tz3
 t4:=Tu4
 a4:=Ta4
 z4:=Ts4
 v4:=Tz4
 t5:=Tu5
 a5:=Ta5
 z5:=Ts5
 v5:=Tz5
 t9:=Tu9
 a9:=Ta9
 z9:=Ts9
 v9:=Tz9
 t21:=Tu21
 a21:=Ta21
 z21:=Ts21
 v21:=Tz21
 t46:=Tu167
 a46:=Ta167
 z46:=Ts167
 v46:=Tz167
 t119:=Tu225
 a119:=Ta225
 z119:=Ts225
 t138:=Tu246
 a138:=Ta246
 z138:=Ts246
 v138:=Tz246
 t139:=Tu247
 a139:=Ta247
 z139:=Ts247
 v139:=Tz247
 g3:=by kernel_rfl
 g4:=by kernel_rfl}
open Go.RowKit Go.Lib in
theorem Tryz.utf8_DecodeRuneInString (s:ByteArray) (w:World) (hT:Lib.Utf8Tabs 1 2 w) :
 Calls Tryz.prog 112 #[.string s] w fun e w'=>e = .returned (.tuple #[.int .i32 (Lib.decodeGo s).1, .int .i64 (Lib.decodeGo s).2])/\Below w.heap.size w w':=Any.utf8_DecodeRuneInString Tryz.lays197 s w hT
def Tryz.lays270_ren : Go.Shelf.Ren:=⟨fun|270=>250|n=>n,fun|70=>170|3=>3|0=>0|72=>172|37=>23|5=>5|n=>n,fun|n=>n⟩
theorem Tryz.lays270 : Go.Proofs.Lays.n270 Tryz.prog Tryz.lays270_ren:={
 mixed:=by kernel_rfl
 f270:=Tryz.func250.trans Ks
 t0:=Tu0
 a0:=Ta0
 z0:=Ts0
 v0:=Tz0
 t3:=Tu3
 a3:=Ta3
 z3:=Ts3
 v3:=Tz3
 t37:=Tu23
 a37:=Ta23
 z37:=Ts23
 v37:=Tz23
 t70:=Tu170
 a70:=Ta170
 z70:=Ts170
 v70:=Tz170
 t72:=Tu172
 a72:=Ta172
 z72:=Ts172
 v72:=Tz172}
open Go.RowKit Go.Lib in
theorem Tryz.Builder_Cap_cell (b:Nat) (p:Option Addr) (n cap:Nat) (w:World) (c1:w.cell? ⟨b,1,none⟩=some (.slice p n cap)) :
 Calls Tryz.prog 250 #[.pointer (some ⟨b,0,none⟩)] w fun e w'=>e = .returned (.int .i64 cap)/\w'=w:=Any.Builder_Cap_cell Tryz.lays270 b p n cap w c1
def Tryz.lays185_ren : Go.Shelf.Ren:=⟨fun|185=>125|187=>68|115=>35|253=>158|224=>159|254=>160|255=>108|291=>194|n=>n,fun|37=>23|3=>3|4=>4|0=>0|5=>5|46=>167|9=>9|146=>204|51=>128|n=>n,fun|1=>0|n=>n⟩
theorem Tryz.lays185 : Go.Proofs.Lays.n185 Tryz.prog Tryz.lays185_ren:={
 mixed:=by kernel_rfl
 f115:=Tf35.trans Ks
 f185:=Tryz.func125.trans Ks
 f187:=Tryz.func68.trans Ks
 f224:=Tf159.trans Ks
 f253:=Tryz.func158.trans Ks
 f254:=Tryz.func160.trans Ks
 f255:=Tryz.func108.trans Ks
 f291:=Tryz.func194.trans Ks
 t0:=Tu0
 a0:=Ta0
 z0:=Ts0
 v0:=Tz0
 t3:=Tu3
 a3:=Ta3
 z3:=Ts3
 v3:=Tz3
 t4:=Tu4
 a4:=Ta4
 z4:=Ts4
 v4:=Tz4
 t5:=Tu5
 a5:=Ta5
 z5:=Ts5
 v5:=Tz5
 t9:=Tu9
 a9:=Ta9
 z9:=Ts9
 v9:=Tz9
 t37:=Tu23
 a37:=Ta23
 z37:=Ts23
 v37:=Tz23
 t46:=Tu167
 a46:=Ta167
 z46:=Ts167
 v46:=Tz167
 t51:=Tu128
 a51:=Ta128
 z51:=Ts128
 v51:=Tz128
 t146:=Tu204
 a146:=Ta204
 z146:=Ts204
 v146:=Tz204
 g1:=by kernel_rfl}
def Tryz.lays187_ren : Go.Shelf.Ren:=⟨fun|187=>68|255=>108|n=>n,fun|37=>23|5=>5|3=>3|n=>n,fun|n=>n⟩
theorem Tryz.lays187 : Go.Proofs.Lays.n187 Tryz.prog Tryz.lays187_ren:={
 mixed:=by kernel_rfl
 f187:=Tryz.func68.trans Ks
 f255:=Tryz.func108.trans Ks
 t3:=Tu3
 a3:=Ta3
 z3:=Ts3
 v3:=Tz3
 t5:=Tu5
 a5:=Ta5
 z5:=Ts5
 v5:=Tz5
 t37:=Tu23
 a37:=Ta23
 z37:=Ts23
 v37:=Tz23}
open Go.RowKit Go.Lib in
theorem Tryz.bytes_IndexByte_at (a:Addr) (n c:Nat) (xs:List Int) (cv:Int) (w:World) (hx:xs.length=n) (hc :∀i,i<n->w.cell? (a.add i)=some (.int .u8 (xs.getD i 0))) :
 Calls Tryz.prog 68 #[.slice (some a) n c, .int .u8 cv] w fun e w'=>e = .returned (.int .i64 (Lib.indexByte (Lib.bytesOf xs) cv.toNat.toUInt8))/\w'=w:=Any.bytes_IndexByte_at Tryz.lays187 a n c xs cv w hx hc
open Go.Proofs Go.RowKit Go.Lib in
theorem Tryz.bytes_Index_at (a1 a2:Addr) (n c1 k c2:Nat) (xs ys:List Int) (m:Int) (w:World) (hx:xs.length=n) (hy:ys.length=k) (hr1 :∀x∈xs,0<=x/\x<256) (hr2 :∀y∈ys,0<=y/\y<256) (hc1 :∀i,i<n->w.cell? (a1.add i)=some (.int .u8 (xs.getD i 0))) (hc2 :∀i,i<k->w.cell? (a2.add i)=some (.int .u8 (ys.getD i 0))) (hcap:n<=c1) (hs:n<4294967281) (hk:k<=9223372036854775807) (hm:w.cell? ⟨0,0,none⟩=some (.int .i64 m)) :
 Calls Tryz.prog 125 #[.slice (some a1) n c1, .slice (some a2) k c2] w fun e w'=>e = .returned (.int .i64 (Lib.index (Lib.bytesOf xs) (Lib.bytesOf ys)))/\∃q,w'=w.drewN q:=Any.bytes_Index_at Tryz.lays185 a1 a2 n c1 k c2 xs ys m w hx hy hr1 hr2 hc1 hc2 hcap hs hk hm
open Go.Proofs Go.RowKit Go.Lib in
theorem Tryz.bytes_Index_nil (p2:Option Addr) (k c2:Nat) (w:World) (hk:k<=9223372036854775807) (h1:k=1->∃b2 o2 cv,p2=some ⟨b2,o2,none⟩/\w.cell? ⟨b2,o2,none⟩=some (.int .u8 cv)) :
 Calls Tryz.prog 125 #[.slice none 0 0, .slice p2 k c2] w fun e w'=>e = .returned (.int .i64 (if k=0 then 0 else -1))/\w'=w:=Any.bytes_Index_nil Tryz.lays185 p2 k c2 w hk h1
theorem Tryz.bytes_IndexByte_nil (cv:Int)(w:World):
 Calls Tryz.prog 68 #[.slice none 0 0, .int .u8 cv] w fun e w'=>e = .returned (.int .i64 (-1))/\w'=w:=Any.bytes_IndexByte_nil Tryz.lays187 cv w
end Go.Proofs
end
section
namespace Go.Proofs.YtkgohbecojnfaaaGreatDoor
open Go Go.RowKit Go.Ph
def Tabs (M:Mem):Prop :=∀w,Ag M w->Lib.Utf8Tabs 1 2 w
theorem Tabs.mono {M M':Mem}(h:Tabs M)(hl:M.le M'):Tabs M':=fun w ha=>h w (fun b o hb=>ha b o (hl b o hb))
theorem decodeGo_list (l:Ls)(hl:l≠ []):Lib.decodeGo ⟨l.toArray⟩=Utf.dr l:=by
 have u:l.length≠0:=fun h=>hl (l0e h)
 unfold Lib.decodeGo;rw[size_mk,l00 u,decode_list,l0E]
theorem decode_spec (l:Ls)(hl:l≠ []):Ct Tryz.prog 112 [S l] (fun M=>Tabs M) (fun r _=>r = .tuple #[.int .i32 ((Utf.dr l).1:Int), .int .i64 ((Utf.dr l).2:Int)]):=by
 refine⟨enters Tf112 Kr G,fun w M ha hp=>?_⟩;refine(Tryz.utf8_DecodeRuneInString ⟨l.toArray⟩ w (hp w ha)).mono fun e w' ⟨he,hb⟩=>⟨_,M,he,⟨BelowX.of hb _,Mem.le.refl M,fun b o hbo=>?_,fun _ _=>rfl⟩,?_⟩
 . have u:=ha b o hbo;rw[hb.block b (l0T.1 u).1];exact u
 rw[decodeGo_list l hl]
end Go.Proofs.YtkgohbecojnfaaaGreatDoor
end
section
namespace Go.Proofs.YtkgohbecojnfaaaGreatDoor
open Go Go.RowKit Go.Ph Go.Ph.Pl
abbrev _root_.Gv0 : Mem -> Prop := GlF (fun w => Lib.TabIs Tryz.prog w "internal/strconv.uint64pow10" .u64 Lib.pow10Tab)
abbrev _root_.Gv1 : Mem -> Prop := GlF (fun w => ∃ tp p, w.var? Tryz.prog "strconv.ErrSyntax" = some #[.iface tp p])
abbrev _root_.Gv2 : Mem -> Prop := GlF (fun w => ∃ tp p, w.var? Tryz.prog "strconv.ErrRange" = some #[.iface tp p])
abbrev _root_.Gv3 : Mem->Prop:=GlF (fun w =>∃m,w.cell? ⟨0,0,none⟩=some (.int .i64 m))
end Go.Proofs.YtkgohbecojnfaaaGreatDoor
end
section
namespace Go.Proofs.YtkgohbecojnfaaaGreatDoor
open Go Go.RowKit Go.Ph Go.ChangeShapes Go.WideShapes Go.ChangeAt
theorem own : ownKnob Tryz.prog.godebug=none:=by kernel_rfl
theorem laidOut : laidOutB Tryz.prog=true:=by kernel_rfl
theorem pow_eq : Lib.tabData .u64 Lib.pow10Tab=(Rows.laid_internal_strconv_uint64pow10:DataW Unit):=by kernel_rfl
theorem gl_pow10 {W:World}(h:laidMetH Tryz.prog Rows.topWrittenSameRow.laid W):Gv0 (memOf W):=by
 replace h:laidMet Tryz.prog Rows.topWrittenSameRow.laid W:=h
 have u := Lib.laidMet.reads h (n := "internal/strconv.uint64pow10") (d := Rows.laid_internal_strconv_uint64pow10) (by simp [Rows.topWrittenSameRow])
 rw[<-pow_eq] at u;exact tab_of_reads (g:=3) (len:=20) (t:=255) (e:=33) u Kr Kr Kr Kr Kr Kr
theorem gl_errS {W:World}(h:laidMetH Tryz.prog Rows.topWrittenSameRow.laid W):Gv1 (memOf W):=by
 replace h:laidMet Tryz.prog Rows.topWrittenSameRow.laid W:=h
 have u := Lib.laidMet.reads h (n := "strconv.ErrSyntax") (d := Rows.laid_strconv_ErrSyntax) (by simp [Rows.topWrittenSameRow])
 exact iface_of_reads (g:=6) (t:=175) u Kr Kr Kr
theorem gl_errR {W:World}(h:laidMetH Tryz.prog Rows.topWrittenSameRow.laid W):Gv2 (memOf W):=by
 replace h:laidMet Tryz.prog Rows.topWrittenSameRow.laid W:=h
 have u := Lib.laidMet.reads h (n := "strconv.ErrRange") (d := Rows.laid_strconv_ErrRange) (by simp [Rows.topWrittenSameRow])
 exact iface_of_reads (g:=7) (t:=175) u Kr Kr Kr
theorem gl_maxl {W:World}(h:W.ShapedOpen Tryz.prog):Gv3 (memOf W):=by
 obtain⟨m,hm⟩:=Go.Proofs.cell_of_shapedOpen_int (g:=0) (zero := #[.int .i64 0]) (t:=3) h (of_decide_eq_true Kr) Kr rfl Kr Kr Tu3;exact fun w ha=>⟨m,cell_upM ha hm⟩
theorem first_eq : Lib.firstData=Rows.laid_unicode_utf8_first:=by kernel_rfl
theorem accept_eq : Lib.acceptData=Rows.laid_unicode_utf8_acceptRanges:=by kernel_rfl
theorem tabs_of_laid {W:World}(h:laidMetH Tryz.prog Rows.topWrittenSameRow.laid W):Tabs (memOf W):=by
 replace h:laidMet Tryz.prog Rows.topWrittenSameRow.laid W:=h
 have u := Lib.laidMet.reads h (n := "unicode/utf8.first") (d := Rows.laid_unicode_utf8_first) (by simp [Rows.topWrittenSameRow])
 have E := Lib.laidMet.reads h (n := "unicode/utf8.acceptRanges") (d := Rows.laid_unicode_utf8_acceptRanges) (by simp [Rows.topWrittenSameRow])
 rw[<-first_eq] at u;rw[<-accept_eq] at E;have hT:Lib.Utf8Tabs 1 2 W:=utf8Tabs_of_reads Tryz.lays260 ⟨by kernel_rfl,by kernel_rfl,by kernel_rfl,by kernel_rfl,by kernel_rfl,by kernel_rfl,by kernel_rfl⟩ u E;intro w ha;exact⟨fun c hc=>cell_upM ha (hT.1 c hc),fun i hi=>⟨cell_upM ha (hT.2 i hi).1,cell_upM ha (hT.2 i hi).2⟩⟩
noncomputable def laidWorld (os:Os):World:=World.laidAll Tryz.prog os Rows.topWrittenSameRow.laid
theorem laid_met (os:Os)(args:Array Value):laidMet Tryz.prog Rows.topWrittenSameRow.laid ((laidWorld os).forCall (fun _ _=>0) ⟨#[],args,[]⟩).memory :=
 laidMet_laidAll args Kr Kr
end Go.Proofs.YtkgohbecojnfaaaGreatDoor
end
section
namespace Go.Ph
open Go Go.RowKit Go.ChangeShapes Go.WideShapes Go.ChangeAt
section
variable {H : Type} {enc : TypeId × Value → H} {P : Program} {W : World}
def ElemIs (enc:TypeId × Value->H)(P:Program)(W:World)(e:TypeId){α:Type}(encA:α->List Value)(ok:α->Prop):Prop :=
 ∀fuel cs (x:DataW H × List MemPlace),DataW.trod enc P W 0 (fun _=>true) true fuel e cs=some x->∃a,cs=encA a/\((∀y∈x.1.weights P e,y<=reachBytes)->ok a)
theorem weightsAll_mem {e:TypeId}:∀{l:List (DataW H)} {d:DataW H},d∈l->∀y∈d.weights P e,y∈DataW.weightsAll P e l
 | [],d,h=>by cases h
 | x::l,d,h=>fun y hy=>by
   rw[DataW.weightsAll];rcases l0k.1 h with rfl|h
   . exact l1K _ hy
   exact l2w _ (weightsAll_mem h y hy)
theorem open_sliceV {α:Type}{t e:TypeId}{kk:Nat}{encA:α->List Value}{ok:α->Prop}{v:Value}{d:DataW H}{p:List MemPlace}(ht:P.underlying t=some (.slice e))(hc:P.cellsOf e=kk)(hk:0<kk)
 (E :∀a,(encA a).length=kk) (hel:ElemIs enc P W e encA ok) (hsl :∃U len cap,v = .slice U len cap) (hT:DataW.Trod enc P W 0 (fun _=>true) true t v d p) :
 ∃l:List α,SlS (memOf W) kk encA v l/\DLen d l.length/\((∀x∈d.weights P t,x<=reachBytes)->∀a∈l,ok a):=by
 obtain⟨U,len,cap,rfl⟩:=hsl;obtain⟨fuel,hf⟩:=hT;rcases Deep.open_slice ht hf with ⟨hcs,hx⟩|⟨a,len',cap',m,n,D,Pl,hcs,_,hl,hm,hmm,hx,hi⟩
 . simp [Value.cells] at hcs;obtain⟨rfl,rfl,rfl⟩:=hcs;cases hx;exact⟨[],⟨E,none,0,G,by simp,⟨by simp [maxLen],fun _=>G⟩,fun h=>absurd G h⟩, .inl ⟨G,G⟩,fun _ a ha=>by cases ha⟩
 simp [Value.cells] at hcs;obtain⟨rfl,rfl,rfl⟩:=hcs;simp only[if_true] at hmm;cases hx;have each :∀i,i<len->∃x:α,(∀j u,(encA x)[j]? = some u->W.cell? (a.add (i*kk+j))=some u)/\((∀y∈(D i).weights P e,y<=reachBytes)->ok x):=fun i hil=>by
  obtain⟨cs',K,O⟩:=hi i Om;obtain⟨x,rfl,hw⟩:=hel _ _ _ O;rw[hc] at K;refine⟨x,fun j u hj=>?_,hw⟩;obtain⟨_,c1,c2⟩:=World.cells?_some K;have hjl:j<kk:=by have:=(l0c.1 hj).1;rw [E] at this;exact this
  have:=c2 j hjl;rw[hj] at this;rw[<-this];congr 1;by_cases V:j=0 <;> by_cases J:i*kk=0 <;> simp [Addr.add,V,J,l1n]
 obtain⟨l,hll,hlx⟩ :∃l:List α,l.length=len/\∀i x,l[i]? = some x->(∀j u,(encA x)[j]? = some u->W.cell? (a.add (i*kk+j))=some u)/\((∀y∈(D i).weights P e,y<=reachBytes)->ok x):=by
  have :∀n,n<=len->∃l:List α,l.length=n/\∀i x,l[i]? = some x->(∀j u,(encA x)[j]? = some u->W.cell? (a.add (i*kk+j))=some u)/\((∀y∈(D i).weights P e,y<=reachBytes)->ok x):=by
   intro n;induction n with
   | zero=>exact fun _=>⟨[],rfl,fun i x h=>by simp at h⟩
   | succ n ih =>
     intro hn;obtain⟨l,K,O⟩:=ih Om;obtain⟨x,hx⟩:=each n Om;refine⟨l++[x],by simp [K],fun i y hy=>?_⟩;rcases l1r i n with hin|hin
     . rw[l1e Om] at hy;exact O i y hy
     rw[l0L Om] at hy;have J:i-l.length=0:=by have:=(l0c.1 hy).1;simp at this;omega
     rw[J] at hy;simp at hy;subst hy;obtain rfl:i=n:=by omega
     exact hx
  exact this len (l0b _)
 refine⟨l,⟨E,some a,cap,by rw[hll],by omega,⟨hm,fun h=>by cases h⟩,fun hne=>?_⟩, .inr ⟨_,_,G,by simp [hll]⟩,fun hw x hx=>?_⟩
 . have hpos:0<len:=by
    rcases l3d len with h|h
    . exact absurd (l0e Om) hne
    exact h
   have hcell :∀q,q<len*kk->W.cell? (a.add q)=some ((l.flatMap encA).getD q undef):=fun q hq=>by
    have a3:q / kk<len:=Nat.div_lt_of_lt_mul (by rw[l2V];exact hq);have Y:q % kk<kk:=l2A _ hk;have N:l[q / kk]? = some (l[q / kk]'Om):=l06 _;have hu:(encA (l[q / kk]'Om))[q % kk]? = some ((encA (l[q / kk]'Om))[q % kk]'(by rw[E];exact Y)):=l06 _;have Z:=(hlx _ _ N).1 _ _ hu;have h4:=flat_at E l _ _ _ _ N hu;have hqq:q / kk*kk+q % kk=q:=by rw[l2V];exact Nat.div_add_mod q kk
    rw[hqq] at Z h4;rw[Z,l0Q,h4];rfl
   obtain⟨b,o,cs,t',fz,rfl,hb,hcs⟩:=cells_at (n:=len*kk) (Nat.mul_pos hpos hk) hcell;refine⟨b,o,cs,t',fz,G,hb,fun i x hi j u hj=>?_⟩;have hil:=(l0c.1 hi).1;have hjl:j<kk:=by have:=(l0c.1 hj).1;rw [E] at this;exact this
   have hlt:i*kk+j<len*kk:=by
    have:(i+1)*kk<=len*kk:=l1C _ Om;rw[l2b] at this;omega
   have:=hcs (i*kk+j) hlt;rw[l0Q,flat_at E l i j x u hi hj] at this;rw[l1n];exact this
 obtain⟨i,hi',rfl⟩:=l2a hx;refine(hlx i _ (l06 hi')).2 (fun y hy=>hw y ?_);simp only[DataW.weights,ht];exact l0t _ (l1K _ (weightsAll_mem (l0Z.2 ⟨i,l1j.2 Om,G⟩) y hy))
theorem SlS.toSl {α:Type}{M:Mem}{encA:α->Value}{v:Value}{l:List α}(h:SlS M 1 (fun a=>[encA a]) v l):Sl M encA v l:=by
 obtain⟨U,A,c,rfl,u,E,J⟩:=h;refine⟨A,c,G,u,E,fun hne=>?_⟩;obtain⟨b,o,cs,t,fz,K,N,O⟩:=J hne;exact⟨b,o,cs,t,fz,K,N,fun i x hi=>by have:=O i x hi 0 (encA x) G;simpa using this⟩
end
end Go.Ph
end
section
namespace Go.Ph
open Go Go.RowKit Go.ChangeShapes Go.WideShapes Go.ChangeAt
section
variable {H : Type} {enc : TypeId × Value → H} {P : Program} {W : World}
theorem elem_fld {e tS:TypeId}{u E:Field}(he:P.underlying e=some (.struct #[u,E]))(Y:u.type=tS)(Z:E.type=tS)(o0:u.offset=0)(o1:E.offset=1)(hS:P.underlying tS=some .string)(hc:P.cellsOf tS=1)(hce:P.cellsOf e=2):
 ElemIs enc P W e (fun a:Ls × Ls=>[S a.1,S a.2]) (fun a=>a.1.length<=140737488351232/\a.2.length<=140737488351232):=fun fuel cs x h=>by
 obtain⟨y0,y1,n,rfl,hl,N,O⟩:=trod_struct2 he h;rw[Y,o0,hc] at N;rw[Z,o1,hc] at O;rw[hce] at hl;obtain⟨J,U,rfl,_⟩:=DataW.trod_string hS N;obtain⟨K,V,rfl,_⟩:=DataW.trod_string hS O
 match cs,hl with
 | [c0,c1],_ =>
   simp at U V;subst U V;refine⟨(J.data.toList,K.data.toList),by cases J;cases K;simp [S],fun hw=>?_⟩;have hw' :∀y∈ [J.data.toList.length,K.data.toList.length],y<=reachBytes:=fun y hy=>hw y (by
    simp only[DataW.weights,he,DataW.weightsEach,l0p,l1d];simpa using hy)
   exact⟨hw' _ Sm,hw' _ Sm⟩
end
end Go.Ph
end
section
namespace Go.Ph
open Go Go.RowKit Go.ChangeShapes Go.WideShapes Go.ChangeAt
section
variable {H : Type} {enc : TypeId × Value → H} {P : Program} {W : World}
theorem elem_byte {e:TypeId}(he:P.underlying e=some (.int .u8)):ElemIs enc P W e (fun a:UInt8=>[encB a]) (fun _=>True):=fun fuel cs x h=>by
 obtain⟨n,rfl,rfl,hw⟩:=DataW.trod_int he h;have u:=wf_u8 hw;refine⟨ub n,?_,fun _=>trivial⟩;show [Value.int .u8 n]=[Value.int .u8 ((ub n).toNat:Int)]
 rw[ub_toNat,l3L Om Om]
theorem sl_of {n:Nat}{t e:TypeId}{c:Value}{y:DataW H × List MemPlace}(hL:P.underlying t=some (.slice e))(k:DataW.trod enc P W 0 (fun _=>true) true n t [c]=some y):∃u len cap,c = .slice u len cap:=by
 rcases Deep.open_slice hL k with ⟨hcs,_⟩|⟨a,len',cap',m,n',D,Pl,hcs,_⟩
 . simp only[List.cons.injEq,and_true] at hcs;exact ⟨_,_,_,hcs⟩
 simp only[List.cons.injEq,and_true] at hcs;exact ⟨_,_,_,hcs⟩
theorem open_msg {t e U tS tL tB:TypeId}{V Y:Field}{Z g1:Field}{v:Value}{d:DataW H}{p:List MemPlace}{base:Nat}(hs:P.underlying t=some (.struct #[V,Y]))(t0:V.type=tL)(t1:Y.type=tB)(o0:V.offset=0)(o1:Y.offset=1)
 (hC:P.cellsOf t=2) (hL:P.underlying tL=some (.slice e)) (hcL:P.cellsOf tL=1) (hB:P.underlying tB=some (.slice U)) (hcB:P.cellsOf tB=1) (h8:P.underlying U=some (.int .u8)) (a7:P.cellsOf U=1) (a8:P.bytesOf U=1)
 (he:P.underlying e=some (.struct #[Z,g1])) (u0:Z.type=tS) (u1:g1.type=tS) (q0:Z.offset=0) (q1:g1.offset=1) (hS:P.underlying tS=some .string) (hcS:P.cellsOf tS=1) (hce:P.cellsOf e=2)
 (hval:Value.okWide P W .any base t v) (h0:DataW.Trod enc P W 0 (fun _=>true) true t v d p) :
 ∃(z:List (Ls × Ls) × Ls) (x0 x1:Value),v = .agg #[x0,x1]/\SlS (memOf W) 2 (fun a=>[S a.1,S a.2]) x0 z.1/\Sl (memOf W) encB x1 z.2/\
  ((∀y∈d.weights P t,y<=reachBytes)->(∀a∈z.1,a.1.length<=140737488351232/\a.2.length<=140737488351232)/\z.2.length<=140737488351232):=by
 obtain⟨cs,rfl,hsz⟩:=okWide_struct hs hval;obtain⟨fuel,h⟩:=h0;obtain⟨xs,n,_,hd,_,hlen,hf⟩:=DataW.trod_struct hs h;have a2:cs.size=2:=hsz.trans hC;obtain⟨u,E,rfl⟩ :∃u E,cs = #[u,E]:=by
  obtain⟨l⟩:=cs
  match l,a2 with
  | [u,E],_=>exact⟨u,E,rfl⟩
 match xs,hlen with
 | [J,K],_ =>
   have k0:=hf 0 V rfl;have k1:=hf 1 Y rfl;rw[t0,o0,hcL] at k0;rw[t1,o1,hcB] at k1;simp only[l1b,l1g,Option.some.injEq] at k0 k1;have N:DataW.trod enc P W 0 (fun _=>true) true n tL [u]=some J:=k0;have O:DataW.trod enc P W 0 (fun _=>true) true n tB [E]=some K:=k1;have hT0:DataW.Trod enc P W 0 (fun _=>true) true tL u J.1 J.2:=by
    obtain⟨a0,len,cap,rfl⟩:=sl_of hL N;exact⟨n,N⟩
   have hT1:DataW.Trod enc P W 0 (fun _=>true) true tB E K.1 K.2:=by
    obtain⟨a0,len,cap,rfl⟩:=sl_of hB O;exact⟨n,O⟩
   obtain⟨l,hl,hdl,hx⟩:=open_sliceV hL hce Om (fun _=>rfl) (elem_fld (enc:=enc) (P:=P) (W:=W) he u0 u1 q0 q1 hS hcS hce) (sl_of hL N) hT0;obtain⟨b,hb,hdb,_⟩:=open_sliceV hB a7 Om (fun _=>rfl) (elem_byte (enc:=enc) (P:=P) (W:=W) h8) (sl_of hB O) hT1;refine⟨(l,b),u,E,G,hl,hb.toSl,fun hw=>?_⟩;have hd':d = .agg [J.1,K.1]:=by cases hd;rfl
   subst hd';have hW :∀y∈DataW.weightsEach P [tL,tB] [J.1,K.1],y<=reachBytes:=fun y hy=>hw y (by
    simp only[DataW.weights,hs,l0p,l1d,t0,t1];exact hy)
   simp only[DataW.weightsEach,l0m] at hW;exact⟨hx fun y hy=>hW y (l1K _ hy),slice_weight hB a8 Om hdb fun y hy=>hW y (l2w _ hy)⟩
end
end Go.Ph
end
section
namespace Go.Ph
open Go Go.RowKit
def Grows {α:Type}(s:Sem α):Prop :=∀(P:Program) (w:World) (x:α) (w':World),s.run P w = .ok x w'->w.grownBy w' none
theorem Keeps.grows {α:Type}{s:Sem α}(h:Keeps s):Grows s:=fun P w x w' hr=>by
 rw[h P w x w' hr];exact World.grownBy.refl _ _
theorem Grows.bindK {α β:Type}{s:Sem α}{f:α->Sem β}(h:Keeps s)(hf :∀a,Grows (f a)):Grows (s >>= f):=fun P w x w' hr=>by
 rw[Sem.run_bind] at hr;cases u:s.run P w with
 | ok a E =>
   rw[u,Result.andThen_ok] at hr;rw[h P w a E u] at hr;exact hf a P w x w' hr
 | halt c E=>rw[u] at hr;cases hr
theorem Grows.newVar {t:TypeId}{v:Value}{f:Addr->Value}:Grows (do pure (f (<-Go.newVar t v)):Sem Value):=fun P w x w' hr=>by
 simp only[Go.newVar,newRow,Sem.run_bind,Sem.run_pure,Result.andThen_ok] at hr;have:w'=w.alloc (.cells v.cells t):=by cases hr;rfl
 rw[this];exact grownBy_alloc' _ _
theorem Keeps.zeroValue {t:TypeId}:Keeps (Go.zeroValue t):=by
 unfold Go.zeroValue;refine Keeps.bind Keeps.typeInfo fun p=>?_
 split
 . exact Keeps.pure _
 exact Keeps.halt
def growB (o:Oper):Bool:=match o.op with
 | .move _=>true
 | .assign _=>true
 | .load _ _=>true
 | .alloc _=>true
 | .box _ _=>true
 | _=>false
def GrowsO (o:Oper):Prop :=∀(ρ:Operand->Value) (P:Program) (w:World) (x:Next) (w':World),(execOp ρ o).run P w = .ok x w'->w.grownBy w' none/\∃u,x = .value u
theorem grows_val {s:Sem Value}(h:Grows s){P:Program}{w:World}{x:Next}{w':World}(hr:(do pure (.value (<-s)):Sem Next).run P w = .ok x w'):w.grownBy w' none/\∃u,x = .value u:=by
 rw[Sem.run_bind] at hr;cases E:s.run P w with
 | ok a J =>
   rw[E] at hr;simp only[Result.andThen_ok,Sem.run_pure] at hr;cases hr;exact⟨h P w a w' E,_,G⟩
 | halt c J=>rw[E] at hr;cases hr
theorem grows_of {o:Oper}(h:growB o=true):GrowsO o:=fun ρ P w x w' hr=>by
 unfold growB at h;unfold execOp at hr;split at h
 . rename_i y hy;rw[hy] at hr;simp only[Sem.run_pure] at hr;cases hr;exact ⟨World.grownBy.refl _ _,_,rfl⟩
 . rename_i y hy;rw[hy] at hr;simp only[Sem.run_pure] at hr;cases hr;exact ⟨World.grownBy.refl _ _,_,rfl⟩
 . rename_i t y hy;rw[hy] at hr;exact grows_val Keeps.loadAt.grows hr
 . rename_i t hy;rw[hy] at hr;exact grows_val (Grows.bindK Keeps.zeroValue fun z=>Grows.newVar) hr
 . rename_i t y hy;rw[hy] at hr;exact grows_val Grows.newVar hr
 cases h
def holdA (ops:Array Oper)(listed:Array Bool)(B:List Nat)(i:Nat):Bool :=
 !B.contains i&&(List.range ops.size).all fun k=>match ops[k]? with
  | none=>true
  | some ok=>listed.getD k true || k == i ||(bif B.contains k then growB ok&&(match ops[i]? with|some oi=>oi.apart ops ok|none=>false) else ok.after.any fun e=>Region.binds .any e&&(e.on == i ||(!B.contains e.on && !listed.getD e.on true)))
def YieldsW (W:World->Prop)(P:Program)(ops:Array Oper)(o:Oper)(v:Value)(a:Act)(w:World):Prop :=
 Region.wanted o (yielded ops a.tmps)=true/\(∀w,W w->(execOp a.eval o).run P w = .ok (.value v) w)/\(∀w,o.about P w a.eval=none)/\W w
section
variable {W : World → Prop} {F : Fence} {n : Nat} {P : Program} {ops : Array Oper} {Q : Exit → Act → World → Prop}
theorem YieldsW.wpOpIn {i:Nat}{o:Oper}{v:Value}{a:Act}{w:World}(hro:F.round=none)(hi:ops[i]? = some o)(hy:YieldsW W P ops o v a w){K:Act->World->Prop}(h:K (a.put o.dst v) w):wpOpIn F n P ops Q i K a w:=by
 unfold Go.wpOpIn;simp only[hi];have hab :∀f,o.about P w a.eval=some f->F.fn f:=fun f hf=>by rw[hy.2.2.1 w] at hf;cases hf
 simp only[hy.1,if_true,Oper.wpIn,hro,Oper.semAt_none,hy.2.1 w hy.2.2.2,Oper.uponIn];exact⟨hab,h⟩
theorem wpOpIn_putA (hW :∀w w',W w->w.grownBy w' none->W w'){j:Nat}{oi oj:Oper}{v:Value}(hro:F.round=none)(hj:ops[j]? = some oj)(hq:GrowsO oj)(hap:oi.apart ops oj=true)
 (hsi :∀cs b,oi.op≠ .select cs b) (hsj :∀cs b,oj.op≠ .select cs b)
 (hQ :∀c a w,Q (.panic c) (a.put oi.dst v) w->Q (.panic c) a w) {K:Act->World->Prop} {a:Act} {w:World}
 (hy:YieldsW W P ops oi v a w) (h:wpOpIn F n P ops Q j K (a.put oi.dst v) w) :
 wpOpIn F n P ops Q j (fun a' w'=>YieldsW W P ops oi v a' w'/\K (a'.put oi.dst v) w') a w:=by
 obtain⟨E,J,N⟩:=Oper.apart_spec hap;have keep :∀u O,W O->YieldsW W P ops oi v (a.put oj.dst u) O:=fun u O U =>
  ⟨by rw[wanted_put oi a oj.dst u N];exact hy.1,fun V J=>by rw[execOp_put oi hsi a oj.dst u N];exact hy.2.1 V J,fun w=>by rw[about_put oi w a oj.dst u N];exact hy.2.2.1 w,U⟩
 unfold Go.wpOpIn at *;simp only[hj] at *;rw[wanted_put oj a oi.dst v E,about_put oj w a oi.dst v E] at h;split
 . rename_i hw;simp only[hw,if_true] at h;unfold Oper.wpIn at *;rw[about_put oj w a oi.dst v E] at h;refine⟨h.1,?_⟩;have h:=h.2;rw[hro,Oper.semAt_none,execOp_put oj hsj a oi.dst v E] at h;rw[hro,Oper.semAt_none];cases hr:(execOp a.eval oj).run P w with
   | ok x w' =>
     obtain⟨hgr,u,rfl⟩:=hq _ _ _ _ _ hr;rw[hr] at h;simp only[Oper.uponIn] at h ⊢;exact⟨keep u _ (hW _ _ hy.2.2.2 hgr),by rw[<-Act.put_comm a v u J];exact h⟩
   | halt x w' =>
     rw[hr] at h;cases x <;> simp only[Oper.uponIn] at h ⊢
     case panic u=>exact hQ _ _ _ h
 rename_i hw;simp only[hw] at h;exact⟨h.1,keep _ _ hy.2.2.2,by rw[<-Act.put_comm a v undef J];exact h.2⟩
theorem wpAnyIn_firstA (hW :∀w w',W w->w.grownBy w' none->W w'){i:Nat}{oi:Oper}{v:Value}{B:List Nat}{L0:Array Bool}(hro:F.round=none)(hi:ops[i]? = some oi)(hsel :∀(j:Nat) (o:Oper) cs b,ops[j]? = some o->o.op≠ .select cs b)
 (hQ :∀c a w,Q (.panic c) (a.put oi.dst v) w->Q (.panic c) a w) (hiB:i∉B) (Y:L0.getD i true=false)
 (hk :∀k ok,ops[k]? = some ok->L0.getD k true=false->k≠i->(k∈B/\GrowsO ok/\oi.apart ops ok=true)∨(k∉B/\∃e∈ok.after,Region.binds .any e=true/\(e.on=i∨(e.on∉B/\L0.getD e.on true=false)))) :
 ∀(fuel:Nat) (listed:Array Bool) (a:Act) (w:World),(∀k,k∉B->L0.getD k true=false->listed.getD k false=false/\listed.getD k true=false)->(∀k,L0.getD k true=true->listed.getD k true=true)->
  i∈Region.ready .any ops listed->YieldsW W P ops oi v a w->
  wpAnyIn F n P .any ops Q fuel (listed.setIfInBounds i true) (a.put oi.dst v) w->wpAnyIn F n P .any ops Q (fuel+1) listed a w:=by
 have inB :∀(listed:Array Bool) (j:Nat),(∀k,k∉B->L0.getD k true=false->listed.getD k false=false/\listed.getD k true=false)->(∀k,L0.getD k true=true->listed.getD k true=true)->j∈Region.ready .any ops listed->j≠i->
  ∃oj,ops[j]? = some oj/\j∈B/\GrowsO oj/\oi.apart ops oj=true:=fun listed j u E hj hji=>by
  obtain⟨hjun,oj,hoj,hall⟩:=mem_ready.1 hj;have Z:L0.getD j true=false:=by
   cases hc:L0.getD j true with
   | false=>rfl
   | true=>rw[E j hc] at hjun;cases hjun
  rcases hk j oj hoj Z hji with ⟨K,U,N⟩|⟨K,e,he,hb,hor⟩
  . exact⟨oj,hoj,K,U,N⟩
  have O:=hall e he hb;rcases hor with V|⟨V,h6⟩
  . rw[V,(u i hiB Y).1] at O;cases O
  rw[(u e.on V h6).1] at O;cases O
 intro fuel;induction fuel with
 | zero =>
   intro listed a w u E hr hy H;refine⟨fun h=>(by rw[h] at hr;cases hr),fun j hj=>?_⟩;by_cases hji:j=i
   . subst hji;exact hy.wpOpIn hro hi H
   have:=ready_mono hj hji;rw[H.1] at this;cases this
 | succ fuel ih =>
   intro listed a w u E hr hy H;refine⟨fun h=>(by rw[h] at hr;cases hr),fun j hj=>?_⟩;by_cases hji:j=i
   . subst hji;exact hy.wpOpIn hro hi H
   obtain⟨oj,hoj,hjB,hq,hap⟩:=inB listed j u E hj hji;have K:=H.2 j (ready_mono hj hji);have U:=wpOpIn_putA hW hro hoj hq hap (fun cs b=>hsel i oi cs b hi) (fun cs b=>hsel j oj cs b hoj) hQ hy K;refine wpOpIn_mono (fun a' w' N=>ih (listed.setIfInBounds j true) a' w' (fun k hkB J=>?_) (fun k J=>?_) (ready_mono hr (Ne.symm hji)) N.1 ?_) U
   . have hjk:j≠k:=fun h=>hkB (h ▸ hjB)
     rw[getD_set_ne false hjk,getD_set_ne true hjk];exact u k hkB J
   . by_cases hjk:j=k
     . subst hjk;rcases l1r j listed.size with h'|h'
       . simp [h']
       simp [l2s h']
     rw[getD_set_ne true hjk];exact E k J
   rw[Array.setIfInBounds_comm _ _ hji];exact N.2
end
section
variable {P : Program} {ops : Array Oper} {Q : Exit → Act → World → Prop} {n fuel i d : Nat} {D : List Deferred} {e : Env} {w : World} {listed : Array Bool} {o : Oper} {v : Value}
theorem WA.takeA {C:Nat->Prop}{E:World}{M0 M:Mem}{L:List Item}(H:StX C E M0 M L w)(B:List Nat)(ho:ops[i]? = some o)(hs:Region.noSelect ops=true)(hk:holdA ops listed B i=true)(hr:(Region.ready .any ops listed).contains i=true)(hx :∀w,StX C E M0 M L w->Ex P o e w v w)(hw:Wn ops n D e o)(hd:o.dst=some d)(hn:Nat.blt d n=true)
 (hab :∀w ρ,o.about P w ρ=none) (k:WA none P ops Q n D fuel (listed.setIfInBounds i true) ((d,v)::e) w):WA none P ops Q n D (fuel+1) listed e w:=fun a ha=>by
 unfold holdA at hk;rw[l0n] at hk;have hiB:i∉B:=by simpa using hk.1
 have hr':i∈Region.ready .any ops listed:=by simpa using hr
 have N:=(mem_ready.1 hr').1;refine wpAnyIn_firstA (W:=StX C E M0 M L) (fun w w' h hg=>h.grow hg) (F:=Wd none) (B:=B) (L0:=listed) G ho (Region.noSelect_spec hs) (fun _ _ _ h=>noP_put ho h) hiB N (fun j oj hj u hji=>?_) fuel listed a w (fun k _ u=>⟨getD_ff u,u⟩) (fun k h=>h) hr' ⟨hw a ha,fun w hH=>(hx w hH).2 _ ha.fits,fun w=>hab w _,H⟩ ?_
 . have hlt:j<ops.size:=(l0T.1 hj).1;have:=l0C.1 hk.2 j (l1j.2 hlt);rw[hj] at this;simp only[u,l1V,l2O,beq_iff_eq,hji,false_or] at this;cases hB:B.contains j with
   | true =>
     rw[hB,cond_true,ho,l0n] at this;exact .inl ⟨by simpa using hB,grows_of this.1,this.2⟩
   | false =>
     rw[hB,cond_false] at this;obtain⟨ed,O,J⟩:=Array.any_eq_true'.1 this;simp only[l0n,l2O,beq_iff_eq,l3i] at J;refine .inr ⟨by simpa using hB,ed,O,J.1,?_⟩;rcases J.2 with K|⟨K,U⟩
     . exact .inl K
     exact .inr ⟨by simpa using K,U⟩
 rw[hd];exact k _ (ha.put (l0h hn) v)
end
end Go.Ph
end
section
namespace Go.Ph
open Go Go.RowKit Pl
abbrev Hd : Type:=Option Addr × Nat × Nat
def hv (h:Hd):Value := .slice h.1 h.2.1 h.2.2
theorem One.hv (h:Hd):One (hv h):=One.slice _ _ _
structure Rl (F α:Type) where
 k:Nat
 enc:F->List Value
 rel:Mem->F->α->Prop
 len :∀f,(enc f).length=k
 one :∀f,∀u∈enc f,u.oneCell'=true
 up :∀{M M':Mem},M.le M'->∀{f:F} {x:α},rel M f x->rel M' f x
variable {F α : Type}
def RelL (R:Rl F α)(M:Mem):List F->List α->Prop
 | [],[]=>True
 | f::fl,x::l=>R.rel M f x/\RelL R M fl l
 | _,_=>False
section
variable {R : Rl F α} {M M' : Mem} {fl fs : List F} {l s l2 : List α}
theorem RelL.nil : RelL R M [] []:=trivial
theorem RelL.len :∀{fl:List F} {l:List α},RelL R M fl l->fl.length=l.length
 | [],[],_=>rfl
 | f::fl,x::l,h=>by rw[l04,l04,RelL.len h.2]
 | [],_::_,h=>h.elim
 | _::_,[],h=>h.elim
theorem RelL.mono :∀{fl:List F} {l:List α},RelL R M fl l->M.le M'->RelL R M' fl l
 | [],[],_,_=>trivial
 | f::fl,x::l,h,hl=>⟨R.up hl h.1,RelL.mono h.2 hl⟩
 | [],_::_,h,_=>h.elim
 | _::_,[],h,_=>h.elim
theorem RelL.append :∀{fl:List F} {l:List α},RelL R M fl l->RelL R M fs s->RelL R M (fl++fs) (l++s)
 | [],[],_,k=>k
 | f::fl,x::l,h,k=>⟨h.1,RelL.append h.2 k⟩
 | [],_::_,h,_=>h.elim
 | _::_,[],h,_=>h.elim
theorem RelL.one {f:F}{x:α}(h:R.rel M f x):RelL R M [f] [x]:=⟨h,trivial⟩
theorem RelL.at :∀{fl:List F} {l:List α} {i:Nat} {a:α},RelL R M fl l->l[i]? = some a->∃f,fl[i]? = some f/\R.rel M f a
 | [],[],i,a,_,hi=>by simp at hi
 | f::fl,x::l,0,a,h,hi=>by
   simp only[l1b,Option.some.injEq] at hi;subst hi;exact⟨f,G,h.1⟩
 | f::fl,x::l,i+1,a,h,hi=>by
   rw[l1g] at hi;obtain⟨f',E,J⟩:=RelL.at h.2 hi;exact⟨f',by rw[l1g];exact E,J⟩
 | [],_::_,_,_,h,_=>h.elim
 | _::_,[],_,_,h,_=>h.elim
theorem RelL.drop :∀(n:Nat) {fl:List F} {l:List α},RelL R M fl l->RelL R M (fl.drop n) (l.drop n)
 | 0,_,_,h=>h
 | n+1,[],[],h=>h
 | n+1,f::fl,x::l,h=>RelL.drop n h.2
 | _+1,[],_::_,h=>h.elim
 | _+1,_::_,[],h=>h.elim
theorem RelL.take :∀(n:Nat) {fl:List F} {l:List α},RelL R M fl l->RelL R M (fl.take n) (l.take n)
 | 0,_,_,h=>trivial
 | n+1,[],[],h=>h
 | n+1,f::fl,x::l,h=>⟨h.1,RelL.take n h.2⟩
 | _+1,[],_::_,h=>h.elim
 | _+1,_::_,[],h=>h.elim
theorem RelL.appO {w:Nat}(h:RelL R M fl l)(k:RelL R M fs s)(ha:app w l s=some l2):∃E,app w fl fs=some E/\RelL R M E l2:=by
 obtain⟨J,rfl⟩:=app_some ha;exact⟨fl++fs,by unfold app;rw [h.len,k.len,l01 J],h.append k⟩
end
def SlR (R:Rl F α)(M:Mem)(v:Value)(l:List α):Prop :=∃fl,SlS M R.k R.enc v fl/\RelL R M fl l
section
variable {R : Rl F α} {M M' : Mem} {v : Value} {l l2 : List α}
theorem SlR.mono (h:SlR R M v l)(hl:M.le M'):SlR R M' v l:=by
 obtain⟨fl,E,J⟩:=h;exact⟨fl,E.mono hl,J.mono hl⟩
theorem SlR.nil : SlR R M (.slice none 0 0) []:=⟨[],q1a M R.enc R.len,trivial⟩
abbrev _root_.q1F := @SlR.nil
theorem SlR.one (h:SlR R M v l):One v:=by
 obtain⟨fl,E,_⟩:=h;exact E.one
theorem SlR.hd (h:SlR R M v l):∃q:Hd,v=hv q:=by
 obtain⟨fl,⟨_,A,c,hv,_⟩,_⟩:=h;exact⟨(A,fl.length,c),hv⟩
theorem SlR.atC {i:Int}{a:α}(h:SlR R M v l)(hi:idx l i=some a):∃b o f,AtP v R.k i l.length b o/\CellsM M ⟨b,o,none⟩ (R.enc f)/\R.rel M f a:=by
 obtain⟨fl,K,E⟩:=h;obtain⟨N,hc⟩:=idx_some hi;obtain⟨f,hf,hr⟩:=E.at hc;obtain⟨b,o,J,O⟩:=K.atC (i:=i) (a:=f) (by unfold idx;rw [l01 N];exact hf);rw[E.len] at J;exact⟨b,o,f,J,O,hr⟩
theorem SlR.of {fl:List F}(h:SlS M R.k R.enc v fl)(k:RelL R M fl l):SlR R M v l:=⟨fl,h,k⟩
end
theorem SlS.hd {M:Mem}{kk:Nat}{enc:α->List Value}{v:Value}{l:List α}(h:SlS M kk enc v l):∃q:Hd,v=hv q:=by
 obtain⟨_,A,c,hv,_⟩:=h;exact⟨(A,l.length,c),hv⟩
theorem Sl.hd {M:Mem}{enc:α->Value}{v:Value}{l:List α}(h:Sl M enc v l):∃q:Hd,v=hv q:=by
 obtain⟨A,c,hv,_⟩:=h;exact⟨(A,l.length,c),hv⟩
section
variable {C : Nat → Prop} {r : Option Nat} {P : Program} {ops : Array Oper} {Q : Exit → Act → World → Prop} {n : Nat} {D : List Deferred} {rest : List Oper} {e : Env} {w0 w : World} {M0 M : Mem} {L L' : List Item} {d : Nat} {v u z : Value}
  {x y : Operand} {ty t t' te ts tt : TypeId} {pos : String} {af : Array Edge} {g : Option (Nat × Bool)} {dst : Option Tmp} {R : Rl F α} {l l2 l3 : List α}
theorem Ex.lenSlR (ht:P.underlying t=some (.slice t'))(h:SlR R M v l)(hx:ev e x=some v):Ex P ⟨dst, .call ⟨.builtin .len,#[x],#[t]⟩,ty,pos,af,g⟩ e w (I l.length) w:=by
 obtain⟨fl,E,J⟩:=h;rw[<-J.len];exact q0L ht E hx
abbrev _root_.q1e := @Ex.lenSlR
theorem WR.appRC {bytes:Nat}{L':Item->List Item}{fl:List F}(T:ElemTy P ts t z R.k bytes)(hbp:Nat.blt 0 bytes=true)(H:StX C w0 M0 M L w)(hk:RelL R M fl l)(hx:ev e x=some v)(hu :∀it',Upd L (RowS t R.k R.enc v fl) it' (L' it'))(hy:ev e y=some u)
 (hs:SlR R M u l2) (ha:app bytes l l2=some l3)
 (hw:Wn ops n D e ⟨some d, .call ⟨.builtin .append,#[x,y],#[ts,ts]⟩,ty,pos,af,g⟩) (hn:Nat.blt d n=true)
 (k :∀v' fl' w',RelL R M fl' l3->StX C w0 M0 M (L' (RowS t R.k R.enc v' fl')) w'->WR r P ops Q n D rest ((d,v')::e) w') :
 WR r P ops Q n D (⟨some d, .call ⟨.builtin .append,#[x,y],#[ts,ts]⟩,ty,pos,af,g⟩::rest) e w:=by
 obtain⟨U,J,K⟩:=hs;obtain⟨E,N,O⟩:=hk.appO K ha;exact WR.appSC T hbp R.one H hx hu hy J N hw hn fun v' w' h=>k v' E w' O h
end
end Go.Ph
end
section
namespace Go.Ph.Pl
abbrev Elt : Type:=Option (UInt8 ⊕ (Ls × Bool))
def eltW (p:Ls × Bool):Elt:=some (.inr p)
end Go.Ph.Pl
namespace Go.Ph
open Go Go.RowKit Pl
def encA (ts tw:TypeId):Elt->Value
 | none => .nilIface
 | some (.inl c) => .iface ts (encB c)
 | some (.inr p) => .iface tw (.agg #[S p.1, .bool p.2])
section
variable {P : Program} {e : Env} {w : World} {v : Value} {x y : Operand} {ty t t' ts tw xt : TypeId} {pos : String} {af : Array Edge} {g : Option (Nat × Bool)} {dst : Option Tmp} {a : Elt} {c : UInt8} {ms : Array (String × TypeId)}
theorem Ex.anyW {s:Ls}{b:Bool}(hn:P.concrete tw=true)(hx:ev e x=some (.agg #[S s, .bool b])):Ex P ⟨dst, .makeInterface tw x,ty,pos,af,g⟩ e w (encA ts tw (eltW (s,b))) w:=Ex.ifaceV hn hx
end
end Go.Ph
end
section
namespace Go.Ph
open Go Go.RowKit Pl
section
variable {C : Nat → Prop} {P : Program} {ops : Array Oper} {Q : Exit → Act → World → Prop} {n : Nat} {D : List Deferred} {rest : List Oper} {e : Env} {w0 w : World} {M0 M : Mem} {L L' : List Item} {v v1 v2 u z : Value}
  {x y : Operand} {ty t t' : TypeId} {pos : String} {af : Array Edge} {g : Option (Nat × Bool)} {fn : Func} {f : FuncId} {cap : List Value} {x1 x2 : ResultVar} {R : Value → Mem → Prop}
end
end Go.Ph
end
section
namespace Go.Ph
open Go Go.RowKit Pl
section
variable {C : Nat → Prop} {r : Option Nat} {P : Program} {ops : Array Oper} {Q : Exit → Act → World → Prop} {n : Nat} {D : List Deferred} {rest : List Oper} {e : Env} {w0 w : World} {M0 M : Mem} {L L' A B : List Item} {d : Nat} {v u : Value}
  {x y : Operand} {ty t t' : TypeId} {pos : String} {af : Array Edge} {g : Option (Nat × Bool)} {dst : Option Tmp} {α : Type} {enc : α → Value} {l : List α}
instance {F : Fence} {m:Nat} {fn:Func} {R:Ending->World->Prop}:RTo (bodyPostDIn F m P fn R) (bodyPostDIn F m P fn R):=⟨id⟩
end
end Go.Ph
end
section
namespace Go.Ph
open Go Go.RowKit Pl
section
variable {P : Program} {n n' : Nat} {e : Env} {w : World} {fn fn' : Func} {f : FuncId} {cap : List Value} {K : Ending → World → Prop} {c : Code}
variable {a : Act} {D : List Deferred} {e' : Env} {w0 : World} {M0 M : Mem} {L A its : List Item} {R : Value → Mem → List Item → Prop} {v1 v2 : Value} {x1 x2 : ResultVar}
end
end Go.Ph
end
section
namespace Go.Ph.Pl
end Go.Ph.Pl
namespace Go.Ph
open Go Go.RowKit Go.Ph.Pl
section
variable {P : Program} {e : Env} {w : World} {x y : Operand} {dst : Option Nat} {ty t t' : TypeId} {pos : String} {af : Array Edge} {g : Option (Nat × Bool)} {a b z : Int}
end
end Go.Ph
namespace Go.Ph
open Go Go.RowKit Go.Ph.Pl
section
variable {C : Nat → Prop} {r : Option Nat} {P : Program} {ops : Array Oper} {Q : Exit → Act → World → Prop} {n : Nat} {D : List Deferred} {rest : List Oper} {e : Env} {w0 w : World} {M0 M : Mem} {L L' : List Item} {x y : Operand} {ty t t' : TypeId} {pos : String} {af : Array Edge} {g : Option (Nat × Bool)} {v : Value}
theorem WR.storeP {b o s:Nat}{E us:List Value}(cs:List Value)(H:StX C w0 M0 M L w)(hx:ev e x=some (ptr b o))(hy:ev e y=some v)(hc:v.cells=us.toArray)(hu:Upd L (.blk b (.cells E.toArray t')) (.blk b (.cells cs.toArray t')) L')
 (hs :∀w,(sizeOf t).run P w = .ok s w) (hvs:us.length=s) (hfit:Nat.ble (o+s) E.length=true) (J:us.all (·.oneCell')=true) (he:E.take o++us++E.drop (o+s)=cs)
 (hw:Wn ops n D e ⟨none, .store t x y,ty,pos,af,g⟩) (k :∀w',StX C w0 M0 M L' w'->WR r P ops Q n D rest e w'):WR r P ops Q n D (⟨none, .store t x y,ty,pos,af,g⟩::rest) e w :=
 WR.storeK H hx hy hu hs (by rw[hc];simpa using hvs) (by simpa using l0h hfit) (fun u hu=>by rw[hc] at hu;exact l0C.1 J u (by simpa using hu)) (by
  rw[hc,<-he]) hw k
theorem Ex.loadAggP {dst:Option Tmp}{b o s:Nat}{cs us:List Value}(H:StX C w0 M0 M L w)(hx:ev e x=some (ptr b o))(hm:Item.blk b (.cells cs.toArray t')∈L)(ha :∀w,(isAgg t).run P w = .ok true w)(hs :∀w,(sizeOf t).run P w = .ok s w)(hu:(cs.drop o).take s=us)(hl:us.length=s):
 Ex P ⟨dst, .load t x,ty,pos,af,g⟩ e w (.agg us.toArray) w:=by
 refine Ex.loadK hx ?_;have hb:=H.blk hm;subst hl;have hl:(loadCells ⟨b,o,none⟩ us.length).run P w = .ok us.toArray w :=
  run_loadCells_list (P:=P) w ⟨b,o,none⟩ us (fun j v hv=>by
   rw[Addr.add_lit,cell_of_row w b _ _ t' _ hb];have u:=(l0c.1 hv).1;rw[<-hu,l2H u,l1o] at hv;simpa using hv)
 simp only[loadVar,Sem.run_bind,ha,Result.andThen_ok,if_true,hs,hl,Sem.run_pure]
def subV (v:Value)(i j:Nat):Value:=match v with
 | .slice A _ c => .slice (if c=i then A else A.map (·.add i)) (j-i) (c-i)
 | v=>v
variable {α : Type} {enc : α → Value} {l l2 : List α} {dst : Option Tmp} {o1 o2 : Operand} {i j : Int}
theorem Sl.subV (h:Sl M enc v l)(hc:cut l i j=some l2):Sl M enc (subV v i.toNat j.toNat) l2:=by
 obtain⟨⟨u,E,J⟩,rfl⟩:=cut_some hc;obtain⟨A,nn,c,rfl,rfl,hnc,hs⟩:=h.part (i:=i.toNat) (j:=j.toNat) Om Om;exact hs
theorem Ex.sliceV {a b:Nat}{lo hi:Option Operand}(ht:P.underlying t=some (.slice t'))(hz :∀w,(sizeOf t').run P w = .ok 1 w)(h:Sl M enc v l)(hx:ev e x=some v)
 (hlo:(∃o,lo=some o/\ev e o=some (I a))∨(lo=none/\a=0)) (hhi:(∃o,hi=some o/\ev e o=some (I b))∨(hi=none/\b=l.length)) (hij:a<=b) (hj:b<=l.length):Ex P ⟨dst, .slice t x lo hi none,ty,pos,af,g⟩ e w (Ph.subV v a b) w:=by
 obtain⟨A,nn,c,rfl,rfl,hnc,hs⟩:=h.part hij hj;refine⟨nofun,fun ρ hfi=>?_⟩;have hr:=run_slice_part (P:=P) (w:=w) (lo:=lo.map ρ) (hi:=hi.map ρ) ht hz A l.length c hnc hij hj
  (by rcases hlo with ⟨o,rfl,ho⟩|⟨rfl,h⟩
      . exact .inl (by simp [hfi _ _ ho])
      exact .inr ⟨G,h⟩)
  (by rcases hhi with ⟨o,rfl,ho⟩|⟨rfl,h⟩
      . exact .inl (by simp [hfi _ _ ho])
      exact .inr ⟨G,h⟩)
 simp only[execOp,hfi _ _ hx,l2n,Sem.run_bind,hr,Result.andThen_ok,Sem.run_pure];rfl
theorem Ex.sliceVC (ht:P.underlying t=some (.slice t'))(hz :∀w,(sizeOf t').run P w = .ok 1 w)(h:Sl M enc v l)(hx:ev e x=some v)(u:ev e o1=some (I i))(E:ev e o2=some (I j))(hc:cut l i j=some l2):Ex P ⟨dst, .slice t x (some o1) (some o2) none,ty,pos,af,g⟩ e w (Ph.subV v i.toNat j.toNat) w:=by
 obtain⟨⟨J,K,N⟩,rfl⟩:=cut_some hc;exact Ex.sliceV ht hz h hx (.inl ⟨_,G,by rw[u,l0G J]⟩) (.inl ⟨_,G,by rw[E,l0G Om]⟩) Om Om
theorem Ex.sliceVL (ht:P.underlying t=some (.slice t'))(hz :∀w,(sizeOf t').run P w = .ok 1 w)(h:Sl M enc v l)(hx:ev e x=some v)(u:ev e o1=some (I i))(hc:cut l i (l.length:Int)=some l2):Ex P ⟨dst, .slice t x (some o1) none none,ty,pos,af,g⟩ e w (Ph.subV v i.toNat (l.length:Int).toNat) w:=by
 obtain⟨⟨E,J,K⟩,rfl⟩:=cut_some hc;exact Ex.sliceV ht hz h hx (.inl ⟨_,G,by rw[u,l0G E]⟩) (.inr ⟨G,by simp⟩) Om Om
abbrev _root_.q1E := @Ex.sliceVL
theorem Ex.sliceVH (ht:P.underlying t=some (.slice t'))(hz :∀w,(sizeOf t').run P w = .ok 1 w)(h:Sl M enc v l)(hx:ev e x=some v)(u:ev e o2=some (I j))(hc:cut l 0 j=some l2):Ex P ⟨dst, .slice t x none (some o2) none,ty,pos,af,g⟩ e w (Ph.subV v (0:Int).toNat j.toNat) w:=by
 obtain⟨⟨E,J,K⟩,rfl⟩:=cut_some hc;exact Ex.sliceV ht hz h hx (.inr ⟨G,G⟩) (.inl ⟨_,G,by rw[u,l0G Om]⟩) Om Om
abbrev _root_.q1K := @Ex.sliceVH
end
end Go.Ph
end
section
namespace Go.Ph
open Go Go.RowKit Pl
structure ItR {α:Type}(P:Program)(f:FuncId)(cap:List Value)(A:List Item)(Pre:Mem->Prop)(Rx:Value->Mem->α->Prop)(run:(σ:Type)->(σ->α->Option (σ × Bool))->σ->Option σ):Prop where
 enters :∀ar w,(callFunc f ar).run P w = .ok (.enter f ar) w
 calls :∀(l:Nat) (σ:Type) (Y:σ->α->Option (σ × Bool)) (Z:σ->List Item->Mem->Prop),(∀s L M M',Z s L M->M.le M'->Z s L M')->
  (∀s x s' b v L w M,Y s x=some (s',b)->Z s L M->Rx v M x->StX (feet L) w M M L w->YieldAt (Wd none) 0 P l #[v] w fun e w' =>∃M' L',StX (feet L) w M M' L' w'/\e = .returned (.bool b)/\Z s' L' M')->
  ∀s s' L w M,run σ Y s=some s'->Z s L M->StX (feet (A++L)) w M M (A++L) w->Pre M->
  Calls P f (yv l::cap).toArray w fun e w' =>∃r M' L',e = .returned r/\StX (feet (A++L)) w M M' L' w'/\Z s' L' M'
section
variable {C : Nat → Prop} {r : Option Nat} {P : Program} {ops : Array Oper} {Q : Exit → Act → World → Prop} {n : Nat} {D : List Deferred} {rest : List Oper} {e : Env} {w0 w : World} {M0 M : Mem} {L B : List Item} {d : Nat}
  {x y : Operand} {ty t ts t' : TypeId} {pos : String} {af : Array Edge} {g : Option (Nat × Bool)} {α σ : Type} {Rx : Value → Mem → α → Prop}
variable {lid : Nat} {rc : LoopState → Option Code → Loop} {Z : σ → List Item → Mem → Prop} {E : σ → Option Code} {s : σ} {w1 : World} {M1 : Mem} {Lh L0 : List Item}
theorem WC.rangeR {Lall A:List Item}{f:FuncId}{cap:List Value}{Pre:Mem->Prop}{run:(σ:Type)->(σ->α->Option (σ × Bool))->σ->Option σ}{gv:Operand}{p:Tmp}{assign body:Code}
 (H:StX C w0 M0 M Lall w) (hg:ev e gv=some (.func (.func f) #[] cap.toArray)) (hit:ItR P f cap A Pre Rx run) (hs:Spl Lall (A++L) B) (hp:Pre M) (hpn:Nat.blt p n=true)
 (Z:σ->List Item->Mem->Prop) (E:σ->Option Code) (stop:σ->Bool) (hE :∀s,stop s=(E s).isSome) (Bd:σ->α->Option σ) (U K:σ) (hrun:run σ (stepY stop Bd) U=some K)
 (hZ :∀s L M M',Z s L M->M.le M'->Z s L M') (hE0:E U=none) (hz:Z U L M)
 (hbody :∀(lid:Nat) (rc:LoopState->Option Code->Loop),LoopRec rc->∀s x s' xv L w M,E s=none->Bd s x=some s'->Z s L M->Rx xv M x->
  StX (feet (.blk lid (.loop (rc .ready none))::L)) w M M (.blk lid (.loop (rc .ready none))::L) w->
  WC (some lid) P (asgPost P lid body (RS Z E lid rc (.blk lid (.loop (rc .ready none))::L) w M s')) n [] assign ((p,xv)::e) w)
 (hdone :∀Dm w M' L',StX C w0 M0 M' (L'++(.blk Dm (.deferred (some []))::B)) w->M.le M'->E K=none->Z K L' M'->WQ Q .normal n (mark Dm::D) e w)
 (hstop :∀Dm w M' L' c,StX C w0 M0 M' (L'++(.blk Dm (.deferred (some []))::B)) w->M.le M'->E K=some c->Z K L' M'->WC none P Q n (mark Dm::D) c e w) :
 WC none P Q n D (.rangeFunc gv #[p] assign body) e w:=by
 intro a ha;refine wpIn_rangeFunc (F:=Wd none) (n:=0) ?_;intro fn _;obtain⟨rc,hrcd⟩ :∃rc:LoopState->Option Code->Loop,rc=fun st pe=>{state:=st,pending:=pe,fn,tmps:=a.tmps,params := #[p],assign,body,defers:=w.heap.size}:=⟨_,rfl⟩
 have hrc:LoopRec rc:=by subst hrcd;exact ⟨fun _ _=>rfl,fun _ _=>rfl,fun _ _ _=>rfl,fun _ _ _ _=>rfl⟩
 have H1:StX C w0 M0 M (.blk w.heap.size (.deferred (some []))::Lall) (w.alloc (.deferred (some []))) :=
  H.new (grownBy_alloc' _ _) (World.alloc_heap_new w _) (fun b hb=>by cases hb;exact l0b _)
 have H2:StX C w0 M0 M (.blk (w.heap.size+1) (.loop (rc .ready none)) :: .blk w.heap.size (.deferred (some []))::Lall) ((w.alloc (.deferred (some []))).alloc (.loop (rc .ready none))) :=
  H1.new (grownBy_alloc' _ _) (by have:=World.alloc_heap_new (w.alloc (.deferred (some []))) (.loop (rc .ready none));rwa [World.size_alloc] at this) (fun b hb=>by cases hb;simp)
 obtain⟨W,hW⟩ :∃W,(w.alloc (.deferred (some []))).alloc (.loop (rc .ready none))=W:=⟨_,rfl⟩
 rw[hW] at H2;have hperm:(Item.blk (w.heap.size+1) (.loop (rc .ready none)) :: .blk w.heap.size (.deferred (some []))::Lall).Perm ((A++(.blk (w.heap.size+1) (.loop (rc .ready none))::L))++(.blk w.heap.size (.deferred (some []))::B)):=by
  have u:Lall.Perm (A++L++B):=hs.perm;have N:(A++(Item.blk (w.heap.size+1) (.loop (rc .ready none))::L)).Perm (.blk (w.heap.size+1) (.loop (rc .ready none))::(A++L)):=l3m;refine(((u.cons _).trans List.perm_middle.symm).cons _).trans ?_;exact(N.append_right _).symm
 have H3:=H2.perm hperm;refine⟨w.heap.size+1,[mark w.heap.size],W,{target := .fn (.func f) cap.toArray,args := #[yv (w.heap.size+1)]},W,f,(yv (w.heap.size+1)::cap).toArray,W,?_,?_,fun _ _=>trivial,?_,fun h=>(by cases h),?_⟩
 . rw[<-hW,hrcd];exact run_enterLoop_outer _ _ _ _ _
 . have u:=ha.fits _ _ hg;simp only[resolve,u,Deferred.ofValue,Sem.run_pure,l0J,l0p,l1d,l1h];rfl
 . simp only[invoke,l2p,l09,l07,hit.enters]
 refine callsIn_Wd.2 ((hit.calls (w.heap.size+1) σ (stepY stop Bd) (fun s L M =>∃L0,L = .blk (w.heap.size+1) (.loop (lpS rc (E s)))::L0/\Z s L0 M) (fun s L M M' ⟨L0,u,N⟩ O=>⟨L0,u,hZ _ _ _ _ N O⟩) ?_ U K _ W M hrun ⟨L,by rw[hE0];rfl,hz⟩ (H3.hand (q1r _ _)) hp).mono ?_)
 . rintro s x s' b xv L1 w1 M1 hy ⟨L0,rfl,Y⟩ hrx Hs;unfold stepY at hy;split at hy
   case isTrue=>cases hy
   rename_i hst;have hEs:E s=none:=by
    cases hc:E s with
    | none=>rfl
    | some c=>rw[hE,hc] at hst;exact absurd rfl hst
   obtain⟨J,hB,heq⟩:=l0A.1 hy;obtain⟨rfl,rfl⟩:=Prod.mk.inj heq;rw[hEs] at Hs;have hl:=Hs.blk (List.Mem.head _);have hy:=run_yield (P:=P) (args := #[xv]) hl (by rw[lpS,hrcd];rfl);refine⟨_,_,_,_,hy,roundIn_of_wpIn trivial ?_⟩;have hb:=hbody (w.heap.size+1) rc hrc s x J xv L0 w1 M1 hEs hB Y hrx Hs;have hsat:Sat n [] ((p,xv)::e) {tmps:=(((rc .ready none).params.zip #[xv]).foldl (fun tmps (t,a)=>tmps.setIfInBounds t a) (rc .ready none).tmps),defers:=[]}:=by
    have u:=Sat.put (D:=[]) (a:={tmps:=a.tmps,defers:=[]}) (e:=e) (n:=n) ⟨ha.size,rfl,ha.val⟩ (l0h hpn) xv;rw[hrcd];simpa [Act.put] using u
   have hfin:=hb _ hsat;have hpost :∀en w',RS Z E (w.heap.size+1) rc (.blk (w.heap.size+1) (.loop (rc .ready none))::L0) w1 M1 J en w'->
    ∃M' L',StX (feet (.blk (w.heap.size+1) (.loop (lpS rc (E s)))::L0)) w1 M1 M' L' w'/\en = .returned (.bool (!stop J))/\∃L0,L' = .blk (w.heap.size+1) (.loop (lpS rc (E J)))::L0/\Z J L0 M':=by
    rintro en w' ⟨M',L2,u,N,V⟩;refine⟨M',_,by rw[hEs];exact u,?_,L2,G,V⟩;rw[N,hE];cases E J <;> rfl
   have hpe:RS Z E (w.heap.size+1) rc (.blk (w.heap.size+1) (.loop (rc .ready none))::L0) w1 M1 J=fun en w' =>∃M' L',StX (feet (.blk (w.heap.size+1) (.loop (lpS rc (E s)))::L0)) w1 M1 M' L' w'/\en = .returned (.bool (!stop J))/\∃L0,L' = .blk (w.heap.size+1) (.loop (lpS rc (E J)))::L0/\Z J L0 M':=by
    funext en w'
    refine propext ⟨hpost en w',?_⟩;rintro⟨M',L',u,N,L2,rfl,V⟩;refine⟨M',L2,by rw[hEs] at u;exact u,?_,V⟩;rw[N,hE];cases E J <;> rfl
   rw[hpe] at hfin;rw[lpS];rw[hrcd] at hfin ⊢;exact hfin
 rintro en w3 ⟨rv,M',L',rfl,Hs,L0,rfl,hz'⟩;have Hb:=H3.back (q1r _ _) Hs;have O:M.le M':=Hs.ext.le;have hd:Sat n (mark w.heap.size::D) e {a with defers:=[mark w.heap.size]++a.defers}:=⟨ha.size,by simp [ha.defers],ha.val⟩
 have hl:=Hb.blk (List.Mem.head _);cases hEs:E K with
 | none =>
   rw[hEs] at hl Hb;have hr:=run_endLoop (P:=P) hl (by rw[lpS,hrc.state];intro h;cases h);rw[lpS,hrc.setS,hrc.pending] at hr;have Hc:=(Hb.put (o' := .loop (rc .exhausted none)) .head).drop (l1k _ _);exact⟨none,_,hr,hdone _ _ M' L0 Hc O hEs hz' _ hd⟩
 | some c =>
   rw[hEs] at hl Hb;have hr:=run_endLoop (P:=P) hl (by rw[lpS,hrc.state];intro h;cases h);rw[lpS,hrc.setS,hrc.pending] at hr;have Hc:=(Hb.put (o' := .loop (rc .exhausted (some c))) .head).drop (l1k _ _);exact⟨some c,_,hr,hstop _ _ M' L0 c Hc O hEs hz' _ hd⟩
variable {Lc A : List Item} {v : Value}
theorem WR.yieldR {l:Nat}{Y:σ->α->Option (σ × Bool)}{Z:σ->List Item->Mem->Prop}{s s':σ}{b:Bool}{xv:α}{tys:Array TypeId}(H:StX C w0 M0 M L w)(hspl:Spl L Lc B)
 (hY :∀s x s' b v L w M,Y s x=some (s',b)->Z s L M->Rx v M x->StX (feet L) w M M L w->YieldAt (Wd none) 0 P l #[v] w fun e w' =>∃M' L',StX (feet L) w M M' L' w'/\e = .returned (.bool b)/\Z s' L' M')
 (hz:ZH Z s Lc M) (hy:Y s xv=some (s',b)) (hx:ev e x=some (yv l)) (hv:ev e y=some v) (hr:Rx v M xv)
 (hw:Wn ops n D e ⟨some d, .call ⟨.value x,#[y],tys⟩,ty,pos,af,g⟩) (hn:Nat.blt d n=true)
 (k :∀w M' Lc',StX C w0 M0 M' (B++Lc') w->M.le M'->ZH Z s' Lc' M'->WR none P ops Q n D rest ((d, .bool b)::e) w) :
 WR none P ops Q n D (⟨some d, .call ⟨.value x,#[y],tys⟩,ty,pos,af,g⟩::rest) e w :=
 WR.yield (hY _ _ _ _ _ _ _ _ hy hz.z hr (H.hand hspl)) hx hv hw hn (fun en w' ⟨M',L',u,he,hz'⟩=>⟨b,he,k _ _ _ ((H.back hspl u).perm l2U) u.ext.le ⟨hz',hz.m⟩⟩)
theorem ItR.of {f:FuncId}{fn:Func}{c:Code}{cap:List Value}{Pre:Mem->Prop}{run:(σ:Type)->(σ->α->Option (σ × Bool))->σ->Option σ}
 (hf:P.funcs[f]? = some fn) (hen :∀ar w,(callFunc f ar).run P w = .ok (.enter f ar) w) (hb:fn.body=some c) (hnt:fn.ntmps=n) (hn:Nat.ble (cap.length+1) n=true)
 (h :∀(l:Nat) (σ:Type) (Y:σ->α->Option (σ × Bool)) (Z:σ->List Item->Mem->Prop) (C:Nat->Prop),
  (∀s x s' b v L w M,Y s x=some (s',b)->Z s L M->Rx v M x->StX (feet L) w M M L w->YieldAt (Wd none) 0 P l #[v] w fun e w' =>∃M' L',StX (feet L) w M M' L' w'/\e = .returned (.bool b)/\Z s' L' M')->
  ∀s s' L w M,run σ Y s=some s'->ZH Z s L M->StX C w M M (A++L) w->Pre M->WC none P (bodyPost P fn (RetZ C Z s' w M)) n [] c (envOf 0 (yv l::cap)) w):ItR P f cap A Pre Rx run :=
 ⟨hen,fun l σ Y Z hZ hY s s' L w M hrun hz H hp=>calls_of_WC (args:=yv l::cap) hf hb hnt hn (h l σ Y Z _ hY s s' L w M hrun ⟨hz,hZ⟩ H hp)⟩
theorem map_add0 (A:Option Addr):A.map (·.add 0)=A:=by cases A <;> simp [Addr.add]
theorem Sl.tight {enc:α->Value}{A:Option Addr}{nn c:Nat}{l:List α}(h:Sl M enc (.slice A nn c) l):Sl M enc (.slice A nn nn) l:=by
 obtain⟨A',c',he,K,u,J⟩:=h;cases he;exact⟨A,_,G,l0b _,⟨by omega,fun hA=>by have:=u.2 hA;omega⟩,J⟩
theorem WR.slice3C {enc:α->Value}{l l2:List α}{J K:Operand}{j:Int}(ht:P.underlying t=some (.slice t'))(hz :∀w,(sizeOf t').run P w = .ok 1 w)(h:Sl M enc v l)(hx:ev e x=some v)(N:ev e J=some (I j))(O:ev e K=some (I j))(hc:cut l 0 j=some l2)
 (hw:Wn ops n D e ⟨some d, .slice t x none (some J) (some K),ty,pos,af,g⟩) (hn:Nat.blt d n=true) (k :∀v',Sl M enc v' l2->WR r P ops Q n D rest ((d,v')::e) w) :
 WR r P ops Q n D (⟨some d, .slice t x none (some J) (some K),ty,pos,af,g⟩::rest) e w:=by
 obtain⟨⟨Y,a2,a3⟩,rfl⟩:=cut_some hc;obtain⟨A,nn,c,rfl,rfl,hnc,hs⟩:=h.part (i:=(0:Int).toNat) (j:=j.toNat) Om Om;have u:=hs.tight;simp only[Int.toNat_zero,map_add0,ite_self,l3a] at u;refine q0u (v := .slice A j.toNat j.toNat) (w':=w) ⟨nofun,fun ρ hfi=>?_⟩ hw G hn (k _ u);have U:(0:Int)<=j/\j<=(c:Int):=by omega
 have V:(0:Int)<=j/\j<=(j.toNat:Int):=by omega
 simp only[execOp,hfi _ _ hx,l2n,l0Y,hfi _ _ N,hfi _ _ O,Instr.sliceAt,Instr.slice,Instr.sliceBounds,Instr.sliceBound,asIntOf,Sem.run_bind,run_underlying ht,Result.andThen_ok,Sem.run_pure,U,V,and_self,if_true,hz,Nat.zero_mul,map_add0,ite_self,l3a]
end
end Go.Ph
end
section
namespace Go.Ph
open Go Go.RowKit Pl
structure ItW {α:Type}(P:Program)(f:FuncId)(cap:List Value)(A:List Item)(Pre:Mem->Prop)(Rx:Value->Value->Mem->α->Prop)(run:(σ:Type)->(σ->α->Option (σ × Bool))->σ->Option σ):Prop where
 enters :∀ar w,(callFunc f ar).run P w = .ok (.enter f ar) w
 calls :∀(l:Nat) (σ:Type) (Y:σ->α->Option (σ × Bool)) (Z:σ->List Item->Mem->Prop),(∀s L M M',Z s L M->M.le M'->Z s L M')->
  (∀s x s' b v u L w M,Y s x=some (s',b)->Z s L M->Rx v u M x->StX (feet L) w M M L w->YieldAt (Wd none) 0 P l #[v,u] w fun e w' =>∃M' L',StX (feet L) w M M' L' w'/\e = .returned (.bool b)/\Z s' L' M')->
  ∀s s' L w M,run σ Y s=some s'->Z s L M->StX (feet (A++L)) w M M (A++L) w->Pre M->
  Calls P f (yv l::cap).toArray w fun e w' =>∃r M' L',e = .returned r/\StX (feet (A++L)) w M M' L' w'/\Z s' L' M'
def subH (q:Hd)(i j:Nat):Hd:=(if q.2.2=i then q.1 else q.1.map (·.add i),j-i,q.2.2-i)
section
variable {C : Nat → Prop} {r : Option Nat} {P : Program} {ops : Array Oper} {Q : Exit → Act → World → Prop} {n : Nat} {D : List Deferred} {rest : List Oper} {e : Env} {w0 w : World} {M0 M : Mem} {L B : List Item} {d : Nat}
  {x y : Operand} {ty t ts t' : TypeId} {pos : String} {af : Array Edge} {g : Option (Nat × Bool)} {α σ : Type} {Rx : Value → Value → Mem → α → Prop}
variable {lid : Nat} {rc : LoopState → Option Code → Loop} {Z : σ → List Item → Mem → Prop} {E : σ → Option Code} {s : σ} {w1 : World} {M1 : Mem} {Lh L0 : List Item}
theorem WC.rangeW {Lall A:List Item}{f:FuncId}{cap:List Value}{Pre:Mem->Prop}{run:(σ:Type)->(σ->α->Option (σ × Bool))->σ->Option σ}{gv:Operand}{p U:Tmp}{assign body:Code}
 (H:StX C w0 M0 M Lall w) (hg:ev e gv=some (.func (.func f) #[] cap.toArray)) (hit:ItW P f cap A Pre Rx run) (hs:Spl Lall (A++L) B) (hp:Pre M) (hpn:Nat.blt p n=true) (Y:Nat.blt U n=true)
 (Z:σ->List Item->Mem->Prop) (E:σ->Option Code) (stop:σ->Bool) (hE :∀s,stop s=(E s).isSome) (Bd:σ->α->Option σ) (V N:σ) (hrun:run σ (stepY stop Bd) V=some N)
 (hZ :∀s L M M',Z s L M->M.le M'->Z s L M') (hE0:E V=none) (hz:Z V L M)
 (hbody :∀(lid:Nat) (rc:LoopState->Option Code->Loop),LoopRec rc->∀s x s' xv uv L w M,E s=none->Bd s x=some s'->Z s L M->Rx xv uv M x->
  StX (feet (.blk lid (.loop (rc .ready none))::L)) w M M (.blk lid (.loop (rc .ready none))::L) w->
  WC (some lid) P (asgPost P lid body (RS Z E lid rc (.blk lid (.loop (rc .ready none))::L) w M s')) n [] assign ((U,uv)::(p,xv)::e) w)
 (hdone :∀Dm w M' L',StX C w0 M0 M' (L'++(.blk Dm (.deferred (some []))::B)) w->M.le M'->E N=none->Z N L' M'->WQ Q .normal n (mark Dm::D) e w)
 (hstop :∀Dm w M' L' c,StX C w0 M0 M' (L'++(.blk Dm (.deferred (some []))::B)) w->M.le M'->E N=some c->Z N L' M'->WC none P Q n (mark Dm::D) c e w) :
 WC none P Q n D (.rangeFunc gv #[p,U] assign body) e w:=by
 intro a ha;refine wpIn_rangeFunc (F:=Wd none) (n:=0) ?_;intro fn _;obtain⟨rc,hrcd⟩ :∃rc:LoopState->Option Code->Loop,rc=fun st pe=>{state:=st,pending:=pe,fn,tmps:=a.tmps,params := #[p,U],assign,body,defers:=w.heap.size}:=⟨_,rfl⟩
 have hrc:LoopRec rc:=by subst hrcd;exact ⟨fun _ _=>rfl,fun _ _=>rfl,fun _ _ _=>rfl,fun _ _ _ _=>rfl⟩
 have H1:StX C w0 M0 M (.blk w.heap.size (.deferred (some []))::Lall) (w.alloc (.deferred (some []))) :=
  H.new (grownBy_alloc' _ _) (World.alloc_heap_new w _) (fun b hb=>by cases hb;exact l0b _)
 have H2:StX C w0 M0 M (.blk (w.heap.size+1) (.loop (rc .ready none)) :: .blk w.heap.size (.deferred (some []))::Lall) ((w.alloc (.deferred (some []))).alloc (.loop (rc .ready none))) :=
  H1.new (grownBy_alloc' _ _) (by have:=World.alloc_heap_new (w.alloc (.deferred (some []))) (.loop (rc .ready none));rwa [World.size_alloc] at this) (fun b hb=>by cases hb;simp)
 obtain⟨W,hW⟩ :∃W,(w.alloc (.deferred (some []))).alloc (.loop (rc .ready none))=W:=⟨_,rfl⟩
 rw[hW] at H2;have hperm:(Item.blk (w.heap.size+1) (.loop (rc .ready none)) :: .blk w.heap.size (.deferred (some []))::Lall).Perm ((A++(.blk (w.heap.size+1) (.loop (rc .ready none))::L))++(.blk w.heap.size (.deferred (some []))::B)):=by
  have u:Lall.Perm (A++L++B):=hs.perm;have K:(A++(Item.blk (w.heap.size+1) (.loop (rc .ready none))::L)).Perm (.blk (w.heap.size+1) (.loop (rc .ready none))::(A++L)):=l3m;refine(((u.cons _).trans List.perm_middle.symm).cons _).trans ?_;exact(K.append_right _).symm
 have H3:=H2.perm hperm;refine⟨w.heap.size+1,[mark w.heap.size],W,{target := .fn (.func f) cap.toArray,args := #[yv (w.heap.size+1)]},W,f,(yv (w.heap.size+1)::cap).toArray,W,?_,?_,fun _ _=>trivial,?_,fun h=>(by cases h),?_⟩
 . rw[<-hW,hrcd];exact run_enterLoop_outer _ _ _ _ _
 . have u:=ha.fits _ _ hg;simp only[resolve,u,Deferred.ofValue,Sem.run_pure,l0J,l0p,l1d,l1h];rfl
 . simp only[invoke,l2p,l09,l07,hit.enters]
 refine callsIn_Wd.2 ((hit.calls (w.heap.size+1) σ (stepY stop Bd) (fun s L M =>∃L0,L = .blk (w.heap.size+1) (.loop (lpS rc (E s)))::L0/\Z s L0 M) (fun s L M M' ⟨L0,u,K⟩ O=>⟨L0,u,hZ _ _ _ _ K O⟩) ?_ V N _ W M hrun ⟨L,by rw[hE0];rfl,hz⟩ (H3.hand (q1r _ _)) hp).mono ?_)
 . rintro s x s' b xv uv L1 w1 M1 hy ⟨L0,rfl,a1⟩ hrx Hs;unfold stepY at hy;split at hy
   case isTrue=>cases hy
   rename_i hst;have hEs:E s=none:=by
    cases hc:E s with
    | none=>rfl
    | some c=>rw[hE,hc] at hst;exact absurd rfl hst
   obtain⟨J,hB,heq⟩:=l0A.1 hy;obtain⟨rfl,rfl⟩:=Prod.mk.inj heq;rw[hEs] at Hs;have hl:=Hs.blk (List.Mem.head _);have hy:=run_yield (P:=P) (args := #[xv,uv]) hl (by rw[lpS,hrcd];rfl);refine⟨_,_,_,_,hy,roundIn_of_wpIn trivial ?_⟩;have hb:=hbody (w.heap.size+1) rc hrc s x J xv uv L0 w1 M1 hEs hB a1 hrx Hs;have hsat:Sat n [] ((U,uv)::(p,xv)::e) {tmps:=(((rc .ready none).params.zip #[xv,uv]).foldl (fun tmps (t,a)=>tmps.setIfInBounds t a) (rc .ready none).tmps),defers:=[]}:=by
    have u:=Sat.put (D:=[]) (a:={tmps:=a.tmps,defers:=[]}) (e:=e) (n:=n) ⟨ha.size,rfl,ha.val⟩ (l0h hpn) xv;have K:=u.put (l0h Y) uv;rw[hrcd];simpa [Act.put] using K
   have hfin:=hb _ hsat;have hpost :∀en w',RS Z E (w.heap.size+1) rc (.blk (w.heap.size+1) (.loop (rc .ready none))::L0) w1 M1 J en w'->
    ∃M' L',StX (feet (.blk (w.heap.size+1) (.loop (lpS rc (E s)))::L0)) w1 M1 M' L' w'/\en = .returned (.bool (!stop J))/\∃L0,L' = .blk (w.heap.size+1) (.loop (lpS rc (E J)))::L0/\Z J L0 M':=by
    rintro en w' ⟨M',L2,u,K,h3⟩;refine⟨M',_,by rw[hEs];exact u,?_,L2,G,h3⟩;rw[K,hE];cases E J <;> rfl
   have hpe:RS Z E (w.heap.size+1) rc (.blk (w.heap.size+1) (.loop (rc .ready none))::L0) w1 M1 J=fun en w' =>∃M' L',StX (feet (.blk (w.heap.size+1) (.loop (lpS rc (E s)))::L0)) w1 M1 M' L' w'/\en = .returned (.bool (!stop J))/\∃L0,L' = .blk (w.heap.size+1) (.loop (lpS rc (E J)))::L0/\Z J L0 M':=by
    funext en w'
    refine propext ⟨hpost en w',?_⟩;rintro⟨M',L',u,K,L2,rfl,h3⟩;refine⟨M',L2,by rw[hEs] at u;exact u,?_,h3⟩;rw[K,hE];cases E J <;> rfl
   rw[hpe] at hfin;rw[lpS];rw[hrcd] at hfin ⊢;exact hfin
 rintro en w3 ⟨rv,M',L',rfl,Hs,L0,rfl,hz'⟩;have Hb:=H3.back (q1r _ _) Hs;have O:M.le M':=Hs.ext.le;have hd:Sat n (mark w.heap.size::D) e {a with defers:=[mark w.heap.size]++a.defers}:=⟨ha.size,by simp [ha.defers],ha.val⟩
 have hl:=Hb.blk (List.Mem.head _);cases hEs:E N with
 | none =>
   rw[hEs] at hl Hb;have hr:=run_endLoop (P:=P) hl (by rw[lpS,hrc.state];intro h;cases h);rw[lpS,hrc.setS,hrc.pending] at hr;have Hc:=(Hb.put (o' := .loop (rc .exhausted none)) .head).drop (l1k _ _);exact⟨none,_,hr,hdone _ _ M' L0 Hc O hEs hz' _ hd⟩
 | some c =>
   rw[hEs] at hl Hb;have hr:=run_endLoop (P:=P) hl (by rw[lpS,hrc.state];intro h;cases h);rw[lpS,hrc.setS,hrc.pending] at hr;have Hc:=(Hb.put (o' := .loop (rc .exhausted (some c))) .head).drop (l1k _ _);exact⟨some c,_,hr,hstop _ _ M' L0 c Hc O hEs hz' _ hd⟩
variable {Lc A : List Item} {v : Value}
theorem WR.yield2 {l:Nat}{R:Ending->World->Prop}{v u:Value}{y z:Operand}{tys:Array TypeId}(hY:YieldAt (Wd none) 0 P l #[v,u] w R)(hx:ev e x=some (yv l))(hy:ev e y=some v)(hu:ev e z=some u)
 (hw:Wn ops n D e ⟨some d, .call ⟨.value x,#[y,z],tys⟩,ty,pos,af,g⟩) (hn:Nat.blt d n=true)
 (k :∀en w',R en w'->∃b,en = .returned (.bool b)/\WR none P ops Q n D rest ((d, .bool b)::e) w') :
 WR none P ops Q n D (⟨some d, .call ⟨.value x,#[y,z],tys⟩,ty,pos,af,g⟩::rest) e w:=by
 intro a hsat;unfold wpListIn;rw[l01 (hw a hsat)];refine⟨fun _ _=>trivial,?_⟩;rw[Oper.semAt_eq _ _ _ (fun c h=>by cases h)];obtain⟨fn,tmps,assign,body,hyr,hR⟩:=hY;have J:=hsat.fits _ _ hx;have K:=hsat.fits _ _ hy;have N:=hsat.fits _ _ hu;have hrun:(execOp a.eval ⟨some d, .call ⟨.value x,#[y,z],tys⟩,ty,pos,af,g⟩).run P w = .ok (.round l fn tmps assign body) w:=by
  simp only[execOp,resolve,J,Deferred.ofValue,Sem.run_bind,Sem.run_pure,Result.andThen_ok,invoke,l0J,l0p,l1d,K,N,l1h,hyr]
 rw[hrun,Oper.uponIn_round];refine⟨fun h=>(by cases h),hR.mono ?_⟩;intro en w' hr;obtain⟨b,rfl,hk⟩:=k en w' hr;exact hk _ (hsat.put (l0h hn) _)
theorem WR.yieldW {l:Nat}{Y:σ->α->Option (σ × Bool)}{Z:σ->List Item->Mem->Prop}{s s':σ}{b:Bool}{xv:α}{y z:Operand}{tys:Array TypeId}{u:Value}(H:StX C w0 M0 M L w)(hspl:Spl L Lc B)
 (hY :∀s x s' b v u L w M,Y s x=some (s',b)->Z s L M->Rx v u M x->StX (feet L) w M M L w->YieldAt (Wd none) 0 P l #[v,u] w fun e w' =>∃M' L',StX (feet L) w M M' L' w'/\e = .returned (.bool b)/\Z s' L' M')
 (hz:ZH Z s Lc M) (hy:Y s xv=some (s',b)) (hx:ev e x=some (yv l)) (hv:ev e y=some v) (hu:ev e z=some u) (hr:Rx v u M xv)
 (hw:Wn ops n D e ⟨some d, .call ⟨.value x,#[y,z],tys⟩,ty,pos,af,g⟩) (hn:Nat.blt d n=true)
 (k :∀w M' Lc',StX C w0 M0 M' (B++Lc') w->M.le M'->ZH Z s' Lc' M'->WR none P ops Q n D rest ((d, .bool b)::e) w) :
 WR none P ops Q n D (⟨some d, .call ⟨.value x,#[y,z],tys⟩,ty,pos,af,g⟩::rest) e w :=
 WR.yield2 (hY _ _ _ _ _ _ _ _ _ hy hz.z hr (H.hand hspl)) hx hv hu hw hn (fun en w' ⟨M',L',J,he,hz'⟩=>⟨b,he,k _ _ _ ((H.back hspl J).perm l2U) J.ext.le ⟨hz',hz.m⟩⟩)
theorem ItW.of {f:FuncId}{fn:Func}{c:Code}{cap:List Value}{Pre:Mem->Prop}{run:(σ:Type)->(σ->α->Option (σ × Bool))->σ->Option σ}
 (hf:P.funcs[f]? = some fn) (hen :∀ar w,(callFunc f ar).run P w = .ok (.enter f ar) w) (hb:fn.body=some c) (hnt:fn.ntmps=n) (hn:Nat.ble (cap.length+1) n=true)
 (h :∀(l:Nat) (σ:Type) (Y:σ->α->Option (σ × Bool)) (Z:σ->List Item->Mem->Prop) (C:Nat->Prop),
  (∀s x s' b v u L w M,Y s x=some (s',b)->Z s L M->Rx v u M x->StX (feet L) w M M L w->YieldAt (Wd none) 0 P l #[v,u] w fun e w' =>∃M' L',StX (feet L) w M M' L' w'/\e = .returned (.bool b)/\Z s' L' M')->
  ∀s s' L w M,run σ Y s=some s'->ZH Z s L M->StX C w M M (A++L) w->Pre M->WC none P (bodyPost P fn (RetZ C Z s' w M)) n [] c (envOf 0 (yv l::cap)) w):ItW P f cap A Pre Rx run :=
 ⟨hen,fun l σ Y Z hZ hY s s' L w M hrun hz H hp=>calls_of_WC (args:=yv l::cap) hf hb hnt hn (h l σ Y Z _ hY s s' L w M hrun ⟨hz,hZ⟩ H hp)⟩
theorem StX.takeMark {Dm:Nat}{L':List Item}(H:StX C w0 M0 M L w)(hrm:Rem L (.blk Dm (.deferred (some []))) L'):StX C w0 M0 M L' (w.putObj Dm (.deferred none)):=by
 have hit:=H.own _ hrm.mem;refine⟨H.ext.grown (grownBy_putObj2 w Dm _) (fun b hb=>hit.2 b hb),fun it hi=>?_,H.sep.sublist hrm.sublist⟩;have u:=H.own it (hrm.sublist.subset hi);refine⟨u.1.kept (fun b hb'=>World.putObj_heap_other (fun he=>?_)),u.2⟩;subst he;exact hrm.pairs (R:=Apart) (fun x y h=>h.symm) H.sep it hi b G hb'
theorem WQ.retM2 {fn:Func}{R:Ending->World->Prop}{Dm D2:Nat}{L' L2:List Item}(H:StX C w0 M0 M L w)(hrm:Rem L (.blk Dm (.deferred (some []))) L')(u:Rem L' (.blk D2 (.deferred (some []))) L2)
 (k :∀w',StX C w0 M0 M L2 w'->∃v,(∀a,Sat n [mark Dm,mark D2] e a->(results fn a.tmps).run P w' = .ok v w')/\R (.returned v) w'):WQ (bodyPostM (Wd none) 0 P fn R) .ret n [mark Dm,mark D2] e w:=fun a ha=>by
 show LeavesInM _ _ _ _ _ _ _ _ _
 rw[ha.defers];have H1:=H.takeMark hrm;obtain⟨v,J,K⟩:=k _ (H1.takeMark u);exact⟨by simp, .inl ⟨Dm,_,G,run_takeDeferred (P:=P) (H.blk hrm.mem),by simp, .inl ⟨D2,_,G,run_takeDeferred (P:=P) (H1.blk u.mem),leaves_nil (J a ha) K⟩⟩⟩
theorem WQ.mmret1 {fn:Func}{R:Value->Mem->Prop}{J:ResultVar}{v:Value}{Dm D2:Nat}{L' L2:List Item}(hr:fn.results = #[J])(H:St w0 M0 M L w)(hrm:Rem L (.blk Dm (.deferred (some []))) L')(u:Rem L' (.blk D2 (.deferred (some []))) L2)
 (k :∀w,St w0 M0 M L2 w->resv P w e J v) (hR:R v M):WQ (bodyPostM (Wd none) 0 P fn (Ret w0 M0 R)) .ret n [mark Dm,mark D2] e w :=
 WQ.retM2 H hrm u fun w' H'=>⟨v,resv_run1 hr (k w' H'),_,M,rfl,H'.ext,hR⟩
theorem WQ.ret3O {fn:Func}{x y z:ResultVar}{u J K:Value}{its:List Item}{R:Value->Mem->List Item->Prop}(hr:fn.results = #[x,y,z])(N:resv P w e x u)(O:resv P w e y J)(U:resv P w e z K)(H:St w0 M0 M L w)(hs:its.Sublist L)(hR:R (.tuple #[u,J,K]) M its):WQ (bodyPost P fn (RetO w0 M0 R)) .ret n [] e w :=
 fun a ha=>⟨ha.defers, .tuple #[u,J,K],by rw[results_eq,hr];exact run_res3 _ (resv_run ha N) (resv_run ha O) (resv_run ha U),_,M,its,rfl,H.drop hs,hR⟩
end
end Go.Ph
end
section
namespace Go.Ph
open Go Go.RowKit
section
variable {rr : Option Nat} {C : Nat → Prop} {P : Program} {ops : Array Oper} {Q : Exit → Act → World → Prop} {n : Nat} {D : List Deferred} {e0 : Env} {w0 w : World} {M0 M : Mem} {L : List Item}
theorem WA.conf0 (core:CoreT){m c:Nat}(hm:ops.size=m)(hc:core.length=c)(hok:coreOK0 ops c (core.map fun x=>(x.1,x.2.2))=true)(hfree:keysFree e0 (core.map (·.1))=true)(hn:(core.map (·.1)).all (fun d=>Nat.blt d n)=true)
 (H:StX C w0 M0 M L w) (hs:StepsC rr P ops n D e0 C w0 M0 M L core 0 core)
 (u:Nat.blt 0 c=true) (E :∀w M',StX C w0 M0 M' L w->M.le M'->WA rr P ops Q n D (m-c+1) (lst0 m c) (envAll core.tail++e0) w)
 (k :∀w M',StX C w0 M0 M' L w->M.le M'->WA rr P ops Q n D (m-c) (lst m c) (envAll core++e0) w):WA rr P ops Q n D m (Array.replicate m false) e0 w :=
 WA.confz true core hm hc hok hfree hn H hs (fun _=>u) (fun _=>E) k
end
end Go.Ph
end
section
namespace Go.Ph
open Go Go.RowKit Pl
section
variable {C : Nat → Prop} {r : Option Nat} {P : Program} {ops : Array Oper} {Q : Exit → Act → World → Prop} {n : Nat} {D : List Deferred} {rest : List Oper} {e : Env} {w0 w : World} {M0 M : Mem} {L L' : List Item} {d : Nat} {v z : Value}
  {x y : Operand} {ty t ts tt tn : TypeId} {pos : String} {af : Array Edge} {g : Option (Nat × Bool)} {α : Type} {enc : α → List Value} {kk bytes : Nat}
section
variable {A B : List Item} {u : Value} {g : Option (Nat × Bool)} {l : List α}
theorem StX.lendS (H:StX C w0 M0 M L w)(hm:RowS t kk enc u l∈L)(K :∀x,(enc x).length=kk):∃M1,M.le M1/\Ag M1 w/\SlS M1 kk enc u l/\∀{w':World} {M':Mem},Ext w M1 w' M'->∃M2,M.le M2/\M2.le M'/\StX C w0 M0 M2 L w':=by
 have hown:=H.rowOf hm;rcases hown.2 with ⟨hv,hn⟩|⟨g,cap,cur,hv,hgb,hg,hnc,hcm,hcs,htake⟩
 . have:l=[]:=l0e hn;subst this;subst hv;exact⟨M,Mem.le.refl M,H.ag,q1a M enc K,fun {w' M'} hx=>⟨M',hx.le,Mem.le.refl _,H.call hx⟩⟩
 have hf:(RowS t kk enc u l).foot=some g:=by rw[hv];rfl
 have hMg:=((H.own _ hm).2 g hf).1;have hCg:=((H.own _ hm).2 g hf).2;have E:M.le (M.set g (.cells cur t)):=fun b o hb=>by
  by_cases h:b=g
  . subst h;rw [hMg] at hb;cases hb
  simp [Mem.set,h,hb]
 have hag:Ag (M.set g (.cells cur t)) w:=fun b o hb=>by
  by_cases h:b=g
  . subst h;simp only[Mem.set,if_true] at hb;rw [<-hb];exact hg
  simp only[Mem.set,h,if_false] at hb;exact H.ag b o hb
 refine⟨_,E,hag,⟨K,some ⟨g,0,none⟩,cap,hv,hnc,⟨hcm,fun h=>by cases h⟩,fun _=>⟨g,0,cur,t,(0,0),G,by simp [Mem.set],fun i x hx j u hj=>?_⟩⟩,fun {w' M'} hx=>?_⟩
 . have J:=flat_at K l i j x u hx hj;rw[<-htake,l0z] at J;split at J
   . rw[l0D];simpa using J
   cases J
 have hgw:g<w.heap.size:=(l0T.1 hg).1;refine⟨fun b=>if b=g then none else M' b,fun b o hb=>?_,fun b o hb=>?_,⟨⟨hx.below.os.trans H.ext.below.os,hx.below.tape.trans H.ext.below.tape,hx.below.output.trans H.ext.below.output,l1B H.ext.below.size hx.below.size,fun k hk hn=>?_⟩,fun b o hb=>?_,fun b o hb=>?_,fun b hb=>?_⟩,fun it hit=>?_,H.sep⟩
 . have hne:b≠g:=fun h=>by rw[h,hMg] at hb;cases hb
   simp only[hne,if_false];exact hx.le b o (E b o hb)
 . by_cases h:b=g
   . simp [h] at hb
   simpa [h] using hb
 . exact(hx.below.block k (l1t hk H.base) (fun h=>h)).trans (H.ext.below.block k hk hn)
 . have hb':=H.ext.le b o hb;have hne:b≠g:=fun h=>by rw[h,hMg] at hb';cases hb'
   simp only[hne,if_false];exact hx.le b o (E b o hb')
 . by_cases h:b=g
   . simp [h] at hb
   simp only[h,if_false] at hb;exact hx.ag b o hb
 . by_cases h:b=g
   . subst h;simp only[if_true];rw[<-H.ext.old b hb,hMg]
   simp only[h,if_false];rw[hx.old b (l1t hb H.base)];simp only[Mem.set,h,if_false];exact H.ext.old b hb
 obtain⟨N,O⟩:=H.own it hit;refine⟨N.kept (fun b hb=>hx.below.block b (N.lt b hb) (fun h=>h)),fun b hb=>⟨?_,(O b hb).2⟩⟩;by_cases h:b=g
 . simp [h]
 simp only[h,if_false];rw[hx.old b (N.lt b hb)];simp only[Mem.set,h,if_false];exact(O b hb).1
theorem WR.callLendS {f:FuncId}{ar:List Operand}{vs:List Value}{tys:Array TypeId}{Pre:Mem->Prop}{R:Value->Mem->Prop}(H:StX C w0 M0 M L w)(hm:RowS t kk enc u l∈L)(E :∀x,(enc x).length=kk)(hs:Ct P f vs Pre R)(hR :∀v M1 M2,R v M1->R v M2)(ha:evs e ar=some vs)(hp :∀M1,M.le M1->SlS M1 kk enc u l->Pre M1)
 (hw:Wn ops n D e ⟨some d, .call ⟨.value (.func f),ar.toArray,tys⟩,ty,pos,af,g⟩) (hn:Nat.blt d n=true)
 (k :∀v M' w',StX C w0 M0 M' L w'->M.le M'->R v M'->WR r P ops Q n D rest ((d,v)::e) w') :
 WR r P ops Q n D (⟨some d, .call ⟨.value (.func f),ar.toArray,tys⟩,ty,pos,af,g⟩::rest) e w:=by
 intro a hsat;unfold wpListIn;rw[l01 (hw a hsat)];refine⟨fun _ _=>trivial,?_⟩;rw[Oper.semAt_eq _ _ _ (fun c h=>by cases h)];have hv:ar.map a.eval=vs:=hsat.fits.evs ha;have hf:a.eval (.func f) = .func (.func f) #[] #[]:=rfl;have hrun:(execOp a.eval ⟨some d, .call ⟨.value (.func f),ar.toArray,tys⟩,ty,pos,af,g⟩).run P w = .ok (.enter f vs.toArray) w:=by
  simp only[execOp,resolve,hf,Deferred.ofValue,Sem.run_bind,Sem.run_pure,Result.andThen_ok,invoke,l0J,hv,l2j,l1h,hs.enters]
 rw[hrun,Oper.uponIn_enter];obtain⟨M1,J,K,N,O⟩:=H.lendS hm E;refine⟨fun h=>(by cases h),callsIn_Wd.2 ((hs.calls w M1 K (hp M1 J N)).mono ?_)⟩;rintro en w' ⟨rv,M',rfl,hx,hres⟩;obtain⟨M2,U,Y,V⟩:=O hx;exact k rv M2 w' V U (hR _ _ _ hres) _ (hsat.put (l0h hn) rv)
end
theorem Sl.nilOr {enc:α->Value}{l:List α}(h:Sl M enc v l):(v = .slice none 0 0/\l=[])∨∃a c,v = .slice (some a) l.length c:=by
 obtain⟨A,c,rfl,J,E,_⟩:=h;cases A with
 | none =>
   have hc:=E.2 rfl;have hl:l=[]:=l0e Om;subst hl;subst hc;exact .inl ⟨G,G⟩
 | some a=>exact .inr ⟨a,c,rfl⟩
theorem Ext.ofDrawn {M:Mem}{w:World}(ha:Ag M w)(q:Nat):Ext w M (w.drewN q) M:=q1N ha (below_drewN (Below.refl _ w) q)
theorem Sl.cells1 {enc:α->Value}{l:List α}(h:Sl M enc v l):v.cells = #[v]:=by
 obtain⟨A,c,rfl,_⟩:=h;rfl
end
end Go.Ph
end
section
namespace Go.Ph
open Go Go.RowKit Pl
section
variable {F α : Type} {R R' : Rl F α} {M M' : Mem} {fl : List F} {l : List α} {v : Value} {f : F} {x : α}
theorem RelL.conv (h :∀f x,R.rel M f x->R'.rel M' f x):∀{fl:List F} {l:List α},RelL R M fl l->RelL R' M' fl l
 | [],[],_=>trivial
 | _::_,_::_,k=>⟨h _ _ k.1,RelL.conv h k.2⟩
 | [],_::_,k=>k.elim
 | _::_,[],k=>k.elim
theorem SlR.conv' (hk:R.k=R'.k)(he:R.enc=R'.enc)(h :∀f x,R.rel M f x->R'.rel M' f x)(hl:M.le M')(k:SlR R M v l):SlR R' M' v l:=by
 obtain⟨fl,E,J⟩:=k;exact⟨fl,by rw[<-hk,<-he];exact E.mono hl,J.conv h⟩
def Rl.fx (k:Nat)(enc:F->List Value)(len :∀f,(enc f).length=k)(one :∀f,∀u∈enc f,u.oneCell'=true)(S:F->α->Prop):Rl F α:=⟨k,enc,fun _=>S,len,one,fun _ _ _ h=>h⟩
variable {k : Nat} {enc : F → List Value} {len : ∀ f, (enc f).length = k} {one : ∀ f, ∀ u ∈ enc f, u.oneCell' = true} {S S' : F → α → Prop}
theorem SlR.sub (hs :∀f x,S f x->S' f x)(h:SlR (Rl.fx k enc len one S) M v l)(hl:M.le M'):SlR (Rl.fx k enc len one S') M' v l:=SlR.conv' (R:=Rl.fx k enc len one S) rfl rfl (fun f x h=>hs f x h) hl h
def gfp (body:(F->α->Prop)->Mem->F->α->Prop)(M:Mem)(f:F)(x:α):Prop :=∃S:F->α->Prop,(∀f x,S f x->body S M f x)/\S f x
structure Bdy (body:(F->α->Prop)->Mem->F->α->Prop):Prop where
 mono :∀{S S':F->α->Prop} {M M':Mem},(∀f x,S f x->S' f x)->M.le M'->∀f x,body S M f x->body S' M' f x
variable {body : (F → α → Prop) → Mem → F → α → Prop}
theorem gfp.un (hb:Bdy body)(h:gfp body M f x):body (gfp body M) M f x:=by
 obtain⟨S,E,J⟩:=h;exact hb.mono (fun f x h=>⟨S,E,h⟩) (Mem.le.refl _) _ _ (E _ _ J)
theorem gfp.mk (hb:Bdy body)(h:body (gfp body M) M f x):gfp body M f x:=⟨body (gfp body M) M,fun f x k=>hb.mono (fun _ _ h=>gfp.un hb h) (Mem.le.refl _) _ _ k,h⟩
theorem gfp.mono (hb:Bdy body)(h:gfp body M f x)(hl:M.le M'):gfp body M' f x:=⟨gfp body M,fun _ _ k=>hb.mono (fun _ _ h=>h) hl _ _ (gfp.un hb k),h⟩
theorem SlR.conv (k:SlR R M v l)(h :∀f x,R.rel M f x->R'.rel M f x)(hk:R.k=R'.k:=by rfl)(he:R.enc=R'.enc:=by rfl):SlR R' M v l:=SlR.conv' hk he h (Mem.le.refl _) k
end
end Go.Ph
end
section
namespace Go.Ph
open Go Go.RowKit
namespace Pl
def runB {σ α:Type}(Y:σ->α->Option (σ × Bool)):List α->σ->Option (σ × Bool)
 | [],s=>some (s,true)
 | x::xs,s=>(Y s x).bind fun r=>if r.2=true then runB Y xs r.1 else some (r.1,false)
theorem runB_of {σ α:Type}{Y:σ->α->Option (σ × Bool)}:∀{l:List α} {s s':σ},runL Y l s=some s'->∃b,runB Y l s=some (s',b)
 | [],s,s',h=>⟨true,by rw[runL] at h;rw [runB,oI h]⟩
 | x::xs,s,s',h=>by
   rw[runL] at h;obtain⟨r,E,u⟩:=bnd h;rw[runB,E,bsome];cases hb:r.2 with
   | true=>rw[hb,l01 rfl] at u;rw [l01 rfl];exact runB_of u
   | false=>rw[hb,l00 l03] at u;rw [l00 l03];exact ⟨false,by rw[oI u]⟩
theorem runB_app {σ α:Type}{Y:σ->α->Option (σ × Bool)}{m:List α}{s':σ}{b:Bool}:∀{l:List α} {s:σ},runB Y (l++m) s=some (s',b)->
 ∃E J,runB Y l s=some (E,J)/\((J=true/\runB Y m E=some (s',b))∨(J=false/\s'=E/\b=false))
 | [],s,h=>⟨s,true,rfl, .inl ⟨rfl,h⟩⟩
 | x :: xs,s,h=>by
   rw[l09,runB] at h;obtain⟨r,N,u⟩:=bnd h;rw[runB,N,bsome];cases hb:r.2 with
   | true=>rw[hb,l01 rfl] at u;rw [l01 rfl];exact runB_app u
   | false =>
     rw[hb,l00 l03] at u;rw [l00 l03];have K:=oI u;exact⟨_,_,G, .inr ⟨G,(l02 Prod.fst K).symm,(l02 Prod.snd K).symm⟩⟩
end Pl
open Pl
section
variable {C : Nat → Prop} {r : Option Nat} {P : Program} {ops : Array Oper} {Q : Exit → Act → World → Prop} {n : Nat} {D : List Deferred} {rest : List Oper} {e : Env} {w0 w : World} {M0 M : Mem} {L L' A B : List Item} {d : Nat}
  {x y : Operand} {ty t ts t' : TypeId} {pos : String} {af : Array Edge} {g : Option (Nat × Bool)} {α σ : Type} {Rx : Value → Value → Mem → α → Prop}
theorem feet_in {it:Item}(H:StX C w0 M0 M L w)(hr:Rem L it L')(hA :∀x∈A,x∈L'){g:Nat}(hg:it.foot=some g):¬feet A g:=by
 rintro⟨x,hx,hxg⟩;exact hr.pairs (R:=Apart) (fun x y h=>h.symm) H.sep _ (hA _ hx) g hg hxg
theorem StX.freezeVarI {b:Nat}{cs:Array Value}(H:StX (feet A) w0 M0 M L w)(hr:Rem L (.blk b (.cells cs t)) L')(hA :∀x∈A,x∈L'):∃M',M.le M'/\PtM M' b (.cells cs t)/\StX (feet A) w0 M0 M' L' w:=by
 have hb:=H.blk hr.mem;obtain⟨u,E⟩:=H.freeze hr rfl hb (((H.own _ hr.mem).2 _ rfl).2.resolve_right (feet_in H hr hA rfl));exact⟨_,u,by simp [PtM,Mem.set],E⟩
def AIr : List Item->List Item->Prop
 | [],_=>True
 | .blk b _::r,L=>(∃o',Item.blk b o'∈L)/\AIr r L
 | .row t s v n xs::r,L=>Item.row t s v n xs∈L/\AIr r L
theorem feet_air {it:Item}(H:StX C w0 M0 M L w)(hr:Rem L it L'){g:Nat}(hg:it.foot=some g):∀{A:List Item},AIr A L'->¬feet A g
 | [],_=>by rintro⟨x,hx,_⟩;cases hx
 | .blk b o::r,⟨⟨o',hm⟩,u⟩=>by
   rintro⟨x,hx,hxg⟩;rcases l0k.1 hx with rfl|hx
   . exact hr.pairs (R:=Apart) (fun x y h=>h.symm) H.sep _ hm g hg hxg
   exact feet_air H hr hg u ⟨x,hx,hxg⟩
 | .row t s v n xs::r,⟨hm,u⟩=>by
   rintro⟨x,hx,hxg⟩;rcases l0k.1 hx with rfl|hx
   . exact hr.pairs (R:=Apart) (fun x y h=>h.symm) H.sep _ hm g hg hxg
   exact feet_air H hr hg u ⟨x,hx,hxg⟩
theorem StX.freezeRowR {v:Value}{enc:α->Value}{l:List α}(H:StX (feet A) w0 M0 M L w)(hr:Rem L (RowI t enc v l) L')(hA:AIr A L'):∃M',M.le M'/\Sl M' enc v l/\StX (feet A) w0 M0 M' L' w :=
 H.freezeRowX hr (fun g hg=>feet_air H hr hg hA)
theorem Rem.mid {it:Item}:∀(L:List Item),Rem (L++it::B) it (L++B)
 | [] => .head
 | x::L => .tail (Rem.mid L)
theorem exE_ret {k:Nat}{c:Code}(h:exE [.ret] k=some c):c = .ret:=by
 unfold exE at h;split at h
 . cases h
 rw[<-oI h];rcases k with _|_|k
 . rfl
 . rfl
 rfl
theorem WR.yield2r {l:Nat}{R:Ending->World->Prop}{v u:Value}{y z:Operand}{tys:Array TypeId}(hY:YieldAt (Wd none) 0 P l #[v,u] w R)(hx:ev e x=some (yv l))(hy:ev e y=some v)(hu:ev e z=some u)
 (hw:Wn ops n D e ⟨some d, .call ⟨.value x,#[y,z],tys⟩,ty,pos,af,g⟩) (hn:Nat.blt d n=true)
 (k :∀en w',R en w'->∃b,en = .returned (.bool b)/\WR r P ops Q n D rest ((d, .bool b)::e) w') :
 WR r P ops Q n D (⟨some d, .call ⟨.value x,#[y,z],tys⟩,ty,pos,af,g⟩::rest) e w:=by
 intro a hsat;unfold wpListIn;rw[l01 (hw a hsat)];refine⟨fun _ _=>trivial,?_⟩;rw[Oper.semAt_eq _ _ _ (fun c h=>by cases h)];obtain⟨fn,tmps,assign,body,hyr,hR⟩:=hY;have E:=hsat.fits _ _ hx;have J:=hsat.fits _ _ hy;have K:=hsat.fits _ _ hu;have hrun:(execOp a.eval ⟨some d, .call ⟨.value x,#[y,z],tys⟩,ty,pos,af,g⟩).run P w = .ok (.round l fn tmps assign body) w:=by
  simp only[execOp,resolve,E,Deferred.ofValue,Sem.run_bind,Sem.run_pure,Result.andThen_ok,invoke,l0J,l0p,l1d,J,K,l1h,hyr]
 rw[hrun,Oper.uponIn_round];refine⟨fun h=>(by cases h),?_⟩;have hR':RoundIn (Wd r) (0-1) P l fn tmps assign body w R:=hR;refine hR'.mono ?_;intro en w' hr;obtain⟨b,rfl,hk⟩:=k en w' hr;exact hk _ (hsat.put (l0h hn) _)
theorem WR.yieldWr {l:Nat}{Y:σ->α->Option (σ × Bool)}{Z:σ->List Item->Mem->Prop}{s s':σ}{b:Bool}{xv:α}{y z:Operand}{tys:Array TypeId}{v u:Value}{Lc:List Item}(H:StX C w0 M0 M L w)(hspl:Spl L Lc B)
 (hY :∀s x s' b v u L w M,Y s x=some (s',b)->Z s L M->Rx v u M x->StX (feet L) w M M L w->YieldAt (Wd none) 0 P l #[v,u] w fun e w' =>∃M' L',StX (feet L) w M M' L' w'/\e = .returned (.bool b)/\Z s' L' M')
 (hz:ZH Z s Lc M) (hy:Y s xv=some (s',b)) (hx:ev e x=some (yv l)) (hv:ev e y=some v) (hu:ev e z=some u) (hr:Rx v u M xv)
 (hw:Wn ops n D e ⟨some d, .call ⟨.value x,#[y,z],tys⟩,ty,pos,af,g⟩) (hn:Nat.blt d n=true)
 (k :∀w M' Lc',StX C w0 M0 M' (B++Lc') w->M.le M'->ZH Z s' Lc' M'->WR r P ops Q n D rest ((d, .bool b)::e) w) :
 WR r P ops Q n D (⟨some d, .call ⟨.value x,#[y,z],tys⟩,ty,pos,af,g⟩::rest) e w :=
 WR.yield2r (hY _ _ _ _ _ _ _ _ _ hy hz.z hr (H.hand hspl)) hx hv hu hw hn (fun en w' ⟨M',L',E,he,hz'⟩=>⟨b,he,k _ _ _ ((H.back hspl E).perm l2U) E.ext.le ⟨hz',hz.m⟩⟩)
theorem ItW.ofF {f:FuncId}{fn:Func}{c:Code}{cap:List Value}{Pre:Mem->Prop}{run:(σ:Type)->(σ->α->Option (σ × Bool))->σ->Option σ}
 (hf:P.funcs[f]? = some fn) (hen :∀ar w,(callFunc f ar).run P w = .ok (.enter f ar) w) (hb:fn.body=some c) (hnt:fn.ntmps=n) (hn:Nat.ble (cap.length+1) n=true)
 (h :∀(l:Nat) (σ:Type) (Y:σ->α->Option (σ × Bool)) (Z:σ->List Item->Mem->Prop),
  (∀s x s' b v u L w M,Y s x=some (s',b)->Z s L M->Rx v u M x->StX (feet L) w M M L w->YieldAt (Wd none) 0 P l #[v,u] w fun e w' =>∃M' L',StX (feet L) w M M' L' w'/\e = .returned (.bool b)/\Z s' L' M')->
  ∀s s' L w M,run σ Y s=some s'->ZH Z s L M->StX (feet L) w M M L w->Pre M->WC none P (bodyPost P fn (RetZ (feet L) Z s' w M)) n [] c (envOf 0 (yv l::cap)) w):ItW P f cap [] Pre Rx run :=
 ⟨hen,fun l σ Y Z hZ hY s s' L w M hrun hz H hp=>calls_of_WC (args:=yv l::cap) hf hb hnt hn (h l σ Y Z hY s s' L w M hrun ⟨hz,hZ⟩ H hp)⟩
theorem ItW.ofM {f:FuncId}{fn:Func}{c:Code}{cap:List Value}{Pre:Mem->Prop}{run:(σ:Type)->(σ->α->Option (σ × Bool))->σ->Option σ}
 (hf:P.funcs[f]? = some fn) (hen :∀ar w,(callFunc f ar).run P w = .ok (.enter f ar) w) (hb:fn.body=some c) (hnt:fn.ntmps=n) (hn:Nat.ble (cap.length+1) n=true)
 (h :∀(l:Nat) (σ:Type) (Y:σ->α->Option (σ × Bool)) (Z:σ->List Item->Mem->Prop),
  (∀s x s' b v u L w M,Y s x=some (s',b)->Z s L M->Rx v u M x->StX (feet L) w M M L w->YieldAt (Wd none) 0 P l #[v,u] w fun e w' =>∃M' L',StX (feet L) w M M' L' w'/\e = .returned (.bool b)/\Z s' L' M')->
  ∀s s' L w M,run σ Y s=some s'->ZH Z s L M->StX (feet L) w M M L w->Pre M->WC none P (bodyPostM (Wd none) 0 P fn (RetZ (feet L) Z s' w M)) n [] c (envOf 0 (yv l::cap)) w):ItW P f cap [] Pre Rx run :=
 ⟨hen,fun l σ Y Z hZ hY s s' L w M hrun hz H hp=>calls_of_WCM (args:=yv l::cap) hf hb hnt hn (h l σ Y Z hY s s' L w M hrun ⟨hz,hZ⟩ H hp)⟩
theorem WQ.endMZ {fn:Func}{Z:σ->List Item->Mem->Prop}{s s':σ}{Dm:Nat}{Lc:List Item}(hr:fn.results = #[])(H:StX C w0 M0 M L w)(hrm:Rem L (.blk Dm (.deferred (some []))) L')(hs:Lc.Sublist L')(hz:ZH Z s Lc M)(he:s=s'):
 WQ (bodyPostM (Wd none) 0 P fn (RetZ C Z s' w0 M0)) .normal n [mark Dm] e w:=fun a ha =>
 WQ.retM1 (e:=e) (R:=RetZ C Z s' w0 M0) H hrm (fun w' H'=>⟨.tuple #[],fun a _=>by simp [results,hr], .tuple #[],M,Lc,rfl,H'.drop hs,he ▸ hz.z⟩) a ha
theorem WQ.retMZ {fn:Func}{Z:σ->List Item->Mem->Prop}{s s':σ}{Dm:Nat}{Lc:List Item}(hr:fn.results = #[])(H:StX C w0 M0 M L w)(hrm:Rem L (.blk Dm (.deferred (some []))) L')(hs:Lc.Sublist L')(hz:ZH Z s Lc M)(he:s=s'):
 WQ (bodyPostM (Wd none) 0 P fn (RetZ C Z s' w0 M0)) .ret n [mark Dm] e w :=
 WQ.retM1 (e:=e) (R:=RetZ C Z s' w0 M0) H hrm (fun w' H'=>⟨.tuple #[],fun a _=>by simp [results,hr], .tuple #[],M,Lc,rfl,H'.drop hs,he ▸ hz.z⟩)
end
end Go.Ph
end
section
namespace Go.Ph.Pl
def andI (a b:Int):Option Int:=if 0<=a/\a<9223372036854775808/\0<=b/\b<9223372036854775808 then some ((a.toNat &&& b.toNat:Nat):Int) else none
def orI (a b:Int):Option Int:=if 0<=a/\a<9223372036854775808/\0<=b/\b<9223372036854775808 then some ((a.toNat ||| b.toNat:Nat):Int) else none
def shlI (a b:Int):Option Int:=if 0<=a/\0<=b/\b<63/\a*2 ^ b.toNat<9223372036854775808 then some (a*2 ^ b.toNat) else none
def shrI (a b:Int):Option Int:=if 0<=a/\0<=b/\b<63 then some (Int.fdiv a (2 ^ b.toNat)) else none
end Go.Ph.Pl
end
section
namespace Go.Ph
open Go Go.RowKit Pl
section
variable {C : Nat → Prop} {P : Program} {e : Env} {w : World} {x y : Operand} {ty t t' : TypeId} {pos : String} {af : Array Edge} {g : Option (Nat × Bool)} {dst : Option Tmp} {a b r : Int}
theorem Ex.andI (u:ev e x=some (I a))(E:ev e y=some (I b))(h:Pl.andI a b=some r):Ex P ⟨dst, .binOp .and t x y t',ty,pos,af,g⟩ e w (I r) w:=by
 unfold Pl.andI at h;split at h
 . cases h;obtain⟨m,rfl⟩:=l0W (a:=a) Om;obtain⟨s,rfl⟩:=l0W (a:=b) Om;exact Ex.andN u E Om Om
 cases h
theorem Ex.orI (u:ev e x=some (I a))(E:ev e y=some (I b))(h:Pl.orI a b=some r):Ex P ⟨dst, .binOp .or t x y t',ty,pos,af,g⟩ e w (I r) w:=by
 unfold Pl.orI at h;split at h
 . cases h;obtain⟨m,rfl⟩:=l0W (a:=a) Om;obtain⟨s,rfl⟩:=l0W (a:=b) Om;exact Ex.orN u E Om Om
 cases h
theorem Ex.shlI {k':IntKind}(u:ev e x=some (I a))(E:ev e y=some (.int k' b))(h:Pl.shlI a b=some r):Ex P ⟨dst, .binOp .shl t x y t',ty,pos,af,g⟩ e w (I r) w:=by
 unfold Pl.shlI at h;split at h
 . rename_i hb;cases h;have J:(0:Int)<=a*2 ^ b.toNat:=Int.mul_nonneg hb.1 (Int.pow_nonneg Dc);have:=Ex.shl (P:=P) (w:=w) (dst:=dst) (ty:=ty) (t:=t) (t':=t') (pos:=pos) (af:=af) (g:=g) u E hb.2.1;rw[l2v (by show b.toNat<=64;omega),i64_in ⟨by omega,by omega⟩] at this;exact this
 cases h
theorem Ex.shrI {k':IntKind}(u:ev e x=some (I a))(E:ev e y=some (.int k' b))(h:Pl.shrI a b=some r):Ex P ⟨dst, .binOp .shr t x y t',ty,pos,af,g⟩ e w (I r) w:=by
 unfold Pl.shrI at h;split at h
 . rename_i hb;cases h;have:=Ex.shr (P:=P) (w:=w) (dst:=dst) (ty:=ty) (t:=t) (t':=t') (pos:=pos) (af:=af) (g:=g) u E hb.2.1;rw[l2v (by show b.toNat<=64;omega)] at this;exact this
 cases h
end
end Go.Ph
end
section
namespace Go.Ph.Gr
open Go Go.Ph.Utf
structure RP (l:Ls)(i q:Nat)(o:List Ls)(fl:Nat):Prop where
 place:q<=l.length
 rest:(chars l).drop i=chars (l.drop q)
 small:i<=q/\o.length<=i/\fl<=i
 len:o.flatten.length=q
 state:(i=0/\o=[])∨(0<i/\∃done cur prev,((chars l)[i-1]?).map (·.1)=some prev/\o=done.map byts++[byts cur]/\segs (chars l)=done++seg cur prev fl (chars (l.drop q)))
theorem RP.start (l:Ls):RP l 0 0 [] 0:=⟨l0x _,rfl,by simp,rfl, .inl ⟨rfl,rfl⟩⟩
section
variable {l : List UInt8} {i q fl : Nat} {o : List (List UInt8)}
theorem RP.more (h:RP l i q o fl)(hi:i<(chars l).length):q<l.length/\(chars l)[i]? = some ((rune (l.drop q)).1,(l.drop q).take (rune (l.drop q)).2)/\(chars l).drop (i+1)=chars (l.drop (q+(rune (l.drop q)).2)):=by
 have hq:q<l.length:=by
  rcases l1r q l.length with u|u
  . exact u
  have E:=h.rest;rw[l0l u,chars_nil] at E;have:=l1W.1 E;omega
 have hc:=chars_cons (drop_ne hq);have J:=h.rest;rw[hc,l0r hi] at J;have K:=List.cons.inj J;refine⟨hq,by rw[l06 hi,K.1],?_⟩;rw[K.2,l0V]
theorem RP.news (h:RP l i q o fl)(hi:i<(chars l).length)(hc:i=0∨∃a,0<i/\((chars l)[i-1]?).map (·.1)=some a/\con a (rune (l.drop q)).1 fl=false):
 RP l (i+1) (q+(rune (l.drop q)).2) (o++[(l.drop q).take (rune (l.drop q)).2]) (flN (rune (l.drop q)).1 0):=by
 obtain⟨hq,hget,hdrop⟩:=h.more hi;have hrs:=rune_size (l.drop q);have u:=hrs.2.2 (drop_ne hq);rw[l08] at u;have hsm:=h.small;have hone:byts [((rune (l.drop q)).1,(l.drop q).take (rune (l.drop q)).2)]=(l.drop q).take (rune (l.drop q)).2:=by simp [byts]
 refine⟨by omega,hdrop,⟨by omega,by simp;omega,by unfold flN;split <;> omega⟩,by have hlen:=h.len;simp [l0j,l08] at hlen ⊢;omega, .inr ⟨by omega,?_⟩⟩;rcases h.state with ⟨E,ho⟩|⟨K,done,cur,prev,hp,ho,hs⟩
 . subst E;refine⟨[],[((rune (l.drop q)).1,(l.drop q).take (rune (l.drop q)).2)],(rune (l.drop q)).1,by rw[l3e,hget];rfl,by rw[ho,hone];rfl,?_⟩;have J:=h.rest;rw[l0E] at J;rw[J,chars_cons (drop_ne hq),segs,l0V];rfl
 rcases hc with E|⟨a,_,ha,hcf⟩
 . omega
 rw[ha] at hp;obtain rfl:a=prev:=oI hp;refine⟨done++[cur],[((rune (l.drop q)).1,(l.drop q).take (rune (l.drop q)).2)],(rune (l.drop q)).1,by rw[l3e,hget];rfl,by rw[ho,hone];simp,?_⟩;rw[hs,chars_cons (drop_ne hq),seg];simp only[hcf,l0y,if_false,l0V,l0s,l09,l07]
end
end Go.Ph.Gr
end
section
namespace Go.Proofs.YtkgohbecojnfaaaGreatDoor
open Go Go.RowKit Go.Ph
open Go.Ph.Gr Go.Ph.Utf
end Go.Proofs.YtkgohbecojnfaaaGreatDoor
end
section
namespace Go.Proofs.YtkgohbecojnfaaaGreatDoor
open Go Go.RowKit Go.Ph
open Go.Ph.Gr Go.Ph.Utf Go.Ph.Chs
theorem low_next {l:Ls}{k:Nat}{u:UInt8}(h:l[k]? = some u):lower (l.take (k+1))++l.drop (k+1)=lower (l.take k)++lowB u::l.drop (k+1):=by
 obtain⟨hk,hu⟩:=l0c.1 h;rw[l0K hk,hu];simp [lower]
theorem low_step {l:Ls}{k:Nat}{u:UInt8}(h:l[k]? = some u):(lower (l.take k)++l.drop k).set k (lowB u)=lower (l.take (k+1))++l.drop (k+1):=by
 obtain⟨hk,hu⟩:=l0c.1 h;have hl:(lower (l.take k)).length=k:=by rw[lower_len,l0j];omega
 rw[low_next h,l1G _ _ Om,hl,l1D,l0r hk];rfl
def same (name x:Ls):Bool:=decide (lower x=lower name)
end Go.Proofs.YtkgohbecojnfaaaGreatDoor
end
section
namespace Go.Ph
open Go Go.RowKit
section
variable {P : Program} {e : Env} {w : World} {x : Operand} {v : Value} {dst : Option Tmp} {ty t : TypeId} {pos : String} {af : Array Edge} {g : Option (Nat × Bool)}
theorem Ex.loadCell {p:Addr}(hx:ev e x=some (.pointer (some p)))(hc:w.cell? p=some v)(ha :∀w,(isAgg t).run P w = .ok false w):Ex P ⟨dst, .load t x,ty,pos,af,g⟩ e w v w:=Ex.loadK hx (by
 simp only[loadVar,Sem.run_bind,ha,Result.andThen_ok,l0y,if_false];simp [load,Sem.run,hc])
theorem Ex.loadAggW {b o s:Nat}{cs:List Value}(hx:ev e x=some (ptr b o))(hc :∀j u,cs[j]? = some u->w.cell? ⟨b,o+j,none⟩=some u)(ha :∀w,(isAgg t).run P w = .ok true w)(hs :∀w,(sizeOf t).run P w = .ok s w)(hl:cs.length=s):Ex P ⟨dst, .load t x,ty,pos,af,g⟩ e w (.agg cs.toArray) w:=Ex.loadK hx (by
 subst hl;have hlc:(loadCells ⟨b,o,none⟩ cs.length).run P w = .ok cs.toArray w :=
  run_loadCells_list (P:=P) w ⟨b,o,none⟩ cs (fun j v hv=>by rw[Addr.add_lit];exact hc j v hv)
 simp only[loadVar,Sem.run_bind,ha,Result.andThen_ok,if_true,hs,hlc,Sem.run_pure])
end
end Go.Ph
namespace Go.Ph.Chs
open Go Go.Ph.Utf Go.Ph.Gr
theorem and64 {m s:Nat}(hm:m<2 ^ 64):IntKind.u64.wrap ((m &&& s:Nat):Int)=((m &&& s:Nat):Int):=by
 have h:m &&& s<=m:=Nat.and_le_left;exact u64_in Om
theorem or64 {m s:Nat}(hm:m<2 ^ 64)(hs:s<2 ^ 64):IntKind.u64.wrap ((m ||| s:Nat):Int)=((m ||| s:Nat):Int):=by
 have h:=l0B hm hs;exact u64_in Om
theorem shl64 {b k:Nat}(hb:b<256)(hk:k<=56):b <<< k<2 ^ 64/\IntKind.u64.wrap ((b*2 ^ k:Nat):Int)=((b <<< k:Nat):Int):=by
 have u:2 ^ k<=2 ^ 56:=l1I Dc hk;have E:b*2 ^ k<2 ^ 64:=Nat.lt_of_le_of_lt (l3A (show b<=255 by omega) u) Dc;rw[Nat.shiftLeft_eq];exact⟨E,u64_in Om⟩
def FF (c:Nat):Prop :=∃sz ai lo hi,Lib.firstT c<256/\Lib.firstT c &&& 7=sz/\Lib.firstT c / 2 ^ 4=ai/\ai<16/\Lib.accLo ai=lo/\Lib.accHi ai=hi/\lo<256/\hi<256/\(sz=1∨sz=2∨sz=3∨sz=4)/\
 (sz=1->¬(194<=c/\c<=244))/\(sz=2->194<=c/\c<=223/\lo=128/\hi=191)/\(sz=3->224<=c/\c<=239/\lo=(if c=224 then 160 else 128)/\hi=(if c=237 then 159 else 191))/\(sz=4->240<=c/\c<=244/\lo=(if c=240 then 144 else 128)/\hi=(if c=244 then 143 else 191))
theorem first_facts (c:Nat)(h:128<=c)(h2:c<256):FF c:=by
 have key :∀F sz ai lo hi:Nat,Lib.firstT c=F->F<256->F &&& 7=sz->F / 2 ^ 4=ai->ai<16->Lib.accLo ai=lo->Lib.accHi ai=hi->lo<256->hi<256->(sz=1∨sz=2∨sz=3∨sz=4)->
  (sz=1->¬(194<=c/\c<=244))->(sz=2->194<=c/\c<=223/\lo=128/\hi=191)->(sz=3->224<=c/\c<=239/\lo=(if c=224 then 160 else 128)/\hi=(if c=237 then 159 else 191))->(sz=4->240<=c/\c<=244/\lo=(if c=240 then 144 else 128)/\hi=(if c=244 then 143 else 191))->FF c :=
  fun F sz ai lo hi V e2 e3 e4 e5 e6 e7 e8 e9 ea eb ec ed ee=>⟨sz,ai,lo,hi,by rw[V];exact e2,by rw[V];exact e3,by rw[V];exact e4,e5,e6,e7,e8,e9,ea,eb,ec,ed,ee⟩
 have hF:Lib.firstT c=if c<194 then 241 else if c<224 then 2 else if c=224 then 19 else if c<237 then 3 else if c=237 then 35 else if c<240 then 3 else if c=240 then 52 else if c<244 then 4 else if c=244 then 68 else 241:=by
  unfold Lib.firstT;rw [l00 Om]
 by_cases E:c<194
 . exact key 241 1 15 0 0 (by rw[hF,l01 E]) Dc Dc Dc Dc Dc Dc Dc Dc Dc (fun _=>by omega) (fun h=>by omega) (fun h=>by omega) (fun h=>by omega)
 by_cases J:c<224
 . exact key 2 2 0 128 191 (by rw[hF,l00 E,l01 J]) Dc Dc Dc Dc Dc Dc Dc Dc Dc (fun h=>by omega) (fun h=>⟨by omega,by omega,G,G⟩) (fun h=>by omega) (fun h=>by omega)
 by_cases u:c=224
 . exact key 19 3 1 160 191 (by rw[hF,l00 E,l00 J,l01 u]) Dc Dc Dc Dc Dc Dc Dc Dc Dc (fun h=>by omega) (fun h=>by omega) (fun h=>⟨by omega,by omega,by rw[l01 u],by rw[l00 Om]⟩) (fun h=>by omega)
 by_cases N:c<237
 . exact key 3 3 0 128 191 (by rw[hF,l00 E,l00 J,l00 u,l01 N]) Dc Dc Dc Dc Dc Dc Dc Dc Dc (fun h=>by omega) (fun h=>by omega) (fun h=>⟨by omega,by omega,by rw[l00 u],by rw[l00 Om]⟩) (fun h=>by omega)
 by_cases K:c=237
 . exact key 35 3 2 128 159 (by rw[hF,l00 E,l00 J,l00 u,l00 N,l01 K]) Dc Dc Dc Dc Dc Dc Dc Dc Dc (fun h=>by omega) (fun h=>by omega) (fun h=>⟨by omega,by omega,by rw[l00 u],by rw[l01 K]⟩) (fun h=>by omega)
 by_cases U:c<240
 . exact key 3 3 0 128 191 (by rw[hF,l00 E,l00 J,l00 u,l00 N,l00 K,l01 U]) Dc Dc Dc Dc Dc Dc Dc Dc Dc (fun h=>by omega) (fun h=>by omega) (fun h=>⟨by omega,by omega,by rw[l00 u],by rw[l00 K]⟩) (fun h=>by omega)
 by_cases O:c=240
 . exact key 52 4 3 144 191 (by rw[hF,l00 E,l00 J,l00 u,l00 N,l00 K,l00 U,l01 O]) Dc Dc Dc Dc Dc Dc Dc Dc Dc (fun h=>by omega) (fun h=>by omega) (fun h=>by omega) (fun h=>⟨by omega,by omega,by rw[l01 O],by rw[l00 Om]⟩)
 by_cases Y:c<244
 . exact key 4 4 0 128 191 (by rw[hF,l00 E,l00 J,l00 u,l00 N,l00 K,l00 U,l00 O,l01 Y]) Dc Dc Dc Dc Dc Dc Dc Dc Dc (fun h=>by omega) (fun h=>by omega) (fun h=>by omega) (fun h=>⟨by omega,by omega,by rw[l00 O],by rw[l00 Om]⟩)
 by_cases Z:c=244
 . exact key 68 4 4 128 143 (by rw[hF,l00 E,l00 J,l00 u,l00 N,l00 K,l00 U,l00 O,l00 Y,l01 Z]) Dc Dc Dc Dc Dc Dc Dc Dc Dc (fun h=>by omega) (fun h=>by omega) (fun h=>by omega) (fun h=>⟨by omega,by omega,by rw[l00 O],by rw[l01 Z]⟩)
 exact key 241 1 15 0 0 (by rw[hF,l00 E,l00 J,l00 u,l00 N,l00 K,l00 U,l00 O,l00 Y,l00 Z]) Dc Dc Dc Dc Dc Dc Dc Dc Dc (fun _=>by omega) (fun h=>by omega) (fun h=>by omega) (fun h=>by omega)
theorem runeN_else {m u E J K:Nat}(h:128<=u)(N :¬(192<=u/\u<=247)):runeN m u E J K=(-1,1):=by
 unfold runeN;rw[l00 Om,l00 Om,l00 Om,l00 Om]
theorem multi1 {t:Ls}(h:128<=nat t 0)(N :¬(194<=nat t 0/\nat t 0<=244)):(rune t).1<0:=by
 rw[rune_eq];have O:=nat_lt t 1;by_cases u:192<=nat t 0/\nat t 0<=247
 . unfold runeN;rw[l00 Om];by_cases U:nat t 0<=223
   . rw[l01 Om];split
     . rename_i hc;have ho:=hc.2;unfold okC at ho;rw[chk,l01 (by unfold badN;omega)];decide
     decide
   rw[l00 Om,l00 Om,l01 Om];split
   . rename_i hc;obtain⟨_,E,J,K⟩:=hc;unfold okC at E J K;rw[chk,l01 (by unfold badN;omega)];decide
   decide
 rw[runeN_else h u];decide
theorem multi2 {t:Ls}(h:194<=nat t 0/\nat t 0<=223):(2<=t.length/\128<=nat t 1/\nat t 1<=191->0<=(rune t).1/\(rune t).2=2)/\(¬(2<=t.length/\128<=nat t 1/\nat t 1<=191)->(rune t).1<0):=by
 rw[rune_eq];unfold runeN;rw[l00 Om,l01 Om];constructor
 . intro hc;rw[l01 ⟨hc.1,by unfold okC;omega⟩,chk,l00 (by unfold badN;omega)];exact⟨by simp only[];omega,G⟩
 intro hc;rw[l00 (by unfold okC;omega)];decide
theorem multi3 {t:Ls}{lo hi:Nat}(h:224<=nat t 0/\nat t 0<=239)(hlo:lo=if nat t 0=224 then 160 else 128)(hhi:hi=if nat t 0=237 then 159 else 191):
 (3<=t.length/\lo<=nat t 1/\nat t 1<=hi/\128<=nat t 2/\nat t 2<=191->0<=(rune t).1/\(rune t).2=3)/\(¬(3<=t.length/\lo<=nat t 1/\nat t 1<=hi/\128<=nat t 2/\nat t 2<=191)->(rune t).1<0):=by
 rw[rune_eq];unfold runeN;rw[l00 Om,l00 Om,l01 Om];have hl:lo=160/\nat t 0=224∨lo=128/\nat t 0≠224:=by split at hlo <;> omega
 have hh:hi=159/\nat t 0=237∨hi=191/\nat t 0≠237:=by split at hhi <;> omega
 constructor
 . intro hc;rw[l01 ⟨hc.1,by unfold okC;omega,by unfold okC;omega⟩,chk,l00 (by unfold badN;omega)];exact⟨by simp only[];omega,G⟩
 intro hc;split
 . rename_i hd;obtain⟨J,u,E⟩:=hd;unfold okC at u E;rw[chk,l01 (by unfold badN;omega)];decide
 decide
theorem multi4 {t:Ls}{lo hi:Nat}(h:240<=nat t 0/\nat t 0<=244)(hlo:lo=if nat t 0=240 then 144 else 128)(hhi:hi=if nat t 0=244 then 143 else 191):
 (4<=t.length/\lo<=nat t 1/\nat t 1<=hi/\(128<=nat t 2/\nat t 2<=191)/\(128<=nat t 3/\nat t 3<=191)->0<=(rune t).1/\(rune t).2=4)/\(¬(4<=t.length/\lo<=nat t 1/\nat t 1<=hi/\(128<=nat t 2/\nat t 2<=191)/\(128<=nat t 3/\nat t 3<=191))->(rune t).1<0):=by
 rw[rune_eq];unfold runeN;rw[l00 Om,l00 Om,l00 Om,l01 Om];have hl:lo=144/\nat t 0=240∨lo=128/\nat t 0≠240:=by split at hlo <;> omega
 have hh:hi=143/\nat t 0=244∨hi=191/\nat t 0≠244:=by split at hhi <;> omega
 constructor
 . intro hc;rw[l01 ⟨hc.1,by unfold okC;omega,by unfold okC;omega,by unfold okC;omega⟩,chk,l00 (by unfold badN;omega)];exact⟨by simp only[];omega,G⟩
 intro hc;split
 . rename_i hd;obtain⟨K,u,E,J⟩:=hd;unfold okC at u E J;rw[chk,l01 (by unfold badN;omega)];decide
 decide
theorem vld_32 {x:Ls}(hx:32<=x.length)(K :∀i,i<8->nat x i<128)(N :∀i,i<8->nat (x.drop 8) i<128)(O :∀i,i<8->nat (x.drop 16) i<128)(U :∀i,i<8->nat (x.drop 24) i<128):vld x=vld (x.drop 32):=by
 have V:=vld_asciis 8 x Om K;have u:=vld_asciis 8 (x.drop 8) Ox N;have E:=vld_asciis 8 (x.drop 16) Ox O;have J:=vld_asciis 8 (x.drop 24) Ox U;rw[l0V] at u E J;exact(V.trans u).trans (E.trans J)
theorem vld_bad {t:Ls}(hne:t≠ [])(h:(rune t).1<0):vld t=false:=by rw[vld_cons hne,l0g Om,Bool.false_and]
theorem vld_good {t:Ls}{k:Nat}(hne:t≠ [])(h:0<=(rune t).1/\(rune t).2=k):vld t=vld (t.drop k):=by rw[vld_cons hne,l0f h.1,l2d,h.2]
end Go.Ph.Chs
end
section
namespace Go.Proofs.YtkgohbecojnfaaaGreatDoor
open Go Go.RowKit Go.Ph
open Go.Ph.Gr Go.Ph.Utf Go.Ph.Chs
theorem word_spec (l:Ls)(hl:8<=l.length):Ct Tryz.prog 167 [S l] (fun _=>True) (fun r _=>r = .int .u64 ((w8 l:Nat):Int)):=by
 refine Ct.of Tryz.func167 (enters Tryz.func167 Kr G) G G G ?_;intro w0 M0 H hp;obtain⟨J,ad⟩ :∃u,l[0]? = some u:=⟨_,l06 Om⟩
 have bc:=J.toNat_lt;have aw:=nat_of ad;obtain⟨E,ae⟩ :∃u,l[1]? = some u:=⟨_,l06 Om⟩
 have an:=E.toNat_lt;have ax:=nat_of ae;obtain⟨K,ah⟩ :∃u,l[2]? = some u:=⟨_,l06 Om⟩
 have ao:=K.toNat_lt;have ay:=nat_of ah;obtain⟨N,ai⟩ :∃u,l[3]? = some u:=⟨_,l06 Om⟩
 have ap:=N.toNat_lt;have az:=nat_of ai;obtain⟨O,aj⟩ :∃u,l[4]? = some u:=⟨_,l06 Om⟩
 have aq:=O.toNat_lt;have b8:=nat_of aj;obtain⟨U,ak⟩ :∃u,l[5]? = some u:=⟨_,l06 Om⟩
 have ar:=U.toNat_lt;have b9:=nat_of ak;obtain⟨V,al⟩ :∃u,l[6]? = some u:=⟨_,l06 Om⟩
 have au:=V.toNat_lt;have ba:=nat_of al;obtain⟨Y,am⟩ :∃u,l[7]? = some u:=⟨_,l06 Om⟩
 have av:=Y.toNat_lt;have bb:=nat_of am;have a6:J.toNat<2 ^ 64:=by omega
 have Z:=shl64 (b:=E.toNat) (k:=8) an Dc;have a7:J.toNat ||| E.toNat <<< 8<2 ^ 64:=l0B a6 Z.1;have a0:=shl64 (b:=K.toNat) (k:=16) ao Dc;have a8:J.toNat ||| E.toNat <<< 8 ||| K.toNat <<< 16<2 ^ 64:=l0B a7 a0.1;have a1:=shl64 (b:=N.toNat) (k:=24) ap Dc;have a9:J.toNat ||| E.toNat <<< 8 ||| K.toNat <<< 16 ||| N.toNat <<< 24<2 ^ 64:=l0B a8 a1.1;have a2:=shl64 (b:=O.toNat) (k:=32) aq Dc;have aa:J.toNat ||| E.toNat <<< 8 ||| K.toNat <<< 16 ||| N.toNat <<< 24 ||| O.toNat <<< 32<2 ^ 64:=l0B a9 a2.1;have a3:=shl64 (b:=U.toNat) (k:=40) ar Dc;have ab:J.toNat ||| E.toNat <<< 8 ||| K.toNat <<< 16 ||| N.toNat <<< 24 ||| O.toNat <<< 32 ||| U.toNat <<< 40<2 ^ 64:=l0B aa a3.1;have a4:=shl64 (b:=V.toNat) (k:=48) au Dc;have ac:J.toNat ||| E.toNat <<< 8 ||| K.toNat <<< 16 ||| N.toNat <<< 24 ||| O.toNat <<< 32 ||| U.toNat <<< 40 ||| V.toNat <<< 48<2 ^ 64:=l0B ab a4.1;have a5:=shl64 (b:=Y.toNat) (k:=56) av Dc;have bd:J.toNat ||| E.toNat <<< 8 ||| K.toNat <<< 16 ||| N.toNat <<< 24 ||| O.toNat <<< 32 ||| U.toNat <<< 40 ||| V.toNat <<< 48 ||| Y.toNat <<< 56<2 ^ 64:=l0B ac a5.1;refine SR (AQ G G (CF G (KQ (q0v (m:=39) G G H ?_))));intro w H;refine TK 0 G (fun _=>q06 G) G (TK 1 G (fun _=>q0K Tu9 G G (ad)) G (TK 2 G (fun _=>q1C Tu5 Tu33 G Om) G ?_));refine TK 3 G (fun _=>q06 G) G (TK 4 G (fun _=>q0K Tu9 G G (ae)) G (TK 5 G (fun _=>q1C Tu5 Tu33 G Om) G ?_));refine q1c (v' := .int .u64 ((E.toNat <<< 8:Nat):Int)) (i:=6) G Kr Kr Kr (fun _=>Ex.shlK (m:=E.toNat) (s:=8) G G Dc) (l02 (Value.int .u64) Z.2) (q00 G) G G (fun _ _=>G) (q1c (v' := .int .u64 ((J.toNat ||| E.toNat <<< 8:Nat):Int)) (i:=7) G Kr Kr Kr (fun _=>Ex.orK (m:=(J.toNat)) (s:=(E.toNat <<< 8)) G G a6 Z.1) (l02 (Value.int .u64) (or64 a6 Z.1)) (q00 G) G G (fun _ _=>G) (TK 8 G (fun _=>q06 G) G (TK 9 G (fun _=>q0K Tu9 G G (ah)) G (TK 10 G (fun _=>q1C Tu5 Tu33 G Om) G ?_))))
 refine q1c (v' := .int .u64 ((K.toNat <<< 16:Nat):Int)) (i:=11) G Kr Kr Kr (fun _=>Ex.shlK (m:=K.toNat) (s:=16) G G Dc) (l02 (Value.int .u64) a0.2) (q00 G) G G (fun _ _=>G) (q1c (v' := .int .u64 ((J.toNat ||| E.toNat <<< 8 ||| K.toNat <<< 16:Nat):Int)) (i:=12) G Kr Kr Kr (fun _=>Ex.orK (m:=(J.toNat ||| E.toNat <<< 8)) (s:=(K.toNat <<< 16)) G G a7 a0.1) (l02 (Value.int .u64) (or64 a7 a0.1)) (q00 G) G G (fun _ _=>G) (TK 13 G (fun _=>q06 G) G (TK 14 G (fun _=>q0K Tu9 G G (ai)) G (TK 15 G (fun _=>q1C Tu5 Tu33 G Om) G ?_))));refine q1c (v' := .int .u64 ((N.toNat <<< 24:Nat):Int)) (i:=16) G Kr Kr Kr (fun _=>Ex.shlK (m:=N.toNat) (s:=24) G G Dc) (l02 (Value.int .u64) a1.2) (q00 G) G G (fun _ _=>G) (q1c (v' := .int .u64 ((J.toNat ||| E.toNat <<< 8 ||| K.toNat <<< 16 ||| N.toNat <<< 24:Nat):Int)) (i:=17) G Kr Kr Kr (fun _=>Ex.orK (m:=(J.toNat ||| E.toNat <<< 8 ||| K.toNat <<< 16)) (s:=(N.toNat <<< 24)) G G a8 a1.1) (l02 (Value.int .u64) (or64 a8 a1.1)) (q00 G) G G (fun _ _=>G) (TK 18 G (fun _=>q06 G) G (TK 19 G (fun _=>q0K Tu9 G G (aj)) G ?_)));refine TK 20 G (fun _=>q1C Tu5 Tu33 G Om) G ?_;refine q1c (v' := .int .u64 ((O.toNat <<< 32:Nat):Int)) (i:=21) G Kr Kr Kr (fun _=>Ex.shlK (m:=O.toNat) (s:=32) G G Dc) (l02 (Value.int .u64) a2.2) (q00 G) G G (fun _ _=>G) (q1c (v' := .int .u64 ((J.toNat ||| E.toNat <<< 8 ||| K.toNat <<< 16 ||| N.toNat <<< 24 ||| O.toNat <<< 32:Nat):Int)) (i:=22) G Kr Kr Kr (fun _=>Ex.orK (m:=(J.toNat ||| E.toNat <<< 8 ||| K.toNat <<< 16 ||| N.toNat <<< 24)) (s:=(O.toNat <<< 32)) G G a9 a2.1) (l02 (Value.int .u64) (or64 a9 a2.1)) (q00 G) G G (fun _ _=>G) (TK 23 G (fun _=>q06 G) G (TK 24 G (fun _=>q0K Tu9 G G (ak)) G ?_)));refine TK 25 G (fun _=>q1C Tu5 Tu33 G Om) G ?_
 refine q1c (v' := .int .u64 ((U.toNat <<< 40:Nat):Int)) (i:=26) G Kr Kr Kr (fun _=>Ex.shlK (m:=U.toNat) (s:=40) G G Dc) (l02 (Value.int .u64) a3.2) (q00 G) G G (fun _ _=>G) (q1c (v' := .int .u64 ((J.toNat ||| E.toNat <<< 8 ||| K.toNat <<< 16 ||| N.toNat <<< 24 ||| O.toNat <<< 32 ||| U.toNat <<< 40:Nat):Int)) (i:=27) G Kr Kr Kr (fun _=>Ex.orK (m:=(J.toNat ||| E.toNat <<< 8 ||| K.toNat <<< 16 ||| N.toNat <<< 24 ||| O.toNat <<< 32)) (s:=(U.toNat <<< 40)) G G aa a3.1) (l02 (Value.int .u64) (or64 aa a3.1)) (q00 G) G G (fun _ _=>G) (TK 28 G (fun _=>q06 G) G (TK 29 G (fun _=>q0K Tu9 G G (al)) G ?_)));refine TK 30 G (fun _=>q1C Tu5 Tu33 G Om) G ?_;refine q1c (v' := .int .u64 ((V.toNat <<< 48:Nat):Int)) (i:=31) G Kr Kr Kr (fun _=>Ex.shlK (m:=V.toNat) (s:=48) G G Dc) (l02 (Value.int .u64) a4.2) (q00 G) G G (fun _ _=>G) (q1c (v' := .int .u64 ((J.toNat ||| E.toNat <<< 8 ||| K.toNat <<< 16 ||| N.toNat <<< 24 ||| O.toNat <<< 32 ||| U.toNat <<< 40 ||| V.toNat <<< 48:Nat):Int)) (i:=32) G Kr Kr Kr (fun _=>Ex.orK (m:=(J.toNat ||| E.toNat <<< 8 ||| K.toNat <<< 16 ||| N.toNat <<< 24 ||| O.toNat <<< 32 ||| U.toNat <<< 40)) (s:=(V.toNat <<< 48)) G G ab a4.1) (l02 (Value.int .u64) (or64 ab a4.1)) (q00 G) G G (fun _ _=>G) (ON 33 Kr G (MV G G (NA (ON 34 Kr G (ST (q0K Tu9 G G (am)) G (NA (ON 35 Kr G ?_))))))));refine ST (q1C Tu5 Tu33 G Om) G ?_
 refine NA (ON 36 Kr G (q0B (v' := .int .u64 ((Y.toNat <<< 56:Nat):Int)) (Ex.shlK (m:=Y.toNat) (s:=56) G G Dc) (l02 (Value.int .u64) a5.2) (q00 G) G G (NA (ON 37 Kr G (q0B (v' := .int .u64 ((J.toNat ||| E.toNat <<< 8 ||| K.toNat <<< 16 ||| N.toNat <<< 24 ||| O.toNat <<< 32 ||| U.toNat <<< 40 ||| V.toNat <<< 48 ||| Y.toNat <<< 56:Nat):Int)) (Ex.orK (m:=(J.toNat ||| E.toNat <<< 8 ||| K.toNat <<< 16 ||| N.toNat <<< 24 ||| O.toNat <<< 32 ||| U.toNat <<< 40 ||| V.toNat <<< 48)) (s:=(Y.toNat <<< 56)) G G ac a5.1) (l02 (Value.int .u64) (or64 ac a5.1)) (q00 G) G G (NA (ON 38 Kr G (AS G G (NA (q0f Kr (TN (RT ?_))))))))))));refine q07 G G H.ext ?_;exact by unfold w8;rw [aw,ax,ay,az,b8,b9,ba,bb]
theorem tab_acc {w:World}(h:Lib.Utf8Tabs 1 2 w){ai lo hi:Nat}(ha:ai<16)(hlo:Lib.accLo ai=lo)(hhi:Lib.accHi ai=hi):∀j u,([.int .u8 ((lo:Nat):Int), .int .u8 ((hi:Nat):Int)]:List Value)[j]? = some u->w.cell? ⟨2,2*ai+j,none⟩=some u:=by
 obtain⟨E,J⟩:=h.2 ai ha;rw[hlo] at E;rw[hhi] at J;intro j u hj;rcases j with _|_|j
 . cases hj;exact E
 . cases hj;exact J
 simp at hj
theorem validString_spec (l:Ls)(hs:l.length<=4611686018427387904):Ct Tryz.prog 131 [S l] (fun M=>Tabs M) (fun r _=>r = .bool (vld l)):=by
 refine Ct.of Tryz.func131 (enters Tryz.func131 Kr G) G G G ?_;intro w0 M0 H hp;refine SR (AQ rfl rfl (BL (WC.loop1 (fun(t:Ls)=>[(0,S t)]) (fun(t:Ls) w=>t.length<=l.length/\vld l=vld t/\∃M,St w0 M0 M [] w/\Tabs M) (fun(t:Ls)=>t.length) (l) ⟨rfl,trivial⟩ (⟨l0b _,rfl,M0,H,hp⟩) ?_)));intro t w;rintro⟨htl,hv,M,H,hp⟩;refine SQ (SM G G (ST (q0g Tu9 G) G ?_));refine q0H (q0A G G) (q00 G) G G (fun a1=>?_) (fun a1=>?_)
 . have hne:t≠ []:=by rintro rfl;simp at a1
   obtain⟨c,hc⟩ :∃c,t[0]? = some c:=⟨_,l06 Om⟩
   have hcn:=nat_of hc;have hclt:=c.toNat_lt;refine NT (CT G (SK (TN (BL (SM G G (ST (q0K Tu9 G G (hc)) G (AQ G G (SM G G ?_))))))));refine q0H (q0m G G) (q00 G) G G (fun az=>?_) (fun az=>?_)
   . have ak:nat t 0<128:=by omega
     refine NT (CT G (SM G G (q0B (v':=S (t.drop 1)) (q0X (i:=1) (j:=t.length) Tu9 G (.inl ⟨_,G,G⟩) (.inr ⟨G,G⟩) Om Om) (by rw[l0M]) (q00 G) G G ?_)));refine AQ G G (SR ?_);obtain⟨u,hu⟩ :∃u,u=t.drop 1:=⟨_,rfl⟩
     rw[<-hu];have U:=vld_ascii hne ak;rw[<-hu] at U;have hul:u.length=t.length-1:=by rw[hu,l08]
     refine MV G G (ST (q0g Tu9 G) G ?_);refine q0H (q0A G G) (q00 G) G G (fun b0=>?_) (fun b0=>?_)
     . refine MV G G (SG (q06 G) G G G (q02 H (word_spec u Om) G (trivial) (q0h G G G) G ?_));intro c0 M w H J b1;have hp:=hp.mono J;obtain rfl:=b1;refine q0B (v' := .int .u64 ((w8 u) &&& 9259542123273814144:Nat)) (Ex.andK (m:=(w8 u)) (s:=9259542123273814144) G G (w8_lt u) Dc) (l02 (Value.int .u64) (and64 (w8_lt u))) (q0h G G G) G G ?_;refine q0H (q0s G G) (q0h G G G) G G (fun b2=>?_) (fun b2=>?_)
       . have h8 :∀i,i<8->nat u i<128:=w8_small (x:=0) (by rw[Nat.or_zero];omega);have a2:=vld_asciis 8 u Om h8;refine PT G G G (NT (CT G (SM G G (q0B (v':=S (u.drop 8)) (q0X (i:=8) (j:=u.length) Tu9 G (.inl ⟨_,G,G⟩) (.inr ⟨G,G⟩) Om Om) (by rw[l0M]) (q00 G) G G ?_))));obtain⟨E,N⟩ :∃E,E=u.drop 8:=⟨_,rfl⟩
         rw[<-N];have bp:E.length=u.length-8:=by rw[N,l08]
         refine AQ G G (q0v (m:=13) G G H ?_);intro w H;refine ON 0 Kr G (MV G G (NA (ON 1 Kr G (ST (q0g Tu9 G) G (NA (ON 2 Kr G ?_))))));refine q0H (q0A G G) (q00 G) G G (fun b3=>?_) (fun b3=>?_)
         . refine NA (ON 3 Kr G (MV G G (NA (q0N (i:=4) G Kr Kr Kr (fun _=>q06 G) (q0h G G G) G G (fun _ _=>G) (q0N (i:=6) G Kr Kr Kr (fun _=>q06 G) (q0h G G G) G G (fun _ _=>G) (q1c (v':=S (E.drop 8)) (i:=7) G Kr Kr Kr (fun _=>q0X (i:=8) (j:=E.length) Tu9 G (.inl ⟨_,G,G⟩) (.inr ⟨G,G⟩) Om Om) (by rw[l0M]) (q0h G G G) G G (fun _ _=>G) ?_))))));refine ON 5 Kr G (q02 H (word_spec E Om) G (trivial) (q0h G G G) G ?_);intro c1 M w H J b4;have hp:=hp.mono J;obtain rfl:=b4;refine NA (ON 8 Kr G (q02 H (word_spec (E.drop 8) Ox) G (trivial) (q0h G G G) G ?_));intro c2 M w H J b5;have hp:=hp.mono J;obtain rfl:=b5;refine NA (ON 9 Kr G (q0B (v' := .int .u64 ((w8 E) |||(w8 (E.drop 8)):Nat)) (Ex.orK (m:=(w8 E)) (s:=(w8 (E.drop 8))) G G (w8_lt E) (w8_lt (E.drop 8))) (l02 (Value.int .u64) (or64 (w8_lt E) (w8_lt (E.drop 8)))) (q0h G G G) G G (NA (ON 10 Kr G (q0B (v' := .int .u64 ((w8 E ||| w8 (E.drop 8)) &&& 9259542123273814144:Nat)) (Ex.andK (m:=(w8 E ||| w8 (E.drop 8))) (s:=9259542123273814144) G G (l0B (w8_lt E) (w8_lt (E.drop 8))) Dc) (l02 (Value.int .u64) (and64 (l0B (w8_lt E) (w8_lt (E.drop 8))))) (q0h G G G) G G (NA (ON 11 Kr G ?_)))))));refine q0H (q0s G G) (q0h G G G) G G (fun al=>?_) (fun al=>?_)
           . have ha:=w8_small (l:=E) (x:=w8 (E.drop 8)) Om;have hb:=w8_small (l:=E.drop 8) (x:=w8 E) (by rw[l3C];omega);have a3:=(vld_asciis 8 E Om ha).trans (vld_asciis 8 (E.drop 8) Ox hb);rw[l0V] at a3;refine NA (ON 12 Kr G (PT G G G (NA (q0f Kr (TN (CT G (SM G G (q0B (v':=S (E.drop 16)) (q0X (i:=16) (j:=E.length) Tu9 G (.inl ⟨_,G,G⟩) (.inr ⟨G,G⟩) Om Om) (by rw[l0M]) (q00 G) G G ?_))))))));refine AN rfl rfl (BL (WC.loop1 (fun(x:Ls)=>[(0,S x)]) (fun(x:Ls) w=>x.length<t.length/\vld l=vld x/\∃M,St w0 M0 M [] w/\Tabs M) (fun(x:Ls)=>x.length) (E.drop 16) ⟨rfl,trivial⟩ (⟨by rw[l08,N,hu,l08,l08];omega,by rw[hv,U,a2,<-N,a3],M,H,hp⟩) ?_));intro x w;rintro⟨hxt,hvx,M,H,hp⟩;refine SQ (SQ (q0v (m:=21) G G H ?_));intro w H;refine ON 0 Kr G (MV G G (NA (ON 1 Kr G (ST (q0g Tu9 G) G (NA (ON 2 Kr G ?_))))));refine q0H (q0A G G) (q00 G) G G (fun b7=>?_) (fun b7=>?_)
             . refine NA (ON 3 Kr G (MV G G (NA (q0N (i:=4) G Kr Kr Kr (fun _=>q06 G) (q0h G G G) G G (fun _ _=>G) (q0N (i:=6) G Kr Kr Kr (fun _=>q06 G) (q0h G G G) G G (fun _ _=>G) (q1c (v':=S (x.drop 8)) (i:=7) G Kr Kr Kr (fun _=>q0X (i:=8) (j:=x.length) Tu9 G (.inl ⟨_,G,G⟩) (.inr ⟨G,G⟩) Om Om) (by rw[l0M]) (q0h G G G) G G (fun _ _=>G) ?_))))));refine q0N (i:=10) G Kr Kr Kr (fun _=>q06 G) (q0h G G G) G G (fun _ _=>G) (q1c (v':=S (x.drop 16)) (i:=11) G Kr Kr Kr (fun _=>q0X (i:=16) (j:=x.length) Tu9 G (.inl ⟨_,G,G⟩) (.inr ⟨G,G⟩) Om Om) (by rw[l0M]) (q0h G G G) G G (fun _ _=>G) ?_);refine q0N (i:=13) G Kr Kr Kr (fun _=>q06 G) (q0h G G G) G G (fun _ _=>G) (q1c (v':=S (x.drop 24)) (i:=14) G Kr Kr Kr (fun _=>q0X (i:=24) (j:=x.length) Tu9 G (.inl ⟨_,G,G⟩) (.inr ⟨G,G⟩) Om Om) (by rw[l0M]) (q0h G G G) G G (fun _ _=>G) ?_);refine ON 5 Kr G (q02 H (word_spec x Om) G (trivial) (q0h G G G) G ?_);intro c3 M w H J b8;have hp:=hp.mono J;obtain rfl:=b8;refine NA (ON 8 Kr G (q02 H (word_spec (x.drop 8) Ox) G (trivial) (q0h G G G) G ?_));intro c4 M w H J b9;have hp:=hp.mono J;obtain rfl:=b9;refine NA (q1c (v' := .int .u64 ((w8 x) |||(w8 (x.drop 8)):Nat)) (i:=9) G Kr Kr Kr (fun _=>Ex.orK (m:=(w8 x)) (s:=(w8 (x.drop 8))) G G (w8_lt x) (w8_lt (x.drop 8))) (l02 (Value.int .u64) (or64 (w8_lt x) (w8_lt (x.drop 8)))) (q0h G G G) G G (fun _ _=>G) (ON 12 Kr G (q02 H (word_spec (x.drop 16) Ox) G (trivial) (q0h G G G) G ?_)));intro c5 M w H J ba;have hp:=hp.mono J;obtain rfl:=ba;refine NA (ON 15 Kr G (q02 H (word_spec (x.drop 24) Ox) G (trivial) (q0h G G G) G ?_));intro c6 M w H J bb;have hp:=hp.mono J;obtain rfl:=bb
               refine NA (ON 16 Kr G (q0B (v' := .int .u64 ((w8 (x.drop 16)) |||(w8 (x.drop 24)):Nat)) (Ex.orK (m:=(w8 (x.drop 16))) (s:=(w8 (x.drop 24))) G G (w8_lt (x.drop 16)) (w8_lt (x.drop 24))) (l02 (Value.int .u64) (or64 (w8_lt (x.drop 16)) (w8_lt (x.drop 24)))) (q0h G G G) G G (NA (ON 17 Kr G (q0B (v' := .int .u64 ((w8 x ||| w8 (x.drop 8)) |||(w8 (x.drop 16) ||| w8 (x.drop 24)):Nat)) (Ex.orK (m:=(w8 x ||| w8 (x.drop 8))) (s:=(w8 (x.drop 16) ||| w8 (x.drop 24))) G G (l0B (w8_lt x) (w8_lt (x.drop 8))) (l0B (w8_lt (x.drop 16)) (w8_lt (x.drop 24)))) (l02 (Value.int .u64) (or64 (l0B (w8_lt x) (w8_lt (x.drop 8))) (l0B (w8_lt (x.drop 16)) (w8_lt (x.drop 24))))) (q0h G G G) G G (NA (ON 18 Kr G (q0B (v' := .int .u64 (((w8 x ||| w8 (x.drop 8)) |||(w8 (x.drop 16) ||| w8 (x.drop 24))) &&& 9259542123273814144:Nat)) (Ex.andK (m:=((w8 x ||| w8 (x.drop 8)) |||(w8 (x.drop 16) ||| w8 (x.drop 24)))) (s:=9259542123273814144) G G (l0B (l0B (w8_lt x) (w8_lt (x.drop 8))) (l0B (w8_lt (x.drop 16)) (w8_lt (x.drop 24)))) Dc) (l02 (Value.int .u64) (and64 (l0B (l0B (w8_lt x) (w8_lt (x.drop 8))) (l0B (w8_lt (x.drop 16)) (w8_lt (x.drop 24)))))) (q0h G G G) G G ?_))))))));refine NA (ON 19 Kr G ?_);refine q0H (q0s G G) (q0h G G G) G G (fun am=>?_) (fun am=>?_)
               . have h1:=w8_small (l:=x) (x:=w8 (x.drop 8) |||(w8 (x.drop 16) ||| w8 (x.drop 24))) (by rw[<-Nat.or_assoc];omega);have h2:=w8_small (l:=x.drop 8) (x:=w8 x |||(w8 (x.drop 16) ||| w8 (x.drop 24))) (by rw[<-Nat.or_assoc,l3C (w8 (x.drop 8))];omega);have h3:=w8_small (l:=x.drop 16) (x:=w8 (x.drop 24) |||(w8 x ||| w8 (x.drop 8))) (by rw[<-Nat.or_assoc,l3C (w8 (x.drop 16) ||| w8 (x.drop 24))];omega);have h4:=w8_small (l:=x.drop 24) (x:=w8 (x.drop 16) |||(w8 x ||| w8 (x.drop 8))) (by rw[<-Nat.or_assoc,l3C (w8 (x.drop 24)),l3C (w8 (x.drop 16) ||| w8 (x.drop 24))];omega);have bc:=vld_32 Om h1 h2 h3 h4;refine NA (ON 20 Kr G (PT G G G (NA (q0f Kr (TN (CT G (SK (TN (BL (RM G G (q0B (v':=S (x.drop 32)) (q0X (i:=32) (j:=x.length) Tu9 G (.inl ⟨_,G,G⟩) (.inr ⟨G,G⟩) Om Om) (by rw[l0M]) (q00 G) G G ?_)))))))))));refine AS G G (NL (IB ?_));refine q1y (x.drop 32) ⟨G,trivial⟩ ?_ ?_
                 . exact⟨by rw[l08];omega,hvx.trans bc,M,H,hp⟩
                 rw[l08];omega
               refine NA (ON 20 Kr G (PT G G G (NA (q0f Kr (TN (CF G (q0j (q03 (q03 (q0b (TN (q0j (q03 (q0b ?_))))))))))))));refine q1y (x) ⟨G,trivial⟩ ?_ ?_
               . exact⟨by omega,hvx,M,H.drop (l1J _),hp⟩
               omega
             refine NA (ON 3 Kr G (MV G G (NA (q0G (i:=4) G Kr Kr Kr (wanted_g (b:=false) G G G) G G (fun _ _=>G) (q0G (i:=6) G Kr Kr Kr (wanted_g (b:=false) G G G) G G (fun _ _=>G) (q0G (i:=7) G Kr Kr Kr (wanted_g (b:=false) G G G) G G (fun _ _=>G) (q0G (i:=10) G Kr Kr Kr (wanted_g (b:=false) G G G) G G (fun _ _=>G) (q0G (i:=11) G Kr Kr Kr (wanted_g (b:=false) G G G) G G (fun _ _=>G) (q0G (i:=13) G Kr Kr Kr (wanted_g (b:=false) G G G) G G (fun _ _=>G) (q0G (i:=14) G Kr Kr Kr (wanted_g (b:=false) G G G) G G (fun _ _=>G) ?_))))))))));refine ON 5 Kr G (GF G G G (NA (ON 8 Kr G (GF G G G (NA (q0G (i:=9) G Kr Kr Kr (wanted_g (b:=false) G G G) G G (fun _ _=>G) (ON 12 Kr G (GF G G G (NA (ON 15 Kr G (GF G G G (NA (ON 16 Kr G (GF G G G (NA (ON 17 Kr G (GF G G G (NA (ON 18 Kr G (GF G G G (NA (ON 19 Kr G (GF G G G (NA (ON 20 Kr G (PF G G G (NA (q0f Kr (TN (CF G (q0j (q03 (q03 (q0b (TN (q0j (q03 (q0b ?_))))))))))))))))))))))))))))))))))))));refine q1y (x) ⟨G,trivial⟩ ?_ ?_
             . exact⟨by omega,hvx,M,H.drop (l1J _),hp⟩
             omega
           refine NA (ON 12 Kr G (PT G G G (NA (q0f Kr (TN (CF G (SK (TN (q0j (q03 (q0b ?_)))))))))));refine q1y (E) ⟨G,trivial⟩ ?_ ?_
           . exact⟨by rw[N,hu,l08,l08];omega,(by rw[hv,U,a2,<-N]),M,H.drop (l1J _),hp⟩
           rw[N,hu,l08,l08];omega
         refine NA (ON 3 Kr G (MV G G (NA (q0G (i:=4) G Kr Kr Kr (wanted_g (b:=false) G G G) G G (fun _ _=>G) (q0G (i:=6) G Kr Kr Kr (wanted_g (b:=false) G G G) G G (fun _ _=>G) (q0G (i:=7) G Kr Kr Kr (wanted_g (b:=false) G G G) G G (fun _ _=>G) (ON 5 Kr G (GF G G G (NA (ON 8 Kr G (GF G G G (NA (ON 9 Kr G (GF G G G (NA (ON 10 Kr G (GF G G G (NA (ON 11 Kr G (GF G G G (NA (ON 12 Kr G (PF G G G (NA (q0f Kr (TN (CF G (SK (TN (q0j (q03 (q0b ?_))))))))))))))))))))))))))))))));refine q1y (E) ⟨G,trivial⟩ ?_ ?_
         . exact⟨by rw[N,hu,l08,l08];omega,(by rw[hv,U,a2,<-N]),M,H.drop (l1J _),hp⟩
         rw[N,hu,l08,l08];omega
       refine PT G G G (NT (CF G (SK (TN (q0j (q03 (q0b ?_)))))));refine q1y (u) ⟨G,trivial⟩ ?_ ?_
       . exact⟨by rw[hu,l08];omega,(by rw[hv,U]),M,H.drop (l1J _),hp⟩
       rw[hu,l08];omega
     refine MV G G (GF G G G (GF G G G (GF G G G (GF G G G (PF G G G (NT (CF G (SK (TN (q0j (q03 (q0b ?_))))))))))));refine q1y (u) ⟨G,trivial⟩ ?_ ?_
     . exact⟨by rw[hu,l08];omega,(by rw[hv,U]),M,H.drop (l1J _),hp⟩
     rw[hu,l08];omega
   obtain⟨sz,ai,lo,hi,hF,hsz,hai,an,hlo,hhi,bu,bv,hszs,bi,bj,bm,bn⟩:=first_facts c.toNat Om Om;refine NT (CF G (SK (TN (SM G G (q0B (v':=ptr 1 c.toNat) (q1n Tu225 Ts5 G G Om) (by rw[l0D,l1l]) (q00 G) G G ?_)))));refine ST (Ex.loadCell G ((hp _ H.ag).1 c.toNat Om) Ta5) G ?_;refine AN G G (SM G G (q0B (v' := .int .u8 ((sz:Nat):Int)) (Ex.andK (m:=(Lib.firstT c.toNat)) (s:=7) G G (by show _<256;omega) Dc) (l02 (Value.int .u8) (by rw[hsz];exact u8_in Om)) (q00 G) G G ?_));first|refine q0u (Ex.convB Tu5 Tu3 rfl) (q00 rfl) rfl rfl ?_|refine q0u (Ex.convI Tu5 Tu3 rfl Om) (q00 rfl) rfl rfl ?_
   refine AN G G (SM G G (q0B (v' := .int .u8 ((ai:Nat):Int)) (Ex.shrN (m:=(Lib.firstT c.toNat)) (s:=4) G G (by first|(show _<=64;omega)|(show _<=8;omega)|decide)) (l02 (Value.int .u8) (by rw[hai])) (q00 G) G G ?_));refine q0B (v':=ptr 2 (2*ai)) (q1n Tu247 Ts246 G G Om) (by rw[l0D,l2V]) (q00 G) G G ?_;refine ST (Ex.loadAggW (cs:=[.int .u8 ((lo:Nat):Int), .int .u8 ((hi:Nat):Int)]) G (tab_acc (hp _ H.ag) an hlo hhi) Ta246 Ts246 G) G (q09 [_,_] H Tz246 G (q00 G) G ?_);intro b6 w H;refine q04 [_,_] H G G G Ku Ts246 G Kf Kf (q00 G) ?_;intro w H;refine NT (SM G G (NT (BL (SR ?_))));refine q0H (q0s G G) (q00 G) G G (fun ao=>?_) (fun ao=>?_)
   . obtain⟨V,Y,Z,a0⟩:=bj Om;have hm:=multi2 (t:=t) (by rw[hcn];exact ⟨V,Y⟩);subst Z a0;refine AN G G (CT G (SQ (SQ (q0v (m:=17) G G H ?_))));intro w H;refine ON 0 Kr G (MV G G (NA (ON 1 Kr G (ST (q0g Tu9 G) G (NA (ON 2 Kr G ?_))))));refine q0H (q0m G G) (q00 G) G G (fun ap=>?_) (fun ap=>?_)
     . have hbad:=vld_bad hne (hm.2 Om);refine NA (ON 3 Kr G (MV G G (NA (q0G (i:=4) G Kr Kr Kr (wanted_g (b:=true) G G G) G G (fun _ _=>G) (q0G (i:=5) G Kr Kr Kr (wanted_g (b:=true) G G G) G G (fun _ _=>G) (ON 6 Kr G (GT G G G (NA (ON 7 Kr G (GT G G G (NA (ON 8 Kr G (GT G G G (NA (ON 9 Kr G (PT G G G (NA (ON 10 Kr G (MV G G (NA (q0G (i:=11) G Kr Kr Kr (wanted_g (b:=true) G G G) G G (fun _ _=>G) (q0G (i:=12) G Kr Kr Kr (wanted_g (b:=true) G G G) G G (fun _ _=>G) (ON 13 Kr G (GT G G G (NA (ON 14 Kr G (GT G G G ?_)))))))))))))))))))))))))));refine NA (ON 15 Kr G (GT G G G (NA (ON 16 Kr G (PT G G G (NA (q0f Kr (TN (CT G (SR (AR G G ?_)))))))))));refine q07 G G H.ext ?_;exact by rw[hv,hbad]
     obtain⟨x1,K⟩ :∃x,t[1]? = some x:=⟨_,l06 Om⟩
     have a5:=nat_of K;have a6:=x1.toNat_lt;refine NA (ON 3 Kr G (MV G G (NA (q0N (i:=4) G Kr Kr Kr (fun _=>q06 G) (q0h G G G) G G (fun _ _=>G) (q0N (i:=5) G Kr Kr Kr (fun _=>q0K Tu9 G G (K)) (q0h G G G) G G (fun _ _=>G) (ON 6 Kr G (SG (q01 Tu246 G Ts5 Dc G) G G G (NA (ON 7 Kr G ?_)))))))));first|refine q0u (q0n H rfl (by assumption) Ta5) (q0h rfl rfl rfl) rfl rfl ?_|refine q0u (XL H Ta5) (q0h rfl rfl rfl) rfl rfl ?_
     refine NA (ON 8 Kr G ?_);refine q0H (q0m G G) (q0h G G G) G G (fun aq=>?_) (fun aq=>?_)
     . have hbad:=vld_bad hne (hm.2 Om);refine NA (ON 9 Kr G (PF G G G (NA (ON 10 Kr G (MV G G (NA (q0G (i:=11) G Kr Kr Kr (wanted_g (b:=true) G G G) G G (fun _ _=>G) (q0G (i:=12) G Kr Kr Kr (wanted_g (b:=true) G G G) G G (fun _ _=>G) (ON 13 Kr G (GT G G G (NA (ON 14 Kr G (GT G G G (NA (ON 15 Kr G (GT G G G (NA (ON 16 Kr G (PT G G G (NA (q0f Kr (TN (CT G (SR (AR G G ?_)))))))))))))))))))))))));refine q07 G G H.ext ?_;exact by rw[hv,hbad]
     refine NA (ON 9 Kr G (PF G G G (NA (ON 10 Kr G (MV G G (NA (q0N (i:=11) G Kr Kr Kr (fun _=>q01 Tu246 G Ts5 Dc G) (q0h G G G) G G (fun _ _=>G) (q0N (i:=13) G Kr Kr Kr (fun _=>q06 G) (q0h G G G) G G (fun _ _=>G) (q0N (i:=14) G Kr Kr Kr (fun _=>q0K Tu9 G G (K)) (q0h G G G) G G (fun _ _=>G) (ON 12 Kr G ?_))))))))));first|refine q0u (q0n H rfl (by assumption) Ta5) (q0h rfl rfl rfl) rfl rfl ?_|refine q0u (XL H Ta5) (q0h rfl rfl rfl) rfl rfl ?_
     refine NA (ON 15 Kr G ?_);refine q0H (q0m G G) (q0h G G G) G G (fun a7=>?_) (fun a7=>?_)
     . have hbad:=vld_bad hne (hm.2 Om);refine NA (ON 16 Kr G (PF G G G (NA (q0f Kr (TN (CT G (SR (AR G G ?_))))))));refine q07 G G H.ext ?_;exact by rw[hv,hbad]
     refine NA (ON 16 Kr G (PF G G G (NA (q0f Kr (TN (CF G (SK (TN (RM G G (q0B (v':=S (t.drop 2)) (q0X (i:=2) (j:=t.length) Tu9 G (.inl ⟨_,G,G⟩) (.inr ⟨G,G⟩) Om Om) (by rw[l0M]) (q00 G) G G ?_))))))))));refine AS G G (NL (IB (IB ?_)));refine q1y (t.drop 2) ⟨G,trivial⟩ ?_ ?_
     . exact⟨by rw[l08];omega,by rw[hv];exact vld_good hne (hm.1 Om),M,H.drop (l1J _),hp⟩
     rw[l08];omega
   refine AN G G (CF G (SR ?_));refine q0H (q0s G G) (q00 G) G G (fun ar=>?_) (fun ar=>?_)
   . obtain⟨V,Y,Z,a0⟩:=bm Om;have hm:=multi3 (t:=t) (lo:=lo) (hi:=hi) (by rw[hcn];exact ⟨V,Y⟩) (by rw[hcn];exact Z) (by rw[hcn];exact a0);refine AN G G (CT G (SQ (SQ (q0v (m:=27) G G H ?_))));intro w H;refine ON 0 Kr G (MV G G (NA (ON 1 Kr G (ST (q0g Tu9 G) G (NA (ON 2 Kr G ?_))))));refine q0H (q0m G G) (q00 G) G G (fun au=>?_) (fun au=>?_)
     . have hbad:=vld_bad hne (hm.2 Om);refine NA (ON 3 Kr G (MV G G (NA (q0G (i:=4) G Kr Kr Kr (wanted_g (b:=true) G G G) G G (fun _ _=>G) (q0G (i:=5) G Kr Kr Kr (wanted_g (b:=true) G G G) G G (fun _ _=>G) (ON 6 Kr G (GT G G G (NA (ON 7 Kr G (GT G G G (NA (ON 8 Kr G (GT G G G (NA (ON 9 Kr G (PT G G G (NA (ON 10 Kr G (MV G G (NA (q0G (i:=11) G Kr Kr Kr (wanted_g (b:=true) G G G) G G (fun _ _=>G) (q0G (i:=12) G Kr Kr Kr (wanted_g (b:=true) G G G) G G (fun _ _=>G) (ON 13 Kr G (GT G G G (NA (ON 14 Kr G (GT G G G ?_)))))))))))))))))))))))))));refine NA (ON 15 Kr G (GT G G G (NA (ON 16 Kr G (PT G G G (NA (ON 17 Kr G (MV G G (NA (ON 18 Kr G (GT G G G (NA (ON 19 Kr G (GT G G G (NA (ON 20 Kr G (GT G G G (NA (ON 21 Kr G (PT G G G (NA (ON 22 Kr G (MV G G (NA (ON 23 Kr G (GT G G G (NA (ON 24 Kr G (GT G G G (NA (ON 25 Kr G (GT G G G (NA (ON 26 Kr G (PT G G G (NA (q0f Kr (TN (CT G (SR (AR G G ?_)))))))))))))))))))))))))))))))))))))))));refine q07 G G H.ext ?_;exact by rw[hv,hbad]
     obtain⟨x1,K⟩ :∃x,t[1]? = some x:=⟨_,l06 Om⟩
     have a5:=nat_of K;have a6:=x1.toNat_lt;obtain⟨x2,O⟩ :∃x,t[2]? = some x:=⟨_,l06 Om⟩
     have be:=nat_of O;have bg:=x2.toNat_lt;refine NA (ON 3 Kr G (MV G G (NA (q0N (i:=4) G Kr Kr Kr (fun _=>q06 G) (q0h G G G) G G (fun _ _=>G) (q0N (i:=5) G Kr Kr Kr (fun _=>q0K Tu9 G G (K)) (q0h G G G) G G (fun _ _=>G) (ON 6 Kr G (SG (q01 Tu246 G Ts5 Dc G) G G G (NA (ON 7 Kr G ?_)))))))));first|refine q0u (q0n H rfl (by assumption) Ta5) (q0h rfl rfl rfl) rfl rfl ?_|refine q0u (XL H Ta5) (q0h rfl rfl rfl) rfl rfl ?_
     refine NA (ON 8 Kr G ?_);refine q0H (q0m G G) (q0h G G G) G G (fun av=>?_) (fun av=>?_)
     . have hbad:=vld_bad hne (hm.2 Om);refine NA (ON 9 Kr G (PF G G G (NA (ON 10 Kr G (MV G G (NA (q0G (i:=11) G Kr Kr Kr (wanted_g (b:=true) G G G) G G (fun _ _=>G) (q0G (i:=12) G Kr Kr Kr (wanted_g (b:=true) G G G) G G (fun _ _=>G) (ON 13 Kr G (GT G G G (NA (ON 14 Kr G (GT G G G (NA (ON 15 Kr G (GT G G G (NA (ON 16 Kr G (PT G G G (NA (ON 17 Kr G (MV G G (NA (ON 18 Kr G (GT G G G (NA (ON 19 Kr G (GT G G G (NA (ON 20 Kr G (GT G G G (NA (ON 21 Kr G (PT G G G (NA (ON 22 Kr G (MV G G (NA (ON 23 Kr G (GT G G G ?_))))))))))))))))))))))))))))))))))))))));refine NA (ON 24 Kr G (GT G G G (NA (ON 25 Kr G (GT G G G (NA (ON 26 Kr G (PT G G G (NA (q0f Kr (TN (CT G (SR (AR G G ?_))))))))))))));refine q07 G G H.ext ?_;exact by rw[hv,hbad]
     refine NA (ON 9 Kr G (PF G G G (NA (ON 10 Kr G (MV G G (NA (q0N (i:=11) G Kr Kr Kr (fun _=>q01 Tu246 G Ts5 Dc G) (q0h G G G) G G (fun _ _=>G) (q0N (i:=13) G Kr Kr Kr (fun _=>q06 G) (q0h G G G) G G (fun _ _=>G) (q0N (i:=14) G Kr Kr Kr (fun _=>q0K Tu9 G G (K)) (q0h G G G) G G (fun _ _=>G) (ON 12 Kr G ?_))))))))));first|refine q0u (q0n H rfl (by assumption) Ta5) (q0h rfl rfl rfl) rfl rfl ?_|refine q0u (XL H Ta5) (q0h rfl rfl rfl) rfl rfl ?_
     refine NA (ON 15 Kr G ?_);refine q0H (q0m G G) (q0h G G G) G G (fun a8=>?_) (fun a8=>?_)
     . have hbad:=vld_bad hne (hm.2 Om);refine NA (ON 16 Kr G (PF G G G (NA (ON 17 Kr G (MV G G (NA (ON 18 Kr G (GT G G G (NA (ON 19 Kr G (GT G G G (NA (ON 20 Kr G (GT G G G (NA (ON 21 Kr G (PT G G G (NA (ON 22 Kr G (MV G G (NA (ON 23 Kr G (GT G G G (NA (ON 24 Kr G (GT G G G (NA (ON 25 Kr G (GT G G G (NA (ON 26 Kr G (PT G G G (NA (q0f Kr (TN (CT G (SR (AR G G ?_))))))))))))))))))))))))))))))))))))));refine q07 G G H.ext ?_;exact by rw[hv,hbad]
     refine NA (ON 16 Kr G (PF G G G (NA (ON 17 Kr G (MV G G (NA (ON 18 Kr G (SG (q06 G) G G G (NA (ON 19 Kr G (SG (q0K Tu9 G G (O)) G G G (NA (ON 20 Kr G ?_)))))))))))));refine q0H (q0m G G) (q0h G G G) G G (fun a9=>?_) (fun a9=>?_)
     . have hbad:=vld_bad hne (hm.2 Om);refine NA (ON 21 Kr G (PF G G G (NA (ON 22 Kr G (MV G G (NA (ON 23 Kr G (GT G G G (NA (ON 24 Kr G (GT G G G (NA (ON 25 Kr G (GT G G G (NA (ON 26 Kr G (PT G G G (NA (q0f Kr (TN (CT G (SR (AR G G ?_)))))))))))))))))))))));refine q07 G G H.ext ?_;exact by rw[hv,hbad]
     refine NA (ON 21 Kr G (PF G G G (NA (ON 22 Kr G (MV G G (NA (ON 23 Kr G (SG (q06 G) G G G (NA (ON 24 Kr G (SG (q0K Tu9 G G (O)) G G G (NA (ON 25 Kr G ?_)))))))))))));refine q0H (q0m G G) (q0h G G G) G G (fun aa=>?_) (fun aa=>?_)
     . have hbad:=vld_bad hne (hm.2 Om);refine NA (ON 26 Kr G (PF G G G (NA (q0f Kr (TN (CT G (SR (AR G G ?_))))))));refine q07 G G H.ext ?_;exact by rw[hv,hbad]
     refine NA (ON 26 Kr G (PF G G G (NA (q0f Kr (TN (CF G (SK (TN (RM G G (q0B (v':=S (t.drop 3)) (q0X (i:=3) (j:=t.length) Tu9 G (.inl ⟨_,G,G⟩) (.inr ⟨G,G⟩) Om Om) (by rw[l0M]) (q00 G) G G ?_))))))))));refine AS G G (NL (IB (IB ?_)));refine q1y (t.drop 3) ⟨G,trivial⟩ ?_ ?_
     . exact⟨by rw[l08];omega,by rw[hv];exact vld_good hne (hm.1 Om),M,H.drop (l1J _),hp⟩
     rw[l08];omega
   refine AN G G (CF G (SR ?_));refine q0H (q0s G G) (q00 G) G G (fun aw=>?_) (fun aw=>?_)
   . obtain⟨V,Y,Z,a0⟩:=bn Om;have hm:=multi4 (t:=t) (lo:=lo) (hi:=hi) (by rw[hcn];exact ⟨V,Y⟩) (by rw[hcn];exact Z) (by rw[hcn];exact a0);refine AN G G (CT G (SQ (SQ (q0v (m:=37) G G H ?_))));intro w H;refine ON 0 Kr G (MV G G (NA (ON 1 Kr G (ST (q0g Tu9 G) G (NA (ON 2 Kr G ?_))))));refine q0H (q0m G G) (q00 G) G G (fun ax=>?_) (fun ax=>?_)
     . have hbad:=vld_bad hne (hm.2 Om);refine NA (ON 3 Kr G (MV G G (NA (q0G (i:=4) G Kr Kr Kr (wanted_g (b:=true) G G G) G G (fun _ _=>G) (q0G (i:=5) G Kr Kr Kr (wanted_g (b:=true) G G G) G G (fun _ _=>G) (ON 6 Kr G (GT G G G (NA (ON 7 Kr G (GT G G G (NA (ON 8 Kr G (GT G G G (NA (ON 9 Kr G (PT G G G (NA (ON 10 Kr G (MV G G (NA (q0G (i:=11) G Kr Kr Kr (wanted_g (b:=true) G G G) G G (fun _ _=>G) (q0G (i:=12) G Kr Kr Kr (wanted_g (b:=true) G G G) G G (fun _ _=>G) (ON 13 Kr G (GT G G G (NA (ON 14 Kr G (GT G G G ?_)))))))))))))))))))))))))));refine NA (ON 15 Kr G (GT G G G (NA (ON 16 Kr G (PT G G G (NA (ON 17 Kr G (MV G G (NA (ON 18 Kr G (GT G G G (NA (ON 19 Kr G (GT G G G (NA (ON 20 Kr G (GT G G G (NA (ON 21 Kr G (PT G G G (NA (ON 22 Kr G (MV G G (NA (ON 23 Kr G (GT G G G (NA (ON 24 Kr G (GT G G G (NA (ON 25 Kr G (GT G G G (NA (ON 26 Kr G (PT G G G (NA (ON 27 Kr G (MV G G (NA (ON 28 Kr G (GT G G G (NA (ON 29 Kr G (GT G G G (NA (ON 30 Kr G (GT G G G (NA (ON 31 Kr G (PT G G G (NA (ON 32 Kr G (MV G G (NA (ON 33 Kr G ?_)))))))))))))))))))))))))))))))))))))))))))))))))))))));refine GT G G G (NA (ON 34 Kr G (GT G G G (NA (ON 35 Kr G (GT G G G (NA (ON 36 Kr G (PT G G G (NA (q0f Kr (TN (CT G (SR (AR G G ?_)))))))))))))));refine q07 G G H.ext ?_;exact by rw[hv,hbad]
     obtain⟨x1,K⟩ :∃x,t[1]? = some x:=⟨_,l06 Om⟩
     have a5:=nat_of K;have a6:=x1.toNat_lt;obtain⟨x2,O⟩ :∃x,t[2]? = some x:=⟨_,l06 Om⟩
     have be:=nat_of O;have bg:=x2.toNat_lt;obtain⟨x3,ab⟩ :∃x,t[3]? = some x:=⟨_,l06 Om⟩
     have bx:=nat_of ab;have bz:=x3.toNat_lt;refine NA (ON 3 Kr G (MV G G (NA (q0N (i:=4) G Kr Kr Kr (fun _=>q06 G) (q0h G G G) G G (fun _ _=>G) (q0N (i:=5) G Kr Kr Kr (fun _=>q0K Tu9 G G (K)) (q0h G G G) G G (fun _ _=>G) (ON 6 Kr G (SG (q01 Tu246 G Ts5 Dc G) G G G (NA (ON 7 Kr G ?_)))))))));first|refine q0u (q0n H rfl (by assumption) Ta5) (q0h rfl rfl rfl) rfl rfl ?_|refine q0u (XL H Ta5) (q0h rfl rfl rfl) rfl rfl ?_
     refine NA (ON 8 Kr G ?_);refine q0H (q0m G G) (q0h G G G) G G (fun ay=>?_) (fun ay=>?_)
     . have hbad:=vld_bad hne (hm.2 Om);refine NA (ON 9 Kr G (PF G G G (NA (ON 10 Kr G (MV G G (NA (q0G (i:=11) G Kr Kr Kr (wanted_g (b:=true) G G G) G G (fun _ _=>G) (q0G (i:=12) G Kr Kr Kr (wanted_g (b:=true) G G G) G G (fun _ _=>G) (ON 13 Kr G (GT G G G (NA (ON 14 Kr G (GT G G G (NA (ON 15 Kr G (GT G G G (NA (ON 16 Kr G (PT G G G (NA (ON 17 Kr G (MV G G (NA (ON 18 Kr G (GT G G G (NA (ON 19 Kr G (GT G G G (NA (ON 20 Kr G (GT G G G (NA (ON 21 Kr G (PT G G G (NA (ON 22 Kr G (MV G G (NA (ON 23 Kr G (GT G G G ?_))))))))))))))))))))))))))))))))))))))));refine NA (ON 24 Kr G (GT G G G (NA (ON 25 Kr G (GT G G G (NA (ON 26 Kr G (PT G G G (NA (ON 27 Kr G (MV G G (NA (ON 28 Kr G (GT G G G (NA (ON 29 Kr G (GT G G G (NA (ON 30 Kr G (GT G G G (NA (ON 31 Kr G (PT G G G (NA (ON 32 Kr G (MV G G (NA (ON 33 Kr G (GT G G G (NA (ON 34 Kr G (GT G G G (NA (ON 35 Kr G (GT G G G (NA (ON 36 Kr G (PT G G G (NA (q0f Kr (TN (CT G (SR (AR G G ?_))))))))))))))))))))))))))))))))))))))))))));refine q07 G G H.ext ?_;exact by rw[hv,hbad]
     refine NA (ON 9 Kr G (PF G G G (NA (ON 10 Kr G (MV G G (NA (q0N (i:=11) G Kr Kr Kr (fun _=>q01 Tu246 G Ts5 Dc G) (q0h G G G) G G (fun _ _=>G) (q0N (i:=13) G Kr Kr Kr (fun _=>q06 G) (q0h G G G) G G (fun _ _=>G) (q0N (i:=14) G Kr Kr Kr (fun _=>q0K Tu9 G G (K)) (q0h G G G) G G (fun _ _=>G) (ON 12 Kr G ?_))))))))));first|refine q0u (q0n H rfl (by assumption) Ta5) (q0h rfl rfl rfl) rfl rfl ?_|refine q0u (XL H Ta5) (q0h rfl rfl rfl) rfl rfl ?_
     refine NA (ON 15 Kr G ?_);refine q0H (q0m G G) (q0h G G G) G G (fun ac=>?_) (fun ac=>?_)
     . have hbad:=vld_bad hne (hm.2 Om);refine NA (ON 16 Kr G (PF G G G (NA (ON 17 Kr G (MV G G (NA (ON 18 Kr G (GT G G G (NA (ON 19 Kr G (GT G G G (NA (ON 20 Kr G (GT G G G (NA (ON 21 Kr G (PT G G G (NA (ON 22 Kr G (MV G G (NA (ON 23 Kr G (GT G G G (NA (ON 24 Kr G (GT G G G (NA (ON 25 Kr G (GT G G G (NA (ON 26 Kr G (PT G G G (NA (ON 27 Kr G (MV G G (NA (ON 28 Kr G (GT G G G (NA (ON 29 Kr G (GT G G G (NA (ON 30 Kr G (GT G G G (NA (ON 31 Kr G (PT G G G (NA (ON 32 Kr G (MV G G (NA (ON 33 Kr G (GT G G G (NA (ON 34 Kr G ?_)))))))))))))))))))))))))))))))))))))))))))))))))))))));refine GT G G G (NA (ON 35 Kr G (GT G G G (NA (ON 36 Kr G (PT G G G (NA (q0f Kr (TN (CT G (SR (AR G G ?_))))))))))));refine q07 G G H.ext ?_;exact by rw[hv,hbad]
     refine NA (ON 16 Kr G (PF G G G (NA (ON 17 Kr G (MV G G (NA (ON 18 Kr G (SG (q06 G) G G G (NA (ON 19 Kr G (SG (q0K Tu9 G G (O)) G G G (NA (ON 20 Kr G ?_)))))))))))));refine q0H (q0m G G) (q0h G G G) G G (fun ad=>?_) (fun ad=>?_)
     . have hbad:=vld_bad hne (hm.2 Om);refine NA (ON 21 Kr G (PF G G G (NA (ON 22 Kr G (MV G G (NA (ON 23 Kr G (GT G G G (NA (ON 24 Kr G (GT G G G (NA (ON 25 Kr G (GT G G G (NA (ON 26 Kr G (PT G G G (NA (ON 27 Kr G (MV G G (NA (ON 28 Kr G (GT G G G (NA (ON 29 Kr G (GT G G G (NA (ON 30 Kr G (GT G G G (NA (ON 31 Kr G (PT G G G (NA (ON 32 Kr G (MV G G (NA (ON 33 Kr G (GT G G G (NA (ON 34 Kr G (GT G G G (NA (ON 35 Kr G (GT G G G (NA (ON 36 Kr G (PT G G G (NA (q0f Kr (TN (CT G (SR (AR G G ?_)))))))))))))))))))))))))))))))))))))))))))))))))))));refine q07 G G H.ext ?_;exact by rw[hv,hbad]
     refine NA (ON 21 Kr G (PF G G G (NA (ON 22 Kr G (MV G G (NA (ON 23 Kr G (SG (q06 G) G G G (NA (ON 24 Kr G (SG (q0K Tu9 G G (O)) G G G (NA (ON 25 Kr G ?_)))))))))))));refine q0H (q0m G G) (q0h G G G) G G (fun ae=>?_) (fun ae=>?_)
     . have hbad:=vld_bad hne (hm.2 Om);refine NA (ON 26 Kr G (PF G G G (NA (ON 27 Kr G (MV G G (NA (ON 28 Kr G (GT G G G (NA (ON 29 Kr G (GT G G G (NA (ON 30 Kr G (GT G G G (NA (ON 31 Kr G (PT G G G (NA (ON 32 Kr G (MV G G (NA (ON 33 Kr G (GT G G G (NA (ON 34 Kr G (GT G G G (NA (ON 35 Kr G (GT G G G (NA (ON 36 Kr G (PT G G G (NA (q0f Kr (TN (CT G (SR (AR G G ?_))))))))))))))))))))))))))))))))))))));refine q07 G G H.ext ?_;exact by rw[hv,hbad]
     refine NA (ON 26 Kr G (PF G G G (NA (ON 27 Kr G (MV G G (NA (ON 28 Kr G (SG (q06 G) G G G (NA (ON 29 Kr G (SG (q0K Tu9 G G (ab)) G G G (NA (ON 30 Kr G ?_)))))))))))));refine q0H (q0m G G) (q0h G G G) G G (fun ah=>?_) (fun ah=>?_)
     . have hbad:=vld_bad hne (hm.2 Om);refine NA (ON 31 Kr G (PF G G G (NA (ON 32 Kr G (MV G G (NA (ON 33 Kr G (GT G G G (NA (ON 34 Kr G (GT G G G (NA (ON 35 Kr G (GT G G G (NA (ON 36 Kr G (PT G G G (NA (q0f Kr (TN (CT G (SR (AR G G ?_)))))))))))))))))))))));refine q07 G G H.ext ?_;exact by rw[hv,hbad]
     refine NA (ON 31 Kr G (PF G G G (NA (ON 32 Kr G (MV G G (NA (ON 33 Kr G (SG (q06 G) G G G (NA (ON 34 Kr G (SG (q0K Tu9 G G (ab)) G G G (NA (ON 35 Kr G ?_)))))))))))));refine q0H (q0m G G) (q0h G G G) G G (fun aj=>?_) (fun aj=>?_)
     . have hbad:=vld_bad hne (hm.2 Om);refine NA (ON 36 Kr G (PF G G G (NA (q0f Kr (TN (CT G (SR (AR G G ?_))))))));refine q07 G G H.ext ?_;exact by rw[hv,hbad]
     refine NA (ON 36 Kr G (PF G G G (NA (q0f Kr (TN (CF G (SK (TN (RM G G (q0B (v':=S (t.drop 4)) (q0X (i:=4) (j:=t.length) Tu9 G (.inl ⟨_,G,G⟩) (.inr ⟨G,G⟩) Om Om) (by rw[l0M]) (q00 G) G G ?_))))))))));refine AS G G (NL (IB (IB ?_)));refine q1y (t.drop 4) ⟨G,trivial⟩ ?_ ?_
     . exact⟨by rw[l08];omega,by rw[hv];exact vld_good hne (hm.1 Om),M,H.drop (l1J _),hp⟩
     rw[l08];omega
   have hbad:=vld_bad hne (multi1 (t:=t) Om (by rw[hcn];exact bi Om));refine AN G G (CF G (SR (AR G G ?_)));refine q07 G G H.ext ?_;exact by rw[hv,hbad]
 have hr:vld l=true:=by rw[hv,l0e (show t.length=0 by omega)];rfl
 refine NT (CF G (q0j (q03 (q03 (q0b (TN (SR (AR G G ?_))))))));refine q07 G G H.ext ?_;exact by rw[hr]
end Go.Proofs.YtkgohbecojnfaaaGreatDoor
end
section
namespace Go.Proofs.YtkgohbecojnfaaaGreatDoor
open Go
theorem oDisable (w:World):(callFunc 216 #[]).run Tryz.prog w = .ok (.value (.tuple #[])) w:=run_call_mark0 Tryz.func216 Kr Kr Kr .disable Kr w
theorem oEnable (w:World):(callFunc 218 #[]).run Tryz.prog w = .ok (.value (.tuple #[])) w:=run_call_mark0 Tryz.func218 Kr Kr Kr .enable Kr w
theorem oAcquire (a:Addr)(w:World):(callFunc 219 #[.pointer (some a)]).run Tryz.prog w = .ok (.value (.tuple #[])) w:=run_call_marked Tryz.func219 Kr Kr Kr .acquire Kr a w
theorem oRelease (a:Addr)(w:World):(callFunc 221 #[.pointer (some a)]).run Tryz.prog w = .ok (.value (.tuple #[])) w:=run_call_marked Tryz.func221 Kr Kr Kr .releaseMerge Kr a w
set_option maxRecDepth 100000 in
set_option maxHeartbeats 1600000 in
theorem oStore (a:Addr) (x:Value) (u:FrameMode) (w:World) (hc:w.cell? a=some x) (hz:w.frozen? a=false) :
 CallsD Tryz.prog 154 #[.pointer (some a), .bool true] u w fun e u' w'=>u'=u/\(e = .returned (.tuple #[])/\w'=w.drew.setCell a (.int .u32 1)):=by
 have hc':w.drew.cell? a=some x:=by go_simp
 have hz':w.drew.frozen? a=false:=by go_simp
 have hst:=run_call_store (P:=Tryz.prog) Tryz.func190 Kr Kr Kr Kr (k := .u32) (y:=1) hc' hz'
 go_enter_d Tryz.func154,Tryz.ntmps154
 go_wp2
 go_region_calls
 all_goals (go_end0;exact ⟨rfl,rfl⟩)
set_option maxRecDepth 100000 in
set_option maxHeartbeats 1600000 in
theorem oUnlock (a:Addr) (u:FrameMode) (w:World) (hc:w.cell? a=some (.int .i32 1)) (hz:w.frozen? a=false) :
 CallsD Tryz.prog 153 #[.pointer (some a)] u w fun e u' w'=>u'=u/\(e = .returned (.tuple #[])/\w'=w.setCell a (.int .i32 0)):=by
 have hd:=oDisable;have he:=oEnable;have hr:=oRelease;have hadd:=run_call_add (P:=Tryz.prog) Tryz.func222 Kr Kr Kr .i32 Kr (y := -1) (s:=0) hc hz (by simp [go_sem];rfl);have hcv:=run_convert_to_unsafe (P:=Tryz.prog) (src:=292) (dst:=249) Tryz.underlying292 Tu249 Kr hc
 go_enter_d Tryz.func153,Tryz.ntmps153
 go_wp2
 go_end0
 go_wp2
 go_end0
 exact⟨G,G⟩
set_option maxRecDepth 100000 in
set_option maxHeartbeats 1600000 in
theorem oLock (a:Addr) (w:World) (hc:w.cell? a=some (.int .i32 0)) (hz:w.frozen? a=false) :
 Calls Tryz.prog 152 #[.pointer (some a)] w fun e w'=>e = .returned (.tuple #[])/\w'=w.setCell a (.int .i32 1):=by
 have hd:=oDisable;have he:=oEnable;have ha:=oAcquire;have hcas:=run_call_cas_hit (P:=Tryz.prog) Tryz.func217 Kr Kr Kr .i32 Kr (y:=1) hc hz;have hc':(w.setCell a (.int .i32 1)).cell? a=some (.int .i32 1):=World.cell?_setCell_same w a _ hc;have hcv:=run_convert_to_unsafe (P:=Tryz.prog) (src:=292) (dst:=249) Tryz.underlying292 Tu249 Kr hc'
 go_enter Tryz.func152,Tryz.ntmps152
 go_wp2
 first|go_end0|(simp only[Exit.inBlock,Exit.then];refine bodyPost_ret (results_none rfl _ _ _) rfl ?_)|refine bodyPost_ret (results_none rfl _ _ _) rfl ?_
 go_wp2
 go_end0
 exact⟨G,G⟩
set_option maxRecDepth 100000 in
set_option maxHeartbeats 1600000 in
theorem oSlow (b:Nat) (w:World) (R:World->Prop)
 (J:w.cell? ⟨b,0,none⟩=some (.int .u32 0)) (V:w.cell? ⟨b,1,none⟩=some (.int .i32 0)) (Y:w.frozen? ⟨b,0,none⟩=false) (Z:w.frozen? ⟨b,1,none⟩=false)
 (hf:Calls Tryz.prog 81 #[.pointer (some ⟨b,0,none⟩)] (w.setCell ⟨b,1,none⟩ (.int .i32 1)) fun e u=>e = .returned (.tuple #[])/\R u)
 (hR :∀u,R u->u.cell? ⟨b,0,none⟩=some (.int .u32 0)/\u.cell? ⟨b,1,none⟩=some (.int .i32 1)/\u.frozen? ⟨b,0,none⟩=false/\u.frozen? ⟨b,1,none⟩=false) :
 Calls Tryz.prog 116 #[.pointer (some ⟨b,0,none⟩), .func (.func 81) #[.pointer (some ⟨b,0,none⟩)] #[]] w fun e w'=>e = .returned (.tuple #[])/\∃u,R u/\w'=((u.drew.setCell ⟨b,0,none⟩ (.int .u32 1)).setCell ⟨b,1,none⟩ (.int .i32 0)):=by
 have hl:=run_call_load (P:=Tryz.prog) Tryz.func151 Kr Kr Kr .u32 Kr (w:=w.setCell ⟨b,1,none⟩ (.int .i32 1)) (a:=⟨b,0,none⟩) (x:=0) ((World.cell?_setCell_other _ ⟨b,1,none⟩ ⟨b,0,none⟩ _ Sm).trans J);have hnot :∀(x:Bool) (w:World),(Op.unary .not (.bool x)).run Tryz.prog w = .ok (.bool (!x)) w:=fun _ _=>rfl
 go_enter_defers Tryz.func116,Tryz.ntmps116
 go_wp2_with (first|(go_at_call 152;refine (oLock ⟨b,1,none⟩ _ (by go_simp) (by go_simp)).mono ?_;rintro e w' ⟨rfl,rfl⟩)|(go_at_call 115;go_in)|(go_at_call 81;refine hf.mono ?_;rintro e u ⟨rfl,E⟩))
 obtain⟨K,N,O,U⟩:=hR _ E
 -- two deferred calls, the last laid first
 refine leaves_cons (f:=154) (args := #[.pointer (some ⟨b,0,none⟩), .bool true]) Sm (by simp [go_sem]) ?_;refine(oStore ⟨b,0,none⟩ (.int .u32 0) .returning _ K O).mono ?_;rintro e u' w'' ⟨rfl,rfl,rfl⟩;refine leaves_cons (f:=153) (args := #[.pointer (some ⟨b,1,none⟩)]) (by simp [settle]) (by simp [go_sem]) ?_;refine(oUnlock ⟨b,1,none⟩ _ _ ?_ ?_).mono ?_
 . refine(World.cell?_setCell_other _ ⟨b,0,none⟩ ⟨b,1,none⟩ _ Sm).trans ?_;rw[World.cell?_drew];exact N
 . simp [U]
 rintro e u' w'' ⟨rfl,rfl,rfl⟩;simp only[Leaves,settle,results,Tryz.results116];exact⟨_,by simp,G,u,E,G⟩
set_option maxRecDepth 100000 in
set_option maxHeartbeats 1600000 in
theorem oFirst (b:Nat) (w:World) (R:World->Prop)
 (E:w.cell? ⟨b,0,none⟩=some (.int .u32 0)) (K:w.cell? ⟨b,1,none⟩=some (.int .i32 0)) (N:w.frozen? ⟨b,0,none⟩=false) (O:w.frozen? ⟨b,1,none⟩=false)
 (hf:Calls Tryz.prog 81 #[.pointer (some ⟨b,0,none⟩)] (w.setCell ⟨b,1,none⟩ (.int .i32 1)) fun e u=>e = .returned (.tuple #[])/\R u)
 (hR :∀u,R u->u.cell? ⟨b,0,none⟩=some (.int .u32 0)/\u.cell? ⟨b,1,none⟩=some (.int .i32 1)/\u.frozen? ⟨b,0,none⟩=false/\u.frozen? ⟨b,1,none⟩=false) :
 Calls Tryz.prog 80 #[.pointer (some ⟨b,0,none⟩), .func (.func 81) #[.pointer (some ⟨b,0,none⟩)] #[]] w fun e w'=>e = .returned (.tuple #[])/\∃u,R u/\w'=((u.drew.setCell ⟨b,0,none⟩ (.int .u32 1)).setCell ⟨b,1,none⟩ (.int .i32 0)):=by
 have hl:=run_call_load (P:=Tryz.prog) Tryz.func151 Kr Kr Kr .u32 Kr E;have hnot :∀(x:Bool) (w:World),(Op.unary .not (.bool x)).run Tryz.prog w = .ok (.bool (!x)) w:=fun _ _=>rfl
 go_enter Tryz.func80,Tryz.ntmps80
 go_wp2_with (first|(go_at_call 116;refine (oSlow b _ R E K N O hf hR).mono ?_;rintro e w' ⟨rfl,u,J,rfl⟩)|(go_at_call 115;go_in))
 go_end0
 exact⟨G,u,J,G⟩
set_option maxRecDepth 100000 in
theorem oAgain (a:Addr) (d:Int) (hd :¬d=0) (fv:Value) (w:World) (u:w.cell? a=some (.int .u32 d)) :
 Calls Tryz.prog 80 #[.pointer (some a),fv] w fun e w'=>e = .returned (.tuple #[])/\w'=w:=by
 have hl:=run_call_load (P:=Tryz.prog) Tryz.func151 Kr Kr Kr .u32 Kr u;have hnot :∀(x:Bool) (w:World),(Op.unary .not (.bool x)).run Tryz.prog w = .ok (.bool (!x)) w:=fun _ _=>rfl
 have hd':(d != 0)=true:=by simp [hd]
 go_enter Tryz.func80,Tryz.ntmps80
 go_wp2
 go_end0
 exact⟨G,G⟩
end Go.Proofs.YtkgohbecojnfaaaGreatDoor
end
section
namespace Go.Ph.Pf
def pcOk (p:Ls × Int × Bool × Ls):Prop := -1<=p.2.1/\p.2.1<=1099511627776
instance (p : Ls × Int × Bool × Ls):Decidable (pcOk p):=by unfold pcOk;infer_instance
def PcB : Type:={p:Ls × Int × Bool × Ls // pcOk p}
instance : Inhabited PcB:=⟨⟨([],0,false,[]),by decide⟩⟩
def mkB (p:Ls × Int × Bool × Ls):PcB:=if h:pcOk p then⟨p,h⟩ else default
def ltB (x y:PcB):Bool:=decide (x.1.2.1-y.1.2.1<0)
def sortP (l:List (Ls × Int × Bool × Ls)):List (Ls × Int × Bool × Ls):=(Sort.pdq ltB (l.map mkB).toArray 0 l.length (Lib.bitLen l.length) true true).toList.map (fun x=>x.1)
def insP (x:Ls × Int × Bool × Ls):List (Ls × Int × Bool × Ls)->List (Ls × Int × Bool × Ls)
 | []=>[x]
 | y::r=>if x.2.1<y.2.1 then x::y::r else y::insP x r
def isoP : List (Ls × Int × Bool × Ls)->List (Ls × Int × Bool × Ls)
 | []=>[]
 | x::r=>insP x (isoP r)
def Y0D (p0:List (Ls × Int × Bool × Ls)):Option (List (Ls × Int × Bool × Ls)) :=
 if (∀p∈p0,pcOk p)/\p0.length<=1000000/\p0≠ [] then(if (p0.map fun p=>p.2.1).Nodup then some (isoP p0) else some (sortP p0)) else none
end Go.Ph.Pf
end
section
namespace Go.Ph.Pf
open Go
abbrev Pce : Type:=Ls × Int × Bool × Ls
theorem swoB : Sort.SWO ltB:=by
 refine⟨fun x=>?_,fun x y z=>?_,fun x y z=>?_⟩
 . unfold ltB;simp
 . unfold ltB;simp only[decide_eq_true_eq];omega
 unfold ltB;simp only[decide_eq_false_iff_not];omega
theorem mkB_val {p:Pce}(h:pcOk p):(mkB p).1=p:=by
 have u:mkB p=⟨p,h⟩:=dif_pos h;rw[u]
theorem map_mkB {l:List Pce}(h :∀p∈l,pcOk p):(l.map mkB).map (fun x=>x.1)=l:=by
 rw[l3c]
 conv=>rhs;rw [<-List.map_id l]
 exact l2K fun p hp=>mkB_val (h p hp)
theorem pdqB (d:Array PcB):(Sort.pdq ltB d 0 d.size (Lib.bitLen d.size) true true).size=d.size/\(Sort.pdq ltB d 0 d.size (Lib.bitLen d.size) true true).toList.Perm d.toList/\Sort.SortedIn ltB 0 d.size (Sort.pdq ltB d 0 d.size (Lib.bitLen d.size) true true):=by
 have h:=Sort.pdq_sorts ltB swoB d 0 d.size (Lib.bitLen d.size) true true (l0x _) (l0b _) (Or.inl rfl);obtain⟨⟨u,_,E⟩,J⟩:=h;refine⟨u,?_,J⟩;revert u E;generalize Sort.pdq ltB d 0 d.size (Lib.bitLen d.size) true true=X;intro u E;have K:X.extract 0 d.size=X:=by rw[<-u];simp
 have N:d.extract 0 d.size=d:=by simp
 rw[K,N] at E;exact E
def leP (a b:Pce):Prop:=a.2.1<=b.2.1
theorem sortP_perm {l:List Pce}(h :∀p∈l,pcOk p):(sortP l).Perm l:=by
 have u:=(pdqB (l.map mkB).toArray).2.1;simp only[l1F,l0w] at u;have E:=u.map (fun x:PcB=>x.1);rw[map_mkB h] at E;exact E
theorem sortP_sorted {l:List Pce}(h :∀p∈l,pcOk p):(sortP l).Pairwise leP:=by
 have E:=pdqB (l.map mkB).toArray;simp only[l1F,l0w] at E;obtain⟨J,_,u⟩:=E;unfold sortP;revert J u;generalize Sort.pdq ltB (l.map mkB).toArray 0 l.length (Lib.bitLen l.length) true true=X;intro J u;rw[List.pairwise_iff_getElem];intro i j hi hj hij;simp only[l0w,l1y] at hi hj;have:=u i j (l0x _) hij Om;rw[getElem!_pos _ i Om,getElem!_pos _ j Om] at this;unfold ltB at this;simp only[decide_eq_false_iff_not] at this;simp only[List.getElem_map,Array.getElem_toList];unfold leP;omega
theorem insP_perm (x:Pce):∀l,(insP x l).Perm (x::l)
 | []=>List.Perm.refl _
 | y::r=>by
   rw[insP];split
   . exact List.Perm.refl _
   exact((insP_perm x r).cons y).trans (List.Perm.swap x y r)
theorem isoP_perm :∀l,(isoP l).Perm l
 | []=>List.Perm.refl _
 | x::r=>(insP_perm x (isoP r)).trans ((isoP_perm r).cons x)
theorem insP_sorted (x:Pce):∀l,l.Pairwise leP->(insP x l).Pairwise leP
 | [],_=>by rw[insP];exact List.pairwise_singleton _ _
 | y :: r,h=>by
   obtain⟨u,E⟩:=l0U.1 h;rw[insP];split
   . rename_i hlt;refine l0U.2 ⟨fun z hz=>?_,h⟩;unfold leP at u ⊢;rcases l0k.1 hz with rfl|hz
     . omega
     have:=u z hz;omega
   rename_i hlt;refine l0U.2 ⟨fun z hz=>?_,insP_sorted x r E⟩;unfold leP at u ⊢;rcases l0k.1 ((insP_perm x r).mem_iff.1 hz) with rfl|hz
   . omega
   exact u z hz
theorem isoP_sorted :∀l,(isoP l).Pairwise leP
 | []=>List.Pairwise.nil
 | x::r=>insP_sorted x _ (isoP_sorted r)
theorem nodup_inj :∀{l:List Pce},(l.map fun p=>p.2.1).Nodup->∀a∈l,∀b∈l,a.2.1=b.2.1->a=b
 | [],_,a,ha,_,_,_=>by cases ha
 | x :: r,h,a,K,b,J,e=>by
   rw[l0p,l3u] at h;rcases l0k.1 K with E|E
   . rcases l0k.1 J with u|u
     . rw[E,u]
     rw[E] at e;exact absurd (l0Z.2 ⟨b,u,e.symm⟩) h.1
   rcases l0k.1 J with u|u
   . rw[u] at e;exact absurd (l0Z.2 ⟨a,E,e⟩) h.1
   exact nodup_inj h.2 a E b u e
theorem uniqP :∀{a b:List Pce},a.Perm b->a.Pairwise leP->b.Pairwise leP->(a.map fun p=>p.2.1).Nodup->a=b
 | [],b,hp,_,_,_=>by rw[List.nil_perm.1 hp]
 | x::r,[],hp,_,_,_=>absurd hp.length_eq Sm
 | x::r,y::s,hp,ha,hb,hn=>by
   obtain⟨u,J⟩:=l0U.1 ha;obtain⟨E,K⟩:=l0U.1 hb;have hx:x∈y::s:=hp.mem_iff.1 l0o;have hy:y∈x::r:=hp.mem_iff.2 l0o;have hxy:x=y:=by
    refine nodup_inj hn x l0o y hy ?_;unfold leP at u E;rcases l0k.1 hx with e|e
    . rw[e]
    rcases l0k.1 hy with e'|e'
    . rw[e']
    have N:=E x e;have O:=u y e';omega
   subst hxy;rw[l0p,l3u] at hn;rw[uniqP ((List.perm_cons x).1 hp) J K hn.2]
theorem sort_some {p0 r:List Pce}(h:Y0D p0=some r):(∀p∈p0,pcOk p)/\p0.length<=1000000/\p0≠ []/\r=sortP p0:=by
 unfold Y0D at h;split at h
 . rename_i hb;refine⟨hb.1,hb.2.1,hb.2.2,?_⟩;split at h
   . rename_i hn;cases h;exact(uniqP ((sortP_perm hb.1).trans (isoP_perm p0).symm) (sortP_sorted hb.1) (isoP_sorted p0) (((sortP_perm hb.1).map _).nodup_iff.2 hn)).symm
   cases h;rfl
 cases h
end Go.Ph.Pf
end
section
namespace Go.Ph
open Go Go.RowKit Go.Sort Go.Proofs
variable {α : Type} [Inhabited α] {enc : α → List Value} {k : Nat}
theorem flatK_list (u :∀x,(enc x).length=k)(hk:0<k)(l:List α):(flatK enc k l.toArray).toList=l.flatMap enc:=by
 apply l1O;intro t;by_cases ht:t<l.length*k
 . have hi:t / k<l.length:=Nat.div_lt_of_lt_mul (by rw[l2V];exact ht);have hj:t % k<k:=l2A _ hk;have K:l[t / k]? = some (l[t / k]'hi):=l06 _;have N:(enc (l[t / k]'hi))[t % k]? = some ((enc (l[t / k]'hi))[t % k]'(by rw[u];exact hj)):=l06 _;have E:=flat_at u l _ _ _ _ K N;rw[show t / k*k+t % k=t by rw[l2V];exact Nat.div_add_mod t k] at E;rw[E,l2k];have hs:t<(flatK enc k l.toArray).size:=by simpa using ht
   rw[Array.getElem?_eq_getElem hs];have J:=get_flatK enc k l.toArray t (by simpa using ht);rw[getElem!_pos _ t hs] at J;rw[J];have O:l.toArray[t / k]! = l[t / k]'hi:=by rw[getElem!_pos _ _ (by simpa using hi)];simp
   rw[O,getElem!_pos _ _ (by rw[u];exact hj)]
 rw[l1R (by simpa using l3n ht),l1R (by rw[flat_len u];omega)]
theorem holdsK_row {w:World}{g:Nat}{cur:Array Value}{e:TypeId}{l:List α}(E :∀x,(enc x).length=k)(hk:0<k)(hb:w.heap[g]? = some (.cells cur e (0,0)))(ht:cur.toList.take (l.length*k)=l.flatMap enc):HoldsK enc k w g 0 l.toArray:=by
 intro j hj;have hj':j<l.length*k:=by simpa using hj
 refine⟨?_,by simp [World.frozen?,hb]⟩;have u:(cur.toList.take (l.length*k))[j]? =(flatK enc k l.toArray).toList[j]? := by rw[ht,flatK_list E hk]
 rw[l2H hj'] at u;simp only[World.cell?,hb,l0D];simp only[l2N,l0y,if_false];rw[<-l2k,u,l2k,Array.getElem?_eq_getElem hj];rw[getElem!_pos (flatK enc k l.toArray) j hj];rfl
theorem sortWorldK_heap {w:World}{g n:Nat}{os:Array Obj}{cur:Array Value}{e:TypeId}{fr:Nat × Nat}(d:Array α)(hb:w.heap[g]? = some (.cells cur e fr)):
 (sortWorldK enc k w g 0 n d os).heap[g]? = some (.cells (putCells id 0 (flatK enc k d) cur) e fr):=by
 have hg:g<w.heap.size:=(l0T.1 hb).1;unfold sortWorldK putRowK;rw[heap_grow_old _ _ (by simpa using hg)];simp [putRow,mapBlock,Sort.ahead,l1S,hb,onCells]
theorem grownBy_sortedK {w:World}{g n:Nat}{os:Array Obj}(d:Array α):w.grownBy (sortWorldK enc k w g 0 n d os) (some g):=by
 unfold sortWorldK putRowK;refine⟨G,G,G,by simp,fun q hq hne=>?_⟩;rw[heap_grow_old _ _ (by simpa using hq)];have:g≠q:=fun e=>hne (by rw[e])
 simp [putRow,mapBlock,Sort.ahead,l1S,this]
theorem take_putCellsK (cur F:Array Value)(h:F.size<=cur.size):(putCells id 0 F cur).toList.take F.size=F.toList:=by
 apply l1O;intro j;by_cases hj:j<F.size
 . rw[l2H hj,l2k];simp [putCells,hj,show j<cur.size by omega]
 rw[List.getElem?_take_eq_none Om,l1R Ow]
theorem StX.sorted {C:Nat->Prop}{u w:World}{M0 M:Mem}{L L':List Item}{β:Type}{encB:β->List Value}{t:TypeId}{g cap n:Nat}{os:Array Obj}{l l':List β}{d:List α}(H:StX C u M0 M L w)(J :∀x,(enc x).length=k)(E :∀x,(encB x).length=k)(hk:0<k)
 (hu:Upd L (RowS t k encB (.slice (some ⟨g,0,none⟩) l.length cap) l) (RowS t k encB (.slice (some ⟨g,0,none⟩) l.length cap) l') L') (hl:l'.length=l.length) (hd:d.flatMap enc=l'.flatMap encB) (hdl:d.length=l.length) :
 StX C u M0 M L' (sortWorldK enc k w g 0 n d.toArray os):=by
 have hrow:=H.rowOf hu.mem;rcases hrow.2 with ⟨hv,_⟩|⟨g',cap',cur,hv,_,hg,hnc,hcm,hcs,_⟩
 . cases hv
 cases hv;refine H.upd hu (grownBy_sortedK _) ?_ (fun b hb => .inl hb);have hF:(flatK enc k d.toArray).size=l.length*k:=by simp [hdl]
 refine⟨by rw[flat_len E], .inr ⟨g,cap,_,by rw[hl],l0x _,sortWorldK_heap _ hg,by rw[hl];exact hnc,hcm,by simp [putCells,hcs],?_⟩⟩;rw[hl,<-hF,take_putCellsK _ _ (by rw[hF,hcs];exact l1C _ hnc),flatK_list J hk,hd]
end Go.Ph
end
section
namespace Go.Proofs
open Go.Shelf
def Tryz.lsort_ren : Go.Shelf.Ren:=⟨fun|6=>229|15=>249|14=>248|28=>269|29=>178|20=>261|21=>262|22=>263|23=>264|24=>265|25=>266|26=>267|27=>268|46=>273|47=>274|48=>275|49=>276|50=>277|57=>280|n=>n,fun|22=>237|24=>239|25=>304|3=>3|39=>167|0=>0|53=>128|55=>33|4=>4|46=>331|45=>330|50=>278|5=>5|9=>9|66=>341|70=>345|76=>350|77=>351|n=>n,fun|n=>n⟩
theorem Tryz.lsort : Go.Proofs.SlLaysF0.n6 Tryz.prog Tryz.lsort_ren:={
 mixed:=by kernel_rfl
 f6:=⟨Tryz.f229.name,by decide,Tryz.func229.trans Ks⟩
 f14:=⟨Tryz.f248.name,by decide,Tryz.func248.trans Ks⟩
 f15:=Tryz.func249.trans Ks
 f20:=⟨Tryz.f261.name,by decide,Tryz.func261.trans Ks⟩
 f21:=⟨Tryz.f262.name,by decide,Tryz.func262.trans Ks⟩
 f22:=⟨Tryz.f263.name,by decide,Tryz.func263.trans Ks⟩
 f23:=⟨Tryz.f264.name,by decide,Tryz.func264.trans Ks⟩
 f24:=⟨Tryz.f265.name,by decide,Tryz.func265.trans Ks⟩
 f25:=⟨Tryz.f266.name,by decide,Tryz.func266.trans Ks⟩
 f26:=⟨Tryz.f267.name,by decide,Tryz.func267.trans Ks⟩
 f27:=⟨Tryz.f268.name,by decide,Tryz.func268.trans Ks⟩
 f28:=Tryz.func269.trans Ks
 f29:=Tf178.trans Ks
 f46:=⟨Tryz.f273.name,by decide,Tryz.func273.trans Ks⟩
 f47:=Tryz.func274.trans Ks
 f48:=Tryz.func275.trans Ks
 f49:=⟨Tryz.f276.name,by decide,Tryz.func276.trans Ks⟩
 f50:=⟨Tryz.f277.name,by decide,Tryz.func277.trans Ks⟩
 f57:=⟨Tryz.f280.name,by decide,Tryz.func280.trans Ks⟩
 t0:=Tu0
 a0:=Ta0
 z0:=Ts0
 v0:=Tz0
 t3:=Tu3
 a3:=Ta3
 z3:=Ts3
 v3:=Tz3
 t4:=Tu4
 a4:=Ta4
 z4:=Ts4
 v4:=Tz4
 t5:=Tu5
 a5:=Ta5
 z5:=Ts5
 v5:=Tz5
 t9:=Tu9
 a9:=Ta9
 z9:=Ts9
 v9:=Tz9
 t22:=Tu237
 a22:=Tryz.isAgg237
 z22:=Tryz.sizeOf237
 v22:=Tryz.zeroValue237
 t25:=Tryz.underlying304
 a25:=Tryz.isAgg304
 z25:=Tryz.sizeOf304
 v25:=Tryz.zeroValue304
 t39:=Tu167
 a39:=Ta167
 z39:=Ts167
 v39:=Tz167
 t45:=Tryz.underlying330
 a45:=Tryz.isAgg330
 z45:=Tryz.sizeOf330
 v45:=Tryz.zeroValue330
 t46:=Tryz.underlying331
 a46:=Tryz.isAgg331
 z46:=Tryz.sizeOf331
 v46:=Tryz.zeroValue331
 t50:=Tryz.underlying278
 a50:=Tryz.isAgg278
 z50:=Tryz.sizeOf278
 v50:=Tryz.zeroValue278
 t53:=Tu128
 a53:=Ta128
 z53:=Ts128
 v53:=Tz128
 t55:=Tu33
 a55:=Ta33
 z55:=Ts33
 v55:=Tz33
 t66:=Tryz.underlying341
 a66:=Tryz.isAgg341
 z66:=Tryz.sizeOf341
 v66:=Tryz.zeroValue341
 t70:=Tryz.underlying345
 a70:=Tryz.isAgg345
 z70:=Tryz.sizeOf345
 v70:=Tryz.zeroValue345
 t76:=Tryz.underlying350
 a76:=Tryz.isAgg350
 z76:=Tryz.sizeOf350
 v76:=Tryz.zeroValue350
 t77:=Tryz.underlying351
 a77:=Tryz.isAgg351
 z77:=Tryz.sizeOf351
 v77:=Tryz.zeroValue351}
end Go.Proofs
end
section
namespace Go.Proofs.YtkgohbecojnfaaaGreatDoor
open Go Go.RowKit Go.Ph Go.Ph.Pl Go.Ph.Pf Go.Sort Go.Proofs
abbrev encPc (p:Pce):List Value:=[S p.1,I p.2.1,Value.bool p.2.2.1,S p.2.2.2]
abbrev encPB (x:PcB):List Value:=encPc x.1
def cfB (x y:PcB):Int:=x.1.2.1-y.1.2.1
set_option maxRecDepth 100000 in
set_option maxHeartbeats 1600000 in
theorem cmpRaw (J K N O:Value) (U V:Bool) (u E:Int) (hr:IntKind.i64.wrap (u-E)=u-E) (Y:J.oneCell'=true) (Z:K.oneCell'=true) (h3:N.oneCell'=true) (h4:O.oneCell'=true) (W:World):Calls Tryz.prog 230 #[.agg #[J, .int .i64 u, .bool U,K], .agg #[N, .int .i64 E, .bool V,O]] W fun e w'=>e = .returned (.int .i64 (u-E))/\∃q os',w'=grow (W.drewN q) os':=by
 go_enter Tryz.func230,Tryz.ntmps230
 go_wp2
 go_ret
 refine⟨?_,0,_,by rw[alloc_eq_grow,alloc_eq_grow,grow_grow];rfl⟩;first|rw[hr]|simp [hr]|rfl
theorem cmpP (x y:PcB)(W:World):Calls Tryz.prog 230 (#[.agg (encPB x).toArray, .agg (encPB y).toArray] ++ #[]) W fun e w'=>e = .returned (.int .i64 (cfB x y))/\∃q os',w'=grow (W.drewN q) os':=by
 have hx:=x.2;have hy:=y.2;unfold pcOk at hx hy;exact cmpRaw _ _ _ _ _ _ _ _ (by simp [IntKind.wrap,IntKind.bits,IntKind.signed];omega) G G G G W
theorem swoC : SWO (ltOf cfB):=swoB
theorem onePB :∀(x:PcB),∀v∈encPB x,v.oneCell'=true:=by
 intro x v hv;simp only[l0k,l1x,or_false] at hv;rcases hv with rfl|rfl|rfl|rfl <;> rfl
theorem sortPiece_ct {p0 r:List Pce}{u:Value}(h:Y0D p0=some r):CtX Tryz.prog 229 [u, .func (.func 230) #[] #[]] [RowS 239 4 encPc u p0] (fun _=>True) (fun v M its=>v = .tuple #[]/\its=[RowS 239 4 encPc u r]):=by
 obtain⟨hok,hlen,hne,rfl⟩:=sort_some h;refine⟨enters Tryz.func229 Kr G,fun w M H _=>?_⟩;rcases(H.rowOf (List.Mem.head _)).2 with ⟨_,hn⟩|⟨g,cap,cur,rfl,E,hg,hnc,hcm,hcs,htk⟩
 . exact absurd (l0e hn) hne
 have hfl:(p0.map mkB).flatMap encPB=p0.flatMap encPc:=by
  rw[List.flatMap_map];have :∀(l:List Pce),(∀p∈l,pcOk p)->l.flatMap (fun a=>encPB (mkB a))=l.flatMap encPc:=by
   intro l;induction l with
   | nil=>intro _;rfl
   | cons a l ih =>
     intro hl;rw[l0v,l0v,ih (fun p hp=>hl p (l0t _ hp))];show encPc (mkB a).1++_=_
     rw[mkB_val (hl a l0o)]
  exact this p0 hok
 have hs:(p0.map mkB).toArray.size=p0.length:=by simp
 have hH:HoldsK encPB 4 w g 0 (p0.map mkB).toArray:=holdsK_row (fun _=>rfl) Dc hg (by rw[l0w,htk,hfl]);have eg :∀args w,(callFunc 230 args).run Tryz.prog w = .ok (.enter 230 args) w:=enters_of Tryz.func230 Kr rfl;have hlt:g<w.heap.size:=(l0T.1 hg).1;have hc:=AnyQ.slices_SortFunc_eq Tryz.lsort 4 Ta239 Ts239 encPB (fun _=>rfl) onePB cfB swoC 230 #[] g 0 cap (p0.map mkB).toArray w eg (fun m os dk _ x y=>cmpP x y _) hH hlt (by rw[hs];omega);have hp:=pdqB (p0.map mkB).toArray;rw[hs] at hc hp;change Calls Tryz.prog 229 _ _ _ at hc;have hsort:sortP p0=(pdq ltB (p0.map mkB).toArray 0 p0.length (Lib.bitLen p0.length) true true).toList.map (fun x=>x.1):=rfl;have hsame:pdq (ltOf cfB) (p0.map mkB).toArray 0 p0.length (Lib.bitLen p0.length) true true=pdq ltB (p0.map mkB).toArray 0 p0.length (Lib.bitLen p0.length) true true:=rfl;rw[hsame] at hc;revert hp hsort hc;generalize pdq ltB (p0.map mkB).toArray 0 p0.length (Lib.bitLen p0.length) true true=X;intro hp hc hsort;refine hc.mono ?_;rintro e w' ⟨rfl,n,os,rfl⟩;refine⟨_,M,_,G,?_,G,G⟩;have hX:X.toList.length=p0.length:=by rw[l1y];exact hp.1
 have:=H.sorted (enc:=encPB) (k:=4) (encB:=encPc) (n:=n) (os:=os) (l':=sortP p0) (d:=X.toList) (fun _=>rfl) (fun _=>rfl) Dc Upd.head (by rw[hsort,l0w];exact hX) (by rw[hsort,List.flatMap_map]) hX;simpa using this
end Go.Proofs.YtkgohbecojnfaaaGreatDoor
end
section
namespace Go.Ph.Pl
theorem u8_lit (c n:UInt8):c=n↔c.toNat=n.toNat:=UInt8.toNat_inj.symm
theorem drop_cons {α:Type}{l:List α}{i:Nat}(h:i<l.length):l.drop i=l[i]::l.drop (i+1):=l0r h
theorem scanL {α β:Type}(L:Nat->Int->Option β)(l:List α)(p:α->Bool)(stop r:β)(hend :∀m,L (m+1) (l.length:Int)=some stop)
 (hstep :∀m i (h:i<l.length),L (m+1) (i:Int)=if p l[i]=true then some r else L m ((i+1:Nat):Int)) :
 ∀(k i m:Nat),l.length-i<=k->k<m->i<=l.length->L m (i:Int)=some (if (l.drop i).any p=true then r else stop)
 | 0,i,m,u,E,J=>by
   obtain⟨m,rfl⟩ :∃k,m=k+1:=⟨m-1,by omega⟩
   obtain rfl:i=l.length:=by omega
   rw[hend,l0I];rfl
 | k + 1,i,m,u,E,J=>by
   obtain⟨m,rfl⟩ :∃k,m=k+1:=⟨m-1,by omega⟩
   by_cases hi:i<l.length
   . rw[hstep m i hi,drop_cons hi,l2M];by_cases hp:p l[i]=true
     . rw[l01 hp,hp];rfl
     rw[l00 hp,scanL L l p stop r hend hstep k (i+1) m Om Om Om];have:p l[i]=false:=by simpa using hp
     rw[this];rfl
   obtain rfl:i=l.length:=by omega
   rw[hend,l0I];rfl
theorem scan0 {α β:Type}{L:Nat->Int->Option β}{l:List α}{p:α->Bool}{stop r:β}{m:Nat}(hm:l.length<m)(hend :∀m,L (m+1) (l.length:Int)=some stop)
 (hstep :∀m i (h:i<l.length),L (m+1) (i:Int)=if p l[i]=true then some r else L m ((i+1:Nat):Int)):L m 0=some (if l.any p=true then r else stop):=by
 have:=scanL L l p stop r hend hstep l.length 0 m Om hm Om;simpa using this
theorem scanP {α β:Type}(L:Nat->Int->Option β)(l:List α)(p:Nat->α->Option β)(stop:β)(hend :∀m,L (m+1) (l.length:Int)=some stop)
 (hstep :∀m i (h:i<l.length),L (m+1) (i:Int)=match p i l[i] with|some r=>some r|none=>L m ((i+1:Nat):Int)) :
 ∀(k i m:Nat),l.length-i<=k->k<m->i<=l.length->
  (∃(j:Nat) (hj:j<l.length) (r:β),i<=j/\p j l[j]=some r/\(∀(a:Nat) (ha:a<l.length),i<=a->a<j->p a l[a]=none)/\L m (i:Int)=some r)∨
  ((∀(a:Nat) (ha:a<l.length),i<=a->p a l[a]=none)/\L m (i:Int)=some stop)
 | 0,i,m,u,E,N=>by
   obtain⟨m,rfl⟩ :∃k,m=k+1:=⟨m-1,by omega⟩
   obtain rfl:i=l.length:=by omega
   exact .inr ⟨fun a ha hi=>by omega,hend m⟩
 | k + 1,i,m,u,E,N=>by
   obtain⟨m,rfl⟩ :∃k,m=k+1:=⟨m-1,by omega⟩
   by_cases hi:i<l.length
   . cases hp:p i l[i] with
     | some r=>exact .inl ⟨i,hi,r,l0b _,hp,fun a ha u E=>by omega,by rw[hstep m i hi,hp]⟩
     | none =>
       rw[hstep m i hi,hp];rcases scanP L l p stop hend hstep k (i+1) m Om Om Om with ⟨j,hj,r,K,J,O,U⟩|⟨K,J⟩
       . refine .inl ⟨j,hj,r,by omega,J,fun a ha u E=>?_,U⟩;rcases Nat.eq_or_lt_of_le u with rfl|u
         . exact hp
         exact O a ha u E
       refine .inr ⟨fun a ha u=>?_,J⟩;rcases Nat.eq_or_lt_of_le u with rfl|u
       . exact hp
       exact K a ha u
   obtain rfl:i=l.length:=by omega
   exact .inr ⟨fun a ha hi=>by omega,hend m⟩
theorem FU_gt {n:Nat}(h:n<=9223372036854775807):n<FU:=by rw[FU_eq];omega
end Go.Ph.Pl
end
