/-
  Glo, Cl, Rpl, Tbl, Tv, Als, Shelf, Card, Open, Opf, Opg, Opml, Qa, Rl, Any, Dfr, Bor, Dx, Ux, Itr, Grw, Box, Mpl, Bit, Map, Mpr, Bob, Mat, Lp, Kpf: own texts of this repository (wip/tpl, wip/plans), merged and shaken by wip/tools/pack.py.
-/
import Derived.Lib.LaidTab
import Derived.Lib.LaidU8
import Derived.Shelf.Vars
import Derived.Lay
import Derived.Lib.LazyBuf
import Derived.Laws.CopyRow
import Derived.Laws.IdiomCopy
import Derived.Test.YtgicephoflppiaaGreatDoorProg
import Derived.Shelf.Strings.Builder1
import Derived.Shelf.Strings.Builder2
import Derived.Shelf.Strings.OnBuilder
import Derived.Shelf.Small.Utf8
import Derived.Shelf.Small.Strs
import Derived.Shelf.Strings.BuilderF
import Derived.Shelf.Strings.BuilderK
import Derived.Shelf.Strings.Builder2Cap
import Derived.Shelf.Strconv.Atoi
import Derived.Shelf.Strconv.Itoa0
import Derived.Shelf.Strconv.Itoa1
import Derived.Shelf.LaysM
import Derived.Shelf.Strconv.Itoa2
import Derived.Shelf.Strconv.Itoa3
import Derived.Shelf.Strconv.AtoiErrFast
import Derived.Shelf.Strconv.ParseIntEmpty
import Derived.Shelf.Strconv.AtoiFail
import Derived.Shelf.Strconv.Clone
import Derived.Shelf.Strconv.SyntaxError
import Derived.Shelf.LaysC
import Derived.Shelf.Strconv.ToError
import Derived.Shelf.Strconv.AtoiErr
import Derived.Shelf.Strconv.ErrVar
import Derived.Shelf.Strconv.Lower
import Derived.Shelf.Strconv.ParseUint10
import Derived.Shelf.Strconv.ParseUint10Empty
import Derived.Shelf.Strconv.ParseUint10Any
import Derived.Shelf.Strconv.ParseInt10
import Derived.Shelf.Strconv.AtoiLong
import Derived.Shelf.Strconv.AtoiInnerAll
import Derived.Shelf.Strconv.RangeError
import Derived.Shelf.Strconv.ToErrorRange
import Derived.Shelf.Strconv.AtoiAll
import Derived.Shelf.Strconv.ErrVarAll
import Derived.Shelf.Strconv.ParseUintEmpty
import Derived.Shelf.Strconv.ParseUint10b64
import Derived.Shelf.Strconv.ParseUint10b32
import Derived.Shelf.Strconv.ParseUint10b16
import Derived.Shelf.Strconv.ParseUint10b8
import Derived.Shelf.Strconv.ParseUint10At
import Derived.Shelf.Strconv.ParseInt10At64
import Derived.Shelf.Strconv.ParseInt10At32
import Derived.Shelf.Strconv.ParseInt10At16
import Derived.Shelf.Strconv.ParseInt10At8
import Derived.Shelf.Strconv.ParseInt10All
import Derived.Shelf.Strings.Search1
import Derived.Shelf.Strings.Search2
import Derived.Shelf.Strings.Search3
import Derived.Shelf.Strings.Cut
import Derived.Shelf.Strings.Shaped
import Derived.Shelf.Strings.Prefix
import Derived.Shelf.Strings.Runes
import Derived.Shelf.Strings.IndexAny
import Derived.Shelf.Strings.AsciiSet
import Derived.Shelf.Strings.IndexAnyAll
import Derived.Shelf.Bits.Mul64
import Derived.Shelf.Strings.Repeat
import Derived.Shelf.Strings.BuilderCap
import Derived.Shelf.Slices.Turned
import Derived.Shelf.Bytes.SlIndexSmall
import Derived.Shelf.Bytes.SlIndexAt
import Derived.Shelf.Bytes.SlSearch0
import Derived.Shelf.Bytes.SlSearch1
import Derived.Shelf.Bytes.SlSearch2
import Derived.Shelf.Bytes.SlIndexWhole
import Derived.Shelf.Bytes.SlEqualAll
import Derived.Shelf.Bytes.Small
import Derived.Shelf.Bytes.IndexByte
import Derived.Test.YtgicephoflppiaaGreatDoorRows
import Derived.Deep.DeepHandedRow
import Derived.KernelRfl
import Derived.Deep.Slices
import Derived.ChangeMaps5
import Derived.ChangeSame
import Derived.RecoverIn
import Derived.DefersIn
import Derived.Lib.AppendZerosOnto
import Derived.Maps.RangeRun
import Derived.Maps.RangeWalk
import Derived.Test.YtgicephoflppiaaGreatDoorE3a
set_option maxRecDepth 100000
set_option linter.unusedVariables false
set_option linter.unusedSimpArgs false
section
namespace Go.Ph
open Go Go.RowKit
theorem var_up {P:Program}{W w:World}(ha:Ag (memOf W) w){n:String}{cs:Array Value}(h:W.var? P n=some cs):w.var? P n=some cs:=by
 unfold World.var? at h ⊢;cases hg:P.globalNamed n with
 | none=>rw[hg] at h;cases h
 | some g =>
   rw[hg] at h;simp only[Option.bind_eq_bind,l0R] at h ⊢;cases hb:W.heap[g]? with
   | none=>rw[hb] at h;cases h
   | some o=>rw[ha g o hb];rw [hb] at h;exact h
theorem cell_upM {W w:World}(ha:Ag (memOf W) w){p:Addr}{v:Value}(h:W.cell? p=some v):w.cell? p=some v:=by
 unfold World.cell? at h ⊢;cases hb:W.heap[p.block]? with
 | none=>rw[hb] at h;cases h
 | some o=>rw[ha p.block o hb];rw [hb] at h;exact h
theorem tab_of_reads {P:Program}{W:World}{n:String}{k:IntKind}{zs:List Int}{g len:Nat}{t e:TypeId}(h:Lib.VarReads P W n (Lib.tabData k zs))
 (hg:P.globalNamed n=some g) (hty:(P.globals[g]?).map (·.type)=some t) (ht:P.underlying t=some (.array len e)) (he:P.underlying e=some (.int k)) (hce:P.cellsOf e=1) (hct:P.cellsOf t=len):GlF (fun w=>Lib.TabIs P w n k zs) (memOf W):=by
 obtain⟨g',t',cs,fuel,p,hg',ht',hvar,hd⟩:=h;obtain rfl:=oI (hg.symm.trans hg');obtain rfl:=oI (hty.symm.trans ht');intro w ha;have:=var_up ha hvar;unfold Lib.TabIs;rw[this,←Lib.cells_of_tab ht he hce hct hd]
theorem iface_of_reads {P:Program}{W:World}{n:String}{nm:String}{d:DataW Unit}{g:Nat}{t:TypeId}(h:Lib.VarReads P W n (.iface nm d))
 (hg:P.globalNamed n=some g) (hty:(P.globals[g]?).map (·.type)=some t) (ht:P.underlying t=some (.interface (P.methodsAt t))):GlF (fun w =>∃tp p,w.var? P n=some #[.iface tp p]) (memOf W):=by
 obtain⟨g',t',cs,fuel,p,hg',ht',hvar,hd⟩:=h;obtain rfl:=oI (hg.symm.trans hg');obtain rfl:=oI (hty.symm.trans ht');intro w ha;have hup:=var_up ha hvar;cases fuel with
 | zero=>cases hd
 | succ fuel =>
   simp only[DataW.trod,ht] at hd;split at hd <;> try (simp_all;done)
   rename_i u v hh hcs;exact⟨u,v,by rw[hup];congr 1;cases cs;simp_all⟩
end Go.Ph
end
section
namespace Go.Ph
open Go Go.RowKit Pl
section
variable {C : Nat → Prop} {r : Option Nat} {P : Program} {ops : Array Oper} {Q : Exit → Act → World → Prop} {n : Nat} {D : List Deferred} {rest : List Oper} {e : Env} {w0 w : World} {M0 M : Mem} {L L' : List Item} {d : Nat} {v z : Value}
  {x y : Operand} {ty t ts tt : TypeId} {pos : String} {af : Array Edge} {g : Option (Nat × Bool)} {α : Type} {enc : α → List Value} {kk bytes : Nat} {l : List α} {M : Mem}
theorem WR.litE (T:ElemTy P ts t z kk bytes)(enc:α->List Value)(H:StX C w0 M0 M L w)
 (hw:Wn ops n D e ⟨some d, .buildSlice ts 0 #[],ty,pos,af,g⟩) (hn:Nat.blt d n=true)
 (k :∀v w',StX C w0 M0 M (RowS t kk enc v ([]:List α)::L) w'->WR r P ops Q n D rest ((d,v)::e) w') :
 WR r P ops Q n D (⟨some d, .buildSlice ts 0 #[],ty,pos,af,g⟩::rest) e w:=by
 obtain⟨i,hi,hz,hsz,_⟩:=T.info;have hs:(sizeOf t).run P w = .ok kk w:=by simp [sizeOf,typeInfo,hi,hsz]
 have hrun:(Instr.buildSlice ts 0 #[]).run P w = .ok (.slice (some ⟨w.heap.size,0,none⟩) 0 0) (w.alloc (.cells #[] t)):=by
  simp only[Instr.buildSlice,Sem.run_bind,run_underlying T.under,Result.andThen_ok,hs];rw[if_neg Sm];rw[if_pos Sm];simp only[Sem.run_bind,Sem.run_pure,Result.andThen_ok,Nat.zero_mul];rw[show Array.range 0 = #[] by simp,Array.map_empty];rfl
 refine q0D (w':=w.alloc (.cells #[] t)) (v := .slice (some ⟨w.heap.size,0,none⟩) 0 0) ⟨nofun,fun ρ hf=>?_⟩ hw G hn (k _ _ (H.new (it:=RowS t kk enc (.slice (some ⟨w.heap.size,0,none⟩) 0 0) ([]:List α)) (grownBy_alloc' w _) ?_ (fun b hb=>by cases hb;exact l07 _)))
 · simp only[execOp,Sem.run_bind,Array.map_empty,l0l,hrun,Result.andThen_ok,Sem.run_pure];first|done|simp [hrun]
 exact⟨by simp, .inr ⟨w.heap.size,0,#[],G,l0r _,heap_alloc_new w _,by simp,by simp,by simp,by simp⟩⟩
theorem Ex.eqlNilS {a:Option Addr}{nn c:Nat}{t':TypeId}{dst:Option Tmp}(ht:P.underlying t=some (.slice t'))(hx:ev e x=some (.slice a nn c)):Ex P ⟨dst, .binOp .eql t x (.const (.slice none 0 0)) tt,ty,pos,af,g⟩ e w (.bool a.isNone) w :=
 ⟨nofun,fun ρ hf=>by
  have f:ρ (.const (.slice none 0 0)) = .slice none 0 0:=hf _ _ rfl;simp [execOp,hf _ _ hx,f,eqGuard,Go.run_eql_slice_nil w t t' a nn c ht]⟩
theorem SlS.nilOr {M:Mem}(h:SlS M kk enc v l):(v = .slice none 0 0/\l=[])∨∃a c,v = .slice (some a) l.length c:=by
 obtain⟨_,A,c,rfl,u,f,_⟩:=h;cases A with
 | none =>
   have hc:=f.2 rfl;have hl:l=[]:=l05 Om;subst hl;subst hc;exact .inl ⟨G,G⟩
 | some a=>exact .inr ⟨a,c,rfl⟩
theorem WR.stepN {o:Oper}{w':World}(hx:Ex P o e w v w')(hw:Wn ops n D e o)(hd:o.dst=none)(k:WR r P ops Q n D rest e w'):WR r P ops Q n D (o::rest) e w:=by
 intro a ha;unfold wpListIn;rw[if_pos (hw a ha)];refine⟨fun _ _=>trivial,?_⟩;rw[Oper.semAt_eq _ _ _ hx.1,hx.2 _ ha.fits,Oper.uponIn_value,hd];exact k _ ha
theorem Ex.sliceRow {A:Option Addr}{nn c i j:Nat}{t':TypeId}{lo hi:Option Operand}{dst:Option Tmp}(ht:P.underlying t=some (.slice t'))(hz :∀w,(sizeOf t').run P w = .ok kk w)(hx:ev e x=some (.slice A nn c))(hnc:nn<=c)(hij:i<=j)(hj:j<=nn)
 (hlo:(∃o,lo=some o/\ev e o=some (I i))∨(lo=none/\i=0)) (hhi:(∃o,hi=some o/\ev e o=some (I j))∨(hi=none/\j=nn)) :
 Ex P ⟨dst, .slice t x lo hi none,ty,pos,af,g⟩ e w (.slice (if c=i then A else A.map (fun a=>a.add (i*kk))) (j-i) (c-i)) w :=
 ⟨nofun,fun ρ hfi=>by
  have hr:=run_slice_partS (P:=P) (w:=w) (lo:=lo.map ρ) (hi:=hi.map ρ) ht hz A nn c hnc hij hj
   (by rcases hlo with ⟨o,rfl,ho⟩|⟨rfl,h⟩
       · exact .inl (by simp [hfi _ _ ho])
       exact .inr ⟨G,h⟩)
   (by rcases hhi with ⟨o,rfl,ho⟩|⟨rfl,h⟩
       · exact .inl (by simp [hfi _ _ ho])
       exact .inr ⟨G,h⟩)
  simp only[execOp,hfi _ _ hx,l0Z,Sem.run_bind,hr,Result.andThen_ok,Sem.run_pure]⟩
end
end Go.Ph
end
section
namespace Go.Ph
open Go Go.RowKit Pl
section
variable {C : Nat → Prop} {r : Option Nat} {P : Program} {ops : Array Oper} {Q : Exit → Act → World → Prop} {n : Nat} {D : List Deferred} {rest : List Oper} {e : Env} {w0 w : World} {M0 M : Mem} {L L' : List Item} {d : Nat} {v z : Value}
  {x y : Operand} {ty t t' ts tt T : TypeId} {pos : String} {af : Array Edge} {g : Option (Nat × Bool)}
theorem Ex.makeFuncF {dst:Option Tmp}{f:FuncId}{cs:List Operand}{vs:List Value}(hc:evs e cs=some vs):Ex P ⟨dst, .makeFunc (.func f) cs.toArray #[],ty,pos,af,g⟩ e w (.func (.func f) vs.toArray #[]) w :=
 ⟨nofun,fun ρ hfi=>by simp [execOp,Instr.makeFunc,hfi.evs hc]⟩
end
end Go.Ph
end
section
namespace Go.Ph
open Go Go.RowKit
namespace Pl
def idxO (l:List (Option Ls))(i:Int):Option (Option Ls):=if 0<=i/\i<256 then l[i.toNat]? else none
end Pl
open Pl
section
variable {C : Nat → Prop} {r : Option Nat} {P : Program} {ops : Array Oper} {Q : Exit → Act → World → Prop} {n : Nat} {D : List Deferred} {rest : List Oper} {e : Env} {w0 w : World} {M0 M : Mem} {L L' : List Item} {d : Nat} {v z u : Value}
  {x y : Operand} {ty t t' ts tt te T : TypeId} {pos : String} {af : Array Edge} {g : Option (Nat × Bool)} {α : Type} {enc : α → Value} {l l2 s : List α} {dst : Option Tmp}
def SlO (M:Mem)(v:Value)(o:Option Ls):Prop:=(o=none/\v = .slice none 0 0)∨∃l a c,o=some l/\v = .slice (some a) l.length c/\Sl M encB v l
theorem SlO.mono {M M':Mem}{v:Value}{o:Option Ls}(h:SlO M v o)(hl:M.le M'):SlO M' v o:=by
 rcases h with h|⟨l,a,c,f,E,J⟩
 · exact .inl h
 exact .inr ⟨l,a,c,f,E,J.mono hl⟩
def TabO (M:Mem)(b T:Nat)(tb:List (Option Ls))(tr:List Ls):Prop :=
 ∃(vs:List Value) (vt:Value),PtM M b (.cells (vs++[vt]).toArray T)/\vs.length=256/\(∀(i:Nat) (o:Option Ls),tb[i]? = some o->∃v,vs[i]? = some v/\SlO M v o)/\Sl M encS vt tr
theorem TabO.mono {M M':Mem}{b T:Nat}{tb:List (Option Ls)}{tr:List Ls}(h:TabO M b T tb tr)(hl:M.le M'):TabO M' b T tb tr:=by
 obtain⟨vs,vt,f,E,J,K⟩:=h;exact⟨vs,vt,f.mono hl,E,fun i o ho=>by obtain⟨v,hv,hs⟩:=J i o ho;exact ⟨v,hv,hs.mono hl⟩,K.mono hl⟩
theorem TabO.at {b T:Nat}{tb:List (Option Ls)}{tr:List Ls}{i:Int}{o:Option Ls}(h:TabO M b T tb tr)(hi:idxO tb i=some o):∃v,CellM M ⟨b,0+i.toNat*1,none⟩ v/\SlO M v o:=by
 obtain⟨vs,vt,f,J,E,_⟩:=h;unfold idxO at hi;split at hi
 · obtain⟨v,hv,hs⟩:=E _ _ hi;refine⟨v,⟨G,_,_,_,f,?_⟩,hs⟩;have hlt:=(List.getElem?_eq_some_iff.1 hv).1;show(vs++[vt]).toArray[0+i.toNat*1]? = some v
   rw[l0o,l0x,List.getElem?_toArray,List.getElem?_append_left hlt,hv]
 cases hi
end
end Go.Ph
end
section
namespace Go.Ph
open Go Go.RowKit Pl
section
variable {C : Nat → Prop} {r : Option Nat} {P : Program} {ops : Array Oper} {Q : Exit → Act → World → Prop} {n : Nat} {D : List Deferred} {rest : List Oper} {e : Env} {w0 w w' : World} {M0 M : Mem} {L L' : List Item} {d : Nat} {v z : Value}
  {x y : Operand} {ty t t' ts tt T : TypeId} {pos : String} {af : Array Edge} {g : Option (Nat × Bool)}
end
end Go.Ph
end
section
abbrev _root_.Tf100 := @Go.Proofs.Tryz.func100
abbrev _root_.Tf112 := @Go.Proofs.Tryz.func112
abbrev _root_.Tf122 := @Go.Proofs.Tryz.func122
abbrev _root_.Tf124 := @Go.Proofs.Tryz.func124
abbrev _root_.Tf133 := @Go.Proofs.Tryz.func133
abbrev _root_.Tf135 := @Go.Proofs.Tryz.func135
abbrev _root_.Tf152 := @Go.Proofs.Tryz.func152
abbrev _root_.Tf154 := @Go.Proofs.Tryz.func154
abbrev _root_.Tf164 := @Go.Proofs.Tryz.func164
abbrev _root_.Tf165 := @Go.Proofs.Tryz.func165
abbrev _root_.Tf166 := @Go.Proofs.Tryz.func166
abbrev _root_.Tf168 := @Go.Proofs.Tryz.func168
abbrev _root_.Tf170 := @Go.Proofs.Tryz.func170
abbrev _root_.Tf171 := @Go.Proofs.Tryz.func171
abbrev _root_.Tf172 := @Go.Proofs.Tryz.func172
abbrev _root_.Tf173 := @Go.Proofs.Tryz.func173
abbrev _root_.Tf184 := @Go.Proofs.Tryz.func184
abbrev _root_.Tf185 := @Go.Proofs.Tryz.func185
abbrev _root_.Tf186 := @Go.Proofs.Tryz.func186
abbrev _root_.Tf187 := @Go.Proofs.Tryz.func187
abbrev _root_.Tf188 := @Go.Proofs.Tryz.func188
abbrev _root_.Tf189 := @Go.Proofs.Tryz.func189
abbrev _root_.Tf190 := @Go.Proofs.Tryz.func190
abbrev _root_.Tf192 := @Go.Proofs.Tryz.func192
abbrev _root_.Tf193 := @Go.Proofs.Tryz.func193
abbrev _root_.Tf194 := @Go.Proofs.Tryz.func194
abbrev _root_.Tf195 := @Go.Proofs.Tryz.func195
abbrev _root_.Tf198 := @Go.Proofs.Tryz.func198
abbrev _root_.Tf199 := @Go.Proofs.Tryz.func199
abbrev _root_.Tf200 := @Go.Proofs.Tryz.func200
abbrev _root_.Tf201 := @Go.Proofs.Tryz.func201
abbrev _root_.Tf202 := @Go.Proofs.Tryz.func202
abbrev _root_.Tf203 := @Go.Proofs.Tryz.func203
abbrev _root_.Tf204 := @Go.Proofs.Tryz.func204
abbrev _root_.Tf205 := @Go.Proofs.Tryz.func205
abbrev _root_.Tf206 := @Go.Proofs.Tryz.func206
abbrev _root_.Tf207 := @Go.Proofs.Tryz.func207
abbrev _root_.Tf26 := @Go.Proofs.Tryz.func26
abbrev _root_.Tf27 := @Go.Proofs.Tryz.func27
abbrev _root_.Tf47 := @Go.Proofs.Tryz.func47
abbrev _root_.Tf78 := @Go.Proofs.Tryz.func78
abbrev _root_.Tf79 := @Go.Proofs.Tryz.func79
abbrev _root_.Ta0 := @Go.Proofs.Tryz.isAgg0
abbrev _root_.Ta104 := @Go.Proofs.Tryz.isAgg104
abbrev _root_.Ta113 := @Go.Proofs.Tryz.isAgg113
abbrev _root_.Ta155 := @Go.Proofs.Tryz.isAgg155
abbrev _root_.Ta157 := @Go.Proofs.Tryz.isAgg157
abbrev _root_.Ta160 := @Go.Proofs.Tryz.isAgg160
abbrev _root_.Ta161 := @Go.Proofs.Tryz.isAgg161
abbrev _root_.Ta163 := @Go.Proofs.Tryz.isAgg163
abbrev _root_.Ta164 := @Go.Proofs.Tryz.isAgg164
abbrev _root_.Ta185 := @Go.Proofs.Tryz.isAgg185
abbrev _root_.Ta2 := @Go.Proofs.Tryz.isAgg2
abbrev _root_.Ta20 := @Go.Proofs.Tryz.isAgg20
abbrev _root_.Ta21 := @Go.Proofs.Tryz.isAgg21
abbrev _root_.Ta212 := @Go.Proofs.Tryz.isAgg212
abbrev _root_.Ta213 := @Go.Proofs.Tryz.isAgg213
abbrev _root_.Ta22 := @Go.Proofs.Tryz.isAgg22
abbrev _root_.Ta223 := @Go.Proofs.Tryz.isAgg223
abbrev _root_.Ta224 := @Go.Proofs.Tryz.isAgg224
abbrev _root_.Ta226 := @Go.Proofs.Tryz.isAgg226
abbrev _root_.Ta231 := @Go.Proofs.Tryz.isAgg231
abbrev _root_.Ta234 := @Go.Proofs.Tryz.isAgg234
abbrev _root_.Ta237 := @Go.Proofs.Tryz.isAgg237
abbrev _root_.Ta240 := @Go.Proofs.Tryz.isAgg240
abbrev _root_.Ta244 := @Go.Proofs.Tryz.isAgg244
abbrev _root_.Ta25 := @Go.Proofs.Tryz.isAgg25
abbrev _root_.Ta253 := @Go.Proofs.Tryz.isAgg253
abbrev _root_.Ta254 := @Go.Proofs.Tryz.isAgg254
abbrev _root_.Ta26 := @Go.Proofs.Tryz.isAgg26
abbrev _root_.Ta263 := @Go.Proofs.Tryz.isAgg263
abbrev _root_.Ta264 := @Go.Proofs.Tryz.isAgg264
abbrev _root_.Ta28 := @Go.Proofs.Tryz.isAgg28
abbrev _root_.Ta3 := @Go.Proofs.Tryz.isAgg3
abbrev _root_.Ta30 := @Go.Proofs.Tryz.isAgg30
abbrev _root_.Ta31 := @Go.Proofs.Tryz.isAgg31
abbrev _root_.Ta33 := @Go.Proofs.Tryz.isAgg33
abbrev _root_.Ta39 := @Go.Proofs.Tryz.isAgg39
abbrev _root_.Ta4 := @Go.Proofs.Tryz.isAgg4
abbrev _root_.Ta45 := @Go.Proofs.Tryz.isAgg45
abbrev _root_.Ta47 := @Go.Proofs.Tryz.isAgg47
abbrev _root_.Ta5 := @Go.Proofs.Tryz.isAgg5
abbrev _root_.Ta53 := @Go.Proofs.Tryz.isAgg53
abbrev _root_.Ta55 := @Go.Proofs.Tryz.isAgg55
abbrev _root_.Ta63 := @Go.Proofs.Tryz.isAgg63
abbrev _root_.Ta66 := @Go.Proofs.Tryz.isAgg66
abbrev _root_.Ta70 := @Go.Proofs.Tryz.isAgg70
abbrev _root_.Ta71 := @Go.Proofs.Tryz.isAgg71
abbrev _root_.Ta80 := @Go.Proofs.Tryz.isAgg80
abbrev _root_.Ta81 := @Go.Proofs.Tryz.isAgg81
abbrev _root_.Ta87 := @Go.Proofs.Tryz.isAgg87
abbrev _root_.Ta89 := @Go.Proofs.Tryz.isAgg89
abbrev _root_.Ta9 := @Go.Proofs.Tryz.isAgg9
abbrev _root_.Ta91 := @Go.Proofs.Tryz.isAgg91
abbrev _root_.Ts0 := @Go.Proofs.Tryz.sizeOf0
abbrev _root_.Ts113 := @Go.Proofs.Tryz.sizeOf113
abbrev _root_.Ts155 := @Go.Proofs.Tryz.sizeOf155
abbrev _root_.Ts157 := @Go.Proofs.Tryz.sizeOf157
abbrev _root_.Ts160 := @Go.Proofs.Tryz.sizeOf160
abbrev _root_.Ts161 := @Go.Proofs.Tryz.sizeOf161
abbrev _root_.Ts163 := @Go.Proofs.Tryz.sizeOf163
abbrev _root_.Ts164 := @Go.Proofs.Tryz.sizeOf164
abbrev _root_.Ts185 := @Go.Proofs.Tryz.sizeOf185
abbrev _root_.Ts2 := @Go.Proofs.Tryz.sizeOf2
abbrev _root_.Ts20 := @Go.Proofs.Tryz.sizeOf20
abbrev _root_.Ts21 := @Go.Proofs.Tryz.sizeOf21
abbrev _root_.Ts212 := @Go.Proofs.Tryz.sizeOf212
abbrev _root_.Ts213 := @Go.Proofs.Tryz.sizeOf213
abbrev _root_.Ts218 := @Go.Proofs.Tryz.sizeOf218
abbrev _root_.Ts22 := @Go.Proofs.Tryz.sizeOf22
abbrev _root_.Ts223 := @Go.Proofs.Tryz.sizeOf223
abbrev _root_.Ts224 := @Go.Proofs.Tryz.sizeOf224
abbrev _root_.Ts226 := @Go.Proofs.Tryz.sizeOf226
abbrev _root_.Ts231 := @Go.Proofs.Tryz.sizeOf231
abbrev _root_.Ts234 := @Go.Proofs.Tryz.sizeOf234
abbrev _root_.Ts237 := @Go.Proofs.Tryz.sizeOf237
abbrev _root_.Ts24 := @Go.Proofs.Tryz.sizeOf24
abbrev _root_.Ts240 := @Go.Proofs.Tryz.sizeOf240
abbrev _root_.Ts244 := @Go.Proofs.Tryz.sizeOf244
abbrev _root_.Ts25 := @Go.Proofs.Tryz.sizeOf25
abbrev _root_.Ts253 := @Go.Proofs.Tryz.sizeOf253
abbrev _root_.Ts254 := @Go.Proofs.Tryz.sizeOf254
abbrev _root_.Ts26 := @Go.Proofs.Tryz.sizeOf26
abbrev _root_.Ts263 := @Go.Proofs.Tryz.sizeOf263
abbrev _root_.Ts264 := @Go.Proofs.Tryz.sizeOf264
abbrev _root_.Ts28 := @Go.Proofs.Tryz.sizeOf28
abbrev _root_.Ts3 := @Go.Proofs.Tryz.sizeOf3
abbrev _root_.Ts30 := @Go.Proofs.Tryz.sizeOf30
abbrev _root_.Ts31 := @Go.Proofs.Tryz.sizeOf31
abbrev _root_.Ts33 := @Go.Proofs.Tryz.sizeOf33
abbrev _root_.Ts39 := @Go.Proofs.Tryz.sizeOf39
abbrev _root_.Ts4 := @Go.Proofs.Tryz.sizeOf4
abbrev _root_.Ts45 := @Go.Proofs.Tryz.sizeOf45
abbrev _root_.Ts47 := @Go.Proofs.Tryz.sizeOf47
abbrev _root_.Ts5 := @Go.Proofs.Tryz.sizeOf5
abbrev _root_.Ts55 := @Go.Proofs.Tryz.sizeOf55
abbrev _root_.Ts63 := @Go.Proofs.Tryz.sizeOf63
abbrev _root_.Ts66 := @Go.Proofs.Tryz.sizeOf66
abbrev _root_.Ts68 := @Go.Proofs.Tryz.sizeOf68
abbrev _root_.Ts70 := @Go.Proofs.Tryz.sizeOf70
abbrev _root_.Ts71 := @Go.Proofs.Tryz.sizeOf71
abbrev _root_.Ts80 := @Go.Proofs.Tryz.sizeOf80
abbrev _root_.Ts81 := @Go.Proofs.Tryz.sizeOf81
abbrev _root_.Ts87 := @Go.Proofs.Tryz.sizeOf87
abbrev _root_.Ts89 := @Go.Proofs.Tryz.sizeOf89
abbrev _root_.Ts9 := @Go.Proofs.Tryz.sizeOf9
abbrev _root_.Ts91 := @Go.Proofs.Tryz.sizeOf91
abbrev _root_.Tu0 := @Go.Proofs.Tryz.underlying0
abbrev _root_.Tu106 := @Go.Proofs.Tryz.underlying106
abbrev _root_.Tu113 := @Go.Proofs.Tryz.underlying113
abbrev _root_.Tu115 := @Go.Proofs.Tryz.underlying115
abbrev _root_.Tu155 := @Go.Proofs.Tryz.underlying155
abbrev _root_.Tu157 := @Go.Proofs.Tryz.underlying157
abbrev _root_.Tu160 := @Go.Proofs.Tryz.underlying160
abbrev _root_.Tu161 := @Go.Proofs.Tryz.underlying161
abbrev _root_.Tu163 := @Go.Proofs.Tryz.underlying163
abbrev _root_.Tu164 := @Go.Proofs.Tryz.underlying164
abbrev _root_.Tu165 := @Go.Proofs.Tryz.underlying165
abbrev _root_.Tu185 := @Go.Proofs.Tryz.underlying185
abbrev _root_.Tu197 := @Go.Proofs.Tryz.underlying197
abbrev _root_.Tu2 := @Go.Proofs.Tryz.underlying2
abbrev _root_.Tu20 := @Go.Proofs.Tryz.underlying20
abbrev _root_.Tu200 := @Go.Proofs.Tryz.underlying200
abbrev _root_.Tu21 := @Go.Proofs.Tryz.underlying21
abbrev _root_.Tu212 := @Go.Proofs.Tryz.underlying212
abbrev _root_.Tu213 := @Go.Proofs.Tryz.underlying213
abbrev _root_.Tu218 := @Go.Proofs.Tryz.underlying218
abbrev _root_.Tu22 := @Go.Proofs.Tryz.underlying22
abbrev _root_.Tu220 := @Go.Proofs.Tryz.underlying220
abbrev _root_.Tu223 := @Go.Proofs.Tryz.underlying223
abbrev _root_.Tu224 := @Go.Proofs.Tryz.underlying224
abbrev _root_.Tu226 := @Go.Proofs.Tryz.underlying226
abbrev _root_.Tu231 := @Go.Proofs.Tryz.underlying231
abbrev _root_.Tu234 := @Go.Proofs.Tryz.underlying234
abbrev _root_.Tu237 := @Go.Proofs.Tryz.underlying237
abbrev _root_.Tu24 := @Go.Proofs.Tryz.underlying24
abbrev _root_.Tu240 := @Go.Proofs.Tryz.underlying240
abbrev _root_.Tu244 := @Go.Proofs.Tryz.underlying244
abbrev _root_.Tu25 := @Go.Proofs.Tryz.underlying25
abbrev _root_.Tu253 := @Go.Proofs.Tryz.underlying253
abbrev _root_.Tu254 := @Go.Proofs.Tryz.underlying254
abbrev _root_.Tu257 := @Go.Proofs.Tryz.underlying257
abbrev _root_.Tu259 := @Go.Proofs.Tryz.underlying259
abbrev _root_.Tu26 := @Go.Proofs.Tryz.underlying26
abbrev _root_.Tu263 := @Go.Proofs.Tryz.underlying263
abbrev _root_.Tu264 := @Go.Proofs.Tryz.underlying264
abbrev _root_.Tu28 := @Go.Proofs.Tryz.underlying28
abbrev _root_.Tu3 := @Go.Proofs.Tryz.underlying3
abbrev _root_.Tu30 := @Go.Proofs.Tryz.underlying30
abbrev _root_.Tu31 := @Go.Proofs.Tryz.underlying31
abbrev _root_.Tu33 := @Go.Proofs.Tryz.underlying33
abbrev _root_.Tu39 := @Go.Proofs.Tryz.underlying39
abbrev _root_.Tu4 := @Go.Proofs.Tryz.underlying4
abbrev _root_.Tu45 := @Go.Proofs.Tryz.underlying45
abbrev _root_.Tu47 := @Go.Proofs.Tryz.underlying47
abbrev _root_.Tu5 := @Go.Proofs.Tryz.underlying5
abbrev _root_.Tu55 := @Go.Proofs.Tryz.underlying55
abbrev _root_.Tu57 := @Go.Proofs.Tryz.underlying57
abbrev _root_.Tu63 := @Go.Proofs.Tryz.underlying63
abbrev _root_.Tu66 := @Go.Proofs.Tryz.underlying66
abbrev _root_.Tu68 := @Go.Proofs.Tryz.underlying68
abbrev _root_.Tu70 := @Go.Proofs.Tryz.underlying70
abbrev _root_.Tu71 := @Go.Proofs.Tryz.underlying71
abbrev _root_.Tu80 := @Go.Proofs.Tryz.underlying80
abbrev _root_.Tu87 := @Go.Proofs.Tryz.underlying87
abbrev _root_.Tu89 := @Go.Proofs.Tryz.underlying89
abbrev _root_.Tu9 := @Go.Proofs.Tryz.underlying9
abbrev _root_.Tu91 := @Go.Proofs.Tryz.underlying91
abbrev _root_.Tu95 := @Go.Proofs.Tryz.underlying95
abbrev _root_.Tz0 := @Go.Proofs.Tryz.zeroValue0
abbrev _root_.Tz155 := @Go.Proofs.Tryz.zeroValue155
abbrev _root_.Tz157 := @Go.Proofs.Tryz.zeroValue157
abbrev _root_.Tz160 := @Go.Proofs.Tryz.zeroValue160
abbrev _root_.Tz161 := @Go.Proofs.Tryz.zeroValue161
abbrev _root_.Tz163 := @Go.Proofs.Tryz.zeroValue163
abbrev _root_.Tz164 := @Go.Proofs.Tryz.zeroValue164
abbrev _root_.Tz185 := @Go.Proofs.Tryz.zeroValue185
abbrev _root_.Tz197 := @Go.Proofs.Tryz.zeroValue197
abbrev _root_.Tz2 := @Go.Proofs.Tryz.zeroValue2
abbrev _root_.Tz20 := @Go.Proofs.Tryz.zeroValue20
abbrev _root_.Tz21 := @Go.Proofs.Tryz.zeroValue21
abbrev _root_.Tz212 := @Go.Proofs.Tryz.zeroValue212
abbrev _root_.Tz213 := @Go.Proofs.Tryz.zeroValue213
abbrev _root_.Tz218 := @Go.Proofs.Tryz.zeroValue218
abbrev _root_.Tz223 := @Go.Proofs.Tryz.zeroValue223
abbrev _root_.Tz224 := @Go.Proofs.Tryz.zeroValue224
abbrev _root_.Tz226 := @Go.Proofs.Tryz.zeroValue226
abbrev _root_.Tz231 := @Go.Proofs.Tryz.zeroValue231
abbrev _root_.Tz234 := @Go.Proofs.Tryz.zeroValue234
abbrev _root_.Tz237 := @Go.Proofs.Tryz.zeroValue237
abbrev _root_.Tz240 := @Go.Proofs.Tryz.zeroValue240
abbrev _root_.Tz253 := @Go.Proofs.Tryz.zeroValue253
abbrev _root_.Tz257 := @Go.Proofs.Tryz.zeroValue257
abbrev _root_.Tz259 := @Go.Proofs.Tryz.zeroValue259
abbrev _root_.Tz26 := @Go.Proofs.Tryz.zeroValue26
abbrev _root_.Tz263 := @Go.Proofs.Tryz.zeroValue263
abbrev _root_.Tz264 := @Go.Proofs.Tryz.zeroValue264
abbrev _root_.Tz28 := @Go.Proofs.Tryz.zeroValue28
abbrev _root_.Tz3 := @Go.Proofs.Tryz.zeroValue3
abbrev _root_.Tz33 := @Go.Proofs.Tryz.zeroValue33
abbrev _root_.Tz4 := @Go.Proofs.Tryz.zeroValue4
abbrev _root_.Tz45 := @Go.Proofs.Tryz.zeroValue45
abbrev _root_.Tz47 := @Go.Proofs.Tryz.zeroValue47
abbrev _root_.Tz5 := @Go.Proofs.Tryz.zeroValue5
abbrev _root_.Tz55 := @Go.Proofs.Tryz.zeroValue55
abbrev _root_.Tz63 := @Go.Proofs.Tryz.zeroValue63
abbrev _root_.Tz66 := @Go.Proofs.Tryz.zeroValue66
abbrev _root_.Tz68 := @Go.Proofs.Tryz.zeroValue68
abbrev _root_.Tz70 := @Go.Proofs.Tryz.zeroValue70
abbrev _root_.Tz80 := @Go.Proofs.Tryz.zeroValue80
abbrev _root_.Tz89 := @Go.Proofs.Tryz.zeroValue89
abbrev _root_.Tz9 := @Go.Proofs.Tryz.zeroValue9
abbrev _root_.Tz91 := @Go.Proofs.Tryz.zeroValue91
end
section
namespace Go.Proofs
open Go.Shelf
def Tryz.lays156_ren : Go.Shelf.Ren:=⟨fun|156=>66|165=>98|166=>99|169=>100|240=>122|241=>123|276=>145|277=>146|n=>n,fun|31=>45|9=>9|3=>3|4=>4|0=>0|20=>20|72=>157|76=>161|70=>155|37=>26|75=>160|127=>185|164=>197|5=>5|80=>163|n=>n,fun|n=>n⟩
theorem Tryz.lays156 : Go.Proofs.Lays.n156 Tryz.prog Tryz.lays156_ren:={
 mixed:=by kernel_rfl
 f156:=Tryz.func66.trans (congrArg some Kr)
 f165:=Tryz.func98.trans (congrArg some Kr)
 f166:=Tryz.func99.trans (congrArg some Kr)
 f169:=Tf100.trans (congrArg some Kr)
 f240:=Tf122.trans (congrArg some Kr)
 f241:=Tryz.func123.trans (congrArg some Kr)
 f276:=Tryz.func145.trans (congrArg some Kr)
 f277:=Tryz.func146.trans (congrArg some Kr)
 t0:=Tu0
 a0:=Ta0
 z0:=Ts0
 v0:=Tz0
 t3:=Tu3
 a3:=Ta3
 z3:=Ts3
 v3:=Tz3
 t4:=Tu4
 a4:=Ta4
 z4:=Ts4
 v4:=Tz4
 t9:=Tu9
 a9:=Ta9
 z9:=Ts9
 v9:=Tz9
 t20:=Tu20
 a20:=Ta20
 z20:=Ts20
 v20:=Tz20
 t31:=Tu45
 a31:=Ta45
 z31:=Ts45
 v31:=Tz45
 t37:=Tu26
 a37:=Ta26
 z37:=Ts26
 v37:=Tz26
 t70:=Tu155
 a70:=Ta155
 z70:=Ts155
 v70:=Tz155
 t72:=Tu157
 a72:=Ta157
 z72:=Ts157
 v72:=Tz157
 t75:=Tu160
 a75:=Ta160
 z75:=Ts160
 v75:=Tz160
 t76:=Tu161
 a76:=Ta161
 z76:=Ts161
 v76:=Tz161
 t127:=Tu185
 a127:=Ta185
 z127:=Ts185
 v127:=Tz185
 t164:=Tu197
 a164:=Tryz.isAgg197
 z164:=Tryz.sizeOf197
 v164:=Tz197}
theorem Tryz.Builder_Extra_156 : Builder.Extra Tryz.prog Tryz.lays156_ren:={
 sizeBuilder:=by kernel_rfl
 liesBuilder:=by kernel_rfl
 t5:=Tu5
 a5:=Ta5
 z5:=Ts5
 v5:=Tz5
 infoByte:=by kernel_rfl
 cellsByte:=by kernel_rfl
 sizeByte:=by kernel_rfl
 neB5:=by decide}
open Go.RowKit in
theorem Tryz.strings_Join_none (a:Option Addr) (c:Nat) (sep:ByteArray) (w:World) :
 Calls Tryz.prog 66 #[.slice a 0 c, .string sep] w fun e w'=>e = .returned (.string ⟨#[]⟩)/\w'=w:=Any.strings_Join_none Tryz.lays156 Tryz.Builder_Extra_156 a c sep w
open Go.RowKit in
theorem Tryz.strings_Join (bk o c:Nat) (xs:List ByteArray) (sep:ByteArray) (w:World) (hcells :∀(j:Nat) x,xs[j]? = some x->w.cell? ⟨bk,o+j,none⟩=some (.string x)) (hbk:bk<w.heap.size) (hN:xs.length<=140737488355328) (hcap:xs.length<=c) (hlen:(Lib.join (xs.map (·.data.toList)) sep.data.toList).length<=140737488355328) :
 Calls Tryz.prog 66 #[.slice (some ⟨bk,o,none⟩) xs.length c, .string sep] w fun e w'=>e = .returned (.string ⟨(Lib.join (xs.map (·.data.toList)) sep.data.toList).toArray⟩)/\Below w.heap.size w w':=Any.strings_Join Tryz.lays156 Tryz.Builder_Extra_156 bk o c xs sep w hcells hbk hN hcap hlen
def Tryz.lays137_ren : Go.Shelf.Ren:=⟨fun|137=>27|217=>47|266=>78|n=>n,fun|9=>9|5=>5|3=>3|n=>n,fun|n=>n⟩
theorem Tryz.lays137 : Go.Proofs.Lays.n137 Tryz.prog Tryz.lays137_ren:={
 mixed:=by kernel_rfl
 f137:=Tf27.trans (congrArg some Kr)
 f217:=Tf47.trans (congrArg some Kr)
 f266:=Tf78.trans (congrArg some Kr)
 t3:=Tu3
 a3:=Ta3
 z3:=Ts3
 v3:=Tz3
 t5:=Tu5
 a5:=Ta5
 z5:=Ts5
 v5:=Tz5
 t9:=Tu9
 a9:=Ta9
 z9:=Ts9
 v9:=Tz9}
open Go.RowKit in
theorem Tryz.strings_IndexByte (s:ByteArray) (c:Int) (w:World) :
 Calls Tryz.prog 27 #[.string s, .int .u8 c] w fun e w'=>e = .returned (.int .i64 (Lib.indexByte s.data.toList c.toNat.toUInt8))/\w'=w:=Any.strings_IndexByte Tryz.lays137 s c w
def Tryz.lays172_ren : Go.Shelf.Ren:=⟨fun|172=>136|244=>155|245=>156|247=>173|279=>174|280=>175|281=>176|282=>177|287=>189|316=>190|171=>133|205=>191|321=>203|322=>204|243=>152|246=>168|283=>184|284=>185|285=>186|286=>187|129=>199|317=>198|318=>200|319=>201|320=>202|337=>206|338=>207|n=>n,fun|9=>9|3=>3|75=>160|76=>161|4=>4|5=>5|167=>223|37=>26|0=>0|85=>224|2=>2|168=>226|53=>66|175=>237|46=>164|210=>240|127=>185|145=>259|143=>257|21=>21|171=>231|173=>234|212=>253|51=>212|20=>20|213=>254|232=>263|233=>264|80=>163|n=>n,fun|15=>1|16=>2|17=>5|18=>6|19=>7|n=>n⟩
theorem Tryz.lays172 : Go.Proofs.Lays.n172 Tryz.prog Tryz.lays172_ren:={
 mixed:=by kernel_rfl
 f129:=Tf199.trans (congrArg some Kr)
 f171:=Tf133.trans (congrArg some Kr)
 f172:=Tryz.func136.trans (congrArg some Kr)
 f205:=Tryz.func191.trans (congrArg some Kr)
 f243:=Tf152.trans (congrArg some Kr)
 f244:=Tryz.func155.trans (congrArg some Kr)
 f245:=Tryz.func156.trans (congrArg some Kr)
 f246:=Tf168.trans (congrArg some Kr)
 f247:=Tf173.trans (congrArg some Kr)
 f279:=Tryz.func174.trans (congrArg some Kr)
 f280:=Tryz.func175.trans (congrArg some Kr)
 f281:=Tryz.func176.trans (congrArg some Kr)
 f282:=Tryz.func177.trans (congrArg some Kr)
 f283:=Tf184.trans (congrArg some Kr)
 f284:=Tf185.trans (congrArg some Kr)
 f285:=Tf186.trans (congrArg some Kr)
 f286:=Tf187.trans (congrArg some Kr)
 f287:=Tf189.trans (congrArg some Kr)
 f316:=Tf190.trans (congrArg some Kr)
 f317:=Tf198.trans (congrArg some Kr)
 f318:=Tf200.trans (congrArg some Kr)
 f319:=Tf201.trans (congrArg some Kr)
 f320:=Tf202.trans (congrArg some Kr)
 f321:=Tf203.trans (congrArg some Kr)
 f322:=Tf204.trans (congrArg some Kr)
 f337:=Tf206.trans (congrArg some Kr)
 f338:=Tf207.trans (congrArg some Kr)
 t0:=Tu0
 a0:=Ta0
 z0:=Ts0
 v0:=Tz0
 t2:=Tu2
 a2:=Ta2
 z2:=Ts2
 v2:=Tz2
 t3:=Tu3
 a3:=Ta3
 z3:=Ts3
 v3:=Tz3
 t4:=Tu4
 a4:=Ta4
 z4:=Ts4
 v4:=Tz4
 t5:=Tu5
 a5:=Ta5
 z5:=Ts5
 v5:=Tz5
 t9:=Tu9
 a9:=Ta9
 z9:=Ts9
 v9:=Tz9
 t20:=Tu20
 a20:=Ta20
 z20:=Ts20
 v20:=Tz20
 t21:=Tu21
 a21:=Ta21
 z21:=Ts21
 v21:=Tz21
 t37:=Tu26
 a37:=Ta26
 z37:=Ts26
 v37:=Tz26
 t46:=Tu164
 a46:=Ta164
 z46:=Ts164
 v46:=Tz164
 t51:=Tu212
 a51:=Ta212
 z51:=Ts212
 v51:=Tz212
 t53:=Tu66
 a53:=Ta66
 z53:=Ts66
 v53:=Tz66
 t75:=Tu160
 a75:=Ta160
 z75:=Ts160
 v75:=Tz160
 t76:=Tu161
 a76:=Ta161
 z76:=Ts161
 v76:=Tz161
 t85:=Tu224
 a85:=Ta224
 z85:=Ts224
 v85:=Tz224
 t127:=Tu185
 a127:=Ta185
 z127:=Ts185
 v127:=Tz185
 t143:=Tu257
 a143:=Tryz.isAgg257
 z143:=Tryz.sizeOf257
 v143:=Tz257
 t145:=Tu259
 a145:=Tryz.isAgg259
 z145:=Tryz.sizeOf259
 v145:=Tz259
 t167:=Tu223
 a167:=Ta223
 z167:=Ts223
 v167:=Tz223
 t168:=Tu226
 a168:=Ta226
 z168:=Ts226
 v168:=Tz226
 t171:=Tu231
 a171:=Ta231
 z171:=Ts231
 v171:=Tz231
 t173:=Tu234
 a173:=Ta234
 z173:=Ts234
 v173:=Tz234
 t175:=Tu237
 a175:=Ta237
 z175:=Ts237
 v175:=Tz237
 t210:=Tu240
 a210:=Ta240
 z210:=Ts240
 v210:=Tz240
 t212:=Tu253
 a212:=Ta253
 z212:=Ts253
 v212:=Tz253
 t213:=Tu254
 a213:=Ta254
 z213:=Ts254
 t232:=Tu263
 a232:=Ta263
 z232:=Ts263
 v232:=Tz263
 t233:=Tu264
 a233:=Ta264
 z233:=Ts264
 v233:=Tz264
 g15:=by kernel_rfl
 g16:=by kernel_rfl
 g17:=by kernel_rfl
 g18:=by kernel_rfl
 g19:=by kernel_rfl}
open Go.RowKit in
theorem Tryz.strconv_Atoi (s:ByteArray) (n:Int) (hl:s.size<=18) (h:Lib.atoi s.data.toList=some n) (w:World) :
 Calls Tryz.prog 136 #[.string s] w fun e w'=>e = .returned (.tuple #[.int .i64 n, .nilIface])/\∃t,w'=Lib.bytesWorld w 5 t:=Any.strconv_Atoi Tryz.lays172 s n hl h w
def Tryz.laysM171_ren : Go.Shelf.Ren:=⟨fun|171=>133|243=>152|246=>168|283=>184|284=>185|285=>186|286=>187|129=>199|317=>198|318=>200|319=>201|320=>202|337=>206|338=>207|n=>n,fun|3=>3|9=>9|2=>2|4=>4|171=>231|0=>0|53=>66|37=>26|5=>5|173=>234|212=>253|51=>212|20=>20|213=>254|46=>164|232=>263|233=>264|n=>n,fun|17=>5|18=>6|19=>7|n=>n⟩
theorem Tryz.laysM171 : Go.Proofs.LaysM.n171 Tryz.prog Tryz.laysM171_ren:={
 mixed:=by kernel_rfl
 f129:=Tf199.trans (congrArg some Kr)
 f171:=Tf133.trans (congrArg some Kr)
 f243:=Tf152.trans (congrArg some Kr)
 f246:=Tf168.trans (congrArg some Kr)
 f283:=Tf184.trans (congrArg some Kr)
 f284:=Tf185.trans (congrArg some Kr)
 f285:=Tf186.trans (congrArg some Kr)
 f286:=Tf187.trans (congrArg some Kr)
 f317:=Tf198.trans (congrArg some Kr)
 f318:=Tf200.trans (congrArg some Kr)
 f319:=Tf201.trans (congrArg some Kr)
 f320:=Tf202.trans (congrArg some Kr)
 f337:=Tf206.trans (congrArg some Kr)
 f338:=Tf207.trans (congrArg some Kr)
 t0:=Tu0
 a0:=Ta0
 z0:=Ts0
 v0:=Tz0
 t2:=Tu2
 a2:=Ta2
 z2:=Ts2
 v2:=Tz2
 t3:=Tu3
 a3:=Ta3
 z3:=Ts3
 v3:=Tz3
 t4:=Tu4
 a4:=Ta4
 z4:=Ts4
 v4:=Tz4
 t5:=Tu5
 a5:=Ta5
 z5:=Ts5
 v5:=Tz5
 t9:=Tu9
 a9:=Ta9
 z9:=Ts9
 v9:=Tz9
 t20:=Tu20
 a20:=Ta20
 z20:=Ts20
 v20:=Tz20
 t37:=Tu26
 a37:=Ta26
 z37:=Ts26
 v37:=Tz26
 t46:=Tu164
 a46:=Ta164
 z46:=Ts164
 v46:=Tz164
 t51:=Tu212
 a51:=Ta212
 z51:=Ts212
 v51:=Tz212
 t53:=Tu66
 a53:=Ta66
 z53:=Ts66
 v53:=Tz66
 t171:=Tu231
 a171:=Ta231
 z171:=Ts231
 v171:=Tz231
 t173:=Tu234
 a173:=Ta234
 z173:=Ts234
 v173:=Tz234
 t212:=Tu253
 a212:=Ta253
 z212:=Ts253
 v212:=Tz253
 t213:=Tu254
 a213:=Ta254
 z213:=Ts254
 t232:=Tu263
 a232:=Ta263
 z232:=Ts263
 v232:=Tz263
 t233:=Tu264
 a233:=Ta264
 z233:=Ts264
 v233:=Tz264
 g17:=by kernel_rfl
 g18:=by kernel_rfl
 g19:=by kernel_rfl
 i0:=by kernel_rfl
 i2:=by kernel_rfl
 i3:=by kernel_rfl
 i4:=by kernel_rfl
 i5:=by kernel_rfl
 i9:=by kernel_rfl
 i20:=by kernel_rfl
 i37:=by kernel_rfl
 i46:=by kernel_rfl
 i51:=by kernel_rfl
 i53:=by kernel_rfl
 i171:=by kernel_rfl
 i173:=by kernel_rfl
 i212:=by kernel_rfl
 i232:=by kernel_rfl
 i233:=by kernel_rfl
 m17:=by kernel_rfl
 m18:=by kernel_rfl
 m19:=by kernel_rfl}
open Go.RowKit Go.Sort Go.Lib in
theorem Tryz.strconv_Itoa (n : Int) (h0 : -9223372036854775808 <= n) (h1 : n <= 9223372036854775807) (w : World) (htab : Lib.TabIs Tryz.prog w "internal/strconv.uint64pow10" .u64 Lib.pow10Tab) :
 Calls Tryz.prog 133 #[.int .i64 n] w fun e w'=>e = .returned (.string ⟨(Lib.itoa n).toArray⟩)/\∃k os,w'=grow (w.drewN k) os:=Any.strconv_Itoa Tryz.laysM171 n h0 h1 w htab
def Tryz.laysC172_ren : Go.Shelf.Ren:=⟨fun|172=>136|244=>155|245=>156|247=>173|279=>174|280=>175|281=>176|282=>177|287=>189|316=>190|171=>133|205=>191|321=>203|322=>204|243=>152|246=>168|283=>184|284=>185|285=>186|286=>187|129=>199|317=>198|318=>200|319=>201|320=>202|337=>206|338=>207|n=>n,fun|9=>9|3=>3|75=>160|76=>161|4=>4|5=>5|167=>223|37=>26|0=>0|85=>224|2=>2|168=>226|53=>66|175=>237|46=>164|210=>240|127=>185|145=>259|143=>257|21=>21|171=>231|173=>234|212=>253|51=>212|20=>20|213=>254|232=>263|233=>264|80=>163|n=>n,fun|15=>1|16=>2|17=>5|18=>6|19=>7|n=>n⟩
theorem Tryz.laysC172 : Go.Proofs.LaysC.n172 Tryz.prog Tryz.laysC172_ren:={
 mixed:=by kernel_rfl
 f129:=Tf199.trans (congrArg some Kr)
 f171:=Tf133.trans (congrArg some Kr)
 f172:=Tryz.func136.trans (congrArg some Kr)
 f205:=Tryz.func191.trans (congrArg some Kr)
 f243:=Tf152.trans (congrArg some Kr)
 f244:=Tryz.func155.trans (congrArg some Kr)
 f245:=Tryz.func156.trans (congrArg some Kr)
 f246:=Tf168.trans (congrArg some Kr)
 f247:=Tf173.trans (congrArg some Kr)
 f279:=Tryz.func174.trans (congrArg some Kr)
 f280:=Tryz.func175.trans (congrArg some Kr)
 f281:=Tryz.func176.trans (congrArg some Kr)
 f282:=Tryz.func177.trans (congrArg some Kr)
 f283:=Tf184.trans (congrArg some Kr)
 f284:=Tf185.trans (congrArg some Kr)
 f285:=Tf186.trans (congrArg some Kr)
 f286:=Tf187.trans (congrArg some Kr)
 f287:=Tf189.trans (congrArg some Kr)
 f316:=Tf190.trans (congrArg some Kr)
 f317:=Tf198.trans (congrArg some Kr)
 f318:=Tf200.trans (congrArg some Kr)
 f319:=Tf201.trans (congrArg some Kr)
 f320:=Tf202.trans (congrArg some Kr)
 f321:=Tf203.trans (congrArg some Kr)
 f322:=Tf204.trans (congrArg some Kr)
 f337:=Tf206.trans (congrArg some Kr)
 f338:=Tf207.trans (congrArg some Kr)
 t0:=Tu0
 a0:=Ta0
 z0:=Ts0
 v0:=Tz0
 t2:=Tu2
 a2:=Ta2
 z2:=Ts2
 v2:=Tz2
 t3:=Tu3
 a3:=Ta3
 z3:=Ts3
 v3:=Tz3
 t4:=Tu4
 a4:=Ta4
 z4:=Ts4
 v4:=Tz4
 t5:=Tu5
 a5:=Ta5
 z5:=Ts5
 v5:=Tz5
 t9:=Tu9
 a9:=Ta9
 z9:=Ts9
 v9:=Tz9
 t20:=Tu20
 a20:=Ta20
 z20:=Ts20
 v20:=Tz20
 t21:=Tu21
 a21:=Ta21
 z21:=Ts21
 v21:=Tz21
 t37:=Tu26
 a37:=Ta26
 z37:=Ts26
 v37:=Tz26
 t46:=Tu164
 a46:=Ta164
 z46:=Ts164
 v46:=Tz164
 t51:=Tu212
 a51:=Ta212
 z51:=Ts212
 v51:=Tz212
 t53:=Tu66
 a53:=Ta66
 z53:=Ts66
 v53:=Tz66
 t75:=Tu160
 a75:=Ta160
 z75:=Ts160
 v75:=Tz160
 t76:=Tu161
 a76:=Ta161
 z76:=Ts161
 v76:=Tz161
 t85:=Tu224
 a85:=Ta224
 z85:=Ts224
 v85:=Tz224
 t127:=Tu185
 a127:=Ta185
 z127:=Ts185
 v127:=Tz185
 t143:=Tu257
 a143:=Tryz.isAgg257
 z143:=Tryz.sizeOf257
 v143:=Tz257
 t145:=Tu259
 a145:=Tryz.isAgg259
 z145:=Tryz.sizeOf259
 v145:=Tz259
 t167:=Tu223
 a167:=Ta223
 z167:=Ts223
 v167:=Tz223
 t168:=Tu226
 a168:=Ta226
 z168:=Ts226
 v168:=Tz226
 t171:=Tu231
 a171:=Ta231
 z171:=Ts231
 v171:=Tz231
 t173:=Tu234
 a173:=Ta234
 z173:=Ts234
 v173:=Tz234
 t175:=Tu237
 a175:=Ta237
 z175:=Ts237
 v175:=Tz237
 t210:=Tu240
 a210:=Ta240
 z210:=Ts240
 v210:=Tz240
 t212:=Tu253
 a212:=Ta253
 z212:=Ts253
 v212:=Tz253
 t213:=Tu254
 a213:=Ta254
 z213:=Ts254
 t232:=Tu263
 a232:=Ta263
 z232:=Ts263
 v232:=Tz263
 t233:=Tu264
 a233:=Ta264
 z233:=Ts264
 v233:=Tz264
 g15:=by kernel_rfl
 g16:=by kernel_rfl
 g17:=by kernel_rfl
 g18:=by kernel_rfl
 g19:=by kernel_rfl
 t80:=Tu163
 a80:=Ta163
 z80:=Ts163
 v80:=Tz163
 i0:=by kernel_rfl
 i2:=by kernel_rfl
 i3:=by kernel_rfl
 i4:=by kernel_rfl
 i5:=by kernel_rfl
 i9:=by kernel_rfl
 i20:=by kernel_rfl
 i21:=by kernel_rfl
 i37:=by kernel_rfl
 i46:=by kernel_rfl
 i51:=by kernel_rfl
 i53:=by kernel_rfl
 i75:=by kernel_rfl
 i76:=by kernel_rfl
 i80:=by kernel_rfl
 i85:=by kernel_rfl
 i127:=by kernel_rfl
 i143:=by kernel_rfl
 i145:=by kernel_rfl
 i167:=by kernel_rfl
 i168:=by kernel_rfl
 i171:=by kernel_rfl
 i173:=by kernel_rfl
 i175:=by kernel_rfl
 i210:=by kernel_rfl
 i212:=by kernel_rfl
 i232:=by kernel_rfl
 i233:=by kernel_rfl
 m15:=by kernel_rfl
 m16:=by kernel_rfl
 m17:=by kernel_rfl
 m18:=by kernel_rfl
 m19:=by kernel_rfl
 c0:=by kernel_rfl
 c2:=by kernel_rfl
 c3:=by kernel_rfl
 c4:=by kernel_rfl
 c5:=by kernel_rfl
 c9:=by kernel_rfl
 c20:=by kernel_rfl
 c21:=by kernel_rfl
 c37:=by kernel_rfl
 c46:=by kernel_rfl
 c51:=by kernel_rfl
 c53:=by kernel_rfl
 c75:=by kernel_rfl
 c76:=by kernel_rfl
 c80:=by kernel_rfl
 c85:=by kernel_rfl
 c127:=by kernel_rfl
 c143:=by kernel_rfl
 c145:=by kernel_rfl
 c167:=by kernel_rfl
 c168:=by kernel_rfl
 c171:=by kernel_rfl
 c173:=by kernel_rfl
 c175:=by kernel_rfl
 c210:=by kernel_rfl
 c212:=by kernel_rfl
 c213:=by kernel_rfl
 c232:=by kernel_rfl
 c233:=by kernel_rfl}
open Go.RowKit in
theorem Tryz.strconv_Atoi_ok (s:ByteArray) (hmax:s.size<=9223372036854775806) (v:Int) (h:Lib.atoiAll s.data.toList = .ok v) (w:World) :
 Calls Tryz.prog 136 #[.string s] w fun e w'=>e = .returned (.tuple #[.int .i64 v, .nilIface])/\(w'=w∨∃t,w'=Lib.bytesWorld w 5 t):=Any.strconv_Atoi_ok Tryz.laysC172 s hmax v h w
open Go.RowKit in
theorem Tryz.strconv_Atoi_syntax_var (s : ByteArray) (hlim : s.size <= 281474976710656) (h : Lib.atoiAll s.data.toList = .syntax) (tp : TypeId) (p : Value) (w : World) (hvar : w.var? Tryz.prog "strconv.ErrSyntax" = some #[.iface tp p]) :
 Calls Tryz.prog 136 #[.string s] w fun e w' =>∃N,e = .returned (.tuple #[.int .i64 0, .iface 226 (.pointer (some ⟨N,0,none⟩))])/\w.heap.size<=N/\w'.heap[N]? = some (.cells #[.string ⟨#[65,116,111,105]⟩, .string s, .iface tp p] 240 (0,0))/\Below w.heap.size w w':=Any.strconv_Atoi_syntax_var Tryz.laysC172 s hlim h tp p w hvar
open Go.RowKit in
theorem Tryz.strconv_Atoi_range_var (s : ByteArray) (hlim : s.size <= 281474976710656) (h : Lib.atoiAll s.data.toList = .range) (tp : TypeId) (p : Value) (w : World) (hvar : w.var? Tryz.prog "strconv.ErrRange" = some #[.iface tp p]) :
 Calls Tryz.prog 136 #[.string s] w fun e w' =>∃N,e = .returned (.tuple #[.int .i64 (Lib.atoiSat s.data.toList), .iface 226 (.pointer (some ⟨N,0,none⟩))])/\w.heap.size<=N/\w'.heap[N]? = some (.cells #[.string ⟨#[65,116,111,105]⟩, .string s, .iface tp p] 240 (0,0))/\Below w.heap.size w w':=Any.strconv_Atoi_range_var Tryz.laysC172 s hlim h tp p w hvar
def Tryz.lays217_ren : Go.Shelf.Ren:=⟨fun|217=>47|266=>78|n=>n,fun|9=>9|5=>5|3=>3|n=>n,fun|n=>n⟩
theorem Tryz.lays217 : Go.Proofs.Lays.n217 Tryz.prog Tryz.lays217_ren:={
 mixed:=by kernel_rfl
 f217:=Tf47.trans (congrArg some Kr)
 f266:=Tf78.trans (congrArg some Kr)
 t3:=Tu3
 a3:=Ta3
 z3:=Ts3
 v3:=Tz3
 t5:=Tu5
 a5:=Ta5
 z5:=Ts5
 v5:=Tz5
 t9:=Tu9
 a9:=Ta9
 z9:=Ts9
 v9:=Tz9}
open Go.RowKit Go.Lib in
theorem Tryz.stringslite_IndexByte (s:ByteArray) (c:Int) (w:World) :
 Calls Tryz.prog 47 #[.string s, .int .u8 c] w fun e w'=>e = .returned (.int .i64 (Lib.indexByte s.data.toList c.toNat.toUInt8))/\w'=w:=Any.stringslite_IndexByte Tryz.lays217 s c w
def Tryz.lays219_ren : Go.Shelf.Ren:=⟨fun|219=>154|217=>47|225=>170|224=>171|267=>172|266=>78|314=>188|n=>n,fun|9=>9|3=>3|4=>4|5=>5|46=>164|146=>213|51=>212|n=>n,fun|1=>0|n=>n⟩
theorem Tryz.lays219 : Go.Proofs.Lays.n219 Tryz.prog Tryz.lays219_ren:={
 mixed:=by kernel_rfl
 f217:=Tf47.trans (congrArg some Kr)
 f219:=Tf154.trans (congrArg some Kr)
 f224:=Tf171.trans (congrArg some Kr)
 f225:=Tf170.trans (congrArg some Kr)
 f266:=Tf78.trans (congrArg some Kr)
 f267:=Tf172.trans (congrArg some Kr)
 f314:=Tf188.trans (congrArg some Kr)
 t3:=Tu3
 a3:=Ta3
 z3:=Ts3
 v3:=Tz3
 t4:=Tu4
 a4:=Ta4
 z4:=Ts4
 v4:=Tz4
 t5:=Tu5
 a5:=Ta5
 z5:=Ts5
 v5:=Tz5
 t9:=Tu9
 a9:=Ta9
 z9:=Ts9
 v9:=Tz9
 t46:=Tu164
 a46:=Ta164
 z46:=Ts164
 v46:=Tz164
 t51:=Tu212
 a51:=Ta212
 z51:=Ts212
 v51:=Tz212
 t146:=Tu213
 a146:=Ta213
 z146:=Ts213
 v146:=Tz213
 g1:=by kernel_rfl}
open Go.RowKit Go.Lib in
theorem Tryz.stringslite_Index (s sub:ByteArray) (m:Int) (w:World) (hs:s.size<4294967281) (hm:w.cell? ⟨0,0,none⟩=some (.int .i64 m)) :
 Calls Tryz.prog 154 #[.string s, .string sub] w fun e w'=>e = .returned (.int .i64 (Lib.index s.data.toList sub.data.toList))/\w'=w:=Any.stringslite_Index Tryz.lays219 s sub m w hs hm
def Tryz.lays144_ren : Go.Shelf.Ren:=⟨fun|144=>149|143=>166|219=>154|217=>47|225=>170|224=>171|267=>172|266=>78|314=>188|n=>n,fun|9=>9|4=>4|3=>3|5=>5|46=>164|146=>213|51=>212|n=>n,fun|1=>0|n=>n⟩
theorem Tryz.lays144 : Go.Proofs.Lays.n144 Tryz.prog Tryz.lays144_ren:={
 mixed:=by kernel_rfl
 f143:=Tf166.trans (congrArg some Kr)
 f144:=Tryz.func149.trans (congrArg some Kr)
 f217:=Tf47.trans (congrArg some Kr)
 f219:=Tf154.trans (congrArg some Kr)
 f224:=Tf171.trans (congrArg some Kr)
 f225:=Tf170.trans (congrArg some Kr)
 f266:=Tf78.trans (congrArg some Kr)
 f267:=Tf172.trans (congrArg some Kr)
 f314:=Tf188.trans (congrArg some Kr)
 t3:=Tu3
 a3:=Ta3
 z3:=Ts3
 v3:=Tz3
 t4:=Tu4
 a4:=Ta4
 z4:=Ts4
 v4:=Tz4
 t5:=Tu5
 a5:=Ta5
 z5:=Ts5
 v5:=Tz5
 t9:=Tu9
 a9:=Ta9
 z9:=Ts9
 v9:=Tz9
 t46:=Tu164
 a46:=Ta164
 z46:=Ts164
 v46:=Tz164
 t51:=Tu212
 a51:=Ta212
 z51:=Ts212
 v51:=Tz212
 t146:=Tu213
 a146:=Ta213
 z146:=Ts213
 v146:=Tz213
 g1:=by kernel_rfl}
open Go.RowKit Go.Lib in
theorem Tryz.strings_Contains (s sub:ByteArray) (m:Int) (w:World) (hs:s.size<4294967281) (hm:w.cell? ⟨0,0,none⟩=some (.int .i64 m)) :
 Calls Tryz.prog 149 #[.string s, .string sub] w fun e w'=>e = .returned (.bool (Lib.contains s.data.toList sub.data.toList))/\w'=w:=Any.strings_Contains Tryz.lays144 s sub m w hs hm
def Tryz.lays105_ren : Go.Shelf.Ren:=⟨fun|105=>121|212=>142|99=>143|165=>98|166=>99|170=>144|169=>100|263=>162|264=>163|206=>164|240=>122|241=>123|276=>145|277=>146|n=>n,fun|9=>9|3=>3|4=>4|20=>20|0=>0|46=>164|109=>195|5=>5|72=>157|76=>161|51=>212|146=>213|53=>66|148=>215|70=>155|37=>26|75=>160|127=>185|164=>197|80=>163|n=>n,fun|n=>n⟩
theorem Tryz.lays105 : Go.Proofs.Lays.n105 Tryz.prog Tryz.lays105_ren:={
 mixed:=by kernel_rfl
 f99:=Tryz.func143.trans (congrArg some Kr)
 f105:=Tryz.func121.trans (congrArg some Kr)
 f165:=Tryz.func98.trans (congrArg some Kr)
 f166:=Tryz.func99.trans (congrArg some Kr)
 f169:=Tf100.trans (congrArg some Kr)
 f170:=Tryz.func144.trans (congrArg some Kr)
 f206:=Tf164.trans (congrArg some Kr)
 f212:=Tryz.func142.trans (congrArg some Kr)
 f240:=Tf122.trans (congrArg some Kr)
 f241:=Tryz.func123.trans (congrArg some Kr)
 f263:=Tryz.func162.trans (congrArg some Kr)
 f264:=Tryz.func163.trans (congrArg some Kr)
 f276:=Tryz.func145.trans (congrArg some Kr)
 f277:=Tryz.func146.trans (congrArg some Kr)
 t0:=Tu0
 a0:=Ta0
 z0:=Ts0
 v0:=Tz0
 t3:=Tu3
 a3:=Ta3
 z3:=Ts3
 v3:=Tz3
 t4:=Tu4
 a4:=Ta4
 z4:=Ts4
 v4:=Tz4
 t5:=Tu5
 a5:=Ta5
 z5:=Ts5
 v5:=Tz5
 t9:=Tu9
 a9:=Ta9
 z9:=Ts9
 v9:=Tz9
 t20:=Tu20
 a20:=Ta20
 z20:=Ts20
 v20:=Tz20
 t37:=Tu26
 a37:=Ta26
 z37:=Ts26
 v37:=Tz26
 t46:=Tu164
 a46:=Ta164
 z46:=Ts164
 v46:=Tz164
 t51:=Tu212
 a51:=Ta212
 z51:=Ts212
 v51:=Tz212
 t53:=Tu66
 a53:=Ta66
 z53:=Ts66
 v53:=Tz66
 t70:=Tu155
 a70:=Ta155
 z70:=Ts155
 v70:=Tz155
 t72:=Tu157
 a72:=Ta157
 z72:=Ts157
 v72:=Tz157
 t75:=Tu160
 a75:=Ta160
 z75:=Ts160
 v75:=Tz160
 t76:=Tu161
 a76:=Ta161
 z76:=Ts161
 v76:=Tz161
 t109:=Tryz.underlying195
 a109:=Tryz.isAgg195
 z109:=Tryz.sizeOf195
 v109:=Tryz.zeroValue195
 t127:=Tu185
 a127:=Ta185
 z127:=Ts185
 v127:=Tz185
 t146:=Tu213
 a146:=Ta213
 z146:=Ts213
 v146:=Tz213
 t148:=Tryz.underlying215
 a148:=Tryz.isAgg215
 z148:=Tryz.sizeOf215
 v148:=Tryz.zeroValue215
 t164:=Tu197
 a164:=Tryz.isAgg197
 z164:=Tryz.sizeOf197
 v164:=Tz197}
theorem Tryz.Builder_Extra_105 : Builder.Extra Tryz.prog Tryz.lays105_ren:={
 sizeBuilder:=by kernel_rfl
 liesBuilder:=by kernel_rfl
 t5:=Tu5
 a5:=Ta5
 z5:=Ts5
 v5:=Tz5
 infoByte:=by kernel_rfl
 cellsByte:=by kernel_rfl
 sizeByte:=by kernel_rfl
 neB5:=by decide}
open Go.RowKit Go.Lib in
theorem Tryz.strings_Repeat (s:ByteArray) (c:Nat) (w:World) (hc:c<=9223372036854775807) (hlen:s.size*c<=140737488355328) :
 Calls Tryz.prog 121 #[.string s, .int .i64 c] w fun e w'=>e = .returned (.string ⟨(Lib.repeatL s.data.toList c).toArray⟩)/\Below w.heap.size w w':=Any.strings_Repeat Tryz.lays105 Tryz.Builder_Extra_105 s c w hc hlen
def Tryz.lays185_ren : Go.Shelf.Ren:=⟨fun|185=>160|187=>180|115=>181|253=>182|224=>171|254=>183|255=>196|291=>197|n=>n,fun|37=>26|3=>3|4=>4|0=>0|5=>5|46=>164|9=>9|146=>213|51=>212|n=>n,fun|1=>0|n=>n⟩
theorem Tryz.lays185 : Go.Proofs.Lays.n185 Tryz.prog Tryz.lays185_ren:={
 mixed:=by kernel_rfl
 f115:=Tryz.func181.trans (congrArg some Kr)
 f185:=Tryz.func160.trans (congrArg some Kr)
 f187:=Tryz.func180.trans (congrArg some Kr)
 f224:=Tf171.trans (congrArg some Kr)
 f253:=Tryz.func182.trans (congrArg some Kr)
 f254:=Tryz.func183.trans (congrArg some Kr)
 f255:=Tryz.func196.trans (congrArg some Kr)
 f291:=Tryz.func197.trans (congrArg some Kr)
 t0:=Tu0
 a0:=Ta0
 z0:=Ts0
 v0:=Tz0
 t3:=Tu3
 a3:=Ta3
 z3:=Ts3
 v3:=Tz3
 t4:=Tu4
 a4:=Ta4
 z4:=Ts4
 v4:=Tz4
 t5:=Tu5
 a5:=Ta5
 z5:=Ts5
 v5:=Tz5
 t9:=Tu9
 a9:=Ta9
 z9:=Ts9
 v9:=Tz9
 t37:=Tu26
 a37:=Ta26
 z37:=Ts26
 v37:=Tz26
 t46:=Tu164
 a46:=Ta164
 z46:=Ts164
 v46:=Tz164
 t51:=Tu212
 a51:=Ta212
 z51:=Ts212
 v51:=Tz212
 t146:=Tu213
 a146:=Ta213
 z146:=Ts213
 v146:=Tz213
 g1:=by kernel_rfl}
open Go.RowKit Go.Lib in
theorem Tryz.bytes_Index_longer (p q:Option Addr) (n c m d:Nat) (w:World) (h2:2<=m) (hnm:n<m) (hm:m<=9223372036854775807) :
 Calls Tryz.prog 160 #[.slice p n c, .slice q m d] w fun e w'=>e = .returned (.int .i64 (-1))/\w'=w:=Any.bytes_Index_longer Tryz.lays185 p q n c m d w h2 hnm hm
open Go.Proofs Go.RowKit Go.Lib in
theorem Tryz.bytes_Index_at (a1 a2:Addr) (n c1 k c2:Nat) (xs ys:List Int) (m:Int) (w:World) (hx:xs.length=n) (hy:ys.length=k) (hr1 :∀x∈xs,0<=x/\x<256) (hr2 :∀y∈ys,0<=y/\y<256) (hc1 :∀i,i<n->w.cell? (a1.add i)=some (.int .u8 (xs.getD i 0))) (hc2 :∀i,i<k->w.cell? (a2.add i)=some (.int .u8 (ys.getD i 0))) (hcap:n<=c1) (hs:n<4294967281) (hk:k<=9223372036854775807) (hm:w.cell? ⟨0,0,none⟩=some (.int .i64 m)) :
 Calls Tryz.prog 160 #[.slice (some a1) n c1, .slice (some a2) k c2] w fun e w'=>e = .returned (.int .i64 (Lib.index (Lib.bytesOf xs) (Lib.bytesOf ys)))/\∃q,w'=w.drewN q:=Any.bytes_Index_at Tryz.lays185 a1 a2 n c1 k c2 xs ys m w hx hy hr1 hr2 hc1 hc2 hcap hs hk hm
end Go.Proofs
end
section
namespace Go.Proofs.YtgicephoflppiaaGreatDoor
open Go Go.RowKit Go.Ph Go.ChangeShapes Go.WideShapes Go.ChangeAt
theorem own : ownKnob Tryz.prog.godebug=none:=by kernel_rfl
theorem laidOut : laidOutB Tryz.prog=true:=by kernel_rfl
theorem pow_eq : Lib.tabData .u64 Lib.pow10Tab=(Rows.laid_internal_strconv_uint64pow10:DataW Unit):=by kernel_rfl
theorem gl_pow10 {W : World}(h : laidMetH Tryz.prog Rows.topKeptMessagesAreFiledRow.laid W): GlF (fun w => Lib.TabIs Tryz.prog w "internal/strconv.uint64pow10" .u64 Lib.pow10Tab) (memOf W) := by
 replace h:laidMet Tryz.prog Rows.topKeptMessagesAreFiledRow.laid W:=h
 have f := Lib.laidMet.reads h (n := "internal/strconv.uint64pow10") (d := Rows.laid_internal_strconv_uint64pow10) (by simp [Rows.topKeptMessagesAreFiledRow])
 rw[←pow_eq] at f;exact tab_of_reads (g:=5) (len:=20) (t:=253) (e:=66) f Kr Kr Kr Kr Kr Kr
theorem gl_errS {W : World}(h : laidMetH Tryz.prog Rows.topKeptMessagesAreFiledRow.laid W): GlF (fun w => ∃ tp p, w.var? Tryz.prog "strconv.ErrSyntax" = some #[.iface tp p]) (memOf W) := by
 replace h:laidMet Tryz.prog Rows.topKeptMessagesAreFiledRow.laid W:=h
 have f := Lib.laidMet.reads h (n := "strconv.ErrSyntax") (d := Rows.laid_strconv_ErrSyntax) (by simp [Rows.topKeptMessagesAreFiledRow])
 exact iface_of_reads (g:=1) (t:=160) f Kr Kr Kr
theorem gl_errR {W : World}(h : laidMetH Tryz.prog Rows.topKeptMessagesAreFiledRow.laid W): GlF (fun w => ∃ tp p, w.var? Tryz.prog "strconv.ErrRange" = some #[.iface tp p]) (memOf W) := by
 replace h:laidMet Tryz.prog Rows.topKeptMessagesAreFiledRow.laid W:=h
 have f := Lib.laidMet.reads h (n := "strconv.ErrRange") (d := Rows.laid_strconv_ErrRange) (by simp [Rows.topKeptMessagesAreFiledRow])
 exact iface_of_reads (g:=2) (t:=160) f Kr Kr Kr
theorem gl_maxl {W:World}(h:W.ShapedOpen Tryz.prog):GlF (fun w =>∃m,w.cell? ⟨0,0,none⟩=some (.int .i64 m)) (memOf W):=by
 obtain⟨m,hm⟩:=Go.Proofs.cell_of_shapedOpen_int (g:=0) (zero := #[.int .i64 0]) (t:=3) h (of_decide_eq_true Kr) Kr rfl Kr Kr Tu3;exact fun w ha=>⟨m,cell_upM ha hm⟩
noncomputable def laidWorld (os:Os):World:=World.laidAll Tryz.prog os Rows.topKeptMessagesAreFiledRow.laid
theorem laid_met (os:Os)(args:Array Value):laidMet Tryz.prog Rows.topKeptMessagesAreFiledRow.laid ((laidWorld os).forCall (fun _ _=>0) ⟨#[],args,[]⟩).memory :=
 laidMet_laidAll args Kr Kr
theorem str_list (s:ByteArray):∃l:Ls,s=⟨l.toArray⟩:=⟨s.data.toList,by cases s;simp⟩
end Go.Proofs.YtgicephoflppiaaGreatDoor
end
section
namespace Go.Ph
open Go Go.RowKit Go.ChangeShapes Go.WideShapes Go.ChangeAt
section
variable {H : Type} {enc : TypeId × Value → H} {P : Program} {W : World}
def ElemIs (enc:TypeId × Value->H)(P:Program)(W:World)(e:TypeId){α:Type}(encA:α->List Value)(ok:α->Prop):Prop :=
 ∀fuel cs (x:DataW H × List MemPlace),DataW.trod enc P W 0 (fun _=>true) true fuel e cs=some x->∃a,cs=encA a/\((∀y∈x.1.weights P e,y<=reachBytes)->ok a)
theorem weightsAll_mem {e:TypeId}:∀{l:List (DataW H)} {d:DataW H},d∈l->∀y∈d.weights P e,y∈DataW.weightsAll P e l
 | [],d,h=>by cases h
 | x::l,d,h=>fun y hy=>by
   rw[DataW.weightsAll];rcases List.mem_cons.1 h with rfl|h
   · exact l1b _ hy
   exact l1h _ (weightsAll_mem h y hy)
theorem open_sliceV {α:Type}{t e:TypeId}{kk:Nat}{encA:α->List Value}{ok:α->Prop}{v:Value}{d:DataW H}{p:List MemPlace}(ht:P.underlying t=some (.slice e))(hc:P.cellsOf e=kk)(hk:0<kk)
 (f :∀a,(encA a).length=kk) (hel:ElemIs enc P W e encA ok) (hsl :∃M len cap,v = .slice M len cap) (hT:DataW.Trod enc P W 0 (fun _=>true) true t v d p) :
 ∃l:List α,SlS (memOf W) kk encA v l/\DLen d l.length/\((∀x∈d.weights P t,x<=reachBytes)->∀a∈l,ok a):=by
 obtain⟨M,len,cap,rfl⟩:=hsl;obtain⟨fuel,hf⟩:=hT;rcases Deep.open_slice ht hf with ⟨hcs,hx⟩|⟨a,len',cap',m,n,D,Pl,hcs,_,hl,hm,hmm,hx,hi⟩
 · simp [Value.cells] at hcs;obtain⟨rfl,rfl,rfl⟩:=hcs;cases hx;exact⟨[],⟨f,none,0,G,by simp,⟨by simp [maxLen],fun _=>G⟩,fun h=>absurd G h⟩, .inl ⟨G,G⟩,fun _ a ha=>by cases ha⟩
 simp [Value.cells] at hcs;obtain⟨rfl,rfl,rfl⟩:=hcs;simp only[if_true] at hmm;cases hx;have each :∀i,i<len->∃x:α,(∀j u,(encA x)[j]? = some u->W.cell? (a.add (i*kk+j))=some u)/\((∀y∈(D i).weights P e,y<=reachBytes)->ok x):=fun i hil=>by
  obtain⟨cs',E,K⟩:=hi i Om;obtain⟨x,rfl,hw⟩:=hel _ _ _ K;rw[hc] at E;refine⟨x,fun j u hj=>?_,hw⟩;obtain⟨_,c1,Y⟩:=World.cells?_some E;have hjl:j<kk:=by have:=(List.getElem?_eq_some_iff.1 hj).1;rw [f] at this;exact this
  have:=Y j hjl;rw[hj] at this;rw[←this];congr 1;by_cases N:j=0 <;> by_cases z:i*kk=0 <;> simp [Addr.add,N,z,l1E]
 obtain⟨l,hll,hlx⟩ :∃l:List α,l.length=len/\∀i x,l[i]? = some x->(∀j u,(encA x)[j]? = some u->W.cell? (a.add (i*kk+j))=some u)/\((∀y∈(D i).weights P e,y<=reachBytes)->ok x):=by
  have :∀n,n<=len->∃l:List α,l.length=n/\∀i x,l[i]? = some x->(∀j u,(encA x)[j]? = some u->W.cell? (a.add (i*kk+j))=some u)/\((∀y∈(D i).weights P e,y<=reachBytes)->ok x):=by
   intro n;induction n with
   | zero=>exact fun _=>⟨[],rfl,fun i x h=>by simp at h⟩
   | succ n ih =>
     intro hn;obtain⟨l,E,K⟩:=ih Om;obtain⟨x,hx⟩:=each n Om;refine⟨l++[x],by simp [E],fun i y hy=>?_⟩;rcases l0I i n with hin|hin
     · rw[List.getElem?_append_left Om] at hy;exact K i y hy
     rw[List.getElem?_append_right Om] at hy;have z:i-l.length=0:=by have:=(List.getElem?_eq_some_iff.1 hy).1;simp at this;omega
     rw[z] at hy;simp at hy;subst hy;obtain rfl:i=n:=by omega
     exact hx
  exact this len (l07 _)
 refine⟨l,⟨f,some a,cap,by rw[hll],by omega,⟨hm,fun h=>by cases h⟩,fun hne=>?_⟩, .inr ⟨_,_,G,by simp [hll]⟩,fun hw x hx=>?_⟩
 · have hpos:0<len:=by
    rcases l1B len with h|h
    · exact absurd (l05 Om) hne
    exact h
   have hcell :∀q,q<len*kk->W.cell? (a.add q)=some ((l.flatMap encA).getD q undef):=fun q hq=>by
    have Z:q / kk<len:=Nat.div_lt_of_lt_mul (by rw[Nat.mul_comm];exact hq);have O:q % kk<kk:=l1H _ hk;have J:l[q / kk]? = some (l[q / kk]'Om):=List.getElem?_eq_getElem _;have hu:(encA (l[q / kk]'Om))[q % kk]? = some ((encA (l[q / kk]'Om))[q % kk]'(by rw[f];exact O)):=List.getElem?_eq_getElem _;have U:=(hlx _ _ J).1 _ _ hu;have V:=flat_at f l _ _ _ _ J hu;have hqq:q / kk*kk+q % kk=q:=by rw[Nat.mul_comm];exact Nat.div_add_mod q kk
    rw[hqq] at U V;rw[U,l0d,V];rfl
   obtain⟨b,o,cs,t',fz,rfl,hb,hcs⟩:=cells_at (n:=len*kk) (Nat.mul_pos hpos hk) hcell;refine⟨b,o,cs,t',fz,G,hb,fun i x hi j u hj=>?_⟩;have hil:=(List.getElem?_eq_some_iff.1 hi).1;have hjl:j<kk:=by have:=(List.getElem?_eq_some_iff.1 hj).1;rw [f] at this;exact this
   have hlt:i*kk+j<len*kk:=by
    have:(i+1)*kk<=len*kk:=l0S _ Om;rw[l0X] at this;omega
   have:=hcs (i*kk+j) hlt;rw[l0d,flat_at f l i j x u hi hj] at this;rw[l1E];exact this
 obtain⟨i,hi',rfl⟩:=l0P hx;refine(hlx i _ (List.getElem?_eq_getElem hi')).2 (fun y hy=>hw y ?_);simp only[DataW.weights,ht];exact l0F _ (l1b _ (weightsAll_mem (List.mem_map.2 ⟨i,List.mem_range.2 Om,G⟩) y hy))
theorem SlS.toSl {α:Type}{M:Mem}{encA:α->Value}{v:Value}{l:List α}(h:SlS M 1 (fun a=>[encA a]) v l):Sl M encA v l:=by
 obtain⟨N,A,c,rfl,f,u,z⟩:=h;refine⟨A,c,G,f,u,fun hne=>?_⟩;obtain⟨b,o,cs,t,fz,E,J,K⟩:=z hne;exact⟨b,o,cs,t,fz,E,J,fun i x hi=>by have:=K i x hi 0 (encA x) G;simpa using this⟩
end
end Go.Ph
end
section
namespace Go.Ph
open Go Go.RowKit Go.ChangeShapes Go.WideShapes Go.ChangeAt
section
variable {H : Type} {enc : TypeId × Value → H} {P : Program} {W : World}
theorem elem_fld {e tS:TypeId}{f u:Field}(he:P.underlying e=some (.struct #[f,u]))(O:f.type=tS)(U:u.type=tS)(V:f.offset=0)(Y:u.offset=1)(hS:P.underlying tS=some .string)(hc:P.cellsOf tS=1)(hce:P.cellsOf e=2):
 ElemIs enc P W e (fun a:Ls × Ls=>[S a.1,S a.2]) (fun a=>a.1.length<=140737488351232/\a.2.length<=140737488351232):=fun fuel cs x h=>by
 obtain⟨Z,y1,n,rfl,hl,J,K⟩:=trod_struct2 he h;rw[O,V,hc] at J;rw[U,Y,hc] at K;rw[hce] at hl;obtain⟨z,M,rfl,_⟩:=DataW.trod_string hS J;obtain⟨E,N,rfl,_⟩:=DataW.trod_string hS K
 match cs,hl with
 | [c0,c1],_ =>
   simp at M N;subst M N;refine⟨(z.data.toList,E.data.toList),by cases z;cases E;simp [S],fun hw=>?_⟩;have hw' :∀y∈ [z.data.toList.length,E.data.toList.length],y<=reachBytes:=fun y hy=>hw y (by
    simp only[DataW.weights,he,DataW.weightsEach,l0a,l0v];simpa using hy)
   exact⟨hw' _ Sm,hw' _ Sm⟩
end
end Go.Ph
end
section
namespace Go.Ph
open Go Go.RowKit Go.ChangeShapes Go.WideShapes Go.ChangeAt
section
variable {H : Type} {enc : TypeId × Value → H} {P : Program} {W : World}
theorem elem_byte {e:TypeId}(he:P.underlying e=some (.int .u8)):ElemIs enc P W e (fun a:UInt8=>[encB a]) (fun _=>True):=fun fuel cs x h=>by
 obtain⟨n,rfl,rfl,hw⟩:=DataW.trod_int he h;have f:=wf_u8 hw;refine⟨ub n,?_,fun _=>trivial⟩;show [Value.int .u8 n]=[Value.int .u8 ((ub n).toNat:Int)]
 rw[ub_toNat,l1W Om Om]
theorem sl_of {n:Nat}{t e:TypeId}{c:Value}{y:DataW H × List MemPlace}(hL:P.underlying t=some (.slice e))(k:DataW.trod enc P W 0 (fun _=>true) true n t [c]=some y):∃f len cap,c = .slice f len cap:=by
 rcases Deep.open_slice hL k with ⟨hcs,_⟩|⟨a,len',cap',m,n',D,Pl,hcs,_⟩
 · simp only[List.cons.injEq,and_true] at hcs;exact ⟨_,_,_,hcs⟩
 simp only[List.cons.injEq,and_true] at hcs;exact ⟨_,_,_,hcs⟩
end
end Go.Ph
end
section
namespace Go.Ph
open Go Go.RowKit Go.ChangeShapes Go.WideShapes Go.ChangeAt
section
variable {H : Type} {enc : TypeId × Value → H} {P : Program} {W : World}
theorem elem_rcp {e tS tI:TypeId}{f u:Field}(he:P.underlying e=some (.struct #[f,u]))(N:f.type=tS)(O:u.type=tI)(U:f.offset=0)(V:u.offset=1)(hS:P.underlying tS=some .string)(hc:P.cellsOf tS=1)(hI:P.underlying tI=some (.int .i64))(hcI:P.cellsOf tI=1)(hce:P.cellsOf e=2):
 ElemIs enc P W e (fun a:Ls × Int=>[S a.1,I a.2]) (fun a=>a.1.length<=140737488351232):=fun fuel cs x h=>by
 obtain⟨Z,y1,n,rfl,hl,z,E⟩:=trod_struct2 he h;rw[N,U,hc] at z;rw[O,V,hcI] at E;rw[hce] at hl;obtain⟨J,K,rfl,_⟩:=DataW.trod_string hS z;obtain⟨Y,M,rfl,_⟩:=DataW.trod_int hI E
 match cs,hl with
 | [c0,c1],_ =>
   simp at K M;subst K M;refine⟨(J.data.toList,Y),by cases J;simp [S,I],fun hw=>?_⟩;exact hw _ (by
    simp only[DataW.weights,he,DataW.weightsEach,l0a,l0v];simp)
abbrev MlV : Type:=Ls × List (Ls × Int) × Ls × List (Ls × Ls) × Ls
theorem open_mail {t tE tM tS tR eR tI tL e tB Y:TypeId}{F0 F1 Z f1 f2 r0 r1 m0 m1 g0 g1:Field}{v:Value}{d:DataW H}{p:List MemPlace}{base:Nat}
 (hs:P.underlying t=some (.struct #[F0,F1])) (T0:F0.type=tE) (T1:F1.type=tM) (O0:F0.offset=0) (O1:F1.offset=3) (hC:P.cellsOf t=5)
 (hE:P.underlying tE=some (.struct #[Z,f1,f2])) (t0:Z.type=tS) (t1:f1.type=tR) (t2:f2.type=tS) (o0:Z.offset=0) (o1:f1.offset=1) (o2:f2.offset=2) (hcE:P.cellsOf tE=3)
 (hR:P.underlying tR=some (.slice eR)) (hcR:P.cellsOf tR=1) (her:P.underlying eR=some (.struct #[r0,r1])) (v0:r0.type=tS) (v1:r1.type=tI) (w0:r0.offset=0) (w1:r1.offset=1) (hcer:P.cellsOf eR=2) (hI:P.underlying tI=some (.int .i64)) (hcI:P.cellsOf tI=1)
 (hM:P.underlying tM=some (.struct #[m0,m1])) (x0:m0.type=tL) (x1:m1.type=tB) (n0:m0.offset=0) (n1:m1.offset=1) (hcM:P.cellsOf tM=2)
 (hL:P.underlying tL=some (.slice e)) (hcL:P.cellsOf tL=1) (hB:P.underlying tB=some (.slice Y)) (hcB:P.cellsOf tB=1) (h8:P.underlying Y=some (.int .u8)) (au:P.cellsOf Y=1) (av:P.bytesOf Y=1)
 (he:P.underlying e=some (.struct #[g0,g1])) (u0:g0.type=tS) (u1:g1.type=tS) (q0:g0.offset=0) (q1:g1.offset=1) (hS:P.underlying tS=some .string) (hcS:P.cellsOf tS=1) (hce:P.cellsOf e=2)
 (hval:Value.okWide P W .any base t v) (h0:DataW.Trod enc P W 0 (fun _=>true) true t v d p) :
 ∃(z:MlV) (a1 a3 a4:Value),v = .agg #[S z.1,a1,S z.2.2.1,a3,a4]/\SlS (memOf W) 2 (fun a:Ls × Int=>[S a.1,I a.2]) a1 z.2.1/\SlS (memOf W) 2 (fun a=>[S a.1,S a.2]) a3 z.2.2.2.1/\Sl (memOf W) encB a4 z.2.2.2.2/\
  ((∀y∈d.weights P t,y<=reachBytes)->z.1.length<=140737488351232/\(∀a∈z.2.1,a.1.length<=140737488351232)/\z.2.2.1.length<=140737488351232/\(∀a∈z.2.2.2.1,a.1.length<=140737488351232/\a.2.length<=140737488351232)/\z.2.2.2.2.length<=140737488351232):=by
 obtain⟨cs,rfl,hsz⟩:=okWide_struct hs hval;obtain⟨fuel,h⟩:=h0;obtain⟨xs,n,_,hd,_,hlen,hf⟩:=DataW.trod_struct hs h;have ad:cs.size=5:=hsz.trans hC;obtain⟨J,f,K,u,E,rfl⟩ :∃J f K u E,cs = #[J,f,K,u,E]:=by
  obtain⟨l⟩:=cs
  match l,ad with
  | [J,f,K,u,E],_=>exact⟨J,f,K,u,E,rfl⟩
 match xs,hlen with
 | [yE,yM],_ =>
   have kE:=hf 0 F0 rfl;have kM:=hf 1 F1 rfl;rw[T0,O0,hcE] at kE;rw[T1,O1,hcM] at kM;simp only[List.getElem?_cons_zero,List.getElem?_cons_succ,Option.some.injEq] at kE kM;have kE':DataW.trod enc P W 0 (fun _=>true) true n tE [J,f,K]=some yE:=kE;have kM':DataW.trod enc P W 0 (fun _=>true) true n tM [u,E]=some yM:=kM;obtain⟨ys,n',_,hdE,_,hlenE,hfE⟩:=DataW.trod_struct hE kE';obtain⟨zs,n'',_,hdM,_,hlenM,hfM⟩:=DataW.trod_struct hM kM'
   match ys,hlenE,zs,hlenM with
   | [y0,M,y2],_,[z0,N],_ =>
     have k0:=hfE 0 Z rfl;have k1:=hfE 1 f1 rfl;have k2:=hfE 2 f2 rfl;have k3:=hfM 0 m0 rfl;have k4:=hfM 1 m1 rfl;rw[t0,o0,hcS] at k0;rw[t1,o1,hcR] at k1;rw[t2,o2,hcS] at k2;rw[x0,n0,hcL] at k3;rw[x1,n1,hcB] at k4;simp only[List.getElem?_cons_zero,List.getElem?_cons_succ,Option.some.injEq] at k0 k1 k2 k3 k4;have az:DataW.trod enc P W 0 (fun _=>true) true n' tS [J]=some y0:=k0;have O:DataW.trod enc P W 0 (fun _=>true) true n' tR [f]=some M:=k1;have b0:DataW.trod enc P W 0 (fun _=>true) true n' tS [K]=some y2:=k2;have U:DataW.trod enc P W 0 (fun _=>true) true n'' tL [u]=some z0:=k3;have V:DataW.trod enc P W 0 (fun _=>true) true n'' tB [E]=some N:=k4;obtain⟨s0,e0,b3,_⟩:=DataW.trod_string hS az;obtain⟨s2,a8,b5,_⟩:=DataW.trod_string hS b0;simp only[List.cons.injEq,and_true] at e0 a8;subst e0 a8;have hT1:DataW.Trod enc P W 0 (fun _=>true) true tR f M.1 M.2:=by
      obtain⟨a0,len,cap,rfl⟩:=sl_of hR O;exact⟨n',O⟩
     have hT3:DataW.Trod enc P W 0 (fun _=>true) true tL u z0.1 z0.2:=by
      obtain⟨a0,len,cap,rfl⟩:=sl_of hL U;exact⟨n'',U⟩
     have hT4:DataW.Trod enc P W 0 (fun _=>true) true tB E N.1 N.2:=by
      obtain⟨a0,len,cap,rfl⟩:=sl_of hB V;exact⟨n'',V⟩
     obtain⟨lr,hlr,hdr,hxr⟩:=open_sliceV hR hcer Om (fun _=>rfl) (elem_rcp (enc:=enc) (P:=P) (W:=W) her v0 v1 w0 w1 hS hcS hI hcI hcer) (sl_of hR O) hT1;obtain⟨l,hl,hdl,hx⟩:=open_sliceV hL hce Om (fun _=>rfl) (elem_fld (enc:=enc) (P:=P) (W:=W) he u0 u1 q0 q1 hS hcS hce) (sl_of hL U) hT3;obtain⟨b,hb,hdb,_⟩:=open_sliceV hB au Om (fun _=>rfl) (elem_byte (enc:=enc) (P:=P) (W:=W) h8) (sl_of hB V) hT4;refine⟨(s0.data.toList,lr,s2.data.toList,l,b),f,u,E,by cases s0;cases s2;simp [S],hlr,hl,hb.toSl,fun hw=>?_⟩;have hd':d = .agg [yE.1,yM.1]:=by cases hd;rfl
     have hdE':yE.1 = .agg [y0.1,M.1,y2.1]:=by rw[hdE];rfl
     have hdM':yM.1 = .agg [z0.1,N.1]:=by rw[hdM];rfl
     subst hd';rw[hdE',hdM'] at hw;have hW :∀y∈DataW.weightsEach P [tS,tR,tS] [y0.1,M.1,y2.1]++DataW.weightsEach P [tL,tB] [z0.1,N.1],y<=reachBytes:=fun y hy=>hw y (by
      simp only[DataW.weights,hs,hE,hM,l0a,l0v,T0,T1,t0,t1,t2,x0,x1,DataW.weightsEach,l0n] at hy ⊢;exact hy)
     rw[b3,b5] at hW;simp only[DataW.weightsEach,DataW.weights,l0n] at hW;refine⟨hW _ Sm,hxr fun y hy=>hW y (by simp [hy]),hW _ Sm,hx fun y hy=>hW y (by simp [hy]),slice_weight hB av Om hdb fun y hy=>hW y (by simp [hy])⟩
end
end Go.Ph
end
section
namespace Go.Ph
open Go Go.RowKit
def Grows {α:Type}(s:Sem α):Prop :=∀(P:Program) (w:World) (x:α) (w':World),s.run P w = .ok x w'->w.grownBy w' none
theorem Grows.newVar {t:TypeId}{v:Value}{f:Addr->Value}:Grows (do pure (f (←Go.newVar t v)):Sem Value):=fun P w x w' hr=>by
 simp only[Go.newVar,newRow,Sem.run_bind,Sem.run_pure,Result.andThen_ok] at hr;have:w'=w.alloc (.cells v.cells t):=by cases hr;rfl
 rw[this];exact grownBy_alloc' _ _
theorem Keeps.zeroValue {t:TypeId}:Keeps (Go.zeroValue t):=by
 unfold Go.zeroValue;refine Keeps.bind Keeps.typeInfo fun p=>?_
 split
 · exact Keeps.pure _
 exact Keeps.halt
def YieldsW (W:World->Prop)(P:Program)(ops:Array Oper)(o:Oper)(v:Value)(a:Act)(w:World):Prop :=
 Region.wanted o (yielded ops a.tmps)=true/\(∀w,W w->(execOp a.eval o).run P w = .ok (.value v) w)/\(∀w,o.about P w a.eval=none)/\W w
section
variable {W : World → Prop} {F : Fence} {n : Nat} {P : Program} {ops : Array Oper} {Q : Exit → Act → World → Prop}
theorem YieldsW.wpOpIn {i:Nat}{o:Oper}{v:Value}{a:Act}{w:World}(hro:F.round=none)(hi:ops[i]? = some o)(hy:YieldsW W P ops o v a w){K:Act->World->Prop}(h:K (a.put o.dst v) w):wpOpIn F n P ops Q i K a w:=by
 unfold Go.wpOpIn;simp only[hi];have hab :∀f,o.about P w a.eval=some f->F.fn f:=fun f hf=>by rw[hy.2.2.1 w] at hf;cases hf
 simp only[hy.1,if_true,Oper.wpIn,hro,Oper.semAt_none,hy.2.1 w hy.2.2.2,Oper.uponIn];exact⟨hab,h⟩
end
section
variable {P : Program} {ops : Array Oper} {Q : Exit → Act → World → Prop} {n fuel i d : Nat} {D : List Deferred} {e : Env} {w : World} {listed : Array Bool} {o : Oper} {v : Value}
end
end Go.Ph
end
section
namespace Go.Ph
open Go Go.RowKit Pl
abbrev Hd : Type:=Option Addr × Nat × Nat
def hv (h:Hd):Value := .slice h.1 h.2.1 h.2.2
theorem One.hv (h:Hd):One (hv h):=One.slice _ _ _
def hNil : Hd:=(none,0,0)
structure Rl (F α:Type) where
 k:Nat
 enc:F->List Value
 rel:Mem->F->α->Prop
 len :∀f,(enc f).length=k
 one :∀f,∀u∈enc f,u.oneCell'=true
 up :∀{M M':Mem},M.le M'->∀{f:F} {x:α},rel M f x->rel M' f x
variable {F α : Type}
def RelL (R:Rl F α)(M:Mem):List F->List α->Prop
 | [],[]=>True
 | f::fl,x::l=>R.rel M f x/\RelL R M fl l
 | _,_=>False
section
variable {R : Rl F α} {M M' : Mem} {fl fs : List F} {l s l2 : List α}
theorem RelL.nil : RelL R M [] []:=trivial
theorem RelL.len :∀{fl:List F} {l:List α},RelL R M fl l->fl.length=l.length
 | [],[],_=>rfl
 | f::fl,x::l,h=>by rw[l03,l03,RelL.len h.2]
 | [],_::_,h=>h.elim
 | _::_,[],h=>h.elim
theorem RelL.mono :∀{fl:List F} {l:List α},RelL R M fl l->M.le M'->RelL R M' fl l
 | [],[],_,_=>trivial
 | f::fl,x::l,h,hl=>⟨R.up hl h.1,RelL.mono h.2 hl⟩
 | [],_::_,h,_=>h.elim
 | _::_,[],h,_=>h.elim
theorem RelL.append :∀{fl:List F} {l:List α},RelL R M fl l->RelL R M fs s->RelL R M (fl++fs) (l++s)
 | [],[],_,k=>k
 | f::fl,x::l,h,k=>⟨h.1,RelL.append h.2 k⟩
 | [],_::_,h,_=>h.elim
 | _::_,[],h,_=>h.elim
theorem RelL.one {f:F}{x:α}(h:R.rel M f x):RelL R M [f] [x]:=⟨h,trivial⟩
theorem RelL.at :∀{fl:List F} {l:List α} {i:Nat} {a:α},RelL R M fl l->l[i]? = some a->∃f,fl[i]? = some f/\R.rel M f a
 | [],[],i,a,_,hi=>by simp at hi
 | f::fl,x::l,0,a,h,hi=>by
   simp only[List.getElem?_cons_zero,Option.some.injEq] at hi;subst hi;exact⟨f,G,h.1⟩
 | f::fl,x::l,i+1,a,h,hi=>by
   rw[List.getElem?_cons_succ] at hi;obtain⟨f',E,J⟩:=RelL.at h.2 hi;exact⟨f',by rw[List.getElem?_cons_succ];exact E,J⟩
 | [],_::_,_,_,h,_=>h.elim
 | _::_,[],_,_,h,_=>h.elim
theorem RelL.drop :∀(n:Nat) {fl:List F} {l:List α},RelL R M fl l->RelL R M (fl.drop n) (l.drop n)
 | 0,_,_,h=>h
 | n+1,[],[],h=>h
 | n+1,f::fl,x::l,h=>RelL.drop n h.2
 | _+1,[],_::_,h=>h.elim
 | _+1,_::_,[],h=>h.elim
theorem RelL.take :∀(n:Nat) {fl:List F} {l:List α},RelL R M fl l->RelL R M (fl.take n) (l.take n)
 | 0,_,_,h=>trivial
 | n+1,[],[],h=>h
 | n+1,f::fl,x::l,h=>⟨h.1,RelL.take n h.2⟩
 | _+1,[],_::_,h=>h.elim
 | _+1,_::_,[],h=>h.elim
theorem RelL.appO {w:Nat}(h:RelL R M fl l)(k:RelL R M fs s)(ha:app w l s=some l2):∃f,app w fl fs=some f/\RelL R M f l2:=by
 obtain⟨E,rfl⟩:=app_some ha;exact⟨fl++fs,by unfold app;rw [h.len,k.len,if_pos E],h.append k⟩
end
def SlR (R:Rl F α)(M:Mem)(v:Value)(l:List α):Prop :=∃fl,SlS M R.k R.enc v fl/\RelL R M fl l
section
variable {R : Rl F α} {M M' : Mem} {v : Value} {l l2 : List α}
theorem SlR.mono (h:SlR R M v l)(hl:M.le M'):SlR R M' v l:=by
 obtain⟨fl,f,E⟩:=h;exact⟨fl,f.mono hl,E.mono hl⟩
theorem SlR.nil : SlR R M (.slice none 0 0) []:=⟨[],SlS.nil M R.enc R.len,trivial⟩
abbrev _root_.q0U := @SlR.nil
theorem SlR.one (h:SlR R M v l):One v:=by
 obtain⟨fl,f,_⟩:=h;exact f.one
theorem SlR.hd (h:SlR R M v l):∃q:Hd,v=hv q:=by
 obtain⟨fl,⟨_,A,c,hv,_⟩,_⟩:=h;exact⟨(A,fl.length,c),hv⟩
theorem SlR.atC {i:Int}{a:α}(h:SlR R M v l)(hi:idx l i=some a):∃b o f,AtP v R.k i l.length b o/\CellsM M ⟨b,o,none⟩ (R.enc f)/\R.rel M f a:=by
 obtain⟨fl,K,E⟩:=h;obtain⟨N,hc⟩:=idx_some hi;obtain⟨f,hf,hr⟩:=E.at hc;obtain⟨b,o,J,O⟩:=K.atC (i:=i) (a:=f) (by unfold idx;rw [if_pos N];exact hf);rw[E.len] at J;exact⟨b,o,f,J,O,hr⟩
theorem SlR.of {fl:List F}(h:SlS M R.k R.enc v fl)(k:RelL R M fl l):SlR R M v l:=⟨fl,h,k⟩
abbrev _root_.q1q := @SlR.of
end
theorem SlS.hd {M:Mem}{kk:Nat}{enc:α->List Value}{v:Value}{l:List α}(h:SlS M kk enc v l):∃q:Hd,v=hv q:=by
 obtain⟨_,A,c,hv,_⟩:=h;exact⟨(A,l.length,c),hv⟩
theorem Sl.hd {M:Mem}{enc:α->Value}{v:Value}{l:List α}(h:Sl M enc v l):∃q:Hd,v=hv q:=by
 obtain⟨A,c,hv,_⟩:=h;exact⟨(A,l.length,c),hv⟩
section
variable {C : Nat → Prop} {r : Option Nat} {P : Program} {ops : Array Oper} {Q : Exit → Act → World → Prop} {n : Nat} {D : List Deferred} {rest : List Oper} {e : Env} {w0 w : World} {M0 M : Mem} {L L' : List Item} {d : Nat} {v u z : Value}
  {x y : Operand} {ty t t' te ts tt : TypeId} {pos : String} {af : Array Edge} {g : Option (Nat × Bool)} {dst : Option Tmp} {R : Rl F α} {l l2 l3 : List α}
theorem Ex.lenSlR (ht:P.underlying t=some (.slice t'))(h:SlR R M v l)(hx:ev e x=some v):Ex P ⟨dst, .call ⟨.builtin .len,#[x],#[t]⟩,ty,pos,af,g⟩ e w (I l.length) w:=by
 obtain⟨fl,f,E⟩:=h;rw[←E.len];exact q0O ht f hx
abbrev _root_.q0S := @Ex.lenSlR
theorem WR.appRC {bytes:Nat}{L':Item->List Item}{fl:List F}(T:ElemTy P ts t z R.k bytes)(hbp:Nat.blt 0 bytes=true)(H:StX C w0 M0 M L w)(hk:RelL R M fl l)(hx:ev e x=some v)(hu :∀it',Upd L (RowS t R.k R.enc v fl) it' (L' it'))(hy:ev e y=some u)
 (hs:SlR R M u l2) (ha:app bytes l l2=some l3)
 (hw:Wn ops n D e ⟨some d, .call ⟨.builtin .append,#[x,y],#[ts,ts]⟩,ty,pos,af,g⟩) (hn:Nat.blt d n=true)
 (k :∀v' fl' w',RelL R M fl' l3->StX C w0 M0 M (L' (RowS t R.k R.enc v' fl')) w'->WR r P ops Q n D rest ((d,v')::e) w') :
 WR r P ops Q n D (⟨some d, .call ⟨.builtin .append,#[x,y],#[ts,ts]⟩,ty,pos,af,g⟩::rest) e w:=by
 obtain⟨O,E,J⟩:=hs;obtain⟨f,K,N⟩:=hk.appO J ha;exact q1j T hbp R.one H hx hu hy E K hw hn fun v' w' h=>k v' f w' N h
end
end Go.Ph
end
section
namespace Go.Ph.Pl
abbrev Elt : Type:=Option (UInt8 ⊕ (Ls × Bool))
def eltW (p:Ls × Bool):Elt:=some (.inr p)
end Go.Ph.Pl
namespace Go.Ph
open Go Go.RowKit Pl
def encA (ts tw:TypeId):Elt->Value
 | none => .nilIface
 | some (.inl c) => .iface ts (encB c)
 | some (.inr p) => .iface tw (.agg #[S p.1, .bool p.2])
section
variable {P : Program} {e : Env} {w : World} {v : Value} {x y : Operand} {ty t t' ts tw xt : TypeId} {pos : String} {af : Array Edge} {g : Option (Nat × Bool)} {dst : Option Tmp} {a : Elt} {c : UInt8} {ms : Array (String × TypeId)}
theorem Ex.anyW {s:Ls}{b:Bool}(hn:P.concrete tw=true)(hx:ev e x=some (.agg #[S s, .bool b])):Ex P ⟨dst, .makeInterface tw x,ty,pos,af,g⟩ e w (encA ts tw (eltW (s,b))) w:=Ex.ifaceV hn hx
end
end Go.Ph
end
section
namespace Go.Ph
open Go Go.RowKit Pl
def dfrOf (f:FuncId)(cap:List Value):Deferred:={target := .fn (.func f) cap.toArray,args := #[]}
section
variable {C : Nat → Prop} {P : Program} {ops : Array Oper} {Q : Exit → Act → World → Prop} {n : Nat} {D : List Deferred} {rest : List Oper} {e : Env} {w0 w : World} {M0 M : Mem} {L L' : List Item} {v v1 v2 u z : Value}
  {x y : Operand} {ty t t' : TypeId} {pos : String} {af : Array Edge} {g : Option (Nat × Bool)} {fn : Func} {f : FuncId} {cap : List Value} {x1 x2 : ResultVar} {R : Value → Mem → Prop}
theorem WR.deferS (hx:ev e x=some (.func (.func f) #[] cap.toArray))(hw:Wn ops n D e ⟨none, .defer ⟨.value x,#[],#[]⟩,ty,pos,af,g⟩)
 (k:WR none P ops Q n (dfrOf f cap::D) rest e w):WR none P ops Q n D (⟨none, .defer ⟨.value x,#[],#[]⟩,ty,pos,af,g⟩::rest) e w:=by
 intro a hsat;unfold wpListIn;rw[if_pos (hw a hsat)];refine⟨fun _ _=>trivial,?_⟩;have hf:a.eval x = .func (.func f) #[] cap.toArray:=hsat.fits _ _ hx;have hrun:(Oper.semAt none a.eval ⟨none, .defer ⟨.value x,#[],#[]⟩,ty,pos,af,g⟩).run P w = .ok (.defer (dfrOf f cap)) w:=by
  rw[Oper.semAt_none];simp [execOp,resolve,hf,Deferred.ofValue,dfrOf]
 show Oper.uponIn (Wd none) 0 P _ a _ _ ((Oper.semAt none a.eval _).run P w)
 rw[hrun,Oper.uponIn_defer];exact k _ ⟨hsat.size,by simp [hsat.defers,Act.put],hsat.val⟩
theorem calls_of_WCD {c:Code}{args:List Value}{R:Ending->World->Prop}(hf:P.funcs[f]? = some fn)(hb:fn.body=some c)(hnt:fn.ntmps=n)(hn:Nat.ble args.length n=true)
 (h:WC none P (bodyPostDIn (Wd none) 0 P fn R) n [] c (envOf 0 args) w):Calls P f args.toArray w R:=by
 refine callsIn_Wd.1 (callsIn_of_wp_defers (F:=Wd none) (n:=0) hf hb trivial ?_);subst hnt;exact h _ (Sat.init (l08 hn))
theorem Ct.ofD {c:Code}{args:List Value}{Pre:Mem->Prop}(hf:P.funcs[f]? = some fn)(hen :∀ar w,(callFunc f ar).run P w = .ok (.enter f ar) w)(hb:fn.body=some c)(hnt:fn.ntmps=n)(hn:Nat.ble args.length n=true)
 (h :∀w M,St w M M [] w->Pre M->WC none P (bodyPostDIn (Wd none) 0 P fn (Ret w M R)) n [] c (envOf 0 args) w):Ct P f args Pre R :=
 ⟨hen,fun w M ha hp=>calls_of_WCD hf hb hnt hn (h w M (StX.start ha) hp)⟩
theorem leaves_one {m:FrameMode}{tmps:Array Value}{K:Ending->World->Prop}(hen :∀ar w,(callFunc f ar).run P w = .ok (.enter f ar) w)(hm:m≠ .run)
 (hc:CallsDIn (Wd none) 0 P f cap.toArray m w fun e u' w'=>(∃v,e = .returned v)/\settle u' = .returning/\∃v,(results fn tmps).run P w' = .ok v w'/\K (.returned v) w') :
 LeavesIn (Wd none) 0 P fn tmps K [dfrOf f cap] m w:=by
 refine⟨hm,fun h=>(by cases h),_,_,f,cap.toArray,G,by simp [invoke,dfrOf,hen],fun _ _=>trivial,hc.mono ?_⟩;rintro e u' w' ⟨⟨v,rfl⟩,hs,hk⟩;show LeavesIn _ _ _ _ _ _ [] (settle u') w'
 rw[hs];exact hk
def postD (P:Program)(fn:Func)(K:World->Prop):Exit->Act->World->Prop
 | .normal,a,w | .ret,a,w=>a.defers=[]/\∃v,(results fn a.tmps).run P w = .ok v w/\K w
 | _,_,_=>False
theorem WQ.postD0 {K:World->Prop}(hr:fn.results = #[])(k:K w):WQ (postD P fn K) .normal n [] e w:=fun a ha=>⟨ha.defers, .tuple #[],by simp [results,hr],k⟩
end
end Go.Ph
end
section
namespace Go.Ph
open Go Go.RowKit Pl
section
variable {C : Nat → Prop} {r : Option Nat} {P : Program} {ops : Array Oper} {Q : Exit → Act → World → Prop} {n : Nat} {D : List Deferred} {rest : List Oper} {e : Env} {w0 w : World} {M0 M : Mem} {L L' A B : List Item} {d : Nat} {v u : Value}
  {x y : Operand} {ty t t' : TypeId} {pos : String} {af : Array Edge} {g : Option (Nat × Bool)} {dst : Option Tmp} {α : Type} {enc : α → Value} {l : List α}
theorem StX.lend (H:StX C w0 M0 M L w)(hm:RowI t enc u l∈L):∃M1,M.le M1/\Ag M1 w/\Sl M1 enc u l/\∀{w':World} {M':Mem},Ext w M1 w' M'->∃M2,M.le M2/\M2.le M'/\StX C w0 M0 M2 L w':=by
 have hown:=H.rowOf hm;rcases hown.2 with ⟨hv,hn⟩|⟨g,cap,cur,hv,hgb,hg,hnc,hcm,hcs,htake⟩
 · have:l=[]:=l05 hn;subst this;subst hv;exact⟨M,Mem.le.refl M,H.ag,q0L M enc,fun {w' M'} hx=>⟨M',hx.le,Mem.le.refl _,H.call hx⟩⟩
 have hf:(RowI t enc u l).foot=some g:=by rw[hv];rfl
 have hMg:=((H.own _ hm).2 g hf).1;have hCg:=((H.own _ hm).2 g hf).2;have f:M.le (M.set g (.cells cur t)):=fun b o hb=>by
  by_cases h:b=g
  · subst h;rw [hMg] at hb;cases hb
  simp [Mem.set,h,hb]
 have hag:Ag (M.set g (.cells cur t)) w:=fun b o hb=>by
  by_cases h:b=g
  · subst h;simp only[Mem.set,if_true] at hb;rw [←hb];exact hg
  simp only[Mem.set,h,if_false] at hb;exact H.ag b o hb
 refine⟨_,f,hag,⟨some ⟨g,0,none⟩,cap,hv,hnc,⟨hcm,fun h=>by cases h⟩,fun _=>⟨g,0,cur,t,(0,0),G,by simp [Mem.set],fun i x hx=>?_⟩⟩,fun {w' M'} hx=>?_⟩
 · have hi:=(List.getElem?_eq_some_iff.1 hx).1;have E:(cur.toList.take (l.length*1))[i]? = some (enc x):=by rw[htake,List.getElem?_map,hx];rfl
   rw[List.getElem?_take,if_pos Om] at E;simpa using E
 have hgw:g<w.heap.size:=(Array.getElem?_eq_some_iff.1 hg).1;refine⟨fun b=>if b=g then none else M' b,fun b o hb=>?_,fun b o hb=>?_,⟨⟨hx.below.os.trans H.ext.below.os,hx.below.tape.trans H.ext.below.tape,hx.below.output.trans H.ext.below.output,l0A H.ext.below.size hx.below.size,fun k hk hn=>?_⟩,fun b o hb=>?_,fun b o hb=>?_,fun b hb=>?_⟩,fun it hit=>?_,H.sep⟩
 · have hne:b≠g:=fun h=>by rw[h,hMg] at hb;cases hb
   simp only[hne,if_false];exact hx.le b o (f b o hb)
 · by_cases h:b=g
   · simp [h] at hb
   simpa [h] using hb
 · exact(hx.below.block k (l0G hk H.base) (fun h=>h)).trans (H.ext.below.block k hk hn)
 · have hb':=H.ext.le b o hb;have hne:b≠g:=fun h=>by rw[h,hMg] at hb';cases hb'
   simp only[hne,if_false];exact hx.le b o (f b o hb')
 · by_cases h:b=g
   · simp [h] at hb
   simp only[h,if_false] at hb;exact hx.ag b o hb
 · by_cases h:b=g
   · subst h;simp only[if_true];rw[←H.ext.old b hb,hMg]
   simp only[h,if_false];rw[hx.old b (l0G hb H.base)];simp only[Mem.set,h,if_false];exact H.ext.old b hb
 obtain⟨z,J⟩:=H.own it hit;refine⟨z.kept (fun b hb=>hx.below.block b (z.lt b hb) (fun h=>h)),fun b hb=>⟨?_,(J b hb).2⟩⟩;by_cases h:b=g
 · simp [h]
 simp only[h,if_false];rw[hx.old b (z.lt b hb)];simp only[Mem.set,h,if_false];exact(J b hb).1
theorem WR.callLend {f:FuncId}{ar:List Operand}{vs:List Value}{tys:Array TypeId}{Pre:Mem->Prop}{R:Value->Mem->Prop}(H:StX C w0 M0 M L w)(hm:RowI t enc u l∈L)(hs:Ct P f vs Pre R)(hR :∀v M1 M2,R v M1->R v M2)(ha:evs e ar=some vs)(hp :∀M1,M.le M1->Sl M1 enc u l->Pre M1)
 (hw:Wn ops n D e ⟨some d, .call ⟨.value (.func f),ar.toArray,tys⟩,ty,pos,af,g⟩) (hn:Nat.blt d n=true)
 (k :∀v M' w',StX C w0 M0 M' L w'->M.le M'->R v M'->WR r P ops Q n D rest ((d,v)::e) w') :
 WR r P ops Q n D (⟨some d, .call ⟨.value (.func f),ar.toArray,tys⟩,ty,pos,af,g⟩::rest) e w:=by
 intro a hsat;unfold wpListIn;rw[if_pos (hw a hsat)];refine⟨fun _ _=>trivial,?_⟩;rw[Oper.semAt_eq _ _ _ (fun c h=>by cases h)];have hv:ar.map a.eval=vs:=hsat.fits.evs ha;have hf:a.eval (.func f) = .func (.func f) #[] #[]:=rfl;have hrun:(execOp a.eval ⟨some d, .call ⟨.value (.func f),ar.toArray,tys⟩,ty,pos,af,g⟩).run P w = .ok (.enter f vs.toArray) w:=by
  simp only[execOp,resolve,hf,Deferred.ofValue,Sem.run_bind,Sem.run_pure,Result.andThen_ok,invoke,l0l,hv,Array.append_empty,Array.empty_append,hs.enters]
 rw[hrun,Oper.uponIn_enter];obtain⟨M1,z,E,J,K⟩:=H.lend hm;refine⟨fun h=>(by cases h),callsIn_Wd.2 ((hs.calls w M1 E (hp M1 z J)).mono ?_)⟩;rintro en w' ⟨rv,M',rfl,hx,hres⟩;obtain⟨M2,N,U,O⟩:=K hx;exact k rv M2 w' O N (hR _ _ _ hres) _ (hsat.put (l08 hn) rv)
instance {F : Fence} {m:Nat} {fn:Func} {R:Ending->World->Prop}:RTo (bodyPostDIn F m P fn R) (bodyPostDIn F m P fn R):=⟨id⟩
end
end Go.Ph
end
section
namespace Go.Ph
open Go Go.RowKit Pl
theorem CtX.ofD {P:Program}{f:FuncId}{fn:Func}{c:Code}{args:List Value}{A:List Item}{Pre:Mem->Prop}{R:Value->Mem->List Item->Prop}{n:Nat}
 (hf:P.funcs[f]? = some fn) (hen :∀ar w,(callFunc f ar).run P w = .ok (.enter f ar) w) (hb:fn.body=some c) (hnt:fn.ntmps=n) (hn:Nat.ble args.length n=true)
 (h :∀w M,StX (feet A) w M M A w->Pre M->WC none P (bodyPostDIn (Wd none) 0 P fn (RetX A w M R)) n [] c (envOf 0 args) w):CtX P f args A Pre R :=
 ⟨hen,fun w M ha hp=>calls_of_WCD hf hb hnt hn (h w M ha hp)⟩
section
variable {P : Program} {n n' : Nat} {e : Env} {w : World} {fn fn' : Func} {f : FuncId} {cap : List Value} {K : Ending → World → Prop} {c : Code}
theorem WQ.dretX (hf:P.funcs[f]? = some fn')(hen :∀ar w,(callFunc f ar).run P w = .ok (.enter f ar) w)(hb:fn'.body=some c)(hnt:fn'.ntmps=n')(hn:Nat.ble cap.length n'=true)
 (k :∀a,Sat n [dfrOf f cap] e a->WC none P (postD P fn' fun w' =>∃v,(results fn a.tmps).run P w' = .ok v w'/\K (.returned v) w') n' [] c (envOf 0 cap) w) :
 WQ (bodyPostDIn (Wd none) 0 P fn K) .ret n [dfrOf f cap] e w:=fun a ha=>by
 show LeavesIn _ _ _ _ _ _ _ _ _
 rw[ha.defers];have hsat:Sat n' [] (envOf 0 cap) {tmps:=cap.toArray++Array.replicate (fn'.ntmps-cap.toArray.size) undef,defers:=[]}:=by
  subst hnt;exact Sat.init (l08 hn)
 refine leaves_one hen Sm ((callsDIn_of_wp (R:=fun en w'=>(∃v,en = .returned v)/\∃v,(results fn a.tmps).run P w' = .ok v w'/\K (.returned v) w') hf hb trivial (wpIn_mono (k a ha _ hsat) ?_)).mono ?_)
 · intro x b w' hq;cases x with
   | normal=>obtain⟨u,v',z,E⟩:=hq;exact ⟨u,v',z,⟨_,rfl⟩,E⟩
   | ret=>obtain⟨u,v',z,E⟩:=hq;exact ⟨u,v',z,⟨_,rfl⟩,E⟩
   | exit id=>exact hq.elim
   | goto l=>exact hq.elim
   | panic ch=>exact hq.elim
   | outgrown=>exact hq.elim
 rintro en u' w' ⟨rfl,u,z⟩;exact⟨u,G,z⟩
abbrev _root_.q1r := @WQ.dretX
variable {a : Act} {D : List Deferred} {e' : Env} {w0 : World} {M0 M : Mem} {L A its : List Item} {R : Value → Mem → List Item → Prop} {v1 v2 : Value} {x1 x2 : ResultVar}
theorem WQ.postX1 (hr':fn'.results = #[])(hr:fn.results = #[x1])(ha:Sat n D e a)(u:resv P w e x1 v1)(H:StX (feet A) w0 M0 M L w)(hp:Pick L its)(hR:R v1 M its):
 WQ (postD P fn' fun w' =>∃v,(results fn a.tmps).run P w' = .ok v w'/\RetX A w0 M0 R (.returned v) w') .normal n' [] e' w :=
 WQ.postD0 hr' ⟨v1,by rw[results_eq,hr];exact run_res1 _ (resv_run ha u),_,M,its,rfl,H.pick hp,hR⟩
abbrev _root_.q1p := @WQ.postX1
end
end Go.Ph
end
section
namespace Go.Ph.Pl
def andU (a b:Int):Int:=IntKind.u64.wrap ((BitVec.ofInt 64 a &&& BitVec.ofInt 64 b).toNat:Nat)
def xorU (a b:Int):Int:=IntKind.u64.wrap ((BitVec.ofInt 64 a ^^^ BitVec.ofInt 64 b).toNat:Nat)
def shrU (a b:Int):Option Int:=if 0<=b then some (a.fdiv (2 ^ min b.toNat 64)) else none
end Go.Ph.Pl
namespace Go.Ph
open Go Go.RowKit Go.Ph.Pl
section
variable {P : Program} {e : Env} {w : World} {x y : Operand} {dst : Option Nat} {ty t t' : TypeId} {pos : String} {af : Array Edge} {g : Option (Nat × Bool)} {a b z : Int}
theorem Ex.andU (f:ev e x=some (.int .u64 a))(u:ev e y=some (.int .u64 b)):Ex P ⟨dst, .binOp .and t x y t',ty,pos,af,g⟩ e w (.int .u64 (Pl.andU a b)) w:=Ex.bits f u (fun w=>rfl) (.inl rfl)
theorem Ex.xorU (f:ev e x=some (.int .u64 a))(u:ev e y=some (.int .u64 b)):Ex P ⟨dst, .binOp .xor t x y t',ty,pos,af,g⟩ e w (.int .u64 (Pl.xorU a b)) w:=Ex.bits f u (fun w=>rfl) (.inr (.inr (.inl rfl)))
theorem Ex.shrU {k':IntKind}(f:ev e x=some (.int .u64 a))(u:ev e y=some (.int k' b))(hz:Pl.shrU a b=some z):Ex P ⟨dst, .binOp .shr t x y t',ty,pos,af,g⟩ e w (.int .u64 z) w:=by
 unfold Pl.shrU at hz;split at hz
 · rename_i h;cases hz;exact Ex.shr f u h
 cases hz
end
end Go.Ph
namespace Go.Ph
open Go Go.RowKit Go.Ph.Pl
section
variable {C : Nat → Prop} {r : Option Nat} {P : Program} {ops : Array Oper} {Q : Exit → Act → World → Prop} {n : Nat} {D : List Deferred} {rest : List Oper} {e : Env} {w0 w : World} {M0 M : Mem} {L L' : List Item} {x y : Operand} {ty t t' : TypeId} {pos : String} {af : Array Edge} {g : Option (Nat × Bool)} {v : Value}
theorem WR.storeP {b o s:Nat}{f us:List Value}(cs:List Value)(H:StX C w0 M0 M L w)(hx:ev e x=some (ptr b o))(hy:ev e y=some v)(hc:v.cells=us.toArray)(hu:Upd L (.blk b (.cells f.toArray t')) (.blk b (.cells cs.toArray t')) L')
 (hs :∀w,(sizeOf t).run P w = .ok s w) (hvs:us.length=s) (hfit:Nat.ble (o+s) f.length=true) (E:us.all (·.oneCell')=true) (he:f.take o++us++f.drop (o+s)=cs)
 (hw:Wn ops n D e ⟨none, .store t x y,ty,pos,af,g⟩) (k :∀w',StX C w0 M0 M L' w'->WR r P ops Q n D rest e w'):WR r P ops Q n D (⟨none, .store t x y,ty,pos,af,g⟩::rest) e w :=
 WR.storeK H hx hy hu hs (by rw[hc];simpa using hvs) (by simpa using l08 hfit) (fun u hu=>by rw[hc] at hu;exact List.all_eq_true.1 E u (by simpa using hu)) (by
  rw[hc,←he]) hw k
theorem Ex.loadAggP {dst:Option Tmp}{b o s:Nat}{cs us:List Value}(H:StX C w0 M0 M L w)(hx:ev e x=some (ptr b o))(hm:Item.blk b (.cells cs.toArray t')∈L)(ha :∀w,(isAgg t).run P w = .ok true w)(hs :∀w,(sizeOf t).run P w = .ok s w)(hu:(cs.drop o).take s=us)(hl:us.length=s):
 Ex P ⟨dst, .load t x,ty,pos,af,g⟩ e w (.agg us.toArray) w:=by
 refine Ex.loadK hx ?_;have hb:=H.blk hm;subst hl;have hl:(loadCells ⟨b,o,none⟩ us.length).run P w = .ok us.toArray w :=
  run_loadCells_list (P:=P) w ⟨b,o,none⟩ us (fun j v hv=>by
   rw[Addr.add_lit,cell_of_row w b _ _ t' _ hb];have f:=(List.getElem?_eq_some_iff.1 hv).1;rw[←hu,List.getElem?_take_of_lt f,List.getElem?_drop] at hv;simpa using hv)
 simp only[loadVar,Sem.run_bind,ha,Result.andThen_ok,if_true,hs,hl,Sem.run_pure]
abbrev _root_.q1n := @Ex.loadAggP
theorem WR.makeMap {d:Tmp}(H:StX C w0 M0 M L w)(hw:Wn ops n D e ⟨some d, .makeMap t none,ty,pos,af,g⟩)(hn:Nat.blt d n=true)
 (k :∀b w',StX C w0 M0 M L w'->WR r P ops Q n D rest ((d, .map (some b))::e) w'):WR r P ops Q n D (⟨some d, .makeMap t none,ty,pos,af,g⟩::rest) e w:=by
 refine q0D (v := .map (some w.heap.size)) (w':=w.alloc (.map #[] 0)) ⟨nofun,fun ρ hf=>?_⟩ hw G hn (k _ _ ((H.new (it := .blk w.heap.size (.map #[] 0)) (grownBy_alloc' _ _) (World.alloc_heap_new w _) (fun b hb=>by cases hb;exact l07 _)).drop (l0K _ _)));simp only[execOp,l0Z];rfl
def subV (v:Value)(i j:Nat):Value:=match v with
 | .slice A _ c => .slice (if c=i then A else A.map (·.add i)) (j-i) (c-i)
 | v=>v
variable {α : Type} {enc : α → Value} {l l2 : List α} {dst : Option Tmp} {o1 o2 : Operand} {i j : Int}
theorem Sl.subV (h:Sl M enc v l)(hc:cut l i j=some l2):Sl M enc (subV v i.toNat j.toNat) l2:=by
 obtain⟨⟨f,u,E⟩,rfl⟩:=cut_some hc;obtain⟨A,nn,c,rfl,rfl,hnc,hs⟩:=h.part (i:=i.toNat) (j:=j.toNat) Om Om;exact hs
theorem Ex.sliceV {a b:Nat}{lo hi:Option Operand}(ht:P.underlying t=some (.slice t'))(hz :∀w,(sizeOf t').run P w = .ok 1 w)(h:Sl M enc v l)(hx:ev e x=some v)
 (hlo:(∃o,lo=some o/\ev e o=some (I a))∨(lo=none/\a=0)) (hhi:(∃o,hi=some o/\ev e o=some (I b))∨(hi=none/\b=l.length)) (hij:a<=b) (hj:b<=l.length):Ex P ⟨dst, .slice t x lo hi none,ty,pos,af,g⟩ e w (Ph.subV v a b) w:=by
 obtain⟨A,nn,c,rfl,rfl,hnc,hs⟩:=h.part hij hj;refine⟨nofun,fun ρ hfi=>?_⟩;have hr:=run_slice_part (P:=P) (w:=w) (lo:=lo.map ρ) (hi:=hi.map ρ) ht hz A l.length c hnc hij hj
  (by rcases hlo with ⟨o,rfl,ho⟩|⟨rfl,h⟩
      · exact .inl (by simp [hfi _ _ ho])
      exact .inr ⟨G,h⟩)
  (by rcases hhi with ⟨o,rfl,ho⟩|⟨rfl,h⟩
      · exact .inl (by simp [hfi _ _ ho])
      exact .inr ⟨G,h⟩)
 simp only[execOp,hfi _ _ hx,l0Z,Sem.run_bind,hr,Result.andThen_ok,Sem.run_pure];rfl
theorem Ex.sliceVL (ht:P.underlying t=some (.slice t'))(hz :∀w,(sizeOf t').run P w = .ok 1 w)(h:Sl M enc v l)(hx:ev e x=some v)(f:ev e o1=some (I i))(hc:cut l i (l.length:Int)=some l2):Ex P ⟨dst, .slice t x (some o1) none none,ty,pos,af,g⟩ e w (Ph.subV v i.toNat (l.length:Int).toNat) w:=by
 obtain⟨⟨u,E,J⟩,rfl⟩:=cut_some hc;exact Ex.sliceV ht hz h hx (.inl ⟨_,G,by rw[f,l0i u]⟩) (.inr ⟨G,by simp⟩) Om Om
theorem Ex.sliceVH (ht:P.underlying t=some (.slice t'))(hz :∀w,(sizeOf t').run P w = .ok 1 w)(h:Sl M enc v l)(hx:ev e x=some v)(f:ev e o2=some (I j))(hc:cut l 0 j=some l2):Ex P ⟨dst, .slice t x none (some o2) none,ty,pos,af,g⟩ e w (Ph.subV v (0:Int).toNat j.toNat) w:=by
 obtain⟨⟨u,E,J⟩,rfl⟩:=cut_some hc;exact Ex.sliceV ht hz h hx (.inr ⟨G,G⟩) (.inl ⟨_,G,by rw[f,l0i Om]⟩) Om Om
theorem WQ.end0 {fn:Func}{R:Value->Mem->Prop}(hr:fn.results = #[])(H:Ext w0 M0 w M)(hR:R (.tuple #[]) M):WQ (bodyPost P fn (Ret w0 M0 R)) .normal n [] e w :=
 fun a ha=>⟨ha.defers, .tuple #[],by simp [results,hr],_,M,rfl,H,hR⟩
end
end Go.Ph
end
section
namespace Go.Ph
open Go Go.RowKit Pl
structure ItR {α:Type}(P:Program)(f:FuncId)(cap:List Value)(A:List Item)(Pre:Mem->Prop)(Rx:Value->Mem->α->Prop)(run:(σ:Type)->(σ->α->Option (σ × Bool))->σ->Option σ):Prop where
 enters :∀ar w,(callFunc f ar).run P w = .ok (.enter f ar) w
 calls :∀(l:Nat) (σ:Type) (Y:σ->α->Option (σ × Bool)) (Z:σ->List Item->Mem->Prop),(∀s L M M',Z s L M->M.le M'->Z s L M')->
  (∀s x s' b v L w M,Y s x=some (s',b)->Z s L M->Rx v M x->StX (feet L) w M M L w->YieldAt (Wd none) 0 P l #[v] w fun e w' =>∃M' L',StX (feet L) w M M' L' w'/\e = .returned (.bool b)/\Z s' L' M')->
  ∀s s' L w M,run σ Y s=some s'->Z s L M->StX (feet (A++L)) w M M (A++L) w->Pre M->
  Calls P f (yv l::cap).toArray w fun e w' =>∃r M' L',e = .returned r/\StX (feet (A++L)) w M M' L' w'/\Z s' L' M'
section
variable {C : Nat → Prop} {r : Option Nat} {P : Program} {ops : Array Oper} {Q : Exit → Act → World → Prop} {n : Nat} {D : List Deferred} {rest : List Oper} {e : Env} {w0 w : World} {M0 M : Mem} {L B : List Item} {d : Nat}
  {x y : Operand} {ty t ts t' : TypeId} {pos : String} {af : Array Edge} {g : Option (Nat × Bool)} {α σ : Type} {Rx : Value → Mem → α → Prop}
variable {lid : Nat} {rc : LoopState → Option Code → Loop} {Z : σ → List Item → Mem → Prop} {E : σ → Option Code} {s : σ} {w1 : World} {M1 : Mem} {Lh L0 : List Item}
theorem WC.rangeR {Lall A:List Item}{f:FuncId}{cap:List Value}{Pre:Mem->Prop}{run:(σ:Type)->(σ->α->Option (σ × Bool))->σ->Option σ}{gv:Operand}{p:Tmp}{assign body:Code}
 (H:StX C w0 M0 M Lall w) (hg:ev e gv=some (.func (.func f) #[] cap.toArray)) (hit:ItR P f cap A Pre Rx run) (hs:Spl Lall (A++L) B) (hp:Pre M) (hpn:Nat.blt p n=true)
 (Z:σ->List Item->Mem->Prop) (E:σ->Option Code) (stop:σ->Bool) (hE :∀s,stop s=(E s).isSome) (Bd:σ->α->Option σ) (O J:σ) (hrun:run σ (stepY stop Bd) O=some J)
 (hZ :∀s L M M',Z s L M->M.le M'->Z s L M') (hE0:E O=none) (hz:Z O L M)
 (hbody :∀(lid:Nat) (rc:LoopState->Option Code->Loop),LoopRec rc->∀s x s' xv L w M,E s=none->Bd s x=some s'->Z s L M->Rx xv M x->
  StX (feet (.blk lid (.loop (rc .ready none))::L)) w M M (.blk lid (.loop (rc .ready none))::L) w->
  WC (some lid) P (asgPost P lid body (RS Z E lid rc (.blk lid (.loop (rc .ready none))::L) w M s')) n [] assign ((p,xv)::e) w)
 (hdone :∀Dm w M' L',StX C w0 M0 M' (L'++(.blk Dm (.deferred (some []))::B)) w->M.le M'->E J=none->Z J L' M'->WQ Q .normal n (mark Dm::D) e w)
 (hstop :∀Dm w M' L' c,StX C w0 M0 M' (L'++(.blk Dm (.deferred (some []))::B)) w->M.le M'->E J=some c->Z J L' M'->WC none P Q n (mark Dm::D) c e w) :
 WC none P Q n D (.rangeFunc gv #[p] assign body) e w:=by
 intro a ha;refine wpIn_rangeFunc (F:=Wd none) (n:=0) ?_;intro fn _;obtain⟨rc,hrcd⟩ :∃rc:LoopState->Option Code->Loop,rc=fun st pe=>{state:=st,pending:=pe,fn,tmps:=a.tmps,params := #[p],assign,body,defers:=w.heap.size}:=⟨_,rfl⟩
 have hrc:LoopRec rc:=by subst hrcd;exact ⟨fun _ _=>rfl,fun _ _=>rfl,fun _ _ _=>rfl,fun _ _ _ _=>rfl⟩
 have H1:StX C w0 M0 M (.blk w.heap.size (.deferred (some []))::Lall) (w.alloc (.deferred (some []))) :=
  H.new (grownBy_alloc' _ _) (World.alloc_heap_new w _) (fun b hb=>by cases hb;exact l07 _)
 have H2:StX C w0 M0 M (.blk (w.heap.size+1) (.loop (rc .ready none)) :: .blk w.heap.size (.deferred (some []))::Lall) ((w.alloc (.deferred (some []))).alloc (.loop (rc .ready none))) :=
  H1.new (grownBy_alloc' _ _) (by have:=World.alloc_heap_new (w.alloc (.deferred (some []))) (.loop (rc .ready none));rwa [World.size_alloc] at this) (fun b hb=>by cases hb;simp)
 obtain⟨W,hW⟩ :∃W,(w.alloc (.deferred (some []))).alloc (.loop (rc .ready none))=W:=⟨_,rfl⟩
 rw[hW] at H2;have hperm:(Item.blk (w.heap.size+1) (.loop (rc .ready none)) :: .blk w.heap.size (.deferred (some []))::Lall).Perm ((A++(.blk (w.heap.size+1) (.loop (rc .ready none))::L))++(.blk w.heap.size (.deferred (some []))::B)):=by
  have u:Lall.Perm (A++L++B):=hs.perm;have K:(A++(Item.blk (w.heap.size+1) (.loop (rc .ready none))::L)).Perm (.blk (w.heap.size+1) (.loop (rc .ready none))::(A++L)):=List.perm_middle;refine(((u.cons _).trans List.perm_middle.symm).cons _).trans ?_;exact(K.append_right _).symm
 have H3:=H2.perm hperm;refine⟨w.heap.size+1,[mark w.heap.size],W,{target := .fn (.func f) cap.toArray,args := #[yv (w.heap.size+1)]},W,f,(yv (w.heap.size+1)::cap).toArray,W,?_,?_,fun _ _=>trivial,?_,fun h=>(by cases h),?_⟩
 · rw[←hW,hrcd];exact run_enterLoop_outer _ _ _ _ _
 · have u:=ha.fits _ _ hg;simp only[resolve,u,Deferred.ofValue,Sem.run_pure,l0l,l0a,l0v,Array.empty_append];rfl
 · simp only[invoke,l1c,l01,l02,hit.enters]
 refine callsIn_Wd.2 ((hit.calls (w.heap.size+1) σ (stepY stop Bd) (fun s L M =>∃L0,L = .blk (w.heap.size+1) (.loop (lpS rc (E s)))::L0/\Z s L0 M) (fun s L M M' ⟨L0,u,K⟩ N=>⟨L0,u,hZ _ _ _ _ K N⟩) ?_ O J _ W M hrun ⟨L,by rw[hE0];rfl,hz⟩ (H3.hand (q1s _ _)) hp).mono ?_)
 · rintro s x s' b xv L1 w1 M1 hy ⟨L0,rfl,V⟩ hrx Hs;unfold stepY at hy;split at hy
   case isTrue=>cases hy
   rename_i hst;have hEs:E s=none:=by
    cases hc:E s with
    | none=>rfl
    | some c=>rw[hE,hc] at hst;exact absurd rfl hst
   obtain⟨z,hB,heq⟩:=Option.map_eq_some_iff.1 hy;obtain⟨rfl,rfl⟩:=Prod.mk.inj heq;rw[hEs] at Hs;have hl:=Hs.blk (List.Mem.head _);have hy:=run_yield (P:=P) (args := #[xv]) hl (by rw[lpS,hrcd];rfl);refine⟨_,_,_,_,hy,roundIn_of_wpIn trivial ?_⟩;have hb:=hbody (w.heap.size+1) rc hrc s x z xv L0 w1 M1 hEs hB V hrx Hs;have hsat:Sat n [] ((p,xv)::e) {tmps:=(((rc .ready none).params.zip #[xv]).foldl (fun tmps (t,a)=>tmps.setIfInBounds t a) (rc .ready none).tmps),defers:=[]}:=by
    have u:=Sat.put (D:=[]) (a:={tmps:=a.tmps,defers:=[]}) (e:=e) (n:=n) ⟨ha.size,rfl,ha.val⟩ (l08 hpn) xv;rw[hrcd];simpa [Act.put] using u
   have hfin:=hb _ hsat;have hpost :∀en w',RS Z E (w.heap.size+1) rc (.blk (w.heap.size+1) (.loop (rc .ready none))::L0) w1 M1 z en w'->
    ∃M' L',StX (feet (.blk (w.heap.size+1) (.loop (lpS rc (E s)))::L0)) w1 M1 M' L' w'/\en = .returned (.bool (!stop z))/\∃L0,L' = .blk (w.heap.size+1) (.loop (lpS rc (E z)))::L0/\Z z L0 M':=by
    rintro en w' ⟨M',L2,u,K,U⟩;refine⟨M',_,by rw[hEs];exact u,?_,L2,G,U⟩;rw[K,hE];cases E z <;> rfl
   have hpe:RS Z E (w.heap.size+1) rc (.blk (w.heap.size+1) (.loop (rc .ready none))::L0) w1 M1 z=fun en w' =>∃M' L',StX (feet (.blk (w.heap.size+1) (.loop (lpS rc (E s)))::L0)) w1 M1 M' L' w'/\en = .returned (.bool (!stop z))/\∃L0,L' = .blk (w.heap.size+1) (.loop (lpS rc (E z)))::L0/\Z z L0 M':=by
    funext en w'
    refine propext ⟨hpost en w',?_⟩;rintro⟨M',L',u,K,L2,rfl,U⟩;refine⟨M',L2,by rw[hEs] at u;exact u,?_,U⟩;rw[K,hE];cases E z <;> rfl
   rw[hpe] at hfin;rw[lpS];rw[hrcd] at hfin ⊢;exact hfin
 rintro en Y ⟨rv,M',L',rfl,Hs,L0,rfl,hz'⟩;have Hb:=H3.back (q1s _ _) Hs;have N:M.le M':=Hs.ext.le;have hd:Sat n (mark w.heap.size::D) e {a with defers:=[mark w.heap.size]++a.defers}:=⟨ha.size,by simp [ha.defers],ha.val⟩
 have hl:=Hb.blk (List.Mem.head _);cases hEs:E J with
 | none =>
   rw[hEs] at hl Hb;have hr:=run_endLoop (P:=P) hl (by rw[lpS,hrc.state];intro h;cases h);rw[lpS,hrc.setS,hrc.pending] at hr;have Hc:=(Hb.put (o' := .loop (rc .exhausted none)) .head).drop (l0K _ _);exact⟨none,_,hr,hdone _ _ M' L0 Hc N hEs hz' _ hd⟩
 | some c =>
   rw[hEs] at hl Hb;have hr:=run_endLoop (P:=P) hl (by rw[lpS,hrc.state];intro h;cases h);rw[lpS,hrc.setS,hrc.pending] at hr;have Hc:=(Hb.put (o' := .loop (rc .exhausted (some c))) .head).drop (l0K _ _);exact⟨some c,_,hr,hstop _ _ M' L0 c Hc N hEs hz' _ hd⟩
variable {Lc A : List Item} {v : Value}
theorem WR.yieldR {l:Nat}{Y:σ->α->Option (σ × Bool)}{Z:σ->List Item->Mem->Prop}{s s':σ}{b:Bool}{xv:α}{tys:Array TypeId}(H:StX C w0 M0 M L w)(hspl:Spl L Lc B)
 (hY :∀s x s' b v L w M,Y s x=some (s',b)->Z s L M->Rx v M x->StX (feet L) w M M L w->YieldAt (Wd none) 0 P l #[v] w fun e w' =>∃M' L',StX (feet L) w M M' L' w'/\e = .returned (.bool b)/\Z s' L' M')
 (hz:ZH Z s Lc M) (hy:Y s xv=some (s',b)) (hx:ev e x=some (yv l)) (hv:ev e y=some v) (hr:Rx v M xv)
 (hw:Wn ops n D e ⟨some d, .call ⟨.value x,#[y],tys⟩,ty,pos,af,g⟩) (hn:Nat.blt d n=true)
 (k :∀w M' Lc',StX C w0 M0 M' (B++Lc') w->M.le M'->ZH Z s' Lc' M'->WR none P ops Q n D rest ((d, .bool b)::e) w) :
 WR none P ops Q n D (⟨some d, .call ⟨.value x,#[y],tys⟩,ty,pos,af,g⟩::rest) e w :=
 WR.yield (hY _ _ _ _ _ _ _ _ hy hz.z hr (H.hand hspl)) hx hv hw hn (fun en w' ⟨M',L',f,he,hz'⟩=>⟨b,he,k _ _ _ ((H.back hspl f).perm List.perm_append_comm) f.ext.le ⟨hz',hz.m⟩⟩)
theorem ItR.of {f:FuncId}{fn:Func}{c:Code}{cap:List Value}{Pre:Mem->Prop}{run:(σ:Type)->(σ->α->Option (σ × Bool))->σ->Option σ}
 (hf:P.funcs[f]? = some fn) (hen :∀ar w,(callFunc f ar).run P w = .ok (.enter f ar) w) (hb:fn.body=some c) (hnt:fn.ntmps=n) (hn:Nat.ble (cap.length+1) n=true)
 (h :∀(l:Nat) (σ:Type) (Y:σ->α->Option (σ × Bool)) (Z:σ->List Item->Mem->Prop) (C:Nat->Prop),
  (∀s x s' b v L w M,Y s x=some (s',b)->Z s L M->Rx v M x->StX (feet L) w M M L w->YieldAt (Wd none) 0 P l #[v] w fun e w' =>∃M' L',StX (feet L) w M M' L' w'/\e = .returned (.bool b)/\Z s' L' M')->
  ∀s s' L w M,run σ Y s=some s'->ZH Z s L M->StX C w M M (A++L) w->Pre M->WC none P (bodyPost P fn (RetZ C Z s' w M)) n [] c (envOf 0 (yv l::cap)) w):ItR P f cap A Pre Rx run :=
 ⟨hen,fun l σ Y Z hZ hY s s' L w M hrun hz H hp=>calls_of_WC (args:=yv l::cap) hf hb hnt hn (h l σ Y Z _ hY s s' L w M hrun ⟨hz,hZ⟩ H hp)⟩
theorem map_add0 (A:Option Addr):A.map (·.add 0)=A:=by cases A <;> simp [Addr.add]
theorem Sl.tight {enc:α->Value}{A:Option Addr}{nn c:Nat}{l:List α}(h:Sl M enc (.slice A nn c) l):Sl M enc (.slice A nn nn) l:=by
 obtain⟨A',c',he,z,f,u⟩:=h;cases he;exact⟨A,_,G,l07 _,⟨by omega,fun hA=>by have:=f.2 hA;omega⟩,u⟩
theorem WR.slice3C {enc:α->Value}{l l2:List α}{u z:Operand}{j:Int}(ht:P.underlying t=some (.slice t'))(hz :∀w,(sizeOf t').run P w = .ok 1 w)(h:Sl M enc v l)(hx:ev e x=some v)(J:ev e u=some (I j))(K:ev e z=some (I j))(hc:cut l 0 j=some l2)
 (hw:Wn ops n D e ⟨some d, .slice t x none (some u) (some z),ty,pos,af,g⟩) (hn:Nat.blt d n=true) (k :∀v',Sl M enc v' l2->WR r P ops Q n D rest ((d,v')::e) w) :
 WR r P ops Q n D (⟨some d, .slice t x none (some u) (some z),ty,pos,af,g⟩::rest) e w:=by
 obtain⟨⟨U,V,Y⟩,rfl⟩:=cut_some hc;obtain⟨A,nn,c,rfl,rfl,hnc,hs⟩:=h.part (i:=(0:Int).toNat) (j:=j.toNat) Om Om;have f:=hs.tight;simp only[Int.toNat_zero,map_add0,ite_self,Nat.sub_zero] at f;refine q0D (v := .slice A j.toNat j.toNat) (w':=w) ⟨nofun,fun ρ hfi=>?_⟩ hw G hn (k _ f);have N:(0:Int)<=j/\j<=(c:Int):=by omega
 have O:(0:Int)<=j/\j<=(j.toNat:Int):=by omega
 simp only[execOp,hfi _ _ hx,l0Z,l1p,hfi _ _ J,hfi _ _ K,Instr.sliceAt,Instr.slice,Instr.sliceBounds,Instr.sliceBound,asIntOf,Sem.run_bind,run_underlying ht,Result.andThen_ok,Sem.run_pure,N,O,and_self,if_true,hz,Nat.zero_mul,map_add0,ite_self,Nat.sub_zero]
end
end Go.Ph
end
section
namespace Go.Ph
open Go Go.RowKit Pl
section
variable {C : Nat → Prop} {r : Option Nat} {P : Program} {ops : Array Oper} {Q : Exit → Act → World → Prop} {n : Nat} {D : List Deferred} {rest : List Oper} {e : Env} {w0 w : World} {M0 M : Mem} {L L' : List Item} {d : Nat} {v z : Value}
  {x y : Operand} {ty t ts tt tn : TypeId} {pos : String} {af : Array Edge} {g : Option (Nat × Bool)} {α : Type} {enc : α → List Value} {kk bytes : Nat}
section
variable {A B : List Item} {u : Value} {g : Option (Nat × Bool)} {l : List α}
theorem StX.lendS (H:StX C w0 M0 M L w)(hm:RowS t kk enc u l∈L)(J :∀x,(enc x).length=kk):∃M1,M.le M1/\Ag M1 w/\SlS M1 kk enc u l/\∀{w':World} {M':Mem},Ext w M1 w' M'->∃M2,M.le M2/\M2.le M'/\StX C w0 M0 M2 L w':=by
 have hown:=H.rowOf hm;rcases hown.2 with ⟨hv,hn⟩|⟨g,cap,cur,hv,hgb,hg,hnc,hcm,hcs,htake⟩
 · have:l=[]:=l05 hn;subst this;subst hv;exact⟨M,Mem.le.refl M,H.ag,SlS.nil M enc J,fun {w' M'} hx=>⟨M',hx.le,Mem.le.refl _,H.call hx⟩⟩
 have hf:(RowS t kk enc u l).foot=some g:=by rw[hv];rfl
 have hMg:=((H.own _ hm).2 g hf).1;have hCg:=((H.own _ hm).2 g hf).2;have f:M.le (M.set g (.cells cur t)):=fun b o hb=>by
  by_cases h:b=g
  · subst h;rw [hMg] at hb;cases hb
  simp [Mem.set,h,hb]
 have hag:Ag (M.set g (.cells cur t)) w:=fun b o hb=>by
  by_cases h:b=g
  · subst h;simp only[Mem.set,if_true] at hb;rw [←hb];exact hg
  simp only[Mem.set,h,if_false] at hb;exact H.ag b o hb
 refine⟨_,f,hag,⟨J,some ⟨g,0,none⟩,cap,hv,hnc,⟨hcm,fun h=>by cases h⟩,fun _=>⟨g,0,cur,t,(0,0),G,by simp [Mem.set],fun i x hx j u hj=>?_⟩⟩,fun {w' M'} hx=>?_⟩
 · have E:=flat_at J l i j x u hx hj;rw[←htake,List.getElem?_take] at E;split at E
   · rw[l0o];simpa using E
   cases E
 have hgw:g<w.heap.size:=(Array.getElem?_eq_some_iff.1 hg).1;refine⟨fun b=>if b=g then none else M' b,fun b o hb=>?_,fun b o hb=>?_,⟨⟨hx.below.os.trans H.ext.below.os,hx.below.tape.trans H.ext.below.tape,hx.below.output.trans H.ext.below.output,l0A H.ext.below.size hx.below.size,fun k hk hn=>?_⟩,fun b o hb=>?_,fun b o hb=>?_,fun b hb=>?_⟩,fun it hit=>?_,H.sep⟩
 · have hne:b≠g:=fun h=>by rw[h,hMg] at hb;cases hb
   simp only[hne,if_false];exact hx.le b o (f b o hb)
 · by_cases h:b=g
   · simp [h] at hb
   simpa [h] using hb
 · exact(hx.below.block k (l0G hk H.base) (fun h=>h)).trans (H.ext.below.block k hk hn)
 · have hb':=H.ext.le b o hb;have hne:b≠g:=fun h=>by rw[h,hMg] at hb';cases hb'
   simp only[hne,if_false];exact hx.le b o (f b o hb')
 · by_cases h:b=g
   · simp [h] at hb
   simp only[h,if_false] at hb;exact hx.ag b o hb
 · by_cases h:b=g
   · subst h;simp only[if_true];rw[←H.ext.old b hb,hMg]
   simp only[h,if_false];rw[hx.old b (l0G hb H.base)];simp only[Mem.set,h,if_false];exact H.ext.old b hb
 obtain⟨K,N⟩:=H.own it hit;refine⟨K.kept (fun b hb=>hx.below.block b (K.lt b hb) (fun h=>h)),fun b hb=>⟨?_,(N b hb).2⟩⟩;by_cases h:b=g
 · simp [h]
 simp only[h,if_false];rw[hx.old b (K.lt b hb)];simp only[Mem.set,h,if_false];exact(N b hb).1
theorem WR.callLendS {f:FuncId}{ar:List Operand}{vs:List Value}{tys:Array TypeId}{Pre:Mem->Prop}{R:Value->Mem->Prop}(H:StX C w0 M0 M L w)(hm:RowS t kk enc u l∈L)(E :∀x,(enc x).length=kk)(hs:Ct P f vs Pre R)(hR :∀v M1 M2,R v M1->R v M2)(ha:evs e ar=some vs)(hp :∀M1,M.le M1->SlS M1 kk enc u l->Pre M1)
 (hw:Wn ops n D e ⟨some d, .call ⟨.value (.func f),ar.toArray,tys⟩,ty,pos,af,g⟩) (hn:Nat.blt d n=true)
 (k :∀v M' w',StX C w0 M0 M' L w'->M.le M'->R v M'->WR r P ops Q n D rest ((d,v)::e) w') :
 WR r P ops Q n D (⟨some d, .call ⟨.value (.func f),ar.toArray,tys⟩,ty,pos,af,g⟩::rest) e w:=by
 intro a hsat;unfold wpListIn;rw[if_pos (hw a hsat)];refine⟨fun _ _=>trivial,?_⟩;rw[Oper.semAt_eq _ _ _ (fun c h=>by cases h)];have hv:ar.map a.eval=vs:=hsat.fits.evs ha;have hf:a.eval (.func f) = .func (.func f) #[] #[]:=rfl;have hrun:(execOp a.eval ⟨some d, .call ⟨.value (.func f),ar.toArray,tys⟩,ty,pos,af,g⟩).run P w = .ok (.enter f vs.toArray) w:=by
  simp only[execOp,resolve,hf,Deferred.ofValue,Sem.run_bind,Sem.run_pure,Result.andThen_ok,invoke,l0l,hv,Array.append_empty,Array.empty_append,hs.enters]
 rw[hrun,Oper.uponIn_enter];obtain⟨M1,J,K,N,O⟩:=H.lendS hm E;refine⟨fun h=>(by cases h),callsIn_Wd.2 ((hs.calls w M1 K (hp M1 J N)).mono ?_)⟩;rintro en w' ⟨rv,M',rfl,hx,hres⟩;obtain⟨M2,U,Y,V⟩:=O hx;exact k rv M2 w' V U (hR _ _ _ hres) _ (hsat.put (l08 hn) rv)
end
theorem Ex.capSlice {A:Option Addr}{nn cp:Nat}{f:TypeId}{dst:Option Tmp}(ht:P.underlying t=some (.slice f))(h:ev e x=some (.slice A nn cp)):Ex P ⟨dst, .call ⟨.builtin .cap,#[x],#[t]⟩,ty,pos,af,g⟩ e w (I cp) w :=
 ⟨nofun,fun ρ hf=>by simp [hf _ _ h,Builtin.cap_,underlying,ht,goInt,go_sem]⟩
theorem WR.appZeros {k:Int}(T:ElemTy P ts t z kk bytes)(hkk:Nat.blt 0 kk=true)(enc:α->List Value)(hb:Nat.ble bytes 1000=true)(htn:P.underlying tn=some (.int .i64))(hk:0<k/\k<=1000000)(H:StX C w0 M0 M L w)(hx:ev e x=some (.slice none 0 0))(hy:ev e y=some (I k))
 (hw:Wn ops n D e ⟨some d, .call ⟨.builtin .append,#[x,y],#[ts,tn]⟩,ty,pos,af,g⟩) (hn:Nat.blt d n=true)
 (K :∀b nn cp w',nn<=cp->StX C w0 M0 M (RowS t kk enc (.slice (some ⟨b,0,none⟩) 0 cp) ([]:List α)::L) w'->WR r P ops Q n D rest ((d, .slice (some ⟨b,0,none⟩) nn cp)::e) w') :
 WR r P ops Q n D (⟨some d, .call ⟨.builtin .append,#[x,y],#[ts,tn]⟩,ty,pos,af,g⟩::rest) e w:=by
 obtain⟨i,hi,hz,hsz,hby⟩:=T.info;obtain⟨m,rfl⟩:=l0m (Int.le_of_lt hk.1);have hkk':=T.pos;have hb':=l08 hb;have hm:m*i.bytes<=1000000*1000:=Nat.mul_le_mul Om Om;have hrun:=Lib.run_append_nil_zeros (P:=P) w ts tn ty t i z .i64 .i64 T.under htn hi hz m Om Om Om Om;have hge:=grownCap_ge w m 0 t;have f:=grownCap_le_maxLen w m 0 t (by unfold maxLen;omega);refine q0D (v := .slice (some ⟨w.heap.size,0,none⟩) m (grownCap w m 0 t)) (w':=w.drew.alloc (.cells (Builtin.zeroCells z.cells m++Builtin.zeroCells z.cells (grownCap w m 0 t-m)) t)) ⟨nofun,fun ρ hfi=>?_⟩ hw G hn (K _ _ _ _ hge (H.drew.new (it:=RowS t kk enc (.slice (some ⟨w.heap.size,0,none⟩) 0 (grownCap w m 0 t)) ([]:List α)) (grownBy_alloc' _ _) ?_ (fun b hb=>by cases hb;exact l07 _)))
 · simp only[execOp,resolve,invoke,builtin,Sem.run_bind,Sem.run_pure,Result.andThen_ok,l0l,l0a,l0v,hfi _ _ hx,hfi _ _ hy,hrun]
 refine⟨by simp, .inr ⟨w.heap.size,_,_,G,l0r _,World.alloc_heap_new w.drew _,l0r _,f,?_,by simp⟩⟩;rw[Array.size_append,size_zeroCells,size_zeroCells,T.zs,←l0X];congr 1;omega
theorem Ex.slice0 {b nn cp:Nat}{t':TypeId}{f:Operand}{dst:Option Tmp}(ht:P.underlying t=some (.slice t'))(hz :∀w,(sizeOf t').run P w = .ok kk w)(hx:ev e x=some (.slice (some ⟨b,0,none⟩) nn cp))(hy:ev e f=some (I 0))(hnc:nn<=cp):
 Ex P ⟨dst, .slice t x none (some f) none,ty,pos,af,g⟩ e w (.slice (some ⟨b,0,none⟩) 0 cp) w:=by
 have h:=Ex.sliceRow (P:=P) (w:=w) (ty:=ty) (pos:=pos) (af:=af) (g:=g) (dst:=dst) (kk:=kk) (i:=0) (j:=0) (lo:=none) (hi:=some f) ht hz hx hnc (l07 _) (l0r _) (.inr ⟨rfl,rfl⟩) (.inl ⟨_,rfl,hy⟩);have E:(Value.slice (if cp=0 then some ⟨b,0,none⟩ else(some (⟨b,0,none⟩:Addr)).map (fun a=>a.add (0*kk))) (0-0) (cp-0)) = .slice (some ⟨b,0,none⟩) 0 cp:=by
  split <;> simp [Addr.add]
 rw[E] at h;exact h
theorem Sl.nilOr {enc:α->Value}{l:List α}(h:Sl M enc v l):(v = .slice none 0 0/\l=[])∨∃a c,v = .slice (some a) l.length c:=by
 obtain⟨A,c,rfl,E,f,_⟩:=h;cases A with
 | none =>
   have hc:=f.2 rfl;have hl:l=[]:=l05 Om;subst hl;subst hc;exact .inl ⟨G,G⟩
 | some a=>exact .inr ⟨a,c,rfl⟩
theorem WR.litRS {enc:α->List Value}{ps:List (Nat × Operand)}{vs:List (Nat × Value)}{len:Nat}(T:ElemTy P ts t z kk bytes)(l:List α)(H:StX C w0 M0 M L w)(E :∀a,(enc a).length=kk)(hp:evq e ps=some vs)
 (hfl:Instr.fill (fun i=>some (i*kk,kk)) ((Array.range (len*kk)).map (z.cells[· % z.cells.size]!)) vs=some (l.flatMap enc).toArray) (hlen:l.length=len) (hbig:Nat.ble (len*kk) 16777216=true) (hnz:Nat.blt 0 (len*kk)=true)
 (hw:Wn ops n D e ⟨some d, .buildSlice ts len ps.toArray,ty,pos,af,g⟩) (hn:Nat.blt d n=true)
 (k :∀v w',StX C w0 M0 M (RowS t kk enc v l::L) w'->WR r P ops Q n D rest ((d,v)::e) w') :
 WR r P ops Q n D (⟨some d, .buildSlice ts len ps.toArray,ty,pos,af,g⟩::rest) e w:=by
 have hbig:=l08 hbig;have hnz:=l08 hnz;obtain⟨i,hi,hz,hsz,_⟩:=T.info;have hs:(sizeOf t).run P w = .ok kk w:=by simp [sizeOf,typeInfo,hi,hsz]
 have hzv:(zeroValue t).run P w = .ok z w:=by simp [zeroValue,typeInfo,hi,hz]
 have hll:l.length<=maxLen:=by
  have:len<=len*kk:=l1D _ T.pos;simp only[maxLen];omega
 have hsize:(l.flatMap enc).length=l.length*kk:=flat_len E l;refine q0D (w':=w.alloc (.cells (l.flatMap enc).toArray t)) (v := .slice (some ⟨w.heap.size,0,none⟩) len len) ⟨nofun,fun ρ hf=>?_⟩ hw G hn (k _ _ (H.new (it:=RowS t kk enc (.slice (some ⟨w.heap.size,0,none⟩) len len) l) (grownBy_alloc' w (.cells (l.flatMap enc).toArray t)) ?_ (fun b hb=>by cases hb;exact l07 _)))
 · have J:(ps.toArray.map fun x=>(x.1,ρ x.2)).toList=vs:=by simpa using hf.evq hp
   have hnb :¬(len*kk>2 ^ 24):=by omega
   have f :¬(len*kk=0):=by omega
   simp only[execOp,Instr.buildSlice,Sem.run_bind,run_underlying T.under,Result.andThen_ok,hs,hnb,if_false,f,hzv,Sem.run_pure,J,hfl];rfl
 subst hlen;exact⟨hsize, .inr ⟨w.heap.size,l.length,_,G,l0r _,heap_alloc_new w _,l07 _,hll,by rw[l0U];exact hsize,by rw[←hsize];exact l0z Sm⟩⟩
theorem Ext.ofDrawn {M:Mem}{w:World}(ha:Ag M w)(q:Nat):Ext w M (w.drewN q) M:=q1z ha (below_drewN (Below.refl _ w) q)
theorem Sl.cells1 {enc:α->Value}{l:List α}(h:Sl M enc v l):v.cells = #[v]:=by
 obtain⟨A,c,rfl,_⟩:=h;rfl
end
end Go.Ph
end
section
namespace Go.Ph
open Go Go.RowKit Pl
section
variable {F α : Type} {R R' : Rl F α} {M M' : Mem} {fl : List F} {l : List α} {v : Value} {f : F} {x : α}
theorem RelL.conv (h :∀f x,R.rel M f x->R'.rel M' f x):∀{fl:List F} {l:List α},RelL R M fl l->RelL R' M' fl l
 | [],[],_=>trivial
 | _::_,_::_,k=>⟨h _ _ k.1,RelL.conv h k.2⟩
 | [],_::_,k=>k.elim
 | _::_,[],k=>k.elim
theorem SlR.conv' (hk:R.k=R'.k)(he:R.enc=R'.enc)(h :∀f x,R.rel M f x->R'.rel M' f x)(hl:M.le M')(k:SlR R M v l):SlR R' M' v l:=by
 obtain⟨fl,z,E⟩:=k;exact⟨fl,by rw[←hk,←he];exact z.mono hl,E.conv h⟩
def Rl.fx (k:Nat)(enc:F->List Value)(len :∀f,(enc f).length=k)(one :∀f,∀u∈enc f,u.oneCell'=true)(S:F->α->Prop):Rl F α:=⟨k,enc,fun _=>S,len,one,fun _ _ _ h=>h⟩
variable {k : Nat} {enc : F → List Value} {len : ∀ f, (enc f).length = k} {one : ∀ f, ∀ u ∈ enc f, u.oneCell' = true} {S S' : F → α → Prop}
theorem SlR.sub (hs :∀f x,S f x->S' f x)(h:SlR (Rl.fx k enc len one S) M v l)(hl:M.le M'):SlR (Rl.fx k enc len one S') M' v l:=SlR.conv' (R:=Rl.fx k enc len one S) rfl rfl (fun f x h=>hs f x h) hl h
def gfp (body:(F->α->Prop)->Mem->F->α->Prop)(M:Mem)(f:F)(x:α):Prop :=∃S:F->α->Prop,(∀f x,S f x->body S M f x)/\S f x
structure Bdy (body:(F->α->Prop)->Mem->F->α->Prop):Prop where
 mono :∀{S S':F->α->Prop} {M M':Mem},(∀f x,S f x->S' f x)->M.le M'->∀f x,body S M f x->body S' M' f x
variable {body : (F → α → Prop) → Mem → F → α → Prop}
theorem gfp.un (hb:Bdy body)(h:gfp body M f x):body (gfp body M) M f x:=by
 obtain⟨S,z,E⟩:=h;exact hb.mono (fun f x h=>⟨S,z,h⟩) (Mem.le.refl _) _ _ (z _ _ E)
theorem gfp.mk (hb:Bdy body)(h:body (gfp body M) M f x):gfp body M f x:=⟨body (gfp body M) M,fun f x k=>hb.mono (fun _ _ h=>gfp.un hb h) (Mem.le.refl _) _ _ k,h⟩
theorem gfp.mono (hb:Bdy body)(h:gfp body M f x)(hl:M.le M'):gfp body M' f x:=⟨gfp body M,fun _ _ k=>hb.mono (fun _ _ h=>h) hl _ _ (gfp.un hb k),h⟩
theorem SlR.conv (k:SlR R M v l)(h :∀f x,R.rel M f x->R'.rel M f x)(hk:R.k=R'.k:=by rfl)(he:R.enc=R'.enc:=by rfl):SlR R' M v l:=SlR.conv' hk he h (Mem.le.refl _) k
end
end Go.Ph
end
section
namespace Go.Ph.Pl
abbrev MapE : Type:=(Ls × Ls) × Nat
abbrev MapT : Type:=List MapE × Nat
def mFind (k:Ls):List MapE->Option Ls
 | []=>none
 | x::l=>if x.1.1=k then some x.1.2 else mFind k l
def mSet (k v:Ls):List MapE->Option (List MapE)
 | []=>none
 | x::l=>if x.1.1=k then some (((k,v),x.2)::l) else(mSet k v l).map (x :: ·)
def mapGet (m:MapT)(k:Ls):Ls:=(mFind k m.1).getD []
def mapPut (m:MapT)(k v:Ls):MapT :=
 match mSet k v m.1 with
 | some l=>(l,m.2)
 | none=>(m.1++[((k,v),m.2)],m.2+1)
def mapOk (m:MapT):Bool:=decide ((m.1.map (·.1.1)).Nodup/\(m.1.map (·.2)).Nodup/\∀x∈m.1,x.2<m.2)
def andI (a b:Int):Option Int:=if 0<=a/\a<9223372036854775808/\0<=b/\b<9223372036854775808 then some ((a.toNat &&& b.toNat:Nat):Int) else none
def orI (a b:Int):Option Int:=if 0<=a/\a<9223372036854775808/\0<=b/\b<9223372036854775808 then some ((a.toNat ||| b.toNat:Nat):Int) else none
def shlI (a b:Int):Option Int:=if 0<=a/\0<=b/\b<63/\a*2 ^ b.toNat<9223372036854775808 then some (a*2 ^ b.toNat) else none
def shrI (a b:Int):Option Int:=if 0<=a/\0<=b/\b<63 then some (Int.fdiv a (2 ^ b.toNat)) else none
end Go.Ph.Pl
end
section
namespace Go.Ph
open Go Go.RowKit Pl
section
variable {C : Nat → Prop} {P : Program} {e : Env} {w : World} {x y : Operand} {ty t t' : TypeId} {pos : String} {af : Array Edge} {g : Option (Nat × Bool)} {dst : Option Tmp} {a b r : Int}
theorem Ex.andI (f:ev e x=some (I a))(u:ev e y=some (I b))(h:Pl.andI a b=some r):Ex P ⟨dst, .binOp .and t x y t',ty,pos,af,g⟩ e w (I r) w:=by
 unfold Pl.andI at h;split at h
 · cases h;obtain⟨m,rfl⟩:=l0m (a:=a) Om;obtain⟨s,rfl⟩:=l0m (a:=b) Om;exact Ex.andN f u Om Om
 cases h
theorem Ex.orI (f:ev e x=some (I a))(u:ev e y=some (I b))(h:Pl.orI a b=some r):Ex P ⟨dst, .binOp .or t x y t',ty,pos,af,g⟩ e w (I r) w:=by
 unfold Pl.orI at h;split at h
 · cases h;obtain⟨m,rfl⟩:=l0m (a:=a) Om;obtain⟨s,rfl⟩:=l0m (a:=b) Om;exact Ex.orN f u Om Om
 cases h
theorem Ex.shlI (f:ev e x=some (I a))(u:ev e y=some (I b))(h:Pl.shlI a b=some r):Ex P ⟨dst, .binOp .shl t x y t',ty,pos,af,g⟩ e w (I r) w:=by
 unfold Pl.shlI at h;split at h
 · rename_i hb;cases h;have z:(0:Int)<=a*2 ^ b.toNat:=Int.mul_nonneg hb.1 (Int.pow_nonneg Dc);have:=Ex.shl (P:=P) (w:=w) (dst:=dst) (ty:=ty) (t:=t) (t':=t') (pos:=pos) (af:=af) (g:=g) f u hb.2.1;rw[l1g (by show b.toNat<=64;omega),i64_in ⟨by omega,by omega⟩] at this;exact this
 cases h
theorem Ex.shrI (f:ev e x=some (I a))(u:ev e y=some (I b))(h:Pl.shrI a b=some r):Ex P ⟨dst, .binOp .shr t x y t',ty,pos,af,g⟩ e w (I r) w:=by
 unfold Pl.shrI at h;split at h
 · rename_i hb;cases h;have:=Ex.shr (P:=P) (w:=w) (dst:=dst) (ty:=ty) (t:=t) (t':=t') (pos:=pos) (af:=af) (g:=g) f u hb.2.1;rw[l1g (by show b.toNat<=64;omega)] at this;exact this
 cases h
end
end Go.Ph
end
section
namespace Go.Ph
open Go Go.RowKit Go.MapKept Pl
def mpE (x:MapE):MapEntry:=⟨S x.1.1,S x.1.2,x.2⟩
def mapO (m:MapT):Obj := .map (m.1.map mpE).toArray m.2
theorem S_beq (a b:Ls):((⟨a.toArray⟩:ByteArray) ==⟨b.toArray⟩)=decide (a=b):=by
 show(a.toArray == b.toArray)=decide (a=b)
 by_cases h:a=b
 · subst h;rw[decide_eq_true rfl];exact beq_self_eq_true _
 rw[decide_eq_false h,beq_eq_false_iff_ne];intro h';exact h (by simpa using congrArg Array.toList h')
theorem mp_find (k:Ls):∀(l:List MapE) (i:Nat),(mFind k l=none/\(∀v,mSet k v l=none)/\Instr.findNow .string (S k) (l.map mpE) i=some none)∨
 ∃j x,l[j]? = some x/\x.1.1=k/\mFind k l=some x.1.2/\(∀v,mSet k v l=some (l.set j ((k,v),x.2)))/\Instr.findNow .string (S k) (l.map mpE) i=some (some (i+j,S x.1.2))
 | [],i => .inl ⟨rfl,fun _=>rfl,rfl⟩
 | x :: l,i=>by
   by_cases h:x.1.1=k
   · refine .inr ⟨0,x,G,h,by simp [mFind,h],fun v=>by simp [mSet,h],?_⟩;subst h;simp [Instr.findNow,mpE,Instr.sameNow,S_beq]
   have hs:Instr.sameNow .string (S k) (mpE x).key=some false:=by
    simp only[mpE,Instr.sameNow,S_beq];rw[decide_eq_false (fun e=>h e.symm)]
   rcases mp_find k l (i+1) with ⟨f,u,E⟩|⟨j,y,f,u,E,J,K⟩
   · exact .inl ⟨by simp [mFind,h,f],fun v=>by simp [mSet,h,u],by simp only[l0a,Instr.findNow,hs,E]⟩
   exact .inr ⟨j+1,y,by simpa using f,u,by simp [mFind,h,E],fun v=>by simp [mSet,h,J],by simp only[l0a,Instr.findNow,hs,K];simp;omega⟩
section
variable {C : Nat → Prop} {r : Option Nat} {P : Program} {ops : Array Oper} {Q : Exit → Act → World → Prop} {n : Nat} {D : List Deferred} {rest : List Oper} {e : Env} {w0 w : World} {M0 M : Mem} {L L' : List Item} {d b : Nat} {k v : List UInt8} {m : MapT}
  {x y z : Operand} {ty t kt et : TypeId} {pos : String} {af : Array Edge} {g : Option (Nat × Bool)} {dst : Option Tmp}
theorem WR.makeMapO (H:StX C w0 M0 M L w)(hw:Wn ops n D e ⟨some d, .makeMap t none,ty,pos,af,g⟩)(hn:Nat.blt d n=true)
 (k :∀b w',StX C w0 M0 M (.blk b (mapO ([],0))::L) w'->WR r P ops Q n D rest ((d, .map (some b))::e) w'):WR r P ops Q n D (⟨some d, .makeMap t none,ty,pos,af,g⟩::rest) e w:=by
 refine q0D (v := .map (some w.heap.size)) (w':=w.alloc (.map #[] 0)) ⟨nofun,fun ρ _=>?_⟩ hw G hn (k _ _ (H.new (grownBy_alloc' _ _) (heap_alloc_new w _) (fun b hb=>by cases hb;exact l07 _)));simp only[execOp,Instr.makeMap,Option.map,Sem.run_bind,Sem.run_pure,Result.andThen_ok];rfl
theorem Ex.mapGet (ht:P.underlying t=some (.map kt et))(hk:P.underlying kt=some .string)(hz :∀w,(zeroValue et).run P w = .ok (S []) w)(H:StX C w0 M0 M L w)(hm:Item.blk b (mapO m)∈L)(hx:ev e x=some (.map (some b)))(hy:ev e y=some (S k)):
 Ex P ⟨dst, .lookup t x y false,ty,pos,af,g⟩ e w (S (mapGet m k)) w :=
 ⟨nofun,fun ρ hf=>by
  have hb:w.heap[b]? = some (.map (m.1.map mpE).toArray m.2):=H.blk hm;have hg:(getObj b).run P w = .ok (.map (m.1.map mpE).toArray m.2) w:=MapKept.run_getObj_map hb;have hc :∀q,(Instr.checkKey q (9999+1) kt (S k)).run P w = .ok () w:=fun q=>run_checkKey hk (by trivial) q 9999
  simp only[execOp,hf _ _ hx,hf _ _ hy,Instr.lookup,Sem.run_bind,run_underlying ht,Result.andThen_ok,hg,Sem.run_pure,hc];rcases mp_find k m.1 0 with ⟨u,E,f⟩|⟨j,q,u,E,f,K,J⟩
  · rw[run_findKey (a:=none) hk (by simpa using f)];simp only[Result.andThen_ok,Sem.run_bind,hz,Sem.run_pure,Pl.mapGet,u,Option.getD,l0e,if_false]
  rw[run_findKey hk (by simpa using J)];simp only[Result.andThen_ok,Sem.run_bind,Sem.run_pure,Pl.mapGet,f,Option.getD,l0e,if_false]⟩
theorem WR.mapPut (ht:P.underlying t=some (.map kt et))(hk:P.underlying kt=some .string)(H:StX C w0 M0 M L w)(hx:ev e x=some (.map (some b)))(hy:ev e y=some (S k))(hv:ev e z=some (S v))(hu:Upd L (.blk b (mapO m)) (.blk b (mapO (Pl.mapPut m k v))) L')
 (hw:Wn ops n D e ⟨none, .mapUpdate t x y z,ty,pos,af,g⟩) (kk :∀w',StX C w0 M0 M L' w'->WR r P ops Q n D rest e w'):WR r P ops Q n D (⟨none, .mapUpdate t x y z,ty,pos,af,g⟩::rest) e w:=by
 have hb:w.heap[b]? = some (.map (m.1.map mpE).toArray m.2):=H.blk hu.mem;have hg:(getObj b).run P w = .ok (.map (m.1.map mpE).toArray m.2) w:=MapKept.run_getObj_map hb;have hst :∀o:Obj,(setObj b o).run P w = .ok () {w with heap:=w.heap.setIfInBounds b o}:=fun o=>MapKept.run_setObj_map o hb
 have hs :∀o:Obj,w.grownBy {w with heap:=w.heap.setIfInBounds b o} (some b):=fun o=>⟨rfl,rfl,rfl,by simp,fun i hi hn=>(heap_set hb).2 i (fun q=>hn (by rw[q]))⟩
 refine WR.stepS (w':={w with heap:=w.heap.setIfInBounds b (mapO (Pl.mapPut m k v))}) ⟨nofun,fun ρ hf=>?_⟩ hw G (kk _ (H.upd hu (hs _) (heap_set hb).1 (fun b' hb' => .inl hb')));have hc :∀q,(Instr.checkKey q (9999+1) kt (S k)).run P w = .ok () w:=fun q=>run_checkKey hk (by trivial) q 9999
 simp only[execOp,hf _ _ hx,hf _ _ hy,hf _ _ hv,Instr.mapUpdate,Sem.run_bind,run_underlying ht,Result.andThen_ok,hg,Sem.run_pure,hc];rcases mp_find k m.1 0 with ⟨f,u,E⟩|⟨j,q,f,u,E,J,K⟩
 · rw[run_findKey (a:=none) hk (by simpa using E)];simp only[Result.andThen_ok,Sem.run_bind,hst,Pl.mapPut,u,mapO];simp [mpE]
 rw[run_findKey hk (by simpa using K)];have hj:Option.map (fun x=>x.key) (List.map mpE m.1).toArray[j]? = some (S k):=by simp [f,mpE,u]
 have hsb:Instr.sameBits 10000 (S k) (S k)=true:=by
  show((⟨k.toArray⟩:ByteArray) ==⟨k.toArray⟩)=true
  rw[S_beq];simp
 simp only[Result.andThen_ok,Sem.run_bind,l0o,hj,l1u,Instr.keyThatStays,hsb,if_true,Sem.run_pure,hst,Pl.mapPut,J,mapO];congr 4;apply Array.ext';simp only[Array.toList_modify];apply l0V;intro i;simp only[List.getElem?_modify,List.getElem?_map,List.getElem?_set];by_cases hi:j=i
 · subst hi;obtain⟨hlt,hq⟩:=List.getElem?_eq_some_iff.1 f;simp [f,hlt,mpE,hq]
 simp [hi]
end
end Go.Ph
end
section
namespace Go.Ph
open Go Go.RowKit Go.MapKept Pl
section
variable {C : Nat → Prop} {r : Option Nat} {P : Program} {ops : Array Oper} {Q : Exit → Act → World → Prop} {n : Nat} {D : List Deferred} {rest : List Oper} {e : Env} {w0 w : World} {M0 M : Mem} {L L' : List Item} {d b bi bm since ck : Nat} {k v : List UInt8} {m : MapT} {cur : List MapE} {seen : Array Nat}
  {x y z : Operand} {ty t kt et : TypeId} {pos : String} {af : Array Edge} {g : Option (Nat × Bool)} {dst : Option Tmp}
theorem grownSet (w:World)(b:Nat)(o:Obj):w.grownBy (ChangeMaps.setBlock w b o) (some b):=⟨rfl,rfl,rfl,by simp [ChangeMaps.setBlock],fun i hi hn=>by
 simp only[ChangeMaps.setBlock];rw[Array.getElem?_setIfInBounds_ne (fun q=>hn (by rw[q]))]⟩
theorem heapSet {w:World}{b:Nat}{o o':Obj}(hb:w.heap[b]? = some o):(ChangeMaps.setBlock w b o').heap[b]? = some o':=(heap_set hb).1
theorem WR.rangeMap (ht:P.underlying t=some (.map kt et))(H:StX C w0 M0 M L w)(hm:Item.blk bm (mapO m)∈L)(hx:ev e x=some (.map (some bm)))(hw:Wn ops n D e ⟨some d, .range t x,ty,pos,af,g⟩)(hn:Nat.blt d n=true)
 (k :∀b w',StX C w0 M0 M (.blk b (.mapIter (some bm) m.2 #[] m.2)::L) w'->WR r P ops Q n D rest ((d,ptr b 0)::e) w'):WR r P ops Q n D (⟨some d, .range t x,ty,pos,af,g⟩::rest) e w:=by
 have hb:w.heap[bm]? = some (.map (m.1.map mpE).toArray m.2):=H.blk hm;have hg:(getObj bm).run P w = .ok (.map (m.1.map mpE).toArray m.2) w:=MapKept.run_getObj_map hb;refine q0D (v:=ptr w.heap.size 0) (w':=w.alloc (.mapIter (some bm) m.2 #[] m.2)) ⟨nofun,fun ρ hf=>?_⟩ hw G hn (k _ _ (H.new (grownBy_alloc' _ _) (heap_alloc_new w _) (fun b hb=>by cases hb;exact l07 _)));simp only[execOp,hf _ _ hx,Instr.range,Sem.run_bind,run_underlying ht,Result.andThen_ok,hg,Sem.run_pure];rfl
theorem WR.nextMap {L':Nat->List Item}(H:StX C w0 M0 M L w)(hx:ev e x=some (ptr bi 0))(hu :∀b,Upd L (.blk bi (.mapIter (some bm) since seen ck)) (.blk bi (.mapIter (some bm) since (seen.push b) ck)) (L' b))(hm:Item.blk bm (.map (cur.map mpE).toArray ck)∈L)(hold :∀x∈cur,x.2<since)(hsc:since<=ck)
 (hw:Wn ops n D e ⟨some d, .next x false,ty,pos,af,g⟩) (hn:Nat.blt d n=true)
 (E:(∀x∈cur,seen.contains x.2=true)->WR r P ops Q n D rest ((d, .tuple #[.bool false])::e) w)
 (J :∀q w',q∈cur->seen.contains q.2=false->StX C w0 M0 M (L' q.2) w'->WR r P ops Q n D rest ((d, .tuple #[.bool true,S q.1.1,S q.1.2])::e) w') :
 WR r P ops Q n D (⟨some d, .next x false,ty,pos,af,g⟩::rest) e w:=by
 have hr:=H.blk (hu 0).mem;have hb:=H.blk hm;rcases run_next_at (P:=P) w ty bi bm since ck seen (cur.map mpE).toArray ck hr hb (fun q hq=>by
  simp only[l1C] at hq;obtain⟨y,hy,rfl⟩:=hq;exact hold y hy) hsc with ⟨K,hrun⟩|⟨q,hq,f,u,hrun⟩
 · refine q0D ⟨nofun,fun ρ hf=>?_⟩ hw G hn (E fun y hy=>?_)
   · simp only[execOp,hf _ _ hx,Sem.run_bind,hrun,Result.andThen_ok,Sem.run_pure]
   have:=Array.eq_empty_of_size_eq_zero K;unfold leftOf at this;rw[Array.filter_eq_empty_iff] at this;have:=this (mpE y) (by simp;exact ⟨_,_,_,hy,rfl⟩);simpa [mpE] using this
 unfold leftOf at hq;simp only[Array.toList_filter,l1G,l1C] at hq;obtain⟨⟨y,hy,rfl⟩,hs⟩:=hq;have H1:StX C w0 M0 M L f:=by
  rcases u with rfl|rfl
  · exact H
  exact H.drew
 refine q0D ⟨nofun,fun ρ hf=>?_⟩ hw G hn (J y _ hy (by simpa [mpE] using hs) (H1.upd (hu y.2) (grownSet f bi _) (heapSet (H1.blk (hu y.2).mem)) (fun b' hb' => .inl hb')));simp only[execOp,hf _ _ hx,Sem.run_bind,hrun,Result.andThen_ok,Sem.run_pure];rfl
theorem Ex.entryMap {q:MapE}(H:StX C w0 M0 M L w)(hi:Item.blk bi (.mapIter (some bm) since (seen.push q.2) ck)∈L)(hm:Item.blk bm (.map (cur.map mpE).toArray ck)∈L)(hq:q∈cur)(hnd:(cur.map (·.2)).Nodup)(hx:ev e x=some (ptr bi 0)):
 Ex P ⟨dst, .entry x,ty,pos,af,g⟩ e w (.tuple #[S q.1.1,S q.1.2]) w :=
 ⟨nofun,fun ρ hf=>by
  have hrun:=run_entry_at (P:=P) w bi bm since seen (cur.map mpE).toArray ck (mpE q) (H.blk hi) (H.blk hm) (by simp;exact ⟨_,_,_,hq,rfl⟩) (by simpa [l1A,Function.comp_def,mpE] using hnd);simp only[execOp,hf _ _ hx,Sem.run_bind,hrun,Result.andThen_ok,Sem.run_pure];rfl⟩
theorem map_eraseIdx {α β:Type}(f:α->β):∀(l:List α) (j:Nat),(l.map f).eraseIdx j=(l.eraseIdx j).map f
 | [],_=>rfl
 | _::_,0=>rfl
 | a::l,j+1=>by simp [map_eraseIdx f l j]
theorem erase_key (k:Ls):∀(l:List MapE) (j:Nat) (q:MapE),l[j]? = some q->q.1.1=k->(l.map (·.1.1)).Nodup->l.eraseIdx j=l.filter (fun x=>decide (x.1.1≠k))
 | [],j,q,h,_,_=>by simp at h
 | x::l,0,q,h,hk,hn=>by
   simp only[List.getElem?_cons_zero,Option.some.injEq] at h;subst h;simp only[l0a,l1I,l1C,not_exists,not_and] at hn;have:l.filter (fun x=>decide (x.1.1≠k))=l:=List.filter_eq_self.2 fun y hy=>by
    have:=hn.1 y hy;rw[hk] at this;simpa using this
   rw[List.eraseIdx_zero,List.filter_cons_of_neg (by simp [hk]),this];rfl
 | x::l,j+1,q,h,hk,hn=>by
   rw[List.getElem?_cons_succ] at h;simp only[l0a,l1I,l1C,not_exists,not_and] at hn;have hx:x.1.1≠k:=fun e=>hn.1 q (l0T h) (by rw[hk,e])
   simp [hx,erase_key k l j q h hk hn.2]
theorem find_none (k:Ls):∀(l:List MapE),mFind k l=none->∀x∈l,x.1.1≠k
 | [],_,x,hx=>by simp at hx
 | y::l,h,x,hx=>by
   unfold mFind at h;split at h
   · cases h
   rename_i hy;rcases List.mem_cons.1 hx with rfl|hx
   · exact hy
   exact find_none k l h x hx
theorem WR.delMap (ht:P.underlying t=some (.map kt et))(hk:P.underlying kt=some .string)(H:StX C w0 M0 M L w)(hx:ev e x=some (.map (some bm)))(hy:ev e y=some (S k))(hnd:(cur.map (·.1.1)).Nodup)
 (hu:Upd L (.blk bm (.map (cur.map mpE).toArray ck)) (.blk bm (.map ((cur.filter (fun x=>decide (x.1.1≠k))).map mpE).toArray ck)) L')
 (hw:Wn ops n D e ⟨none, .call ⟨.builtin .delete,#[x,y],#[t,kt]⟩,ty,pos,af,g⟩) (kk :∀w',StX C w0 M0 M L' w'->WR r P ops Q n D rest e w'):WR r P ops Q n D (⟨none, .call ⟨.builtin .delete,#[x,y],#[t,kt]⟩,ty,pos,af,g⟩::rest) e w:=by
 have hb:w.heap[bm]? = some (.map (cur.map mpE).toArray ck):=H.blk hu.mem;have hg:(getObj bm).run P w = .ok (.map (cur.map mpE).toArray ck) w:=MapKept.run_getObj_map hb;have hst :∀o:Obj,(setObj bm o).run P w = .ok () (ChangeMaps.setBlock w bm o):=fun o=>MapKept.run_setObj_map o hb
 have hc :∀q,(Instr.checkKey q (9999+1) kt (S k)).run P w = .ok () w:=fun q=>run_checkKey hk (by trivial) q 9999
 refine WR.stepN (v := .tuple #[]) (w':=ChangeMaps.setBlock w bm (.map ((cur.filter (fun x=>decide (x.1.1≠k))).map mpE).toArray ck)) ⟨nofun,fun ρ hf=>?_⟩ hw G (kk _ (H.upd hu (grownSet w bm _) (heapSet hb) (fun b' hb' => .inl hb')));have hrun:(Builtin.delete_ #[t,kt] ty #[.map (some bm),S k]).run P w = .ok (.tuple #[]) (ChangeMaps.setBlock w bm (.map ((cur.filter (fun x=>decide (x.1.1≠k))).map mpE).toArray ck)):=by
  unfold Builtin.delete_;simp only[List.getElem?_toArray,List.getElem?_cons_zero,List.getElem?_cons_succ,Sem.run_bind,run_underlying ht,Result.andThen_ok,hg,hc];rcases mp_find k cur 0 with ⟨f,u,E⟩|⟨j,q,f,u,E,K,J⟩
  · rw[run_findKey (a:=none) hk (by simpa using E)];have:cur.filter (fun x=>decide (x.1.1≠k))=cur:=List.filter_eq_self.2 fun y hy=>by simpa using find_none k cur f y hy
    rw[this];simp only[Result.andThen_ok,Sem.run_bind,hst,Sem.run_pure]
  rw[run_findKey hk (by simpa using J)];have hlt:=(List.getElem?_eq_some_iff.1 f).1;have:(List.map mpE cur).toArray.eraseIdxIfInBounds j=((cur.filter (fun x=>decide (x.1.1≠k))).map mpE).toArray:=by
   rw[←erase_key k cur j q f u hnd];apply Array.ext';simp [Array.eraseIdxIfInBounds,hlt,map_eraseIdx]
  simp only[Result.andThen_ok,Sem.run_bind,l0o,this,hst,Sem.run_pure]
 simp only[execOp,resolve,invoke,builtin,Sem.run_bind,Sem.run_pure,Result.andThen_ok,l0l,l0a,l0v,hf _ _ hx,hf _ _ hy,hrun]
def mLeft (pd:MapE->Bool)(seen:Array Nat)(l:List MapE):List MapE:=l.filter (fun x => !(seen.contains x.2&&pd x))
theorem mLeft_start (pd:MapE->Bool)(l:List MapE):mLeft pd #[] l=l:=List.filter_eq_self.2 fun x _=>by simp
theorem mLeft_end {pd:MapE->Bool}{seen:Array Nat}{l:List MapE}(h :∀x∈mLeft pd seen l,seen.contains x.2=true):mLeft pd seen l=l.filter (fun x => !pd x):=by
 unfold mLeft at h ⊢;apply l1r;intro x hx;cases hp:pd x with
 | false=>simp
 | true =>
   cases hs:seen.contains x.2 with
   | true=>rfl
   | false =>
     have:=h x (List.mem_filter.2 ⟨hx,by simp only[hs,Bool.false_and,Bool.not_false]⟩);rw[hs] at this;cases this
theorem mLeft_nodup {β:Type}{f:MapE->β}{pd:MapE->Bool}{seen:Array Nat}{l:List MapE}(h:(l.map f).Nodup):((mLeft pd seen l).map f).Nodup:=h.sublist (List.filter_sublist.map f)
theorem born_eq :∀{l:List MapE},(l.map (·.2)).Nodup->∀{x y:MapE},x∈l->y∈l->x.2=y.2->x=y
 | [],_,x,_,hx,_,_=>by simp at hx
 | a::l,h,x,y,hx,hy,he=>by
   simp only[l0a,l1I,l1C,not_exists,not_and] at h;rcases List.mem_cons.1 hx with rfl|hx' <;> rcases List.mem_cons.1 hy with rfl|hy'
   · rfl
   · exact absurd he.symm (h.1 y hy')
   · exact absurd he (h.1 x hx')
   exact born_eq h.2 hx' hy' he
theorem key_eq :∀{l:List MapE},(l.map (·.1.1)).Nodup->∀{x y:MapE},x∈l->y∈l->x.1.1=y.1.1->x=y
 | [],_,x,_,hx,_,_=>by simp at hx
 | a::l,h,x,y,hx,hy,he=>by
   simp only[l0a,l1I,l1C,not_exists,not_and] at h;rcases List.mem_cons.1 hx with rfl|hx' <;> rcases List.mem_cons.1 hy with rfl|hy'
   · rfl
   · exact absurd he.symm (h.1 y hy')
   · exact absurd he (h.1 x hx')
   exact key_eq h.2 hx' hy' he
theorem mLeft_stays {pd:MapE->Bool}{seen:Array Nat}{l:List MapE}(hn:(l.map (·.2)).Nodup){q:MapE}(hq:q∈mLeft pd seen l)(hp:pd q=false):mLeft pd (seen.push q.2) l=mLeft pd seen l:=by
 unfold mLeft;apply l1r;intro x hx;by_cases he:x.2=q.2
 · rw[born_eq hn hx (List.mem_filter.1 hq).1 he,hp,Bool.and_false,Bool.and_false]
 have:(seen.push q.2).contains x.2=seen.contains x.2:=by simp [Array.contains_push,he]
 rw[this]
theorem mLeft_goes {pd:MapE->Bool}{seen:Array Nat}{l:List MapE}(hk:(l.map (·.1.1)).Nodup)(hn:(l.map (·.2)).Nodup){q:MapE}(hq:q∈mLeft pd seen l)(hp:pd q=true):mLeft pd (seen.push q.2) l=(mLeft pd seen l).filter (fun x=>decide (x.1.1≠q.1.1)):=by
 unfold mLeft;rw[l1O];apply l1r;intro x hx;have hql:=(List.mem_filter.1 hq).1;by_cases he:x.2=q.2
 · have:=born_eq hn hx hql he;subst this;simp [Array.contains_push,hp]
 have f:(seen.push q.2).contains x.2=seen.contains x.2:=by simp [Array.contains_push,he]
 have u:x.1.1≠q.1.1:=fun hkk=>he (by rw[key_eq hk hx hql hkk])
 rw[f];simp [u]
def mCount (seen:Array Nat)(l:List MapE):Nat:=(l.filter (fun x => !seen.contains x.2)).length
theorem mCount_lt {seen:Array Nat}{l:List MapE}{q:MapE}(hq:q∈l)(hs:seen.contains q.2=false):mCount (seen.push q.2) l<mCount seen l:=by
 unfold mCount;have:l.filter (fun x => !(seen.push q.2).contains x.2)=(l.filter (fun x => !seen.contains x.2)).filter (fun x=>decide (x.2≠q.2)):=by
  rw[l1O];apply l1r;intro x _;by_cases he:x.2=q.2 <;> simp [Array.contains_push,he]
 rw[this];exact List.length_filter_lt_length_iff_exists.2 ⟨q,List.mem_filter.2 ⟨hq,by simp only[hs,Bool.not_false]⟩,by simp⟩
end
end Go.Ph
end
section
namespace Go.Ph
open Go Go.RowKit Pl
section
variable {C : Nat → Prop} {r : Option Nat} {P : Program} {ops : Array Oper} {Q : Exit → Act → World → Prop} {n : Nat} {D : List Deferred} {rest : List Oper} {e : Env} {w0 w : World} {M0 M : Mem} {L L' A B : List Item} {d b : Nat} {v u : Value}
  {x y : Operand} {ty t t' : TypeId} {pos : String} {af : Array Edge} {g : Option (Nat × Bool)} {dst : Option Tmp} {o : Obj}
theorem StX.lendB (H:StX C w0 M0 M L w)(hm:Item.blk b o∈L):∃M1,M.le M1/\Ag M1 w/\PtM M1 b o/\∀{w':World} {M':Mem},Ext w M1 w' M'->∃M2,M.le M2/\M2.le M'/\StX C w0 M0 M2 L w':=by
 have hg:=H.blk hm;have hMg:=((H.own _ hm).2 b rfl).1;have hCg:=((H.own _ hm).2 b rfl).2;have f:M.le (M.set b o):=fun b' o' hb=>by
  by_cases h:b'=b
  · subst h;rw [hMg] at hb;cases hb
  simp [Mem.set,h,hb]
 have hag:Ag (M.set b o) w:=fun b' o' hb=>by
  by_cases h:b'=b
  · subst h;simp only[Mem.set,if_true] at hb;rw [←hb];exact hg
  simp only[Mem.set,h,if_false] at hb;exact H.ag b' o' hb
 refine⟨_,f,hag,by simp [PtM,Mem.set],fun {w' M'} hx=>?_⟩;have hgw:b<w.heap.size:=(Array.getElem?_eq_some_iff.1 hg).1;refine⟨fun b'=>if b'=b then none else M' b',fun b' o' hb=>?_,fun b' o' hb=>?_,⟨⟨hx.below.os.trans H.ext.below.os,hx.below.tape.trans H.ext.below.tape,hx.below.output.trans H.ext.below.output,l0A H.ext.below.size hx.below.size,fun k hk hn=>?_⟩,fun b' o' hb=>?_,fun b' o' hb=>?_,fun b' hb=>?_⟩,fun it hit=>?_,H.sep⟩
 · have hne:b'≠b:=fun h=>by rw[h,hMg] at hb;cases hb
   simp only[hne,if_false];exact hx.le b' o' (f b' o' hb)
 · by_cases h:b'=b
   · simp [h] at hb
   simpa [h] using hb
 · exact(hx.below.block k (l0G hk H.base) (fun h=>h)).trans (H.ext.below.block k hk hn)
 · have hb':=H.ext.le b' o' hb;have hne:b'≠b:=fun h=>by rw[h,hMg] at hb';cases hb'
   simp only[hne,if_false];exact hx.le b' o' (f b' o' hb')
 · by_cases h:b'=b
   · simp [h] at hb
   simp only[h,if_false] at hb;exact hx.ag b' o' hb
 · by_cases h:b'=b
   · subst h;simp only[if_true];rw[←H.ext.old b' hb,hMg]
   simp only[h,if_false];rw[hx.old b' (l0G hb H.base)];simp only[Mem.set,h,if_false];exact H.ext.old b' hb
 obtain⟨z,E⟩:=H.own it hit;refine⟨z.kept (fun b' hb=>hx.below.block b' (z.lt b' hb) (fun h=>h)),fun b' hb=>⟨?_,(E b' hb).2⟩⟩;by_cases h:b'=b
 · simp [h]
 simp only[h,if_false];rw[hx.old b' (z.lt b' hb)];simp only[Mem.set,h,if_false];exact(E b' hb).1
theorem StX.rowHd {s m:Nat}{xs:List Value}(H:StX C w0 M0 M L w)(hm:Item.row t s v m xs∈L):∃A a c,v = .slice A a c:=by
 rcases(H.rowOf hm).2 with ⟨hv,_⟩|⟨g,cap,cur,hv,_⟩
 · exact⟨_,_,_,hv⟩
 exact⟨_,_,_,hv⟩
theorem WR.callLendB {f:FuncId}{ar:List Operand}{vs:List Value}{tys:Array TypeId}{Pre:Mem->Prop}{R:Value->Mem->Prop}(H:StX C w0 M0 M L w)(hm:Item.blk b o∈L)(hs:Ct P f vs Pre R)(hR :∀v M1 M2,R v M1->R v M2)(ha:evs e ar=some vs)(hp :∀M1,M.le M1->PtM M1 b o->Pre M1)
 (hw:Wn ops n D e ⟨some d, .call ⟨.value (.func f),ar.toArray,tys⟩,ty,pos,af,g⟩) (hn:Nat.blt d n=true)
 (k :∀v M' w',StX C w0 M0 M' L w'->M.le M'->R v M'->WR r P ops Q n D rest ((d,v)::e) w') :
 WR r P ops Q n D (⟨some d, .call ⟨.value (.func f),ar.toArray,tys⟩,ty,pos,af,g⟩::rest) e w:=by
 intro a hsat;unfold wpListIn;rw[if_pos (hw a hsat)];refine⟨fun _ _=>trivial,?_⟩;rw[Oper.semAt_eq _ _ _ (fun c h=>by cases h)];have hv:ar.map a.eval=vs:=hsat.fits.evs ha;have hf:a.eval (.func f) = .func (.func f) #[] #[]:=rfl;have hrun:(execOp a.eval ⟨some d, .call ⟨.value (.func f),ar.toArray,tys⟩,ty,pos,af,g⟩).run P w = .ok (.enter f vs.toArray) w:=by
  simp only[execOp,resolve,hf,Deferred.ofValue,Sem.run_bind,Sem.run_pure,Result.andThen_ok,invoke,l0l,hv,Array.append_empty,Array.empty_append,hs.enters]
 rw[hrun,Oper.uponIn_enter];obtain⟨M1,z,E,J,K⟩:=H.lendB hm;refine⟨fun h=>(by cases h),callsIn_Wd.2 ((hs.calls w M1 E (hp M1 z J)).mono ?_)⟩;rintro en w' ⟨rv,M',rfl,hx,hres⟩;obtain⟨M2,N,U,O⟩:=K hx;exact k rv M2 w' O N (hR _ _ _ hres) _ (hsat.put (l08 hn) rv)
theorem WR.callVF {f:FuncId}{ar:List Operand}{fst vs cap:List Value}{tys:Array TypeId}{Pre:Mem->Prop}{R:Value->Mem->Prop}(H:StX C w0 M0 M L w)(hs:Ct P f (fst++vs++cap) Pre R)(hx:ev e x=some (.func (.func f) fst.toArray cap.toArray))(ha:evs e ar=some vs)(hp:Pre M)
 (hw:Wn ops n D e ⟨some d, .call ⟨.value x,ar.toArray,tys⟩,ty,pos,af,g⟩) (hn:Nat.blt d n=true)
 (k :∀v M' w',StX C w0 M0 M' L w'->M.le M'->R v M'->WR r P ops Q n D rest ((d,v)::e) w') :
 WR r P ops Q n D (⟨some d, .call ⟨.value x,ar.toArray,tys⟩,ty,pos,af,g⟩::rest) e w:=by
 intro a hsat;unfold wpListIn;rw[if_pos (hw a hsat)];refine⟨fun _ _=>trivial,?_⟩;rw[Oper.semAt_eq _ _ _ (fun c h=>by cases h)];have hv:ar.map a.eval=vs:=hsat.fits.evs ha;have hf:a.eval x = .func (.func f) fst.toArray cap.toArray:=hsat.fits _ _ hx;have hrun:(execOp a.eval ⟨some d, .call ⟨.value x,ar.toArray,tys⟩,ty,pos,af,g⟩).run P w = .ok (.enter f (fst++vs++cap).toArray) w:=by
  simp only[execOp,resolve,hf,Deferred.ofValue,Sem.run_bind,Sem.run_pure,Result.andThen_ok,invoke,l0l,hv,l1c,hs.enters]
 rw[hrun,Oper.uponIn_enter];refine⟨fun h=>(by cases h),callsIn_Wd.2 ((hs.calls w M H.ag hp).mono ?_)⟩;rintro en w' ⟨rv,M',rfl,hx',hres⟩;exact k rv M' w' (H.call hx') hx'.le hres _ (hsat.put (l08 hn) rv)
end
end Go.Ph
end
section
namespace Go.Ph
open Go Go.RowKit Pl
theorem Pl.chk_val {x y:Int}(h:chk x=some y):y=x:=by
 unfold chk at h;split at h
 · cases h;rfl
 cases h
theorem idx_set_same {α:Type}{l:List α}{i:Int}{a h:α}(hi:idx l i=some a):idx (l.set i.toNat h) i=some h:=by
 obtain⟨z,E⟩:=idx_some hi;have:=(List.getElem?_eq_some_iff.1 E).1;unfold idx;rw[if_pos z];simp [this]
theorem idx_set_ne {α:Type}{l:List α}{i j:Int}{a h:α}(hi:idx l i=some a)(J:0<=j)(hne:i≠j):idx (l.set j.toNat h) i=some a:=by
 obtain⟨z,E⟩:=idx_some hi;unfold idx;rw[if_pos z,List.getElem?_set_ne Om];exact E
theorem put_of_idx {α:Type}{l:List α}{i:Int}{a x:α}(hi:idx l i=some a):put l i x=some (l.set i.toNat x):=by
 obtain⟨E,z⟩:=idx_some hi;have:=(List.getElem?_eq_some_iff.1 z).1;unfold put;rw[if_pos Om]
section
variable {F α : Type} {R : Rl F α} {M : Mem} {fl : List F} {l : List α} {f : F} {x : α}
theorem RelL.atI {i:Int}{a:α}(h:RelL R M fl l)(hi:idx l i=some a):∃f,idx fl i=some f/\R.rel M f a:=by
 obtain⟨z,E⟩:=idx_some hi;obtain⟨f,J,K⟩:=h.at E;exact⟨f,by unfold idx;rw [if_pos z];exact J,K⟩
theorem RelL.set :∀{fl:List F} {l:List α} (n:Nat),RelL R M fl l->R.rel M f x->RelL R M (fl.set n f) (l.set n x)
 | [],[],_,_,_=>trivial
 | _::_,_::_,0,h,k=>⟨k,h.2⟩
 | _::_,_::_,n+1,h,k=>⟨h.1,RelL.set n h.2 k⟩
 | [],_::_,_,h,_=>h.elim
 | _::_,[],_,h,_=>h.elim
theorem RelL.rep (n:Nat)(h:R.rel M f x):RelL R M (List.replicate n f) (List.replicate n x):=by
 induction n with
 | zero=>exact trivial
 | succ n ih=>exact⟨h,ih⟩
theorem mkS_flat {bytes:Nat}{n c:Int}{z:α}(y:F)(h:mkS bytes n c z=some l):mkS bytes n c y=some (List.replicate l.length y):=by
 obtain⟨⟨E,J,K,N⟩,rfl⟩:=mkS_some h;rw[mkS_ok E J K N];simp
theorem RelL.ofMk {bytes:Nat}{n c:Int}{z:α}{y:F}(h:mkS bytes n c z=some l)(hz:R.rel M y z):RelL R M (List.replicate l.length y) l:=by
 obtain⟨_,rfl⟩:=mkS_some h;rw[l0Y];exact RelL.rep _ hz
end
section
variable {C : Nat → Prop} {r : Option Nat} {P : Program} {ops : Array Oper} {Q : Exit → Act → World → Prop} {n : Nat} {D : List Deferred} {rest : List Oper} {e : Env} {w0 w : World} {M0 M : Mem} {L L' A B : List Item} {d b kk : Nat} {v u : Value}
  {x y : Operand} {ty t t' ts : TypeId} {pos : String} {af : Array Edge} {g : Option (Nat × Bool)} {dst : Option Tmp} {α : Type} {enc : α → Value} {encs : α → List Value} {l : List α} {a : α} {i : Int}
theorem StX.rowBlk (H:StX C w0 M0 M L w)(hm:RowI t enc v l∈L)(hi:idx l i=some a):∃gb,v.ownBlock=some gb:=by
 obtain⟨gb,cap,cur,rfl,_⟩:=H.rowAt hm (idx_some hi).2;exact⟨gb,G⟩
theorem StX.rowBlkS (H:StX C w0 M0 M L w)(hm:RowS t kk encs v l∈L)(hi:idx l i=some a):∃gb,v.ownBlock=some gb:=by
 obtain⟨gb,cap,cur,rfl,_⟩:=H.rowAtS hm (idx_some hi).2;exact⟨gb,G⟩
theorem StX.rowHdq (H:StX C w0 M0 M L w)(hm:RowI t enc v l∈L):∃q:Hd,v=hv q:=by
 obtain⟨A,a,c,hv⟩:=H.rowHd hm;exact⟨(A,a,c),hv⟩
theorem Ex.idxRowP {gb:Nat}{k':IntKind}(H:StX C w0 M0 M L w)(ht:P.underlying ts=some (.slice t'))(hz :∀w,(sizeOf t').run P w = .ok 1 w)(hm:RowI t enc v l∈L)(hg:v.ownBlock=some gb)(hx:ev e x=some v)(hy:ev e y=some (.int k' i))(hi:idx l i=some a):
 Ex P ⟨dst, .indexAddr ts x y,ty,pos,af,g⟩ e w (ptr gb i.toNat) w:=by
 obtain⟨z,hi⟩:=idx_some hi;obtain⟨j,rfl⟩:=l0m z;rw[l0b] at hi ⊢;obtain⟨gb',cap,cur,rfl,J⟩:=H.rowAt hm hi;obtain rfl:gb'=gb:=oI hg;have hlt:=(List.getElem?_eq_some_iff.1 hi).1;have E:(0:Int)<=(j:Int)/\(j:Int)<(l.length:Int):=by omega
 exact⟨nofun,fun ρ hfi=>by simp only[execOp,hfi _ _ hx,hfi _ _ hy,Instr.indexAt,Sem.run_bind,asIntOf,run_underlying ht,Result.andThen_ok,Sem.run_pure,hz,E,and_self,if_true,Addr.add_lit,l0b,l0x,l0o]⟩
abbrev _root_.q1u := @Ex.idxRowP
theorem Ex.idxRowSP {gb:Nat}{k':IntKind}(H:StX C w0 M0 M L w)(ht:P.underlying ts=some (.slice t'))(hz :∀w,(sizeOf t').run P w = .ok kk w)(hm:RowS t kk encs v l∈L)(hg:v.ownBlock=some gb)(hx:ev e x=some v)(hy:ev e y=some (.int k' i))(hi:idx l i=some a):
 Ex P ⟨dst, .indexAddr ts x y,ty,pos,af,g⟩ e w (ptr gb (i.toNat*kk)) w:=by
 obtain⟨z,hi⟩:=idx_some hi;obtain⟨j,rfl⟩:=l0m z;rw[l0b] at hi ⊢;obtain⟨gb',cap,cur,rfl,J⟩:=H.rowAtS hm hi;obtain rfl:gb'=gb:=oI hg;have hlt:=(List.getElem?_eq_some_iff.1 hi).1;have E:(0:Int)<=(j:Int)/\(j:Int)<(l.length:Int):=by omega
 exact⟨nofun,fun ρ hfi=>by simp only[execOp,hfi _ _ hx,hfi _ _ hy,Instr.indexAt,Sem.run_bind,asIntOf,run_underlying ht,Result.andThen_ok,Sem.run_pure,hz,E,and_self,if_true,Addr.add_lit,l0b,l0o]⟩
abbrev _root_.q0Z := @Ex.idxRowSP
end
end Go.Ph
end
section
namespace Go.Ph.Pl
theorem u8_lit (c n:UInt8):c=n↔c.toNat=n.toNat:=UInt8.toNat_inj.symm
theorem drop_cons {α:Type}{l:List α}{i:Nat}(h:i<l.length):l.drop i=l[i]::l.drop (i+1):=l0Q h
theorem scanL {α β:Type}(L:Nat->Int->Option β)(l:List α)(p:α->Bool)(stop r:β)(hend :∀m,L (m+1) (l.length:Int)=some stop)
 (hstep :∀m i (h:i<l.length),L (m+1) (i:Int)=if p l[i]=true then some r else L m ((i+1:Nat):Int)) :
 ∀(k i m:Nat),l.length-i<=k->k<m->i<=l.length->L m (i:Int)=some (if (l.drop i).any p=true then r else stop)
 | 0,i,m,f,u,z=>by
   obtain⟨m,rfl⟩ :∃k,m=k+1:=⟨m-1,by omega⟩
   obtain rfl:i=l.length:=by omega
   rw[hend,l0t];rfl
 | k + 1,i,m,f,u,z=>by
   obtain⟨m,rfl⟩ :∃k,m=k+1:=⟨m-1,by omega⟩
   by_cases hi:i<l.length
   · rw[hstep m i hi,drop_cons hi,l1i];by_cases hp:p l[i]=true
     · rw[if_pos hp,hp];rfl
     rw[if_neg hp,scanL L l p stop r hend hstep k (i+1) m Om Om Om];have:p l[i]=false:=by simpa using hp
     rw[this];rfl
   obtain rfl:i=l.length:=by omega
   rw[hend,l0t];rfl
theorem scan0 {α β:Type}{L:Nat->Int->Option β}{l:List α}{p:α->Bool}{stop r:β}{m:Nat}(hm:l.length<m)(hend :∀m,L (m+1) (l.length:Int)=some stop)
 (hstep :∀m i (h:i<l.length),L (m+1) (i:Int)=if p l[i]=true then some r else L m ((i+1:Nat):Int)):L m 0=some (if l.any p=true then r else stop):=by
 have:=scanL L l p stop r hend hstep l.length 0 m Om hm Om;simpa using this
theorem scanP {α β:Type}(L:Nat->Int->Option β)(l:List α)(p:Nat->α->Option β)(stop:β)(hend :∀m,L (m+1) (l.length:Int)=some stop)
 (hstep :∀m i (h:i<l.length),L (m+1) (i:Int)=match p i l[i] with|some r=>some r|none=>L m ((i+1:Nat):Int)) :
 ∀(k i m:Nat),l.length-i<=k->k<m->i<=l.length->
  (∃(j:Nat) (hj:j<l.length) (r:β),i<=j/\p j l[j]=some r/\(∀(a:Nat) (ha:a<l.length),i<=a->a<j->p a l[a]=none)/\L m (i:Int)=some r)∨
  ((∀(a:Nat) (ha:a<l.length),i<=a->p a l[a]=none)/\L m (i:Int)=some stop)
 | 0,i,m,f,u,J=>by
   obtain⟨m,rfl⟩ :∃k,m=k+1:=⟨m-1,by omega⟩
   obtain rfl:i=l.length:=by omega
   exact .inr ⟨fun a ha hi=>by omega,hend m⟩
 | k + 1,i,m,f,u,J=>by
   obtain⟨m,rfl⟩ :∃k,m=k+1:=⟨m-1,by omega⟩
   by_cases hi:i<l.length
   · cases hp:p i l[i] with
     | some r=>exact .inl ⟨i,hi,r,l07 _,hp,fun a ha f u=>by omega,by rw[hstep m i hi,hp]⟩
     | none =>
       rw[hstep m i hi,hp];rcases scanP L l p stop hend hstep k (i+1) m Om Om Om with ⟨j,hj,r,E,z,K,M⟩|⟨E,z⟩
       · refine .inl ⟨j,hj,r,by omega,z,fun a ha f u=>?_,M⟩;rcases l1P f with rfl|f
         · exact hp
         exact K a ha f u
       refine .inr ⟨fun a ha f=>?_,z⟩;rcases l1P f with rfl|f
       · exact hp
       exact E a ha f
   obtain rfl:i=l.length:=by omega
   exact .inr ⟨fun a ha hi=>by omega,hend m⟩
theorem FU_gt {n:Nat}(h:n<=9223372036854775807):n<FU:=by rw[FU_eq];omega
end Go.Ph.Pl
end
section
namespace Go.Ph.Pf
open Go.Ph.Pl
inductive BT88 where
 | mk (a0:Int) (a1:List BT88) (a2:Ls) (a3:Int) (a4:Ls) (a5:Int):BT88
abbrev _root_.Z01 : Type:=Int × List BT88 × Ls × Int × Ls × Int
abbrev BT88.out : BT88->Z01
 | .mk f u z E J K=>(f,u,z,E,J,K)
abbrev BT88.of (x:Z01):BT88 := .mk x.1 x.2.1 x.2.2.1 x.2.2.2.1 x.2.2.2.2.1 x.2.2.2.2.2
inductive BT90 where
 | mk (a0:Int) (a1:Int) (a2:List BT88) (a3:Ls) (a4:Int) (a5:Ls) (a6:Int) (a7:List BT90) (a8:List BT90) (a9:Int) (a10:Ls) (a11:Ls) (a12:Int):BT90
abbrev _root_.Z05 : Type:=Int × Int × List BT88 × Ls × Int × Ls × Int × List BT90 × List BT90 × Int × Ls × Ls × Int
abbrev BT90.out : BT90->Z05
 | .mk E J K M N O U V Y Z f u z=>(E,J,K,M,N,O,U,V,Y,Z,f,u,z)
abbrev BT90.of (x:Z05):BT90 := .mk x.1 x.2.1 x.2.2.1 x.2.2.2.1 x.2.2.2.2.1 x.2.2.2.2.2.1 x.2.2.2.2.2.2.1 x.2.2.2.2.2.2.2.1 x.2.2.2.2.2.2.2.2.1 x.2.2.2.2.2.2.2.2.2.1 x.2.2.2.2.2.2.2.2.2.2.1 x.2.2.2.2.2.2.2.2.2.2.2.1 x.2.2.2.2.2.2.2.2.2.2.2.2
def Y0K (f:Ls)(u:UInt8):Option Int :=
 some (ixB f u)
def Y1T (f:Ls)(u:UInt8):Option Int :=
 some (ixB f u)
def Y3o (f:List Ls)(u:Ls):Option Ls :=
 if f.length<=140737488355328/\(jn u f).length<=140737488355328 then some (jn u f) else none
def strconv_Itoa (f:Int):Option Ls :=
 if -9223372036854775808<=f/\f<=9223372036854775807 then some (itoaP f) else none
def Y2U (u:Ls)(f:Int):Option Ls :=
 if 0<=f/\f<=9223372036854775807/\u.length*f.toNat<=140737488355328 then some (Lib.repeatL u f.toNat) else none
abbrev _root_.Z0v : Type:=Int × Bool
def strconv_Atoi (f:Ls):Option Z0v :=
 if f.length<=281474976710656 then some (atoiP f) else none
def Y0P (f:Ls)(u:Ls):Option Bool :=
 if f.length<4294967281 then some (Lib.contains f u) else none
def Y1r (f:Ls)(u:Ls):Option Int :=
 if f.length<4294967281 then some (Lib.index f u) else none
abbrev _root_.Z07 : Type:=Ls × Ls
def Y3N (f:Int):Option (List Z07) :=
 if 0<f/\f<=1000000 then some [] else none
def Y3O (f:Ls):Option Ls :=
 app 1 [] f
def Y5O (f:Ls)(u:Ls):Option Int :=
 if f.length<4294967281/\u.length=2 then some (Lib.index f u) else none
def Y0W (f:Ls)(J:Ls):Option Bool :=
 ((idx f 0).bind fun u=>(if 48<=u.toNat then(idx f 0).bind fun z=>some (decide (z.toNat<=57)) else some false)).bind fun E=>some E
def Y31 (m:MapT):Option MapT :=
 if mapOk m&&m.1.all (fun x=>(Y0W x.1.1 x.1.2).isSome) then some (m.1.filter (fun x=>Y0W x.1.1 x.1.2 != some true),m.2) else none
abbrev _root_.Z0a : Type:=Int × Int
def Y03 (f:Int)(u:Int):Option Z0a :=
 some (f,u)
abbrev _root_.Z00 : Type:=Ls × Int × Int × Int × Ls × Bool × Int × Int × Int
abbrev _root_.Z0n : Type:=Int × Int × Ls × Int × Int × Ls × Ls × Int × Int × Int × Ls × Bool × Int × Int × Int
abbrev _root_.Z0u : Type:=Int × Int × Ls
def Y08  : Nat->Ls->Int->Int->Int->Ls->Bool->Int->Int->Int->Int->Int->Ls->Int->Int->Ls->Ls->Int->Option (Z0n ⊕ (Z0u × Z00))
 | 0,_,_,_,_,_,_,_,_,_,_,_,_,_,_,_,_,_=>none
 | a6+1,f,Y,u,z,E,J,K,M,N,a1,a2,a3,Z,O,a0,a4,U=>(if U<(f.length:Int) then(idx f U).bind fun a5=>(if a5=34 then(chk (U+1)).bind fun a7=>some (.inr ((Z,O,a4),(f,a7,u,z,E,J,K,M,N))) else(if a5=92 then(chk (U+1)).bind fun V=>((if V=(f.length:Int) then some true else(idx f V).bind fun a8=>(if a8=34 then some false else(idx f V).bind fun a9=>some (!decide (a9=92))))).bind fun aa=>(if aa=true then some (.inr ((5,O,a0),(f,Y,u,z,E,J,K,M,N))) else(idx f V).bind fun ab=>(app 1 a4 ([ab]:Ls)).bind fun ac=>(chk (V+1)).bind fun ad=>Y08  a6 f Y u z E J K M N a1 a2 a3 Z O a0 ac ad) else(app 1 a4 ([a5]:Ls)).bind fun ae=>(chk (U+1)).bind fun ah=>Y08  a6 f Y u z E J K M N a1 a2 a3 Z O a0 ae ah)) else some (.inl (a1,a2,a3,Z,O,a0,f,Y,u,z,E,J,K,M,N)))
def Y2h (f:Z00):Option (Z0u × Z00) :=
 (chk (f.2.1+1)).bind fun Z=>((Y08  FU f.1 f.2.1 f.2.2.1 f.2.2.2.1 f.2.2.2.2.1 f.2.2.2.2.2.1 f.2.2.2.2.2.2.1 f.2.2.2.2.2.2.2.1 f.2.2.2.2.2.2.2.2 0 0 [] 1 f.2.1 [] [] Z:Option (Z0n ⊕ (Z0u × Z00)))).bind fun u=>(match u with | .inl (n4,n5,s6,n7,n8,s9,z,E,J,K,M,N,O,U,V)=>some ((5,n8,s9),(z,E,J,K,M,N,O,U,V)) | .inr Y=>some Y)
def Y10 (f:UInt8):Option Bool :=
 ((if 97<=f.toNat then some (decide (f.toNat<=122)) else some false)).bind fun u=>some u
def Y1g (f:UInt8):Option Bool :=
 ((if 48<=f.toNat then some (decide (f.toNat<=57)) else some false)).bind fun u=>some u
def Y0u  : Nat->Ls->Int->Int->Int->Ls->Bool->Int->Int->Int->Option Z00
 | 0,_,_,_,_,_,_,_,_,_=>none
 | U+1,f,u,z,E,J,K,M,N,O=>((if u<(f.length:Int) then(idx f u).bind fun V=>(Y0K [32,9,13,10] V).bind fun Y=>some (decide ((0:Int)<=Y)) else some false)).bind fun Z=>(if Z=true then(chk (u+1)).bind fun a0=>Y0u  U f a0 z E J K M N O else some (f,u,z,E,J,K,M,N,O))
def Y0o (u:Ls)(z:Int):Nat->Int->Option Int
 | 0,_=>none
 | E+1,f=>((if f<(u.length:Int) then(idx u f).bind fun J=>(Y1g J).bind fun K=>(if K=true then some true else(if z=(2:Int) then(idx u f).bind fun M=>(Y10 M).bind fun N=>some N else some false)) else some false)).bind fun O=>(if O=true then(chk (f+1)).bind fun U=>Y0o u z E U else some f)
def Y0X (u:Z00):Option Z00 :=
 (Y0u  FU u.1 u.2.1 u.2.2.1 u.2.2.2.1 u.2.2.2.2.1 u.2.2.2.2.2.1 u.2.2.2.2.2.2.1 u.2.2.2.2.2.2.2.1 u.2.2.2.2.2.2.2.2).bind fun(E,z,n5,n6,s7,V,Y,K,M)=>(if z=(E.length:Int) then some (E,z,0,z,[],V,Y,K,M) else(idx E z).bind fun J=>(if J=34 then(Y2h (E,z,n5,n6,s7,V,Y,K,M)).bind fun((Z,a0,a1),f)=>some (f.1,f.2.1,Z,a0,a1,f.2.2.2.2.2.1,f.2.2.2.2.2.2.1,f.2.2.2.2.2.2.2.1,f.2.2.2.2.2.2.2.2) else(chk (z+1)).bind fun N=>((Y10 J).bind fun a2=>(if a2=true then some true else(Y1g J).bind fun a3=>some a3)).bind fun a4=>((if a4=true then(Y10 J).bind fun a5=>((if a5=true then some 2 else some 3)).bind fun O=>(Y0o E O FU N).bind fun a6=>some (a6,O) else some (N,4))).bind fun(U,a7)=>(cut E z U).bind fun a8=>some (E,U,a7,z,a8,V,Y,K,M)))
def Y09 (f:Z00)(z:Int)(E:Ls):Option (Bool × Z00) :=
 ((if f.2.2.2.2.2.1=true then some true else(if f.2.2.1=z then some (!decide (f.2.2.2.2.1=E)) else some true))).bind fun J=>(if J=true then some (false,(f.1,f.2.1,f.2.2.1,f.2.2.2.1,f.2.2.2.2.1,f.2.2.2.2.2.1,f.2.2.2.2.2.2.1,f.2.2.2.2.2.2.2.1,f.2.2.2.2.2.2.2.2)) else(Y0X (f.1,f.2.1,f.2.2.1,f.2.2.2.1,f.2.2.2.2.1,f.2.2.2.2.2.1,f.2.2.2.2.2.2.1,f.2.2.2.2.2.2.2.1,f.2.2.2.2.2.2.2.2)).bind fun u=>some (true,(u.1,u.2.1,u.2.2.1,u.2.2.2.1,u.2.2.2.2.1,u.2.2.2.2.2.1,u.2.2.2.2.2.2.1,u.2.2.2.2.2.2.2.1,u.2.2.2.2.2.2.2.2)))
def Y0D (u:Z00)(z:Ls):Option Z00 :=
 (Y09 (u.1,u.2.1,u.2.2.1,u.2.2.2.1,u.2.2.2.2.1,u.2.2.2.2.2.1,u.2.2.2.2.2.2.1,u.2.2.2.2.2.2.2.1,u.2.2.2.2.2.2.2.2) 4 z).bind fun(E,f)=>(if E=true then some (f.1,f.2.1,f.2.2.1,f.2.2.2.1,f.2.2.2.2.1,f.2.2.2.2.2.1,f.2.2.2.2.2.2.1,f.2.2.2.2.2.2.2.1,f.2.2.2.2.2.2.2.2) else some (f.1,f.2.1,f.2.2.1,f.2.2.2.1,f.2.2.2.2.1,true,f.2.2.2.2.2.2.1,f.2.2.2.2.2.2.2.1,f.2.2.2.2.2.2.2.2))
def Y0E (f:Z00)(z:Int):Option (Ls × Z00) :=
 ((if f.2.2.2.2.2.1=true then some true else some (!decide (f.2.2.1=z)))).bind fun E=>(if E=true then some ([],(f.1,f.2.1,f.2.2.1,f.2.2.2.1,f.2.2.2.2.1,true,f.2.2.2.2.2.2.1,f.2.2.2.2.2.2.2.1,f.2.2.2.2.2.2.2.2)) else(Y0X (f.1,f.2.1,f.2.2.1,f.2.2.2.1,f.2.2.2.2.1,f.2.2.2.2.2.1,f.2.2.2.2.2.2.1,f.2.2.2.2.2.2.2.1,f.2.2.2.2.2.2.2.2)).bind fun u=>some (f.2.2.2.2.1,(u.1,u.2.1,u.2.2.1,u.2.2.2.1,u.2.2.2.2.1,u.2.2.2.2.2.1,u.2.2.2.2.2.2.1,u.2.2.2.2.2.2.2.1,u.2.2.2.2.2.2.2.2)))
def Y4m  : Option (List Ls) :=
 (chkA 3 (List.replicate 3 []:List Ls)).bind fun u=>(chkA 3 ([[105,115],[99,111,110,116,97,105,110,115],[108,105,107,101]]:List Ls)).bind fun l2=>(chkA 3 ([[105,115],[99,111,110,116,97,105,110,115],[108,105,107,101]]:List Ls)).bind fun f=>some f
abbrev _root_.Z0f : Type:=Ls × Int × Int × Int × Ls × Bool × Int × Int × Int × Int × Ls × Int × Ls × Int
abbrev _root_.Z0g : Type:=Int × Unit × Ls × Int × Ls × Int
def Y0w (n1:List Ls):Nat->Ls->Int->Int->Int->Ls->Bool->Int->Int->Int->Int->Ls->Int->Ls->Int->Int->Option (Z0f ⊕ (Z00 × Z0g))
 | 0,_,_,_,_,_,_,_,_,_,_,_,_,_,_,_=>none
 | a5+1,M,N,O,U,V,Y,Z,a0,a1,E,J,a2,a3,K,z=>(if z<(3:Int) then(idxA 3 n1 z).bind fun a6=>(Y09 (M,N,O,U,V,Y,Z,a0,a1) 2 a6).bind fun(a7,f)=>(if a7=true then(chk (z+1)).bind fun a8=>(Y0E (f.1,f.2.1,f.2.2.1,f.2.2.2.1,f.2.2.2.2.1,f.2.2.2.2.2.1,f.2.2.2.2.2.2.1,f.2.2.2.2.2.2.2.1,f.2.2.2.2.2.2.2.2) 1).bind fun(a9,u)=>some (.inr ((u.1,u.2.1,u.2.2.1,u.2.2.2.1,u.2.2.2.2.1,u.2.2.2.2.2.1,u.2.2.2.2.2.2.1,u.2.2.2.2.2.2.2.1,u.2.2.2.2.2.2.2.2),(E,(),J,a8,a9,K))) else(chk (z+1)).bind fun aa=>Y0w n1 a5 f.1 f.2.1 f.2.2.1 f.2.2.2.1 f.2.2.2.2.1 f.2.2.2.2.2.1 f.2.2.2.2.2.2.1 f.2.2.2.2.2.2.2.1 f.2.2.2.2.2.2.2.2 E J a2 a3 K aa) else some (.inl (M,N,O,U,V,Y,Z,a0,a1,E,J,a2,a3,K)))
def Y1v (f:Z00)(u:Z01):Option (Z00 × Z0g) :=
 (Y4m).bind fun Z=>((Y0w Z FU f.1 f.2.1 f.2.2.1 f.2.2.2.1 f.2.2.2.2.1 f.2.2.2.2.2.1 f.2.2.2.2.2.2.1 f.2.2.2.2.2.2.2.1 f.2.2.2.2.2.2.2.2 u.1 u.2.2.1 u.2.2.2.1 u.2.2.2.2.1 u.2.2.2.2.2 0:Option (Z0f ⊕ (Z00 × Z0g)))).bind fun z=>(match z with | .inl (s5,n6,n7,n8,s9,a5,E,J,K,M,N,O,U,V)=>some ((s5,n6,n7,n8,s9,true,E,J,K),(M,(),N,O,U,V)) | .inr Y=>some Y)
def Y3p (u:Ls)(z:Int):Option Z0v :=
 (strconv_Atoi u).bind fun(f,E)=>((if E=true then(strconv_Itoa f).bind fun J=>(if J=u then(if f<(0:Int) then some true else some (decide (z<f))) else some true) else some true)).bind fun K=>(if K=true then some (0,false) else some (f,true))
def Y1p (f:Z00):Option (Int × Z00) :=
 (Y3p f.2.2.2.2.1 9999999).bind fun(z,E)=>((if f.2.2.1=(3:Int) then some (!E) else some true)).bind fun J=>(if J=true then some (0,(f.1,f.2.1,f.2.2.1,f.2.2.2.1,f.2.2.2.2.1,true,f.2.2.2.2.2.2.1,f.2.2.2.2.2.2.2.1,f.2.2.2.2.2.2.2.2)) else(Y0E (f.1,f.2.1,f.2.2.1,f.2.2.2.1,f.2.2.2.2.1,f.2.2.2.2.2.1,f.2.2.2.2.2.2.1,f.2.2.2.2.2.2.2.1,f.2.2.2.2.2.2.2.2) 3).bind fun(K,u)=>some (z,(u.1,u.2.1,u.2.2.1,u.2.2.2.1,u.2.2.2.2.1,u.2.2.2.2.2.1,u.2.2.2.2.2.2.1,u.2.2.2.2.2.2.2.1,u.2.2.2.2.2.2.2.2)))
abbrev _root_.Z0p : Type:=Ls × Int × Int × Int × Ls × Bool × Int × Int × Int × List BT88
abbrev _root_.Z0I : Type:=Z01 × Z00
def Y0Y (self:Z00->Option Z0I):Nat->Ls->Int->Int->Int->Ls->Bool->Int->Int->Int->List BT88->Option Z0p
 | 0,_,_,_,_,_,_,_,_,_,_=>none
 | E+1,J,K,M,N,O,U,V,Y,Z,z=>(Y09 (J,K,M,N,O,U,V,Y,Z) 4 [44]).bind fun(a0,f)=>(if a0=true then(self (f.1,f.2.1,f.2.2.1,f.2.2.2.1,f.2.2.2.2.1,f.2.2.2.2.2.1,f.2.2.2.2.2.2.1,f.2.2.2.2.2.2.2.1,f.2.2.2.2.2.2.2.2)).bind fun((a1,a2,a3,a4,a5,a6),u)=>(app 80 z ([(BT88.of (a1,a2,a3,a4,a5,a6))]:List BT88)).bind fun a7=>Y0Y self E u.1 u.2.1 u.2.2.1 u.2.2.2.1 u.2.2.2.2.1 u.2.2.2.2.2.1 u.2.2.2.2.2.2.1 u.2.2.2.2.2.2.2.1 u.2.2.2.2.2.2.2.2 a7 else some (f.1,f.2.1,f.2.2.1,f.2.2.2.1,f.2.2.2.2.1,f.2.2.2.2.2.1,f.2.2.2.2.2.2.1,f.2.2.2.2.2.2.2.1,f.2.2.2.2.2.2.2.2,z))
def Y2e (self:Z00->Option Z0I)(u:Z00):Option (List BT88 × Z00) :=
 (Y0D (u.1,u.2.1,u.2.2.1,u.2.2.2.1,u.2.2.2.2.1,u.2.2.2.2.2.1,u.2.2.2.2.2.2.1,u.2.2.2.2.2.2.2.1,u.2.2.2.2.2.2.2.2) [40]).bind fun z=>(self (z.1,z.2.1,z.2.2.1,z.2.2.2.1,z.2.2.2.2.1,z.2.2.2.2.2.1,z.2.2.2.2.2.2.1,z.2.2.2.2.2.2.2.1,z.2.2.2.2.2.2.2.2)).bind fun((n3,l4,s5,n6,s7,n8),E)=>(Y0Y self FU E.1 E.2.1 E.2.2.1 E.2.2.2.1 E.2.2.2.2.1 E.2.2.2.2.2.1 E.2.2.2.2.2.2.1 E.2.2.2.2.2.2.2.1 E.2.2.2.2.2.2.2.2 ([(BT88.of (n3,l4,s5,n6,s7,n8))]:List BT88)).bind fun(J,K,M,N,O,U,V,Y,Z,a0)=>(Y0D (J,K,M,N,O,U,V,Y,Z) [41]).bind fun f=>some (a0,(f.1,f.2.1,f.2.2.1,f.2.2.2.1,f.2.2.2.2.1,f.2.2.2.2.2.1,f.2.2.2.2.2.2.1,f.2.2.2.2.2.2.2.1,f.2.2.2.2.2.2.2.2))
def Y2i (self:Z00->Option Z0I)(U:Z00):Option Z0I :=
 (chk (U.2.2.2.2.2.2.2.2+1)).bind fun n1=>((if (8:Int)<n1 then some (U.1,U.2.1,U.2.2.1,U.2.2.2.1,U.2.2.2.2.1,true,U.2.2.2.2.2.2.1,U.2.2.2.2.2.2.2.1,n1) else some (U.1,U.2.1,U.2.2.1,U.2.2.2.1,U.2.2.2.2.1,U.2.2.2.2.2.1,U.2.2.2.2.2.2.1,U.2.2.2.2.2.2.2.1,n1))).bind fun(s5,n6,n7,n8,s9,aa,ab,ac,ad)=>(Y09 (s5,n6,n7,n8,s9,aa,ab,ac,ad) 2 [116,114,117,101]).bind fun(ae,f)=>(if ae=true then(chk (f.2.2.2.2.2.2.2.2-1)).bind fun ah=>some ((1,[],[],0,[],0),(f.1,f.2.1,f.2.2.1,f.2.2.2.1,f.2.2.2.2.1,f.2.2.2.2.2.1,f.2.2.2.2.2.2.1,f.2.2.2.2.2.2.2.1,ah)) else(Y09 (f.1,f.2.1,f.2.2.1,f.2.2.2.1,f.2.2.2.2.1,f.2.2.2.2.2.1,f.2.2.2.2.2.2.1,f.2.2.2.2.2.2.2.1,f.2.2.2.2.2.2.2.2) 2 [110,111,116]).bind fun(ai,u)=>(if ai=true then(self (u.1,u.2.1,u.2.2.1,u.2.2.2.1,u.2.2.2.2.1,u.2.2.2.2.2.1,u.2.2.2.2.2.2.1,u.2.2.2.2.2.2.2.1,u.2.2.2.2.2.2.2.2)).bind fun((aj,ak,al,am,an,ao),V)=>(chk (V.2.2.2.2.2.2.2.2-1)).bind fun ap=>some ((2,([(BT88.of (aj,ak,al,am,an,ao))]:List BT88),[],0,[],0),(V.1,V.2.1,V.2.2.1,V.2.2.2.1,V.2.2.2.2.1,V.2.2.2.2.2.1,V.2.2.2.2.2.2.1,V.2.2.2.2.2.2.2.1,ap)) else(Y09 (u.1,u.2.1,u.2.2.1,u.2.2.2.1,u.2.2.2.2.1,u.2.2.2.2.2.1,u.2.2.2.2.2.2.1,u.2.2.2.2.2.2.2.1,u.2.2.2.2.2.2.2.2) 2 [97,108,108]).bind fun(aq,z)=>(if aq=true then(Y2e self (z.1,z.2.1,z.2.2.1,z.2.2.2.1,z.2.2.2.2.1,z.2.2.2.2.2.1,z.2.2.2.2.2.2.1,z.2.2.2.2.2.2.2.1,z.2.2.2.2.2.2.2.2)).bind fun(ar,Y)=>(chk (Y.2.2.2.2.2.2.2.2-1)).bind fun au=>some ((3,ar,[],0,[],0),(Y.1,Y.2.1,Y.2.2.1,Y.2.2.2.1,Y.2.2.2.2.1,Y.2.2.2.2.2.1,Y.2.2.2.2.2.2.1,Y.2.2.2.2.2.2.2.1,au)) else(Y09 (z.1,z.2.1,z.2.2.1,z.2.2.2.1,z.2.2.2.2.1,z.2.2.2.2.2.1,z.2.2.2.2.2.2.1,z.2.2.2.2.2.2.2.1,z.2.2.2.2.2.2.2.2) 2 [97,110,121]).bind fun(av,E)=>(if av=true then(Y2e self (E.1,E.2.1,E.2.2.1,E.2.2.2.1,E.2.2.2.2.1,E.2.2.2.2.2.1,E.2.2.2.2.2.2.1,E.2.2.2.2.2.2.2.1,E.2.2.2.2.2.2.2.2)).bind fun(aw,Z)=>(chk (Z.2.2.2.2.2.2.2.2-1)).bind fun ax=>some ((4,aw,[],0,[],0),(Z.1,Z.2.1,Z.2.2.1,Z.2.2.2.1,Z.2.2.2.2.1,Z.2.2.2.2.2.1,Z.2.2.2.2.2.2.1,Z.2.2.2.2.2.2.2.1,ax)) else(Y09 (E.1,E.2.1,E.2.2.1,E.2.2.2.1,E.2.2.2.2.1,E.2.2.2.2.2.1,E.2.2.2.2.2.2.1,E.2.2.2.2.2.2.2.1,E.2.2.2.2.2.2.2.2) 2 [104,101,97,100,101,114]).bind fun(ay,J)=>(if ay=true then(Y0E (J.1,J.2.1,J.2.2.1,J.2.2.2.1,J.2.2.2.2.1,J.2.2.2.2.2.1,J.2.2.2.2.2.2.1,J.2.2.2.2.2.2.2.1,J.2.2.2.2.2.2.2.2) 1).bind fun(az,a0)=>(Y1v (a0.1,a0.2.1,a0.2.2.1,a0.2.2.2.1,a0.2.2.2.2.1,a0.2.2.2.2.2.1,a0.2.2.2.2.2.2.1,a0.2.2.2.2.2.2.2.1,a0.2.2.2.2.2.2.2.2) (5,[],az,0,[],0)).bind fun(a1,a6)=>(chk (a1.2.2.2.2.2.2.2.2-1)).bind fun b0=>some ((a6.1,[],a6.2.2.1,a6.2.2.2.1,a6.2.2.2.2.1,a6.2.2.2.2.2),(a1.1,a1.2.1,a1.2.2.1,a1.2.2.2.1,a1.2.2.2.2.1,a1.2.2.2.2.2.1,a1.2.2.2.2.2.2.1,a1.2.2.2.2.2.2.2.1,b0)) else(Y09 (J.1,J.2.1,J.2.2.1,J.2.2.2.1,J.2.2.2.2.1,J.2.2.2.2.2.1,J.2.2.2.2.2.2.1,J.2.2.2.2.2.2.2.1,J.2.2.2.2.2.2.2.2) 2 [102,114,111,109]).bind fun(b1,K)=>(if b1=true then(Y1v (K.1,K.2.1,K.2.2.1,K.2.2.2.1,K.2.2.2.2.1,K.2.2.2.2.2.1,K.2.2.2.2.2.2.1,K.2.2.2.2.2.2.2.1,K.2.2.2.2.2.2.2.2) (6,[],[],0,[],0)).bind fun(a2,a7)=>(chk (a2.2.2.2.2.2.2.2.2-1)).bind fun b2=>some ((a7.1,[],a7.2.2.1,a7.2.2.2.1,a7.2.2.2.2.1,a7.2.2.2.2.2),(a2.1,a2.2.1,a2.2.2.1,a2.2.2.2.1,a2.2.2.2.2.1,a2.2.2.2.2.2.1,a2.2.2.2.2.2.2.1,a2.2.2.2.2.2.2.2.1,b2)) else(Y09 (K.1,K.2.1,K.2.2.1,K.2.2.2.1,K.2.2.2.2.1,K.2.2.2.2.2.1,K.2.2.2.2.2.2.1,K.2.2.2.2.2.2.2.1,K.2.2.2.2.2.2.2.2) 2 [116,111]).bind fun(b3,M)=>(if b3=true then(Y1v (M.1,M.2.1,M.2.2.1,M.2.2.2.1,M.2.2.2.2.1,M.2.2.2.2.2.1,M.2.2.2.2.2.2.1,M.2.2.2.2.2.2.2.1,M.2.2.2.2.2.2.2.2) (7,[],[],0,[],0)).bind fun(a3,a8)=>(chk (a3.2.2.2.2.2.2.2.2-1)).bind fun b4=>some ((a8.1,[],a8.2.2.1,a8.2.2.2.1,a8.2.2.2.2.1,a8.2.2.2.2.2),(a3.1,a3.2.1,a3.2.2.1,a3.2.2.2.1,a3.2.2.2.2.1,a3.2.2.2.2.2.1,a3.2.2.2.2.2.2.1,a3.2.2.2.2.2.2.2.1,b4)) else(Y09 (M.1,M.2.1,M.2.2.1,M.2.2.2.1,M.2.2.2.2.1,M.2.2.2.2.2.1,M.2.2.2.2.2.2.1,M.2.2.2.2.2.2.2.1,M.2.2.2.2.2.2.2.2) 2 [115,105,122,101]).bind fun(b5,N)=>(if b5=true then(Y1p (N.1,N.2.1,N.2.2.1,N.2.2.2.1,N.2.2.2.2.1,N.2.2.2.2.2.1,N.2.2.2.2.2.2.1,N.2.2.2.2.2.2.2.1,N.2.2.2.2.2.2.2.2)).bind fun(b6,a4)=>(chk (a4.2.2.2.2.2.2.2.2-1)).bind fun b7=>some ((8,[],[],0,[],b6),(a4.1,a4.2.1,a4.2.2.1,a4.2.2.2.1,a4.2.2.2.2.1,a4.2.2.2.2.2.1,a4.2.2.2.2.2.2.1,a4.2.2.2.2.2.2.2.1,b7)) else(Y09 (N.1,N.2.1,N.2.2.1,N.2.2.2.1,N.2.2.2.2.1,N.2.2.2.2.2.1,N.2.2.2.2.2.2.1,N.2.2.2.2.2.2.2.1,N.2.2.2.2.2.2.2.2) 2 [101,120,105,115,116,115]).bind fun(b8,O)=>(if b8=true then(Y0E (O.1,O.2.1,O.2.2.1,O.2.2.2.1,O.2.2.2.2.1,O.2.2.2.2.2.1,O.2.2.2.2.2.2.1,O.2.2.2.2.2.2.2.1,O.2.2.2.2.2.2.2.2) 1).bind fun(b9,a5)=>(chk (a5.2.2.2.2.2.2.2.2-1)).bind fun ba=>some ((9,[],b9,0,[],0),(a5.1,a5.2.1,a5.2.2.1,a5.2.2.2.1,a5.2.2.2.2.1,a5.2.2.2.2.2.1,a5.2.2.2.2.2.2.1,a5.2.2.2.2.2.2.2.1,ba)) else(chk (O.2.2.2.2.2.2.2.2-1)).bind fun bb=>some ((0,[],[],0,[],0),(O.1,O.2.1,O.2.2.1,O.2.2.2.1,O.2.2.2.2.1,true,O.2.2.2.2.2.2.1,O.2.2.2.2.2.2.2.1,bb)))))))))))
def Y13 : Nat->Z00->Option Z0I
 | 0,_=>none
 | m+1,f=>Y2i (Y13 m) f
def Y3P (f:Z00):Option Z0I:=Y13 FU f
def Y4n  : Option (List Ls) :=
 (chkA 7 (List.replicate 7 []:List Ls)).bind fun u=>(chkA 7 ([[107,101,101,112],[102,105,108,101],[100,105,115,99,97,114,100],[114,101,100,105,114,101,99,116],[114,101,106,101,99,116],[102,108,97,103],[114,101,112,108,121]]:List Ls)).bind fun l2=>(chkA 7 ([[107,101,101,112],[102,105,108,101],[100,105,115,99,97,114,100],[114,101,100,105,114,101,99,116],[114,101,106,101,99,116],[102,108,97,103],[114,101,112,108,121]]:List Ls)).bind fun f=>some f
def Y3q (f:Int):Option Bool :=
 ((if f=(2:Int) then some true else(if f=(4:Int) then some true else(if f=(5:Int) then some true else some (decide (f=(7:Int))))))).bind fun u=>some u
abbrev _root_.Z0c : Type:=Ls × Int × Int × Int × Ls × Bool × Int × Int × Int × Int × Int × List BT88 × Ls × Int × Ls × Int × List BT90 × List BT90 × Int × Ls × Ls × Int × Int × Int × List BT88 × Ls × Int × Ls × Int × List BT90 × List BT90 × Int × Ls × Ls × Int
abbrev _root_.Z0N : Type:=Z05 × Z00
def Y0p (n1:List Ls):Nat->Ls->Int->Int->Int->Ls->Bool->Int->Int->Int->Int->Int->List BT88->Ls->Int->Ls->Int->List BT90->List BT90->Int->Ls->Ls->Int->Int->Int->List BT88->Ls->Int->Ls->Int->List BT90->List BT90->Int->Ls->Ls->Int->Int->Option (Z0c ⊕ Z0N)
 | 0,_,_,_,_,_,_,_,_,_,_,_,_,_,_,_,_,_,_,_,_,_,_,_,_,_,_,_,_,_,_,_,_,_,_,_,_=>none
 | aw+1,a5,a6,a7,a8,a9,aa,ab,ac,ad,ae,ah,ai,aj,ak,al,am,an,ao,ap,aq,ar,au,M,N,O,U,V,Y,Z,a0,a1,av,a2,a3,a4,K=>(if K<(7:Int) then(idxA 7 n1 K).bind fun ax=>(Y09 (a5,a6,a7,a8,a9,aa,ab,ac,ad) 2 ax).bind fun(ay,f)=>(if ay=true then(chk (K+1)).bind fun J=>((if J=(6:Int) then(Y1p (f.1,f.2.1,f.2.2.1,f.2.2.2.1,f.2.2.2.2.1,f.2.2.2.2.2.1,f.2.2.2.2.2.2.1,f.2.2.2.2.2.2.2.1,f.2.2.2.2.2.2.2.2)).bind fun(az,u)=>some (u.1,u.2.1,u.2.2.1,u.2.2.2.1,u.2.2.2.2.1,u.2.2.2.2.2.1,u.2.2.2.2.2.2.1,u.2.2.2.2.2.2.2.1,u.2.2.2.2.2.2.2.2,M,N,O,U,V,Y,Z,a0,a1,J,a2,a3,az) else(Y3q J).bind fun b0=>(if b0=true then(Y0E (f.1,f.2.1,f.2.2.1,f.2.2.2.1,f.2.2.2.2.1,f.2.2.2.2.2.1,f.2.2.2.2.2.2.1,f.2.2.2.2.2.2.2.1,f.2.2.2.2.2.2.2.2) 1).bind fun(b1,z)=>some (z.1,z.2.1,z.2.2.1,z.2.2.2.1,z.2.2.2.2.1,z.2.2.2.2.2.1,z.2.2.2.2.2.2.1,z.2.2.2.2.2.2.2.1,z.2.2.2.2.2.2.2.2,M,N,O,U,V,Y,Z,a0,a1,J,a2,b1,a4) else some (f.1,f.2.1,f.2.2.1,f.2.2.2.1,f.2.2.2.2.1,f.2.2.2.2.2.1,f.2.2.2.2.2.2.1,f.2.2.2.2.2.2.2.1,f.2.2.2.2.2.2.2.2,M,N,O,U,V,Y,Z,a0,a1,J,a2,a3,a4)))).bind fun(b2,b3,b4,b5,b6,b7,b8,b9,ba,bb,bc,bd,be,bf,bg,bh,bi,bj,bm,bn,bo,bp)=>(Y0D (b2,b3,b4,b5,b6,b7,b8,b9,ba) [59]).bind fun E=>some (.inr ((bb,bc,bd,be,bf,bg,bh,bi,bj,bm,bn,bo,bp),(E.1,E.2.1,E.2.2.1,E.2.2.2.1,E.2.2.2.2.1,E.2.2.2.2.2.1,E.2.2.2.2.2.2.1,E.2.2.2.2.2.2.2.1,E.2.2.2.2.2.2.2.2))) else(chk (K+1)).bind fun bq=>Y0p n1 aw f.1 f.2.1 f.2.2.1 f.2.2.2.1 f.2.2.2.2.1 f.2.2.2.2.2.1 f.2.2.2.2.2.2.1 f.2.2.2.2.2.2.2.1 f.2.2.2.2.2.2.2.2 ae ah ai aj ak al am an ao ap aq ar au M N O U V Y Z a0 a1 av a2 a3 a4 bq) else some (.inl (a5,a6,a7,a8,a9,aa,ab,ac,ad,ae,ah,ai,aj,ak,al,am,an,ao,ap,aq,ar,au,M,N,O,U,V,Y,Z,a0,a1,av,a2,a3,a4)))
def Y2j (f:Z00):Option Z0N :=
 (Y4n).bind fun n1=>((Y0p n1 FU f.1 f.2.1 f.2.2.1 f.2.2.2.1 f.2.2.2.2.1 f.2.2.2.2.2.1 f.2.2.2.2.2.2.1 f.2.2.2.2.2.2.2.1 f.2.2.2.2.2.2.2.2 0 0 [] [] 0 [] 0 [] [] 0 [] [] 0 2 0 [] [] 0 [] 0 [] [] 0 [] [] 0 0:Option (Z0c ⊕ Z0N))).bind fun u=>(match u with | .inl (s5,n6,n7,n8,s9,ac,E,J,K,ad,ae,ah,ai,aj,ak,al,am,an,ao,ap,aq,ar,M,N,O,U,V,Y,Z,a0,a1,a2,a3,a4,a5)=>some ((M,N,O,U,V,Y,Z,a0,a1,a2,a3,a4,a5),(s5,n6,n7,n8,s9,true,E,J,K)) | .inr z=>some z)
abbrev _root_.Z0F : Type:=List BT90 × Z00
def Y2C (self:Z00->Option Z0F)(J:Z00):Option Z0N :=
 (chk (J.2.2.2.2.2.2.1+1)).bind fun n1=>((if (100:Int)<n1 then some true else some (decide ((8:Int)<J.2.2.2.2.2.2.2.1)))).bind fun b4=>(if b4=true then some ((0,0,[],[],0,[],0,[],[],0,[],[],0),(J.1,J.2.1,J.2.2.1,J.2.2.2.1,J.2.2.2.2.1,true,n1,J.2.2.2.2.2.2.2.1,J.2.2.2.2.2.2.2.2)) else(Y09 (J.1,J.2.1,J.2.2.1,J.2.2.2.1,J.2.2.2.2.1,J.2.2.2.2.2.1,n1,J.2.2.2.2.2.2.2.1,J.2.2.2.2.2.2.2.2) 2 [105,102]).bind fun(b8,E)=>(if b8=true then(Y3P (E.1,E.2.1,E.2.2.1,E.2.2.2.1,E.2.2.2.2.1,E.2.2.2.2.2.1,E.2.2.2.2.2.2.1,E.2.2.2.2.2.2.2.1,E.2.2.2.2.2.2.2.2)).bind fun((a0,a1,a2,a3,a4,a5),K)=>(self (K.1,K.2.1,K.2.2.1,K.2.2.2.1,K.2.2.2.2.1,K.2.2.2.2.2.1,K.2.2.2.2.2.2.1,K.2.2.2.2.2.2.2.1,K.2.2.2.2.2.2.2.2)).bind fun(a6,M)=>(Y09 (M.1,M.2.1,M.2.2.1,M.2.2.2.1,M.2.2.2.2.1,M.2.2.2.2.2.1,M.2.2.2.2.2.2.1,M.2.2.2.2.2.2.2.1,M.2.2.2.2.2.2.2.2) 2 [101,108,115,101]).bind fun(a8,f)=>(if a8=true then(self (f.1,f.2.1,f.2.2.1,f.2.2.2.1,f.2.2.2.2.1,f.2.2.2.2.2.1,f.2.2.2.2.2.2.1,f.2.2.2.2.2.2.2.1,f.2.2.2.2.2.2.2.2)).bind fun(a9,N)=>some ((1,a0,a1,a2,a3,a4,a5,a6,a9,0,[],[],0),(N.1,N.2.1,N.2.2.1,N.2.2.2.1,N.2.2.2.2.1,N.2.2.2.2.2.1,N.2.2.2.2.2.2.1,N.2.2.2.2.2.2.2.1,N.2.2.2.2.2.2.2.2)) else some ((1,a0,a1,a2,a3,a4,a5,a6,[],0,[],[],0),(f.1,f.2.1,f.2.2.1,f.2.2.2.1,f.2.2.2.2.1,f.2.2.2.2.2.1,f.2.2.2.2.2.2.1,f.2.2.2.2.2.2.2.1,f.2.2.2.2.2.2.2.2))) else(Y09 (E.1,E.2.1,E.2.2.1,E.2.2.2.1,E.2.2.2.2.1,E.2.2.2.2.2.1,E.2.2.2.2.2.2.1,E.2.2.2.2.2.2.2.1,E.2.2.2.2.2.2.2.2) 2 [115,101,116]).bind fun(aa,u)=>(if aa=true then(Y0E (u.1,u.2.1,u.2.2.1,u.2.2.2.1,u.2.2.2.2.1,u.2.2.2.2.2.1,u.2.2.2.2.2.2.1,u.2.2.2.2.2.2.2.1,u.2.2.2.2.2.2.2.2) 2).bind fun(ab,O)=>(Y0E (O.1,O.2.1,O.2.2.1,O.2.2.2.1,O.2.2.2.2.1,O.2.2.2.2.2.1,O.2.2.2.2.2.2.1,O.2.2.2.2.2.2.2.1,O.2.2.2.2.2.2.2.2) 1).bind fun(ac,U)=>(Y0D (U.1,U.2.1,U.2.2.1,U.2.2.2.1,U.2.2.2.2.1,U.2.2.2.2.2.1,U.2.2.2.2.2.2.1,U.2.2.2.2.2.2.2.1,U.2.2.2.2.2.2.2.2) [59]).bind fun V=>some ((3,0,[],[],0,[],0,[],[],0,ab,ac,0),(V.1,V.2.1,V.2.2.1,V.2.2.2.1,V.2.2.2.2.1,V.2.2.2.2.2.1,V.2.2.2.2.2.2.1,V.2.2.2.2.2.2.2.1,V.2.2.2.2.2.2.2.2)) else(Y09 (u.1,u.2.1,u.2.2.1,u.2.2.2.1,u.2.2.2.2.1,u.2.2.2.2.2.1,u.2.2.2.2.2.2.1,u.2.2.2.2.2.2.2.1,u.2.2.2.2.2.2.2.2) 2 [115,116,111,112]).bind fun(ad,z)=>(if ad=true then(Y0D (z.1,z.2.1,z.2.2.1,z.2.2.2.1,z.2.2.2.2.1,z.2.2.2.2.2.1,z.2.2.2.2.2.2.1,z.2.2.2.2.2.2.2.1,z.2.2.2.2.2.2.2.2) [59]).bind fun Y=>some ((4,0,[],[],0,[],0,[],[],0,[],[],0),(Y.1,Y.2.1,Y.2.2.1,Y.2.2.2.1,Y.2.2.2.2.1,Y.2.2.2.2.2.1,Y.2.2.2.2.2.2.1,Y.2.2.2.2.2.2.2.1,Y.2.2.2.2.2.2.2.2)) else(Y2j (z.1,z.2.1,z.2.2.1,z.2.2.2.1,z.2.2.2.2.1,z.2.2.2.2.2.1,z.2.2.2.2.2.2.1,z.2.2.2.2.2.2.2.1,z.2.2.2.2.2.2.2.2)).bind fun((ae,ah,ai,aj,ak,al,am,an,ao,ap,aq,ar,au),Z)=>some ((ae,ah,ai,aj,ak,al,am,an,ao,ap,aq,ar,au),(Z.1,Z.2.1,Z.2.2.1,Z.2.2.2.1,Z.2.2.2.2.1,Z.2.2.2.2.2.1,Z.2.2.2.2.2.2.1,Z.2.2.2.2.2.2.2.1,Z.2.2.2.2.2.2.2.2))))))
abbrev _root_.Z0q : Type:=List BT90 × Ls × Int × Int × Int × Ls × Bool × Int × Int × Int
def Y0k (self:Z00->Option Z0F):Nat->Ls->Int->Int->Int->Ls->Bool->Int->Int->Int->List BT90->Option Z0q
 | 0,_,_,_,_,_,_,_,_,_,_=>none
 | Y+1,J,K,u,M,z,E,N,O,U,V=>((if E=true then some false else(if u=(0:Int) then some false else(if u=(4:Int) then some (!decide (z=[125])) else some true)))).bind fun Z=>(if Z=true then(Y2C self (J,K,u,M,z,E,N,O,U)).bind fun((a0,a1,a2,a3,a4,a5,a6,a7,a8,a9,aa,ab,ac),f)=>(app 184 V ([(BT90.of (a0,a1,a2,a3,a4,a5,a6,a7,a8,a9,aa,ab,ac))]:List BT90)).bind fun ad=>Y0k self Y f.1 f.2.1 f.2.2.1 f.2.2.2.1 f.2.2.2.2.1 f.2.2.2.2.2.1 f.2.2.2.2.2.2.1 f.2.2.2.2.2.2.2.1 f.2.2.2.2.2.2.2.2 ad else some (V,J,K,u,M,z,E,N,O,U))
def Y1q (self:Z00->Option Z0F)(f:Z00):Option Z0F :=
 (Y0k self FU f.1 f.2.1 f.2.2.1 f.2.2.2.1 f.2.2.2.2.1 f.2.2.2.2.2.1 f.2.2.2.2.2.2.1 f.2.2.2.2.2.2.2.1 f.2.2.2.2.2.2.2.2 []).bind fun(O,U,V,u,z,E,J,K,M,N)=>some (O,(U,V,u,z,E,J,K,M,N))
def Y21 (self:Z00->Option Z0F)(f:Z00):Option Z0F :=
 (Y0D (f.1,f.2.1,f.2.2.1,f.2.2.2.1,f.2.2.2.2.1,f.2.2.2.2.2.1,f.2.2.2.2.2.2.1,f.2.2.2.2.2.2.2.1,f.2.2.2.2.2.2.2.2) [123]).bind fun u=>(chk (u.2.2.2.2.2.2.2.1+1)).bind fun K=>(Y1q self (u.1,u.2.1,u.2.2.1,u.2.2.2.1,u.2.2.2.2.1,u.2.2.2.2.2.1,u.2.2.2.2.2.2.1,K,u.2.2.2.2.2.2.2.2)).bind fun(M,z)=>(Y0D (z.1,z.2.1,z.2.2.1,z.2.2.2.1,z.2.2.2.2.1,z.2.2.2.2.2.1,z.2.2.2.2.2.2.1,z.2.2.2.2.2.2.2.1,z.2.2.2.2.2.2.2.2) [125]).bind fun E=>(chk (E.2.2.2.2.2.2.2.1-1)).bind fun J=>some (M,(E.1,E.2.1,E.2.2.1,E.2.2.2.1,E.2.2.2.2.1,E.2.2.2.2.2.1,E.2.2.2.2.2.2.1,J,E.2.2.2.2.2.2.2.2))
def Y0Z : Nat->Z00->Option Z0F
 | 0,_=>none
 | m+1,f=>Y21 (Y0Z m) f
def Y2Z (f:Z00):Option Z0F:=Y0Z FU f
def Y3r (f:Z01):Option Bool :=
 ((if f.1=(0:Int) then(if (f.2.1.length:Int)=(0:Int) then(if f.2.2.1=[] then(if f.2.2.2.1=(0:Int) then(if f.2.2.2.2.1=[] then some (decide (f.2.2.2.2.2=(0:Int))) else some false) else some false) else some false) else some false) else some false)).bind fun u=>some u
def Y1U (f:Ls)(z:(UInt8->Option Bool)):Nat->Int->Option (Unit ⊕ Bool)
 | 0,_=>none
 | J+1,u=>(if u<(f.length:Int) then(idx f u).bind fun K=>(z K).bind fun M=>(if M=true then(chk (u+1)).bind fun E=>Y1U f z J E else some (.inr false)) else some (.inl ()))
def Y2S (z:Ls)(E:(UInt8->Option Bool)):Option Bool :=
 ((Y1U z E FU 0:Option (Unit ⊕ Bool))).bind fun f=>(match f with | .inl _=>some true | .inr u=>some u)
def Y2s (f:UInt8):Option Bool :=
 ((if 97<=f.toNat then(if f.toNat<=122 then some true else(if 48<=f.toNat then some (decide (f.toNat<=57)) else some false)) else(if 48<=f.toNat then some (decide (f.toNat<=57)) else some false))).bind fun u=>some u
def Y3g (f:Ls):Option Bool :=
 ((if f=[] then some false else(if (f.length:Int)<=(60:Int) then(Y2S f Y2s).bind fun u=>(if u=true then(idx f 0).bind fun z=>some (decide (57<z.toNat)) else some false) else some false))).bind fun E=>some E
def Y3Q (f:Z05):Option Int :=
 ((Y3r (f.2.1,f.2.2.1,f.2.2.2.1,f.2.2.2.2.1,f.2.2.2.2.2.1,f.2.2.2.2.2.2.1)).bind fun N=>(if N=true then(chk ((f.2.2.2.2.2.2.2.1.length:Int)+(f.2.2.2.2.2.2.2.2.1.length:Int))).bind fun O=>(if (0:Int)<O then some true else(if f.1=(2:Int) then(if f.1=(3:Int) then(if f.1=(4:Int) then some (!decide (f.2.2.2.2.2.2.2.2.2.2.2.1=[])) else some false) else(if f.2.2.2.2.2.2.2.2.2.2.1=[] then(if f.1=(4:Int) then some (!decide (f.2.2.2.2.2.2.2.2.2.2.2.1=[])) else some false) else some true)) else(if f.2.2.2.2.2.2.2.2.2.1=(0:Int) then(if f.2.2.2.2.2.2.2.2.2.2.2.2=(0:Int) then(if f.1=(3:Int) then(if f.1=(4:Int) then some (!decide (f.2.2.2.2.2.2.2.2.2.2.2.1=[])) else some false) else(if f.2.2.2.2.2.2.2.2.2.2.1=[] then(if f.1=(4:Int) then some (!decide (f.2.2.2.2.2.2.2.2.2.2.2.1=[])) else some false) else some true)) else some true) else some true))) else some true)).bind fun U=>(if U=true then some 5 else((if f.1=(2:Int) then(if f.2.2.2.2.2.2.2.2.2.1<(1:Int) then some true else some (decide ((7:Int)<f.2.2.2.2.2.2.2.2.2.1))) else some false)).bind fun u=>(if u=true then some 4 else((if f.1=(2:Int) then(Y3q f.2.2.2.2.2.2.2.2.2.1).bind fun z=>(if z=true then(if f.2.2.2.2.2.2.2.2.2.1=(6:Int) then some false else some (!decide (f.2.2.2.2.2.2.2.2.2.2.2.2=(0:Int)))) else(if f.2.2.2.2.2.2.2.2.2.2.2.1=[] then(if f.2.2.2.2.2.2.2.2.2.1=(6:Int) then some false else some (!decide (f.2.2.2.2.2.2.2.2.2.2.2.2=(0:Int)))) else some true)) else some false)).bind fun E=>(if E=true then some 5 else((if f.1=(3:Int) then(Y3g f.2.2.2.2.2.2.2.2.2.2.1).bind fun J=>some (!J) else some false)).bind fun K=>(if K=true then some 10 else(if (200:Int)<(f.2.2.2.2.2.2.2.2.2.2.2.1.length:Int) then some 1 else((if f.2.2.2.2.2.2.2.2.2.2.2.2<(0:Int) then some true else some (decide ((63:Int)<f.2.2.2.2.2.2.2.2.2.2.2.2)))).bind fun M=>(if M=true then some 3 else some 0))))))
def Y4W (f:Int):Option (Bool × Bool × Bool) :=
 (if f=(5:Int) then some (true,true,false) else((if f=(6:Int) then some (decide (f=(6:Int))) else some (decide (f=(7:Int))))).bind fun u=>(if u=true then some (false,true,false) else(if f=(8:Int) then some (false,false,true) else(if f=(9:Int) then some (true,false,false) else some (false,false,false)))))
def Y3R (f:Z01):Option Bool :=
 (if f.1=(2:Int) then some (decide ((f.2.1.length:Int)=(1:Int))) else((if f.1=(3:Int) then some (decide (f.1=(3:Int))) else some (decide (f.1=(4:Int))))).bind fun z=>(if z=true then((if (1:Int)<=(f.2.1.length:Int) then some (decide ((f.2.1.length:Int)<=(60:Int))) else some false)).bind fun u=>some u else some (decide ((f.2.1.length:Int)=(0:Int)))))
def Y1w (self:Z01->Int->Option Int)(E:Z01)(J:Int):Nat->Int->Option (Unit ⊕ Int)
 | 0,_=>none
 | K+1,u=>(if u<(E.2.1.length:Int) then(idx E.2.1 u).bind fun f=>(chk (J+1)).bind fun M=>(self (f.out.1,f.out.2.1,f.out.2.2.1,f.out.2.2.2.1,f.out.2.2.2.2.1,f.out.2.2.2.2.2) M).bind fun z=>(if z=(0:Int) then(chk (u+1)).bind fun N=>Y1w self E J K N else some (.inr z)) else some (.inl ()))
def Y3s (self:Z01->Int->Option Int)(f:Z01)(E:Int):Option Int :=
 (Y4W f.1).bind fun(J,z,u)=>(if (8:Int)<E then some 5 else((if f.1<(1:Int) then some true else some (decide ((9:Int)<f.1)))).bind fun Z=>(if Z=true then some 4 else(Y3R (f.1,f.2.1,f.2.2.1,f.2.2.2.1,f.2.2.2.2.1,f.2.2.2.2.2)).bind fun K=>(if K=true then((if J=true then(if z=true then(if u=true then some false else some (!decide (f.2.2.2.2.2=(0:Int)))) else(if f.2.2.2.1=(0:Int) then(if f.2.2.2.2.1=[] then(if u=true then some false else some (!decide (f.2.2.2.2.2=(0:Int)))) else some true) else some true)) else(if f.2.2.1=[] then(if z=true then(if u=true then some false else some (!decide (f.2.2.2.2.2=(0:Int)))) else(if f.2.2.2.1=(0:Int) then(if f.2.2.2.2.1=[] then(if u=true then some false else some (!decide (f.2.2.2.2.2=(0:Int)))) else some true) else some true)) else some true))).bind fun M=>(if M=true then some 5 else((if J=true then(if f.2.2.1=[] then some true else some (decide ((60:Int)<(f.2.2.1.length:Int)))) else some false)).bind fun N=>(if N=true then some 10 else((if z=true then(if f.2.2.2.1<(1:Int) then some true else some (decide ((3:Int)<f.2.2.2.1))) else some false)).bind fun O=>(if O=true then some 4 else(if (200:Int)<(f.2.2.2.2.1.length:Int) then some 1 else((if f.2.2.2.2.2<(0:Int) then some true else some (decide ((1000000:Int)<f.2.2.2.2.2)))).bind fun U=>(if U=true then some 3 else((Y1w self f E FU 0:Option (Unit ⊕ Int))).bind fun V=>(match V with | .inl _=>some 0 | .inr Y=>some Y)))))) else some 5)))
def Y1C : Nat->Z01->Int->Option Int
 | 0,_,_=>none
 | m+1,f,u=>Y3s (Y1C m) f u
def Y68 (f:Z01)(u:Int):Option Int:=Y1C FU f u
def Y4t (f:Z05)(E:Int):Option Int :=
 (if (8:Int)<E then some 5 else((if f.1<(1:Int) then some true else some (decide ((4:Int)<f.1)))).bind fun J=>(if J=true then some 4 else(if f.1=(1:Int) then((if f.2.2.2.2.2.2.2.2.2.1=(0:Int) then(if f.2.2.2.2.2.2.2.2.2.2.1=[] then(if f.2.2.2.2.2.2.2.2.2.2.2.1=[] then some (!decide (f.2.2.2.2.2.2.2.2.2.2.2.2=(0:Int))) else some true) else some true) else some true)).bind fun u=>(if u=true then some 5 else(Y68 (f.2.1,f.2.2.1,f.2.2.2.1,f.2.2.2.2.1,f.2.2.2.2.2.1,f.2.2.2.2.2.2.1) 1).bind fun z=>some z) else(Y3Q (f.1,f.2.1,f.2.2.1,f.2.2.2.1,f.2.2.2.2.1,f.2.2.2.2.2.1,f.2.2.2.2.2.2.1,f.2.2.2.2.2.2.2.1,f.2.2.2.2.2.2.2.2.1,f.2.2.2.2.2.2.2.2.2.1,f.2.2.2.2.2.2.2.2.2.2.1,f.2.2.2.2.2.2.2.2.2.2.2.1,f.2.2.2.2.2.2.2.2.2.2.2.2)).bind fun K=>some K)))
def Y00 (f:Z0a):Option Bool :=
 some (!decide (f.1=(0:Int)))
def Y0f  : Option Z0a :=
 some (0,0)
abbrev _root_.Z0t : Type:=Int × Int × Int
abbrev _root_.Z0E : Type:=Z0a × Int × Unit
def Y0F (self:(List BT90)->Int->Int->Unit->Option Z0E)(O:Int)(f:BT90):Nat->Int->Int->Int->Int->Option (Z0t ⊕ Z0E)
 | 0,_,_,_,_=>none
 | U+1,z,E,J,u=>(if u<(([f.out.2.2.2.2.2.2.2.1,f.out.2.2.2.2.2.2.2.2.1]:List (List BT90)).length:Int) then(idx ([f.out.2.2.2.2.2.2.2.1,f.out.2.2.2.2.2.2.2.2.1]:List (List BT90)) u).bind fun V=>(chk (O+1)).bind fun Y=>(self V Y z ()).bind fun((K,M),N,a1)=>(Y00 (K,M)).bind fun Z=>(if Z=true then some (.inr ((K,M),N,())) else(chk (u+1)).bind fun a0=>Y0F self O f U N E J a0) else some (.inl (z,E,J)))
def Y0h (self:(List BT90)->Int->Int->Unit->Option Z0E)(E:List BT90)(J:Int):Nat->Int->Int->Int->Int->Option (Z0t ⊕ Z0E)
 | 0,_,_,_,_=>none
 | M+1,u,N,O,K=>(if K<(E.length:Int) then(idx E K).bind fun f=>(if u=(100:Int) then(Y03 2 (-1)).bind fun(U,V)=>some (.inr ((U,V),u,())) else(Y4t (f.out.1,f.out.2.1,f.out.2.2.1,f.out.2.2.2.1,f.out.2.2.2.2.1,f.out.2.2.2.2.2.1,f.out.2.2.2.2.2.2.1,f.out.2.2.2.2.2.2.2.1,f.out.2.2.2.2.2.2.2.2.1,f.out.2.2.2.2.2.2.2.2.2.1,f.out.2.2.2.2.2.2.2.2.2.2.1,f.out.2.2.2.2.2.2.2.2.2.2.2.1,f.out.2.2.2.2.2.2.2.2.2.2.2.2) J).bind fun z=>(if z=(0:Int) then(chk (u+1)).bind fun Y=>((Y0F self J f FU Y N O 0:Option (Z0t ⊕ Z0E))).bind fun Z=>(match Z with | .inl (a0,a1,a2)=>(chk (K+1)).bind fun a3=>Y0h self E J M a0 a1 a2 a3 | .inr a4=>some (.inr a4)) else(Y03 z u).bind fun(a5,a6)=>some (.inr ((a5,a6),u,())))) else some (.inl (N,O,u)))
def Y2v (self:(List BT90)->Int->Int->Unit->Option Z0E)(J:List BT90)(K:Int)(M:Int)(O:Unit):Option Z0E :=
 ((Y0h self J K FU M 0 0 0:Option (Z0t ⊕ Z0E))).bind fun f=>(match f with | .inl (U,V,N)=>(Y0f).bind fun(u,z)=>some ((u,z),N,()) | .inr E=>some E)
def Y0d : Nat->(List BT90)->Int->Int->Unit->Option Z0E
 | 0,_,_,_,_=>none
 | m+1,f,u,z,E=>Y2v (Y0d m) f u z E
def Y49 (f:List BT90)(u:Int)(z:Int)(E:Unit):Option Z0E:=Y0d FU f u z E
def Y1h (f:List BT90):Option Z0a :=
 (Y49 f 1 0 ()).bind fun((u,z),E,J)=>some (u,z)
def Y3S (E:Ls):Option (List BT90 × Z0a) :=
 (if (4000:Int)<(E.length:Int) then(Y03 1 (-1)).bind fun(n2,n3)=>some ([],(n2,n3)) else(Y0X (E,0,0,0,[],false,0,1,0)).bind fun f=>(Y1q Y2Z (f.1,f.2.1,f.2.2.1,f.2.2.2.1,f.2.2.2.2.1,f.2.2.2.2.2.1,f.2.2.2.2.2.2.1,f.2.2.2.2.2.2.2.1,f.2.2.2.2.2.2.2.2)).bind fun(J,z)=>((if z.2.2.2.2.2.1=true then some true else some (!decide (z.2.2.1=(0:Int))))).bind fun K=>(if K=true then(Y03 11 z.2.2.2.1).bind fun(M,N)=>some ([],(M,N)) else(Y1h J).bind fun(u,O)=>(Y00 (u,O)).bind fun U=>(if U=true then(Y03 u (-2)).bind fun(V,Y)=>some ([],(V,Y)) else(Y0f).bind fun(Z,a0)=>some (J,(Z,a0)))))
def Y1x (self:(List BT90)->Option Int)(f:List BT90):Nat->Int->Int->Option Int
 | 0,_,_=>none
 | U+1,z,u=>(if u<(f.length:Int) then(idx f u).bind fun E=>(self E.out.2.2.2.2.2.2.2.1).bind fun V=>(chk ((1:Int)+V)).bind fun J=>(self E.out.2.2.2.2.2.2.2.2.1).bind fun K=>(chk (J+K)).bind fun M=>(chk (z+M)).bind fun N=>(chk (u+1)).bind fun O=>Y1x self f U N O else some z)
def Y3X (self:(List BT90)->Option Int)(f:List BT90):Option Int :=
 (Y1x self f FU 0 0).bind fun u=>some u
def Y2b : Nat->(List BT90)->Option Int
 | 0,_=>none
 | m+1,f=>Y3X (Y2b m) f
def Y0L (f:List BT90):Option Int:=Y2b FU f
def Y0q (u:List Ls)(z:Ls):Nat->Int->Option (Unit ⊕ Int)
 | 0,_=>none
 | E+1,f=>(if f<(u.length:Int) then(idx u f).bind fun J=>(if z=J then some (.inr f) else(chk (f+1)).bind fun K=>Y0q u z E K) else some (.inl ()))
def Y1M (z:List Ls)(E:Ls):Option Int :=
 ((Y0q z E FU 0:Option (Unit ⊕ Int))).bind fun f=>(match f with | .inl _=>some (-1) | .inr u=>some u)
def Y0l (f:List Ls)(u:Ls):Option Bool :=
 (Y1M f u).bind fun z=>some (decide ((0:Int)<=z))
abbrev _root_.Z0m : Type:=List Ls × Unit × Unit × Unit × Int
def Y3t (f:Z0m)(u:Ls):Option Z0m :=
 (Y0l f.1 u).bind fun z=>(if z=true then some (f.1,(),(),(),f.2.2.2.2) else(app 16 f.1 ([u]:List Ls)).bind fun E=>some (E,(),(),(),f.2.2.2.2))
abbrev _root_.Z0l : Type:=Unit × List Ls × Unit × Unit × Int
def Y3Y (f:Z0l)(u:Ls):Option Z0l :=
 (Y0l f.2.1 u).bind fun z=>(if z=true then some ((),f.2.1,(),(),f.2.2.2.2) else(app 16 f.2.1 ([u]:List Ls)).bind fun E=>some ((),E,(),(),f.2.2.2.2))
abbrev _root_.Z0k : Type:=Unit × Unit × List Ls × Unit × Int
def Y3Z (f:Z0k)(u:Ls):Option Z0k :=
 (Y0l f.2.2.1 u).bind fun z=>(if z=true then some ((),(),f.2.2.1,(),f.2.2.2.2) else(app 16 f.2.2.1 ([u]:List Ls)).bind fun E=>some ((),(),E,(),f.2.2.2.2))
abbrev _root_.Z0j : Type:=Unit × Unit × Unit × List Ls × Int
def Y40 (f:Z0j)(u:Ls):Option Z0j :=
 (Y0l f.2.2.2.1 u).bind fun z=>(if z=true then some ((),(),(),f.2.2.2.1,f.2.2.2.2) else(app 16 f.2.2.2.1 ([u]:List Ls)).bind fun E=>some ((),(),(),E,f.2.2.2.2))
abbrev _root_.Z02 : Type:=Int × Ls × Int
abbrev _root_.Z0e : Type:=List Ls × List Ls × List Ls × List Ls × Int
abbrev _root_.Z0s : Type:=List Ls × List Ls × List Ls × List Ls × Int × Int × Int
def Y1a (U:List Z02):Nat->List Ls->List Ls->List Ls->List Ls->Int->Int->Int->Int->Option (Z0s ⊕ (Z0e × Z0a))
 | 0,_,_,_,_,_,_,_,_=>none
 | V+1,z,E,J,K,M,N,O,f=>(if f<(U.length:Int) then(idx U f).bind fun u=>(if (4000:Int)<(u.2.1.length:Int) then(Y03 1 f).bind fun(Y,Z)=>some (.inr (([],[],[],[],0),(Y,Z))) else((if u.1<(1:Int) then some true else some (decide ((7:Int)<u.1)))).bind fun a0=>(if a0=true then(Y03 4 f).bind fun(a1,a2)=>some (.inr (([],[],[],[],0),(a1,a2))) else((if u.1=(6:Int) then(if u.2.2<(0:Int) then some true else some (decide ((63:Int)<u.2.2))) else some false)).bind fun a3=>(if a3=true then(Y03 3 f).bind fun(a4,a5)=>some (.inr (([],[],[],[],0),(a4,a5))) else(chk (f+1)).bind fun a6=>Y1a U V z E J K M N O a6))) else some (.inl (z,E,J,K,M,N,O)))
def Y0n (O:List Z02):Nat->List Ls->List Ls->List Ls->List Ls->Int->Int->Option Z0e
 | 0,_,_,_,_,_,_=>none
 | N+1,z,E,J,K,M,u=>(if u<(O.length:Int) then(idx O u).bind fun f=>(if f.1=(1:Int) then(Y3t (z,(),(),(),M) [105,110,98,111,120]).bind fun U=>(chk (u+1)).bind fun a1=>Y0n O N U.1 E J K U.2.2.2.2 a1 else(if f.1=(2:Int) then(Y3t (z,(),(),(),M) f.2.1).bind fun V=>(chk (u+1)).bind fun a2=>Y0n O N V.1 E J K V.2.2.2.2 a2 else(if f.1=(4:Int) then(Y3Y ((),E,(),(),M) f.2.1).bind fun Y=>(chk (u+1)).bind fun a3=>Y0n O N z Y.2.1 J K Y.2.2.2.2 a3 else(if f.1=(5:Int) then(Y3Z ((),(),J,(),M) f.2.1).bind fun Z=>(chk (u+1)).bind fun a4=>Y0n O N z E Z.2.2.1 K Z.2.2.2.2 a4 else(if f.1=(7:Int) then(Y40 ((),(),(),K,M) f.2.1).bind fun a0=>(chk (u+1)).bind fun a5=>Y0n O N z E J a0.2.2.2.1 a0.2.2.2.2 a5 else(if f.1=(6:Int) then(orI M f.2.2).bind fun a6=>(chk (u+1)).bind fun a7=>Y0n O N z E J K a6 a7 else(chk (u+1)).bind fun a8=>Y0n O N z E J K M a8)))))) else some (z,E,J,K,M))
def Y3A (f:List Z02):Option (Z0e × Z0a) :=
 (if (300:Int)<(f.length:Int) then(Y03 2 (-1)).bind fun(V,Y)=>some (([],[],[],[],0),(V,Y)) else((Y1a f FU [] [] [] [] 0 0 0 0:Option (Z0s ⊕ (Z0e × Z0a)))).bind fun u=>(match u with | .inl (l7,Z,a0,a1,a2,a3,a4)=>(Y0n f FU [] [] [] [] 0 0).bind fun(K,M,N,O,U)=>(Y0f).bind fun(z,E)=>some ((K,M,N,O,U),(z,E)) | .inr J=>some J))
def Y0a (u:List Z02)(J:List Z02):Nat->Int->Option (Unit ⊕ Bool)
 | 0,_=>none
 | M+1,f=>(if f<(u.length:Int) then(idx u f).bind fun z=>(idx J f).bind fun E=>(if z.1=E.1/\z.2.1=E.2.1/\z.2.2=E.2.2 then(chk (f+1)).bind fun K=>Y0a u J M K else some (.inr false)) else some (.inl ()))
def Y1i (f:List Z02)(u:List Z02):Option Bool :=
 (if (f.length:Int)=(u.length:Int) then((Y0a f u FU 0:Option (Unit ⊕ Bool))).bind fun z=>(match z with | .inl _=>some true | .inr E=>some E) else some false)
def Y4N (f:Z01):Option Bool :=
 some (decide ((4:Int)<f.1))
def Y4u (f:Z01)(u:Z01):Option Bool :=
 ((if f.1=u.1 then(if f.2.2.1=u.2.2.1 then(if f.2.2.2.1=u.2.2.2.1 then(if f.2.2.2.2.1=u.2.2.2.2.1 then some (decide (f.2.2.2.2.2=u.2.2.2.2.2)) else some false) else some false) else some false) else some false)).bind fun z=>some z
def Y3u (f:Z01)(u:Z01):Option Bool :=
 (Y4u (f.1,f.2.1,f.2.2.1,f.2.2.2.1,f.2.2.2.2.1,f.2.2.2.2.2) (u.1,u.2.1,u.2.2.1,u.2.2.2.1,u.2.2.2.2.1,u.2.2.2.2.2)).bind fun z=>some z
def Y06 (z:List BT88)(p1c0:Z01):Nat->Int->Option (Unit ⊕ Int)
 | 0,_=>none
 | J+1,u=>(if u<(z.length:Int) then(idx z u).bind fun f=>(Y3u (f.out.1,f.out.2.1,f.out.2.2.1,f.out.2.2.2.1,f.out.2.2.2.2.1,f.out.2.2.2.2.2) (p1c0.1,p1c0.2.1,p1c0.2.2.1,p1c0.2.2.2.1,p1c0.2.2.2.2.1,p1c0.2.2.2.2.2)).bind fun K=>(if K=true then some (.inr u) else(chk (u+1)).bind fun E=>Y06 z p1c0 J E) else some (.inl ()))
def Y25 (z:List BT88)(p1c0:Z01):Option Int :=
 ((Y06 z p1c0 FU 0:Option (Unit ⊕ Int))).bind fun f=>(match f with | .inl _=>some (-1) | .inr u=>some u)
def Y3v (u:List BT88)(f:Z01):Option Int :=
 (Y25 u (f.1,f.2.1,f.2.2.1,f.2.2.2.1,f.2.2.2.2.1,f.2.2.2.2.2)).bind fun z=>some z
def Y0Q (self:(List BT88)->Z01->Option (List BT88))(E:Z01):Nat->List BT88->Int->Option (List BT88)
 | 0,_,_=>none
 | J+1,z,u=>(if u<(E.2.1.length:Int) then(idx E.2.1 u).bind fun f=>(self z (f.out.1,f.out.2.1,f.out.2.2.1,f.out.2.2.2.1,f.out.2.2.2.2.1,f.out.2.2.2.2.2)).bind fun K=>(chk (u+1)).bind fun M=>Y0Q self E J K M else some z)
def Y3B (self:(List BT88)->Z01->Option (List BT88))(u:List BT88)(f:Z01):Option (List BT88) :=
 ((Y4N (f.1,f.2.1,f.2.2.1,f.2.2.2.1,f.2.2.2.2.1,f.2.2.2.2.2)).bind fun K=>(if K=true then(Y3v u (f.1,f.2.1,f.2.2.1,f.2.2.2.1,f.2.2.2.2.1,f.2.2.2.2.2)).bind fun M=>some (decide (M<(0:Int))) else some false)).bind fun N=>((if N=true then(app 80 u ([(BT88.of (f.1,f.2.1,f.2.2.1,f.2.2.2.1,f.2.2.2.2.1,f.2.2.2.2.2))]:List BT88)).bind fun z=>some z else some u)).bind fun E=>(Y0Q self f FU E 0).bind fun J=>some J
def Y14 : Nat->(List BT88)->Z01->Option (List BT88)
 | 0,_,_=>none
 | m+1,f,u=>Y3B (Y14 m) f u
def Y4o (f:List BT88)(u:Z01):Option (List BT88):=Y14 FU f u
def Y1j (self:(List BT88)->(List BT90)->Option (List BT88))(z:List BT90):Nat->List BT88->Int->Option (List BT88)
 | 0,_,_=>none
 | J+1,E,u=>(if u<(z.length:Int) then(idx z u).bind fun f=>((if f.out.1=(1:Int) then(Y4o E (f.out.2.1,f.out.2.2.1,f.out.2.2.2.1,f.out.2.2.2.2.1,f.out.2.2.2.2.2.1,f.out.2.2.2.2.2.2.1)).bind fun K=>some K else some E)).bind fun M=>(self M f.out.2.2.2.2.2.2.2.1).bind fun N=>(self N f.out.2.2.2.2.2.2.2.2.1).bind fun O=>(chk (u+1)).bind fun U=>Y1j self z J O U else some E)
def Y3C (self:(List BT88)->(List BT90)->Option (List BT88))(f:List BT88)(u:List BT90):Option (List BT88) :=
 (Y1j self u FU f 0).bind fun z=>some z
def Y1R : Nat->(List BT88)->(List BT90)->Option (List BT88)
 | 0,_,_=>none
 | m+1,f,u=>Y3C (Y1R m) f u
def Y5P (f:List BT88)(u:List BT90):Option (List BT88):=Y1R FU f u
abbrev _root_.Z04 : Type:=List BT88 × Int × Unit × Unit
def Y2K (self:Z04->Z01->Option Bool)(f:Z01)(u:Z04):Option Bool :=
 (self (u.1,u.2.1,(),()) (f.1,f.2.1,f.2.2.1,f.2.2.2.1,f.2.2.2.2.1,f.2.2.2.2.2)).bind fun z=>some (!z)
def Y0s (self:Z04->Z01->Option Bool)(z:List BT88)(p1c0:Z04):Nat->Int->Option (Unit ⊕ Int)
 | 0,_=>none
 | J+1,u=>(if u<(z.length:Int) then(idx z u).bind fun f=>(Y2K self (f.out.1,f.out.2.1,f.out.2.2.1,f.out.2.2.2.1,f.out.2.2.2.2.1,f.out.2.2.2.2.2) (p1c0.1,p1c0.2.1,(),())).bind fun K=>(if K=true then some (.inr u) else(chk (u+1)).bind fun E=>Y0s self z p1c0 J E) else some (.inl ()))
def Y26 (self:Z04->Z01->Option Bool)(z:List BT88)(p1c0:Z04):Option Int :=
 ((Y0s self z p1c0 FU 0:Option (Unit ⊕ Int))).bind fun f=>(match f with | .inl _=>some (-1) | .inr u=>some u)
def Y1F (self:Z04->Z01->Option Bool)(f:List BT88)(p1c0:Z04):Option Bool :=
 (Y26 self f (p1c0.1,p1c0.2.1,(),())).bind fun u=>some (decide ((0:Int)<=u))
def Y0t (self:Z04->Z01->Option Bool)(z:List BT88)(p1c0:Z04):Nat->Int->Option (Unit ⊕ Int)
 | 0,_=>none
 | J+1,u=>(if u<(z.length:Int) then(idx z u).bind fun f=>(self (p1c0.1,p1c0.2.1,(),()) (f.out.1,f.out.2.1,f.out.2.2.1,f.out.2.2.2.1,f.out.2.2.2.2.1,f.out.2.2.2.2.2)).bind fun K=>(if K=true then some (.inr u) else(chk (u+1)).bind fun E=>Y0t self z p1c0 J E) else some (.inl ()))
def Y27 (self:Z04->Z01->Option Bool)(z:List BT88)(p1c0:Z04):Option Int :=
 ((Y0t self z p1c0 FU 0:Option (Unit ⊕ Int))).bind fun f=>(match f with | .inl _=>some (-1) | .inr u=>some u)
def Y1G (self:Z04->Z01->Option Bool)(f:List BT88)(p1c0:Z04):Option Bool :=
 (Y27 self f (p1c0.1,p1c0.2.1,(),())).bind fun u=>some (decide ((0:Int)<=u))
def Y2L (self:Z04->Z01->Option Bool)(u:Z04)(f:Z01):Option Bool :=
 (if f.1=(1:Int) then some true else(if f.1=(2:Int) then(idx f.2.1 0).bind fun z=>(self (u.1,u.2.1,(),()) (z.out.1,z.out.2.1,z.out.2.2.1,z.out.2.2.2.1,z.out.2.2.2.2.1,z.out.2.2.2.2.2)).bind fun N=>some (!N) else(if f.1=(3:Int) then(Y1F self f.2.1 (u.1,u.2.1,(),())).bind fun O=>some (!O) else(if f.1=(4:Int) then(Y1G self f.2.1 (u.1,u.2.1,(),())).bind fun E=>some E else(Y3v u.1 (f.1,f.2.1,f.2.2.1,f.2.2.2.1,f.2.2.2.2.1,f.2.2.2.2.2)).bind fun J=>(shrI u.2.1 J).bind fun K=>(andI K 1).bind fun M=>some (decide (M=(1:Int)))))))
def Y0G : Nat->Z04->Z01->Option Bool
 | 0,_,_=>none
 | m+1,f,u=>Y2L (Y0G m) f u
def Y3T (f:Z04)(u:Z01):Option Bool:=Y0G FU f u
abbrev _root_.Z0B : Type:=Unit × Int × List Bool × List Z02
abbrev _root_.Z0C : Type:=List BT88 × Int × List Bool × List Z02
abbrev _root_.Z0M : Type:=Int × List Bool × List Z02
abbrev _root_.Z0T : Type:=Bool × Z0B
def Y0g (self:Z0C->(List BT90)->Int->Option Z0T)(N:Z0C)(O:List BT90):Nat->Int->List Bool->List Z02->Int->Int->Option (Z0M ⊕ Z0T)
 | 0,_,_,_,_,_=>none
 | V+1,K,U,z,E,M=>(if M<(O.length:Int) then(idx O M).bind fun f=>(idx U E).bind fun ak=>(put U E true).bind fun J=>(((if f.out.1=(1:Int) then(chk (E+1)).bind fun Y=>(Y3T (N.1,K,(),()) (f.out.2.1,f.out.2.2.1,f.out.2.2.2.1,f.out.2.2.2.2.1,f.out.2.2.2.2.2.1,f.out.2.2.2.2.2.2.1)).bind fun Z=>((if Z=true then some (f.out.2.2.2.2.2.2.2.1,Y) else(chk (E+1)).bind fun a0=>(Y0L f.out.2.2.2.2.2.2.2.1).bind fun a1=>(chk (a0+a1)).bind fun a2=>some (f.out.2.2.2.2.2.2.2.2.1,a2))).bind fun(a3,a4)=>(self (N.1,K,J,z) a3 a4).bind fun(a5,u)=>(if a5=true then some (.inl (u.2.1,u.2.2.1,u.2.2.2)) else some (.inr (false,((),u.2.1,u.2.2.1,u.2.2.2)))) else(if f.out.1=(2:Int) then(app 32 z ([(f.out.2.2.2.2.2.2.2.2.2.1,[],0)]:List Z02)).bind fun a6=>some (.inl (K,J,a6)) else(if f.out.1=(4:Int) then some (.inr (false,((),K,J,z))) else some (.inl (K,J,z))))):Option (Z0M ⊕ Z0T))).bind fun a7=>(match a7 with | .inl (a8,a9,aa)=>(Y0L f.out.2.2.2.2.2.2.2.1).bind fun ab=>(chk ((1:Int)+ab)).bind fun ac=>(Y0L f.out.2.2.2.2.2.2.2.2.1).bind fun ad=>(chk (ac+ad)).bind fun ae=>(chk (E+ae)).bind fun ah=>(chk (M+1)).bind fun ai=>Y0g self N O V a8 a9 aa ah ai | .inr aj=>some (.inr aj)) else some (.inl (K,U,z)))
def Y1V (self:Z0C->(List BT90)->Int->Option Z0T)(f:Z0C)(E:List BT90)(J:Int):Option Z0T :=
 ((Y0g self f E FU f.2.1 f.2.2.1 f.2.2.2 J 0:Option (Z0M ⊕ Z0T))).bind fun u=>(match u with | .inl (K,M,N)=>some (true,((),K,M,N)) | .inr z=>some z)
def Y0x : Nat->Z0C->(List BT90)->Int->Option Z0T
 | 0,_,_,_=>none
 | m+1,f,u,z=>Y1V (Y0x m) f u z
def Y3k (f:Z0C)(u:List BT90)(z:Int):Option Z0T:=Y0x FU f u z
def Y0e (u:List Z02)(E:(Z02->Option Bool)):Nat->Int->Option (Unit ⊕ Int)
 | 0,_=>none
 | K+1,f=>(if f<(u.length:Int) then(idx u f).bind fun z=>(E (z.1,z.2.1,z.2.2)).bind fun M=>(if M=true then some (.inr f) else(chk (f+1)).bind fun J=>Y0e u E K J) else some (.inl ()))
def Y28 (z:List Z02)(E:(Z02->Option Bool)):Option Int :=
 ((Y0e z E FU 0:Option (Unit ⊕ Int))).bind fun f=>(match f with | .inl _=>some (-1) | .inr u=>some u)
def Y1c (f:List Z02)(u:(Z02->Option Bool)):Option Bool :=
 (Y28 f u).bind fun z=>some (decide ((0:Int)<=z))
def Y1k (f:Z02):Option Bool :=
 ((if f.1=(1:Int) then some true else some (decide (f.1=(2:Int))))).bind fun u=>some u
def Y15 (f:List Z02):Nat->Int->Option (Unit ⊕ Bool)
 | 0,_=>none
 | J+1,u=>(if u<(f.length:Int) then(idx f u).bind fun z=>((if z.1=(6:Int) then some false else some (!decide (z.1=(7:Int))))).bind fun K=>(if K=true then some (.inr true) else(chk (u+1)).bind fun E=>Y15 f J E) else some (.inl ()))
def Y1Y (z:List Z02):Option Bool :=
 ((Y15 z FU 0:Option (Unit ⊕ Bool))).bind fun f=>(match f with | .inl _=>some false | .inr u=>some u)
def Y3D (f:List Z02)(u:Bool):Option Bool :=
 (Y1c f Y1k).bind fun z=>((if u=true then(if z=true then some true else(Y1Y f).bind fun E=>some (!E)) else some false)).bind fun J=>some J
abbrev _root_.Z0r : Type:=List Bool × Bool
def Y2c (K:List BT90)(M:List BT88)(u:Int):Nat->Bool->List Bool->Int->Option Z0r
 | 0,_,_,_=>none
 | N+1,z,E,f=>(if f<u then(Y3k (M,f,E,([]:List Z02)) K 0).bind fun(V,J)=>(Y3D J.2.2.2 z).bind fun O=>(chk (f+1)).bind fun U=>Y2c K M u N O J.2.2.1 U else some (E,z))
def Y5Y (f:List BT90)(p1c:Bool):Option (List Bool × Z0a × Bool) :=
 (Y1h f).bind fun(E,J)=>(Y00 (E,J)).bind fun b4=>(if b4=true then some ([],(E,J),p1c) else(Y5P ([]:List BT88) f).bind fun z=>(if (10:Int)<(z.length:Int) then(Y03 17 (-4)).bind fun(K,M)=>some ([],(K,M),p1c) else(Y0L f).bind fun u=>(mkS 1 u u (false:Bool)).bind fun N=>(shlI 1 (z.length:Int)).bind fun O=>(Y2c f z O FU p1c N 0).bind fun(U,V)=>(Y0f).bind fun(Y,Z)=>some (U,(Y,Z),V)))
def Y4y (J:List BT90):Option (Bool × Z0a) :=
 (Y5Y J true).bind fun(O,(f,u),K)=>((if K=true then(Y00 (f,u)).bind fun z=>some (!z,f,u) else some (false,f,u))).bind fun(M,N,E)=>some (M,(N,E))
def Y2k (u:Ls)(f:Ls):Option Int :=
 ((if (f.length:Int)=(0:Int) then some true else some (decide (f=u)))).bind fun z=>(if z=true then some 0 else(if (f.length:Int)=(1:Int) then(idx f 0).bind fun E=>(Y1T u E).bind fun J=>some J else none))
abbrev _root_.Z0i : Type:=Ls × Ls × Bool
def Y38 (f:Ls)(z:Ls):Option Z0i :=
 (Y2k f z).bind fun u=>(if (0:Int)<=u then(cut f 0 u).bind fun E=>(chk (u+(z.length:Int))).bind fun J=>(cut f J (f.length:Int)).bind fun K=>some (E,K,true) else some (f,[],false))
def Y3E (f:Ls)(u:Ls):Option Z0i :=
 (Y38 f u).bind fun(z,E,J)=>some (z,E,J)
def Y3w (f:UInt8):Option Bool :=
 ((if 97<=f.toNat then(if f.toNat<=122 then some true else(if 65<=f.toNat then(if f.toNat<=90 then some true else(if 48<=f.toNat then some (decide (f.toNat<=57)) else some false)) else(if 48<=f.toNat then some (decide (f.toNat<=57)) else some false))) else(if 65<=f.toNat then(if f.toNat<=90 then some true else(if 48<=f.toNat then some (decide (f.toNat<=57)) else some false)) else(if 48<=f.toNat then some (decide (f.toNat<=57)) else some false)))).bind fun u=>some u
def Y2T (f:UInt8):Option Bool :=
 ((Y3w f).bind fun u=>(if u=true then some true else(Y0K [45,95,46,43,61] f).bind fun z=>some (decide ((0:Int)<=z)))).bind fun E=>some E
def Y2D (f:UInt8):Option Bool :=
 ((if 97<=f.toNat then(if f.toNat<=122 then some true else(if 48<=f.toNat then(if f.toNat<=57 then some true else(if f=45 then some true else some (decide (f=46)))) else(if f=45 then some true else some (decide (f=46))))) else(if 48<=f.toNat then(if f.toNat<=57 then some true else(if f=45 then some true else some (decide (f=46)))) else(if f=45 then some true else some (decide (f=46)))))).bind fun u=>some u
def Y1s (u:Ls)(f:Ls):Option Bool :=
 ((if (f.length:Int)<=(u.length:Int) then(cut u 0 (f.length:Int)).bind fun z=>some (decide (z=f)) else some false)).bind fun E=>some E
def Y1N (f:Ls)(u:Ls):Option Bool :=
 (Y1s f u).bind fun z=>some z
def Y16 (f:Ls)(u:Ls):Option Bool :=
 ((if (u.length:Int)<=(f.length:Int) then(chk ((f.length:Int)-(u.length:Int))).bind fun z=>(cut f z (f.length:Int)).bind fun E=>some (decide (E=u)) else some false)).bind fun J=>some J
def Y1O (f:Ls)(u:Ls):Option Bool :=
 (Y16 f u).bind fun z=>some z
def Y32 (f:Ls):Option Bool :=
 ((if f=[] then some false else(if (f.length:Int)<=(60:Int) then(Y2S f Y2D).bind fun E=>(if E=true then(Y1N f [46]).bind fun J=>(if J=true then some false else(Y1O f [46]).bind fun u=>(if u=true then some false else(Y0P f [46,46]).bind fun z=>some (!z))) else some false) else some false))).bind fun K=>some K
def Y3V (J:Ls):Option Z0i :=
 (Y3E J [64]).bind fun(f,u,K)=>((if K=true then(if f=[] then some (f,u,false) else(if (f.length:Int)<=(60:Int) then(Y2S f Y2T).bind fun z=>(if z=true then(Y32 u).bind fun E=>some (f,u,E) else some (f,u,false)) else some (f,u,false))) else some (f,u,false))).bind fun(M,N,O)=>some (M,N,O)
def Y2t (f:Ls):Option Bool :=
 (Y3V f).bind fun(z,E,u)=>some u
def Y41 (f:UInt8):Option Bool :=
 ((Y3w f).bind fun u=>(if u=true then some true else(if f=45 then some true else(if f=95 then some true else some (decide (f=46)))))).bind fun z=>some z
def Y4v (f:Ls):Option Bool :=
 ((if f=[] then some false else(if (f.length:Int)<=(60:Int) then(Y2S f Y41).bind fun u=>some u else some false))).bind fun z=>some z
def Y33 (f:Int):Option Bool :=
 ((if (0:Int)<=f then some (decide (f<=(7:Int))) else some false)).bind fun u=>some u
abbrev _root_.Z0b : Type:=Ls × Int
def Y07 (u:List Z0b)(z:(Z0b->Option Bool)):Nat->Int->Option (Unit ⊕ Int)
 | 0,_=>none
 | K+1,f=>(if f<(u.length:Int) then(idx u f).bind fun E=>(z (E.1,E.2)).bind fun M=>(if M=true then some (.inr f) else(chk (f+1)).bind fun J=>Y07 u z K J) else some (.inl ()))
def Y1H (z:List Z0b)(E:(Z0b->Option Bool)):Option Int :=
 ((Y07 z E FU 0:Option (Unit ⊕ Int))).bind fun f=>(match f with | .inl _=>some (-1) | .inr u=>some u)
def Y0R (f:List Z0b)(u:(Z0b->Option Bool)):Option Bool :=
 (Y1H f u).bind fun z=>some (decide ((0:Int)<=z))
def Y0O (f:Z0b)(u:Z0b):Option Bool :=
 some (decide (f.1=u.1))
def Y0r (z:List Z0b):Nat->Int->Int->Int->Option (Z0a ⊕ Z0a)
 | 0,_,_,_=>none
 | m8+1,E,J,f=>(if f<(z.length:Int) then(idx z f).bind fun u=>(Y2t u.1).bind fun K=>(if K=true then(Y33 u.2).bind fun M=>(if M=true then(cut z 0 f).bind fun N=>(Y0R N (fun z0=>Y0O z0 (u.1,u.2))).bind fun O=>(if O=true then(Y03 7 f).bind fun(U,V)=>some (.inr (U,V)) else(chk (f+1)).bind fun Y=>Y0r z m8 E J Y) else(Y03 3 f).bind fun(Z,a0)=>some (.inr (Z,a0))) else(Y03 10 f).bind fun(a1,a2)=>some (.inr (a1,a2))) else some (.inl (E,J)))
def Y2M (J:List Z0b):Option Z0a :=
 ((Y0r J FU 0 0 0:Option (Z0a ⊕ Z0a))).bind fun f=>(match f with | .inl (K,M)=>(Y0f).bind fun(u,z)=>some (u,z) | .inr E=>some E)
def Y2f (f:(Ls × List Z0b × Ls)):Option Z0a :=
 ((if f.1=[] then some false else(Y2t f.1).bind fun Y=>some (!Y))).bind fun Z=>(if Z=true then(Y03 10 (-10)).bind fun(n9,u)=>some (n9,u) else((if (f.2.1.length:Int)<(1:Int) then some true else some (decide ((60:Int)<(f.2.1.length:Int))))).bind fun z=>(if z=true then(Y03 2 (-11)).bind fun(E,J)=>some (E,J) else((if f.2.2=[] then some false else(Y4v f.2.2).bind fun K=>some (!K))).bind fun M=>(if M=true then(Y03 10 (-12)).bind fun(N,O)=>some (N,O) else(Y2M f.2.1).bind fun(U,V)=>some (U,V))))
def Y4z (f:UInt8):Option Bool :=
 ((if 33<=f.toNat then(if f.toNat<=126 then some (!decide (f=58)) else some false) else some false)).bind fun u=>some u
def Y4A (f:Ls):Option Bool :=
 ((if f=[] then some false else(if (f.length:Int)<=(60:Int) then(Y2S f Y4z).bind fun u=>some u else some false))).bind fun z=>some z
def Y2y (f:Int):Option Bool :=
 ((if (0:Int)<=f then some (decide (f<(55296:Int))) else some false)).bind fun u=>(if u=true then some true else((if (57343:Int)<f then some (decide (f<=(1114111:Int))) else some false)).bind fun z=>(if z=true then some true else some false))
def Y22 (u:Ls):Nat->Nat->Option (Unit ⊕ Int)
 | 0,_=>none
 | z+1,f=>(if f<u.length then(if ((Utf.dr (u.drop f)).1:Int)=(65533:Int) then some (.inr (f:Int)) else Y22 u z (f+(Utf.dr (u.drop f)).2)) else some (.inl ()))
def Y23 (J:Ls)(E:Int)(u:Int)(z:Int):Nat->Int->Option Unit
 | 0,_=>none
 | K+1,f=>(if f<((Chs.utf8 E).length:Int) then(chk (z-f)).bind fun M=>(idx J M).bind fun N=>(chk (u-f)).bind fun O=>(idx (Chs.utf8 E) O).bind fun U=>(if N=U then(chk (f+1)).bind fun V=>Y23 J E u z K V else none) else some ())
def Y24 (z:Ls)(K:Int)(u:Int):Nat->Int->Option (Unit ⊕ Int)
 | 0,_=>none
 | a3+1,f=>(if f<(z.length:Int) then(idx z f).bind fun M=>(idx (Chs.utf8 K) u).bind fun N=>(((if M=N then some (.inl f) else(chk (f+1)).bind fun O=>(cut z O (z.length:Int)).bind fun U=>(idx (Chs.utf8 K) u).bind fun V=>(Y0K U V).bind fun E=>(if E<(0:Int) then some (.inr (-1)) else(chk (E+1)).bind fun Y=>(chk (f+Y)).bind fun Z=>some (.inl Z))):Option (Int ⊕ Int))).bind fun a0=>(match a0 with | .inl J=>(Y23 z K u J FU 1).bind fun _=>(chk (J-u)).bind fun a1=>some (.inr a1) | .inr a2=>some (.inr a2)) else some (.inl ()))
def Y2g (z:Ls)(f:Int):Option Int :=
 ((if (0:Int)<=f then some (decide (f<(128:Int))) else some false)).bind fun O=>(if O=true then(Y0K z (ub8 f)).bind fun U=>some U else(if f=(65533:Int) then((Y22 z FU 0:Option (Unit ⊕ Int))).bind fun E=>(match E with | .inl _=>some (-1) | .inr J=>some J) else(Y2y f).bind fun K=>(if K=true then(chk (((Chs.utf8 f).length:Int)-1)).bind fun u=>((Y24 z f u FU u:Option (Unit ⊕ Int))).bind fun M=>(match M with | .inl _=>some (-1) | .inr N=>some N) else some (-1))))
def Y0U (f:Int):Option Bool :=
 some (decide ((8:Int)<f))
def Y1y (z:Ls):Nat->List Bool->Int->Option (List Bool ⊕ Z0r)
 | 0,_,_=>none
 | O+1,f,E=>(if E<(z.length:Int) then(idx z E).bind fun J=>(if 128<=J.toNat then(chkA 256 f).bind fun u=>(chkA 256 f).bind fun U=>(chkA 256 u).bind fun V=>(chkA 256 u).bind fun K=>some (.inr (K,false)) else(idxA 256 f (J.toNat:Int)).bind fun Y=>(putA 256 f (J.toNat:Int) true).bind fun M=>(chk (E+1)).bind fun N=>Y1y z O M N) else some (.inl f))
def Y1B (K:Ls):Option Z0r :=
 ((Y1y K FU (List.replicate 256 false:List Bool) 0:Option (List Bool ⊕ Z0r))).bind fun u=>(match u with | .inl z=>(chkA 256 z).bind fun f=>(chkA 256 z).bind fun M=>(chkA 256 f).bind fun N=>(chkA 256 f).bind fun E=>some (E,true) | .inr J=>some J)
def Y1l (f:List Bool)(u:UInt8):Option Bool :=
 (idxA 256 f (u.toNat:Int)).bind fun z=>some z
def Y17 (z:Ls)(u:List Bool):Nat->Int->Option (Unit ⊕ Int)
 | 0,_=>none
 | E+1,f=>(if f<(z.length:Int) then(idx z f).bind fun J=>(Y1l u J).bind fun K=>(if K=true then some (.inr f) else(chk (f+1)).bind fun M=>Y17 z u E M) else some (.inl ()))
def Y18 (u:Ls)(z:Ls):Nat->Nat->Option (Unit ⊕ Int)
 | 0,_=>none
 | E+1,f=>(if f<u.length then(Y2g z ((Utf.dr (u.drop f)).1:Int)).bind fun J=>(if (0:Int)<=J then some (.inr (f:Int)) else Y18 u z E (f+(Utf.dr (u.drop f)).2)) else some (.inl ()))
def Y2u (u:Ls)(f:Ls):Option Int :=
 (if f=[] then some (-1) else(if (f.length:Int)=(1:Int) then(idx f 0).bind fun E=>((if (128:Int)<=(IntKind.i32.wrap (E.toNat:Int)) then some 65533 else some (IntKind.i32.wrap (E.toNat:Int)))).bind fun Z=>(Y2g u Z).bind fun n9=>some n9 else(Y0U (u.length:Int)).bind fun J=>(((if J=true then(Y1B f).bind fun(z,K)=>(chkA 256 (List.replicate 256 false:List Bool)).bind fun a1=>(chkA 256 z).bind fun a2=>(if K=true then((Y17 u z FU 0:Option (Unit ⊕ Int))).bind fun M=>(match M with | .inl _=>some (.inr (-1)) | .inr N=>some (.inr N)) else some (.inl ())) else some (.inl ())):Option (Unit ⊕ Int))).bind fun O=>(match O with | .inl _=>((Y18 u f FU 0:Option (Unit ⊕ Int))).bind fun U=>(match U with | .inl _=>some (-1) | .inr V=>some V) | .inr Y=>some Y)))
def Y1P (f:Ls)(u:Ls):Option Bool :=
 (Y2u f u).bind fun z=>some (decide ((0:Int)<=z))
def Y5m (f:Ls):Option Bool :=
 (Y1P f [13,10,0]).bind fun u=>some u
def Y2N (f:UInt8):Option Bool :=
 ((if f=32 then some true else some (decide (f=9)))).bind fun u=>some u
def Y4X (f:Ls):Option Bool :=
 ((Y5m f).bind fun J=>(if J=true then some false else(if f=[] then some true else(idx f 0).bind fun K=>(Y2N K).bind fun M=>(if M=true then some false else(chk ((f.length:Int)-1)).bind fun u=>(idx f u).bind fun z=>(Y2N z).bind fun E=>some (!E))))).bind fun N=>some N
def Y29 (u:Ls):Nat->Int->Int->Option Int
 | 0,_,_=>none
 | E+1,z,f=>(if f<(u.length:Int) then((idx u f).bind fun J=>(Y2N J).bind fun K=>(if K=true then(chk (f-1)).bind fun M=>(idx u M).bind fun N=>(Y2N N).bind fun O=>some O else some true)).bind fun U=>(if U=true then(chk (f+1)).bind fun V=>Y29 u E z V else((if (0:Int)<z then some (decide ((78:Int)<f)) else some false)).bind fun Y=>(if Y=true then some z else(chk (f+1)).bind fun Z=>Y29 u E f Z)) else some z)
def Y4Y (f:Ls)(u:Int):Option Int :=
 (Y29 f FU 0 (max u 1)).bind fun z=>some z
def Y2H  : Nat->Ls->Int->List Ls->Option (Ls × List Ls)
 | 0,_,_,_=>none
 | E+1,f,J,u=>(if (78:Int)<(f.length:Int) then(Y4Y f J).bind fun z=>(if z=(0:Int) then some (f,u) else(cut f 0 z).bind fun K=>(app 16 u ([K]:List Ls)).bind fun M=>(cut f z (f.length:Int)).bind fun N=>Y2H  E N 0 M) else some (f,u))
abbrev _root_.Z0L : Type:=List Ls × Z0a
def Y2I (u:List Ls):Nat->Int->Int->Int->Option (Z0a ⊕ Z0L)
 | 0,_,_,_=>none
 | J+1,z,E,f=>(if f<(u.length:Int) then(idx u f).bind fun K=>(if (998:Int)<(K.length:Int) then(Y03 1 f).bind fun(M,N)=>some (.inr ([],(M,N))) else(chk (f+1)).bind fun O=>Y2I u J z E O) else some (.inl (z,E)))
def Y42 (u:Ls)(z:Ls):Option Z0L :=
 (Y4A u).bind fun b1=>(if b1=true then(if (4000:Int)<(z.length:Int) then(Y03 1 (-1)).bind fun(n8,n9)=>some ([],(n8,n9)) else(Y4X z).bind fun E=>(if E=true then(cat u [58,32]).bind fun J=>(cat J z).bind fun K=>(chk ((u.length:Int)+2)).bind fun M=>(Y2H  FU K M []).bind fun(N,O)=>(app 16 O ([N]:List Ls)).bind fun f=>((Y2I f FU 0 0 0:Option (Z0a ⊕ Z0L))).bind fun U=>(match U with | .inl (a7,a8)=>(Y0f).bind fun(V,Y)=>some (f,(V,Y)) | .inr Z=>some Z) else(Y03 11 (-1)).bind fun(a0,a1)=>some ([],(a0,a1)))) else(Y03 10 (-1)).bind fun(n4,n5)=>some ([],(n4,n5)))
def Y12 (J:List Z07):Nat->Int->Int->Int->Option (Z0a ⊕ Z0a)
 | 0,_,_,_=>none
 | K+1,M,u,f=>(if f<(J.length:Int) then(idx J f).bind fun z=>(Y42 z.1 z.2).bind fun(Z,(E,N))=>(Y00 (E,N)).bind fun O=>(if O=true then(Y03 E f).bind fun(U,V)=>some (.inr (U,V)) else(chk (f+1)).bind fun Y=>Y12 J K M u Y) else some (.inl (M,u)))
def Y2l (f:List Z07):Option Z0a :=
 (if (60:Int)<(f.length:Int) then(Y03 2 (-1)).bind fun(K,M)=>some (K,M) else((Y12 f FU 0 0 0:Option (Z0a ⊕ Z0a))).bind fun u=>(match u with | .inl (N,O)=>(Y0f).bind fun(z,E)=>some (z,E) | .inr J=>some J))
def Y1n (f:List Ls):Nat->Ls->Int->Option Ls
 | 0,_,_=>none
 | E+1,z,u=>(if u<(f.length:Int) then(idx f u).bind fun J=>(app 1 z J).bind fun K=>(app 1 K ([13,10]:Ls)).bind fun M=>(chk (u+1)).bind fun N=>Y1n f E M N else some z)
abbrev _root_.Z0G : Type:=List Z07 × Ls
def Y1o (u:Z0G):Nat->Ls->Int->Option Ls
 | 0,_,_=>none
 | E+1,J,z=>(if z<(u.1.length:Int) then(idx u.1 z).bind fun f=>(Y42 f.1 f.2).bind fun(K,(O,U))=>(Y1n K FU J 0).bind fun M=>(chk (z+1)).bind fun N=>Y1o u E M N else some J)
def Y39 (f:Z0G):Option Ls :=
 (Y1o f FU [] 0).bind fun E=>(app 1 E ([13,10]:Ls)).bind fun u=>(app 1 u f.2).bind fun z=>some z
def Y2a (f:Ls):Nat->Int->Int->Option (Unit ⊕ Int)
 | 0,_,_=>none
 | J+1,n3,u=>(if u<(f.length:Int) then(idx f u).bind fun E=>((if E=13 then(chk (u+1)).bind fun K=>(if K<(f.length:Int) then(chk (u+1)).bind fun M=>(idx f M).bind fun N=>some (decide (N=10)) else some false) else some false)).bind fun O=>(if O=true then(chk (u+1)).bind fun U=>(chk (U+1)).bind fun V=>Y2a f J 0 V else((if E=13 then some true else some (decide (E=10)))).bind fun Y=>(if Y=true then some (.inr 11) else(chk (n3+1)).bind fun z=>(if (998:Int)<z then some (.inr 1) else(chk (u+1)).bind fun Z=>Y2a f J z Z))) else some (.inl ()))
def Y5y (z:Ls):Option Int :=
 ((Y2a z FU 0 0:Option (Unit ⊕ Int))).bind fun f=>(match f with | .inl _=>some 0 | .inr u=>some u)
def Y43 (E:Ls):Option Z0a :=
 (Y5y E).bind fun f=>(if f=(11:Int) then(Y03 11 (-5)).bind fun(J,K)=>some (J,K) else(if f=(1:Int) then(Y03 1 (-6)).bind fun(M,N)=>some (M,N) else(Y0f).bind fun(u,z)=>some (u,z)))
def Y1D (f:Z0G):Option Z0a :=
 (Y2l f.1).bind fun(u,z)=>(Y00 (u,z)).bind fun N=>(if N=true then some (u,z) else(Y39 (f.1,f.2)).bind fun O=>(if (12000:Int)<(O.length:Int) then(Y03 1 (-4)).bind fun(E,J)=>some (E,J) else(Y43 f.2).bind fun(K,M)=>some (K,M)))
abbrev _root_.Z0Q : Type:=Ls × Z0a
def Y3a (f:Z0G):Option Z0Q :=
 (Y1D (f.1,f.2)).bind fun(u,z)=>(Y00 (u,z)).bind fun J=>(if J=true then some ([],(u,z)) else(Y39 (f.1,f.2)).bind fun K=>(Y0f).bind fun(M,E)=>some (K,(M,E)))
def Y4B (f:Ls):Option Bool :=
 (Y42 f []).bind fun(J,(u,z))=>(Y00 (u,z)).bind fun E=>some (!E)
def Y4O (M:List Z07)(N:Ls):Option Z0a :=
 (Y2l M).bind fun(f,u)=>(Y00 (f,u)).bind fun O=>(if O=true then some (f,u) else(Y4B N).bind fun U=>(if U=true then(Y0f).bind fun(z,E)=>some (z,E) else(Y03 10 (-3)).bind fun(J,K)=>some (J,K)))
def Y1u (J:Ls):Nat->Ls->Int->Option Ls
 | 0,_,_=>none
 | E+1,u,f=>(if f<(J.length:Int) then(idx u f).bind fun z=>((if 65<=z.toNat then some (decide (z.toNat<=90)) else some false)).bind fun K=>(if K=true then(idx u f).bind fun U=>(put u f ((z+(97:UInt8))-(65:UInt8))).bind fun M=>(chk (f+1)).bind fun N=>Y1u J E M N else(chk (f+1)).bind fun O=>Y1u J E u O) else some u)
def Y1Z (u:Ls):Option Ls :=
 (toB u).bind fun f=>(Y1u f FU f 0).bind fun z=>some z
def Y2V (f:Ls)(u:Ls):Option Bool :=
 ((if (f.length:Int)=(u.length:Int) then(Y1Z f).bind fun z=>(Y1Z u).bind fun E=>some (decide (z=E)) else some false)).bind fun J=>some J
def Y1z (z:List Z07)(K:Ls):Nat->List Ls->Int->Option (List Ls)
 | 0,_,_=>none
 | E+1,u,f=>(if f<(z.length:Int) then(idx z f).bind fun J=>(Y2V J.1 K).bind fun M=>(if M=true then(app 16 u ([J.2]:List Ls)).bind fun N=>(chk (f+1)).bind fun O=>Y1z z K E N O else(chk (f+1)).bind fun U=>Y1z z K E u U) else some u)
def Y4w (f:List Z07)(u:Ls):Option Z0L :=
 (Y4O f u).bind fun(z,E)=>(Y00 (z,E)).bind fun N=>(if N=true then some ([],(z,E)) else(Y1z f u FU [] 0).bind fun J=>(Y0f).bind fun(K,M)=>some (J,(K,M)))
abbrev _root_.Z03 : Type:=Ls × Unit × Ls × Unit × Unit × Int × MapT × Unit × Unit
abbrev _root_.Z0w : Type:=Ls × List Z0b × Ls × List Z07 × Ls × Int × MapT × Unit × Unit
def Y1Q (f:Z0w)(u:Ls):Option (List Ls × Z03) :=
 (Y4w f.2.2.2.1 u).bind fun(z,(E,J))=>some (z,(f.1,(),f.2.2.1,(),(),f.2.2.2.2.2.1,f.2.2.2.2.2.2.1,(),()))
abbrev _root_.Z0d : Type:=Bool × Bool × UInt8
abbrev _root_.Z0O : Type:=List Z0d × Bool
def Y0b (u:Ls):Nat->List Z0d->Int->Option (List Z0d ⊕ Z0O)
 | 0,_,_=>none
 | z+1,E,f=>(if f<(u.length:Int) then(idx u f).bind fun J=>(if J=42 then(app 3 E ([(false,true,0)]:List Z0d)).bind fun M=>(chk (f+1)).bind fun N=>Y0b u z M N else(if J=63 then(app 3 E ([(true,false,0)]:List Z0d)).bind fun O=>(chk (f+1)).bind fun U=>Y0b u z O U else(if J=92 then(chk (f+1)).bind fun K=>(if K=(u.length:Int) then some (.inr ([],false)) else(idx u K).bind fun V=>(app 3 E ([(false,false,V)]:List Z0d)).bind fun Y=>(chk (K+1)).bind fun Z=>Y0b u z Y Z) else(idx u f).bind fun a0=>(app 3 E ([(false,false,a0)]:List Z0d)).bind fun a1=>(chk (f+1)).bind fun a2=>Y0b u z a1 a2))) else some (.inl E))
def Y2E (z:Ls):Option Z0O :=
 ((Y0b z FU [] 0:Option (List Z0d ⊕ Z0O))).bind fun f=>(match f with | .inl E=>some (E,true) | .inr u=>some u)
def Y2F (u:Z0d)(f:Int)(z:Ls)(E:Ls):Option Bool :=
 ((if f<(z.length:Int) then(if u.1=true then some true else(Y1Z ([u.2.2]:Ls)).bind fun J=>(chk (f+1)).bind fun K=>(cut E f K).bind fun M=>some (decide (J=M))) else some false)).bind fun N=>some N
def Y0S (J:List Z0d)(K:Ls)(O:Ls)(E:List (List Bool))(z:Int):Nat->List Bool->Int->Option (List Bool)
 | 0,_,_=>none
 | M+1,u,f=>(if (0:Int)<=f then(if z=(J.length:Int) then(idx E z).bind fun ak=>(idx u f).bind fun al=>(put u f (decide (f=(K.length:Int)))).bind fun U=>(chk (f-1)).bind fun V=>Y0S J K O E z M U V else(idx J z).bind fun Y=>(if Y.2.1=true then((idx E z).bind fun am=>(chk (z+1)).bind fun Z=>(idx E Z).bind fun a0=>(idx a0 f).bind fun a1=>(if a1=true then(idx u f).bind fun an=>(put u f true).bind fun a2=>some a2 else(if f<(K.length:Int) then(idx E z).bind fun ao=>(chk (f+1)).bind fun a3=>(idx u a3).bind fun a4=>(idx u f).bind fun ap=>(put u f a4).bind fun a5=>some a5 else(idx u f).bind fun aq=>(put u f false).bind fun a6=>some a6))).bind fun a7=>(chk (f-1)).bind fun a8=>Y0S J K O E z M a7 a8 else((idx E z).bind fun ar=>(idx J z).bind fun N=>(Y2F (N.1,N.2.1,N.2.2) f K O).bind fun a9=>(if a9=true then(chk (z+1)).bind fun aa=>(idx E aa).bind fun ab=>(chk (f+1)).bind fun ac=>(idx ab ac).bind fun ad=>(idx u f).bind fun au=>(put u f ad).bind fun ae=>some ae else(idx u f).bind fun av=>(put u f false).bind fun ah=>some ah)).bind fun ai=>(chk (f-1)).bind fun aj=>Y0S J K O E z M ai aj)) else some u)
def Y1E (J:List Z0d)(z:Ls)(K:Ls):Nat->List (List Bool)->Int->Option (List (List Bool))
 | 0,_,_=>none
 | M+1,u,f=>(if (0:Int)<=f then(chk ((z.length:Int)+1)).bind fun E=>(mkS 1 E E (false:Bool)).bind fun N=>(idx u f).bind fun V=>(Y0S J z K u f FU N (z.length:Int)).bind fun O=>(chk (f-1)).bind fun U=>Y1E J z K M (u.set f.toNat O) U else some u)
def Y1b (u:List (List Bool))(z:Int)(E:Z0d):Nat->Int->Option Int
 | 0,_=>none
 | J+1,f=>((if E.2.1=true then(chk (z+1)).bind fun K=>(idx u K).bind fun M=>(idx M f).bind fun N=>some (!N) else some false)).bind fun O=>(if O=true then(chk (f+1)).bind fun U=>Y1b u z E J U else some f)
def Y0T (K:List Z0d)(U:Ls)(E:List (List Bool)):Nat->List Ls->Int->Int->Option (List Ls)
 | 0,_,_,_=>none
 | M+1,J,N,f=>(if f<(K.length:Int) then(idx K f).bind fun z=>(Y1b E f z FU N).bind fun O=>((if z.2.1=true then some O else(chk (O+1)).bind fun V=>some V)).bind fun u=>((if z.2.1=true then some true else some z.1)).bind fun Y=>(if Y=true then(cut U N u).bind fun Z=>(app 16 J ([Z]:List Ls)).bind fun a0=>(chk (f+1)).bind fun a1=>Y0T K U E M a0 u a1 else(chk (f+1)).bind fun a2=>Y0T K U E M J u a2) else some J)
def Y3F (f:List Z0d)(z:Ls):Option (Bool × List Ls) :=
 (Y1Z z).bind fun N=>(chk ((f.length:Int)+1)).bind fun E=>(mkS 24 E E ([]:List Bool)).bind fun O=>(Y1E f z N FU O (f.length:Int)).bind fun u=>(idx u 0).bind fun J=>(idx J 0).bind fun K=>(if K=true then(Y0T f z u FU [] 0 0).bind fun M=>some (true,M) else some (false,[]))
def Y2W (f:Int)(u:Ls)(z:Ls):Option (Bool × List Ls × Z0a) :=
 ((if f<(1:Int) then some true else some (decide ((3:Int)<f)))).bind fun b3=>(if b3=true then(Y03 4 (-2)).bind fun(n7,n8)=>some (false,[],(n7,n8)) else(if (200:Int)<(u.length:Int) then(Y03 1 (-3)).bind fun(E,J)=>some (false,[],(E,J)) else(Y2E u).bind fun(K,M)=>((if f=(3:Int) then some (!M) else some false)).bind fun N=>(if N=true then(chk ((u.length:Int)-1)).bind fun O=>(Y03 11 O).bind fun(U,V)=>some (false,[],(U,V)) else(if (4000:Int)<(z.length:Int) then(Y03 1 (-1)).bind fun(Y,Z)=>some (false,[],(Y,Z)) else(if f=(1:Int) then(Y2V u z).bind fun a0=>(Y0f).bind fun(a1,a2)=>some (a0,[],(a1,a2)) else(if f=(2:Int) then(Y1Z z).bind fun a3=>(Y1Z u).bind fun a4=>(Y0P a3 a4).bind fun a5=>(Y0f).bind fun(a6,a7)=>some (a5,[],(a6,a7)) else(Y3F K z).bind fun(a8,a9)=>(Y0f).bind fun(aa,ab)=>some (a8,a9,(aa,ab))))))))
abbrev _root_.Z0o : Type:=Ls × Ls × Int × MapT
def Y0y (u:List Ls):Nat->Ls->Ls->Int->MapT->Int->Option Z0o
 | 0,_,_,_,_,_=>none
 | M+1,z,E,J,K,f=>(if f<(u.length:Int) then(idx u f).bind fun N=>(chk (f+1)).bind fun O=>(strconv_Itoa O).bind fun U=>(chk (f+1)).bind fun V=>Y0y u M z E J (mapPut K U N) V else some (z,E,J,K))
abbrev _root_.Z0H : Type:=Bool × Z03
def Y0z (z:Z01)(M:List Ls):Nat->Ls->Ls->Int->MapT->Int->Option (Z0o ⊕ Z0H)
 | 0,_,_,_,_,_=>none
 | N+1,E,J,K,f,u=>(if u<(M.length:Int) then(idx M u).bind fun O=>(Y2W z.2.2.2.1 z.2.2.2.2.1 O).bind fun(U,V,(Y,Z))=>((Y00 (Y,Z)).bind fun a0=>(if a0=true then some true else some (!U))).bind fun a1=>(if a1=true then(chk (u+1)).bind fun a2=>Y0z z M N E J K f a2 else(if z.2.2.2.1=(3:Int) then(Y31 f).bind fun a3=>(Y0y V FU E J K a3 0).bind fun(a4,a5,a6,a7)=>some (.inr (true,(a4,(),a5,(),(),a6,a7,(),()))) else some (.inr (true,(E,(),J,(),(),K,f,(),()))))) else some (.inl (E,J,K,f)))
def Y0N (f:Z0w)(E:Z01)(J:List Ls):Option Z0H :=
 ((Y0z E J FU f.1 f.2.2.1 f.2.2.2.2.2.1 f.2.2.2.2.2.2.1 0:Option (Z0o ⊕ Z0H))).bind fun u=>(match u with | .inl (K,M,N,O)=>some (false,(K,(),M,(),(),N,O,(),())) | .inr z=>some z)
def Y0B (self:Z0w->Z01->Option Z0H)(J:Z0w)(z:Z01):Nat->Ls->Ls->Int->MapT->Int->Option (Z0o ⊕ Z0H)
 | 0,_,_,_,_,_=>none
 | U+1,K,M,N,O,E=>(if E<(z.2.1.length:Int) then(idx z.2.1 E).bind fun u=>(self (K,J.2.1,M,J.2.2.2.1,J.2.2.2.2.1,N,O,(),()) (u.out.1,u.out.2.1,u.out.2.2.1,u.out.2.2.2.1,u.out.2.2.2.2.1,u.out.2.2.2.2.2)).bind fun(V,f)=>(if V=(decide (z.1=(4:Int))) then some (.inr (decide (z.1=(4:Int)),(f.1,(),f.2.2.1,(),(),f.2.2.2.2.2.1,f.2.2.2.2.2.2.1,(),()))) else(chk (E+1)).bind fun Y=>Y0B self J z U f.1 f.2.2.1 f.2.2.2.2.2.1 f.2.2.2.2.2.2.1 Y) else some (.inl (K,M,N,O)))
def Y0C (z:Z0w):Nat->List Ls->Int->Option (List Ls)
 | 0,_,_=>none
 | E+1,u,f=>(if f<(z.2.1.length:Int) then(idx z.2.1 f).bind fun J=>(app 16 u ([J.1]:List Ls)).bind fun K=>(chk (f+1)).bind fun M=>Y0C z E K M else some u)
def Y2O (self:Z0w->Z01->Option Z0H)(f:Z0w)(u:Z01):Option Z0H :=
 (if u.1=(2:Int) then(idx u.2.1 0).bind fun N=>(self (f.1,f.2.1,f.2.2.1,f.2.2.2.1,f.2.2.2.2.1,f.2.2.2.2.2.1,f.2.2.2.2.2.2.1,(),()) (N.out.1,N.out.2.1,N.out.2.2.1,N.out.2.2.2.1,N.out.2.2.2.2.1,N.out.2.2.2.2.2)).bind fun(b3,O)=>some (!b3,(O.1,(),O.2.2.1,(),(),O.2.2.2.2.2.1,O.2.2.2.2.2.2.1,(),())) else((if u.1=(3:Int) then some (decide (u.1=(3:Int))) else some (decide (u.1=(4:Int))))).bind fun b8=>(if b8=true then((Y0B self f u FU f.1 f.2.2.1 f.2.2.2.2.2.1 f.2.2.2.2.2.2.1 0:Option (Z0o ⊕ Z0H))).bind fun U=>(match U with | .inl (V,Y,Z,a0)=>some (decide (u.1=(3:Int)),(V,(),Y,(),(),Z,a0,(),())) | .inr a1=>some a1) else(if u.1=(5:Int) then(Y1Q (f.1,f.2.1,f.2.2.1,f.2.2.2.1,f.2.2.2.2.1,f.2.2.2.2.2.1,f.2.2.2.2.2.2.1,(),()) u.2.2.1).bind fun(a3,z)=>(Y0N (z.1,f.2.1,z.2.2.1,f.2.2.2.1,f.2.2.2.2.1,z.2.2.2.2.2.1,z.2.2.2.2.2.2.1,(),()) (u.1,u.2.1,u.2.2.1,u.2.2.2.1,u.2.2.2.2.1,u.2.2.2.2.2) a3).bind fun(a4,E)=>some (a4,(E.1,(),E.2.2.1,(),(),E.2.2.2.2.2.1,E.2.2.2.2.2.2.1,(),())) else(if u.1=(6:Int) then(Y0N (f.1,f.2.1,f.2.2.1,f.2.2.2.1,f.2.2.2.2.1,f.2.2.2.2.2.1,f.2.2.2.2.2.2.1,(),()) (u.1,u.2.1,u.2.2.1,u.2.2.2.1,u.2.2.2.2.1,u.2.2.2.2.2) ([f.1]:List Ls)).bind fun(a5,J)=>some (a5,(J.1,(),J.2.2.1,(),(),J.2.2.2.2.2.1,J.2.2.2.2.2.2.1,(),())) else(if u.1=(7:Int) then(Y0C f FU [] 0).bind fun a6=>(Y0N (f.1,f.2.1,f.2.2.1,f.2.2.2.1,f.2.2.2.2.1,f.2.2.2.2.2.1,f.2.2.2.2.2.2.1,(),()) (u.1,u.2.1,u.2.2.1,u.2.2.2.1,u.2.2.2.2.1,u.2.2.2.2.2) a6).bind fun(a7,K)=>some (a7,(K.1,(),K.2.2.1,(),(),K.2.2.2.2.2.1,K.2.2.2.2.2.2.1,(),())) else(if u.1=(8:Int) then some (decide (u.2.2.2.2.2<f.2.2.2.2.2.1),(f.1,(),f.2.2.1,(),(),f.2.2.2.2.2.1,f.2.2.2.2.2.2.1,(),())) else(if u.1=(9:Int) then(Y1Q (f.1,f.2.1,f.2.2.1,f.2.2.2.1,f.2.2.2.2.1,f.2.2.2.2.2.1,f.2.2.2.2.2.2.1,(),()) u.2.2.1).bind fun(a8,M)=>some (decide ((0:Int)<(a8.length:Int)),(M.1,(),M.2.2.1,(),(),M.2.2.2.2.2.1,M.2.2.2.2.2.2.1,(),())) else some (true,(f.1,(),f.2.2.1,(),(),f.2.2.2.2.2.1,f.2.2.2.2.2.2.1,(),())))))))))
def Y0H : Nat->Z0w->Z01->Option Z0H
 | 0,_,_=>none
 | m+1,f,u=>Y2O (Y0H m) f u
def Y3b (f:Z0w)(u:Z01):Option Z0H:=Y0H FU f u
abbrev _root_.Z08 : Type:=Int × Bool × Ls
def Y2w (f:Z08)(u:List Z08):Option (List Z08) :=
 (app 32 u ([(f.1,f.2.1,f.2.2)]:List Z08)).bind fun l2=>some l2
def Y2G (f:Ls)(z:Ls):Option Z0i :=
 (Y1r f z).bind fun u=>(if (0:Int)<=u then(cut f 0 u).bind fun E=>(chk (u+(z.length:Int))).bind fun J=>(cut f J (f.length:Int)).bind fun K=>some (E,K,true) else some (f,[],false))
def Y34 (f:Ls)(u:Ls):Option Z0i :=
 (Y2G f u).bind fun(z,E,J)=>some (z,E,J)
def Y19 (u:Ls)(f:Ls):Option Z08 :=
 (app 1 u f).bind fun l2=>some ((f.length:Int),true,l2)
def Y2p (f:Ls):Option Ls :=
 some f
def Y11 (u:Z0w):Nat->Ls->Ls->Option Ls
 | 0,_,_=>none
 | z+1,E,f=>(Y34 E [36,123]).bind fun(J,K,M)=>(Y34 K [125]).bind fun(N,O,U)=>((if M=true then some (!U) else some true)).bind fun V=>(if V=true then(Y19 f E).bind fun(a1,a2,Y)=>some Y else(cat J (mapGet u.2.2.2.2.2.2.1 N)).bind fun Z=>(Y19 f Z).bind fun(a3,a4,a0)=>Y11 u z O a0)
def Y0I (f:Z0w)(E:Ls):Option (Ls × Z03) :=
 (Y11 f FU E []).bind fun J=>(Y2p J).bind fun u=>(cut u 0 (min (u.length:Int) 4000)).bind fun z=>some (z,(f.1,(),f.2.2.1,(),(),f.2.2.2.2.2.1,f.2.2.2.2.2.2.1,(),()))
abbrev _root_.Z0x : Type:=Ls × Unit × Ls × Unit × Unit × Int × MapT × List Z02 × List Z08
abbrev _root_.Z0z : Type:=Ls × List Z0b × Ls × List Z07 × Ls × Int × MapT × List Z02 × List Z08
abbrev _root_.Z0J : Type:=Ls × Ls × Int × MapT × List Z02 × List Z08
abbrev _root_.Z0S : Type:=Bool × Z0x
def Y02 (self:Z0z->(List BT90)->Int->Option Z0S)(z:Z0z)(p1:List BT90):Nat->Ls->Ls->Int->MapT->List Z02->List Z08->Int->Int->Option (Z0J ⊕ Z0S)
 | 0,_,_,_,_,_,_,_,_=>none
 | a5+1,J,K,M,N,O,U,E,a0=>(if a0<(p1.length:Int) then(idx p1 a0).bind fun f=>(((if f.out.1=(1:Int) then(Y3b (J,z.2.1,K,z.2.2.2.1,z.2.2.2.2.1,M,N,(),()) (f.out.2.1,f.out.2.2.1,f.out.2.2.2.1,f.out.2.2.2.2.1,f.out.2.2.2.2.2.1,f.out.2.2.2.2.2.2.1)).bind fun(a1,V)=>(Y2w (E,a1,[]) U).bind fun a6=>(chk (E+1)).bind fun a7=>((if a1=true then some (f.out.2.2.2.2.2.2.2.1,a7) else(chk (E+1)).bind fun a8=>(Y0L f.out.2.2.2.2.2.2.2.1).bind fun a9=>(chk (a8+a9)).bind fun aa=>some (f.out.2.2.2.2.2.2.2.2.1,aa))).bind fun(ab,ac)=>(self (V.1,z.2.1,V.2.2.1,z.2.2.2.1,z.2.2.2.2.1,V.2.2.2.2.2.1,V.2.2.2.2.2.2.1,O,a6) ab ac).bind fun(ad,u)=>(if ad=true then some (.inl (u.1,u.2.2.1,u.2.2.2.2.2.1,u.2.2.2.2.2.2.1,u.2.2.2.2.2.2.2.1,u.2.2.2.2.2.2.2.2)) else some (.inr (false,(u.1,(),u.2.2.1,(),(),u.2.2.2.2.2.1,u.2.2.2.2.2.2.1,u.2.2.2.2.2.2.2.1,u.2.2.2.2.2.2.2.2)))) else(if f.out.1=(2:Int) then(Y0I (J,z.2.1,K,z.2.2.2.1,z.2.2.2.2.1,M,N,(),()) f.out.2.2.2.2.2.2.2.2.2.2.2.1).bind fun(a2,Y)=>(app 32 O ([(f.out.2.2.2.2.2.2.2.2.2.1,a2,f.out.2.2.2.2.2.2.2.2.2.2.2.2)]:List Z02)).bind fun ae=>(Y2w (E,false,a2) U).bind fun ah=>some (.inl (Y.1,Y.2.2.1,Y.2.2.2.2.2.1,Y.2.2.2.2.2.2.1,ae,ah)) else(if f.out.1=(3:Int) then(Y0I (J,z.2.1,K,z.2.2.2.1,z.2.2.2.2.1,M,N,(),()) f.out.2.2.2.2.2.2.2.2.2.2.2.1).bind fun(a3,Z)=>(Y2w (E,false,a3) U).bind fun ai=>some (.inl (Z.1,Z.2.2.1,Z.2.2.2.2.2.1,(mapPut Z.2.2.2.2.2.2.1 f.out.2.2.2.2.2.2.2.2.2.2.1 a3),O,ai)) else(Y2w (E,false,[]) U).bind fun aj=>some (.inr (false,(J,(),K,(),(),M,N,O,aj)))))):Option (Z0J ⊕ Z0S))).bind fun ak=>(match ak with | .inl (al,am,an,ao,ap,aq)=>(Y0L f.out.2.2.2.2.2.2.2.1).bind fun ar=>(chk ((1:Int)+ar)).bind fun au=>(Y0L f.out.2.2.2.2.2.2.2.2.1).bind fun av=>(chk (au+av)).bind fun aw=>(chk (E+aw)).bind fun ax=>(chk (a0+1)).bind fun ay=>Y02 self z p1 a5 al am an ao ap aq ax ay | .inr az=>some (.inr az)) else some (.inl (J,K,M,N,O,U)))
def Y1t (self:Z0z->(List BT90)->Int->Option Z0S)(f:Z0z)(J:List BT90)(K:Int):Option Z0S :=
 ((Y02 self f J FU f.1 f.2.2.1 f.2.2.2.2.2.1 f.2.2.2.2.2.2.1 f.2.2.2.2.2.2.2.1 f.2.2.2.2.2.2.2.2 K 0:Option (Z0J ⊕ Z0S))).bind fun u=>(match u with | .inl (M,N,O,U,V,z)=>some (true,(M,(),N,(),(),O,U,V,z)) | .inr E=>some E)
def Y0j : Nat->Z0z->(List BT90)->Int->Option Z0S
 | 0,_,_,_=>none
 | m+1,f,u,z=>Y1t (Y0j m) f u z
def Y2X (f:Z0z)(u:List BT90)(z:Int):Option Z0S:=Y0j FU f u z
abbrev _root_.Z0D : Type:=Ls × List Z0b × Ls × List Z07 × Ls
def Y20 (E:List BT90)(u:Z0D)(p2c:List Z08):Option (List Z02 × Z0a × List Z08) :=
 (Y1h E).bind fun(J,K)=>(Y00 (J,K)).bind fun b5=>(if b5=true then some ([],(J,K),p2c) else(Y2f (u.1,u.2.1,u.2.2.1)).bind fun(M,N)=>(Y00 (M,N)).bind fun O=>(if O=true then(Y03 M (-3)).bind fun(U,V)=>some ([],(U,V),p2c) else(Y3a (u.2.2.2.1,u.2.2.2.2)).bind fun(Y,(z,Z))=>(Y00 (z,Z)).bind fun a0=>(if a0=true then(Y03 z (-2)).bind fun(a1,a2)=>some ([],(a1,a2),p2c) else(Y2X (u.1,u.2.1,u.2.2.1,u.2.2.2.1,u.2.2.2.2,(Y.length:Int),([],0),([]:List Z02),p2c) E 0).bind fun(a9,f)=>(Y1Y f.2.2.2.2.2.2.2.1).bind fun a3=>((if a3=true then some (f.1,f.2.2.1,f.2.2.2.2.2.1,f.2.2.2.2.2.2.2.1) else(app 32 f.2.2.2.2.2.2.2.1 ([(1,[],0)]:List Z02)).bind fun a4=>some (f.1,f.2.2.1,f.2.2.2.2.2.1,a4))).bind fun(aa,ab,ac,a5)=>(Y0f).bind fun(a6,a7)=>some (a5,(a6,a7),f.2.2.2.2.2.2.2.2))))
def Y2P (E:List BT90)(f:Z0D):Option (List Z08 × List Z02 × Z0a) :=
 (Y20 E (f.1,f.2.1,f.2.2.1,f.2.2.2.1,f.2.2.2.2) ([]:List Z08)).bind fun(l2,(u,z),J)=>(Y00 (u,z)).bind fun K=>(if K=true then some ([],[],(u,z)) else some (J,l2,(u,z)))
def Y1m (f:Z08):Option Unit :=
 some ()
abbrev _root_.Z0y : Type:=Ls × Unit × Ls × Unit × Unit × Int × MapT × List Z02 × Unit
abbrev _root_.Z0A : Type:=Ls × List Z0b × Ls × List Z07 × Ls × Int × MapT × List Z02 × Unit
abbrev _root_.Z0K : Type:=Ls × Ls × Int × MapT × List Z02
abbrev _root_.Z0R : Type:=Bool × Z0y
def Y04 (self:Z0A->(List BT90)->Int->Option Z0R)(z:Z0A)(p1:List BT90):Nat->Ls->Ls->Int->MapT->List Z02->Int->Int->Option (Z0K ⊕ Z0R)
 | 0,_,_,_,_,_,_,_=>none
 | a4+1,J,K,M,N,O,E,Z=>(if Z<(p1.length:Int) then(idx p1 Z).bind fun f=>(((if f.out.1=(1:Int) then(Y3b (J,z.2.1,K,z.2.2.2.1,z.2.2.2.2.1,M,N,(),()) (f.out.2.1,f.out.2.2.1,f.out.2.2.2.1,f.out.2.2.2.2.1,f.out.2.2.2.2.2.1,f.out.2.2.2.2.2.2.1)).bind fun(a0,U)=>(Y1m (E,a0,[])).bind fun _=>(chk (E+1)).bind fun a5=>((if a0=true then some (f.out.2.2.2.2.2.2.2.1,a5) else(chk (E+1)).bind fun a6=>(Y0L f.out.2.2.2.2.2.2.2.1).bind fun a7=>(chk (a6+a7)).bind fun a8=>some (f.out.2.2.2.2.2.2.2.2.1,a8))).bind fun(a9,aa)=>(self (U.1,z.2.1,U.2.2.1,z.2.2.2.1,z.2.2.2.2.1,U.2.2.2.2.2.1,U.2.2.2.2.2.2.1,O,()) a9 aa).bind fun(ab,u)=>(if ab=true then some (.inl (u.1,u.2.2.1,u.2.2.2.2.2.1,u.2.2.2.2.2.2.1,u.2.2.2.2.2.2.2.1)) else some (.inr (false,(u.1,(),u.2.2.1,(),(),u.2.2.2.2.2.1,u.2.2.2.2.2.2.1,u.2.2.2.2.2.2.2.1,())))) else(if f.out.1=(2:Int) then(Y0I (J,z.2.1,K,z.2.2.2.1,z.2.2.2.2.1,M,N,(),()) f.out.2.2.2.2.2.2.2.2.2.2.2.1).bind fun(a1,V)=>(app 32 O ([(f.out.2.2.2.2.2.2.2.2.2.1,a1,f.out.2.2.2.2.2.2.2.2.2.2.2.2)]:List Z02)).bind fun ac=>(Y1m (E,false,a1)).bind fun _=>some (.inl (V.1,V.2.2.1,V.2.2.2.2.2.1,V.2.2.2.2.2.2.1,ac)) else(if f.out.1=(3:Int) then(Y0I (J,z.2.1,K,z.2.2.2.1,z.2.2.2.2.1,M,N,(),()) f.out.2.2.2.2.2.2.2.2.2.2.2.1).bind fun(a2,Y)=>(Y1m (E,false,a2)).bind fun _=>some (.inl (Y.1,Y.2.2.1,Y.2.2.2.2.2.1,(mapPut Y.2.2.2.2.2.2.1 f.out.2.2.2.2.2.2.2.2.2.2.1 a2),O)) else(Y1m (E,false,[])).bind fun _=>some (.inr (false,(J,(),K,(),(),M,N,O,())))))):Option (Z0K ⊕ Z0R))).bind fun ad=>(match ad with | .inl (ae,ah,ai,aj,ak)=>(Y0L f.out.2.2.2.2.2.2.2.1).bind fun al=>(chk ((1:Int)+al)).bind fun am=>(Y0L f.out.2.2.2.2.2.2.2.2.1).bind fun an=>(chk (am+an)).bind fun ao=>(chk (E+ao)).bind fun ap=>(chk (Z+1)).bind fun aq=>Y04 self z p1 a4 ae ah ai aj ak ap aq | .inr ar=>some (.inr ar)) else some (.inl (J,K,M,N,O)))
def Y1I (self:Z0A->(List BT90)->Int->Option Z0R)(f:Z0A)(E:List BT90)(J:Int):Option Z0R :=
 ((Y04 self f E FU f.1 f.2.2.1 f.2.2.2.2.2.1 f.2.2.2.2.2.2.1 f.2.2.2.2.2.2.2.1 J 0:Option (Z0K ⊕ Z0R))).bind fun u=>(match u with | .inl (K,M,N,O,U)=>some (true,(K,(),M,(),(),N,O,U,())) | .inr z=>some z)
def Y0m : Nat->Z0A->(List BT90)->Int->Option Z0R
 | 0,_,_,_=>none
 | m+1,f,u,z=>Y1I (Y0m m) f u z
def Y3f (f:Z0A)(u:List BT90)(z:Int):Option Z0R:=Y0m FU f u z
abbrev _root_.Z0P : Type:=List Z02 × Z0a
def Y2z (E:List BT90)(u:Z0D):Option Z0P :=
 (Y1h E).bind fun(J,K)=>(Y00 (J,K)).bind fun b4=>(if b4=true then some ([],(J,K)) else(Y2f (u.1,u.2.1,u.2.2.1)).bind fun(M,n8)=>(Y00 (M,n8)).bind fun N=>(if N=true then(Y03 M (-3)).bind fun(O,U)=>some ([],(O,U)) else(Y3a (u.2.2.2.1,u.2.2.2.2)).bind fun(V,(z,Y))=>(Y00 (z,Y)).bind fun Z=>(if Z=true then(Y03 z (-2)).bind fun(a0,a1)=>some ([],(a0,a1)) else(Y3f (u.1,u.2.1,u.2.2.1,u.2.2.2.1,u.2.2.2.2,(V.length:Int),([],0),([]:List Z02),()) E 0).bind fun(a9,f)=>(Y1Y f.2.2.2.2.2.2.2.1).bind fun a2=>((if a2=true then some (f.1,f.2.2.1,f.2.2.2.2.2.1,f.2.2.2.2.2.2.2.1) else(app 32 f.2.2.2.2.2.2.2.1 ([(1,[],0)]:List Z02)).bind fun a3=>some (f.1,f.2.2.1,f.2.2.2.2.2.1,a3))).bind fun(aa,ab,ac,a4)=>(Y0f).bind fun(a5,a6)=>some (a4,(a5,a6)))))
def Y2d (u:List BT90)(f:Z0D):Option Z0P :=
 (Y2z u (f.1,f.2.1,f.2.2.1,f.2.2.2.1,f.2.2.2.2)).bind fun(z,(E,J))=>some (z,(E,J))
def Y54 (f:Ls):Option Bool :=
 ((Y4v f).bind fun u=>(if u=true then(Y1Z f).bind fun z=>some (decide (z=f)) else some false)).bind fun E=>some E
def Y1d (f:List Ls)(z:(Ls->Option Bool)):Nat->Int->Option Unit
 | 0,_=>none
 | J+1,u=>(if u<(f.length:Int) then(idx f u).bind fun K=>(z K).bind fun M=>(if M=true then none else(chk (u+1)).bind fun E=>Y1d f z J E) else some ())
def Y2Q (f:List Ls)(u:(Ls->Option Bool)):Option Int :=
 (Y1d f u FU 0).bind fun _=>some (-1)
def Y2r (f:List Ls)(u:(Ls->Option Bool)):Option Bool :=
 (Y2Q f u).bind fun z=>some (decide ((0:Int)<=z))
def Y5n (f:Ls):Option Bool :=
 ((Y54 f).bind fun u=>(if u=true then(Y2V f [77,97,105,108,45,83,105,103,110,97,116,117,114,101]).bind fun z=>some z else some true)).bind fun E=>some E
def Y69 (f:List Ls):Option Bool :=
 ((if (1:Int)<=(f.length:Int) then(if (f.length:Int)<=(20:Int) then(Y2r f Y5n).bind fun u=>some (!u) else some false) else some false)).bind fun z=>some z
def Y2m {σ:Type}(Y:σ->Ls->Option (σ × Bool))(K:Ls)(M:Int):Nat->Ls->σ->Option ((Ls × σ) ⊕ σ)
 | 0,_,_=>none
 | N+1,f,z=>(Y5O f K).bind fun u=>(if u<(0:Int) then some (.inl (f,z)) else(chk (u+M)).bind fun O=>(cut f 0 O).bind fun E=>(cut E 0 (E.length:Int)).bind fun U=>(Y z U).bind fun(J,V)=>(if V=true then(chk (u+(K.length:Int))).bind fun Z=>(cut f Z (f.length:Int)).bind fun a0=>Y2m Y K M N a0 J else some (.inr J)))
def Y4a (f:Ls)(M:Ls)(N:Int)(σ:Type)(Y:σ->Ls->Option (σ × Bool))(O:σ):Option σ :=
 (if (f.length:Int)=(0:Int) then none else((Y2m Y f N FU M O:Option ((Ls × σ) ⊕ σ))).bind fun u=>(match u with | .inl (z,U)=>(cut z 0 (z.length:Int)).bind fun E=>(Y U E).bind fun(J,V)=>some J | .inr K=>some K))
def Y1J (f:Ls)(u:Ls):Option Ls :=
 (Y16 f u).bind fun z=>(if z=true then none else some f)
def Y2x (f:Ls)(u:Ls):Option Ls :=
 (Y1J f u).bind fun z=>some z
def Y1W (z:Ls):Nat->Ls->Int->Option Ls
 | 0,_,_=>none
 | E+1,J,f=>(if f<(z.length:Int) then(idx z f).bind fun u=>(Y2N u).bind fun K=>(if K=true then none else(app 1 J ([u]:Ls)).bind fun M=>(chk (f+1)).bind fun N=>Y1W z E M N) else some J)
def Y30 (u:Ls):Option Ls :=
 (Y1W u FU [] 0).bind fun z=>(Y2x z [32]).bind fun f=>some f
def Y3U  (s:Z0b) (N:Ls):Option Z0b :=
 match s with
 |(l2,u)=>(Y30 N).bind fun f=>(if f=[] then(chk (u+1)).bind fun z=>some (l2,z) else(Y2U [13,10] u).bind fun E=>(cat E f).bind fun J=>(cat J [13,10]).bind fun K=>(app 1 l2 K).bind fun M=>some (M,0))
def Y4Q (f:Ls):Option Ls :=
 (Y4a ([13,10]:Ls) f 0 Z0b (stepY goOn (Y3U)) ([],0)).bind fun(l2,u)=>some l2
def Y4R (f:Ls):Option Z0Q :=
 (if (12000:Int)<(f.length:Int) then none else(Y4Q f).bind fun l2=>(Y0f).bind fun(u,z)=>some (l2,(u,z)))
def Y4C (f:Z07):Option Ls :=
 (Y1Z f.1).bind fun u=>(cat u [58]).bind fun z=>(Y30 f.2).bind fun E=>(cat z E).bind fun J=>(cat J [13,10]).bind fun K=>some K
def Y2n (K:List Z07)(E:Ls):Nat->List Bool->Ls->Int->Option (List Bool × Ls)
 | 0,_,_,_=>none
 | M+1,u,z,f=>(if (0:Int)<=f then((idx u f).bind fun N=>(if N=true then some false else(idx K f).bind fun O=>(Y2V O.1 E).bind fun U=>some U)).bind fun V=>(if V=true then(idx u f).bind fun a2=>(put u f true).bind fun Y=>(idx K f).bind fun J=>(Y4C (J.1,J.2)).bind fun Z=>(app 1 z Z).bind fun a0=>some (Y,a0) else(chk (f-1)).bind fun a1=>Y2n K E M u z a1) else some (u,z))
def Y2o (z:List Z07)(E:List Ls):Nat->List Bool->Ls->Int->Option Ls
 | 0,_,_,_=>none
 | J+1,K,u,f=>(if f<(E.length:Int) then(idx E f).bind fun M=>(chk ((z.length:Int)-1)).bind fun N=>(Y2n z M FU K u N).bind fun(O,U)=>(chk (f+1)).bind fun V=>Y2o z E J O U V else some u)
def Y4b (f:List Z07)(u:List Ls):Option Z0Q :=
 (Y2l f).bind fun(K,M)=>(Y00 (K,M)).bind fun N=>(if N=true then none else(if (300:Int)<(u.length:Int) then none else(mkS 1 (f.length:Int) (f.length:Int) (false:Bool)).bind fun O=>(Y2o f u FU O [] 0).bind fun z=>(Y0f).bind fun(E,J)=>some (z,(E,J))))
def Y4D (f:Ls):Nat->Int->Int->Option Int
 | 0,_,_=>none
 | J+1,u,z=>(if z<(f.length:Int) then(idx f z).bind fun E=>(chk (z+1)).bind fun K=>Y4D f J (xorU (IntKind.u64.wrap ((xorU u (IntKind.u64.wrap (E.toNat:Int)))*1099511628211)) (Int.fdiv (IntKind.u64.wrap ((xorU u (IntKind.u64.wrap (E.toNat:Int)))*1099511628211)) (2 ^ min (Int.toNat 29) (IntKind.bits .u64)))) K else some u)
def Y6t (z:Int)(f:Ls):Option Int :=
 (Y4D f FU (xorU z (11400714819323198485:Int)) 0).bind fun u=>some (xorU (IntKind.u64.wrap ((xorU u (IntKind.u64.wrap (f.length:Int)))*13787848793156543929)) (Int.fdiv (IntKind.u64.wrap ((xorU u (IntKind.u64.wrap (f.length:Int)))*13787848793156543929)) (2 ^ min (Int.toNat 31) (IntKind.bits .u64))))
def Y4E (z:Int)(E:Ls):Nat->Ls->Int->Option Ls
 | 0,_,_=>none
 | V+1,u,f=>(if f<(E.length:Int) then(chk ((4:Int)*f)).bind fun J=>(chk ((60:Int)-J)).bind fun K=>(shrU z K).bind fun M=>(idx [48,49,50,51,52,53,54,55,56,57,97,98,99,100,101,102] (andU M (15:Int))).bind fun N=>(idx u f).bind fun Y=>(put u f N).bind fun O=>(chk (f+1)).bind fun U=>Y4E z E V O U else some u)
def Y6u (u:Int):Option Ls :=
 (mkS 1 16 16 (0:UInt8)).bind fun f=>(Y4E u f FU f 0).bind fun z=>some z
def Y6a (u:Z0G)(p1:Ls)(z:Int)(E:List Ls):Option (Ls × Bool) :=
 (Y4R u.2).bind fun(l1,(n2,n3))=>(Y4b u.1 E).bind fun(l5,(n6,n7))=>((Y00 (n2,n3)).bind fun J=>(if J=true then some true else(Y00 (n6,n7)).bind fun K=>some K)).bind fun M=>(if M=true then none else(cat [100,61] p1).bind fun N=>(cat N [59,32,104,61]).bind fun O=>(Y3o E [58]).bind fun U=>(cat O U).bind fun V=>(cat V [59,32,98,61]).bind fun Y=>(Y6t z l1).bind fun Z=>(Y6u Z).bind fun a0=>(cat Y a0).bind fun a1=>(cat a1 [59,32,115,61]).bind fun f=>(app 1 l5 f).bind fun a2=>(Y6t z a2).bind fun a3=>(Y6u a3).bind fun a4=>(cat f a4).bind fun a5=>some (a5,true))
def Y1K (f:List (List Z07)):Nat->Int->Int->Option Int
 | 0,_,_=>none
 | K+1,z,u=>(if u<(f.length:Int) then(idx f u).bind fun M=>(chk (z+(M.length:Int))).bind fun E=>(if E<(0:Int) then none else(chk (u+1)).bind fun J=>Y1K f K E J) else some z)
def Y1L (z:List (List Z07)):Nat->List Z07->Int->Option (List Z07)
 | 0,_,_=>none
 | E+1,u,f=>(if f<(z.length:Int) then(idx z f).bind fun J=>(app 32 u J).bind fun K=>(chk (f+1)).bind fun M=>Y1L z E K M else some u)
def Y3l (f:List (List Z07)):Option (List Z07) :=
 (Y1K f FU 0 0).bind fun E=>(Y3N E).bind fun u=>(Y1L f FU u 0).bind fun z=>some z
def Y5Q (f:Z0G)(u:Ls)(z:Ls):Option Z0G :=
 (Y3l ([([(u,z)]:List Z07),f.1]:List (List Z07))).bind fun E=>(Y3O f.2).bind fun J=>some (E,J)
def Y6v (f:Z0G)(E:Ls)(p2:Int)(J:List Ls):Option (Z0G × Z0a) :=
 (Y1D (f.1,f.2)).bind fun(n1,n2)=>(Y00 (n1,n2)).bind fun b4=>(if b4=true then none else(Y54 E).bind fun b7=>(if b7=true then(Y69 J).bind fun K=>(if K=true then(Y6a (f.1,f.2) E p2 J).bind fun(M,N)=>(if N=true then(Y5Q (f.1,f.2) [77,97,105,108,45,83,105,103,110,97,116,117,114,101] M).bind fun(u,z)=>(Y1D (u,z)).bind fun(O,U)=>(Y00 (O,U)).bind fun V=>(if V=true then none else(Y0f).bind fun(Y,Z)=>some ((u,z),(Y,Z))) else none) else none) else none))
def Y35  : Option Bool :=
 (Y6v (([([70,114,111,109],[97,64,98,46,99]),([76,105,115,116,45,73,100],[120])]:List Z07),([104,105,13,10]:Ls)) [98,46,99] 3 ([[102,114,111,109]]:List Ls)).bind fun((J,l2),(K,U))=>(Y3S [105,102,32,101,120,105,115,116,115,32,34,108,105,115,116,45,105,100,34,32,123,32,102,105,108,101,32,34,108,105,115,116,115,34,59,32,125]).bind fun(M,(N,V))=>(Y2d M ([97,64,98,46,99],([([100,64,101,46,102],0)]:List Z0b),[],J,l2)).bind fun(f,(u,O))=>((if K=(0:Int) then(if N=(0:Int) then(if u=(0:Int) then(if (f.length:Int)=(1:Int) then(idx f 0).bind fun z=>some (decide (z.2.1=[108,105,115,116,115])) else some false) else some false) else some false) else some false)).bind fun E=>some E
def Y1A (p0:Ls)(f:Z0D):Option Bool :=
 (Y3S p0).bind fun(J,(n2,n3))=>(if n2=(0:Int) then(Y4y J).bind fun(b8,(n9,a9))=>(Y2d J (f.1,f.2.1,f.2.2.1,f.2.2.2.1,f.2.2.2.2)).bind fun(u,(z,K))=>(Y2P J (f.1,f.2.1,f.2.2.1,f.2.2.2.1,f.2.2.2.2)).bind fun(aa,M,(E,N))=>((if n9=(0:Int) then some (!decide (z=(0:Int))) else some true)).bind fun O=>(if O=true then((if z=E/\K=N then(Y35).bind fun U=>some U else some false)).bind fun V=>some V else(Y3A u).bind fun((Y,ab,ac,ad,ae),(Z,ah))=>((if E=(0:Int) then(if Z=(0:Int) then(Y1i u M).bind fun a0=>(if a0=true then(if b8=true then(if (0:Int)<(Y.length:Int) then(Y35).bind fun a1=>some a1 else some false) else(Y35).bind fun a2=>some a2) else some false) else some false) else some false)).bind fun a3=>some a3) else(Y35).bind fun b6=>some b6)
end Go.Ph.Pf
end
