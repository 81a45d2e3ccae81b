/-
  Lb, Row, Glo, Als, Shelf, Cls, Card, Open, Opf, Its, Cx, Bld, Own, Rl, Opa, Seq, Qt, Cl, Rpl, Tbl, Tv, Once, Pan, Any, Dfr, Bor, Pcs, Usr, Rcl, Rls, GrRef, Rpc, Low, Val, Vst, Sts: own texts of this repository (wip/tpl, wip/plans), merged and shaken by wip/tools/pack.py.
-/
import Derived.Lib.Split
import Derived.Lib.SplitLaws
import Derived.Lib.AtoiAll
import Derived.Lib.AtoiErrMem
import Derived.Lib.ItoaNum
import Derived.Lib.Repeat
import Derived.Sort.Grow
import Derived.WalkSmall
import Derived.WalkKit
import Derived.ProofKit
import Derived.OpenShut
import Derived.JoinedCond
import Derived.Carry
import Derived.Lib.LaidTab
import Derived.Lib.LaidU8
import Derived.Shelf.Vars
import Derived.Lay
import Derived.Test.YtkmjdamkifbddaaGreatDoorProg
import Derived.Shelf.Strings.Builder1
import Derived.Shelf.Strings.Builder2
import Derived.Shelf.Strings.OnBuilder
import Derived.Shelf.Strings.Trim
import Derived.Shelf.Small.Utf8
import Derived.Shelf.Small.Strs
import Derived.Shelf.Strings.BuilderF
import Derived.Shelf.Strings.BuilderK
import Derived.Shelf.Utf8.AppendRune
import Derived.Shelf.Utf8.AppendRunePlain
import Derived.Shelf.Utf8.RuneCount
import Derived.Shelf.Strings.Builder2Cap
import Derived.Shelf.Strings.Search1
import Derived.Shelf.Strings.Search2
import Derived.Shelf.Strings.Search3
import Derived.Shelf.Strings.Cut
import Derived.Shelf.Strings.Count
import Derived.Shelf.LaysM
import Derived.Shelf.Strings.Shaped
import Derived.Shelf.Strings.Prefix
import Derived.Shelf.Strings.Split
import Derived.Shelf.Strings.Replace
import Derived.Shelf.Strings.SplitShaped
import Derived.Shelf.Unicode.Decode
import Derived.Shelf.Strings.Runes
import Derived.Shelf.Strings.RuneCount
import Derived.Shelf.Strings.IndexAny
import Derived.Shelf.Strings.AsciiSet
import Derived.Shelf.Strings.IndexAnyAll
import Derived.Shelf.Strings.Explode
import Derived.Shelf.Unicode.DecodeSlow
import Derived.Shelf.Unicode.DecodeAny
import Derived.Shelf.Unicode.DecodeLast
import Derived.Shelf.Strings.BuilderCap
import Derived.Shelf.Bytes.SlIndexAt
import Derived.Shelf.Bytes.SlSearch0
import Derived.Shelf.Bytes.IndexByte
import Derived.Test.YtkmjdamkifbddaaGreatDoorRows
import Derived.KernelRfl
import Derived.Deep.DeepHandedRow
import Derived.Deep.Slices
import Derived.ChangeMaps5
import Derived.ChangeSame
import Derived.Lib.UnsafeStr
import Derived.Lib.Builder
import Derived.Laws.Externs
import Derived.Lib.Replace
import Derived.Lib.IndexMore
import Derived.Lib.LazyBuf
import Derived.Laws.CopyRow
import Derived.Laws.IdiomCopy
import Derived.Tactics
import Derived.Tactics2
import Derived.Defers
import Derived.Laws.Pointers
import Derived.Laws.LoneSync
import Derived.RegionTactic
import Derived.RegionCalls
import Derived.ChangeAlike
import Derived.RecoverIn
import Derived.Lib.DecodeN
import Derived.Test.YtkmjdamkifbddaaGreatDoorE7a
set_option maxRecDepth 100000
set_option linter.unusedVariables false
set_option linter.unusedSimpArgs false
section
namespace Go.Ph
open Go Go.RowKit Pl
namespace Pl
end Pl
theorem Ext.ofBelow {M:Mem}{w w':World}(ha:Ag M w)(hw:Below w.heap.size w w'):Ext w M w' M :=
 ⟨BelowX.of hw _,Mem.le.refl M,fun b' o' hb'=>by rw[hw.block b' (ha.lt hb')];exact ha b' o' hb',fun b' hb'=>rfl⟩
theorem Ext.ofAlloc {M:Mem}{w:World}(ha:Ag M w)(o:Obj):Ext w M (w.alloc o) (M.set w.heap.size o):=by
 have hn:M w.heap.size=none:=ha.none (l0e _);have hB:Below w.heap.size w (w.alloc o):=(Below.refl _ w).grown (grownBy_alloc' w o) (l0e _) (fun k hk=>by cases hk);refine⟨BelowX.of hB _,fun b o' hb=>?_,fun b o' hb=>?_,fun b hb=>?_⟩
 · unfold Mem.set;split
   · rename_i h;subst h;rw [hn] at hb;cases hb
   exact hb
 · unfold Mem.set at hb;split at hb
   · rename_i h;subst h;cases hb;exact heap_alloc_new w _
   rename_i h;have h1:=ha b o' hb;have h2:=ha.lt hb;rw[hB.block b h2];exact h1
 unfold Mem.set;rw [if_neg Om]
theorem Sl.split {M:Mem}{b:Nat}{t:TypeId}{xs:List ByteArray}{l:List Ls}{n:Nat}(hx:xs.map (·.data.toList)=l)(hn:l.length=n)(hm:n≤9223372036854775807)(h:M b=some (.cells (xs.map Value.string).toArray t (0,0))):Sl M encS (.slice (some ⟨b,0,none⟩) n n) l:=by
 have hl:xs.map Value.string=l.map encS:=by
  subst hx;rw[l1z];apply l1y;intro x _;cases x;simp [encS]
 rw[hl] at h;subst hn;refine⟨some ⟨b,0,none⟩,l.length,G,l0e _,⟨by simp only[maxLen];omega,fun h=>by cases h⟩,fun _=>⟨b,0,_,t,(0,0),G,h,fun i x hi=>?_⟩⟩;rw[l0s,List.getElem?_toArray,List.getElem?_map,hi];rfl
end Go.Ph
end
section
namespace Go.Ph
open Go Go.RowKit Go.ChangeShapes Go.WideShapes Go.ChangeAt
abbrev memOf (W:World):Mem:=fun b=>W.heap[b]?
theorem ag_memOf (W:World):Ag (memOf W) W:=fun _ _ h=>h
section
variable {H : Type} {enc : TypeId × Value → H} {P : Program} {W W' : World}
theorem trodAll_stays (hl:laidOutB P=true)(hB:Below W.heap.size W W'){sp:Nat→Bool}:∀{ts:List TypeId} {vs:List Value} {ds:List (DataW H)} {ps:List MemPlace},(∀t∈ts,P.readableRec t=true∧t<P.types.size)→
 (∀x∈ps,x.block<W.heap.size)→(∀x∈ps,sp x.block=true)→DataW.TrodAll enc P W 0 (fun _=>true) true ts vs ds ps→DataW.TrodAll enc P W' 0 sp true ts vs ds ps
 | [],_,_,_,_,_,_,h=>by
   obtain⟨rfl,rfl,rfl⟩:=trodAll_nil h;exact trodAll_mk0
 | t::ts,_,_,_,ht,hlt,hs,h=>by
   obtain⟨v,vs',d,ds',p,q,rfl,rfl,rfl,h1,h2⟩:=trodAll_cons h;have ht1:=ht t l0D;exact⟨p,q,WideElems.Trod_stays hl ht1.1 ht1.2 h1 (fun x hx=>hB.same (hlt x (l1v _ hx))) (fun x hx=>hs x (l1v _ hx)),
    trodAll_stays hl hB (fun t' ht'=>ht t' (l0t _ ht')) (fun x hx=>hlt x (l1F _ hx)) (fun x hx=>hs x (l1F _ hx)) h2,rfl⟩
theorem law_done {f:Func}{s:ChangeSpec}{tb:TypeId}{apart fresh handsOn:Bool}{args:Array Value}{ds:List (DataW H)}{before:List MemPlace}(hl:laidOutB P=true)(hr0:(f.params.toList.all fun t=>P.readableRec t&&decide (t<P.types.size))=true)(hrt:f.resultTypes = #[tb])(hb:P.underlying tb=some .bool)
 (hW:DataW.Whole enc P f.params.toList s.vars apart W args.toList ds [] before) (hA:DataW.TrodAll enc P W 0 (fun _=>true) true f.params.toList args.toList ds before) (hv:s.vars=[]) (h1:(s.fn H (ds++[])).results=[.lit (.bool true)]) (h2:(s.fn H (ds++[])).args=ds) (h3:(s.fn H (ds++[])).vars=[])
 (hB:Below W.heap.size W W'):s.post enc P f apart fresh handsOn false W args (.bool true) W':=by
 have hlt :∀p∈before,p.block<W.heap.size:=fun p hp=>hW.lt p hp
 have hr :∀t∈f.params.toList,P.readableRec t=true∧t<P.types.size:=fun t ht=>by simpa using List.all_eq_true.1 hr0 t ht
 refine⟨ds,[],before,[],before,[],hW,?_,?_,?_,hB.frame _,fun h=>by cases h⟩
 · rw[hrt,h1];exact trodAll_mk1 (shut_bool hb _)
 · rw[h2];exact trodAll_stays hl hB hr hlt (fun x hx=>by simpa using hlt x hx) hA
 rw[hv,h3];rfl
theorem cells_at {A:Addr}{n:Nat}{f:Nat→Value}(hn:0<n)(h :∀i,i<n→W.cell? (A.add i)=some (f i)):∃b o cs t fz,A=⟨b,o,none⟩∧memOf W b=some (.cells cs t fz)∧∀i,i<n→cs[o+i]? = some (f i):=by
 obtain⟨b,o,s⟩:=A;obtain rfl:s=none:=by simpa [Addr.add] using World.cell?_spot (h 0 hn)
 have h0:=h 0 hn;rw[Addr.add_lit] at h0;simp only[World.cell?] at h0;cases hb:W.heap[b]? with
 | none=>rw[hb] at h0;cases h0
 | some ob =>
   cases ob with
   | cells cs t fz =>
     refine⟨b,o,cs,t,fz,G,hb,fun i hi=>?_⟩;have:=h i hi;rw[Addr.add_lit] at this;simpa [World.cell?,hb] using this
   | _=>rw[hb] at h0;cases h0
def DLen {H:Type}(d:DataW H)(n:Nat):Prop:=(d = .nil∧n=0)∨∃els sp,d = .slice els sp∧els.length=n
theorem weights_at {ts:List TypeId}{ds:List (DataW H)}(h :∀x∈DataW.weightsEach P ts ds,x≤reachBytes):∀(j:Nat) (t:TypeId) (d:DataW H),ts[j]? = some t→ds[j]? = some d→∀x∈d.weights P t,x≤reachBytes:=by
 intro j;induction j generalizing ts ds with
 | zero =>
   intro t d ht hd x hx;cases ts with
   | nil=>cases ht
   | cons a ts=>cases ds with
     | nil=>cases hd
     | cons b ds =>
       cases ht;cases hd;exact h x (by rw[DataW.weightsEach];exact l1v _ hx)
 | succ j ih =>
   intro t d ht hd x hx;cases ts with
   | nil=>cases ht
   | cons a ts=>cases ds with
     | nil=>cases hd
     | cons b ds=>exact ih (fun y hy=>h y (by rw[DataW.weightsEach];exact l1F _ hy)) t d ht hd x hx
theorem weights_of {ts vs:List TypeId}{ds gs:List (DataW H)}(h:(DataW.weightsEach P (ts++vs) (ds++gs)).all (· ≤reachBytes)=true)(j:Nat)(t:TypeId)(d:DataW H)(ht:ts[j]? = some t)(hd:ds[j]? = some d):∀x∈d.weights P t,x≤reachBytes :=
 weights_at (fun x hx=>of_decide_eq_true (List.all_eq_true.1 h x hx)) j t d (by rw[List.getElem?_append_left (List.getElem?_eq_some_iff.1 ht).1];exact ht) (by rw[List.getElem?_append_left (List.getElem?_eq_some_iff.1 hd).1];exact hd)
theorem slice_weight {t e:TypeId}{d:DataW H}{n k:Nat}(ht:P.underlying t=some (.slice e))(hb:P.bytesOf e=k)(hk:0<k)(hd:DLen d n)(h :∀x∈d.weights P t,x≤reachBytes):n≤140737488351232:=by
 rcases hd with ⟨_,rfl⟩|⟨els,sp,rfl,rfl⟩
 · omega
 have h1:=h ((els.length+sp.length)*k) (by simp only[DataW.weights,ht,hb];exact l0D);have h2:els.length≤(els.length+sp.length)*k:=l0N (Nat.le_add_right _ _) (Nat.le_mul_of_pos_right _ hk);simp only[reachBytes] at h1;omega
end
end Go.Ph
end
section
namespace Go.Ph
open Go Go.RowKit
theorem cell_upM {W w:World}(ha:Ag (memOf W) w){p:Addr}{v:Value}(h:W.cell? p=some v):w.cell? p=some v:=by
 unfold World.cell? at h ⊢;cases hb:W.heap[p.block]? with
 | none=>rw[hb] at h;cases h
 | some o=>rw[ha p.block o hb];rw [hb] at h;exact h
end Go.Ph
end
section
abbrev _root_.Tf106 := @Go.Proofs.Tryz.func106
abbrev _root_.Tf107 := @Go.Proofs.Tryz.func107
abbrev _root_.Tf108 := @Go.Proofs.Tryz.func108
abbrev _root_.Tf114 := @Go.Proofs.Tryz.func114
abbrev _root_.Tf128 := @Go.Proofs.Tryz.func128
abbrev _root_.Tf129 := @Go.Proofs.Tryz.func129
abbrev _root_.Tf130 := @Go.Proofs.Tryz.func130
abbrev _root_.Tf133 := @Go.Proofs.Tryz.func133
abbrev _root_.Tf134 := @Go.Proofs.Tryz.func134
abbrev _root_.Tf140 := @Go.Proofs.Tryz.func140
abbrev _root_.Tf144 := @Go.Proofs.Tryz.func144
abbrev _root_.Tf145 := @Go.Proofs.Tryz.func145
abbrev _root_.Tf161 := @Go.Proofs.Tryz.func161
abbrev _root_.Tf162 := @Go.Proofs.Tryz.func162
abbrev _root_.Tf163 := @Go.Proofs.Tryz.func163
abbrev _root_.Tf164 := @Go.Proofs.Tryz.func164
abbrev _root_.Tf165 := @Go.Proofs.Tryz.func165
abbrev _root_.Tf166 := @Go.Proofs.Tryz.func166
abbrev _root_.Tf175 := @Go.Proofs.Tryz.func175
abbrev _root_.Tf186 := @Go.Proofs.Tryz.func186
abbrev _root_.Tf188 := @Go.Proofs.Tryz.func188
abbrev _root_.Tf189 := @Go.Proofs.Tryz.func189
abbrev _root_.Tf218 := @Go.Proofs.Tryz.func218
abbrev _root_.Tf229 := @Go.Proofs.Tryz.func229
abbrev _root_.Tf230 := @Go.Proofs.Tryz.func230
abbrev _root_.Tf74 := @Go.Proofs.Tryz.func74
abbrev _root_.Tf75 := @Go.Proofs.Tryz.func75
abbrev _root_.Tf76 := @Go.Proofs.Tryz.func76
abbrev _root_.Tf96 := @Go.Proofs.Tryz.func96
abbrev _root_.Tf99 := @Go.Proofs.Tryz.func99
abbrev _root_.Ta0 := @Go.Proofs.Tryz.isAgg0
abbrev _root_.Ta100 := @Go.Proofs.Tryz.isAgg100
abbrev _root_.Ta115 := @Go.Proofs.Tryz.isAgg115
abbrev _root_.Ta121 := @Go.Proofs.Tryz.isAgg121
abbrev _root_.Ta123 := @Go.Proofs.Tryz.isAgg123
abbrev _root_.Ta124 := @Go.Proofs.Tryz.isAgg124
abbrev _root_.Ta125 := @Go.Proofs.Tryz.isAgg125
abbrev _root_.Ta128 := @Go.Proofs.Tryz.isAgg128
abbrev _root_.Ta140 := @Go.Proofs.Tryz.isAgg140
abbrev _root_.Ta144 := @Go.Proofs.Tryz.isAgg144
abbrev _root_.Ta154 := @Go.Proofs.Tryz.isAgg154
abbrev _root_.Ta185 := @Go.Proofs.Tryz.isAgg185
abbrev _root_.Ta186 := @Go.Proofs.Tryz.isAgg186
abbrev _root_.Ta188 := @Go.Proofs.Tryz.isAgg188
abbrev _root_.Ta20 := @Go.Proofs.Tryz.isAgg20
abbrev _root_.Ta205 := @Go.Proofs.Tryz.isAgg205
abbrev _root_.Ta208 := @Go.Proofs.Tryz.isAgg208
abbrev _root_.Ta21 := @Go.Proofs.Tryz.isAgg21
abbrev _root_.Ta22 := @Go.Proofs.Tryz.isAgg22
abbrev _root_.Ta24 := @Go.Proofs.Tryz.isAgg24
abbrev _root_.Ta27 := @Go.Proofs.Tryz.isAgg27
abbrev _root_.Ta3 := @Go.Proofs.Tryz.isAgg3
abbrev _root_.Ta30 := @Go.Proofs.Tryz.isAgg30
abbrev _root_.Ta34 := @Go.Proofs.Tryz.isAgg34
abbrev _root_.Ta4 := @Go.Proofs.Tryz.isAgg4
abbrev _root_.Ta5 := @Go.Proofs.Tryz.isAgg5
abbrev _root_.Ta55 := @Go.Proofs.Tryz.isAgg55
abbrev _root_.Ta88 := @Go.Proofs.Tryz.isAgg88
abbrev _root_.Ta9 := @Go.Proofs.Tryz.isAgg9
abbrev _root_.Ta94 := @Go.Proofs.Tryz.isAgg94
abbrev _root_.Ta96 := @Go.Proofs.Tryz.isAgg96
abbrev _root_.Ta99 := @Go.Proofs.Tryz.isAgg99
abbrev _root_.Ts0 := @Go.Proofs.Tryz.sizeOf0
abbrev _root_.Ts100 := @Go.Proofs.Tryz.sizeOf100
abbrev _root_.Ts115 := @Go.Proofs.Tryz.sizeOf115
abbrev _root_.Ts121 := @Go.Proofs.Tryz.sizeOf121
abbrev _root_.Ts123 := @Go.Proofs.Tryz.sizeOf123
abbrev _root_.Ts124 := @Go.Proofs.Tryz.sizeOf124
abbrev _root_.Ts125 := @Go.Proofs.Tryz.sizeOf125
abbrev _root_.Ts128 := @Go.Proofs.Tryz.sizeOf128
abbrev _root_.Ts136 := @Go.Proofs.Tryz.sizeOf136
abbrev _root_.Ts140 := @Go.Proofs.Tryz.sizeOf140
abbrev _root_.Ts144 := @Go.Proofs.Tryz.sizeOf144
abbrev _root_.Ts154 := @Go.Proofs.Tryz.sizeOf154
abbrev _root_.Ts185 := @Go.Proofs.Tryz.sizeOf185
abbrev _root_.Ts186 := @Go.Proofs.Tryz.sizeOf186
abbrev _root_.Ts188 := @Go.Proofs.Tryz.sizeOf188
abbrev _root_.Ts20 := @Go.Proofs.Tryz.sizeOf20
abbrev _root_.Ts205 := @Go.Proofs.Tryz.sizeOf205
abbrev _root_.Ts208 := @Go.Proofs.Tryz.sizeOf208
abbrev _root_.Ts21 := @Go.Proofs.Tryz.sizeOf21
abbrev _root_.Ts22 := @Go.Proofs.Tryz.sizeOf22
abbrev _root_.Ts230 := @Go.Proofs.Tryz.sizeOf230
abbrev _root_.Ts24 := @Go.Proofs.Tryz.sizeOf24
abbrev _root_.Ts258 := @Go.Proofs.Tryz.sizeOf258
abbrev _root_.Ts27 := @Go.Proofs.Tryz.sizeOf27
abbrev _root_.Ts3 := @Go.Proofs.Tryz.sizeOf3
abbrev _root_.Ts30 := @Go.Proofs.Tryz.sizeOf30
abbrev _root_.Ts34 := @Go.Proofs.Tryz.sizeOf34
abbrev _root_.Ts4 := @Go.Proofs.Tryz.sizeOf4
abbrev _root_.Ts5 := @Go.Proofs.Tryz.sizeOf5
abbrev _root_.Ts55 := @Go.Proofs.Tryz.sizeOf55
abbrev _root_.Ts88 := @Go.Proofs.Tryz.sizeOf88
abbrev _root_.Ts9 := @Go.Proofs.Tryz.sizeOf9
abbrev _root_.Ts94 := @Go.Proofs.Tryz.sizeOf94
abbrev _root_.Ts96 := @Go.Proofs.Tryz.sizeOf96
abbrev _root_.Ts99 := @Go.Proofs.Tryz.sizeOf99
abbrev _root_.Tu0 := @Go.Proofs.Tryz.underlying0
abbrev _root_.Tu100 := @Go.Proofs.Tryz.underlying100
abbrev _root_.Tu107 := @Go.Proofs.Tryz.underlying107
abbrev _root_.Tu115 := @Go.Proofs.Tryz.underlying115
abbrev _root_.Tu121 := @Go.Proofs.Tryz.underlying121
abbrev _root_.Tu123 := @Go.Proofs.Tryz.underlying123
abbrev _root_.Tu124 := @Go.Proofs.Tryz.underlying124
abbrev _root_.Tu125 := @Go.Proofs.Tryz.underlying125
abbrev _root_.Tu128 := @Go.Proofs.Tryz.underlying128
abbrev _root_.Tu136 := @Go.Proofs.Tryz.underlying136
abbrev _root_.Tu140 := @Go.Proofs.Tryz.underlying140
abbrev _root_.Tu143 := @Go.Proofs.Tryz.underlying143
abbrev _root_.Tu144 := @Go.Proofs.Tryz.underlying144
abbrev _root_.Tu154 := @Go.Proofs.Tryz.underlying154
abbrev _root_.Tu166 := @Go.Proofs.Tryz.underlying166
abbrev _root_.Tu188 := @Go.Proofs.Tryz.underlying188
abbrev _root_.Tu20 := @Go.Proofs.Tryz.underlying20
abbrev _root_.Tu205 := @Go.Proofs.Tryz.underlying205
abbrev _root_.Tu208 := @Go.Proofs.Tryz.underlying208
abbrev _root_.Tu21 := @Go.Proofs.Tryz.underlying21
abbrev _root_.Tu212 := @Go.Proofs.Tryz.underlying212
abbrev _root_.Tu214 := @Go.Proofs.Tryz.underlying214
abbrev _root_.Tu218 := @Go.Proofs.Tryz.underlying218
abbrev _root_.Tu22 := @Go.Proofs.Tryz.underlying22
abbrev _root_.Tu230 := @Go.Proofs.Tryz.underlying230
abbrev _root_.Tu232 := @Go.Proofs.Tryz.underlying232
abbrev _root_.Tu24 := @Go.Proofs.Tryz.underlying24
abbrev _root_.Tu258 := @Go.Proofs.Tryz.underlying258
abbrev _root_.Tu27 := @Go.Proofs.Tryz.underlying27
abbrev _root_.Tu3 := @Go.Proofs.Tryz.underlying3
abbrev _root_.Tu30 := @Go.Proofs.Tryz.underlying30
abbrev _root_.Tu34 := @Go.Proofs.Tryz.underlying34
abbrev _root_.Tu4 := @Go.Proofs.Tryz.underlying4
abbrev _root_.Tu5 := @Go.Proofs.Tryz.underlying5
abbrev _root_.Tu55 := @Go.Proofs.Tryz.underlying55
abbrev _root_.Tu69 := @Go.Proofs.Tryz.underlying69
abbrev _root_.Tu72 := @Go.Proofs.Tryz.underlying72
abbrev _root_.Tu88 := @Go.Proofs.Tryz.underlying88
abbrev _root_.Tu9 := @Go.Proofs.Tryz.underlying9
abbrev _root_.Tu94 := @Go.Proofs.Tryz.underlying94
abbrev _root_.Tu96 := @Go.Proofs.Tryz.underlying96
abbrev _root_.Tu99 := @Go.Proofs.Tryz.underlying99
abbrev _root_.Tz0 := @Go.Proofs.Tryz.zeroValue0
abbrev _root_.Tz100 := @Go.Proofs.Tryz.zeroValue100
abbrev _root_.Tz115 := @Go.Proofs.Tryz.zeroValue115
abbrev _root_.Tz123 := @Go.Proofs.Tryz.zeroValue123
abbrev _root_.Tz124 := @Go.Proofs.Tryz.zeroValue124
abbrev _root_.Tz125 := @Go.Proofs.Tryz.zeroValue125
abbrev _root_.Tz128 := @Go.Proofs.Tryz.zeroValue128
abbrev _root_.Tz136 := @Go.Proofs.Tryz.zeroValue136
abbrev _root_.Tz140 := @Go.Proofs.Tryz.zeroValue140
abbrev _root_.Tz144 := @Go.Proofs.Tryz.zeroValue144
abbrev _root_.Tz154 := @Go.Proofs.Tryz.zeroValue154
abbrev _root_.Tz188 := @Go.Proofs.Tryz.zeroValue188
abbrev _root_.Tz20 := @Go.Proofs.Tryz.zeroValue20
abbrev _root_.Tz205 := @Go.Proofs.Tryz.zeroValue205
abbrev _root_.Tz208 := @Go.Proofs.Tryz.zeroValue208
abbrev _root_.Tz21 := @Go.Proofs.Tryz.zeroValue21
abbrev _root_.Tz24 := @Go.Proofs.Tryz.zeroValue24
abbrev _root_.Tz258 := @Go.Proofs.Tryz.zeroValue258
abbrev _root_.Tz27 := @Go.Proofs.Tryz.zeroValue27
abbrev _root_.Tz3 := @Go.Proofs.Tryz.zeroValue3
abbrev _root_.Tz34 := @Go.Proofs.Tryz.zeroValue34
abbrev _root_.Tz4 := @Go.Proofs.Tryz.zeroValue4
abbrev _root_.Tz5 := @Go.Proofs.Tryz.zeroValue5
abbrev _root_.Tz55 := @Go.Proofs.Tryz.zeroValue55
abbrev _root_.Tz88 := @Go.Proofs.Tryz.zeroValue88
abbrev _root_.Tz9 := @Go.Proofs.Tryz.zeroValue9
abbrev _root_.Tz94 := @Go.Proofs.Tryz.zeroValue94
abbrev _root_.Tz96 := @Go.Proofs.Tryz.zeroValue96
abbrev _root_.Tz99 := @Go.Proofs.Tryz.zeroValue99
end
section
namespace Go.Proofs
open Go.Shelf
def Tryz.lays156_ren : Go.Shelf.Ren:=⟨fun|156=>41|165=>74|166=>75|169=>76|240=>106|241=>107|276=>133|277=>134|n=>n,fun|31=>55|9=>9|3=>3|4=>4|0=>0|20=>20|72=>96|76=>100|70=>94|37=>88|75=>99|127=>128|164=>144|5=>5|80=>102|n=>n,fun|n=>n⟩
theorem Tryz.lays156 : Go.Proofs.Lays.n156 Tryz.prog Tryz.lays156_ren:={
 mixed:=by kernel_rfl
 f156:=Tryz.func41.trans (congrArg some Kr)
 f165:=Tf74.trans (congrArg some Kr)
 f166:=Tf75.trans (congrArg some Kr)
 f169:=Tf76.trans (congrArg some Kr)
 f240:=Tf106.trans (congrArg some Kr)
 f241:=Tf107.trans (congrArg some Kr)
 f276:=Tf133.trans (congrArg some Kr)
 f277:=Tf134.trans (congrArg some Kr)
 t0:=Tu0
 a0:=Ta0
 z0:=Ts0
 v0:=Tz0
 t3:=Tu3
 a3:=Ta3
 z3:=Ts3
 v3:=Tz3
 t4:=Tu4
 a4:=Ta4
 z4:=Ts4
 v4:=Tz4
 t9:=Tu9
 a9:=Ta9
 z9:=Ts9
 v9:=Tz9
 t20:=Tu20
 a20:=Ta20
 z20:=Ts20
 v20:=Tz20
 t31:=Tu55
 a31:=Ta55
 z31:=Ts55
 v31:=Tz55
 t37:=Tu88
 a37:=Ta88
 z37:=Ts88
 v37:=Tz88
 t70:=Tu94
 a70:=Ta94
 z70:=Ts94
 v70:=Tz94
 t72:=Tu96
 a72:=Ta96
 z72:=Ts96
 v72:=Tz96
 t75:=Tu99
 a75:=Ta99
 z75:=Ts99
 v75:=Tz99
 t76:=Tu100
 a76:=Ta100
 z76:=Ts100
 v76:=Tz100
 t127:=Tu128
 a127:=Ta128
 z127:=Ts128
 v127:=Tz128
 t164:=Tu144
 a164:=Ta144
 z164:=Ts144
 v164:=Tz144}
theorem Tryz.Builder_Extra_156 : Builder.Extra Tryz.prog Tryz.lays156_ren:={
 sizeBuilder:=by kernel_rfl
 liesBuilder:=by kernel_rfl
 t5:=Tu5
 a5:=Ta5
 z5:=Ts5
 v5:=Tz5
 infoByte:=by kernel_rfl
 cellsByte:=by kernel_rfl
 sizeByte:=by kernel_rfl
 neB5:=by decide}
open Go.RowKit in
theorem Tryz.strings_Join_none (a:Option Addr) (c:Nat) (sep:ByteArray) (w:World) :
 Calls Tryz.prog 41 #[.slice a 0 c, .string sep] w fun e w'=>e = .returned (.string ⟨#[]⟩)∧w'=w:=Any.strings_Join_none Tryz.lays156 Tryz.Builder_Extra_156 a c sep w
open Go.RowKit in
theorem Tryz.strings_Join (bk o c:Nat) (xs:List ByteArray) (sep:ByteArray) (w:World) (hcells :∀(j:Nat) x,xs[j]? = some x→w.cell? ⟨bk,o+j,none⟩=some (.string x)) (hbk:bk<w.heap.size) (hN:xs.length≤140737488355328) (hcap:xs.length≤c) (hlen:(Lib.join (xs.map (·.data.toList)) sep.data.toList).length≤140737488355328) :
 Calls Tryz.prog 41 #[.slice (some ⟨bk,o,none⟩) xs.length c, .string sep] w fun e w'=>e = .returned (.string ⟨(Lib.join (xs.map (·.data.toList)) sep.data.toList).toArray⟩)∧Below w.heap.size w w':=Any.strings_Join Tryz.lays156 Tryz.Builder_Extra_156 bk o c xs sep w hcells hbk hN hcap hlen
def Tryz.lays137_ren : Go.Shelf.Ren:=⟨fun|137=>114|217=>145|266=>175|n=>n,fun|9=>9|5=>5|3=>3|n=>n,fun|n=>n⟩
theorem Tryz.lays137 : Go.Proofs.Lays.n137 Tryz.prog Tryz.lays137_ren:={
 mixed:=by kernel_rfl
 f137:=Tf114.trans (congrArg some Kr)
 f217:=Tf145.trans (congrArg some Kr)
 f266:=Tf175.trans (congrArg some Kr)
 t3:=Tu3
 a3:=Ta3
 z3:=Ts3
 v3:=Tz3
 t5:=Tu5
 a5:=Ta5
 z5:=Ts5
 v5:=Tz5
 t9:=Tu9
 a9:=Ta9
 z9:=Ts9
 v9:=Tz9}
open Go.RowKit in
theorem Tryz.strings_IndexByte (s:ByteArray) (c:Int) (w:World) :
 Calls Tryz.prog 114 #[.string s, .int .u8 c] w fun e w'=>e = .returned (.int .i64 (Lib.indexByte s.data.toList c.toNat.toUInt8))∧w'=w:=Any.strings_IndexByte Tryz.lays137 s c w
def Tryz.lays242_ren : Go.Shelf.Ren:=⟨fun|242=>196|278=>215|n=>n,fun|37=>88|21=>21|51=>154|4=>4|5=>5|46=>125|n=>n,fun|n=>n⟩
theorem Tryz.lays242 : Go.Proofs.Lays.n242 Tryz.prog Tryz.lays242_ren:={
 mixed:=by kernel_rfl
 f242:=Tryz.func196.trans (congrArg some Kr)
 f278:=Tryz.func215.trans (congrArg some Kr)
 t4:=Tu4
 a4:=Ta4
 z4:=Ts4
 v4:=Tz4
 t5:=Tu5
 a5:=Ta5
 z5:=Ts5
 v5:=Tz5
 t21:=Tu21
 a21:=Ta21
 z21:=Ts21
 v21:=Tz21
 t37:=Tu88
 a37:=Ta88
 z37:=Ts88
 v37:=Tz88
 t46:=Tu125
 a46:=Ta125
 z46:=Ts125
 v46:=Tz125
 t51:=Tu154
 a51:=Ta154
 z51:=Ts154
 v51:=Tz154}
open Go.RowKit in
theorem Tryz.utf8_AppendRune_plain (B:Nat) (v:Value) (n:Nat) (xs:List Value) (r:Int) (hr0 : -2147483648≤r) (hr1:r≤2147483647) (w:World) (hown:w.ownsRow B 5 1 v n xs) (hlen:n+4≤140737488355328) (hBw:B≤w.heap.size) :
 Calls Tryz.prog 196 #[v, .int .i32 r] w fun e w' =>∃v',e = .returned v'∧w'.ownsRow B 5 1 v' (n+(Lib.runeCells r).length) (xs++Lib.runeCells r)∧∃o,(w.alloc o).grownBy w' v.ownBlock:=Any.utf8_AppendRune_plain Tryz.lays242 Kr B v n xs r hr0 hr1 w hown hlen hBw
def Tryz.lays219_ren : Go.Shelf.Ren:=⟨fun|219=>128|217=>145|225=>163|224=>164|267=>165|266=>175|314=>189|n=>n,fun|9=>9|3=>3|4=>4|5=>5|46=>125|146=>205|51=>154|n=>n,fun|1=>2|n=>n⟩
theorem Tryz.lays219 : Go.Proofs.Lays.n219 Tryz.prog Tryz.lays219_ren:={
 mixed:=by kernel_rfl
 f217:=Tf145.trans (congrArg some Kr)
 f219:=Tf128.trans (congrArg some Kr)
 f224:=Tf164.trans (congrArg some Kr)
 f225:=Tf163.trans (congrArg some Kr)
 f266:=Tf175.trans (congrArg some Kr)
 f267:=Tf165.trans (congrArg some Kr)
 f314:=Tf189.trans (congrArg some Kr)
 t3:=Tu3
 a3:=Ta3
 z3:=Ts3
 v3:=Tz3
 t4:=Tu4
 a4:=Ta4
 z4:=Ts4
 v4:=Tz4
 t5:=Tu5
 a5:=Ta5
 z5:=Ts5
 v5:=Tz5
 t9:=Tu9
 a9:=Ta9
 z9:=Ts9
 v9:=Tz9
 t46:=Tu125
 a46:=Ta125
 z46:=Ts125
 v46:=Tz125
 t51:=Tu154
 a51:=Ta154
 z51:=Ts154
 v51:=Tz154
 t146:=Tu205
 a146:=Ta205
 z146:=Ts205
 v146:=Tz205
 g1:=by kernel_rfl}
open Go.RowKit Go.Lib in
theorem Tryz.stringslite_Index (s sub:ByteArray) (m:Int) (w:World) (hs:s.size<4294967281) (hm:w.cell? ⟨2,0,none⟩=some (.int .i64 m)) :
 Calls Tryz.prog 128 #[.string s, .string sub] w fun e w'=>e = .returned (.int .i64 (Lib.index s.data.toList sub.data.toList))∧w'=w:=Any.stringslite_Index Tryz.lays219 s sub m w hs hm
def Tryz.lays143_ren : Go.Shelf.Ren:=⟨fun|143=>144|219=>128|217=>145|225=>163|224=>164|267=>165|266=>175|314=>189|n=>n,fun|9=>9|3=>3|4=>4|5=>5|46=>125|146=>205|51=>154|n=>n,fun|1=>2|n=>n⟩
theorem Tryz.lays143 : Go.Proofs.Lays.n143 Tryz.prog Tryz.lays143_ren:={
 mixed:=by kernel_rfl
 f143:=Tf144.trans (congrArg some Kr)
 f217:=Tf145.trans (congrArg some Kr)
 f219:=Tf128.trans (congrArg some Kr)
 f224:=Tf164.trans (congrArg some Kr)
 f225:=Tf163.trans (congrArg some Kr)
 f266:=Tf175.trans (congrArg some Kr)
 f267:=Tf165.trans (congrArg some Kr)
 f314:=Tf189.trans (congrArg some Kr)
 t3:=Tu3
 a3:=Ta3
 z3:=Ts3
 v3:=Tz3
 t4:=Tu4
 a4:=Ta4
 z4:=Ts4
 v4:=Tz4
 t5:=Tu5
 a5:=Ta5
 z5:=Ts5
 v5:=Tz5
 t9:=Tu9
 a9:=Ta9
 z9:=Ts9
 v9:=Tz9
 t46:=Tu125
 a46:=Ta125
 z46:=Ts125
 v46:=Tz125
 t51:=Tu154
 a51:=Ta154
 z51:=Ts154
 v51:=Tz154
 t146:=Tu205
 a146:=Ta205
 z146:=Ts205
 v146:=Tz205
 g1:=by kernel_rfl}
open Go.RowKit Go.Lib in
theorem Tryz.strings_Index (s sub:ByteArray) (m:Int) (w:World) (hs:s.size<4294967281) (hm:w.cell? ⟨2,0,none⟩=some (.int .i64 m)) :
 Calls Tryz.prog 144 #[.string s, .string sub] w fun e w'=>e = .returned (.int .i64 (Lib.index s.data.toList sub.data.toList))∧w'=w:=Any.strings_Index Tryz.lays143 s sub m w hs hm
def Tryz.lays144_ren : Go.Shelf.Ren:=⟨fun|144=>137|143=>144|219=>128|217=>145|225=>163|224=>164|267=>165|266=>175|314=>189|n=>n,fun|9=>9|4=>4|3=>3|5=>5|46=>125|146=>205|51=>154|n=>n,fun|1=>2|n=>n⟩
theorem Tryz.lays144 : Go.Proofs.Lays.n144 Tryz.prog Tryz.lays144_ren:={
 mixed:=by kernel_rfl
 f143:=Tf144.trans (congrArg some Kr)
 f144:=Tryz.func137.trans (congrArg some Kr)
 f217:=Tf145.trans (congrArg some Kr)
 f219:=Tf128.trans (congrArg some Kr)
 f224:=Tf164.trans (congrArg some Kr)
 f225:=Tf163.trans (congrArg some Kr)
 f266:=Tf175.trans (congrArg some Kr)
 f267:=Tf165.trans (congrArg some Kr)
 f314:=Tf189.trans (congrArg some Kr)
 t3:=Tu3
 a3:=Ta3
 z3:=Ts3
 v3:=Tz3
 t4:=Tu4
 a4:=Ta4
 z4:=Ts4
 v4:=Tz4
 t5:=Tu5
 a5:=Ta5
 z5:=Ts5
 v5:=Tz5
 t9:=Tu9
 a9:=Ta9
 z9:=Ts9
 v9:=Tz9
 t46:=Tu125
 a46:=Ta125
 z46:=Ts125
 v46:=Tz125
 t51:=Tu154
 a51:=Ta154
 z51:=Ts154
 v51:=Tz154
 t146:=Tu205
 a146:=Ta205
 z146:=Ts205
 v146:=Tz205
 g1:=by kernel_rfl}
open Go.RowKit Go.Lib in
theorem Tryz.strings_Contains (s sub:ByteArray) (m:Int) (w:World) (hs:s.size<4294967281) (hm:w.cell? ⟨2,0,none⟩=some (.int .i64 m)) :
 Calls Tryz.prog 137 #[.string s, .string sub] w fun e w'=>e = .returned (.bool (Lib.contains s.data.toList sub.data.toList))∧w'=w:=Any.strings_Contains Tryz.lays144 s sub m w hs hm
def Tryz.lays138_ren : Go.Shelf.Ren:=⟨fun|138=>218|195=>229|218=>230|143=>144|219=>128|217=>145|225=>163|224=>164|267=>165|266=>175|314=>189|n=>n,fun|9=>9|3=>3|4=>4|5=>5|0=>0|46=>125|146=>205|51=>154|n=>n,fun|1=>2|n=>n⟩
theorem Tryz.lays138 : Go.Proofs.Lays.n138 Tryz.prog Tryz.lays138_ren:={
 mixed:=by kernel_rfl
 f138:=Tf218.trans (congrArg some Kr)
 f143:=Tf144.trans (congrArg some Kr)
 f195:=Tf229.trans (congrArg some Kr)
 f217:=Tf145.trans (congrArg some Kr)
 f218:=Tf230.trans (congrArg some Kr)
 f219:=Tf128.trans (congrArg some Kr)
 f224:=Tf164.trans (congrArg some Kr)
 f225:=Tf163.trans (congrArg some Kr)
 f266:=Tf175.trans (congrArg some Kr)
 f267:=Tf165.trans (congrArg some Kr)
 f314:=Tf189.trans (congrArg some Kr)
 t0:=Tu0
 a0:=Ta0
 z0:=Ts0
 v0:=Tz0
 t3:=Tu3
 a3:=Ta3
 z3:=Ts3
 v3:=Tz3
 t4:=Tu4
 a4:=Ta4
 z4:=Ts4
 v4:=Tz4
 t5:=Tu5
 a5:=Ta5
 z5:=Ts5
 v5:=Tz5
 t9:=Tu9
 a9:=Ta9
 z9:=Ts9
 v9:=Tz9
 t46:=Tu125
 a46:=Ta125
 z46:=Ts125
 v46:=Tz125
 t51:=Tu154
 a51:=Ta154
 z51:=Ts154
 v51:=Tz154
 t146:=Tu205
 a146:=Ta205
 z146:=Ts205
 v146:=Tz205
 g1:=by kernel_rfl}
open Go.RowKit Go.Lib in
theorem Tryz.strings_Count_one (s:ByteArray) (c:UInt8) (w:World) :
 Calls Tryz.prog 218 #[.string s, .string ⟨#[c]⟩] w fun e w'=>e = .returned (.int .i64 (Lib.countByte s.data.toList c))∧w'=w:=Any.strings_Count_one Tryz.lays138 s c w
def Tryz.lays147_ren : Go.Shelf.Ren:=⟨fun|147=>184|221=>208|268=>225|138=>218|143=>144|195=>229|197=>130|218=>230|219=>128|260=>166|217=>145|225=>163|224=>164|267=>165|266=>175|314=>189|n=>n,fun|9=>9|3=>3|31=>55|4=>4|0=>0|105=>140|21=>21|5=>5|46=>125|119=>121|139=>124|138=>123|146=>205|51=>154|n=>n,fun|1=>2|3=>0|4=>1|n=>n⟩
theorem Tryz.lays147 : Go.Proofs.Lays.n147 Tryz.prog Tryz.lays147_ren:={
 mixed:=by kernel_rfl
 f138:=Tf218.trans (congrArg some Kr)
 f143:=Tf144.trans (congrArg some Kr)
 f147:=Tryz.func184.trans (congrArg some Kr)
 f195:=Tf229.trans (congrArg some Kr)
 f197:=Tf130.trans (congrArg some Kr)
 f217:=Tf145.trans (congrArg some Kr)
 f218:=Tf230.trans (congrArg some Kr)
 f219:=Tf128.trans (congrArg some Kr)
 f221:=Tryz.func208.trans (congrArg some Kr)
 f224:=Tf164.trans (congrArg some Kr)
 f225:=Tf163.trans (congrArg some Kr)
 f260:=Tf166.trans (congrArg some Kr)
 f266:=Tf175.trans (congrArg some Kr)
 f267:=Tf165.trans (congrArg some Kr)
 f268:=Tryz.func225.trans (congrArg some Kr)
 f314:=Tf189.trans (congrArg some Kr)
 t0:=Tu0
 a0:=Ta0
 z0:=Ts0
 v0:=Tz0
 t3:=Tu3
 a3:=Ta3
 z3:=Ts3
 v3:=Tz3
 t4:=Tu4
 a4:=Ta4
 z4:=Ts4
 v4:=Tz4
 t5:=Tu5
 a5:=Ta5
 z5:=Ts5
 v5:=Tz5
 t9:=Tu9
 a9:=Ta9
 z9:=Ts9
 v9:=Tz9
 t21:=Tu21
 a21:=Ta21
 z21:=Ts21
 v21:=Tz21
 t31:=Tu55
 a31:=Ta55
 z31:=Ts55
 v31:=Tz55
 t46:=Tu125
 a46:=Ta125
 z46:=Ts125
 v46:=Tz125
 t51:=Tu154
 a51:=Ta154
 z51:=Ts154
 v51:=Tz154
 t105:=Tu140
 a105:=Ta140
 z105:=Ts140
 v105:=Tz140
 t119:=Tu121
 a119:=Ta121
 z119:=Ts121
 t138:=Tu123
 a138:=Ta123
 z138:=Ts123
 v138:=Tz123
 t139:=Tu124
 a139:=Ta124
 z139:=Ts124
 v139:=Tz124
 t146:=Tu205
 a146:=Ta205
 z146:=Ts205
 v146:=Tz205
 g1:=by kernel_rfl
 g3:=by kernel_rfl
 g4:=by kernel_rfl}
open Go.RowKit Go.Lib in
theorem Tryz.strings_SplitN (s sep:ByteArray) (n:Nat) (m:Int) (w:World) (hs:s.size<4294967281) (hm:w.cell? ⟨2,0,none⟩=some (.int .i64 m)) (h1:1≤sep.size) (hn:1≤n) (hn63:n≤9223372036854775807) :
 Calls Tryz.prog 184 #[.string s, .string sep, .int .i64 n] w fun e w' =>
  e = .returned (.slice (some ⟨w.heap.size,0,none⟩) (Lib.splitB sep 0 (min n (s.size+1)-1) s).length (min n (s.size+1)))∧w'=w.alloc (.cells (Lib.cellsOf (Lib.splitB sep 0 (min n (s.size+1)-1) s) (min n (s.size+1))) 9):=Any.strings_SplitN Tryz.lays147 Kr s sep n m w hs hm h1 hn hn63
def Tryz.lays155_ren : Go.Shelf.Ren:=⟨fun|155=>172|154=>201|138=>218|165=>74|143=>144|166=>75|197=>130|169=>76|195=>229|218=>230|240=>106|241=>107|219=>128|260=>166|276=>133|277=>134|217=>145|225=>163|224=>164|267=>165|266=>175|314=>189|n=>n,fun|9=>9|3=>3|4=>4|72=>96|0=>0|76=>100|105=>140|21=>21|5=>5|70=>94|20=>20|37=>88|75=>99|127=>128|164=>144|46=>125|119=>121|139=>124|138=>123|146=>205|51=>154|80=>102|n=>n,fun|1=>2|3=>0|4=>1|n=>n⟩
theorem Tryz.lays155 : Go.Proofs.Lays.n155 Tryz.prog Tryz.lays155_ren:={
 mixed:=by kernel_rfl
 f138:=Tf218.trans (congrArg some Kr)
 f143:=Tf144.trans (congrArg some Kr)
 f154:=Tryz.func201.trans (congrArg some Kr)
 f155:=Tryz.func172.trans (congrArg some Kr)
 f165:=Tf74.trans (congrArg some Kr)
 f166:=Tf75.trans (congrArg some Kr)
 f169:=Tf76.trans (congrArg some Kr)
 f195:=Tf229.trans (congrArg some Kr)
 f197:=Tf130.trans (congrArg some Kr)
 f217:=Tf145.trans (congrArg some Kr)
 f218:=Tf230.trans (congrArg some Kr)
 f219:=Tf128.trans (congrArg some Kr)
 f224:=Tf164.trans (congrArg some Kr)
 f225:=Tf163.trans (congrArg some Kr)
 f240:=Tf106.trans (congrArg some Kr)
 f241:=Tf107.trans (congrArg some Kr)
 f260:=Tf166.trans (congrArg some Kr)
 f266:=Tf175.trans (congrArg some Kr)
 f267:=Tf165.trans (congrArg some Kr)
 f276:=Tf133.trans (congrArg some Kr)
 f277:=Tf134.trans (congrArg some Kr)
 f314:=Tf189.trans (congrArg some Kr)
 t0:=Tu0
 a0:=Ta0
 z0:=Ts0
 v0:=Tz0
 t3:=Tu3
 a3:=Ta3
 z3:=Ts3
 v3:=Tz3
 t4:=Tu4
 a4:=Ta4
 z4:=Ts4
 v4:=Tz4
 t5:=Tu5
 a5:=Ta5
 z5:=Ts5
 v5:=Tz5
 t9:=Tu9
 a9:=Ta9
 z9:=Ts9
 v9:=Tz9
 t20:=Tu20
 a20:=Ta20
 z20:=Ts20
 v20:=Tz20
 t21:=Tu21
 a21:=Ta21
 z21:=Ts21
 v21:=Tz21
 t37:=Tu88
 a37:=Ta88
 z37:=Ts88
 v37:=Tz88
 t46:=Tu125
 a46:=Ta125
 z46:=Ts125
 v46:=Tz125
 t51:=Tu154
 a51:=Ta154
 z51:=Ts154
 v51:=Tz154
 t70:=Tu94
 a70:=Ta94
 z70:=Ts94
 v70:=Tz94
 t72:=Tu96
 a72:=Ta96
 z72:=Ts96
 v72:=Tz96
 t75:=Tu99
 a75:=Ta99
 z75:=Ts99
 v75:=Tz99
 t76:=Tu100
 a76:=Ta100
 z76:=Ts100
 v76:=Tz100
 t105:=Tu140
 a105:=Ta140
 z105:=Ts140
 v105:=Tz140
 t119:=Tu121
 a119:=Ta121
 z119:=Ts121
 t127:=Tu128
 a127:=Ta128
 z127:=Ts128
 v127:=Tz128
 t138:=Tu123
 a138:=Ta123
 z138:=Ts123
 v138:=Tz123
 t139:=Tu124
 a139:=Ta124
 z139:=Ts124
 v139:=Tz124
 t146:=Tu205
 a146:=Ta205
 z146:=Ts205
 v146:=Tz205
 t164:=Tu144
 a164:=Ta144
 z164:=Ts144
 v164:=Tz144
 g1:=by kernel_rfl
 g3:=by kernel_rfl
 g4:=by kernel_rfl}
theorem Tryz.Builder_Extra_155 : Builder.Extra Tryz.prog Tryz.lays155_ren:={
 sizeBuilder:=by kernel_rfl
 liesBuilder:=by kernel_rfl
 t5:=Tu5
 a5:=Ta5
 z5:=Ts5
 v5:=Tz5
 infoByte:=by kernel_rfl
 cellsByte:=by kernel_rfl
 sizeByte:=by kernel_rfl
 neB5:=by decide}
open Go.RowKit Go.Lib in
theorem Tryz.strings_ReplaceAll (s old new:ByteArray) (m:Int) (w:World) (hs:s.size<4294967281) (hm:w.cell? ⟨2,0,none⟩=some (.int .i64 m)) (h1:1≤old.size) (hlen:s.size+Lib.countB s old*new.size≤140737488355328) :
 Calls Tryz.prog 172 #[.string s, .string old, .string new] w fun e w' =>
  e = .returned (.string ⟨(Lib.replaceAll s.data.toList old.data.toList new.data.toList).toArray⟩)∧Below w.heap.size w w':=Any.strings_ReplaceAll Tryz.lays155 Tryz.Builder_Extra_155 s old new m w hs hm h1 hlen
def Tryz.lays197_ren : Go.Shelf.Ren:=⟨fun|197=>130|260=>166|n=>n,fun|9=>9|21=>21|3=>3|4=>4|5=>5|105=>140|119=>121|0=>0|46=>125|139=>124|138=>123|n=>n,fun|3=>0|4=>1|n=>n⟩
theorem Tryz.lays197 : Go.Proofs.Lays.n197 Tryz.prog Tryz.lays197_ren:={
 mixed:=by kernel_rfl
 f197:=Tf130.trans (congrArg some Kr)
 f260:=Tf166.trans (congrArg some Kr)
 t0:=Tu0
 a0:=Ta0
 z0:=Ts0
 v0:=Tz0
 t3:=Tu3
 a3:=Ta3
 z3:=Ts3
 v3:=Tz3
 t4:=Tu4
 a4:=Ta4
 z4:=Ts4
 v4:=Tz4
 t5:=Tu5
 a5:=Ta5
 z5:=Ts5
 v5:=Tz5
 t9:=Tu9
 a9:=Ta9
 z9:=Ts9
 v9:=Tz9
 t21:=Tu21
 a21:=Ta21
 z21:=Ts21
 v21:=Tz21
 t46:=Tu125
 a46:=Ta125
 z46:=Ts125
 v46:=Tz125
 t105:=Tu140
 a105:=Ta140
 z105:=Ts140
 v105:=Tz140
 t119:=Tu121
 a119:=Ta121
 z119:=Ts121
 t138:=Tu123
 a138:=Ta123
 z138:=Ts123
 v138:=Tz123
 t139:=Tu124
 a139:=Ta124
 z139:=Ts124
 v139:=Tz124
 g3:=by kernel_rfl
 g4:=by kernel_rfl}
def Tryz.lays260_ren : Go.Shelf.Ren:=⟨fun|260=>166|n=>n,fun|9=>9|21=>21|3=>3|4=>4|5=>5|119=>121|0=>0|46=>125|139=>124|138=>123|n=>n,fun|3=>0|4=>1|n=>n⟩
theorem Tryz.lays260 : Go.Proofs.Lays.n260 Tryz.prog Tryz.lays260_ren:={
 mixed:=by kernel_rfl
 f260:=Tf166.trans (congrArg some Kr)
 t0:=Tu0
 a0:=Ta0
 z0:=Ts0
 v0:=Tz0
 t3:=Tu3
 a3:=Ta3
 z3:=Ts3
 v3:=Tz3
 t4:=Tu4
 a4:=Ta4
 z4:=Ts4
 v4:=Tz4
 t5:=Tu5
 a5:=Ta5
 z5:=Ts5
 v5:=Tz5
 t9:=Tu9
 a9:=Ta9
 z9:=Ts9
 v9:=Tz9
 t21:=Tu21
 a21:=Ta21
 z21:=Ts21
 v21:=Tz21
 t46:=Tu125
 a46:=Ta125
 z46:=Ts125
 v46:=Tz125
 t119:=Tu121
 a119:=Ta121
 z119:=Ts121
 t138:=Tu123
 a138:=Ta123
 z138:=Ts123
 v138:=Tz123
 t139:=Tu124
 a139:=Ta124
 z139:=Ts124
 v139:=Tz124
 g3:=by kernel_rfl
 g4:=by kernel_rfl}
open Go.RowKit Go.Lib in
theorem Tryz.utf8_DecodeRuneInString (s:ByteArray) (w:World) (hT:Lib.Utf8Tabs 0 1 w) :
 Calls Tryz.prog 130 #[.string s] w fun e w'=>e = .returned (.tuple #[.int .i32 (Lib.decodeGo s).1, .int .i64 (Lib.decodeGo s).2])∧Below w.heap.size w w':=Any.utf8_DecodeRuneInString Tryz.lays197 s w hT
def Tryz.lays187_ren : Go.Shelf.Ren:=⟨fun|187=>226|255=>240|n=>n,fun|37=>88|5=>5|3=>3|n=>n,fun|n=>n⟩
theorem Tryz.lays187 : Go.Proofs.Lays.n187 Tryz.prog Tryz.lays187_ren:={
 mixed:=by kernel_rfl
 f187:=Tryz.func226.trans (congrArg some Kr)
 f255:=Tryz.func240.trans (congrArg some Kr)
 t3:=Tu3
 a3:=Ta3
 z3:=Ts3
 v3:=Tz3
 t5:=Tu5
 a5:=Ta5
 z5:=Ts5
 v5:=Tz5
 t37:=Tu88
 a37:=Ta88
 z37:=Ts88
 v37:=Tz88}
open Go.RowKit Go.Lib in
theorem Tryz.bytes_IndexByte_at (a:Addr) (n c:Nat) (xs:List Int) (cv:Int) (w:World) (hx:xs.length=n) (hc :∀i,i<n→w.cell? (a.add i)=some (.int .u8 (xs.getD i 0))) :
 Calls Tryz.prog 226 #[.slice (some a) n c, .int .u8 cv] w fun e w'=>e = .returned (.int .i64 (Lib.indexByte (Lib.bytesOf xs) cv.toNat.toUInt8))∧w'=w:=Any.bytes_IndexByte_at Tryz.lays187 a n c xs cv w hx hc
theorem Tryz.bytes_IndexByte_nil (cv:Int)(w:World):
 Calls Tryz.prog 226 #[.slice none 0 0, .int .u8 cv] w fun e w'=>e = .returned (.int .i64 (-1))∧w'=w:=Any.bytes_IndexByte_nil Tryz.lays187 cv w
end Go.Proofs
end
section
namespace Go.Proofs.YtkmjdamkifbddaaGreatDoor
open Go Go.RowKit Go.Ph
theorem ty55 : ElemTy Tryz.prog 55 9 (.string ⟨#[]⟩) 1 16:=q1L Tu55 Kr rfl Dc
theorem ty88 : ElemTy Tryz.prog 88 5 (.int .u8 0) 1 1:=q1L Tu88 Kr rfl Dc
theorem ty212 : ElemTy Tryz.prog 212 21 (.int .i32 0) 1 4:=q1L Tu212 Kr rfl Dc
theorem places27 :∀{fs:Array Field},Tryz.prog.underlying 27=some (.struct fs)→∀w,(fs.mapM fun f=>do pure (f.offset,←sizeOf f.type):Sem (Array (Nat × Nat))).run Tryz.prog w = .ok #[(0,1),(1,1)] w:=by
 intro fs h w;rw[Tu27] at h;cases h;simp
theorem places188 :∀{fs:Array Field},Tryz.prog.underlying 188=some (.struct fs)→∀w,(fs.mapM fun f=>do pure (f.offset,←sizeOf f.type):Sem (Array (Nat × Nat))).run Tryz.prog w = .ok #[(0,1),(1,1),(2,1)] w:=by
 intro fs h w;rw[Tu188] at h;cases h;simp
theorem places208 :∀{fs:Array Field},Tryz.prog.underlying 208=some (.struct fs)→∀w,(fs.mapM fun f=>do pure (f.offset,←sizeOf f.type):Sem (Array (Nat × Nat))).run Tryz.prog w = .ok #[(0,1),(1,1),(2,1)] w:=by
 intro fs h w;rw[Tu208] at h;cases h;simp
theorem places258 :∀{fs:Array Field},Tryz.prog.underlying 258=some (.struct fs)→∀w,(fs.mapM fun f=>do pure (f.offset,←sizeOf f.type):Sem (Array (Nat × Nat))).run Tryz.prog w = .ok #[(0,1),(1,1),(2,1)] w:=by
 intro fs h w;rw[Tu258] at h;cases h;simp
abbrev fault (c i:Int):Value := .agg #[I c,I i]
theorem fault_spec (c i:Int):Ct Tryz.prog 30 [I c,I i] (fun _=>True) (fun r _=>r=fault c i):=by
 refine Ct.of Tryz.func30 (enters Tryz.func30 Kr G) G G G ?_;intro w0 M0 H hp;refine SQ (RG (q0j [_,_] H Tz27 G (q00 G) G ?_));intro b4 w H;refine NL (TN (SQ (RG (MV G G (MV G G (ST (q0N [_,_] Tu27 Tz27 (places27 Tu27) G G) G (q0c [_,_] H G G G Ku Ts27 G Kf Kf (q00 G) ?_)))))));intro w H;refine NL (TN (RT ?_));refine q07 G ⟨_,G,H.loadAgg Km Ta27 Ts27 Kf⟩ H.ext ?_;exact G
theorem none_spec  : Ct Tryz.prog 33 [] (fun _=>True) (fun r _=>r=fault 0 0):=by
 refine Ct.of Tryz.func33 (enters Tryz.func33 Kr G) G G G ?_;intro w0 M0 H hp;refine SQ (RG (q0j [_,_] H Tz27 G (q00 G) G ?_));intro b0 w H;refine NL (TN (SQ (RG (ST (q0N [_,_] Tu27 Tz27 (places27 Tu27) G G) G (q0c [_,_] H G G G Ku Ts27 G Kf Kf (q00 G) ?_)))));intro w H;refine NL (TN (RT ?_));refine q07 G ⟨_,G,H.loadAgg Km Ta27 Ts27 Kf⟩ H.ext ?_;exact G
def Tabs (M:Mem):Prop :=∀w,Ag M w→Lib.Utf8Tabs 0 1 w
theorem Tabs.mono {M M':Mem}(h:Tabs M)(hl:M.le M'):Tabs M':=fun w ha=>h w (fun b o hb=>ha b o (hl b o hb))
theorem decodeGo_list (l:Ls)(hl:l≠ []):Lib.decodeGo ⟨l.toArray⟩=Utf.dr l:=by
 have h1:l.length≠0:=fun h=>hl (l0a h)
 unfold Lib.decodeGo;rw[size_mk,if_neg h1,decode_list,l0l]
theorem decode_spec (l:Ls)(hl:l≠ []):Ct Tryz.prog 130 [S l] (fun M=>Tabs M) (fun r _=>r = .tuple #[.int .i32 ((Utf.dr l).1:Int), .int .i64 ((Utf.dr l).2:Int)]):=by
 refine⟨enters Tf130 Kr G,fun w M ha hp=>?_⟩;refine(Tryz.utf8_DecodeRuneInString ⟨l.toArray⟩ w (hp w ha)).mono fun e w' ⟨he,hb⟩=>⟨_,M,he,⟨BelowX.of hb _,Mem.le.refl M,fun b o hbo=>?_,fun _ _=>rfl⟩,?_⟩
 · have h1:=ha b o hbo;rw[hb.block b (Array.getElem?_eq_some_iff.1 h1).1];exact h1
 rw[decodeGo_list l hl]
open Go.Ph.Gr Go.Ph.Utf
abbrev encN (n:Nat):Value:=I (n:Int)
abbrev encSp (s:Int × Int × Int):List Value:=[.int .i32 s.1, .int .i32 s.2.1,I s.2.2]
abbrev chV (n:Int)(size:Nat):Value := .agg #[I (cls n), .bool (decide (n<0)),encN size]
theorem inSp_spec (c:Int)(v:Value)(sp:List (Int × Int × Int)):Ct Tryz.prog 228 [.int .i32 c,v] (fun M=>SlS M 3 encSp v sp) (fun r _=>r = .tuple #[I (inSp c sp).1, .bool (inSp c sp).2]):=by
 refine Ct.of Tryz.func228 (enters Tryz.func228 Kr G) G G G ?_;intro w0 M0 H hp;refine SQ (RG (AS G G (AS G G (NL (TN (SQ (SQ (RG (MV G G (ST (q1o Tryz.underlying262 (by assumption) G) G ?_))))))))));refine MV G G (NL (TN (BL (q1W (fun(k:Nat)=>[(0, .int .i32 c),(8,v),(9,I (sp.length:Int)),(10,I (k:Int))]) (fun(k:Nat) w=>k≤sp.length∧inSp c sp=inSp c (sp.drop k)∧St w0 M0 M0 [] w) (fun(k:Nat)=>sp.length-k) (0) ⟨G,G,G,G,trivial⟩ (⟨by omega,G,H⟩) ?_))));intro k w;rintro⟨hk,hin,H⟩;have hshort:sp.length≤maxLen:=by obtain⟨_,A,c,_,h1,h2,_⟩:=hp;omega
 simp only[maxLen] at hshort;refine SQ (RG ?_);refine q0a (q0n G G) (q00 G) G G (fun h2_0=>?_) (fun h2_0=>?_)
 · obtain⟨⟨x0,x1,x2⟩,hx⟩ :∃x,sp[k]? = some x:=⟨_,List.getElem?_eq_getElem Om⟩
   have hdrop:sp.drop k=(x0,x1,x2)::sp.drop (k+1):=by
    obtain⟨h1,h2⟩:=List.getElem?_eq_some_iff.1 hx;rw[l09 h1,h2]
   refine NL (TN (SQ (CT G (SK (TN (SQ (BL (SQ (RG (WR.idxSlS Tryz.underlying262 Ts258 (by assumption) G G (hx) (q00 G) G ?_))))))))));intro b12 o12 hc12;first|refine q02 (q0w H rfl Km Tryz.isAgg258 Ts258 Kf) (q00 rfl) rfl rfl ?_|refine q02 (q1i H rfl (by assumption) Tryz.isAgg258 Ts258 Kf) (q00 rfl) rfl rfl ?_
   refine q0j [_,_,_] H Tz258 G (q00 G) G ?_;intro b7 w H;refine q0c [_,_,_] H G G G Ku Ts258 G Kf Kf (q00 G) ?_;intro w H;refine NL (TN (SQ (RG (MV G G (ST (q03 Tu258 G Ts21 Dc G) G ?_)))));first|refine q02 (q08 H rfl (by assumption) Ta21) (q00 rfl) rfl rfl ?_|refine q02 (XL H Ta21) (q00 rfl) rfl rfl ?_
   refine q0a (q1a G G) (q00 G) G G (fun h4_3=>?_) (fun h4_3=>?_)
   · refine MV G G (SG (q01 G) G G G (SG (q03 Tu258 G Ts21 Dc G) G G G ?_));first|refine q02 (q08 H rfl (by assumption) Ta21) (q04 rfl rfl rfl) rfl rfl ?_|refine q02 (XL H Ta21) (q04 rfl rfl rfl) rfl rfl ?_
     refine q0a (q1C G G) (q04 G G G) G G (fun h4_8=>?_) (fun h4_8=>?_)
     · have hres:inSp c sp=(x2,true):=by rw[hin,hdrop,inSp,if_pos ⟨h4_3,h4_8⟩]
       refine PT G G G (NL (TN (CT G (SQ (RG (ST (q03 Tu258 G Ts3 Dc G) G ?_))))));first|refine q02 (q08 H rfl (by assumption) Ta3) (q00 rfl) rfl rfl ?_|refine q02 (XL H Ta3) (q00 rfl) rfl rfl ?_
       refine AS G G (AS G G (NL (TN (RT ?_))));refine q0y G G G H.ext ?_;exact by rw[hres]
     have hnext:inSp c (sp.drop k)=inSp c (sp.drop (k+1)):=by rw[hdrop,inSp,if_neg (fun h=>h4_8 h.2)]
     refine PT G G G (NL (TN (CF G (SK (IB (TN (RG (ST (q0f G G Om) G ?_))))))));refine MV G G (NL ?_);refine q1j (k+1) ⟨G,G,G,G,trivial⟩ ?_ ?_
     · exact⟨by omega,hin.trans hnext,H.drop (l1b _)⟩
     omega
   have hnext:inSp c (sp.drop k)=inSp c (sp.drop (k+1)):=by rw[hdrop,inSp,if_neg (fun h=>h4_3 h.1)]
   refine MV G G (GF G G G (GF G G G (GF G G G (GF G G G (PF G G G (NL (TN (CF G (SK (IB (TN (RG (ST (q0f G G Om) G ?_)))))))))))));refine MV G G (NL ?_);refine q1j (k+1) ⟨G,G,G,G,trivial⟩ ?_ ?_
   · exact⟨by omega,hin.trans hnext,H.drop (l1b _)⟩
   omega
 have hres:inSp c sp=(0,false):=by rw[hin,l08 Om];rfl
 refine NL (TN (SQ (CF G (q0m (q06 (q06 (q0d (TN (SQ (RG (AS G G (AS G G (NL (TN (RT ?_)))))))))))))));refine q0y G G G H.ext ?_;exact by rw[hres]
theorem classOf_spec (c:Int):Ct Tryz.prog 211 [.int .i32 c] (fun _=>True) (fun r _=>r=I (cls c)):=by
 refine Ct.of Tryz.func211 (enters Tryz.func211 Kr G) G G G ?_;intro w0 M0 H hp;refine SQ (RG (AS G G (NL (TN (SQ (RG (ST (q0N [_,_,_] Tu258 Tz258 (places258 Tu258) G G) G (ST (q0N [_,_,_] Tu258 Tz258 (places258 Tu258) G G) G (ST (q0N [_,_,_] Tu258 Tz258 (places258 Tu258) G G) G (ST (q0N [_,_,_] Tu258 Tz258 (places258 Tu258) G G) G (ST (q0N [_,_,_] Tu258 Tz258 (places258 Tu258) G G) G (ST (q0N [_,_,_] Tu258 Tz258 (places258 Tu258) G G) G (ST (q0N [_,_,_] Tu258 Tz258 (places258 Tu258) G G) G (ST (q0N [_,_,_] Tu258 Tz258 (places258 Tu258) G G) G (ST (q0N [_,_,_] Tu258 Tz258 (places258 Tu258) G G) G ?_)))))))))))))));refine ST (q0N [_,_,_] Tu258 Tz258 (places258 Tu258) G G) G (ST (q0N [_,_,_] Tu258 Tz258 (places258 Tu258) G G) G (ST (q0N [_,_,_] Tu258 Tz258 (places258 Tu258) G G) G (ST (q0N [_,_,_] Tu258 Tz258 (places258 Tu258) G G) G (ST (q0N [_,_,_] Tu258 Tz258 (places258 Tu258) G G) G (ST (q0N [_,_,_] Tu258 Tz258 (places258 Tu258) G G) G (ST (q0N [_,_,_] Tu258 Tz258 (places258 Tu258) G G) G (ST (Ex.buildArr (clsTab.flatMap encSp) Tryz.underlying259 Tryz.zeroValue259 Ts258 G Kr) G (q0j [_,_,_,_,_,_,_,_,_,_,_,_,_,_,_,_,_,_,_,_,_,_,_,_,_,_,_,_,_,_,_,_,_,_,_,_,_,_,_,_,_,_,_,_,_,_,_,_] H Tryz.zeroValue259 G (q00 G) G ?_))))))));intro b3 w H;refine q0c (clsTab.flatMap encSp) H G G G Ku Tryz.sizeOf259 G G G (q00 G) ?_;intro w H;obtain⟨M,hle,hM,H⟩:=H.freezeBlk Kv;have ht:SlS M 3 encSp (.slice (some ⟨b3,0,none⟩) 16 16) clsTab:=SlS.ofBlk (l:=clsTab) (fun _=>rfl) Dc hM;refine NL (TN (SQ (RG (MV G G (ST (Ex.sliceArr Tryz.underlying259 Ts258 G) G (q05 H (inSp_spec _ _ clsTab) G (ht) (q00 G) G ?_))))));intro v26 M w H hle hr26;obtain rfl:=hr26;refine MV G G (ST (q0b G G) G (ST (q0b G G) G (AS G G (AS G G (NL (TN (SQ (RG (MV G G (AS G G (NL (TN (RT ?_)))))))))))));refine q07 G G H.ext ?_;exact by rw[inSp_cls]
theorem first_spec (l:Ls)(hl:l≠ []):Ct Tryz.prog 191 [S l] (fun M=>Tabs M) (fun r _=>r=chV (rune l).1 (rune l).2):=by
 refine Ct.of Tryz.func191 (enters Tryz.func191 Kr G) G G G ?_;intro w0 M0 H hp;refine SQ (RG (q0j [_,_,_] H Tz208 G (q00 G) G ?_));intro b2 w H;refine NL (TN (SQ (RG (MV G G (q05 H (decode_spec _ hl) G (by assumption) (q00 G) G ?_)))));intro v7 M w H hle hr7;obtain rfl:=hr7;refine MV G G (ST (q0b G G) G (ST (q0b G G) G (AS G G (AS G G (NL (TN (SQ (SQ (RG (MV G G ?_))))))))));refine q0a (q0e G G) (q00 G) G G (fun h2_1=>?_) (fun h2_1=>?_)
 · refine MV G G (SG (q01 G) G G G ?_);refine q0a (q0e G G) (q04 G G G) G G (fun h2_4=>?_) (fun h2_4=>?_)
   · have hb:=first_bad l h2_1 h2_4;refine PT G G G (NL (TN (CT G (SQ (RG (ST (q0N [_,_,_] Tu208 Tz208 (places208 Tu208) G G) G (q0c [_,_,_] H G G G Ku Ts208 G Kf Kf (q00 G) ?_)))))));intro w H;refine NL (TN (RT ?_));refine q07 G ⟨_,G,H.loadAgg Km Ta208 Ts208 Kf⟩ H.ext ?_;exact by rw[hb];rfl
   have ho:=first_ok l (fun h=>h2_4 h.2);refine PT G G G (NL (TN (CF G (SK (TN (SQ (RG (MV G G (q05 H (classOf_spec _) G (trivial) (q00 G) G ?_)))))))));intro v18 M w H hle hr18;obtain rfl:=hr18;refine MV G G (ST (q0N [_,_,_] Tu208 Tz208 (places208 Tu208) G G) G (q0c [_,_,_] H G G G Ku Ts208 G Kf Kf (q00 G) ?_));intro w H;refine NL (TN (RT ?_));refine q07 G ⟨_,G,H.loadAgg Km Ta208 Ts208 Kf⟩ H.ext ?_;exact by rw[ho.2.1,ho.2.2,show chV (rune l).1 (rune l).2 = .agg #[I (cls (rune l).1), .bool false,encN (rune l).2] by rw[chV,decide_eq_false Om]];rfl
 have ho:=first_ok l (fun h=>h2_1 h.1);refine MV G G (GF G G G (GF G G G (PF G G G (NL (TN (CF G (SK (TN (SQ (RG (MV G G (q05 H (classOf_spec _) G (trivial) (q00 G) G ?_))))))))))));intro v18 M w H hle hr18;obtain rfl:=hr18;refine MV G G (ST (q0N [_,_,_] Tu208 Tz208 (places208 Tu208) G G) G (q0c [_,_,_] H G G G Ku Ts208 G Kf Kf (q00 G) ?_));intro w H;refine NL (TN (RT ?_));refine q07 G ⟨_,G,H.loadAgg Km Ta208 Ts208 Kf⟩ H.ext ?_;exact by rw[ho.2.1,ho.2.2,show chV (rune l).1 (rune l).2 = .agg #[I (cls (rune l).1), .bool false,encN (rune l).2] by rw[chV,decide_eq_false Om]];rfl
theorem hard_spec (k:Int):Ct Tryz.prog 212 [I k] (fun _=>True) (fun r _=>r = .bool (decide (1≤k∧k≤3))):=by
 refine Ct.of Tryz.func212 (enters Tryz.func212 Kr G) G G G ?_;intro w0 M0 H hp;refine SQ (RG (AS G G (NL (TN (SQ (RG (MV G G ?_)))))));refine q0a (q0e G G) (q00 G) G G (fun h1_1=>?_) (fun h1_1=>?_)
 · refine MV G G (GT G G G (GT G G G (PT G G G (MV G G (GT G G G (GT G G G (PT G G G (AS G G (NL (TN (RT ?_)))))))))));refine q07 G G H.ext (congrArg Value.bool ?_);first|rfl|exact(decide_eq_true Om).symm|exact(decide_eq_false Om).symm|exact decide_eq_decide.2 Om|(exfalso;omega)
 refine MV G G (SG (q01 G) G G G ?_);refine q0a (q0e G G) (q04 G G G) G G (fun h1_4=>?_) (fun h1_4=>?_)
 · refine PF G G G (MV G G (GT G G G (GT G G G (PT G G G (AS G G (NL (TN (RT ?_))))))));refine q07 G G H.ext (congrArg Value.bool ?_);first|rfl|exact(decide_eq_true Om).symm|exact(decide_eq_false Om).symm|exact decide_eq_decide.2 Om|(exfalso;omega)
 refine PF G G G (MV G G (SG (q01 G) G G G (SG (q0e G G) G G G (PF G G G (AS G G (NL (TN (RT ?_))))))));refine q07 G G H.ext (congrArg Value.bool ?_);first|rfl|exact(decide_eq_true Om).symm|exact(decide_eq_false Om).symm|exact decide_eq_decide.2 Om|(exfalso;omega)
theorem con_eq (a b:Int)(fl:Nat):con a b fl=if a<0∨b<0 then false else contC (cls a) (cls b) (fl:Int):=rfl
set_option maxHeartbeats 1000000 in
theorem cont_spec (a b:Int) (sa sb fl:Nat):Ct Tryz.prog 192 [chV a sa,chV b sb,encN fl] (fun _=>True) (fun r _=>r = .bool (con a b fl)):=by
 refine Ct.of Tryz.func192 (enters Tryz.func192 Kr G) G G G ?_;intro w0 M0 H hp;refine SQ (RG (q1z [_,_,_] H G G (q00 G) G ?_));intro b3 w H;refine q1z [_,_,_] H G G (q00 G) G ?_;intro b4 w H;refine AS G G (NL (TN (SQ (RG (AS G G (NL (TN (SQ (BL (SQ (RG (ST (q03 Tu208 G Ts4 Dc G) G ?_))))))))))));refine WR.splitB (XL H Ta4) (q00 G) G G (fun h2_1=>?_) (fun h2_1=>?_)
 · replace h2_1:=of_decide_eq_true h2_1;refine MV G G (GT G G G (GT G G G (PT G G G (AS G G (NL (TN (CT G (SQ (RG (AS G G (NL (TN (RT ?_)))))))))))));refine q07 G G H.ext (congrArg Value.bool ?_);rw[con_eq,if_pos Om]
 replace h2_1:=of_decide_eq_false h2_1;refine MV G G (SG (q03 Tu208 G Ts4 Dc G) G G G ?_);refine WR.splitB (XL H Ta4) (q04 G G G) G G (fun h2_4=>?_) (fun h2_4=>?_)
 · replace h2_4:=of_decide_eq_true h2_4;refine PF G G G (AS G G (NL (TN (CT G (SQ (RG (AS G G (NL (TN (RT ?_))))))))));refine q07 G G H.ext (congrArg Value.bool ?_);rw[con_eq,if_pos Om]
 replace h2_4:=of_decide_eq_false h2_4;refine PF G G G (AS G G (NL (TN (CF G (SQ (RG (ST (q03 Tu208 G Ts3 Dc G) G ?_)))))));first|refine q02 (q08 H rfl (by assumption) Ta3) (q00 rfl) rfl rfl ?_|refine q02 (XL H Ta3) (q00 rfl) rfl rfl ?_
 refine q0a (q0e G G) (q00 G) G G (fun h4_2=>?_) (fun h4_2=>?_)
 · refine MV G G (SG (q03 Tu208 G Ts3 Dc G) G G G ?_);first|refine q02 (q08 H rfl (by assumption) Ta3) (q04 rfl rfl rfl) rfl rfl ?_|refine q02 (XL H Ta3) (q04 rfl rfl rfl) rfl rfl ?_
   refine q0a (q0e G G) (q04 G G G) G G (fun h4_6=>?_) (fun h4_6=>?_)
   · refine PT G G G (AS G G (NL (TN (CT G (SQ (RG (AS G G (NL (TN (RT ?_))))))))));refine q07 G G H.ext (congrArg Value.bool ?_);rw[con_eq,if_neg Om];unfold contC;rw[if_pos Om]
   refine PT G G G (AS G G (NL (TN (CF G (SQ (RG (MV G G (ST (q03 Tu208 G Ts3 Dc G) G ?_))))))));first|refine q02 (q08 H rfl (by assumption) Ta3) (q00 rfl) rfl rfl ?_|refine q02 (XL H Ta3) (q00 rfl) rfl rfl ?_
   by_cases h6_3:1≤cls a∧cls a≤3
   · refine q1w (cap:=[]) H (q0C (hard_spec _) (R':=fun r _=>r = .bool true) (fun _ _ h=>h.trans (congrArg Value.bool (decide_eq_true h6_3)))) G G (trivial) (q00 G) G ?_;intro v28 M w H hle hr28;obtain rfl:=hr28;refine MV G G (GT G G G (GT G G G (GT G G G (GT G G G (PT G G G (AS G G (NL (TN (CT G (SQ (RG (AS G G (NL (TN (RT ?_)))))))))))))));refine q07 G G H.ext (congrArg Value.bool ?_);rw[con_eq,if_neg Om];unfold contC;rw[if_neg Om];rw[if_pos Om]
   refine q1w (cap:=[]) H (q0C (hard_spec _) (R':=fun r _=>r = .bool false) (fun _ _ h=>h.trans (congrArg Value.bool (decide_eq_false h6_3)))) G G (trivial) (q00 G) G ?_;intro v28 M w H hle hr28;obtain rfl:=hr28;refine MV G G (SG (q01 G) G G G (SG (q03 Tu208 G Ts3 Dc G) G G G ?_));first|refine q02 (q08 H rfl (by assumption) Ta3) (q04 rfl rfl rfl) rfl rfl ?_|refine q02 (XL H Ta3) (q04 rfl rfl rfl) rfl rfl ?_
   by_cases h6_8:1≤cls b∧cls b≤3
   · refine q1w (cap:=[]) H (q0C (hard_spec _) (R':=fun r _=>r = .bool true) (fun _ _ h=>h.trans (congrArg Value.bool (decide_eq_true h6_8)))) G G (trivial) (q04 G G G) G ?_;intro v33 M w H hle hr33;obtain rfl:=hr33;refine PF G G G (AS G G (NL (TN (CT G (SQ (RG (AS G G (NL (TN (RT ?_))))))))));refine q07 G G H.ext (congrArg Value.bool ?_);rw[con_eq,if_neg Om];unfold contC;rw[if_neg Om];rw[if_pos Om]
   refine q1w (cap:=[]) H (q0C (hard_spec _) (R':=fun r _=>r = .bool false) (fun _ _ h=>h.trans (congrArg Value.bool (decide_eq_false h6_8)))) G G (trivial) (q04 G G G) G ?_;intro v33 M w H hle hr33;obtain rfl:=hr33;refine PF G G G (AS G G (NL (TN (CF G (SQ (RG (ST (q03 Tu208 G Ts3 Dc G) G ?_)))))));first|refine q02 (q08 H rfl (by assumption) Ta3) (q00 rfl) rfl rfl ?_|refine q02 (XL H Ta3) (q00 rfl) rfl rfl ?_
   refine q0a (q0e G G) (q00 G) G G (fun h8_2=>?_) (fun h8_2=>?_)
   · refine MV G G (GT G G G (GT G G G (GT G G G (PT G G G (AS G G (NL (TN (CT G (SQ (RG (AS G G (NL (TN (RT ?_))))))))))))));refine q07 G G H.ext (congrArg Value.bool ?_);rw[con_eq,if_neg Om];unfold contC;rw[if_neg Om];rw[if_neg Om];rw[if_pos Om]
   refine MV G G (SG (q03 Tu208 G Ts3 Dc G) G G G ?_);first|refine q02 (q08 H rfl (by assumption) Ta3) (q04 rfl rfl rfl) rfl rfl ?_|refine q02 (XL H Ta3) (q04 rfl rfl rfl) rfl rfl ?_
   refine q0a (q0e G G) (q04 G G G) G G (fun h8_6=>?_) (fun h8_6=>?_)
   · refine PF G G G (AS G G (NL (TN (CT G (SQ (RG (AS G G (NL (TN (RT ?_))))))))));refine q07 G G H.ext (congrArg Value.bool ?_);rw[con_eq,if_neg Om];unfold contC;rw[if_neg Om];rw[if_neg Om];rw[if_pos Om]
   refine PF G G G (AS G G (NL (TN (CF G (SQ (RG (ST (q03 Tu208 G Ts3 Dc G) G ?_)))))));first|refine q02 (q08 H rfl (by assumption) Ta3) (q00 rfl) rfl rfl ?_|refine q02 (XL H Ta3) (q00 rfl) rfl rfl ?_
   refine q0a (q0e G G) (q00 G) G G (fun h10_2=>?_) (fun h10_2=>?_)
   · refine AS G G (NL (TN (CT G (SQ (RG (ST (q03 Tu208 G Ts3 Dc G) G ?_))))));first|refine q02 (q08 H rfl (by assumption) Ta3) (q00 rfl) rfl rfl ?_|refine q02 (XL H Ta3) (q00 rfl) rfl rfl ?_
     refine ST (q0e G G) G (AS G G (NL (TN (RT ?_))));refine q07 G G H.ext (congrArg Value.bool ?_);rw[con_eq,if_neg Om];unfold contC;rw[if_neg Om];rw[if_neg Om];rw[if_neg Om];rw[if_pos Om]
   refine AS G G (NL (TN (CF G (SQ (RG (ST (q03 Tu208 G Ts3 Dc G) G ?_))))));first|refine q02 (q08 H rfl (by assumption) Ta3) (q00 rfl) rfl rfl ?_|refine q02 (XL H Ta3) (q00 rfl) rfl rfl ?_
   refine q0a (q0e G G) (q00 G) G G (fun h12_2=>?_) (fun h12_2=>?_)
   · refine AS G G (NL (TN (CT G (SQ (RG (MV G G (ST (q1D G G (by first|omega|exact⟨l0k _,by decide⟩)) G ?_)))))));refine ST (q0e G G) G (AS G G (NL (TN (RT ?_))));refine q07 G G H.ext (congrArg Value.bool ?_);rw[con_eq,if_neg Om];unfold contC;rw[if_neg Om];rw[if_neg Om];rw[if_neg Om];rw[if_neg Om];rw[if_pos Om]
   refine AS G G (NL (TN (CF G (SK (IB (TN (SQ (RG (ST (q03 Tu208 G Ts3 Dc G) G ?_)))))))));first|refine q02 (q08 H rfl (by assumption) Ta3) (q00 rfl) rfl rfl ?_|refine q02 (XL H Ta3) (q00 rfl) rfl rfl ?_
   refine q0a (q0e G G) (q00 G) G G (fun h14_2=>?_) (fun h14_2=>?_)
   · refine MV G G (SG (q03 Tu208 G Ts3 Dc G) G G G ?_);first|refine q02 (q08 H rfl (by assumption) Ta3) (q04 rfl rfl rfl) rfl rfl ?_|refine q02 (XL H Ta3) (q04 rfl rfl rfl) rfl rfl ?_
     refine q0a (q0e G G) (q04 G G G) G G (fun h14_6=>?_) (fun h14_6=>?_)
     · refine SG (q01 G) G G G (GT G G G (GT G G G (GT G G G (SG (q0r G G) G G G (PT G G G (MV G G (GT G G G (GT G G G (GT G G G (GT G G G (GU G G G (GU G G G (GU G G G (GU G G G (GU G G G (GU G G G (GU G G G (GU G G G (GT G G G (PT G G G (MV G G (GT G G G (GT G G G (GT G G G (GT G G G (GU G G G (GU G G G (GU G G G (GT G G G (PT G G G (AS G G (NL (TN (RT ?_))))))))))))))))))))))))))))))))));refine q07 G G H.ext (congrArg Value.bool ?_);rw[con_eq,if_neg Om];unfold contC;rw[if_neg Om];rw[if_neg Om];rw[if_neg Om];rw[if_neg Om];rw[if_neg Om];first|rfl|exact(decide_eq_true Om).symm|exact(decide_eq_false Om).symm|exact decide_eq_decide.2 Om|(exfalso;omega)
     refine SG (q01 G) G G G (SG (q03 Tu208 G Ts3 Dc G) G G G ?_);first|refine q02 (q08 H rfl (by assumption) Ta3) (q04 rfl rfl rfl) rfl rfl ?_|refine q02 (XL H Ta3) (q04 rfl rfl rfl) rfl rfl ?_
     refine q0a (q0e G G) (q04 G G G) G G (fun h14_10=>?_) (fun h14_10=>?_)
     · refine SG (q0s G G) G G G (PT G G G (MV G G (GT G G G (GT G G G (GT G G G (GT G G G (GU G G G (GU G G G (GU G G G (GU G G G (GU G G G (GU G G G (GU G G G (GU G G G (GT G G G (PT G G G (MV G G (GT G G G (GT G G G (GT G G G (GT G G G (GU G G G (GU G G G (GU G G G (GT G G G (PT G G G (AS G G (NL (TN (RT ?_))))))))))))))))))))))))))))));refine q07 G G H.ext (congrArg Value.bool ?_);rw[con_eq,if_neg Om];unfold contC;rw[if_neg Om];rw[if_neg Om];rw[if_neg Om];rw[if_neg Om];rw[if_neg Om];first|rfl|exact(decide_eq_true Om).symm|exact(decide_eq_false Om).symm|exact decide_eq_decide.2 Om|(exfalso;omega)
     refine SG (q0s G G) G G G (PT G G G (MV G G (SG (q03 Tu208 G Ts3 Dc G) G G G ?_)));first|refine q02 (q08 H rfl (by assumption) Ta3) (q04 rfl rfl rfl) rfl rfl ?_|refine q02 (XL H Ta3) (q04 rfl rfl rfl) rfl rfl ?_
     refine q0a (q0e G G) (q04 G G G) G G (fun h14_16=>?_) (fun h14_16=>?_)
     · refine SG (q01 G) G G G (SG (q03 Tu208 G Ts3 Dc G) G G G ?_);first|refine q02 (q08 H rfl (by assumption) Ta3) (q04 rfl rfl rfl) rfl rfl ?_|refine q02 (XL H Ta3) (q04 rfl rfl rfl) rfl rfl ?_
       refine q0a (q0e G G) (q04 G G G) G G (fun h14_20=>?_) (fun h14_20=>?_)
       · refine SG (q01 G) G G G (GT G G G (GT G G G (GT G G G (SG (q0r G G) G G G (SG (q0r G G) G G G (PF G G G (MV G G (GT G G G (GT G G G (GT G G G (GT G G G (GU G G G (GU G G G (GU G G G (GT G G G (PT G G G (AS G G (NL (TN (RT ?_))))))))))))))))))));refine q07 G G H.ext (congrArg Value.bool ?_);rw[con_eq,if_neg Om];unfold contC;rw[if_neg Om];rw[if_neg Om];rw[if_neg Om];rw[if_neg Om];rw[if_neg Om];first|rfl|exact(decide_eq_true Om).symm|exact(decide_eq_false Om).symm|exact decide_eq_decide.2 Om|(exfalso;omega)
       refine SG (q01 G) G G G (SG (q03 Tu208 G Ts3 Dc G) G G G ?_);first|refine q02 (q08 H rfl (by assumption) Ta3) (q04 rfl rfl rfl) rfl rfl ?_|refine q02 (XL H Ta3) (q04 rfl rfl rfl) rfl rfl ?_
       refine q0a (q0e G G) (q04 G G G) G G (fun h14_24=>?_) (fun h14_24=>?_)
       · refine SG (q0s G G) G G G (SG (q0r G G) G G G (PF G G G (MV G G (GT G G G (GT G G G (GT G G G (GT G G G (GU G G G (GU G G G (GU G G G (GT G G G (PT G G G (AS G G (NL (TN (RT ?_))))))))))))))));refine q07 G G H.ext (congrArg Value.bool ?_);rw[con_eq,if_neg Om];unfold contC;rw[if_neg Om];rw[if_neg Om];rw[if_neg Om];rw[if_neg Om];rw[if_neg Om];first|rfl|exact(decide_eq_true Om).symm|exact(decide_eq_false Om).symm|exact decide_eq_decide.2 Om|(exfalso;omega)
       refine SG (q0s G G) G G G (SG (q0r G G) G G G (PF G G G (MV G G (SG (q03 Tu208 G Ts3 Dc G) G G G ?_))));first|refine q02 (q08 H rfl (by assumption) Ta3) (q04 rfl rfl rfl) rfl rfl ?_|refine q02 (XL H Ta3) (q04 rfl rfl rfl) rfl rfl ?_
       refine q0a (q0e G G) (q04 G G G) G G (fun h14_31=>?_) (fun h14_31=>?_)
       · refine SG (q01 G) G G G (SG (q03 Tu208 G Ts3 Dc G) G G G ?_);first|refine q02 (q08 H rfl (by assumption) Ta3) (q04 rfl rfl rfl) rfl rfl ?_|refine q02 (XL H Ta3) (q04 rfl rfl rfl) rfl rfl ?_
         refine SG (q0e G G) G G G (SG (q0r G G) G G G (PF G G G (AS G G (NL (TN (RT ?_))))));refine q07 G G H.ext (congrArg Value.bool ?_);rw[con_eq,if_neg Om];unfold contC;rw[if_neg Om];rw[if_neg Om];rw[if_neg Om];rw[if_neg Om];rw[if_neg Om];first|rfl|exact(decide_eq_true Om).symm|exact(decide_eq_false Om).symm|exact decide_eq_decide.2 Om|(exfalso;omega)
       refine SG (q01 G) G G G (GF G G G (GF G G G (GF G G G (SG (q0s G G) G G G (PF G G G (AS G G (NL (TN (RT ?_)))))))));refine q07 G G H.ext (congrArg Value.bool ?_);rw[con_eq,if_neg Om];unfold contC;rw[if_neg Om];rw[if_neg Om];rw[if_neg Om];rw[if_neg Om];rw[if_neg Om];first|rfl|exact(decide_eq_true Om).symm|exact(decide_eq_false Om).symm|exact decide_eq_decide.2 Om|(exfalso;omega)
     refine SG (q01 G) G G G (GF G G G (GF G G G (GF G G G (GF G G G (GU G G G (GU G G G (GU G G G (GF G G G (SG (q0s G G) G G G (PF G G G (MV G G (SG (q03 Tu208 G Ts3 Dc G) G G G ?_))))))))))));first|refine q02 (q08 H rfl (by assumption) Ta3) (q04 rfl rfl rfl) rfl rfl ?_|refine q02 (XL H Ta3) (q04 rfl rfl rfl) rfl rfl ?_
     refine q0a (q0e G G) (q04 G G G) G G (fun h14_31=>?_) (fun h14_31=>?_)
     · refine SG (q01 G) G G G (SG (q03 Tu208 G Ts3 Dc G) G G G ?_);first|refine q02 (q08 H rfl (by assumption) Ta3) (q04 rfl rfl rfl) rfl rfl ?_|refine q02 (XL H Ta3) (q04 rfl rfl rfl) rfl rfl ?_
       refine SG (q0e G G) G G G (SG (q0r G G) G G G (PF G G G (AS G G (NL (TN (RT ?_))))));refine q07 G G H.ext (congrArg Value.bool ?_);rw[con_eq,if_neg Om];unfold contC;rw[if_neg Om];rw[if_neg Om];rw[if_neg Om];rw[if_neg Om];rw[if_neg Om];first|rfl|exact(decide_eq_true Om).symm|exact(decide_eq_false Om).symm|exact decide_eq_decide.2 Om|(exfalso;omega)
     refine SG (q01 G) G G G (GF G G G (GF G G G (GF G G G (SG (q0s G G) G G G (PF G G G (AS G G (NL (TN (RT ?_)))))))));refine q07 G G H.ext (congrArg Value.bool ?_);rw[con_eq,if_neg Om];unfold contC;rw[if_neg Om];rw[if_neg Om];rw[if_neg Om];rw[if_neg Om];rw[if_neg Om];first|rfl|exact(decide_eq_true Om).symm|exact(decide_eq_false Om).symm|exact decide_eq_decide.2 Om|(exfalso;omega)
   refine MV G G (GF G G G (GF G G G (GF G G G (GF G G G (GU G G G (GU G G G (GU G G G (GF G G G (PF G G G (MV G G (SG (q03 Tu208 G Ts3 Dc G) G G G ?_)))))))))));first|refine q02 (q08 H rfl (by assumption) Ta3) (q04 rfl rfl rfl) rfl rfl ?_|refine q02 (XL H Ta3) (q04 rfl rfl rfl) rfl rfl ?_
   refine q0a (q0e G G) (q04 G G G) G G (fun h14_16=>?_) (fun h14_16=>?_)
   · refine SG (q01 G) G G G (SG (q03 Tu208 G Ts3 Dc G) G G G ?_);first|refine q02 (q08 H rfl (by assumption) Ta3) (q04 rfl rfl rfl) rfl rfl ?_|refine q02 (XL H Ta3) (q04 rfl rfl rfl) rfl rfl ?_
     refine q0a (q0e G G) (q04 G G G) G G (fun h14_20=>?_) (fun h14_20=>?_)
     · refine SG (q01 G) G G G (GT G G G (GT G G G (GT G G G (SG (q0r G G) G G G (SG (q0r G G) G G G (PF G G G (MV G G (GT G G G (GT G G G (GT G G G (GT G G G (GU G G G (GU G G G (GU G G G (GT G G G (PT G G G (AS G G (NL (TN (RT ?_))))))))))))))))))));refine q07 G G H.ext (congrArg Value.bool ?_);rw[con_eq,if_neg Om];unfold contC;rw[if_neg Om];rw[if_neg Om];rw[if_neg Om];rw[if_neg Om];rw[if_neg Om];first|rfl|exact(decide_eq_true Om).symm|exact(decide_eq_false Om).symm|exact decide_eq_decide.2 Om|(exfalso;omega)
     refine SG (q01 G) G G G (SG (q03 Tu208 G Ts3 Dc G) G G G ?_);first|refine q02 (q08 H rfl (by assumption) Ta3) (q04 rfl rfl rfl) rfl rfl ?_|refine q02 (XL H Ta3) (q04 rfl rfl rfl) rfl rfl ?_
     refine q0a (q0e G G) (q04 G G G) G G (fun h14_24=>?_) (fun h14_24=>?_)
     · refine SG (q0s G G) G G G (SG (q0r G G) G G G (PF G G G (MV G G (GT G G G (GT G G G (GT G G G (GT G G G (GU G G G (GU G G G (GU G G G (GT G G G (PT G G G (AS G G (NL (TN (RT ?_))))))))))))))));refine q07 G G H.ext (congrArg Value.bool ?_);rw[con_eq,if_neg Om];unfold contC;rw[if_neg Om];rw[if_neg Om];rw[if_neg Om];rw[if_neg Om];rw[if_neg Om];first|rfl|exact(decide_eq_true Om).symm|exact(decide_eq_false Om).symm|exact decide_eq_decide.2 Om|(exfalso;omega)
     refine SG (q0s G G) G G G (SG (q0r G G) G G G (PF G G G (MV G G (SG (q03 Tu208 G Ts3 Dc G) G G G ?_))));first|refine q02 (q08 H rfl (by assumption) Ta3) (q04 rfl rfl rfl) rfl rfl ?_|refine q02 (XL H Ta3) (q04 rfl rfl rfl) rfl rfl ?_
     refine q0a (q0e G G) (q04 G G G) G G (fun h14_31=>?_) (fun h14_31=>?_)
     · refine SG (q01 G) G G G (SG (q03 Tu208 G Ts3 Dc G) G G G ?_);first|refine q02 (q08 H rfl (by assumption) Ta3) (q04 rfl rfl rfl) rfl rfl ?_|refine q02 (XL H Ta3) (q04 rfl rfl rfl) rfl rfl ?_
       refine SG (q0e G G) G G G (SG (q0r G G) G G G (PF G G G (AS G G (NL (TN (RT ?_))))));refine q07 G G H.ext (congrArg Value.bool ?_);rw[con_eq,if_neg Om];unfold contC;rw[if_neg Om];rw[if_neg Om];rw[if_neg Om];rw[if_neg Om];rw[if_neg Om];first|rfl|exact(decide_eq_true Om).symm|exact(decide_eq_false Om).symm|exact decide_eq_decide.2 Om|(exfalso;omega)
     refine SG (q01 G) G G G (GF G G G (GF G G G (GF G G G (SG (q0s G G) G G G (PF G G G (AS G G (NL (TN (RT ?_)))))))));refine q07 G G H.ext (congrArg Value.bool ?_);rw[con_eq,if_neg Om];unfold contC;rw[if_neg Om];rw[if_neg Om];rw[if_neg Om];rw[if_neg Om];rw[if_neg Om];first|rfl|exact(decide_eq_true Om).symm|exact(decide_eq_false Om).symm|exact decide_eq_decide.2 Om|(exfalso;omega)
   refine SG (q01 G) G G G (GF G G G (GF G G G (GF G G G (GF G G G (GU G G G (GU G G G (GU G G G (GF G G G (SG (q0s G G) G G G (PF G G G (MV G G (SG (q03 Tu208 G Ts3 Dc G) G G G ?_))))))))))));first|refine q02 (q08 H rfl (by assumption) Ta3) (q04 rfl rfl rfl) rfl rfl ?_|refine q02 (XL H Ta3) (q04 rfl rfl rfl) rfl rfl ?_
   refine q0a (q0e G G) (q04 G G G) G G (fun h14_31=>?_) (fun h14_31=>?_)
   · refine SG (q01 G) G G G (SG (q03 Tu208 G Ts3 Dc G) G G G ?_);first|refine q02 (q08 H rfl (by assumption) Ta3) (q04 rfl rfl rfl) rfl rfl ?_|refine q02 (XL H Ta3) (q04 rfl rfl rfl) rfl rfl ?_
     refine SG (q0e G G) G G G (SG (q0r G G) G G G (PF G G G (AS G G (NL (TN (RT ?_))))));refine q07 G G H.ext (congrArg Value.bool ?_);rw[con_eq,if_neg Om];unfold contC;rw[if_neg Om];rw[if_neg Om];rw[if_neg Om];rw[if_neg Om];rw[if_neg Om];first|rfl|exact(decide_eq_true Om).symm|exact(decide_eq_false Om).symm|exact decide_eq_decide.2 Om|(exfalso;omega)
   refine SG (q01 G) G G G (GF G G G (GF G G G (GF G G G (SG (q0s G G) G G G (PF G G G (AS G G (NL (TN (RT ?_)))))))));refine q07 G G H.ext (congrArg Value.bool ?_);rw[con_eq,if_neg Om];unfold contC;rw[if_neg Om];rw[if_neg Om];rw[if_neg Om];rw[if_neg Om];rw[if_neg Om];first|rfl|exact(decide_eq_true Om).symm|exact(decide_eq_false Om).symm|exact decide_eq_decide.2 Om|(exfalso;omega)
 refine MV G G (GF G G G (GF G G G (GF G G G (PF G G G (AS G G (NL (TN (CF G (SQ (RG (MV G G (ST (q03 Tu208 G Ts3 Dc G) G ?_))))))))))));first|refine q02 (q08 H rfl (by assumption) Ta3) (q00 rfl) rfl rfl ?_|refine q02 (XL H Ta3) (q00 rfl) rfl rfl ?_
 by_cases h6_3:1≤cls a∧cls a≤3
 · refine q1w (cap:=[]) H (q0C (hard_spec _) (R':=fun r _=>r = .bool true) (fun _ _ h=>h.trans (congrArg Value.bool (decide_eq_true h6_3)))) G G (trivial) (q00 G) G ?_;intro v28 M w H hle hr28;obtain rfl:=hr28;refine MV G G (GT G G G (GT G G G (GT G G G (GT G G G (PT G G G (AS G G (NL (TN (CT G (SQ (RG (AS G G (NL (TN (RT ?_)))))))))))))));refine q07 G G H.ext (congrArg Value.bool ?_);rw[con_eq,if_neg Om];unfold contC;rw[if_neg Om];rw[if_pos Om]
 refine q1w (cap:=[]) H (q0C (hard_spec _) (R':=fun r _=>r = .bool false) (fun _ _ h=>h.trans (congrArg Value.bool (decide_eq_false h6_3)))) G G (trivial) (q00 G) G ?_;intro v28 M w H hle hr28;obtain rfl:=hr28;refine MV G G (SG (q01 G) G G G (SG (q03 Tu208 G Ts3 Dc G) G G G ?_));first|refine q02 (q08 H rfl (by assumption) Ta3) (q04 rfl rfl rfl) rfl rfl ?_|refine q02 (XL H Ta3) (q04 rfl rfl rfl) rfl rfl ?_
 by_cases h6_8:1≤cls b∧cls b≤3
 · refine q1w (cap:=[]) H (q0C (hard_spec _) (R':=fun r _=>r = .bool true) (fun _ _ h=>h.trans (congrArg Value.bool (decide_eq_true h6_8)))) G G (trivial) (q04 G G G) G ?_;intro v33 M w H hle hr33;obtain rfl:=hr33;refine PF G G G (AS G G (NL (TN (CT G (SQ (RG (AS G G (NL (TN (RT ?_))))))))));refine q07 G G H.ext (congrArg Value.bool ?_);rw[con_eq,if_neg Om];unfold contC;rw[if_neg Om];rw[if_pos Om]
 refine q1w (cap:=[]) H (q0C (hard_spec _) (R':=fun r _=>r = .bool false) (fun _ _ h=>h.trans (congrArg Value.bool (decide_eq_false h6_8)))) G G (trivial) (q04 G G G) G ?_;intro v33 M w H hle hr33;obtain rfl:=hr33;refine PF G G G (AS G G (NL (TN (CF G (SQ (RG (ST (q03 Tu208 G Ts3 Dc G) G ?_)))))));first|refine q02 (q08 H rfl (by assumption) Ta3) (q00 rfl) rfl rfl ?_|refine q02 (XL H Ta3) (q00 rfl) rfl rfl ?_
 refine q0a (q0e G G) (q00 G) G G (fun h8_2=>?_) (fun h8_2=>?_)
 · refine MV G G (GT G G G (GT G G G (GT G G G (PT G G G (AS G G (NL (TN (CT G (SQ (RG (AS G G (NL (TN (RT ?_))))))))))))));refine q07 G G H.ext (congrArg Value.bool ?_);rw[con_eq,if_neg Om];unfold contC;rw[if_neg Om];rw[if_neg Om];rw[if_pos Om]
 refine MV G G (SG (q03 Tu208 G Ts3 Dc G) G G G ?_);first|refine q02 (q08 H rfl (by assumption) Ta3) (q04 rfl rfl rfl) rfl rfl ?_|refine q02 (XL H Ta3) (q04 rfl rfl rfl) rfl rfl ?_
 refine q0a (q0e G G) (q04 G G G) G G (fun h8_6=>?_) (fun h8_6=>?_)
 · refine PF G G G (AS G G (NL (TN (CT G (SQ (RG (AS G G (NL (TN (RT ?_))))))))));refine q07 G G H.ext (congrArg Value.bool ?_);rw[con_eq,if_neg Om];unfold contC;rw[if_neg Om];rw[if_neg Om];rw[if_pos Om]
 refine PF G G G (AS G G (NL (TN (CF G (SQ (RG (ST (q03 Tu208 G Ts3 Dc G) G ?_)))))));first|refine q02 (q08 H rfl (by assumption) Ta3) (q00 rfl) rfl rfl ?_|refine q02 (XL H Ta3) (q00 rfl) rfl rfl ?_
 refine q0a (q0e G G) (q00 G) G G (fun h10_2=>?_) (fun h10_2=>?_)
 · refine AS G G (NL (TN (CT G (SQ (RG (ST (q03 Tu208 G Ts3 Dc G) G ?_))))));first|refine q02 (q08 H rfl (by assumption) Ta3) (q00 rfl) rfl rfl ?_|refine q02 (XL H Ta3) (q00 rfl) rfl rfl ?_
   refine ST (q0e G G) G (AS G G (NL (TN (RT ?_))));refine q07 G G H.ext (congrArg Value.bool ?_);rw[con_eq,if_neg Om];unfold contC;rw[if_neg Om];rw[if_neg Om];rw[if_neg Om];rw[if_pos Om]
 refine AS G G (NL (TN (CF G (SQ (RG (ST (q03 Tu208 G Ts3 Dc G) G ?_))))));first|refine q02 (q08 H rfl (by assumption) Ta3) (q00 rfl) rfl rfl ?_|refine q02 (XL H Ta3) (q00 rfl) rfl rfl ?_
 refine q0a (q0e G G) (q00 G) G G (fun h12_2=>?_) (fun h12_2=>?_)
 · refine AS G G (NL (TN (CT G (SQ (RG (MV G G (ST (q1D G G (by first|omega|exact⟨l0k _,by decide⟩)) G ?_)))))));refine ST (q0e G G) G (AS G G (NL (TN (RT ?_))));refine q07 G G H.ext (congrArg Value.bool ?_);rw[con_eq,if_neg Om];unfold contC;rw[if_neg Om];rw[if_neg Om];rw[if_neg Om];rw[if_neg Om];rw[if_pos Om]
 refine AS G G (NL (TN (CF G (SK (IB (TN (SQ (RG (ST (q03 Tu208 G Ts3 Dc G) G ?_)))))))));first|refine q02 (q08 H rfl (by assumption) Ta3) (q00 rfl) rfl rfl ?_|refine q02 (XL H Ta3) (q00 rfl) rfl rfl ?_
 refine q0a (q0e G G) (q00 G) G G (fun h14_2=>?_) (fun h14_2=>?_)
 · refine MV G G (SG (q03 Tu208 G Ts3 Dc G) G G G ?_);first|refine q02 (q08 H rfl (by assumption) Ta3) (q04 rfl rfl rfl) rfl rfl ?_|refine q02 (XL H Ta3) (q04 rfl rfl rfl) rfl rfl ?_
   refine q0a (q0e G G) (q04 G G G) G G (fun h14_6=>?_) (fun h14_6=>?_)
   · refine SG (q01 G) G G G (GT G G G (GT G G G (GT G G G (SG (q0r G G) G G G (PT G G G (MV G G (GT G G G (GT G G G (GT G G G (GT G G G (GU G G G (GU G G G (GU G G G (GU G G G (GU G G G (GU G G G (GU G G G (GU G G G (GT G G G (PT G G G (MV G G (GT G G G (GT G G G (GT G G G (GT G G G (GU G G G (GU G G G (GU G G G (GT G G G (PT G G G (AS G G (NL (TN (RT ?_))))))))))))))))))))))))))))))))));refine q07 G G H.ext (congrArg Value.bool ?_);rw[con_eq,if_neg Om];unfold contC;rw[if_neg Om];rw[if_neg Om];rw[if_neg Om];rw[if_neg Om];rw[if_neg Om];first|rfl|exact(decide_eq_true Om).symm|exact(decide_eq_false Om).symm|exact decide_eq_decide.2 Om|(exfalso;omega)
   refine SG (q01 G) G G G (SG (q03 Tu208 G Ts3 Dc G) G G G ?_);first|refine q02 (q08 H rfl (by assumption) Ta3) (q04 rfl rfl rfl) rfl rfl ?_|refine q02 (XL H Ta3) (q04 rfl rfl rfl) rfl rfl ?_
   refine q0a (q0e G G) (q04 G G G) G G (fun h14_10=>?_) (fun h14_10=>?_)
   · refine SG (q0s G G) G G G (PT G G G (MV G G (GT G G G (GT G G G (GT G G G (GT G G G (GU G G G (GU G G G (GU G G G (GU G G G (GU G G G (GU G G G (GU G G G (GU G G G (GT G G G (PT G G G (MV G G (GT G G G (GT G G G (GT G G G (GT G G G (GU G G G (GU G G G (GU G G G (GT G G G (PT G G G (AS G G (NL (TN (RT ?_))))))))))))))))))))))))))))));refine q07 G G H.ext (congrArg Value.bool ?_);rw[con_eq,if_neg Om];unfold contC;rw[if_neg Om];rw[if_neg Om];rw[if_neg Om];rw[if_neg Om];rw[if_neg Om];first|rfl|exact(decide_eq_true Om).symm|exact(decide_eq_false Om).symm|exact decide_eq_decide.2 Om|(exfalso;omega)
   refine SG (q0s G G) G G G (PT G G G (MV G G (SG (q03 Tu208 G Ts3 Dc G) G G G ?_)));first|refine q02 (q08 H rfl (by assumption) Ta3) (q04 rfl rfl rfl) rfl rfl ?_|refine q02 (XL H Ta3) (q04 rfl rfl rfl) rfl rfl ?_
   refine q0a (q0e G G) (q04 G G G) G G (fun h14_16=>?_) (fun h14_16=>?_)
   · refine SG (q01 G) G G G (SG (q03 Tu208 G Ts3 Dc G) G G G ?_);first|refine q02 (q08 H rfl (by assumption) Ta3) (q04 rfl rfl rfl) rfl rfl ?_|refine q02 (XL H Ta3) (q04 rfl rfl rfl) rfl rfl ?_
     refine q0a (q0e G G) (q04 G G G) G G (fun h14_20=>?_) (fun h14_20=>?_)
     · refine SG (q01 G) G G G (GT G G G (GT G G G (GT G G G (SG (q0r G G) G G G (SG (q0r G G) G G G (PF G G G (MV G G (GT G G G (GT G G G (GT G G G (GT G G G (GU G G G (GU G G G (GU G G G (GT G G G (PT G G G (AS G G (NL (TN (RT ?_))))))))))))))))))));refine q07 G G H.ext (congrArg Value.bool ?_);rw[con_eq,if_neg Om];unfold contC;rw[if_neg Om];rw[if_neg Om];rw[if_neg Om];rw[if_neg Om];rw[if_neg Om];first|rfl|exact(decide_eq_true Om).symm|exact(decide_eq_false Om).symm|exact decide_eq_decide.2 Om|(exfalso;omega)
     refine SG (q01 G) G G G (SG (q03 Tu208 G Ts3 Dc G) G G G ?_);first|refine q02 (q08 H rfl (by assumption) Ta3) (q04 rfl rfl rfl) rfl rfl ?_|refine q02 (XL H Ta3) (q04 rfl rfl rfl) rfl rfl ?_
     refine q0a (q0e G G) (q04 G G G) G G (fun h14_24=>?_) (fun h14_24=>?_)
     · refine SG (q0s G G) G G G (SG (q0r G G) G G G (PF G G G (MV G G (GT G G G (GT G G G (GT G G G (GT G G G (GU G G G (GU G G G (GU G G G (GT G G G (PT G G G (AS G G (NL (TN (RT ?_))))))))))))))));refine q07 G G H.ext (congrArg Value.bool ?_);rw[con_eq,if_neg Om];unfold contC;rw[if_neg Om];rw[if_neg Om];rw[if_neg Om];rw[if_neg Om];rw[if_neg Om];first|rfl|exact(decide_eq_true Om).symm|exact(decide_eq_false Om).symm|exact decide_eq_decide.2 Om|(exfalso;omega)
     refine SG (q0s G G) G G G (SG (q0r G G) G G G (PF G G G (MV G G (SG (q03 Tu208 G Ts3 Dc G) G G G ?_))));first|refine q02 (q08 H rfl (by assumption) Ta3) (q04 rfl rfl rfl) rfl rfl ?_|refine q02 (XL H Ta3) (q04 rfl rfl rfl) rfl rfl ?_
     refine q0a (q0e G G) (q04 G G G) G G (fun h14_31=>?_) (fun h14_31=>?_)
     · refine SG (q01 G) G G G (SG (q03 Tu208 G Ts3 Dc G) G G G ?_);first|refine q02 (q08 H rfl (by assumption) Ta3) (q04 rfl rfl rfl) rfl rfl ?_|refine q02 (XL H Ta3) (q04 rfl rfl rfl) rfl rfl ?_
       refine SG (q0e G G) G G G (SG (q0r G G) G G G (PF G G G (AS G G (NL (TN (RT ?_))))));refine q07 G G H.ext (congrArg Value.bool ?_);rw[con_eq,if_neg Om];unfold contC;rw[if_neg Om];rw[if_neg Om];rw[if_neg Om];rw[if_neg Om];rw[if_neg Om];first|rfl|exact(decide_eq_true Om).symm|exact(decide_eq_false Om).symm|exact decide_eq_decide.2 Om|(exfalso;omega)
     refine SG (q01 G) G G G (GF G G G (GF G G G (GF G G G (SG (q0s G G) G G G (PF G G G (AS G G (NL (TN (RT ?_)))))))));refine q07 G G H.ext (congrArg Value.bool ?_);rw[con_eq,if_neg Om];unfold contC;rw[if_neg Om];rw[if_neg Om];rw[if_neg Om];rw[if_neg Om];rw[if_neg Om];first|rfl|exact(decide_eq_true Om).symm|exact(decide_eq_false Om).symm|exact decide_eq_decide.2 Om|(exfalso;omega)
   refine SG (q01 G) G G G (GF G G G (GF G G G (GF G G G (GF G G G (GU G G G (GU G G G (GU G G G (GF G G G (SG (q0s G G) G G G (PF G G G (MV G G (SG (q03 Tu208 G Ts3 Dc G) G G G ?_))))))))))));first|refine q02 (q08 H rfl (by assumption) Ta3) (q04 rfl rfl rfl) rfl rfl ?_|refine q02 (XL H Ta3) (q04 rfl rfl rfl) rfl rfl ?_
   refine q0a (q0e G G) (q04 G G G) G G (fun h14_31=>?_) (fun h14_31=>?_)
   · refine SG (q01 G) G G G (SG (q03 Tu208 G Ts3 Dc G) G G G ?_);first|refine q02 (q08 H rfl (by assumption) Ta3) (q04 rfl rfl rfl) rfl rfl ?_|refine q02 (XL H Ta3) (q04 rfl rfl rfl) rfl rfl ?_
     refine SG (q0e G G) G G G (SG (q0r G G) G G G (PF G G G (AS G G (NL (TN (RT ?_))))));refine q07 G G H.ext (congrArg Value.bool ?_);rw[con_eq,if_neg Om];unfold contC;rw[if_neg Om];rw[if_neg Om];rw[if_neg Om];rw[if_neg Om];rw[if_neg Om];first|rfl|exact(decide_eq_true Om).symm|exact(decide_eq_false Om).symm|exact decide_eq_decide.2 Om|(exfalso;omega)
   refine SG (q01 G) G G G (GF G G G (GF G G G (GF G G G (SG (q0s G G) G G G (PF G G G (AS G G (NL (TN (RT ?_)))))))));refine q07 G G H.ext (congrArg Value.bool ?_);rw[con_eq,if_neg Om];unfold contC;rw[if_neg Om];rw[if_neg Om];rw[if_neg Om];rw[if_neg Om];rw[if_neg Om];first|rfl|exact(decide_eq_true Om).symm|exact(decide_eq_false Om).symm|exact decide_eq_decide.2 Om|(exfalso;omega)
 refine MV G G (GF G G G (GF G G G (GF G G G (GF G G G (GU G G G (GU G G G (GU G G G (GF G G G (PF G G G (MV G G (SG (q03 Tu208 G Ts3 Dc G) G G G ?_)))))))))));first|refine q02 (q08 H rfl (by assumption) Ta3) (q04 rfl rfl rfl) rfl rfl ?_|refine q02 (XL H Ta3) (q04 rfl rfl rfl) rfl rfl ?_
 refine q0a (q0e G G) (q04 G G G) G G (fun h14_16=>?_) (fun h14_16=>?_)
 · refine SG (q01 G) G G G (SG (q03 Tu208 G Ts3 Dc G) G G G ?_);first|refine q02 (q08 H rfl (by assumption) Ta3) (q04 rfl rfl rfl) rfl rfl ?_|refine q02 (XL H Ta3) (q04 rfl rfl rfl) rfl rfl ?_
   refine q0a (q0e G G) (q04 G G G) G G (fun h14_20=>?_) (fun h14_20=>?_)
   · refine SG (q01 G) G G G (GT G G G (GT G G G (GT G G G (SG (q0r G G) G G G (SG (q0r G G) G G G (PF G G G (MV G G (GT G G G (GT G G G (GT G G G (GT G G G (GU G G G (GU G G G (GU G G G (GT G G G (PT G G G (AS G G (NL (TN (RT ?_))))))))))))))))))));refine q07 G G H.ext (congrArg Value.bool ?_);rw[con_eq,if_neg Om];unfold contC;rw[if_neg Om];rw[if_neg Om];rw[if_neg Om];rw[if_neg Om];rw[if_neg Om];first|rfl|exact(decide_eq_true Om).symm|exact(decide_eq_false Om).symm|exact decide_eq_decide.2 Om|(exfalso;omega)
   refine SG (q01 G) G G G (SG (q03 Tu208 G Ts3 Dc G) G G G ?_);first|refine q02 (q08 H rfl (by assumption) Ta3) (q04 rfl rfl rfl) rfl rfl ?_|refine q02 (XL H Ta3) (q04 rfl rfl rfl) rfl rfl ?_
   refine q0a (q0e G G) (q04 G G G) G G (fun h14_24=>?_) (fun h14_24=>?_)
   · refine SG (q0s G G) G G G (SG (q0r G G) G G G (PF G G G (MV G G (GT G G G (GT G G G (GT G G G (GT G G G (GU G G G (GU G G G (GU G G G (GT G G G (PT G G G (AS G G (NL (TN (RT ?_))))))))))))))));refine q07 G G H.ext (congrArg Value.bool ?_);rw[con_eq,if_neg Om];unfold contC;rw[if_neg Om];rw[if_neg Om];rw[if_neg Om];rw[if_neg Om];rw[if_neg Om];first|rfl|exact(decide_eq_true Om).symm|exact(decide_eq_false Om).symm|exact decide_eq_decide.2 Om|(exfalso;omega)
   refine SG (q0s G G) G G G (SG (q0r G G) G G G (PF G G G (MV G G (SG (q03 Tu208 G Ts3 Dc G) G G G ?_))));first|refine q02 (q08 H rfl (by assumption) Ta3) (q04 rfl rfl rfl) rfl rfl ?_|refine q02 (XL H Ta3) (q04 rfl rfl rfl) rfl rfl ?_
   refine q0a (q0e G G) (q04 G G G) G G (fun h14_31=>?_) (fun h14_31=>?_)
   · refine SG (q01 G) G G G (SG (q03 Tu208 G Ts3 Dc G) G G G ?_);first|refine q02 (q08 H rfl (by assumption) Ta3) (q04 rfl rfl rfl) rfl rfl ?_|refine q02 (XL H Ta3) (q04 rfl rfl rfl) rfl rfl ?_
     refine SG (q0e G G) G G G (SG (q0r G G) G G G (PF G G G (AS G G (NL (TN (RT ?_))))));refine q07 G G H.ext (congrArg Value.bool ?_);rw[con_eq,if_neg Om];unfold contC;rw[if_neg Om];rw[if_neg Om];rw[if_neg Om];rw[if_neg Om];rw[if_neg Om];first|rfl|exact(decide_eq_true Om).symm|exact(decide_eq_false Om).symm|exact decide_eq_decide.2 Om|(exfalso;omega)
   refine SG (q01 G) G G G (GF G G G (GF G G G (GF G G G (SG (q0s G G) G G G (PF G G G (AS G G (NL (TN (RT ?_)))))))));refine q07 G G H.ext (congrArg Value.bool ?_);rw[con_eq,if_neg Om];unfold contC;rw[if_neg Om];rw[if_neg Om];rw[if_neg Om];rw[if_neg Om];rw[if_neg Om];first|rfl|exact(decide_eq_true Om).symm|exact(decide_eq_false Om).symm|exact decide_eq_decide.2 Om|(exfalso;omega)
 refine SG (q01 G) G G G (GF G G G (GF G G G (GF G G G (GF G G G (GU G G G (GU G G G (GU G G G (GF G G G (SG (q0s G G) G G G (PF G G G (MV G G (SG (q03 Tu208 G Ts3 Dc G) G G G ?_))))))))))));first|refine q02 (q08 H rfl (by assumption) Ta3) (q04 rfl rfl rfl) rfl rfl ?_|refine q02 (XL H Ta3) (q04 rfl rfl rfl) rfl rfl ?_
 refine q0a (q0e G G) (q04 G G G) G G (fun h14_31=>?_) (fun h14_31=>?_)
 · refine SG (q01 G) G G G (SG (q03 Tu208 G Ts3 Dc G) G G G ?_);first|refine q02 (q08 H rfl (by assumption) Ta3) (q04 rfl rfl rfl) rfl rfl ?_|refine q02 (XL H Ta3) (q04 rfl rfl rfl) rfl rfl ?_
   refine SG (q0e G G) G G G (SG (q0r G G) G G G (PF G G G (AS G G (NL (TN (RT ?_))))));refine q07 G G H.ext (congrArg Value.bool ?_);rw[con_eq,if_neg Om];unfold contC;rw[if_neg Om];rw[if_neg Om];rw[if_neg Om];rw[if_neg Om];rw[if_neg Om];first|rfl|exact(decide_eq_true Om).symm|exact(decide_eq_false Om).symm|exact decide_eq_decide.2 Om|(exfalso;omega)
 refine SG (q01 G) G G G (GF G G G (GF G G G (GF G G G (SG (q0s G G) G G G (PF G G G (AS G G (NL (TN (RT ?_)))))))));refine q07 G G H.ext (congrArg Value.bool ?_);rw[con_eq,if_neg Om];unfold contC;rw[if_neg Om];rw[if_neg Om];rw[if_neg Om];rw[if_neg Om];rw[if_neg Om];first|rfl|exact(decide_eq_true Om).symm|exact(decide_eq_false Om).symm|exact decide_eq_decide.2 Om|(exfalso;omega)
end Go.Proofs.YtkmjdamkifbddaaGreatDoor
end
section
namespace Go.Proofs.YtkmjdamkifbddaaGreatDoor
open Go Go.RowKit Go.Ph Go.ChangeShapes Go.WideShapes Go.ChangeAt
theorem own : ownKnob Tryz.prog.godebug=none:=by kernel_rfl
theorem laidOut : laidOutB Tryz.prog=true:=by kernel_rfl
theorem first_eq : Lib.firstData=Rows.laid_unicode_utf8_first:=by kernel_rfl
theorem accept_eq : Lib.acceptData=Rows.laid_unicode_utf8_acceptRanges:=by kernel_rfl
theorem tabs_of_laid {W:World}(h:laidMetH Tryz.prog Rows.addressPrintMatchesSpecRow.laid W):Tabs (memOf W):=by
 replace h:laidMet Tryz.prog Rows.addressPrintMatchesSpecRow.laid W:=h;have h3:=Lib.laidMet.reads h (l0t _ l0D);have h4:=Lib.laidMet.reads h l0D;rw[←first_eq] at h3;rw[←accept_eq] at h4;have hT:Lib.Utf8Tabs 0 1 W:=utf8Tabs_of_reads Tryz.lays260 ⟨by kernel_rfl,by kernel_rfl,by kernel_rfl,by kernel_rfl,by kernel_rfl,by kernel_rfl,by kernel_rfl⟩ h3 h4;intro w ha;exact⟨fun c hc=>cell_upM ha (hT.1 c hc),fun i hi=>⟨cell_upM ha (hT.2 i hi).1,cell_upM ha (hT.2 i hi).2⟩⟩
theorem gl_maxl {W:World}(h:W.ShapedOpen Tryz.prog):GlF (fun w =>∃m,w.cell? ⟨2,0,none⟩=some (.int .i64 m)) (memOf W):=by
 obtain⟨m,hm⟩:=Go.Proofs.cell_of_shapedOpen_int (g:=2) (zero := #[.int .i64 0]) (t:=3) h (of_decide_eq_true Kr) Kr rfl Kr Kr Tu3;exact fun w ha=>⟨m,cell_upM ha hm⟩
noncomputable def laidWorld (os:Os):World:=World.laidAll Tryz.prog os Rows.addressPrintMatchesSpecRow.laid
theorem laid_met (os:Os)(args:Array Value):laidMet Tryz.prog Rows.addressPrintMatchesSpecRow.laid ((laidWorld os).forCall (fun _ _=>0) ⟨#[],args,[]⟩).memory :=
 laidMet_laidAll args Kr Kr
end Go.Proofs.YtkmjdamkifbddaaGreatDoor
end
section
namespace Go.Ph
open Go Go.RowKit Go.ChangeShapes Go.WideShapes Go.ChangeAt
section
variable {H : Type} {enc : TypeId × Value → H} {P : Program} {W : World}
def ElemIs (enc:TypeId × Value→H)(P:Program)(W:World)(e:TypeId){α:Type}(encA:α→List Value)(ok:α→Prop):Prop :=
 ∀fuel cs (x:DataW H × List MemPlace),DataW.trod enc P W 0 (fun _=>true) true fuel e cs=some x→∃a,cs=encA a∧((∀y∈x.1.weights P e,y≤reachBytes)→ok a)
theorem weightsAll_mem {e:TypeId}:∀{l:List (DataW H)} {d:DataW H},d∈l→∀y∈d.weights P e,y∈DataW.weightsAll P e l
 | [],d,h=>by cases h
 | x::l,d,h=>fun y hy=>by
   rw[DataW.weightsAll];rcases List.mem_cons.1 h with rfl|h
   · exact l1v _ hy
   exact l1F _ (weightsAll_mem h y hy)
theorem open_sliceV {α:Type}{t e:TypeId}{kk:Nat}{encA:α→List Value}{ok:α→Prop}{v:Value}{d:DataW H}{p:List MemPlace}(ht:P.underlying t=some (.slice e))(hc:P.cellsOf e=kk)(hk:0<kk)
 (h0 :∀a,(encA a).length=kk) (hel:ElemIs enc P W e encA ok) (hsl :∃a0 len cap,v = .slice a0 len cap) (hT:DataW.Trod enc P W 0 (fun _=>true) true t v d p) :
 ∃l:List α,SlS (memOf W) kk encA v l∧DLen d l.length∧((∀x∈d.weights P t,x≤reachBytes)→∀a∈l,ok a):=by
 obtain⟨a0,len,cap,rfl⟩:=hsl;obtain⟨fuel,hf⟩:=hT;rcases Deep.open_slice ht hf with ⟨hcs,hx⟩|⟨a,len',cap',m,n,D,Pl,hcs,_,hl,hm,hmm,hx,hi⟩
 · simp [Value.cells] at hcs;obtain⟨rfl,rfl,rfl⟩:=hcs;cases hx;exact⟨[],⟨h0,none,0,G,by simp,⟨by simp [maxLen],fun _=>G⟩,fun h=>absurd G h⟩, .inl ⟨G,G⟩,fun _ a ha=>by cases ha⟩
 simp [Value.cells] at hcs;obtain⟨rfl,rfl,rfl⟩:=hcs;simp only[if_true] at hmm;cases hx;have each :∀i,i<len→∃x:α,(∀j u,(encA x)[j]? = some u→W.cell? (a.add (i*kk+j))=some u)∧((∀y∈(D i).weights P e,y≤reachBytes)→ok x):=fun i hil=>by
  obtain⟨cs',h1,h2⟩:=hi i Om;obtain⟨x,rfl,hw⟩:=hel _ _ _ h2;rw[hc] at h1;refine⟨x,fun j u hj=>?_,hw⟩;obtain⟨_,c1,c2⟩:=World.cells?_some h1;have hjl:j<kk:=by have:=(List.getElem?_eq_some_iff.1 hj).1;rw [h0] at this;exact this
  have:=c2 j hjl;rw[hj] at this;rw[←this];congr 1;by_cases hj0:j=0 <;> by_cases hi0:i*kk=0 <;> simp [Addr.add,hj0,hi0,l1I]
 obtain⟨l,hll,hlx⟩ :∃l:List α,l.length=len∧∀i x,l[i]? = some x→(∀j u,(encA x)[j]? = some u→W.cell? (a.add (i*kk+j))=some u)∧((∀y∈(D i).weights P e,y≤reachBytes)→ok x):=by
  have :∀n,n≤len→∃l:List α,l.length=n∧∀i x,l[i]? = some x→(∀j u,(encA x)[j]? = some u→W.cell? (a.add (i*kk+j))=some u)∧((∀y∈(D i).weights P e,y≤reachBytes)→ok x):=by
   intro n;induction n with
   | zero=>exact fun _=>⟨[],rfl,fun i x h=>by simp at h⟩
   | succ n ih =>
     intro hn;obtain⟨l,h1,h2⟩:=ih Om;obtain⟨x,hx⟩:=each n Om;refine⟨l++[x],by simp [h1],fun i y hy=>?_⟩;rcases l0S i n with hin|hin
     · rw[List.getElem?_append_left Om] at hy;exact h2 i y hy
     rw[List.getElem?_append_right Om] at hy;have hi0:i-l.length=0:=by have:=(List.getElem?_eq_some_iff.1 hy).1;simp at this;omega
     rw[hi0] at hy;simp at hy;subst hy;obtain rfl:i=n:=by omega
     exact hx
  exact this len (l0e _)
 refine⟨l,⟨h0,some a,cap,by rw[hll],by omega,⟨hm,fun h=>by cases h⟩,fun hne=>?_⟩, .inr ⟨_,_,G,by simp [hll]⟩,fun hw x hx=>?_⟩
 · have hpos:0<len:=by
    rcases l2m len with h|h
    · exact absurd (l0a Om) hne
    exact h
   have hcell :∀q,q<len*kk→W.cell? (a.add q)=some ((l.flatMap encA).getD q undef):=fun q hq=>by
    have hq1:q / kk<len:=Nat.div_lt_of_lt_mul (by rw[l1O];exact hq);have hq2:q % kk<kk:=l1Z _ hk;have hl1:l[q / kk]? = some (l[q / kk]'Om):=List.getElem?_eq_getElem _;have hu:(encA (l[q / kk]'Om))[q % kk]? = some ((encA (l[q / kk]'Om))[q % kk]'(by rw[h0];exact hq2)):=List.getElem?_eq_getElem _;have h3:=(hlx _ _ hl1).1 _ _ hu;have h4:=flat_at h0 l _ _ _ _ hl1 hu;have hqq:q / kk*kk+q % kk=q:=by rw[l1O];exact Nat.div_add_mod q kk
    rw[hqq] at h3 h4;rw[h3,l0y,h4];rfl
   obtain⟨b,o,cs,t',fz,rfl,hb,hcs⟩:=cells_at (n:=len*kk) (Nat.mul_pos hpos hk) hcell;refine⟨b,o,cs,t',fz,G,hb,fun i x hi j u hj=>?_⟩;have hil:=(List.getElem?_eq_some_iff.1 hi).1;have hjl:j<kk:=by have:=(List.getElem?_eq_some_iff.1 hj).1;rw [h0] at this;exact this
   have hlt:i*kk+j<len*kk:=by
    have:(i+1)*kk≤len*kk:=l0G _ Om;rw[l1p] at this;omega
   have:=hcs (i*kk+j) hlt;rw[l0y,flat_at h0 l i j x u hi hj] at this;rw[l1I];exact this
 obtain⟨i,hi',rfl⟩:=l1Y hx;refine(hlx i _ (List.getElem?_eq_getElem hi')).2 (fun y hy=>hw y ?_);simp only[DataW.weights,ht];exact l0t _ (l1v _ (weightsAll_mem (List.mem_map.2 ⟨i,List.mem_range.2 Om,G⟩) y hy))
theorem open_sliceG {α:Type}{t e:TypeId}{kk:Nat}{encA:α→List Value}{ok:α→Prop}{v:Value}{d:DataW H}{p:List MemPlace}{base:Nat}(ht:P.underlying t=some (.slice e))(hc:P.cellsOf e=kk)(hk:0<kk)
 (h0 :∀a,(encA a).length=kk) (hel:ElemIs enc P W e encA ok) (hval:Value.okWide P W .any base t v) (hT:DataW.Trod enc P W 0 (fun _=>true) true t v d p) :
 ∃l:List α,SlS (memOf W) kk encA v l∧DLen d l.length∧((∀x∈d.weights P t,x≤reachBytes)→∀a∈l,ok a):=open_sliceV ht hc hk h0 hel (okWide_slice ht hval) hT
end
end Go.Ph
end
section
namespace Go.Ph
open Go Go.RowKit Go.ChangeShapes Go.WideShapes Go.ChangeAt
section
variable {H : Type} {enc : TypeId × Value → H} {P : Program} {W : World}
end
end Go.Ph
end
section
namespace Go.Ph
open Go Go.RowKit
namespace Pl
def runL {σ α:Type}(Y:σ→α→Option (σ × Bool)):List α→σ→Option σ
 | [],s=>some s
 | x::xs,s=>(Y s x).bind fun r=>if r.2=true then runL Y xs r.1 else some r.1
def stepY {σ α:Type}(stop:σ→Bool)(B:σ→α→Option σ)(s:σ)(x:α):Option (σ × Bool):=if stop s=true then none else(B s x).map fun s'=>(s',!stop s')
abbrev goOn {σ:Type}:σ→Bool:=fun _=>false
theorem runL_goOn {σ α:Type}(B:σ→α→Option σ):∀(xs:List α) (s:σ),runL (stepY goOn B) xs s=xs.foldlM B s
 | [],s=>rfl
 | x :: xs,s=>by
   rw[runL,List.foldlM_cons];show Option.bind _ _=Option.bind _ _
   unfold stepY;rw[if_neg Sm];cases h:B s x with
   | none=>rfl
   | some s' =>
     exact runL_goOn B xs s'
end Pl
open Pl
def Thru {σ α:Type}(Y:σ→α→Option (σ × Bool)):List α→σ→σ→Prop
 | [],s,s1=>s1=s
 | x::xs,s,s1 =>∃s2,Y s x=some (s2,true)∧Thru Y xs s2 s1
theorem Thru.run {σ α:Type}{Y:σ→α→Option (σ × Bool)}:∀{pre rest:List α} {s s1:σ},Thru Y pre s s1→runL Y (pre++rest) s=runL Y rest s1
 | [],rest,s,s1,h=>by cases h;rfl
 | x::xs,rest,s,s1,⟨s2,h1,h2⟩=>by
   rw[l04,runL,h1];exact h2.run
structure ItS {α:Type}(P:Program)(f:FuncId)(cap:List Value)(A:List Item)(Pre:Mem→Prop)(enc:α→Value)(run:(σ:Type)→(σ→α→Option (σ × Bool))→σ→Option σ):Prop where
 enters :∀ar w,(callFunc f ar).run P w = .ok (.enter f ar) w
 calls :∀(l:Nat) (σ:Type) (Y:σ→α→Option (σ × Bool)) (Z:σ→List Item→Mem→Prop),(∀s L M M',Z s L M→M.le M'→Z s L M')→
  (∀s x s' b L w M,Y s x=some (s',b)→Z s L M→StX (feet L) w M M L w→YieldAt (Wd none) 0 P l #[enc x] w fun e w' =>∃M' L',StX (feet L) w M M' L' w'∧e = .returned (.bool b)∧Z s' L' M')→
  ∀s s' L w M,run σ Y s=some s'→Z s L M→StX (feet (A++L)) w M M (A++L) w→Pre M→
  Calls P f (yv l::cap).toArray w fun e w' =>∃r M' L',e = .returned r∧StX (feet (A++L)) w M M' L' w'∧Z s' L' M'
section
variable {C : Nat → Prop} {r : Option Nat} {P : Program} {ops : Array Oper} {Q : Exit → Act → World → Prop} {n : Nat} {D : List Deferred} {rest : List Oper} {e : Env} {w0 w : World} {M0 M : Mem} {L B : List Item} {d : Nat}
  {x y : Operand} {ty t ts t' : TypeId} {pos : String} {af : Array Edge} {g : Option (Nat × Bool)} {α σ : Type} {enc : α → Value}
def lpS (rc:LoopState→Option Code→Loop):Option Code→Loop
 | none=>rc .ready none
 | some c=>rc .done (some c)
def RS (Z:σ→List Item→Mem→Prop)(E:σ→Option Code)(lid:Nat)(rc:LoopState→Option Code→Loop)(Lh:List Item)(w:World)(M:Mem)(s:σ)(en:Ending)(w':World):Prop :=
 ∃M' L0,StX (feet Lh) w M M' (.blk lid (.loop (lpS rc (E s)))::L0) w'∧en = .returned (.bool (E s).isNone)∧Z s L0 M'
variable {lid : Nat} {rc : LoopState → Option Code → Loop} {Z : σ → List Item → Mem → Prop} {E : σ → Option Code} {s : σ} {w1 : World} {M1 : Mem} {Lh L0 : List Item}
theorem WQ.rsOn (hrc:LoopRec rc)(H:StX (feet Lh) w1 M1 M (.blk lid (.loop (rc .busy none))::L0) w)(hE:E s=none)(hZ:Z s L0 M):
 WQ (roundPost P lid (RS Z E lid rc Lh w1 M1 s)) .normal n D e w:=fun a _=>by
 have hb:=H.blk (List.Mem.head _);have hr:=run_endRound (P:=P) none hb;simp only[Option.isNone_none,if_true] at hr;rw[hrc.setP] at hr;exact⟨_,_,hr,M,L0,by rw[hE];exact H.put .head,by rw[hE];rfl,hZ⟩
theorem WQ.rsRet (hrc:LoopRec rc)(H:StX (feet Lh) w1 M1 M (.blk lid (.loop (rc .busy none))::L0) w)(hE:E s=some .ret)(hZ:Z s L0 M):
 WQ (roundPost P lid (RS Z E lid rc Lh w1 M1 s)) .ret n D e w:=fun a _=>by
 have hb:=H.blk (List.Mem.head _);have hr:=run_endRound (P:=P) (some .ret) hb;simp only[l2l,l0h,if_false] at hr;rw[hrc.setP] at hr;exact⟨_,_,hr,M,L0,by rw[hE];exact H.put .head,by rw[hE];rfl,hZ⟩
theorem WC.rangeS {Lall A:List Item}{f:FuncId}{cap:List Value}{Pre:Mem→Prop}{run:(σ:Type)→(σ→α→Option (σ × Bool))→σ→Option σ}{gv:Operand}{p:Tmp}{assign body:Code}
 (H:StX C w0 M0 M Lall w) (hg:ev e gv=some (.func (.func f) #[] cap.toArray)) (hit:ItS P f cap A Pre enc run) (hs:Spl Lall (A++L) B) (hp:Pre M) (hpn:Nat.blt p n=true)
 (Z:σ→List Item→Mem→Prop) (E:σ→Option Code) (stop:σ→Bool) (hE :∀s,stop s=(E s).isSome) (Bd:σ→α→Option σ) (s0 s1:σ) (hrun:run σ (stepY stop Bd) s0=some s1)
 (hZ :∀s L M M',Z s L M→M.le M'→Z s L M') (hE0:E s0=none) (hz:Z s0 L M)
 (hbody :∀(lid:Nat) (rc:LoopState→Option Code→Loop),LoopRec rc→∀s x s' L w M,E s=none→Bd s x=some s'→Z s L M→
  StX (feet (.blk lid (.loop (rc .ready none))::L)) w M M (.blk lid (.loop (rc .ready none))::L) w→
  WC (some lid) P (asgPost P lid body (RS Z E lid rc (.blk lid (.loop (rc .ready none))::L) w M s')) n [] assign ((p,enc x)::e) w)
 (hdone :∀Dm w M' L',StX C w0 M0 M' (L'++(.blk Dm (.deferred (some []))::B)) w→M.le M'→E s1=none→Z s1 L' M'→WQ Q .normal n (mark Dm::D) e w)
 (hstop :∀Dm w M' L' c,StX C w0 M0 M' (L'++(.blk Dm (.deferred (some []))::B)) w→M.le M'→E s1=some c→Z s1 L' M'→WC none P Q n (mark Dm::D) c e w) :
 WC none P Q n D (.rangeFunc gv #[p] assign body) e w:=by
 intro a ha;refine wpIn_rangeFunc (F:=Wd none) (n:=0) ?_;intro fn _;obtain⟨rc,hrcd⟩ :∃rc:LoopState→Option Code→Loop,rc=fun st pe=>{state:=st,pending:=pe,fn,tmps:=a.tmps,params := #[p],assign,body,defers:=w.heap.size}:=⟨_,rfl⟩
 have hrc:LoopRec rc:=by subst hrcd;exact ⟨fun _ _=>rfl,fun _ _=>rfl,fun _ _ _=>rfl,fun _ _ _ _=>rfl⟩
 have H1:StX C w0 M0 M (.blk w.heap.size (.deferred (some []))::Lall) (w.alloc (.deferred (some []))) :=
  H.new (grownBy_alloc' _ _) (World.alloc_heap_new w _) (fun b hb=>by cases hb;exact l0e _)
 have H2:StX C w0 M0 M (.blk (w.heap.size+1) (.loop (rc .ready none)) :: .blk w.heap.size (.deferred (some []))::Lall) ((w.alloc (.deferred (some []))).alloc (.loop (rc .ready none))) :=
  H1.new (grownBy_alloc' _ _) (by have:=World.alloc_heap_new (w.alloc (.deferred (some []))) (.loop (rc .ready none));rwa [World.size_alloc] at this) (fun b hb=>by cases hb;simp)
 obtain⟨W,hW⟩ :∃W,(w.alloc (.deferred (some []))).alloc (.loop (rc .ready none))=W:=⟨_,rfl⟩
 rw[hW] at H2;have hperm:(Item.blk (w.heap.size+1) (.loop (rc .ready none)) :: .blk w.heap.size (.deferred (some []))::Lall).Perm ((A++(.blk (w.heap.size+1) (.loop (rc .ready none))::L))++(.blk w.heap.size (.deferred (some []))::B)):=by
  have h1:Lall.Perm (A++L++B):=hs.perm;have h2:(A++(Item.blk (w.heap.size+1) (.loop (rc .ready none))::L)).Perm (.blk (w.heap.size+1) (.loop (rc .ready none))::(A++L)):=List.perm_middle;refine(((h1.cons _).trans List.perm_middle.symm).cons _).trans ?_;exact(h2.append_right _).symm
 have H3:=H2.perm hperm;refine⟨w.heap.size+1,[mark w.heap.size],W,{target := .fn (.func f) cap.toArray,args := #[yv (w.heap.size+1)]},W,f,(yv (w.heap.size+1)::cap).toArray,W,?_,?_,fun _ _=>trivial,?_,fun h=>(by cases h),?_⟩
 · rw[←hW,hrcd];exact run_enterLoop_outer _ _ _ _ _
 · have h1:=ha.fits _ _ hg;simp only[resolve,h1,Deferred.ofValue,Sem.run_pure,l0z,l0f,l0O,Array.empty_append];rfl
 · simp only[invoke,l2g,l04,l07,hit.enters]
 refine callsIn_Wd.2 ((hit.calls (w.heap.size+1) σ (stepY stop Bd) (fun s L M =>∃L0,L = .blk (w.heap.size+1) (.loop (lpS rc (E s)))::L0∧Z s L0 M) (fun s L M M' ⟨L0,h1,h2⟩ hle=>⟨L0,h1,hZ _ _ _ _ h2 hle⟩) ?_ s0 s1 _ W M hrun ⟨L,by rw[hE0];rfl,hz⟩ (H3.hand (Spl.append _ _)) hp).mono ?_)
 · rintro s x s' b L1 w1 M1 hy ⟨L0,rfl,hz0⟩ Hs;unfold stepY at hy;split at hy
   case isTrue=>cases hy
   rename_i hst;have hEs:E s=none:=by
    cases hc:E s with
    | none=>rfl
    | some c=>rw[hE,hc] at hst;exact absurd rfl hst
   obtain⟨s2,hB,heq⟩:=Option.map_eq_some_iff.1 hy;obtain⟨rfl,rfl⟩:=Prod.mk.inj heq;rw[hEs] at Hs;have hl:=Hs.blk (List.Mem.head _);have hy:=run_yield (P:=P) (args := #[enc x]) hl (by rw[lpS,hrcd];rfl);refine⟨_,_,_,_,hy,roundIn_of_wpIn trivial ?_⟩;have hb:=hbody (w.heap.size+1) rc hrc s x s2 L0 w1 M1 hEs hB hz0 Hs;have hsat:Sat n [] ((p,enc x)::e) {tmps:=(((rc .ready none).params.zip #[enc x]).foldl (fun tmps (t,a)=>tmps.setIfInBounds t a) (rc .ready none).tmps),defers:=[]}:=by
    have h1:=Sat.put (D:=[]) (a:={tmps:=a.tmps,defers:=[]}) (e:=e) (n:=n) ⟨ha.size,rfl,ha.val⟩ (l0i hpn) (enc x);rw[hrcd];simpa [Act.put] using h1
   have hfin:=hb _ hsat;have hpost :∀en w',RS Z E (w.heap.size+1) rc (.blk (w.heap.size+1) (.loop (rc .ready none))::L0) w1 M1 s2 en w'→
    ∃M' L',StX (feet (.blk (w.heap.size+1) (.loop (lpS rc (E s)))::L0)) w1 M1 M' L' w'∧en = .returned (.bool (!stop s2))∧∃L0,L' = .blk (w.heap.size+1) (.loop (lpS rc (E s2)))::L0∧Z s2 L0 M':=by
    rintro en w' ⟨M',L2,h1,h2,h3⟩;refine⟨M',_,by rw[hEs];exact h1,?_,L2,G,h3⟩;rw[h2,hE];cases E s2 <;> rfl
   have hpe:RS Z E (w.heap.size+1) rc (.blk (w.heap.size+1) (.loop (rc .ready none))::L0) w1 M1 s2=fun en w' =>∃M' L',StX (feet (.blk (w.heap.size+1) (.loop (lpS rc (E s)))::L0)) w1 M1 M' L' w'∧en = .returned (.bool (!stop s2))∧∃L0,L' = .blk (w.heap.size+1) (.loop (lpS rc (E s2)))::L0∧Z s2 L0 M':=by
    funext en w'
    refine propext ⟨hpost en w',?_⟩;rintro⟨M',L',h1,h2,L2,rfl,h3⟩;refine⟨M',L2,by rw[hEs] at h1;exact h1,?_,h3⟩;rw[h2,hE];cases E s2 <;> rfl
   rw[hpe] at hfin;rw[lpS];rw[hrcd] at hfin ⊢;exact hfin
 rintro en w3 ⟨rv,M',L',rfl,Hs,L0,rfl,hz'⟩;have Hb:=H3.back (Spl.append _ _) Hs;have hle:M.le M':=Hs.ext.le;have hd:Sat n (mark w.heap.size::D) e {a with defers:=[mark w.heap.size]++a.defers}:=⟨ha.size,by simp [ha.defers],ha.val⟩
 have hl:=Hb.blk (List.Mem.head _);cases hEs:E s1 with
 | none =>
   rw[hEs] at hl Hb;have hr:=run_endLoop (P:=P) hl (by rw[lpS,hrc.state];intro h;cases h);rw[lpS,hrc.setS,hrc.pending] at hr;have Hc:=(Hb.put (o' := .loop (rc .exhausted none)) .head).drop (l0v _ _);exact⟨none,_,hr,hdone _ _ M' L0 Hc hle hEs hz' _ hd⟩
 | some c =>
   rw[hEs] at hl Hb;have hr:=run_endLoop (P:=P) hl (by rw[lpS,hrc.state];intro h;cases h);rw[lpS,hrc.setS,hrc.pending] at hr;have Hc:=(Hb.put (o' := .loop (rc .exhausted (some c))) .head).drop (l0v _ _);exact⟨some c,_,hr,hstop _ _ M' L0 c Hc hle hEs hz' _ hd⟩
variable {fn : Func} {R : Value → Mem → Prop} {v v1 v2 v3 : Value} {x1 x2 x3 : ResultVar} {Dm : Nat} {L' : List Item}
theorem WQ.mret1 (hr:fn.results = #[x1])(h1:resv P w e x1 v)(H:Ext w0 M0 w M)(hR:R v M):WQ (bodyPostM (Wd none) 0 P fn (Ret w0 M0 R)) .ret n [] e w :=
 WQ.retM0 (resv_run1 hr h1) ⟨_,M,rfl,H,hR⟩
theorem WQ.mret2 (hr:fn.results = #[x1,x2])(h1:resv P w e x1 v1)(h2:resv P w e x2 v2)(H:Ext w0 M0 w M)(hR:R (.tuple #[v1,v2]) M):WQ (bodyPostM (Wd none) 0 P fn (Ret w0 M0 R)) .ret n [] e w :=
 WQ.retM0 (resv_run2 hr h1 h2) ⟨_,M,rfl,H,hR⟩
theorem WQ.nret1 (hr:fn.results = #[x1])(H:St w0 M0 M L w)(hrm:Rem L (.blk Dm (.deferred (some []))) L')(k :∀w,St w0 M0 M L' w→resv P w e x1 v)(hR:R v M):WQ (bodyPostM (Wd none) 0 P fn (Ret w0 M0 R)) .ret n [mark Dm] e w :=
 WQ.retM1 H hrm fun w' H'=>⟨v,resv_run1 hr (k w' H'),_,M,rfl,H'.ext,hR⟩
theorem WQ.nret2 (hr:fn.results = #[x1,x2])(H:St w0 M0 M L w)(hrm:Rem L (.blk Dm (.deferred (some []))) L')(k :∀w,St w0 M0 M L' w→resv P w e x1 v1∧resv P w e x2 v2)(hR:R (.tuple #[v1,v2]) M):WQ (bodyPostM (Wd none) 0 P fn (Ret w0 M0 R)) .ret n [mark Dm] e w :=
 WQ.retM1 H hrm fun w' H'=>⟨_,resv_run2 hr (k w' H').1 (k w' H').2,_,M,rfl,H'.ext,hR⟩
end
end Go.Ph
end
section
namespace Go.Ph
open Go Go.RowKit Pl
theorem CtX.of {P:Program}{f:FuncId}{fn:Func}{c:Code}{args:List Value}{A:List Item}{Pre:Mem→Prop}{R:Value→Mem→List Item→Prop}{n:Nat}
 (hf:P.funcs[f]? = some fn) (hen :∀ar w,(callFunc f ar).run P w = .ok (.enter f ar) w) (hb:fn.body=some c) (hnt:fn.ntmps=n) (hn:Nat.ble args.length n=true)
 (h :∀w M,StX (feet A) w M M A w→Pre M→WC none P (bodyPost P fn (RetX A w M R)) n [] c (envOf 0 args) w):CtX P f args A Pre R :=
 ⟨hen,fun w M ha hp=>calls_of_WC hf hb hnt hn (h w M ha hp)⟩
section
variable {C : Nat → Prop} {r : Option Nat} {P : Program} {ops : Array Oper} {Q : Exit → Act → World → Prop} {n : Nat} {D : List Deferred} {rest : List Oper} {e : Env} {w0 w : World} {M0 M : Mem} {L L' A B : List Item} {d : Nat} {v v1 v2 v3 v4 u z : Value}
  {x y : Operand} {ty t t' te ts tt : TypeId} {pos : String} {af : Array Edge} {g : Option (Nat × Bool)} {dst : Option Tmp}
theorem WR.callX {f:FuncId}{ar:List Operand}{vs:List Value}{tys:Array TypeId}{Pre:Mem→Prop}{R:Value→Mem→List Item→Prop}(H:StX C w0 M0 M L w)(hs:CtX P f vs A Pre R)(hspl:Spl L A B)(ha:evs e ar=some vs)(hp:Pre M)
 (hw:Wn ops n D e ⟨some d, .call ⟨.value (.func f),ar.toArray,tys⟩,ty,pos,af,g⟩) (hn:Nat.blt d n=true)
 (k :∀v M' w' its,StX C w0 M0 M' (its++B) w'→M.le M'→R v M' its→WR r P ops Q n D rest ((d,v)::e) w') :
 WR r P ops Q n D (⟨some d, .call ⟨.value (.func f),ar.toArray,tys⟩,ty,pos,af,g⟩::rest) e w:=by
 intro a hsat;unfold wpListIn;rw[if_pos (hw a hsat)];refine⟨fun _ _=>trivial,?_⟩;rw[Oper.semAt_eq _ _ _ (fun c h=>by cases h)];have hv:ar.map a.eval=vs:=hsat.fits.evs ha;have hf:a.eval (.func f) = .func (.func f) #[] #[]:=rfl;have hrun:(execOp a.eval ⟨some d, .call ⟨.value (.func f),ar.toArray,tys⟩,ty,pos,af,g⟩).run P w = .ok (.enter f vs.toArray) w:=by
  simp only[execOp,resolve,hf,Deferred.ofValue,Sem.run_bind,Sem.run_pure,Result.andThen_ok,invoke,l0z,hv,Array.append_empty,Array.empty_append,hs.enters]
 rw[hrun,Oper.uponIn_enter];refine⟨fun h=>(by cases h),callsIn_Wd.2 ((hs.calls w M (H.hand hspl) hp).mono ?_)⟩;rintro en w' ⟨rv,M',its,rfl,hx,hR⟩;exact k rv M' w' its (H.back hspl hx) hx.ext.le hR _ (hsat.put (l0i hn) rv)
abbrev _root_.q0x := @WR.callX
section ret
variable {fn : Func} {R : Value → Mem → List Item → Prop} {its : List Item} {x1 x2 x3 x4 : ResultVar}
theorem WQ.retX0 (hr:fn.results = #[])(H:StX (feet A) w0 M0 M L w)(hp:Pick L its)(hR:R (.tuple #[]) M its):WQ (bodyPost P fn (RetX A w0 M0 R)) .ret n [] e w :=
 fun a ha=>⟨ha.defers, .tuple #[],by simp [results,hr],_,M,its,rfl,H.pick hp,hR⟩
theorem WQ.endX0 (hr:fn.results = #[])(H:StX (feet A) w0 M0 M L w)(hp:Pick L its)(hR:R (.tuple #[]) M its):WQ (bodyPost P fn (RetX A w0 M0 R)) .normal n [] e w :=
 fun a ha=>⟨ha.defers, .tuple #[],by simp [results,hr],_,M,its,rfl,H.pick hp,hR⟩
theorem WQ.retX1 (hr:fn.results = #[x1])(h1:resv P w e x1 v1)(H:StX (feet A) w0 M0 M L w)(hp:Pick L its)(hR:R v1 M its):WQ (bodyPost P fn (RetX A w0 M0 R)) .ret n [] e w :=
 fun a ha=>⟨ha.defers,v1,by rw[results_eq,hr];exact run_res1 _ (resv_run ha h1),_,M,its,rfl,H.pick hp,hR⟩
abbrev _root_.q1s := @WQ.retX1
theorem WQ.retX2 (hr:fn.results = #[x1,x2])(h1:resv P w e x1 v1)(h2:resv P w e x2 v2)(H:StX (feet A) w0 M0 M L w)(hp:Pick L its)(hR:R (.tuple #[v1,v2]) M its):WQ (bodyPost P fn (RetX A w0 M0 R)) .ret n [] e w :=
 fun a ha=>⟨ha.defers, .tuple #[v1,v2],by rw[results_eq,hr];exact run_res2 _ (resv_run ha h1) (resv_run ha h2),_,M,its,rfl,H.pick hp,hR⟩
end ret
end
end Go.Ph
end
section
namespace Go.Ph
open Go Go.RowKit Pl
def BPM (M:Mem)(b:Nat)(p:Value):Prop:=p = .pointer none∨p=ptr b 0
theorem BPM.mono {M M':Mem}{b:Nat}{p:Value}(h:BPM M b p)(_:M.le M'):BPM M' b p:=h
theorem BPM.nil {M:Mem}{b:Nat}:BPM M b (.pointer none) := .inl rfl
theorem BPM.self {M:Mem}{b:Nat}:BPM M b (ptr b 0) := .inr rfl
def SDat (v:Value)(l:Ls)(q:Value):Prop :=∃a,q = .pointer a∧(l≠ []→∃g cp,v = .slice (some ⟨g,0,none⟩) l.length cp∧a=some ⟨g,0,none⟩)
section
variable {C : Nat → Prop} {r : Option Nat} {P : Program} {ops : Array Oper} {Q : Exit → Act → World → Prop} {n : Nat} {D : List Deferred} {rest : List Oper} {e : Env} {w0 w : World} {M0 M : Mem} {L L' A B : List Item} {d : Nat} {v q u z : Value}
  {x y : Operand} {ty t t' te ts tt pt : TypeId} {pos : String} {af : Array Edge} {g : Option (Nat × Bool)} {l : List UInt8}
theorem Ex.builtinSD {w':World}(hx:ev e x=some v)(hr:(Builtin.unsafeSliceData_ #[ts] ty #[v]).run P w = .ok q w'):Ex P ⟨some d, .call ⟨.builtin .unsafeSliceData,#[x],#[ts]⟩,ty,pos,af,g⟩ e w q w' :=
 ⟨nofun,fun ρ hf=>by
  have h1:=hf _ _ hx;simp [execOp,resolve,h1,invoke,hr,go_sem]⟩
theorem WR.sliceData (hp:P.underlying ty=some (.pointer t))(H:StX C w0 M0 M L w)(hm:RowI t encB v l∈L)(hx:ev e x=some v)
 (hw:Wn ops n D e ⟨some d, .call ⟨.builtin .unsafeSliceData,#[x],#[ts]⟩,ty,pos,af,g⟩) (hn:Nat.blt d n=true)
 (k :∀q w',StX C w0 M0 M L w'→SDat v l q→WR r P ops Q n D rest ((d,q)::e) w') :
 WR r P ops Q n D (⟨some d, .call ⟨.builtin .unsafeSliceData,#[x],#[ts]⟩,ty,pos,af,g⟩::rest) e w:=by
 rcases(H.rowOf hm).2 with ⟨hv,hn0⟩|⟨gg,cap,cur,hv,hg0,hg,hrest⟩
 · subst hv;refine WR.run (Ex.builtinSD hx (Lib.run_unsafeSliceData_nil _ _ _ _ _)) hw G hn (k _ _ H ⟨none,G,fun h=>?_⟩);exact absurd (l0a hn0) h
 subst hv;by_cases hc:cap=0
 · subst hc;refine WR.run (Ex.builtinSD hx (Lib.run_unsafeSliceData_zero _ _ _ t hp ⟨gg,0,none⟩ _ (t,cur.size) (by simp [World.shape?,hg]))) hw G hn (k _ _ (H.grow (grownBy_alloc' _ _)) ⟨_,G,fun h=>?_⟩);have:l.length≠0:=by simpa using h
   have h1:=hrest.1;omega
 exact WR.run (Ex.builtinSD hx (Lib.run_unsafeSliceData_row _ _ _ _ _ _ hc)) hw G hn (k _ _ H ⟨_,G,fun _=>⟨gg,cap,G,G⟩⟩)
abbrev _root_.q2n := @WR.sliceData
theorem Ex.builtinUS {w':World}(hx:ev e x=some q)(hy:ev e y=some z)(hr:(Builtin.unsafeString_ #[pt,tt] ty #[q,z]).run P w = .ok v w'):Ex P ⟨some d, .call ⟨.builtin .unsafeString,#[x,y],#[pt,tt]⟩,ty,pos,af,g⟩ e w v w' :=
 ⟨nofun,fun ρ hf=>by
  have h1:=hf _ _ hx;have h2:=hf _ _ hy;simp [execOp,resolve,h1,h2,invoke,hr,go_sem]⟩
theorem grownBy_freeze (w:World)(gg k:Nat):w.grownBy (w.freeze ⟨gg,0,none⟩ k) (some gg):=by
 unfold World.freeze;split
 · exact⟨G,G,G,l0e _,fun _ _ _=>G⟩
 refine⟨G,G,G,by simp,fun k _ hk=>?_⟩;simp only[Array.getElem?_modify];rw[if_neg];intro h;exact hk (by rw[←h])
theorem StX.turn {it:Item}{w':World}(H:StX C w0 M0 M L w)(hr:Rem L it L')(hg:w.grownBy w' it.foot):StX C w0 M0 M L' w':=by
 have hit:=H.own _ hr.mem;refine⟨H.ext.grown hg (fun b hb=>hit.2 b hb),fun x hx=>?_,H.sep.sublist hr.sublist⟩;have h2:=H.own x (hr.sublist.subset hx);refine⟨h2.1.kept (fun b hb=>hg.block b (h2.1.lt b hb) (fun he=>?_)),h2.2⟩;exact hr.pairs (R:=Apart) (fun x y h=>h.symm) H.sep x hx b he.symm hb
theorem WR.unsafeStr (hp:P.underlying pt=some (.pointer t))(hc:P.cellsOf t=1)(H:StX C w0 M0 M L w)(hr:Rem L (RowI t encB v l) L')(hq:SDat v l q)(hx:ev e x=some q)(hy:ev e y=some (I l.length))
 (hw:Wn ops n D e ⟨some d, .call ⟨.builtin .unsafeString,#[x,y],#[pt,tt]⟩,ty,pos,af,g⟩) (hn:Nat.blt d n=true)
 (k :∀w',StX C w0 M0 M L' w'→WR r P ops Q n D rest ((d,S l)::e) w') :
 WR r P ops Q n D (⟨some d, .call ⟨.builtin .unsafeString,#[x,y],#[pt,tt]⟩,ty,pos,af,g⟩::rest) e w:=by
 obtain⟨a,rfl,hq⟩:=hq;by_cases hl:l=[]
 · subst hl;exact WR.run (Ex.builtinUS hx hy (Lib.run_unsafeString_none _ _ _ _ _)) hw G hn (k _ (H.drop hr.sublist))
 obtain⟨gg,cp,rfl,rfl⟩:=hq hl;have hown:=H.rowOf hr.mem;rcases hown.2 with ⟨hv,_⟩|⟨g2,cap,cur,hv,hg0,hg,hrest⟩
 · cases hv
 cases hv;have h63:l.length≤9223372036854775807:=by have h1:=hrest.1;have h2:=hrest.2.1;unfold maxLen at h2;omega
 have hcur:cur.size=cp*1:=hrest.2.2.1;have hrun:=Lib.run_unsafeString_row (P:=P) w pt tt ty t hp hc gg cur.size (by simp [World.shape?,hg]) l hl (by have h1:=hrest.1;omega) h63 (fun j x hx=>by
  have htake:=hrest.2.2.2;have h1:(cur.toList.take (l.length*1))[j]? = some (encB x):=by rw[htake,List.getElem?_map,hx];rfl
  have hj:j<l.length:=(List.getElem?_eq_some_iff.1 hx).1;rw[Addr.add_lit,l0s,Lib.cell_of_heap hg];rw[List.getElem?_take,if_pos Om] at h1;simpa using h1)
 exact WR.run (Ex.builtinUS hx hy hrun) hw G hn (k _ (H.turn hr (grownBy_freeze w gg _)))
abbrev _root_.q2o := @WR.unsafeStr
end
structure ZH {σ:Type}(Z:σ→List Item→Mem→Prop)(s:σ)(L:List Item)(M:Mem):Prop where
 z:Z s L M
 m :∀s L M M',Z s L M→M.le M'→Z s L M'
theorem ZH.mono {σ:Type}{Z:σ→List Item→Mem→Prop}{s:σ}{L:List Item}{M M':Mem}(h:ZH Z s L M)(hl:M.le M'):ZH Z s L M':=⟨h.m _ _ _ _ h.z hl,h.m⟩
end Go.Ph
end
section
namespace Go.Ph
open Go Go.RowKit
namespace Pl
def exStop {τ:Type}(s:τ × Nat):Bool := !decide (s.2=0)
end Pl
open Pl
theorem Pick.skip {L L':List Item}{x:Item}(h:Pick L L'):Pick (x::L) L':=by
 induction h with
 | nil=>exact .nil
 | cons h _ ih=>exact .cons (.tail h) ih
theorem Pick.ofSub {L L':List Item}(h:L'.Sublist L):Pick L L':=by
 induction h with
 | slnil=>exact .nil
 | cons _ _ ih=>exact ih.skip
 | cons_cons _ _ ih=>exact .cons .head ih
def AIn : List Item→List Item→Prop
 | [],_=>True
 | .blk b _::r,L=>(∃o',Item.blk b o'∈L)∧AIn r L
 | _::_,_=>False
section
variable {C : Nat → Prop} {w0 w : World} {M0 M : Mem} {L L' A : List Item} {it : Item} {t : TypeId} {v : Value}
theorem feet_ain (H:StX C w0 M0 M L w)(hr:Rem L it L'){g:Nat}(hg:it.foot=some g):∀{A:List Item},AIn A L'→¬feet A g
 | [],_=>by rintro⟨x,hx,_⟩;cases hx
 | .blk b o::r,⟨⟨o',hm⟩,h2⟩=>by
   rintro⟨x,hx,hxg⟩;rcases List.mem_cons.1 hx with rfl|hx
   · exact hr.pairs (R:=Apart) (fun x y h=>h.symm) H.sep _ hm g hg hxg
   exact feet_ain H hr hg h2 ⟨x,hx,hxg⟩
 | .row _ _ _ _ _::_,h=>h.elim
theorem StX.fresh (H:StX (feet A) w0 M0 M L w)(hr:Rem L it L')(hA:AIn A L'){g:Nat}(hg:it.foot=some g):w0.heap.size≤g :=
 ((H.own _ hr.mem).2 g hg).2.resolve_right (feet_ain H hr hg hA)
theorem StX.freezeRowN {α:Type}{enc:α→Value}{l:List α}(H:StX (feet A) w0 M0 M L w)(hr:Rem L (RowI t enc v l) L')(hA:AIn A L'):∃M',M.le M'∧Sl M' enc v l∧StX (feet A) w0 M0 M' L' w :=
 H.freezeRowX hr (fun g hg=>feet_ain H hr hg hA)
theorem StX.freezeVarN {b:Nat}{cs:Array Value}(H:StX (feet A) w0 M0 M L w)(hr:Rem L (.blk b (.cells cs t)) L')(hA:AIn A L'):∃M',M.le M'∧PtM M' b (.cells cs t)∧StX (feet A) w0 M0 M' L' w:=by
 have hb:=H.blk hr.mem;obtain⟨h1,h2⟩:=H.freeze hr rfl hb (H.fresh hr hA rfl);exact⟨_,h1,by simp [PtM,Mem.set],h2⟩
theorem StX.freezeSCN {gb cap nn:Nat}{l:Ls}(H:StX (feet A) w0 M0 M L w)(hr:Rem L (SRow gb cap t l) L')(h:SOK M l nn cap)(hA:AIn A L'):∃M',M.le M'∧Bs M' (.slice (some ⟨gb,0,none⟩) nn cap) l∧StX (feet A) w0 M0 M' L' w:=by
 obtain⟨rfl,h1,h2⟩:=h;exact H.freezeS hr (H.fresh hr hA G) h1 h2
theorem StX.freezeRowSN {α:Type}{kk:Nat}{enc:α→List Value}{l:List α}(H:StX (feet A) w0 M0 M L w)(hr:Rem L (RowS t kk enc v l) L')(h0 :∀x,(enc x).length=kk)(hA:AIn A L'):∃M',M.le M'∧SlS M' kk enc v l∧StX (feet A) w0 M0 M' L' w:=by
 have hown:=H.rowOf hr.mem;rcases hown.2 with ⟨hv,hn⟩|⟨g,cap,cur,hv,hb,hg,hnc,hcm,hcs,htake⟩
 · have:l=[]:=l0a hn;subst this;subst hv;exact⟨M,Mem.le.refl M,SlS.nil M enc h0,H.drop hr.sublist⟩
 have hf:(RowS t kk enc v l).foot=some g:=by rw[hv];rfl
 obtain⟨h1,h2⟩:=H.freeze hr hf hg (H.fresh hr hA hf);refine⟨_,h1,⟨h0,some ⟨g,0,none⟩,cap,hv,hnc,⟨hcm,fun h=>by cases h⟩,fun _=>⟨g,0,cur,t,(0,0),G,by simp [Mem.set],fun i x hx j u hj=>?_⟩⟩,h2⟩;have h3:=flat_at h0 l i j x u hx hj;rw[←htake,List.getElem?_take] at h3;split at h3
 · rename_i h4;rw[←h3,l0s];simp
 cases h3
end
section
variable {C : Nat → Prop} {r : Option Nat} {P : Program} {ops : Array Oper} {Q : Exit → Act → World → Prop} {n : Nat} {D : List Deferred} {rest : List Oper} {e : Env} {w0 w : World} {M0 M : Mem} {L L' A B Lc : List Item} {d : Nat} {v v1 v2 : Value}
  {x y : Operand} {ty t t' ts : TypeId} {pos : String} {af : Array Edge} {g : Option (Nat × Bool)} {α σ : Type} {enc : α → Value}
def AtP (v:Value)(kk:Nat)(i:Int)(nn b o:Nat):Prop :=∃B c,v = .slice (some ⟨b,B,none⟩) nn c∧o=B+i.toNat*kk∧0≤i∧i<(nn:Int)
theorem Sl.atC {l:List α}{i:Int}{a:α}(h:Sl M enc v l)(hi:idx l i=some a):∃b o,AtP v 1 i l.length b o∧CellM M ⟨b,o,none⟩ (enc a):=by
 obtain⟨h0,hc⟩:=idx_some hi;obtain⟨b,o,c,rfl,hm⟩:=h.addr hc;have hlt:=(List.getElem?_eq_some_iff.1 hc).1;exact⟨b,o+i.toNat,⟨o,c,G,by omega,h0,by omega⟩,hm⟩
theorem SlS.atC {kk:Nat}{encS:α→List Value}{l:List α}{i:Int}{a:α}(h:SlS M kk encS v l)(hi:idx l i=some a):∃b o,AtP v kk i l.length b o∧CellsM M ⟨b,o,none⟩ (encS a):=by
 obtain⟨h0,hc⟩:=idx_some hi;obtain⟨_,A,c,rfl,h1,h2,h3⟩:=h;have hlt:=(List.getElem?_eq_some_iff.1 hc).1;obtain⟨b,o,cs,t0,fz,rfl,e2,e3⟩:=h3 (by rintro rfl;simp at hc);exact⟨b,o+i.toNat*kk,⟨o,c,G,G,h0,by omega⟩,G,cs,t0,fz,e2,fun j u hj=>e3 i.toNat a hc j u hj⟩
theorem Ex.idxAt {dst:Option Tmp}{kk nn b o:Nat}{i:Int}{k':IntKind}(h:AtP v kk i nn b o)(ht:P.underlying t=some (.slice t'))(hz :∀w,(sizeOf t').run P w = .ok kk w)(hx:ev e x=some v)(hy:ev e y=some (.int k' i)):
 Ex P ⟨dst, .indexAddr t x y,ty,pos,af,g⟩ e w (ptr b o) w:=by
 obtain⟨B,c,rfl,rfl,h0,h1⟩:=h;refine⟨nofun,fun ρ hfi=>?_⟩;simp only[execOp,hfi _ _ hx,hfi _ _ hy,Instr.indexAt,Sem.run_bind,asIntOf,run_underlying ht,Result.andThen_ok,Sem.run_pure,hz,h0,h1,and_self,if_true,Addr.add_lit,l0u]
abbrev _root_.q0u := @Ex.idxAt
theorem WR.yieldS {l:Nat}{Y:σ→α→Option (σ × Bool)}{Z:σ→List Item→Mem→Prop}{s s':σ}{b:Bool}{xv:α}{tys:Array TypeId}(H:StX C w0 M0 M L w)(hspl:Spl L Lc B)
 (hY :∀s x s' b L w M,Y s x=some (s',b)→Z s L M→StX (feet L) w M M L w→YieldAt (Wd none) 0 P l #[enc x] w fun e w' =>∃M' L',StX (feet L) w M M' L' w'∧e = .returned (.bool b)∧Z s' L' M')
 (hz:ZH Z s Lc M) (hy:Y s xv=some (s',b)) (hx:ev e x=some (yv l)) (hv:ev e y=some (enc xv))
 (hw:Wn ops n D e ⟨some d, .call ⟨.value x,#[y],tys⟩,ty,pos,af,g⟩) (hn:Nat.blt d n=true)
 (k :∀w M' Lc',StX C w0 M0 M' (B++Lc') w→M.le M'→ZH Z s' Lc' M'→WR none P ops Q n D rest ((d, .bool b)::e) w) :
 WR none P ops Q n D (⟨some d, .call ⟨.value x,#[y],tys⟩,ty,pos,af,g⟩::rest) e w :=
 WR.yield (hY _ _ _ _ _ _ _ hy hz.z (H.hand hspl)) hx hv hw hn (fun en w' ⟨M',L',h1,he,hz'⟩=>⟨b,he,k _ _ _ ((H.back hspl h1).perm l2t) h1.ext.le ⟨hz',hz.m⟩⟩)
def exE (l:List Code)(k:Nat):Option Code:=if k=0 then none else some (l.getD (k-1) .ret)
theorem exE_none {l:List Code}{k:Nat}(h:exE l k=none):k=0:=by unfold exE at h;split at h <;> first|assumption|cases h
theorem exE_ne {l:List Code}{k:Nat}{c:Code}(h:exE l k=some c):¬k=0:=by intro h0;subst h0;cases h
theorem exE_stop {τ:Type}(l:List Code)(s:τ × Nat):exStop s=(exE l s.2).isSome:=by unfold exE exStop;by_cases h:s.2=0 <;> simp [h]
def RetZ (C:Nat→Prop)(Z:σ→List Item→Mem→Prop)(s':σ)(w:World)(M:Mem)(e:Ending)(w':World):Prop :=∃r M' L',e = .returned r∧StX C w M M' L' w'∧Z s' L' M'
theorem WQ.retZ {fn:Func}{Z:σ→List Item→Mem→Prop}{s s':σ}(hr:fn.results = #[])(H:StX C w0 M0 M L w)(hs:Lc.Sublist L)(hz:ZH Z s Lc M)(he:s=s'):WQ (bodyPost P fn (RetZ C Z s' w0 M0)) .ret n [] e w :=
 fun a ha=>⟨ha.defers, .tuple #[],by simp [results,hr],_,M,Lc,rfl,H.drop hs,he ▸ hz.z⟩
theorem WQ.endZ {fn:Func}{Z:σ→List Item→Mem→Prop}{s s':σ}(hr:fn.results = #[])(H:StX C w0 M0 M L w)(hs:Lc.Sublist L)(hz:ZH Z s Lc M)(he:s=s'):WQ (bodyPost P fn (RetZ C Z s' w0 M0)) .normal n [] e w :=
 fun a ha=>⟨ha.defers, .tuple #[],by simp [results,hr],_,M,Lc,rfl,H.drop hs,he ▸ hz.z⟩
theorem ItS.of {f:FuncId}{fn:Func}{c:Code}{cap:List Value}{Pre:Mem→Prop}{run:(σ:Type)→(σ→α→Option (σ × Bool))→σ→Option σ}
 (hf:P.funcs[f]? = some fn) (hen :∀ar w,(callFunc f ar).run P w = .ok (.enter f ar) w) (hb:fn.body=some c) (hnt:fn.ntmps=n) (hn:Nat.ble (cap.length+1) n=true)
 (h :∀(l:Nat) (σ:Type) (Y:σ→α→Option (σ × Bool)) (Z:σ→List Item→Mem→Prop) (C:Nat→Prop),
  (∀s x s' b L w M,Y s x=some (s',b)→Z s L M→StX (feet L) w M M L w→YieldAt (Wd none) 0 P l #[enc x] w fun e w' =>∃M' L',StX (feet L) w M M' L' w'∧e = .returned (.bool b)∧Z s' L' M')→
  ∀s s' L w M,run σ Y s=some s'→ZH Z s L M→StX C w M M (A++L) w→Pre M→WC none P (bodyPost P fn (RetZ C Z s' w M)) n [] c (envOf 0 (yv l::cap)) w):ItS P f cap A Pre enc run :=
 ⟨hen,fun l σ Y Z hZ hY s s' L w M hrun hz H hp=>calls_of_WC (args:=yv l::cap) hf hb hnt hn (h l σ Y Z _ hY s s' L w M hrun ⟨hz,hZ⟩ H hp)⟩
end
theorem Sl.splitN {M:Mem}{b N:Nat}{t:TypeId}{xs:List ByteArray}{l:List Ls}{fz:Nat × Nat}(hx:xs.map (·.data.toList)=l)(hn:l.length≤N)(hm:N≤9223372036854775807)(h:M b=some (.cells (Lib.cellsOf xs N) t fz)):
 Sl M encS (.slice (some ⟨b,0,none⟩) l.length N) l:=by
 subst hx;refine⟨some ⟨b,0,none⟩,N,G,hn,⟨hm,fun h=>by cases h⟩,fun _=>⟨b,0,_,t,fz,G,h,fun i x hi=>?_⟩⟩;rw[List.getElem?_map] at hi;obtain⟨y,hy,rfl⟩:=Option.map_eq_some_iff.1 hi;rw[l0s];unfold Lib.cellsOf;have hlt:=(List.getElem?_eq_some_iff.1 hy).1;rw[List.getElem?_toArray,List.getElem?_append_left (by simpa using hlt),List.getElem?_map,hy];rfl
section chk
variable {C : Nat → Prop} {P : Program} {e : Env} {w0 w : World} {M0 M : Mem} {L : List Item} {x y : Operand} {ty t t' te T : TypeId} {pos : String} {af : Array Edge} {g : Option (Nat × Bool)} {dst : Option Tmp} {a : Addr} {j : TypeInfo} {v : Value}
theorem Ex.ptrNil {p:Option Addr}(ht:P.underlying t=some (.pointer te))(hx:ev e x=some (.pointer p)):Ex P ⟨dst, .binOp .eql t x (.const (.pointer none)) t',ty,pos,af,g⟩ e w (.bool p.isNone) w :=
 ⟨nofun,fun ρ hf=>by
  have h1:=hf _ _ hx;have h2:ρ (.const (.pointer none)) = .pointer none:=hf _ _ rfl;have h3:P.underlying t=some (.pointer (P.pointee t)):=by simp [Program.pointee,ht]
  simp [execOp,h1,h2,eqGuard,run_eql_pointer_nil w t p h3]⟩
theorem Ex.ptrNeqSame (hp:P.underlying t=some (.pointer te))(hte:P.info? te=some j)(hx:ev e x=some (.pointer (some a)))(hy:ev e y=some (.pointer (some a))):Ex P ⟨dst, .binOp .neq t x y t',ty,pos,af,g⟩ e w (.bool false) w :=
 ⟨nofun,fun ρ hf=>by
  have h1:=hf _ _ hx;have h2:=hf _ _ hy;simp [execOp,h1,h2,eqGuard,Lib.run_neq_ptr_same w a hp hte]⟩
theorem Ex.toUnsafe {cells:Nat}(hs:P.underlying t=some (.pointer te))(hd:P.underlying t'=some .unsafePointer)(ht:P.info? te=some j)(hj:j.size≠0)(hsh:w.shape? a.block=some (T,cells))(ho:a.off<cells)(hx:ev e x=some (.pointer (some a))):
 Ex P ⟨dst, .convert t t' x,ty,pos,af,g⟩ e w (.pointer (some a)) w :=
 ⟨nofun,fun ρ hf=>by
  have h1:=hf _ _ hx;simp [execOp,h1,Lib.run_to_unsafe w a hs hd ht hj hsh ho]⟩
theorem Ex.fromUnsafe {cells:Nat}(hs:P.underlying t=some .unsafePointer)(hd:P.underlying t'=some (.pointer te))(ht:P.info? te=some j)(hsh:w.shape? a.block=some (T,cells))(hl:liesAt P P.depth T (cells / P.cellsOf T) a.off te 1=true)(hx:ev e x=some (.pointer (some a))):
 Ex P ⟨dst, .convert t t' x,ty,pos,af,g⟩ e w (.pointer (some a)) w :=
 ⟨nofun,fun ρ hf=>by
  have h1:=hf _ _ hx;simp [execOp,h1,Lib.run_from_unsafe w a hs hd ht hsh hl]⟩
theorem Ex.noEscape {f : FuncId}{fn : Func}{tys : Array TypeId}(hf : P.funcs[f]? = some fn)(hname : (fn.name == "runtime.NumGoroutine") = false)(hb : fn.body.isNone = true)(hn : Extern.findNext fn = none)(he : Extern.find fn = some Extern.AbiNoEscape.same)
 (hx:ev e x=some v):Ex P ⟨dst, .call ⟨.value (.func f),#[x],tys⟩,ty,pos,af,g⟩ e w v w :=
 ⟨nofun,fun ρ hfi=>by
  have h1:=hfi _ _ hx;have h2:ρ (.func f) = .func (.func f) #[] #[]:=hfi _ _ rfl;simp [execOp,resolve,h1,h2,Deferred.ofValue,invoke,run_callFunc_extern hf hname hb hn he,Lib.run_noEscape]⟩
end chk
end Go.Ph
end
section
namespace Go.Ph
open Go Go.RowKit Pl
abbrev Hd : Type:=Option Addr × Nat × Nat
def hv (h:Hd):Value := .slice h.1 h.2.1 h.2.2
theorem One.hv (h:Hd):One (hv h):=q1u _ _ _
structure Rl (F α:Type) where
 k:Nat
 enc:F→List Value
 rel:Mem→F→α→Prop
 len :∀f,(enc f).length=k
 one :∀f,∀u∈enc f,u.oneCell'=true
 up :∀{M M':Mem},M.le M'→∀{f:F} {x:α},rel M f x→rel M' f x
variable {F α : Type}
def RelL (R:Rl F α)(M:Mem):List F→List α→Prop
 | [],[]=>True
 | f::fl,x::l=>R.rel M f x∧RelL R M fl l
 | _,_=>False
section
variable {R : Rl F α} {M M' : Mem} {fl fs : List F} {l s l2 : List α}
theorem RelL.nil : RelL R M [] []:=trivial
theorem RelL.len :∀{fl:List F} {l:List α},RelL R M fl l→fl.length=l.length
 | [],[],_=>rfl
 | f::fl,x::l,h=>by rw[l02,l02,RelL.len h.2]
 | [],_::_,h=>h.elim
 | _::_,[],h=>h.elim
theorem RelL.mono :∀{fl:List F} {l:List α},RelL R M fl l→M.le M'→RelL R M' fl l
 | [],[],_,_=>trivial
 | f::fl,x::l,h,hl=>⟨R.up hl h.1,RelL.mono h.2 hl⟩
 | [],_::_,h,_=>h.elim
 | _::_,[],h,_=>h.elim
theorem RelL.append :∀{fl:List F} {l:List α},RelL R M fl l→RelL R M fs s→RelL R M (fl++fs) (l++s)
 | [],[],_,k=>k
 | f::fl,x::l,h,k=>⟨h.1,RelL.append h.2 k⟩
 | [],_::_,h,_=>h.elim
 | _::_,[],h,_=>h.elim
theorem RelL.one {f:F}{x:α}(h:R.rel M f x):RelL R M [f] [x]:=⟨h,trivial⟩
theorem RelL.at :∀{fl:List F} {l:List α} {i:Nat} {a:α},RelL R M fl l→l[i]? = some a→∃f,fl[i]? = some f∧R.rel M f a
 | [],[],i,a,_,hi=>by simp at hi
 | f::fl,x::l,0,a,h,hi=>by
   simp only[List.getElem?_cons_zero,Option.some.injEq] at hi;subst hi;exact⟨f,G,h.1⟩
 | f::fl,x::l,i+1,a,h,hi=>by
   rw[List.getElem?_cons_succ] at hi;obtain⟨f',h1,h2⟩:=RelL.at h.2 hi;exact⟨f',by rw[List.getElem?_cons_succ];exact h1,h2⟩
 | [],_::_,_,_,h,_=>h.elim
 | _::_,[],_,_,h,_=>h.elim
theorem RelL.drop :∀(n:Nat) {fl:List F} {l:List α},RelL R M fl l→RelL R M (fl.drop n) (l.drop n)
 | 0,_,_,h=>h
 | n+1,[],[],h=>h
 | n+1,f::fl,x::l,h=>RelL.drop n h.2
 | _+1,[],_::_,h=>h.elim
 | _+1,_::_,[],h=>h.elim
theorem RelL.take :∀(n:Nat) {fl:List F} {l:List α},RelL R M fl l→RelL R M (fl.take n) (l.take n)
 | 0,_,_,h=>trivial
 | n+1,[],[],h=>h
 | n+1,f::fl,x::l,h=>⟨h.1,RelL.take n h.2⟩
 | _+1,[],_::_,h=>h.elim
 | _+1,_::_,[],h=>h.elim
theorem RelL.appO {w:Nat}(h:RelL R M fl l)(k:RelL R M fs s)(ha:app w l s=some l2):∃fl2,app w fl fs=some fl2∧RelL R M fl2 l2:=by
 obtain⟨h1,rfl⟩:=app_some ha;exact⟨fl++fs,app_ok (by rw[h.len,k.len];exact h1),h.append k⟩
end
def SlR (R:Rl F α)(M:Mem)(v:Value)(l:List α):Prop :=∃fl,SlS M R.k R.enc v fl∧RelL R M fl l
section
variable {R : Rl F α} {M M' : Mem} {v : Value} {l l2 : List α}
theorem SlR.mono (h:SlR R M v l)(hl:M.le M'):SlR R M' v l:=by
 obtain⟨fl,h1,h2⟩:=h;exact⟨fl,h1.mono hl,h2.mono hl⟩
theorem SlR.nil : SlR R M (.slice none 0 0) []:=⟨[],SlS.nil M R.enc R.len,trivial⟩
theorem SlR.one (h:SlR R M v l):One v:=by
 obtain⟨fl,h1,_⟩:=h;exact h1.one
theorem SlR.hd (h:SlR R M v l):∃q:Hd,v=hv q:=by
 obtain⟨fl,⟨_,A,c,hv,_⟩,_⟩:=h;exact⟨(A,fl.length,c),hv⟩
theorem SlR.atC {i:Int}{a:α}(h:SlR R M v l)(hi:idx l i=some a):∃b o f,AtP v R.k i l.length b o∧CellsM M ⟨b,o,none⟩ (R.enc f)∧R.rel M f a:=by
 obtain⟨fl,h1,h2⟩:=h;obtain⟨h0,hc⟩:=idx_some hi;obtain⟨f,hf,hr⟩:=h2.at hc;obtain⟨b,o,h3,h4⟩:=h1.atC (i:=i) (a:=f) (by unfold idx;rw [if_pos h0];exact hf);rw[h2.len] at h3;exact⟨b,o,f,h3,h4,hr⟩
theorem SlR.of {fl:List F}(h:SlS M R.k R.enc v fl)(k:RelL R M fl l):SlR R M v l:=⟨fl,h,k⟩
end
theorem SlS.hd {M:Mem}{kk:Nat}{enc:α→List Value}{v:Value}{l:List α}(h:SlS M kk enc v l):∃q:Hd,v=hv q:=by
 obtain⟨_,A,c,hv,_⟩:=h;exact⟨(A,l.length,c),hv⟩
theorem Sl.hd {M:Mem}{enc:α→Value}{v:Value}{l:List α}(h:Sl M enc v l):∃q:Hd,v=hv q:=by
 obtain⟨A,c,hv,_⟩:=h;exact⟨(A,l.length,c),hv⟩
section
variable {C : Nat → Prop} {r : Option Nat} {P : Program} {ops : Array Oper} {Q : Exit → Act → World → Prop} {n : Nat} {D : List Deferred} {rest : List Oper} {e : Env} {w0 w : World} {M0 M : Mem} {L L' : List Item} {d : Nat} {v u z : Value}
  {x y : Operand} {ty t t' te ts tt : TypeId} {pos : String} {af : Array Edge} {g : Option (Nat × Bool)} {dst : Option Tmp} {R : Rl F α} {l l2 l3 : List α}
theorem Ex.lenSlR (ht:P.underlying t=some (.slice t'))(h:SlR R M v l)(hx:ev e x=some v):Ex P ⟨dst, .call ⟨.builtin .len,#[x],#[t]⟩,ty,pos,af,g⟩ e w (I l.length) w:=by
 obtain⟨fl,h1,h2⟩:=h;rw[←h2.len];exact q1o ht h1 hx
abbrev _root_.q1v := @Ex.lenSlR
theorem WR.appRC {bytes:Nat}{L':Item→List Item}{fl:List F}(T:ElemTy P ts t z R.k bytes)(hbp:Nat.blt 0 bytes=true)(H:StX C w0 M0 M L w)(hk:RelL R M fl l)(hx:ev e x=some v)(hu :∀it',Upd L (RowS t R.k R.enc v fl) it' (L' it'))(hy:ev e y=some u)
 (hs:SlR R M u l2) (ha:app bytes l l2=some l3)
 (hw:Wn ops n D e ⟨some d, .call ⟨.builtin .append,#[x,y],#[ts,ts]⟩,ty,pos,af,g⟩) (hn:Nat.blt d n=true)
 (k :∀v' fl' w',RelL R M fl' l3→StX C w0 M0 M (L' (RowS t R.k R.enc v' fl')) w'→WR r P ops Q n D rest ((d,v')::e) w') :
 WR r P ops Q n D (⟨some d, .call ⟨.builtin .append,#[x,y],#[ts,ts]⟩,ty,pos,af,g⟩::rest) e w:=by
 obtain⟨f2,h2,h3⟩:=hs;obtain⟨fl3,h4,h5⟩:=hk.appO h3 ha;exact q2l T hbp R.one H hx hu hy h2 h4 hw hn fun v' w' h=>k v' fl3 w' h5 h
end
end Go.Ph
end
section
namespace Go.Ph
open Go Go.RowKit Go.ChangeShapes Go.WideShapes Go.ChangeAt
abbrev Adr3 : Type:=Ls × Ls × Ls
abbrev adrE (a:Adr3):List Value:=[S a.1,S a.2.1,S a.2.2]
def OkA (a:Adr3):Prop:=a.1.length≤140737488351232∧a.2.1.length≤140737488351232∧a.2.2.length≤140737488351232
section
variable {H : Type} {enc : TypeId × Value → H} {P : Program} {W : World}
theorem elem_adr {e tS:TypeId}{f0 f1 f2:Field}(he:P.underlying e=some (.struct #[f0,f1,f2]))(t0:f0.type=tS)(t1:f1.type=tS)(t2:f2.type=tS)(o0:f0.offset=0)(o1:f1.offset=1)(o2:f2.offset=2)(hS:P.underlying tS=some .string)(hc:P.cellsOf tS=1)(hce:P.cellsOf e=3):
 ElemIs enc P W e adrE OkA:=fun fuel cs x h=>by
 obtain⟨xs,n,_,hd,hlc,hlen,hf⟩:=DataW.trod_struct he h
 match xs,hlen with
 | [y0,y1,y2],_ =>
   have k0:=hf 0 f0 rfl;have k1:=hf 1 f1 rfl;have k2:=hf 2 f2 rfl;rw[t0,o0,hc] at k0;rw[t1,o1,hc] at k1;rw[t2,o2,hc] at k2;simp only[List.getElem?_cons_zero,List.getElem?_cons_succ,Option.some.injEq] at k0 k1 k2;have hl:cs.length=3:=by rw[hce] at hlc;exact hlc
   match cs,hl with
   | [c0,c1,c2],_ =>
     have k0':DataW.trod enc P W 0 (fun _=>true) true n tS [c0]=some y0:=k0;have k1':DataW.trod enc P W 0 (fun _=>true) true n tS [c1]=some y1:=k1;have k2':DataW.trod enc P W 0 (fun _=>true) true n tS [c2]=some y2:=k2;obtain⟨s0,e0,r0,_⟩:=DataW.trod_string hS k0';obtain⟨s1,e1,r1,_⟩:=DataW.trod_string hS k1';obtain⟨s2,e2,r2,_⟩:=DataW.trod_string hS k2';simp only[List.cons.injEq,and_true] at e0 e1 e2;subst e0 e1 e2;refine⟨(s0.data.toList,s1.data.toList,s2.data.toList),by cases s0;cases s1;cases s2;simp [S],fun hw=>?_⟩;have hx:x.1 = .agg [y0.1,y1.1,y2.1]:=by rw[hd];rfl
     rw[hx,r0,r1,r2] at hw;have hw' :∀y∈ [s0.data.toList.length,s1.data.toList.length,s2.data.toList.length],y≤reachBytes:=fun y hy=>hw y (by
      simp only[DataW.weights,he,DataW.weightsEach,l0f,l0O];simpa using hy)
     exact⟨hw' _ Sm,hw' _ Sm,hw' _ Sm⟩
theorem SlS.mapE {F β:Type}{M:Mem}{kk:Nat}{e1:F→List Value}{v:Value}{l:List β}{g:β→F}(h0 :∀f,(e1 f).length=kk)(h:SlS M kk (fun p=>e1 (g p)) v l):SlS M kk e1 v (l.map g):=by
 obtain⟨_,A,c,rfl,h1,h2,h3⟩:=h;refine⟨h0,A,c,by rw[l0d],by rw[l0d];exact h1,h2,fun hne=>?_⟩;obtain⟨b,o,cs,t,fz,q1,q2,q3⟩:=h3 (fun e=>hne (by rw[e];rfl));refine⟨b,o,cs,t,fz,q1,q2,fun i x hi j u hj=>?_⟩;rw[List.getElem?_map] at hi;obtain⟨p,hp,rfl⟩:=Option.map_eq_some_iff.1 hi;exact q3 i p hp j u hj
theorem RelL.ofSub {F α:Type}{R:Rl F α}{M:Mem}:∀(l:List {p:F × α // R.rel M p.1 p.2}),RelL R M (l.map fun p=>p.1.1) (l.map fun p=>p.1.2)
 | []=>trivial
 | p::l=>⟨p.2,RelL.ofSub l⟩
abbrev Itm3 : Type:=Ls × Bool × List Adr3
theorem open_itms {t e tS tB tL e2:TypeId}{f0 f1 f2 g0 g1 g2:Field}{v:Value}{d:DataW H}{p:List MemPlace}{base:Nat}(R:Rl (Ls × Bool × Hd) Itm3)(hk:R.k=3)(hen :∀f,R.enc f=[S f.1, .bool f.2.1,hv f.2.2])
 (hrel :∀(f:Ls × Bool × Hd) (x:Itm3),f.1=x.1→f.2.1=x.2.1→SlS (memOf W) 3 adrE (hv f.2.2) x.2.2→R.rel (memOf W) f x) (ht:P.underlying t=some (.slice e)) (hs:P.underlying e=some (.struct #[f0,f1,f2])) (t0:f0.type=tS) (t1:f1.type=tB) (t2:f2.type=tL) (o0:f0.offset=0) (o1:f1.offset=1) (o2:f2.offset=2)
 (hC:P.cellsOf e=3) (hS:P.underlying tS=some .string) (hcS:P.cellsOf tS=1) (hB:P.underlying tB=some .bool) (hcB:P.cellsOf tB=1) (hL:P.underlying tL=some (.slice e2)) (hcL:P.cellsOf tL=1) (hb2:P.bytesOf e2=48)
 (he:P.underlying e2=some (.struct #[g0,g1,g2])) (u0:g0.type=tS) (u1:g1.type=tS) (u2:g2.type=tS) (q0:g0.offset=0) (q1:g1.offset=1) (q2:g2.offset=2) (hce:P.cellsOf e2=3) (hb:P.bytesOf e=48)
 (hval:Value.okWide P W .any base t v) (h0:DataW.Trod enc P W 0 (fun _=>true) true t v d p) :
 ∃l:List Itm3,SlR R (memOf W) v l∧((∀y∈d.weights P t,y≤reachBytes)→l.length≤140737488351232∧∀x∈l,x.1.length≤140737488351232∧x.2.2.length≤140737488351232∧∀a∈x.2.2,OkA a):=by
 have hel:ElemIs enc P W e (α:={p:(Ls × Bool × Hd) × Itm3 // R.rel (memOf W) p.1 p.2}) (fun p=>R.enc p.1.1) (fun p=>p.1.2.1.length≤140737488351232∧p.1.2.2.2.length≤140737488351232∧∀a∈p.1.2.2.2,OkA a):=fun fuel cs x h=>by
  obtain⟨xs,n,_,hd,hlc,hlen,hf⟩:=DataW.trod_struct hs h
  match xs,hlen with
  | [y0,y1,y2],_ =>
    have k0:=hf 0 f0 rfl;have k1:=hf 1 f1 rfl;have k2:=hf 2 f2 rfl;rw[t0,o0,hcS] at k0;rw[t1,o1,hcB] at k1;rw[t2,o2,hcL] at k2;simp only[List.getElem?_cons_zero,List.getElem?_cons_succ,Option.some.injEq] at k0 k1 k2;have hl:cs.length=3:=by rw[hC] at hlc;exact hlc
    match cs,hl with
    | [c0,c1,c2],_ =>
      have k0':DataW.trod enc P W 0 (fun _=>true) true n tS [c0]=some y0:=k0;have k1':DataW.trod enc P W 0 (fun _=>true) true n tB [c1]=some y1:=k1;have k2':DataW.trod enc P W 0 (fun _=>true) true n tL [c2]=some y2:=k2;obtain⟨s0,e0,r0,_⟩:=DataW.trod_string hS k0';obtain⟨b,e1,r1⟩:=DataW.trod_bool hB k1';simp only[List.cons.injEq,and_true] at e0 e1;subst e0 e1;have hsl :∃a0 len cap,c2 = .slice a0 len cap:=by
       rcases Deep.open_slice hL k2' with ⟨hcs,_⟩|⟨a,len',cap',m,n',D,Pl,hcs,_⟩
       · simp only[List.cons.injEq,and_true] at hcs;exact ⟨_,_,_,hcs⟩
       simp only[List.cons.injEq,and_true] at hcs;exact ⟨_,_,_,hcs⟩
      have hT2:DataW.Trod enc P W 0 (fun _=>true) true tL c2 y2.1 y2.2:=by
       obtain⟨a0,len,cap,rfl⟩:=hsl;exact⟨n,k2'⟩
      obtain⟨l,hl2,hdl,hx⟩:=open_sliceV hL hce Om (fun _=>rfl) (elem_adr (enc:=enc) (P:=P) (W:=W) he u0 u1 u2 q0 q1 q2 hS hcS hce) hsl hT2;obtain⟨a0,len,cap,rfl⟩:=hsl;refine⟨⟨((s0.data.toList,b,(a0,len,cap)),(s0.data.toList,b,l)),hrel _ _ G G hl2⟩,by show _=R.enc _;rw [hen];cases s0;simp [S,hv],fun hw=>?_⟩;have hxx:x.1 = .agg [y0.1,y1.1,y2.1]:=by rw[hd];rfl
      rw[hxx] at hw;have hW :∀y∈DataW.weightsEach P [tS,tB,tL] [y0.1,y1.1,y2.1],y≤reachBytes:=fun y hy=>hw y (by
       simp only[DataW.weights,hs,l0f,l0O,t0,t1,t2];exact hy)
      rw[r0,r1] at hW;simp only[DataW.weightsEach,DataW.weights,l0g,l07] at hW;exact⟨hW _ Sm,slice_weight hL hb2 Om hdl (fun y hy=>hW y (by simp [hy])),hx fun y hy=>hW y (by simp [hy])⟩
 obtain⟨l,h1,h2,h3⟩:=open_sliceG ht hC Om (fun p=>by rw[R.len,hk]) hel hval h0;refine⟨l.map fun p=>p.1.2,⟨l.map fun p=>p.1.1,?_,RelL.ofSub l⟩,fun hw=>⟨?_,fun x hx=>?_⟩⟩
 · rw[hk];exact SlS.mapE (g:=fun p:{p:(Ls × Bool × Hd) × Itm3 // R.rel (memOf W) p.1 p.2}=>p.1.1) (fun f=>by rw[R.len,hk]) h1
 · rw[l0d];exact slice_weight ht hb Om h2 hw
 obtain⟨p,hp,rfl⟩:=List.mem_map.1 hx;exact h3 hw p hp
end
end Go.Ph
end
section
namespace Go.Ph
open Go Go.RowKit
def chainB (ops:Array Oper):List Nat→Array Bool→Bool
 | [],_=>true
 | i::is,l=>(Region.ready .any ops l == [i])&&(ops[i]?).isSome&&chainB ops is (l.setIfInBounds i true)
def opsAt (ops:Array Oper):List Nat→List Oper
 | []=>[]
 | i::is=>match ops[i]? with
   | some o=>o::opsAt ops is
   | none=>[]
def finL : List Nat→Array Bool→Array Bool
 | [],l=>l
 | i::is,l=>finL is (l.setIfInBounds i true)
def noCall (o:Oper):Bool:=match o.op with
 | .call _=>false
 | _=>true
theorem noCall_about {o:Oper}(h:noCall o=true)(P:Program)(w:World)(ρ:Operand→Value):o.about P w ρ=none:=by
 unfold noCall at h;unfold Oper.about;split
 · rename_i c hc;rw [hc] at h;cases h
 rfl
def freesB (ops:Array Oper):List Nat→Array Bool→Bool
 | [],_=>true
 | i::is,l=>(match ops[i]? with|some o=>noCall o|none=>false)&&Region.free .any ops l i&&(Region.ready .any ops l).contains i&&freesB ops is (l.setIfInBounds i true)
section
variable {r : Option Nat} {P : Program} {ops : Array Oper} {Q : Exit → Act → World → Prop} {n fuel : Nat} {D : List Deferred} {e e' : Env} {w : World} {listed : Array Bool}
theorem chain_sound :∀(is:List Nat) (listed:Array Bool) (a:Act) (w:World),chainB ops is listed=true→wpListIn (Wd r) 0 P ops (Qa r P ops Q fuel (finL is listed)) (opsAt ops is) a w→wpAnyIn (Wd r) 0 P .any ops (noP ops Q) (fuel+is.length) listed a w
 | [],listed,a,w,hc,h=>h
 | i::is,listed,a,w,hc,h=>by
   rw[chainB,l0j,l0j] at hc;obtain⟨⟨h1,h2⟩,h3⟩:=hc;have h1:Region.ready .any ops listed=[i]:=by simpa using h1
   obtain⟨o,ho⟩:=Option.isSome_iff_exists.1 h2;rw[opsAt,ho] at h;refine wpAnyIn_all h1 Sm fun x hx=>?_
   obtain rfl:x=i:=by simpa using hx
   have h4:wpOpIn (Wd r) 0 P ops (noP ops Q) x (wpListIn (Wd r) 0 P ops (Qa r P ops Q fuel (finL (x::is) listed)) (opsAt ops is)) a w:=by
    unfold wpOpIn;rw[ho];simp only[wpListIn] at h ⊢;exact h
   exact wpOpIn_mono (fun a w hk=>chain_sound is (listed.setIfInBounds x true) a w h3 hk) h4
theorem WA.seq (is:List Nat){f:Nat}(hf:f=fuel+is.length)(hc:chainB ops is listed=true)(k:WR r P ops (Qa r P ops Q fuel (finL is listed)) n D (opsAt ops is) e w):WA r P ops Q n D f listed e w:=fun a ha=>by
 subst hf;exact chain_sound is listed a w hc (k a ha)
abbrev _root_.q0v := @WA.seq
theorem skips_one {o:Oper}(h:skips ops n e [o]=some e'):∃d,o.dst=some d∧d<n∧e'=(d,undef)::e∧∀D a,Sat n D e a→Region.wanted o (yielded ops a.tmps)=false:=by
 rw[skips] at h;split at h
 case h_2=>cases h
 rename_i j b d hg hd;split at h
 case h_2=>cases h
 rename_i t ht;split at h
 · rename_i b' hb;cases hc:((b' != b)&&Nat.blt d n) with
   | false=>rw[hc] at h;cases h
   | true =>
     rw[hc] at h;rw[l0j] at hc;have hne:b'≠b:=by simpa using hc.1
     rw[cond_true,skips] at h;exact⟨d,hd,l0i hc.2,(oI h).symm,fun D a ha=>by
      have:=yielded_of ht ha hb;simp [Region.wanted,hg,this,hne]⟩
 · rename_i xs hb;cases hc:Nat.blt d n with
   | false=>rw[hc] at h;cases h
   | true =>
     rw[hc] at h;rw[cond_true,skips] at h;exact⟨d,hd,l0i hc,(oI h).symm,fun D a ha=>by
      have hv:=ha.val t _ hb;have:yielded ops a.tmps j=none:=by
       unfold yielded;rw[ht];simp only[l1u];cases htt:a.tmps[t]? with
       | none=>rfl
       | some x=>simp [htt] at hv;subst hv;rfl
      simp [Region.wanted,hg,this]⟩
 cases h
theorem skips_cons {o:Oper}{l:List Oper}(h:skips ops n e (o::l)=some e'):∃e1,skips ops n e [o]=some e1∧skips ops n e1 l=some e':=by
 rw[skips] at h;split at h
 case h_2=>cases h
 rename_i j b d hg hd;split at h
 case h_2=>cases h
 rename_i t ht;split at h
 · rename_i b' hb;cases hc:((b' != b)&&Nat.blt d n) with
   | false=>rw[hc] at h;cases h
   | true =>
     rw[hc,cond_true] at h;refine⟨_,?_,h⟩;rw[skips,hg,hd];simp only[ht,hb,hc,cond_true];rfl
 · rename_i xs hb;cases hc:Nat.blt d n with
   | false=>rw[hc] at h;cases h
   | true =>
     rw[hc,cond_true] at h;refine⟨_,?_,h⟩;rw[skips,hg,hd];simp only[ht,hb,hc,cond_true];rfl
 cases h
theorem takes_sound (hs:Region.noSelect ops=true):∀(is:List Nat) (e:Env) (listed:Array Bool),freesB ops is listed=true→skips ops n e (opsAt ops is)=some e'→WA none P ops Q n D fuel (finL is listed) e' w→WA none P ops Q n D (fuel+is.length) listed e w
 | [],e,listed,_,h,k=>by cases h;exact k
 | i :: is,e,listed,hf,h,k=>by
   rw[freesB,l0j,l0j,l0j] at hf;obtain⟨⟨⟨h1,h2⟩,h3⟩,h4⟩:=hf;cases ho:ops[i]? with
   | none=>rw[ho] at h1;cases h1
   | some o =>
     rw[ho] at h1;rw[opsAt,ho] at h;obtain⟨e1,g1,g2⟩:=skips_cons h;obtain⟨d,hd,hn,rfl,hw⟩:=skips_one g1;exact q1c ho hs h2 h3 (hw D) hd (Nat.ble_eq_true_of_le hn) (fun w ρ=>noCall_about h1 P w ρ) (takes_sound hs is _ _ h4 g2 k)
theorem WA.takes (is:List Nat){f:Nat}(hf:f=fuel+is.length)(hs:Region.noSelect ops=true)(hc:freesB ops is listed=true)(h:Ph.skips ops n e (opsAt ops is)=some e')(k:WA none P ops Q n D fuel (finL is listed) e' w):WA none P ops Q n D f listed e w:=by
 subst hf;exact takes_sound hs is e listed hc h k
abbrev _root_.q2k := @WA.takes
end
section
variable {P : Program} {e : Env} {w : World} {x y : Operand} {dst : Option Tmp} {ty t t' : TypeId} {pos : String} {af : Array Edge} {g : Option (Nat × Bool)} {a b : Bool}
theorem beq_dec (a b:Bool):(a == b)=decide (a=b):=by cases a <;> cases b <;> rfl
theorem Ex.neqBo (ht:P.underlying t=some .bool)(h1:ev e x=some (.bool a))(h2:ev e y=some (.bool b)):Ex P ⟨dst, .binOp .neq t x y t',ty,pos,af,g⟩ e w (.bool (!decide (a=b))) w :=
 ⟨nofun,fun ρ hf=>by simp [execOp,hf _ _ h1,hf _ _ h2,run_neq_bool _ t a b ht,eqGuard,beq_dec]⟩
end
end Go.Ph
end
section
namespace Go.Ph
open Go Go.RowKit
def Keeps {α:Type}(s:Sem α):Prop :=∀(P:Program) (w:World) (x:α) (w':World),s.run P w = .ok x w'→w'=w
theorem Keeps.pure {α:Type}(a:α):Keeps (Pure.pure a:Sem α):=fun P w x w' h=>by
 rw[Sem.run_pure] at h;cases h;rfl
theorem Keeps.bind {α β:Type}{s:Sem α}{f:α→Sem β}(h:Keeps s)(hf :∀a,Keeps (f a)):Keeps (s >>= f):=fun P w x w' hr=>by
 rw[Sem.run_bind] at hr;cases h1:s.run P w with
 | ok a w1 =>
   rw[h1,Result.andThen_ok] at hr;rw[h P w a w1 h1] at hr;exact hf a P w x w' hr
 | halt c w1=>rw[h1] at hr;cases hr
theorem Keeps.load {a:Addr}{m:Mode}:Keeps (Go.load a m):=fun P w x w' h=>by
 unfold Go.load at h;simp only[Sem.run] at h;split at h
 · cases h;rfl
 split at h
 · cases h;rfl
 cases h
theorem Keeps.program : Keeps Go.program:=fun P w x w' h=>by
 unfold Go.program at h;simp only[Sem.run] at h;cases h;rfl
theorem Keeps.halt {α:Type}{c:Halt}:Keeps (Sem.halt c:Sem α):=fun P w x w' h=>by
 simp only[Sem.run] at h;cases h
theorem Keeps.typeInfo {t:TypeId}:Keeps (Go.typeInfo t):=by
 unfold Go.typeInfo;refine Keeps.bind Keeps.program fun p=>?_
 split
 · exact Keeps.pure _
 exact Keeps.halt
theorem Keeps.underlying {t:TypeId}:Keeps (Go.underlying t):=by
 unfold Go.underlying;refine Keeps.bind Keeps.program fun p=>?_
 split
 · exact Keeps.pure _
 exact Keeps.halt
theorem Keeps.sizeOf {t:TypeId}:Keeps (Go.sizeOf t):=Keeps.bind Keeps.typeInfo fun p=>Keeps.pure _
theorem Keeps.isAgg {t:TypeId}:Keeps (Go.isAgg t):=by
 unfold Go.isAgg;refine Keeps.bind Keeps.underlying fun p=>?_
 split <;> exact Keeps.pure _
theorem Keeps.loadCellsFrom {a:Addr}:∀(n i:Nat) (acc:Array Value),Keeps (Go.loadCellsFrom a i n acc)
 | 0,i,acc=>Keeps.pure _
 | n+1,i,acc=>Keeps.bind Keeps.load fun v=>Keeps.loadCellsFrom n (i+1) _
theorem Keeps.loadVar {t:TypeId}{a:Addr}:Keeps (Go.loadVar t a):=by
 unfold Go.loadVar;refine Keeps.bind Keeps.isAgg fun b=>?_
 split
 · exact Keeps.bind Keeps.sizeOf fun n=>Keeps.bind (Keeps.loadCellsFrom n 0 _) fun c=>Keeps.pure _
 exact Keeps.load
theorem Keeps.loadAt {t:TypeId}{v:Value}:Keeps (Instr.loadAt t v):=by
 unfold Instr.loadAt;refine Keeps.bind ?_ fun a=>Keeps.loadVar
 unfold Instr.sureAddr;split
 · exact Keeps.pure _
 exact Keeps.halt
def quietB (o:Oper):Bool:=match o.op with
 | .move _=>true
 | .assign _=>true
 | .load _ _=>true
 | _=>false
def Quiet (o:Oper):Prop :=∀(ρ:Operand→Value) (P:Program) (w:World) (x:Next) (w':World),(execOp ρ o).run P w = .ok x w'→w'=w∧∃u,x = .value u
theorem quiet_of {o:Oper}(h:quietB o=true):Quiet o:=fun ρ P w x w' hr=>by
 unfold quietB at h;unfold execOp at hr;split at h
 · rename_i y hy;rw[hy] at hr;simp only[Sem.run_pure] at hr;cases hr;exact ⟨rfl,_,rfl⟩
 · rename_i y hy;rw[hy] at hr;simp only[Sem.run_pure] at hr;cases hr;exact ⟨rfl,_,rfl⟩
 · rename_i t y hy;rw[hy] at hr;simp only[Sem.run_bind] at hr;cases h1:(Instr.loadAt t (ρ y)).run P w with
   | ok a w1 =>
     rw[h1] at hr;simp only[Result.andThen_ok,Sem.run_pure] at hr;cases hr;exact⟨Keeps.loadAt P w a w' h1,_,G⟩
   | halt c w1=>rw[h1] at hr;cases hr
 cases h
def holdB (ops:Array Oper)(listed:Array Bool)(B:List Nat)(i:Nat):Bool :=
 !B.contains i&&(List.range ops.size).all fun k=>match ops[k]? with
  | none=>true
  | some ok=>listed.getD k true || k == i ||(bif B.contains k then quietB ok&&(match ops[i]? with|some oi=>oi.apart ops ok|none=>false) else ok.after.any fun e=>Region.binds .any e&&(e.on == i ||(!B.contains e.on && !listed.getD e.on true)))
def YieldsAt (P:Program)(ops:Array Oper)(o:Oper)(v:Value)(a:Act)(w:World):Prop :=
 Region.wanted o (yielded ops a.tmps)=true∧(execOp a.eval o).run P w = .ok (.value v) w∧∀w,o.about P w a.eval=none
section
variable {F : Fence} {n : Nat} {P : Program} {ops : Array Oper} {Q : Exit → Act → World → Prop}
theorem YieldsAt.wpOpIn {i:Nat}{o:Oper}{v:Value}{a:Act}{w:World}(hro:F.round=none)(hi:ops[i]? = some o)(hy:YieldsAt P ops o v a w){K:Act→World→Prop}(h:K (a.put o.dst v) w):wpOpIn F n P ops Q i K a w:=by
 unfold Go.wpOpIn;simp only[hi];have hab :∀f,o.about P w a.eval=some f→F.fn f:=fun f hf=>by rw[hy.2.2 w] at hf;cases hf
 simp only[hy.1,if_true,Oper.wpIn,hro,Oper.semAt_none,hy.2.1,Oper.uponIn];exact⟨hab,h⟩
theorem wpOpIn_putQ {j:Nat}{oi oj:Oper}{v:Value}(hro:F.round=none)(hj:ops[j]? = some oj)(hq:Quiet oj)(hap:oi.apart ops oj=true)
 (hsi :∀cs b,oi.op≠ .select cs b) (hsj :∀cs b,oj.op≠ .select cs b)
 (hQ :∀c a w,Q (.panic c) (a.put oi.dst v) w→Q (.panic c) a w) {K:Act→World→Prop} {a:Act} {w:World}
 (hy:YieldsAt P ops oi v a w) (h:wpOpIn F n P ops Q j K (a.put oi.dst v) w) :
 wpOpIn F n P ops Q j (fun a' w'=>YieldsAt P ops oi v a' w'∧K (a'.put oi.dst v) w') a w:=by
 obtain⟨h1,h2,h3⟩:=Oper.apart_spec hap;have keep :∀u,YieldsAt P ops oi v (a.put oj.dst u) w:=fun u =>
  ⟨by rw[wanted_put oi a oj.dst u h3];exact hy.1,by rw[execOp_put oi hsi a oj.dst u h3];exact hy.2.1,fun w=>by rw[about_put oi w a oj.dst u h3];exact hy.2.2 w⟩
 unfold Go.wpOpIn at *;simp only[hj] at *;rw[wanted_put oj a oi.dst v h1,about_put oj w a oi.dst v h1] at h;split
 · rename_i hw;simp only[hw,if_true] at h;unfold Oper.wpIn at *;rw[about_put oj w a oi.dst v h1] at h;refine⟨h.1,?_⟩;have h:=h.2;rw[hro,Oper.semAt_none,execOp_put oj hsj a oi.dst v h1] at h;rw[hro,Oper.semAt_none];cases hr:(execOp a.eval oj).run P w with
   | ok x w' =>
     obtain⟨rfl,u,rfl⟩:=hq _ _ _ _ _ hr;rw[hr] at h;simp only[Oper.uponIn] at h ⊢;exact⟨keep u,by rw[←Act.put_comm a v u h2];exact h⟩
   | halt x w' =>
     rw[hr] at h;cases x <;> simp only[Oper.uponIn] at h ⊢
     case panic u=>exact hQ _ _ _ h
 rename_i hw;simp only[hw] at h;exact⟨h.1,keep _,by rw[←Act.put_comm a v undef h2];exact h.2⟩
theorem wpAnyIn_firstQ {i:Nat}{oi:Oper}{v:Value}{B:List Nat}{L0:Array Bool}(hro:F.round=none)(hi:ops[i]? = some oi)(hsel :∀(j:Nat) (o:Oper) cs b,ops[j]? = some o→o.op≠ .select cs b)
 (hQ :∀c a w,Q (.panic c) (a.put oi.dst v) w→Q (.panic c) a w) (hiB:i∉B) (hi0:L0.getD i true=false)
 (hk :∀k ok,ops[k]? = some ok→L0.getD k true=false→k≠i→(k∈B∧Quiet ok∧oi.apart ops ok=true)∨(k∉B∧∃e∈ok.after,Region.binds .any e=true∧(e.on=i∨(e.on∉B∧L0.getD e.on true=false)))) :
 ∀(fuel:Nat) (listed:Array Bool) (a:Act) (w:World),(∀k,k∉B→L0.getD k true=false→listed.getD k false=false∧listed.getD k true=false)→(∀k,L0.getD k true=true→listed.getD k true=true)→
  i∈Region.ready .any ops listed→YieldsAt P ops oi v a w→
  wpAnyIn F n P .any ops Q fuel (listed.setIfInBounds i true) (a.put oi.dst v) w→wpAnyIn F n P .any ops Q (fuel+1) listed a w:=by
 have inB :∀(listed:Array Bool) (j:Nat),(∀k,k∉B→L0.getD k true=false→listed.getD k false=false∧listed.getD k true=false)→(∀k,L0.getD k true=true→listed.getD k true=true)→j∈Region.ready .any ops listed→j≠i→
  ∃oj,ops[j]? = some oj∧j∈B∧Quiet oj∧oi.apart ops oj=true:=fun listed j hs1 hs2 hj hji=>by
  obtain⟨hjun,oj,hoj,hall⟩:=mem_ready.1 hj;have h0:L0.getD j true=false:=by
   cases hc:L0.getD j true with
   | false=>rfl
   | true=>rw[hs2 j hc] at hjun;cases hjun
  rcases hk j oj hoj h0 hji with ⟨h1,h2,h3⟩|⟨h1,e,he,hb,hor⟩
  · exact⟨oj,hoj,h1,h2,h3⟩
  have h4:=hall e he hb;rcases hor with h5|⟨h5,h6⟩
  · rw[h5,(hs1 i hiB hi0).1] at h4;cases h4
  rw[(hs1 e.on h5 h6).1] at h4;cases h4
 intro fuel;induction fuel with
 | zero =>
   intro listed a w hs1 hs2 hr hy H;refine⟨fun h=>(by rw[h] at hr;cases hr),fun j hj=>?_⟩;by_cases hji:j=i
   · subst hji;exact hy.wpOpIn hro hi H
   have:=ready_mono hj hji;rw[H.1] at this;cases this
 | succ fuel ih =>
   intro listed a w hs1 hs2 hr hy H;refine⟨fun h=>(by rw[h] at hr;cases hr),fun j hj=>?_⟩;by_cases hji:j=i
   · subst hji;exact hy.wpOpIn hro hi H
   obtain⟨oj,hoj,hjB,hq,hap⟩:=inB listed j hs1 hs2 hj hji;have h1:=H.2 j (ready_mono hj hji);have h2:=wpOpIn_putQ hro hoj hq hap (fun cs b=>hsel i oi cs b hi) (fun cs b=>hsel j oj cs b hoj) hQ hy h1;refine wpOpIn_mono (fun a' w' h3=>ih (listed.setIfInBounds j true) a' w' (fun k hkB hk0=>?_) (fun k hk0=>?_) (ready_mono hr (Ne.symm hji)) h3.1 ?_) h2
   · have hjk:j≠k:=fun h=>hkB (h ▸ hjB)
     rw[getD_set_ne false hjk,getD_set_ne true hjk];exact hs1 k hkB hk0
   · by_cases hjk:j=k
     · subst hjk;rcases l0S j listed.size with h'|h'
       · simp [h']
       simp [Array.getElem?_eq_none h']
     rw[getD_set_ne true hjk];exact hs2 k hk0
   rw[Array.setIfInBounds_comm _ _ hji];exact h3.2
end
section
variable {P : Program} {ops : Array Oper} {Q : Exit → Act → World → Prop} {n fuel i d : Nat} {D : List Deferred} {e : Env} {w : World} {listed : Array Bool} {o : Oper} {v : Value}
theorem getD_ff {l:Array Bool}{k:Nat}(h:l.getD k true=false):l.getD k false=false:=by
 rcases l0S k l.size with h'|h'
 · simp [h'] at h ⊢;exact h
 simp [Array.getElem?_eq_none h'] at h
theorem WA.takeM (B:List Nat)(ho:ops[i]? = some o)(hs:Region.noSelect ops=true)(hk:holdB ops listed B i=true)(hr:(Region.ready .any ops listed).contains i=true)(hx:Ex P o e w v w)(hw:Wn ops n D e o)(hd:o.dst=some d)(hn:Nat.blt d n=true)
 (hab :∀w ρ,o.about P w ρ=none) (k:WA none P ops Q n D fuel (listed.setIfInBounds i true) ((d,v)::e) w):WA none P ops Q n D (fuel+1) listed e w:=fun a ha=>by
 unfold holdB at hk;rw[l0j] at hk;have hiB:i∉B:=by simpa using hk.1
 have hr':i∈Region.ready .any ops listed:=by simpa using hr
 have hi0:=(mem_ready.1 hr').1;refine wpAnyIn_firstQ (F:=Wd none) (B:=B) (L0:=listed) G ho (Region.noSelect_spec hs) (fun _ _ _ h=>noP_put ho h) hiB hi0 (fun j oj hj h0 hji=>?_) fuel listed a w (fun k _ h0=>⟨getD_ff h0,h0⟩) (fun k h=>h) hr' ⟨hw a ha,hx.2 _ ha.fits,fun w=>hab w _⟩ ?_
 · have hlt:j<ops.size:=(Array.getElem?_eq_some_iff.1 hj).1;have:=List.all_eq_true.1 hk.2 j (List.mem_range.2 hlt);rw[hj] at this;simp only[h0,l1h,l2w,beq_iff_eq,hji,false_or] at this;cases hB:B.contains j with
   | true =>
     rw[hB,cond_true,ho,l0j] at this;exact .inl ⟨by simpa using hB,quiet_of this.1,this.2⟩
   | false =>
     rw[hB,cond_false] at this;obtain⟨ed,h1,h2⟩:=Array.any_eq_true'.1 this;simp only[l0j,l2w,beq_iff_eq,Bool.not_eq_true'] at h2;refine .inr ⟨by simpa using hB,ed,h1,h2.1,?_⟩;rcases h2.2 with h3|⟨h3,h4⟩
     · exact .inl h3
     exact .inr ⟨by simpa using h3,h4⟩
 rw[hd];exact k _ (ha.put (l0i hn) v)
abbrev _root_.q1e := @WA.takeM
end
end Go.Ph
end
section
namespace Go.Ph
open Go Go.RowKit Pl
section
variable {C : Nat → Prop} {r : Option Nat} {P : Program} {ops : Array Oper} {Q : Exit → Act → World → Prop} {n : Nat} {D : List Deferred} {rest : List Oper} {e : Env} {w0 w : World} {M0 M : Mem} {L L' : List Item} {d : Nat} {v z : Value}
  {x y : Operand} {ty t ts tt : TypeId} {pos : String} {af : Array Edge} {g : Option (Nat × Bool)} {α : Type} {enc : α → List Value} {kk bytes : Nat} {l : List α} {M : Mem}
theorem WR.litE (T:ElemTy P ts t z kk bytes)(enc:α→List Value)(H:StX C w0 M0 M L w)
 (hw:Wn ops n D e ⟨some d, .buildSlice ts 0 #[],ty,pos,af,g⟩) (hn:Nat.blt d n=true)
 (k :∀v w',StX C w0 M0 M (RowS t kk enc v ([]:List α)::L) w'→WR r P ops Q n D rest ((d,v)::e) w') :
 WR r P ops Q n D (⟨some d, .buildSlice ts 0 #[],ty,pos,af,g⟩::rest) e w:=by
 obtain⟨i,hi,hz,hsz,_⟩:=T.info;have hs:(sizeOf t).run P w = .ok kk w:=by simp [sizeOf,typeInfo,hi,hsz]
 have hrun:(Instr.buildSlice ts 0 #[]).run P w = .ok (.slice (some ⟨w.heap.size,0,none⟩) 0 0) (w.alloc (.cells #[] t)):=by
  simp only[Instr.buildSlice,Sem.run_bind,run_underlying T.under,Result.andThen_ok,hs];rw[if_neg Sm];rw[if_pos Sm];simp only[Sem.run_bind,Sem.run_pure,Result.andThen_ok,Nat.zero_mul];rw[show Array.range 0 = #[] by simp,Array.map_empty];rfl
 refine q02 (w':=w.alloc (.cells #[] t)) (v := .slice (some ⟨w.heap.size,0,none⟩) 0 0) ⟨nofun,fun ρ hf=>?_⟩ hw G hn (k _ _ (H.new (it:=RowS t kk enc (.slice (some ⟨w.heap.size,0,none⟩) 0 0) ([]:List α)) (grownBy_alloc' w _) ?_ (fun b hb=>by cases hb;exact l0e _)))
 · simp only[execOp,Sem.run_bind,Array.map_empty,l0z,hrun,Result.andThen_ok,Sem.run_pure];first|done|simp [hrun]
 exact⟨by simp, .inr ⟨w.heap.size,0,#[],G,l1a _,heap_alloc_new w _,by simp,by simp,by simp,by simp⟩⟩
theorem Ex.eqlNilS {a:Option Addr}{nn c:Nat}{t':TypeId}{dst:Option Tmp}(ht:P.underlying t=some (.slice t'))(hx:ev e x=some (.slice a nn c)):Ex P ⟨dst, .binOp .eql t x (.const (.slice none 0 0)) tt,ty,pos,af,g⟩ e w (.bool a.isNone) w :=
 ⟨nofun,fun ρ hf=>by
  have h2:ρ (.const (.slice none 0 0)) = .slice none 0 0:=hf _ _ rfl;simp [execOp,hf _ _ hx,h2,eqGuard,Go.run_eql_slice_nil w t t' a nn c ht]⟩
theorem SlS.nilOr {M:Mem}(h:SlS M kk enc v l):(v = .slice none 0 0∧l=[])∨∃a c,v = .slice (some a) l.length c:=by
 obtain⟨_,A,c,rfl,h1,h2,_⟩:=h;cases A with
 | none =>
   have hc:=h2.2 rfl;have hl:l=[]:=l0a Om;subst hl;subst hc;exact .inl ⟨G,G⟩
 | some a=>exact .inr ⟨a,c,rfl⟩
theorem Ex.sliceRow {A:Option Addr}{nn c i j:Nat}{t':TypeId}{lo hi:Option Operand}{dst:Option Tmp}(ht:P.underlying t=some (.slice t'))(hz :∀w,(sizeOf t').run P w = .ok kk w)(hx:ev e x=some (.slice A nn c))(hnc:nn≤c)(hij:i≤j)(hj:j≤nn)
 (hlo:(∃o,lo=some o∧ev e o=some (I i))∨(lo=none∧i=0)) (hhi:(∃o,hi=some o∧ev e o=some (I j))∨(hi=none∧j=nn)) :
 Ex P ⟨dst, .slice t x lo hi none,ty,pos,af,g⟩ e w (.slice (if c=i then A else A.map (fun a=>a.add (i*kk))) (j-i) (c-i)) w :=
 ⟨nofun,fun ρ hfi=>by
  have hr:=run_slice_partS (P:=P) (w:=w) (lo:=lo.map ρ) (hi:=hi.map ρ) ht hz A nn c hnc hij hj
   (by rcases hlo with ⟨o,rfl,ho⟩|⟨rfl,h⟩
       · exact .inl (by simp [hfi _ _ ho])
       exact .inr ⟨G,h⟩)
   (by rcases hhi with ⟨o,rfl,ho⟩|⟨rfl,h⟩
       · exact .inl (by simp [hfi _ _ ho])
       exact .inr ⟨G,h⟩)
  simp only[execOp,hfi _ _ hx,l2h,Sem.run_bind,hr,Result.andThen_ok,Sem.run_pure]⟩
end
end Go.Ph
end
section
namespace Go.Ph
open Go Go.RowKit Pl
section
variable {C : Nat → Prop} {r : Option Nat} {P : Program} {ops : Array Oper} {Q : Exit → Act → World → Prop} {n : Nat} {D : List Deferred} {rest : List Oper} {e : Env} {w0 w : World} {M0 M : Mem} {L L' : List Item} {d : Nat} {v z : Value}
  {x y : Operand} {ty t t' ts tt T : TypeId} {pos : String} {af : Array Edge} {g : Option (Nat × Bool)}
def MethAt (P:Program)(t:TypeId)(v:Value)(name:String)(f:FuncId)(z:Value):Prop :=∀w,(method (P.types.size+Made.depth) t v name).run P w = .ok (f,z) w
theorem WR.callI {f:FuncId}{ar:List Operand}{vs:List Value}{tys:Array TypeId}{Pre:Mem→Prop}{R:Value→Mem→Prop}{name:String}(H:StX C w0 M0 M L w)(hs:Ct P f (z::vs) Pre R)(hm:MethAt P t v name f z)(hx:ev e x=some (.iface t v))(ha:evs e ar=some vs)(hp:Pre M)
 (hw:Wn ops n D e ⟨some d, .call ⟨.invoke x name,ar.toArray,tys⟩,ty,pos,af,g⟩) (hn:Nat.blt d n=true)
 (k :∀v M' w',StX C w0 M0 M' L w'→M.le M'→R v M'→WR r P ops Q n D rest ((d,v)::e) w') :
 WR r P ops Q n D (⟨some d, .call ⟨.invoke x name,ar.toArray,tys⟩,ty,pos,af,g⟩::rest) e w:=by
 intro a hsat;unfold wpListIn;rw[if_pos (hw a hsat)];refine⟨fun _ _=>trivial,?_⟩;rw[Oper.semAt_eq _ _ _ (fun c h=>by cases h)];have hv:ar.map a.eval=vs:=hsat.fits.evs ha;have hf:a.eval x = .iface t v:=hsat.fits _ _ hx;have hrun:(execOp a.eval ⟨some d, .call ⟨.invoke x name,ar.toArray,tys⟩,ty,pos,af,g⟩).run P w = .ok (.enter f (z::vs).toArray) w:=by
  have h1:(#[Value.iface t v]++ar.toArray.map a.eval)[0]? = some (Value.iface t v):=by simp
  have h2:(#[Value.iface t v]++ar.toArray.map a.eval).extract 1 (#[Value.iface t v]++ar.toArray.map a.eval).size=vs.toArray:=by
   rw[l0z,hv];apply Array.ext';simp
  simp only[execOp,resolve,hf,Sem.run_bind,Sem.run_pure,Result.andThen_ok,invoke];rw[h1,h2];have h3:=hm w;simp only[callMethod,Sem.run_bind,run_program,Result.andThen_ok,h3];rw[hs.enters];simp
 rw[hrun,Oper.uponIn_enter];refine⟨fun h=>(by cases h),callsIn_Wd.2 ((hs.calls w M H.ag hp).mono ?_)⟩;rintro en w' ⟨rv,M',rfl,hx,hR⟩;exact k rv M' w' (H.call hx) hx.le hR _ (hsat.put (l0i hn) rv)
theorem StX.setC {b o:Nat}{cs:Array Value}(H:StX C w0 M0 M L w)(hu:Upd L (.blk b (.cells cs T)) (.blk b (.cells (cs.setIfInBounds o v) T)) L'):StX C w0 M0 M L' (w.setCell ⟨b,o,none⟩ v):=by
 have hbk:=H.blk hu.mem;refine H.upd hu ⟨G,G,G,?_,fun k _ hk=>?_⟩ ?_ (fun b' hb' => .inl hb')
 · simp [World.setCell]
 · simp only[World.setCell,Array.getElem?_modify];rw[if_neg];intro h;exact hk (by rw[←h];rfl)
 show(w.setCell _ _).heap[b]? = _
 simp only[World.setCell,Array.getElem?_modify,hbk,if_true];rfl
theorem Ex.makeFuncF {dst:Option Tmp}{f:FuncId}{cs:List Operand}{vs:List Value}(hc:evs e cs=some vs):Ex P ⟨dst, .makeFunc (.func f) cs.toArray #[],ty,pos,af,g⟩ e w (.func (.func f) vs.toArray #[]) w :=
 ⟨nofun,fun ρ hfi=>by simp [execOp,Instr.makeFunc,hfi.evs hc]⟩
theorem Ex.makeIface {dst:Option Tmp}{te:TypeId}(ht:P.underlying t=some (.pointer te))(hx:ev e x=some v):Ex P ⟨dst, .makeInterface t x,ty,pos,af,g⟩ e w (.iface t v) w :=
 ⟨nofun,fun ρ hfi=>by simp [execOp,hfi _ _ hx,Instr.makeInterface,run_underlying ht]⟩
theorem StX.cellOf {b o:Nat}{cs:Array Value}(H:StX C w0 M0 M L w)(hm:Item.blk b (.cells cs T)∈L)(h:cs[o]? = some v):w.cell? ⟨b,o,none⟩=some v:=by
 rw[Lib.cell_of_heap (H.blk hm)];exact h
theorem StX.thawOf {b o:Nat}{cs:Array Value}(H:StX C w0 M0 M L w)(hm:Item.blk b (.cells cs T)∈L):w.frozen? ⟨b,o,none⟩=false:=Lib.frozen_of_heap (H.blk hm) o
end
end Go.Ph
end
section
namespace Go.Ph
open Go Go.RowKit
namespace Pl
def frm {α:Type}(l:List α)(j:Int):Option Int:=if 0≤j∧j≤(l.length:Int) then some j else none
def cpyO {α:Type}(l:List α)(j:Int)(s:List α):Option (List α × Int) :=
 some (l.take j.toNat++s.take (l.length-j.toNat)++l.drop (j.toNat+(s.take (l.length-j.toNat)).length),((s.take (l.length-j.toNat)).length:Int))
def idxO (l:List (Option Ls))(i:Int):Option (Option Ls):=if 0≤i∧i<256 then l[i.toNat]? else none
end Pl
open Pl
theorem frm_some {α:Type}{l:List α}{j n:Int}(h:frm l j=some n):j=n∧0≤j∧j≤(l.length:Int):=by
 unfold frm at h;split at h
 · rename_i hb;cases h;exact ⟨rfl,hb⟩
 cases h
theorem frm_ok {α:Type}{l:List α}{j:Nat}(h:j≤l.length):frm l (j:Int)=some (j:Int):=by unfold frm;rw [if_pos ⟨by omega,by omega⟩]
def RSub (v:Value)(n j:Nat)(u:Value):Prop :=∃A c,v = .slice A n c∧j≤n∧n≤c∧u = .slice (if c=j then A else A.map (fun a=>a.add (j*1))) (n-j) (c-j)
section
variable {C : Nat → Prop} {r : Option Nat} {P : Program} {ops : Array Oper} {Q : Exit → Act → World → Prop} {n : Nat} {D : List Deferred} {rest : List Oper} {e : Env} {w0 w : World} {M0 M : Mem} {L L' : List Item} {d : Nat} {v z u : Value}
  {x y : Operand} {ty t t' ts tt te T : TypeId} {pos : String} {af : Array Edge} {g : Option (Nat × Bool)} {α : Type} {enc : α → Value} {l l2 s : List α} {dst : Option Tmp}
theorem WR.rowFrom {j j2:Int}(ht:P.underlying ts=some (.slice t'))(hz :∀w,(sizeOf t').run P w = .ok 1 w)(H:StX C w0 M0 M L w)(hm:RowI t enc v l∈L)(hj:frm l j=some j2)(hx:ev e x=some v)(hy:ev e y=some (I j))
 (hw:Wn ops n D e ⟨some d, .slice ts x (some y) none none,ty,pos,af,g⟩) (hn:Nat.blt d n=true)
 (k :∀u,RSub v l.length j2.toNat u→WR r P ops Q n D rest ((d,u)::e) w) :
 WR r P ops Q n D (⟨some d, .slice ts x (some y) none none,ty,pos,af,g⟩::rest) e w:=by
 obtain⟨rfl,h0,h1⟩:=frm_some hj;obtain⟨m,rfl⟩:=l0X h0;have hrow:=H.rowOf hm;have hnc :∃A c,v = .slice A l.length c∧l.length≤c:=by
  rcases hrow.2 with ⟨hv,hn0⟩|⟨g',cap,cur,hv,_,_,hc,_⟩
  · exact⟨none,0,by rw[hv,hn0],by omega⟩
  exact⟨_,cap,hv,hc⟩
 obtain⟨A,c,rfl,hlc⟩:=hnc;have hml:m≤l.length:=by omega
 have hex:=Ex.sliceRow (P:=P) (w:=w) (kk:=1) (i:=m) (j:=l.length) (dst:=some d) (ty:=ty) (pos:=pos) (af:=af) (g:=g) (lo:=some y) (hi:=none) ht hz hx hlc hml (l0e _) (.inl ⟨y,rfl,hy⟩) (.inr ⟨rfl,rfl⟩);exact q02 hex hw G hn (k _ ⟨A,c,G,hml,hlc,G⟩)
theorem take_cpy {a:List Value}{b:List α}{j k' n:Nat}(h:a.take n=b.map enc)(hb:b.length=n)(s:List α)(hs:j+s.length≤n)(ha:n≤a.length):(a.take j++s.map enc++a.drop (j+s.length)).take n=(b.take j++s++b.drop (j+s.length)).map enc:=by
 have e1:a.take j=(b.take j).map enc:=by rw[List.map_take,←h,List.take_take,l0Z Om]
 have e2:(a.drop (j+s.length)).take (n-(j+s.length))=(b.drop (j+s.length)).map enc:=by rw[List.map_drop,←h,l1c]
 have hx:(a.take j++s.map enc).length=j+s.length:=by rw[l00,l05,l0d];omega
 rw[l1L,l0q (l:=a.take j++s.map enc) Om,hx,e2,e1,l1j,l1j]
theorem WR.copyC {j:Int}{m:Int}(hu:P.underlying ts=some (.slice te))(hs:(P.info? te).map (·.size)=some 1)(h1 :∀a,(enc a).oneCell'=true)(H:StX C w0 M0 M L w){L':Item→List Item}(hU :∀it',Upd L (RowI t enc v l) it' (L' it'))(hr:RSub v l.length j.toNat u)(hsl:Sl M enc z s)(hc:cpyO l j s=some (l2,m))(hx:ev e x=some u)(hy:ev e y=some z)
 (hw:Wn ops n D e ⟨some d, .call ⟨.builtin .copy,#[x,y],#[ts,tt]⟩,ty,pos,af,g⟩) (hn:Nat.blt d n=true)
 (k :∀w',StX C w0 M0 M (L' (RowI t enc v l2)) w'→WR r P ops Q n D rest ((d,I m)::e) w') :
 WR r P ops Q n D (⟨some d, .call ⟨.builtin .copy,#[x,y],#[ts,tt]⟩,ty,pos,af,g⟩::rest) e w:=by
 obtain⟨i,hi⟩ :∃i,j.toNat=i:=⟨_,rfl⟩
 rw[hi] at hr;unfold cpyO at hc;rw[hi] at hc;simp only[Option.some.injEq,Prod.mk.injEq] at hc;obtain⟨rfl,rfl⟩:=hc;obtain⟨A,c,rfl,hjn,hnc,rfl⟩:=hr;have hsl0:=hsl;obtain⟨A2,c2,rfl,hs1,hs2,hs3⟩:=hsl;have hm:=(hU (RowI t enc (.slice A l.length c) l)).mem;have hlen:(s.take (l.length-i)).length=Nat.min s.length (l.length-i):=by rw[l05,Nat.min_comm]
 have step :∀w',(Builtin.copy_ #[ts,tt] ty #[.slice (if c=i then A else A.map (fun a=>a.add (i*1))) (l.length-i) (c-i), .slice A2 s.length c2]).run P w = .ok (goInt (s.take (l.length-i)).length) w'→StX C w0 M0 M (L' (RowI t enc (.slice A l.length c) (l.take i++s.take (l.length-i)++l.drop (i+(s.take (l.length-i)).length)))) w'→WR r P ops Q n D (⟨some d, .call ⟨.builtin .copy,#[x,y],#[ts,tt]⟩,ty,pos,af,g⟩::rest) e w:=by
  intro w' hrun H';refine q02 (v:=I _) (w':=w') ⟨nofun,fun ρ hf=>?_⟩ hw G hn (k w' H');simp only[execOp,resolve,invoke,builtin,Sem.run_bind,Sem.run_pure,Result.andThen_ok,l0z,l0f,l0O,hf _ _ hx,hf _ _ hy,hrun];try rfl
 by_cases h0:Nat.min s.length (l.length-i)=0
 · have hk0:s.take (l.length-i)=[]:=l0a (by rw[hlen,h0]);refine step w ?_ ?_
   · rw[hk0];exact run_copy_none w ts tt ty te _ _ _ _ _ _ hu hs h0
   rw[hk0,l0g];simp only[l03,l1i,l0A];exact H.upd (hU _) (World.grownBy.refl _ _) (H.own _ hm).1 (fun b hb => .inl hb)
 have hrow:=H.rowOf hm;rcases hrow.2 with ⟨hv,hn0⟩|⟨g',cap,cur,hv,_,hg,hcc,hcm,hcs,htk⟩
 · exact absurd (by rw[hn0];show min s.length (0-i)=0;omega) h0
 cases hv;have hpos:0<s.length∧0<l.length-i:=by
  have hmin:Nat.min s.length (l.length-i)=min s.length (l.length-i):=rfl;rw[hmin] at h0;omega
 have hne:s≠ []:=by rintro rfl;simp at hpos
 obtain⟨b2,o2,cs2,t2,fz2,rfl,e2,e3⟩:=hs3 hne;rw[l0Q] at hcs htk;have hkl:(s.take (l.length-i)).length≤l.length-i:=by rw[l05];omega
 have hrun:=run_copy_row (P:=P) w ts tt ty te g' i (l.length-i) (c-i) ⟨b2,o2,none⟩ s.length c2 cur t ((s.take (l.length-i)).map enc) hu hs hg (by rw[l0d,hlen]) (fun q x hq=>by
  rw[List.getElem?_map] at hq;obtain⟨a,ha,rfl⟩:=Option.map_eq_some_iff.1 hq;have ha':s[q]? = some a:=by
   rw[List.getElem?_take] at ha;split at ha
   · exact ha
   cases ha
  have hcell:=e3 q a ha';rw[Addr.add_lit];unfold World.cell?;rw[H.ag _ _ e2];simpa using hcell) (by rw[l0d];omega) (fun x hx=>by
  obtain⟨a,_,rfl⟩:=List.mem_map.1 hx;exact h1 a)
 rw[l0d] at hrun;have hcne :¬c=i:=by omega
 refine step _ (by
  rw[if_neg hcne];simp only[l0T,Addr.add_lit,l0s,l0Q];exact hrun) (H.upd (hU _) (grownBy_setRow w g' _) ?_ (fun b hb => .inl hb))
 have hl2:(l.take i++s.take (l.length-i)++l.drop (i+(s.take (l.length-i)).length)).length=l.length:=by
  simp only[l00,l01,l05] at hkl ⊢;omega
 refine⟨by simp, .inr ⟨g',c,_,by rw[hl2],l1a _,setRow_heap w g' cur _ t _ hg,by rw[hl2];exact hcc,hcm,?_,?_⟩⟩
 · simp only[l1w,l00,l05,l01,l0d,Array.length_toList,l0Q] at hkl ⊢;omega
 rw[hl2,l0Q];have:=take_cpy (k':=0) (enc:=enc) htk rfl (j:=i) (s.take (l.length-i)) Om (by simp;omega);simpa using this
def SlO (M:Mem)(v:Value)(o:Option Ls):Prop:=(o=none∧v = .slice none 0 0)∨∃l a c,o=some l∧v = .slice (some a) l.length c∧Sl M encB v l
theorem SlO.mono {M M':Mem}{v:Value}{o:Option Ls}(h:SlO M v o)(hl:M.le M'):SlO M' v o:=by
 rcases h with h|⟨l,a,c,h1,h2,h3⟩
 · exact .inl h
 exact .inr ⟨l,a,c,h1,h2,h3.mono hl⟩
theorem SlO.sl {v:Value}{o:Option Ls}(h:SlO M v o):Sl M encB v (o.getD []):=by
 rcases h with ⟨rfl,rfl⟩|⟨l,a,c,rfl,_,h3⟩
 · exact q2e _ _
 exact h3
def TabO (M:Mem)(b T:Nat)(tb:List (Option Ls))(tr:List Ls):Prop :=
 ∃(vs:List Value) (vt:Value),PtM M b (.cells (vs++[vt]).toArray T)∧vs.length=256∧(∀(i:Nat) (o:Option Ls),tb[i]? = some o→∃v,vs[i]? = some v∧SlO M v o)∧Sl M encS vt tr
theorem TabO.mono {M M':Mem}{b T:Nat}{tb:List (Option Ls)}{tr:List Ls}(h:TabO M b T tb tr)(hl:M.le M'):TabO M' b T tb tr:=by
 obtain⟨vs,vt,h1,h2,h3,h4⟩:=h;exact⟨vs,vt,h1.mono hl,h2,fun i o ho=>by obtain⟨v,hv,hs⟩:=h3 i o ho;exact ⟨v,hv,hs.mono hl⟩,h4.mono hl⟩
theorem TabO.at {b T:Nat}{tb:List (Option Ls)}{tr:List Ls}{i:Int}{o:Option Ls}(h:TabO M b T tb tr)(hi:idxO tb i=some o):∃v,CellM M ⟨b,0+i.toNat*1,none⟩ v∧SlO M v o:=by
 obtain⟨vs,vt,h1,h2,h3,_⟩:=h;unfold idxO at hi;split at hi
 · obtain⟨v,hv,hs⟩:=h3 _ _ hi;refine⟨v,⟨G,_,_,_,h1,?_⟩,hs⟩;have hlt:=(List.getElem?_eq_some_iff.1 hv).1;show(vs++[vt]).toArray[0+i.toNat*1]? = some v
   rw[l0s,l0Q,List.getElem?_toArray,List.getElem?_append_left hlt,hv]
 cases hi
theorem TabO.tl {b T:Nat}{tb:List (Option Ls)}{tr:List Ls}(h:TabO M b T tb tr):∃v,CellM M ⟨b,256,none⟩ v∧Sl M encS v tr:=by
 obtain⟨vs,vt,h1,h2,_,h4⟩:=h;refine⟨vt,⟨G,_,_,_,h1,?_⟩,h4⟩;show(vs++[vt]).toArray[256]? = some vt
 rw[List.getElem?_toArray,List.getElem?_append_right Om,h2];rfl
theorem Ex.idxArrO {b o:Nat}{i:Int}{t0:TypeId}{k:IntKind}{tb:List (Option Ls)}{q:Option Ls}(hs:P.underlying t=some (.array 256 t0))(hz :∀w,(sizeOf t0).run P w = .ok 1 w)(hx:ev e x=some (ptr b o))(hy:ev e y=some (.int k i))(h:idxO tb i=some q):
 Ex P ⟨dst, .indexAddr t x y,ty,pos,af,g⟩ e w (ptr b (o+i.toNat*1)) w:=by
 unfold idxO at h;split at h
 · rename_i hb;obtain⟨m,rfl⟩:=l0X hb.1;exact q1Z hs hz hx hy Om
 cases h
theorem Ex.neqNilO {o:Option Ls}(ht:P.underlying t=some (.slice t'))(h:SlO M v o)(hx:ev e x=some v):Ex P ⟨dst, .binOp .neq t x (.const (.slice none 0 0)) tt,ty,pos,af,g⟩ e w (.bool o.isSome) w:=by
 refine⟨nofun,fun ρ hf=>?_⟩;have h2:ρ (.const (.slice none 0 0)) = .slice none 0 0:=hf _ _ rfl;rcases h with ⟨rfl,rfl⟩|⟨l,a,c,rfl,rfl,_⟩
 · simp [execOp,hf _ _ hx,h2,eqGuard,Go.run_neq_slice_nil w t t' none 0 0 ht]
 simp [execOp,hf _ _ hx,h2,eqGuard,Go.run_neq_slice_nil w t t' (some a) _ _ ht]
end
end Go.Ph
end
section
namespace Go.Ph
open Go Go.RowKit Pl
section
variable {C : Nat → Prop} {r : Option Nat} {P : Program} {ops : Array Oper} {Q : Exit → Act → World → Prop} {n : Nat} {D : List Deferred} {rest : List Oper} {e : Env} {w0 w w' : World} {M0 M : Mem} {L L' : List Item} {d : Nat} {v z : Value}
  {x y : Operand} {ty t t' ts tt T : TypeId} {pos : String} {af : Array Edge} {g : Option (Nat × Bool)}
end
end Go.Ph
end
section
namespace Go.Proofs.YtkmjdamkifbddaaGreatDoor
open Go
theorem oDisable (w:World):(callFunc 231 #[]).run Tryz.prog w = .ok (.value (.tuple #[])) w:=run_call_mark0 Tryz.func231 Kr Kr Kr .disable Kr w
theorem oEnable (w:World):(callFunc 233 #[]).run Tryz.prog w = .ok (.value (.tuple #[])) w:=run_call_mark0 Tryz.func233 Kr Kr Kr .enable Kr w
theorem oAcquire (a:Addr)(w:World):(callFunc 234 #[.pointer (some a)]).run Tryz.prog w = .ok (.value (.tuple #[])) w:=run_call_marked Tryz.func234 Kr Kr Kr .acquire Kr a w
theorem oRelease (a:Addr)(w:World):(callFunc 236 #[.pointer (some a)]).run Tryz.prog w = .ok (.value (.tuple #[])) w:=run_call_marked Tryz.func236 Kr Kr Kr .releaseMerge Kr a w
set_option maxRecDepth 100000 in
set_option maxHeartbeats 1600000 in
theorem oStore (a:Addr) (x:Value) (u:FrameMode) (w:World) (hc:w.cell? a=some x) (hz:w.frozen? a=false) :
 CallsD Tryz.prog 205 #[.pointer (some a), .bool true] u w fun e u' w'=>u'=u∧(e = .returned (.tuple #[])∧w'=w.drew.setCell a (.int .u32 1)):=by
 have hc':w.drew.cell? a=some x:=by go_simp
 have hz':w.drew.frozen? a=false:=by go_simp
 have hst:=run_call_store (P:=Tryz.prog) Tryz.func221 Kr Kr Kr Kr (k := .u32) (y:=1) hc' hz'
 go_enter_d Tryz.func205,Tryz.ntmps205
 go_wp2
 go_region_calls
 all_goals (go_end0;exact ⟨rfl,rfl⟩)
set_option maxRecDepth 100000 in
set_option maxHeartbeats 1600000 in
theorem oUnlock (a:Addr) (u:FrameMode) (w:World) (hc:w.cell? a=some (.int .i32 1)) (hz:w.frozen? a=false) :
 CallsD Tryz.prog 204 #[.pointer (some a)] u w fun e u' w'=>u'=u∧(e = .returned (.tuple #[])∧w'=w.setCell a (.int .i32 0)):=by
 have hd:=oDisable;have he:=oEnable;have hr:=oRelease;have hadd:=run_call_add (P:=Tryz.prog) Tryz.func237 Kr Kr Kr .i32 Kr (y := -1) (s:=0) hc hz (by simp [go_sem];rfl);have hcv:=run_convert_to_unsafe (P:=Tryz.prog) (src:=263) (dst:=144) Tryz.underlying263 Tu144 Kr hc
 go_enter_d Tryz.func204,Tryz.ntmps204
 go_wp2
 go_end0
 go_wp2
 go_end0
 exact⟨G,G⟩
set_option maxRecDepth 100000 in
set_option maxHeartbeats 1600000 in
theorem oLock (a:Addr) (w:World) (hc:w.cell? a=some (.int .i32 0)) (hz:w.frozen? a=false) :
 Calls Tryz.prog 203 #[.pointer (some a)] w fun e w'=>e = .returned (.tuple #[])∧w'=w.setCell a (.int .i32 1):=by
 have hd:=oDisable;have he:=oEnable;have ha:=oAcquire;have hcas:=run_call_cas_hit (P:=Tryz.prog) Tryz.func232 Kr Kr Kr .i32 Kr (y:=1) hc hz;have hc':(w.setCell a (.int .i32 1)).cell? a=some (.int .i32 1):=World.cell?_setCell_same w a _ hc;have hcv:=run_convert_to_unsafe (P:=Tryz.prog) (src:=263) (dst:=144) Tryz.underlying263 Tu144 Kr hc'
 go_enter Tryz.func203,Tryz.ntmps203
 go_wp2
 first|go_end0|(simp only[Exit.inBlock,Exit.then];refine bodyPost_ret (results_none rfl _ _ _) rfl ?_)|refine bodyPost_ret (results_none rfl _ _ _) rfl ?_
 go_wp2
 go_end0
 exact⟨G,G⟩
set_option maxRecDepth 100000 in
set_option maxHeartbeats 1600000 in
theorem oSlow (b:Nat) (w:World) (R:World→Prop)
 (h0:w.cell? ⟨b,0,none⟩=some (.int .u32 0)) (h1:w.cell? ⟨b,1,none⟩=some (.int .i32 0)) (f0:w.frozen? ⟨b,0,none⟩=false) (f1:w.frozen? ⟨b,1,none⟩=false)
 (hf:Calls Tryz.prog 147 #[.pointer (some ⟨b,0,none⟩)] (w.setCell ⟨b,1,none⟩ (.int .i32 1)) fun e w2=>e = .returned (.tuple #[])∧R w2)
 (hR :∀w2,R w2→w2.cell? ⟨b,0,none⟩=some (.int .u32 0)∧w2.cell? ⟨b,1,none⟩=some (.int .i32 1)∧w2.frozen? ⟨b,0,none⟩=false∧w2.frozen? ⟨b,1,none⟩=false) :
 Calls Tryz.prog 177 #[.pointer (some ⟨b,0,none⟩), .func (.func 147) #[.pointer (some ⟨b,0,none⟩)] #[]] w fun e w'=>e = .returned (.tuple #[])∧∃w2,R w2∧w'=((w2.drew.setCell ⟨b,0,none⟩ (.int .u32 1)).setCell ⟨b,1,none⟩ (.int .i32 0)):=by
 have hl:=run_call_load (P:=Tryz.prog) Tryz.func202 Kr Kr Kr .u32 Kr (w:=w.setCell ⟨b,1,none⟩ (.int .i32 1)) (a:=⟨b,0,none⟩) (x:=0) ((World.cell?_setCell_other _ ⟨b,1,none⟩ ⟨b,0,none⟩ _ Sm).trans h0);have hnot :∀(x:Bool) (w:World),(Op.unary .not (.bool x)).run Tryz.prog w = .ok (.bool (!x)) w:=fun _ _=>rfl
 go_enter_defers Tryz.func177,Tryz.ntmps177
 go_wp2_with (first|(go_at_call 203;refine (oLock ⟨b,1,none⟩ _ (by go_simp) (by go_simp)).mono ?_;rintro e w' ⟨rfl,rfl⟩)|(go_at_call 176;go_in)|(go_at_call 147;refine hf.mono ?_;rintro e w2 ⟨rfl,hw2⟩))
 obtain⟨r0,r1,r2,r3⟩:=hR _ hw2
 -- two deferred calls, the last laid first
 refine leaves_cons (f:=205) (args := #[.pointer (some ⟨b,0,none⟩), .bool true]) Sm (by simp [go_sem]) ?_;refine(oStore ⟨b,0,none⟩ (.int .u32 0) .returning _ r0 r2).mono ?_;rintro e u' w'' ⟨rfl,rfl,rfl⟩;refine leaves_cons (f:=204) (args := #[.pointer (some ⟨b,1,none⟩)]) (by simp [settle]) (by simp [go_sem]) ?_;refine(oUnlock ⟨b,1,none⟩ _ _ ?_ ?_).mono ?_
 · refine(World.cell?_setCell_other _ ⟨b,0,none⟩ ⟨b,1,none⟩ _ Sm).trans ?_;rw[World.cell?_drew];exact r1
 · simp [r3]
 rintro e u' w'' ⟨rfl,rfl,rfl⟩;simp only[Leaves,settle,results,Tryz.results177];exact⟨_,by simp,G,w2,hw2,G⟩
set_option maxRecDepth 100000 in
set_option maxHeartbeats 1600000 in
theorem oFirst (b:Nat) (w:World) (R:World→Prop)
 (h0:w.cell? ⟨b,0,none⟩=some (.int .u32 0)) (h1:w.cell? ⟨b,1,none⟩=some (.int .i32 0)) (f0:w.frozen? ⟨b,0,none⟩=false) (f1:w.frozen? ⟨b,1,none⟩=false)
 (hf:Calls Tryz.prog 147 #[.pointer (some ⟨b,0,none⟩)] (w.setCell ⟨b,1,none⟩ (.int .i32 1)) fun e w2=>e = .returned (.tuple #[])∧R w2)
 (hR :∀w2,R w2→w2.cell? ⟨b,0,none⟩=some (.int .u32 0)∧w2.cell? ⟨b,1,none⟩=some (.int .i32 1)∧w2.frozen? ⟨b,0,none⟩=false∧w2.frozen? ⟨b,1,none⟩=false) :
 Calls Tryz.prog 146 #[.pointer (some ⟨b,0,none⟩), .func (.func 147) #[.pointer (some ⟨b,0,none⟩)] #[]] w fun e w'=>e = .returned (.tuple #[])∧∃w2,R w2∧w'=((w2.drew.setCell ⟨b,0,none⟩ (.int .u32 1)).setCell ⟨b,1,none⟩ (.int .i32 0)):=by
 have hl:=run_call_load (P:=Tryz.prog) Tryz.func202 Kr Kr Kr .u32 Kr h0;have hnot :∀(x:Bool) (w:World),(Op.unary .not (.bool x)).run Tryz.prog w = .ok (.bool (!x)) w:=fun _ _=>rfl
 go_enter Tryz.func146,Tryz.ntmps146
 go_wp2_with (first|(go_at_call 177;refine (oSlow b _ R h0 h1 f0 f1 hf hR).mono ?_;rintro e w' ⟨rfl,w2,hw2,rfl⟩)|(go_at_call 176;go_in))
 go_end0
 exact⟨G,w2,hw2,G⟩
set_option maxRecDepth 100000 in
theorem oAgain (a:Addr) (d:Int) (hd :¬d=0) (fv:Value) (w:World) (h0:w.cell? a=some (.int .u32 d)) :
 Calls Tryz.prog 146 #[.pointer (some a),fv] w fun e w'=>e = .returned (.tuple #[])∧w'=w:=by
 have hl:=run_call_load (P:=Tryz.prog) Tryz.func202 Kr Kr Kr .u32 Kr h0;have hnot :∀(x:Bool) (w:World),(Op.unary .not (.bool x)).run Tryz.prog w = .ok (.bool (!x)) w:=fun _ _=>rfl
 have hd':(d != 0)=true:=by simp [hd]
 go_enter Tryz.func146,Tryz.ntmps146
 go_wp2
 go_end0
 exact⟨G,G⟩
end Go.Proofs.YtkmjdamkifbddaaGreatDoor
end
section
namespace Go.Ph
open Go Go.RowKit Pl
def onePanic (v:Value):List PanicEntry:=[{v,recovered:=false}]
section
variable {Q : Exit → Act → World → Prop} {ch : List PanicEntry} {D : List Deferred} {w : World} {n : Nat} {e e' : Env}
theorem WQ.pThen {K:Act→World→Prop}(k:WQ Q (.panic ch) n D e w):WQ (Exit.then K Q) (.panic ch) n D e w:=k
abbrev _root_.q0O := @WQ.pThen
theorem WQ.pIn {id:Nat}(k:WQ Q (.panic ch) n D e w):WQ (Exit.inBlock id Q) (.panic ch) n D e w:=k
abbrev _root_.q0X := @WQ.pIn
theorem WQ.pCut {JN:Env→World→Prop}{JL:List (Nat × (Env→World→Prop))}{m:Nat}{D':List Deferred}(k:WQ Q (.panic ch) n D e w):WQ (CutX JN JL m D' Q) (.panic ch) n D e w:=k
abbrev _root_.q0T := @WQ.pCut
theorem WQ.pSc (k:WQ Q (.panic ch) n D e w):WQ (Straight Q) (.panic ch) n D e w:=k
abbrev _root_.q0Y := @WQ.pSc
def Unwr (ops:Array Oper)(e:Env):Bool:=e.all fun p=>ops.toList.all fun o=>match o.dst with|some t => !Nat.beq t p.1|none=>true
theorem Unwr.of {ops:Array Oper}:∀{e:Env},Unwr ops e=true→∀i v,get e i=some v→∀(j:Nat) o,ops[j]? = some o→o.dst≠some i
 | [],_,i,v,hg,_,_,_=>by simp [get] at hg
 | (k,u)::e,h,i,v,hg,j,o,ho=>by
   unfold Unwr at h;rw[l0H,l0j] at h;simp only[get] at hg;cases hb:Nat.beq i k with
   | true =>
     have hik:i=k:=l0R hb;subst hik;have hm:o∈ops.toList:=by rw[←Array.getElem?_toList] at ho;exact l1m ho
     have h1:=List.all_eq_true.1 h.1 o hm;intro hd;rw[hd] at h1;simp at h1
   | false =>
     rw[hb] at hg;exact Unwr.of (e:=e) h.2 i v hg j o ho
theorem WQ.pAny {r:Option Nat}{P:Program}{ops:Array Oper}{fuel:Nat}{listed:Array Bool}(hs:Sub e' e)(hu:Unwr ops e'=true)(k:WQ Q (.panic ch) n D e' w):WQ (Qa r P ops Q fuel listed) (.panic ch) n D e w:=fun a ha a' h' =>
 k a' ⟨h'.2.1.trans ha.size,h'.1.trans ha.defers,fun i v hi=>(h'.2.2 i (Unwr.of hu i v hi)).trans ((ha.sub hs).val i v hi)⟩
end
def RetPan (A:List Item)(w:World)(M:Mem)(v:Value)(e:Ending)(w':World):Prop :=∃M',e = .panicked (onePanic v)∧StX (feet A) w M M' [] w'
structure CtPan (P:Program)(f:FuncId)(args:List Value)(A:List Item)(Pre:Mem→Prop)(v:Value):Prop where
 enters :∀ar w,(callFunc f ar).run P w = .ok (.enter f ar) w
 calls :∀w M,StX (feet A) w M M A w→Pre M→Calls P f args.toArray w (RetPan A w M v)
def RetS {X Y:Type}(A:List Item)(w:World)(M:Mem)(R:X→Value→Mem→List Item→Prop)(pv:Y→Value):X ⊕ Y→Ending→World→Prop
 | .inl x=>RetX A w M (R x)
 | .inr n=>RetPan A w M (pv n)
def CtS {X Y:Type}(P:Program)(f:FuncId)(args:List Value)(A:List Item)(Pre:Mem→Prop)(R:X→Value→Mem→List Item→Prop)(pv:Y→Value):X ⊕ Y→Prop
 | .inl x=>CtX P f args A Pre (R x)
 | .inr n=>CtPan P f args A Pre (pv n)
theorem CtS.of {X Y:Type}{P:Program}{f:FuncId}{fn:Func}{c:Code}{args:List Value}{A:List Item}{Pre:Mem→Prop}{R:X→Value→Mem→List Item→Prop}{pv:Y→Value}{r:X ⊕ Y}{n:Nat}
 (hf:P.funcs[f]? = some fn) (hen :∀ar w,(callFunc f ar).run P w = .ok (.enter f ar) w) (hb:fn.body=some c) (hnt:fn.ntmps=n) (hn:Nat.ble args.length n=true)
 (h :∀w M,StX (feet A) w M M A w→Pre M→WC none P (bodyPost P fn (RetS A w M R pv r)) n [] c (envOf 0 args) w):CtS P f args A Pre R pv r:=by
 cases r with
 | inl x=>exact⟨hen,fun w M ha hp=>calls_of_WC hf hb hnt hn (h w M ha hp)⟩
 | inr m=>exact⟨hen,fun w M ha hp=>calls_of_WC hf hb hnt hn (h w M ha hp)⟩
section
variable {C : Nat → Prop} {r : Option Nat} {P : Program} {ops : Array Oper} {Q : Exit → Act → World → Prop} {n : Nat} {D : List Deferred} {rest : List Oper} {e : Env} {w0 w : World} {M0 M : Mem} {L L' A B : List Item} {v u : Value}
  {x y : Operand} {ty t t' : TypeId} {pos : String} {af : Array Edge} {g : Option (Nat × Bool)} {dst : Option Tmp}
theorem WR.callPan {f:FuncId}{ar:List Operand}{vs:List Value}{tys:Array TypeId}{Pre:Mem→Prop}(H:StX C w0 M0 M L w)(hs:CtPan P f vs A Pre v)(hspl:Spl L A B)(ha:evs e ar=some vs)(hp:Pre M)
 (hw:Wn ops n D e ⟨dst, .call ⟨.value (.func f),ar.toArray,tys⟩,ty,pos,af,g⟩)
 (k :∀M' w',StX C w0 M0 M' B w'→M.le M'→WQ Q (.panic (onePanic v)) n D e w'):WR r P ops Q n D (⟨dst, .call ⟨.value (.func f),ar.toArray,tys⟩,ty,pos,af,g⟩::rest) e w:=by
 intro a hsat;unfold wpListIn;rw[if_pos (hw a hsat)];refine⟨fun _ _=>trivial,?_⟩;rw[Oper.semAt_eq _ _ _ (fun c h=>by cases h)];have hv:ar.map a.eval=vs:=hsat.fits.evs ha;have hf:a.eval (.func f) = .func (.func f) #[] #[]:=rfl;have hrun:(execOp a.eval ⟨dst, .call ⟨.value (.func f),ar.toArray,tys⟩,ty,pos,af,g⟩).run P w = .ok (.enter f vs.toArray) w:=by
  simp only[execOp,resolve,hf,Deferred.ofValue,Sem.run_bind,Sem.run_pure,Result.andThen_ok,invoke,l0z,hv,Array.append_empty,Array.empty_append,hs.enters]
 rw[hrun,Oper.uponIn_enter];refine⟨fun h=>(by cases h),callsIn_Wd.2 ((hs.calls w M (H.hand hspl) hp).mono ?_)⟩;rintro en w' ⟨M',rfl,hx⟩;exact k M' w' (H.back hspl hx) hx.ext.le a hsat
abbrev _root_.q0I := @WR.callPan
theorem WR.panicI (hx:ev e x=some (.iface t v))(hw:Wn ops n D e ⟨dst, .panic x,ty,pos,af,g⟩)(k:WQ Q (.panic (onePanic (.iface t v))) n D e w):WR r P ops Q n D (⟨dst, .panic x,ty,pos,af,g⟩::rest) e w:=by
 intro a hsat;unfold wpListIn;rw[if_pos (hw a hsat)];refine⟨fun _ _=>trivial,?_⟩;rw[Oper.semAt_eq _ _ _ (fun c h=>by cases h)];have hrun:(execOp a.eval ⟨dst, .panic x,ty,pos,af,g⟩).run P w = .halt (.panic (.iface t v)) w:=by
  simp only[execOp,hsat.fits _ _ hx,Sem.run_bind,run_panic_iface];rfl
 rw[hrun,Oper.uponIn_panic];exact k a hsat
theorem WQ.pBody {fn:Func}{X Y:Type}{R:X→Value→Mem→List Item→Prop}{pv:Y→Value}{m:Y}(H:StX (feet A) w0 M0 M L w):WQ (bodyPost P fn (RetS A w0 M0 R pv (.inr m))) (.panic (onePanic (pv m))) n [] e w :=
 fun a ha=>⟨ha.defers,M,rfl,H.drop (l1b _)⟩
abbrev _root_.q0U := @WQ.pBody
theorem Ex.ifaceV (hn:P.concrete t=true)(hx:ev e x=some v):Ex P ⟨dst, .makeInterface t x,ty,pos,af,g⟩ e w (.iface t v) w :=
 ⟨nofun,fun ρ hf=>by simp [execOp,hf _ _ hx,run_makeInterface _ _ _ hn]⟩
theorem WR.callVX {f:FuncId}{ar:List Operand}{vs cap:List Value}{tys:Array TypeId}{Pre:Mem→Prop}{R:Value→Mem→List Item→Prop}(H:StX C w0 M0 M L w)(hs:CtX P f (vs++cap) A Pre R)(hspl:Spl L A B)(hx:ev e x=some (.func (.func f) #[] cap.toArray))(ha:evs e ar=some vs)(hp:Pre M)
 {d:Nat} (hw:Wn ops n D e ⟨some d, .call ⟨.value x,ar.toArray,tys⟩,ty,pos,af,g⟩) (hn:Nat.blt d n=true)
 (k :∀v M' w' its,StX C w0 M0 M' (its++B) w'→M.le M'→R v M' its→WR r P ops Q n D rest ((d,v)::e) w') :
 WR r P ops Q n D (⟨some d, .call ⟨.value x,ar.toArray,tys⟩,ty,pos,af,g⟩::rest) e w:=by
 intro a hsat;unfold wpListIn;rw[if_pos (hw a hsat)];refine⟨fun _ _=>trivial,?_⟩;rw[Oper.semAt_eq _ _ _ (fun c h=>by cases h)];have hv:ar.map a.eval=vs:=hsat.fits.evs ha;have hf:a.eval x = .func (.func f) #[] cap.toArray:=hsat.fits _ _ hx;have hrun:(execOp a.eval ⟨some d, .call ⟨.value x,ar.toArray,tys⟩,ty,pos,af,g⟩).run P w = .ok (.enter f (vs++cap).toArray) w:=by
  simp only[execOp,resolve,hf,Deferred.ofValue,Sem.run_bind,Sem.run_pure,Result.andThen_ok,invoke,l0z,hv,l2g,l07,hs.enters]
 rw[hrun,Oper.uponIn_enter];refine⟨fun h=>(by cases h),callsIn_Wd.2 ((hs.calls w M (H.hand hspl) hp).mono ?_)⟩;rintro en w' ⟨rv,M',its,rfl,hx,hR⟩;exact k rv M' w' its (H.back hspl hx) hx.ext.le hR _ (hsat.put (l0i hn) rv)
end
end Go.Ph
end
section
namespace Go.Ph.Pl
abbrev Elt : Type:=Option (UInt8 ⊕ (Ls × Bool))
def eltS (c:UInt8):Elt:=some (.inl c)
def eltW (p:Ls × Bool):Elt:=some (.inr p)
def isW : Elt→Bool
 | some (.inr _)=>true
 | _=>false
def getW : Elt→Ls × Bool
 | some (.inr p)=>p
 | _=>([],false)
def okW (a:Elt):Option ((Ls × Bool) × Bool):=some (getW a,isW a)
theorem okW_eq (a:Elt):okW a=some (getW a,isW a):=by unfold okW;rfl
end Go.Ph.Pl
namespace Go.Ph
open Go Go.RowKit Pl
def encA (ts tw:TypeId):Elt→Value
 | none => .nilIface
 | some (.inl c) => .iface ts (encB c)
 | some (.inr p) => .iface tw (.agg #[S p.1, .bool p.2])
section
variable {P : Program} {e : Env} {w : World} {v : Value} {x y : Operand} {ty t t' ts tw xt : TypeId} {pos : String} {af : Array Edge} {g : Option (Nat × Bool)} {dst : Option Tmp} {a : Elt} {c : UInt8} {ms : Array (String × TypeId)}
theorem Ex.anyS (hn:P.concrete ts=true)(hx:ev e x=some (encB c)):Ex P ⟨dst, .makeInterface ts x,ty,pos,af,g⟩ e w (encA ts tw (eltS c)) w:=Ex.ifaceV hn hx
theorem Ex.anyW {s:Ls}{b:Bool}(hn:P.concrete tw=true)(hx:ev e x=some (.agg #[S s, .bool b])):Ex P ⟨dst, .makeInterface tw x,ty,pos,af,g⟩ e w (encA ts tw (eltW (s,b))) w:=Ex.ifaceV hn hx
theorem Ex.neqAnyNil (hi:P.underlying t=some (.interface (P.methodsAt t)))(hx:ev e x=some (encA ts tw a)):Ex P ⟨dst, .binOp .neq t x (.const .nilIface) t',ty,pos,af,g⟩ e w (.bool (!decide (a=none))) w :=
 ⟨nofun,fun ρ hf=>by
  have h2:ρ (.const .nilIface) = .nilIface:=hf _ _ rfl;rcases a with _|c|p <;>
  simp [execOp,hf _ _ hx,h2,encA,eqGuard,run_neq_held_nil _ _ _ _ hi,run_neq_nil_nil _ _ hi]⟩
theorem run_eqAny {i:TypeInfo}(hi:P.underlying t=some (.interface ms))(hne:tw≠ts)(hinf:P.info? ts=some i)(hc:i.comparable=true)(hu:P.underlying ts=some (.int .u8))(w:World):
 (Op.equalIn 10000 t (encA ts tw a) (encA ts tw (eltS c))).run P w = .ok (decide (a=eltS c)) w:=by
 rw[show (10000:Nat)=9999+1 from rfl];rcases a with _|d|p
 · show(Op.equalIn (9999+1) t .nilIface (.iface ts (encB c))).run P w=_
   rw[Op.equalIn];simp [run_underlying hi,eltS]
 · show(Op.equalIn (9999+1) t (.iface ts (encB d)) (.iface ts (encB c))).run P w=_
   rw[Op.equalIn];have h2:(Op.equalIn 9999 ts (encB d) (encB c)).run P w = .ok (decide (d=c)) w:=by
    rw[show (9999:Nat)=9998+1 from rfl,Op.equalIn];have:((d.toNat:Int) ==(c.toNat:Int))=decide (d=c):=by rw[←decide_eq_decide.2 (u8_eq (c:=d) (d:=c))];rfl
    simp [run_underlying hu,this]
   simp [run_underlying hi,eltS,typeInfo,hinf,hc,h2]
 show(Op.equalIn (9999+1) t (.iface tw _) (.iface ts (encB c))).run P w=_
 rw[Op.equalIn];simp [run_underlying hi,eltS,hne]
theorem Ex.neqAnyS (hi:P.underlying t=some (.interface ms))(hne:tw≠ts)(hc:(P.info? ts).map (·.comparable)=some true)(hu:P.underlying ts=some (.int .u8))(hx:ev e x=some (encA ts tw a))(hy:ev e y=some (encA ts tw (eltS c))):
 Ex P ⟨dst, .binOp .neq t x y t',ty,pos,af,g⟩ e w (.bool (!decide (a=eltS c))) w :=
 ⟨nofun,fun ρ hf=>by
  obtain⟨i,hinf,hc'⟩:=Option.map_eq_some_iff.1 hc;have h2:eqGuard .neq t x y (encA ts tw a) (encA ts tw (eltS c))=pure ():=by rcases a with _|d|p <;> simp [eqGuard,encA,eltS]
  have h3:binOp .neq t (encA ts tw a) (encA ts tw (eltS c))=(fun b=>Value.bool !b) <$> Op.equalIn 10000 t (encA ts tw a) (encA ts tw (eltS c)):=by rcases a with _|d|p <;> rfl
  have h4:=run_eqAny (a:=a) (c:=c) hi hne hinf hc' hu w;simp [execOp,hf _ _ hx,hf _ _ hy,h2,h3,h4]⟩
theorem Ex.anyOk {fs:Array Field}(hu:P.underlying tw=some (.struct fs))(hz :∀w,(zeroValue tw).run P w = .ok (.agg #[S [], .bool false]) w)(hne:Nat.beq tw ts=false){p:Ls × Bool}{b:Bool}(ho:okW a=some (p,b))(hx:ev e x=some (encA ts tw a)):
 Ex P ⟨dst, .typeAssert x xt tw true,ty,pos,af,g⟩ e w (.tuple #[.agg #[S p.1, .bool p.2], .bool b]) w :=
 ⟨nofun,fun ρ hf=>by
  rw[okW_eq] at ho;cases ho;have hne' :¬ts=tw:=fun h=>by rw[h,Nat.beq_refl] at hne;cases hne
  rcases a with _|c|p
  · simp [execOp,hf _ _ hx,encA,Instr.typeAssert,run_underlying hu,hz,isW,getW]
  · simp [execOp,hf _ _ hx,encA,Instr.typeAssert,run_underlying hu,hz,isW,getW,hne']
  simp [execOp,hf _ _ hx,encA,Instr.typeAssert,run_underlying hu,hz,isW,getW]⟩
end
end Go.Ph
end
section
namespace Go.Ph
open Go Go.RowKit Pl
def dfrOf (f:FuncId)(cap:List Value):Deferred:={target := .fn (.func f) cap.toArray,args := #[]}
section
variable {C : Nat → Prop} {P : Program} {ops : Array Oper} {Q : Exit → Act → World → Prop} {n : Nat} {D : List Deferred} {rest : List Oper} {e : Env} {w0 w : World} {M0 M : Mem} {L L' : List Item} {v v1 v2 u z : Value}
  {x y : Operand} {ty t t' : TypeId} {pos : String} {af : Array Edge} {g : Option (Nat × Bool)} {fn : Func} {f : FuncId} {cap : List Value} {x1 x2 : ResultVar} {R : Value → Mem → Prop}
theorem WR.deferS (hx:ev e x=some (.func (.func f) #[] cap.toArray))(hw:Wn ops n D e ⟨none, .defer ⟨.value x,#[],#[]⟩,ty,pos,af,g⟩)
 (k:WR none P ops Q n (dfrOf f cap::D) rest e w):WR none P ops Q n D (⟨none, .defer ⟨.value x,#[],#[]⟩,ty,pos,af,g⟩::rest) e w:=by
 intro a hsat;unfold wpListIn;rw[if_pos (hw a hsat)];refine⟨fun _ _=>trivial,?_⟩;have hf:a.eval x = .func (.func f) #[] cap.toArray:=hsat.fits _ _ hx;have hrun:(Oper.semAt none a.eval ⟨none, .defer ⟨.value x,#[],#[]⟩,ty,pos,af,g⟩).run P w = .ok (.defer (dfrOf f cap)) w:=by
  rw[Oper.semAt_none];simp [execOp,resolve,hf,Deferred.ofValue,dfrOf]
 show Oper.uponIn (Wd none) 0 P _ a _ _ ((Oper.semAt none a.eval _).run P w)
 rw[hrun,Oper.uponIn_defer];exact k _ ⟨hsat.size,by simp [hsat.defers,Act.put],hsat.val⟩
theorem calls_of_WCD {c:Code}{args:List Value}{R:Ending→World→Prop}(hf:P.funcs[f]? = some fn)(hb:fn.body=some c)(hnt:fn.ntmps=n)(hn:Nat.ble args.length n=true)
 (h:WC none P (bodyPostDIn (Wd none) 0 P fn R) n [] c (envOf 0 args) w):Calls P f args.toArray w R:=by
 refine callsIn_Wd.1 (callsIn_of_wp_defers (F:=Wd none) (n:=0) hf hb trivial ?_);subst hnt;exact h _ (Sat.init (l0i hn))
theorem Ct.ofD {c:Code}{args:List Value}{Pre:Mem→Prop}(hf:P.funcs[f]? = some fn)(hen :∀ar w,(callFunc f ar).run P w = .ok (.enter f ar) w)(hb:fn.body=some c)(hnt:fn.ntmps=n)(hn:Nat.ble args.length n=true)
 (h :∀w M,St w M M [] w→Pre M→WC none P (bodyPostDIn (Wd none) 0 P fn (Ret w M R)) n [] c (envOf 0 args) w):Ct P f args Pre R :=
 ⟨hen,fun w M ha hp=>calls_of_WCD hf hb hnt hn (h w M (StX.start ha) hp)⟩
theorem WQ.dret2 (hr:fn.results = #[x1,x2])(h1:resv P w e x1 v1)(h2:resv P w e x2 v2)(H:Ext w0 M0 w M)(hR:R (.tuple #[v1,v2]) M):WQ (bodyPostDIn (Wd none) 0 P fn (Ret w0 M0 R)) .ret n [] e w:=fun a ha=>by
 show LeavesIn _ _ _ _ _ _ _ _ _
 rw[ha.defers];exact⟨_,resv_run2 hr h1 h2 a ha,_,M,G,H,hR⟩
theorem leaves_one {m:FrameMode}{tmps:Array Value}{K:Ending→World→Prop}(hen :∀ar w,(callFunc f ar).run P w = .ok (.enter f ar) w)(hm:m≠ .run)
 (hc:CallsDIn (Wd none) 0 P f cap.toArray m w fun e u' w'=>(∃v,e = .returned v)∧settle u' = .returning∧∃v,(results fn tmps).run P w' = .ok v w'∧K (.returned v) w') :
 LeavesIn (Wd none) 0 P fn tmps K [dfrOf f cap] m w:=by
 refine⟨hm,fun h=>(by cases h),_,_,f,cap.toArray,G,by simp [invoke,dfrOf,hen],fun _ _=>trivial,hc.mono ?_⟩;rintro e u' w' ⟨⟨v,rfl⟩,hs,hk⟩;show LeavesIn _ _ _ _ _ _ [] (settle u') w'
 rw[hs];exact hk
theorem WQ.dretD2 (hr:fn.results = #[x1,x2])(h1:resv P w e x1 v1)(h2:resv P w e x2 v2)(H:Ext w0 M0 w M)
 (hc :∀K:World→Prop,K w→(∀ar w,(callFunc f ar).run P w = .ok (.enter f ar) w)∧CallsDIn (Wd none) 0 P f cap.toArray .returning w fun e u' w'=>(∃v,e = .returned v)∧settle u' = .returning∧K w')
 (hR:R (.tuple #[v1,v2]) M):WQ (bodyPostDIn (Wd none) 0 P fn (Ret w0 M0 R)) .ret n [dfrOf f cap] e w:=fun a ha=>by
 show LeavesIn _ _ _ _ _ _ _ _ _
 rw[ha.defers];obtain⟨hen,hcl⟩:=hc (fun w' =>∃v,(results fn a.tmps).run P w' = .ok v w'∧Ret w0 M0 R (.returned v) w') ⟨_,resv_run2 hr h1 h2 a ha,_,M,rfl,H,hR⟩;exact leaves_one hen Sm hcl
def postD (P:Program)(fn:Func)(K:World→Prop):Exit→Act→World→Prop
 | .normal,a,w | .ret,a,w=>a.defers=[]∧∃v,(results fn a.tmps).run P w = .ok v w∧K w
 | _,_,_=>False
theorem WQ.postD0 {K:World→Prop}(hr:fn.results = #[])(k:K w):WQ (postD P fn K) .normal n [] e w:=fun a ha=>⟨ha.defers, .tuple #[],by simp [results,hr],k⟩
abbrev rcv (d:Nat)(ty:TypeId)(pos:String)(af:Array Edge):Oper:=⟨some d, .call ⟨.builtin .recover,#[],#[]⟩,ty,pos,af,none⟩
def rcvd : FrameMode→Option (Value × FrameMode)
 | .returning=>some (.nilIface, .returning)
 | .panicking [⟨v,false,false⟩]=>some (v, .panicking [⟨v,true,false⟩])
 | _=>none
theorem callsD_of {id d:Nat}{c:Code}{m m':FrameMode}{K:World→Prop}(hf:P.funcs[f]? = some fn)(hb:fn.body=some (.seq (.region id #[rcv d ty pos af] false) c))(hnt:fn.ntmps=n)(hn:Nat.ble cap.length n=true)(hd:Nat.blt d n=true)
 (hm:rcvd m=some (v,m')) (hs:settle m' = .returning) (k:WC none P (postD P fn K) n [] c ((d,v)::envOf 0 cap) w) :
 CallsDIn (Wd none) 0 P f cap.toArray m w fun e u' w'=>(∃v,e = .returned v)∧settle u' = .returning∧K w':=by
 refine callsDIn_of_wpSIn hf hb trivial fun c₀ cs hu=>wpSIn_seq (wpSIn_region ?_)
 have hsat:Sat n [] (envOf 0 cap) {tmps:=cap.toArray++Array.replicate (fn.ntmps-cap.toArray.size) undef,defers:=[]}:=by
  subst hnt;exact Sat.init (l0i hn)
 have hfin :∀cs1,cs1={c₀ with mode:=m'}::cs→Exit.thenS (c.wpSIn (Wd none) 0 P (bodyPostS P fn c₀ cs fun e u' w'=>(∃v,e = .returned v)∧settle u' = .returning∧K w')) (bodyPostS P fn c₀ cs fun e u' w'=>(∃v,e = .returned v)∧settle u' = .returning∧K w') .normal
  ({tmps:=cap.toArray++Array.replicate (fn.ntmps-cap.toArray.size) undef,defers:=[]:Act}.put (some d) v) cs1 w:=by
  rintro cs1 rfl;refine wpSIn_of_wpIn G (wpIn_mono (k _ (hsat.put (l0i hd) v)) ?_);intro e a w' hq;cases e with
  | normal=>obtain⟨h1,v',h2,h3⟩:=hq;exact ⟨h1,m',rfl,v',h2,⟨_,rfl⟩,hs,h3⟩
  | ret=>obtain⟨h1,v',h2,h3⟩:=hq;exact ⟨h1,m',rfl,v',h2,⟨_,rfl⟩,hs,h3⟩
  | exit id=>exact hq.elim
  | goto l=>exact hq.elim
  | panic ch=>exact hq.elim
  | outgrown=>exact hq.elim
 have hrec :∀a:Act,(execOp a.eval (rcv d ty pos af)).run P w = .ok .recover w:=fun a=>by simp [execOp,resolve,invoke,builtin]
 show wpOpsSIn (Wd none) 0 P #[rcv d ty pos af] _ [0] _ _ _
 simp only[wpOpsSIn,List.getElem?_toArray,List.getElem?_cons_zero,hrec];refine⟨fun _ _=>trivial,?_⟩;rw[if_pos Kf];subst hu;unfold rcvd at hm;split at hm
 · rename_i hmode;cases hm;have:recoverD (c₀::cs)=none:=by simp [recoverD,hmode]
   simp only[this];exact hfin _ (by rw[←hmode])
 · rename_i v0 hmode;cases hm;have:recoverD (c₀::cs)=some (v,{c₀ with mode := .panicking [⟨v,true,false⟩]}::cs):=by simp [recoverD,hmode]
   simp only[this];exact hfin _ G
 cases hm
theorem Ex.assertSame {fs:Array Field}{dst:Option Tmp}{xt:TypeId}(hu:P.underlying t=some (.struct fs))(hx:ev e x=some (.iface t v)):Ex P ⟨dst, .typeAssert x xt t true,ty,pos,af,g⟩ e w (.tuple #[v, .bool true]) w :=
 ⟨nofun,fun ρ hf=>by simp [execOp,hf _ _ hx,Instr.typeAssert,run_underlying hu]⟩
end
end Go.Ph
end
section
namespace Go.Ph
open Go Go.RowKit Pl
section
variable {C : Nat → Prop} {r : Option Nat} {P : Program} {ops : Array Oper} {Q : Exit → Act → World → Prop} {n : Nat} {D : List Deferred} {rest : List Oper} {e : Env} {w0 w : World} {M0 M : Mem} {L L' A B : List Item} {d : Nat} {v u : Value}
  {x y : Operand} {ty t t' : TypeId} {pos : String} {af : Array Edge} {g : Option (Nat × Bool)} {dst : Option Tmp} {α : Type} {enc : α → Value} {l : List α}
theorem StX.lend (H:StX C w0 M0 M L w)(hm:RowI t enc u l∈L):∃M1,M.le M1∧Ag M1 w∧Sl M1 enc u l∧∀{w':World} {M':Mem},Ext w M1 w' M'→∃M2,M.le M2∧M2.le M'∧StX C w0 M0 M2 L w':=by
 have hown:=H.rowOf hm;rcases hown.2 with ⟨hv,hn⟩|⟨g,cap,cur,hv,hgb,hg,hnc,hcm,hcs,htake⟩
 · have:l=[]:=l0a hn;subst this;subst hv;exact⟨M,Mem.le.refl M,H.ag,q2e M enc,fun {w' M'} hx=>⟨M',hx.le,Mem.le.refl _,H.call hx⟩⟩
 have hf:(RowI t enc u l).foot=some g:=by rw[hv];rfl
 have hMg:=((H.own _ hm).2 g hf).1;have hCg:=((H.own _ hm).2 g hf).2;have hle:M.le (M.set g (.cells cur t)):=fun b o hb=>by
  by_cases h:b=g
  · subst h;rw [hMg] at hb;cases hb
  simp [Mem.set,h,hb]
 have hag:Ag (M.set g (.cells cur t)) w:=fun b o hb=>by
  by_cases h:b=g
  · subst h;simp only[Mem.set,if_true] at hb;rw [←hb];exact hg
  simp only[Mem.set,h,if_false] at hb;exact H.ag b o hb
 refine⟨_,hle,hag,⟨some ⟨g,0,none⟩,cap,hv,hnc,⟨hcm,fun h=>by cases h⟩,fun _=>⟨g,0,cur,t,(0,0),G,by simp [Mem.set],fun i x hx=>?_⟩⟩,fun {w' M'} hx=>?_⟩
 · have hi:=(List.getElem?_eq_some_iff.1 hx).1;have h3:(cur.toList.take (l.length*1))[i]? = some (enc x):=by rw[htake,List.getElem?_map,hx];rfl
   rw[List.getElem?_take,if_pos Om] at h3;simpa using h3
 have hgw:g<w.heap.size:=(Array.getElem?_eq_some_iff.1 hg).1;refine⟨fun b=>if b=g then none else M' b,fun b o hb=>?_,fun b o hb=>?_,⟨⟨hx.below.os.trans H.ext.below.os,hx.below.tape.trans H.ext.below.tape,hx.below.output.trans H.ext.below.output,l0N H.ext.below.size hx.below.size,fun k hk hn=>?_⟩,fun b o hb=>?_,fun b o hb=>?_,fun b hb=>?_⟩,fun it hit=>?_,H.sep⟩
 · have hne:b≠g:=fun h=>by rw[h,hMg] at hb;cases hb
   simp only[hne,if_false];exact hx.le b o (hle b o hb)
 · by_cases h:b=g
   · simp [h] at hb
   simpa [h] using hb
 · exact(hx.below.block k (l1k hk H.base) (fun h=>h)).trans (H.ext.below.block k hk hn)
 · have hb':=H.ext.le b o hb;have hne:b≠g:=fun h=>by rw[h,hMg] at hb';cases hb'
   simp only[hne,if_false];exact hx.le b o (hle b o hb')
 · by_cases h:b=g
   · simp [h] at hb
   simp only[h,if_false] at hb;exact hx.ag b o hb
 · by_cases h:b=g
   · subst h;simp only[if_true];rw[←H.ext.old b hb,hMg]
   simp only[h,if_false];rw[hx.old b (l1k hb H.base)];simp only[Mem.set,h,if_false];exact H.ext.old b hb
 obtain⟨h1,h2⟩:=H.own it hit;refine⟨h1.kept (fun b hb=>hx.below.block b (h1.lt b hb) (fun h=>h)),fun b hb=>⟨?_,(h2 b hb).2⟩⟩;by_cases h:b=g
 · simp [h]
 simp only[h,if_false];rw[hx.old b (h1.lt b hb)];simp only[Mem.set,h,if_false];exact(h2 b hb).1
theorem WR.callLend {f:FuncId}{ar:List Operand}{vs:List Value}{tys:Array TypeId}{Pre:Mem→Prop}{R:Value→Mem→Prop}(H:StX C w0 M0 M L w)(hm:RowI t enc u l∈L)(hs:Ct P f vs Pre R)(hR :∀v M1 M2,R v M1→R v M2)(ha:evs e ar=some vs)(hp :∀M1,M.le M1→Sl M1 enc u l→Pre M1)
 (hw:Wn ops n D e ⟨some d, .call ⟨.value (.func f),ar.toArray,tys⟩,ty,pos,af,g⟩) (hn:Nat.blt d n=true)
 (k :∀v M' w',StX C w0 M0 M' L w'→M.le M'→R v M'→WR r P ops Q n D rest ((d,v)::e) w') :
 WR r P ops Q n D (⟨some d, .call ⟨.value (.func f),ar.toArray,tys⟩,ty,pos,af,g⟩::rest) e w:=by
 intro a hsat;unfold wpListIn;rw[if_pos (hw a hsat)];refine⟨fun _ _=>trivial,?_⟩;rw[Oper.semAt_eq _ _ _ (fun c h=>by cases h)];have hv:ar.map a.eval=vs:=hsat.fits.evs ha;have hf:a.eval (.func f) = .func (.func f) #[] #[]:=rfl;have hrun:(execOp a.eval ⟨some d, .call ⟨.value (.func f),ar.toArray,tys⟩,ty,pos,af,g⟩).run P w = .ok (.enter f vs.toArray) w:=by
  simp only[execOp,resolve,hf,Deferred.ofValue,Sem.run_bind,Sem.run_pure,Result.andThen_ok,invoke,l0z,hv,Array.append_empty,Array.empty_append,hs.enters]
 rw[hrun,Oper.uponIn_enter];obtain⟨M1,h1,h2,h3,h4⟩:=H.lend hm;refine⟨fun h=>(by cases h),callsIn_Wd.2 ((hs.calls w M1 h2 (hp M1 h1 h3)).mono ?_)⟩;rintro en w' ⟨rv,M',rfl,hx,hres⟩;obtain⟨M2,k1,k2,k3⟩:=h4 hx;exact k rv M2 w' k3 k1 (hR _ _ _ hres) _ (hsat.put (l0i hn) rv)
instance {F : Fence} {m:Nat} {fn:Func} {R:Ending→World→Prop}:RTo (bodyPostDIn F m P fn R) (bodyPostDIn F m P fn R):=⟨id⟩
end
end Go.Ph
end
section
namespace Go.Proofs.YtkmjdamkifbddaaGreatDoor
open Go Go.RowKit Go.Ph
open Go.Ph.Gr Go.Ph.Utf
theorem pieces_iter (bb:Nat)(l:Ls)(hs:l.length≤140737488355327):IterCt Tryz.prog 190 [ptr bb 0] [.blk bb (.cells #[S l] 9)] (fun M=>Tabs M) encS (pieces l):=by
 refine⟨enters Tryz.func190 Kr G,fun lid Z Zx hZ hY L0 w0 M0 hz H hp=>calls_of_WC Tryz.func190 G G G ?_⟩;generalize hC:feet ([.blk bb (.cells #[S l] 9)]++L0)=C at H ⊢;simp only[l04,l07] at H;refine BL (q1O (fun(t:Ls) (pre:List Ls) (Lc:List Ph.Item)=>[(0,yv lid),(1,ptr bb 0)]) (fun(t:Ls) (pre:List Ls) (Lc:List Ph.Item) w=>pieces l=pre++pieces t∧t.length≤l.length∧∃M,StX C w0 M0 M (.blk bb (.cells #[S t] 9)::Lc) w∧Tabs M∧Z pre Lc M) (fun(t:Ls) (pre:List Ls) (Lc:List Ph.Item)=>t.length) (l) ([]) (_) ⟨rfl,rfl,trivial⟩ (⟨rfl,l0e _,M0,H,hp,hz⟩) ?_);intro t pre Lc w;rintro⟨hpl,htl,M,H,htab,hzc⟩;refine SQ (SQ (RG ?_));first|refine q02 (q08 H rfl (by assumption) Ta9) (q00 rfl) rfl rfl ?_|refine q02 (XL H Ta9) (q00 rfl) rfl rfl ?_
 refine q0a (Ex.strNeq G G) (q00 G) G G (fun h0_1=>?_) (fun h0_1=>?_)
 · refine NL (TN (CT G (SK (TN (BL (SQ (RG ?_)))))));first|refine q02 (q08 H rfl (by assumption) Ta9) (q00 rfl) rfl rfl ?_|refine q02 (XL H Ta9) (q00 rfl) rfl rfl ?_
   refine q05 H (first_spec _ h0_1) G (by assumption) (q00 G) G ?_;intro v10 M w H hle hr10;replace htab:=htab.mono hle;replace hzc:=hZ _ _ _ _ hzc hle;obtain rfl:=hr10;refine q0j [_,_,_] H Tz208 G (q00 G) G ?_;intro b3 w H;refine q0c [_,_,_] H G G G Ku Ts208 G Kf Kf (q00 G) ?_;intro w H;refine NL (TN (SQ (RG (ST (q03 Tu208 G Ts3 Dc G) G ?_))));first|refine q02 (q08 H rfl (by assumption) Ta3) (q00 rfl) rfl rfl ?_|refine q02 (XL H Ta3) (q00 rfl) rfl rfl ?_
   refine AS G G (AS G G (NL (TN ?_)));refine WC.cut1 (fun(fl:Nat)=>[(0,yv lid),(1,ptr bb 0),(3,ptr b3 0),(4,encN (rune t).2),(5,encN fl)]) (fun(fl:Nat) w=>fl=flN (rune t).1 0∧∃M,StX C w0 M0 M (.blk b3 (.cells #[I (cls (rune t).1), .bool (decide ((rune t).1<0)),encN (rune t).2] 208) :: .blk bb (.cells #[S t] 9)::Lc) w∧Tabs M∧Z pre Lc M) ?_ ?_
   · refine SQ (RG (ST (q03 Tu208 G Ts3 Dc G) G ?_));first|refine q02 (q08 H rfl (by assumption) Ta3) (q00 rfl) rfl rfl ?_|refine q02 (XL H Ta3) (q00 rfl) rfl rfl ?_
     refine q0a (q0e G G) (q00 G) G G (fun h3_2=>?_) (fun h3_2=>?_)
     · refine NL (TN (CT G (RG (AS G G (NL (q2a (1) ⟨G,G,G,G,G,trivial⟩ ?_))))));refine⟨by rw[flN_eq,if_pos h3_2],M,H,htab,hzc⟩
     refine NL (TN (CF G (SK (q2a (0) ⟨G,G,G,G,G,trivial⟩ ?_))));refine⟨by rw[flN_eq,if_neg h3_2],M,H,htab,hzc⟩
   intro fl w;rintro⟨hfl,M,H,htab,hzc⟩;have hps:=pieces_start h0_1;have hrs:=rune_size t;have hrs3:=hrs.2.2 h0_1;have hn0:0<(rune t).2∧(rune t).2≤t.length∧fl≤(rune t).2:=⟨by omega,hrs3,by rw[hfl,flN_eq];split <;> omega⟩
   have hsg:=hps.1;rw[←hfl] at hsg;have hcu:=hps.2;refine WC.cut1 (fun(n:Nat)=>[(0,yv lid),(1,ptr bb 0),(4,encN n)]) (fun(n:Nat) w=>(0<n∧n≤t.length)∧pieces t=t.take n::pieces (t.drop n)∧∃M,StX C w0 M0 M (.blk bb (.cells #[S t] 9)::Lc) w∧Tabs M∧Z pre Lc M) ?_ ?_
   · refine BL (WC.loop5 (fun(n:Nat) (prev:Int) (sz:Nat) (fl:Nat) (cur:List Ch)=>[(0,yv lid),(1,ptr bb 0),(3,ptr b3 0),(4,encN n),(5,encN fl)]) (fun(n:Nat) (prev:Int) (sz:Nat) (fl:Nat) (cur:List Ch) w=>(0<n∧n≤t.length∧fl≤n)∧pieces t=(seg cur prev fl (chars (t.drop n))).map byts∧byts cur=t.take n∧∃M,StX C w0 M0 M (.blk b3 (.cells #[I (cls prev), .bool (decide (prev<0)),encN sz] 208) :: .blk bb (.cells #[S t] 9)::Lc) w∧Tabs M∧Z pre Lc M) (fun(n:Nat) (prev:Int) (sz:Nat) (fl:Nat) (cur:List Ch)=>t.length-n) (_) (_) (_) (_) (_) ⟨rfl,rfl,rfl,rfl,rfl,trivial⟩ (⟨hn0,hsg,hcu,M,H,htab,hzc⟩) ?_);intro n prev sz fl cur w;rintro⟨hn0,hsg,hcu,M,H,htab,hzc⟩;refine SQ (SQ (RG (MV G G ?_)));first|refine q02 (q08 H rfl (by assumption) Ta9) (q00 rfl) rfl rfl ?_|refine q02 (XL H Ta9) (q00 rfl) rfl rfl ?_
     refine ST (q0g Tu9 G) G ?_;refine q0a (q0n G G) (q00 G) G G (fun h5_3=>?_) (fun h5_3=>?_)
     · have hne:=drop_ne (t:=t) (n:=n) Om;have hrs:=rune_size (t.drop n);have hrs3:=hrs.2.2 hne;rw[l01] at hrs3;refine NL (TN (CT G (SK (TN (BL (SQ (RG ?_)))))));first|refine q02 (q08 H rfl (by assumption) Ta9) (q00 rfl) rfl rfl ?_|refine q02 (XL H Ta9) (q00 rfl) rfl rfl ?_
       refine MV G G (q09 (v':=S (t.drop n)) (q1h (i:=n) (j:=t.length) Tu9 G (.inl ⟨_,G,G⟩) (.inr ⟨G,G⟩) Om Om) (by rw[l0I]) (q00 G) G G ?_);refine q05 H (first_spec _ hne) G (by assumption) (q00 G) G ?_;intro v23 M w H hle hr23;replace htab:=htab.mono hle;replace hzc:=hZ _ _ _ _ hzc hle;obtain rfl:=hr23;refine q0j [_,_,_] H Tz208 G (q00 G) G ?_;intro b6 w H;refine q0c [_,_,_] H G G G Ku Ts208 G Kf Kf (q00 G) ?_;intro w H;refine NL (TN (SQ (SQ (RG ?_))));first|refine q02 (q0w H rfl Km Ta208 Ts208 Kf) (q00 rfl) rfl rfl ?_|refine q02 (q1i H rfl (by assumption) Ta208 Ts208 Kf) (q00 rfl) rfl rfl ?_
       first|refine q02 (q0w H rfl Km Ta208 Ts208 Kf) (q00 rfl) rfl rfl ?_|refine q02 (q1i H rfl (by assumption) Ta208 Ts208 Kf) (q00 rfl) rfl rfl ?_
       refine MV G G ?_;by_cases h7_3:con prev (rune (t.drop n)).1 fl=true
       · obtain⟨cur2,hsg2,hcu2⟩:=seg_next (t:=t) Om h7_3 hcu;refine q05 H (q0C (q0C (cont_spec _ _ _ _ _) (R':=fun r _=>r = .bool (decide (con prev (rune (t.drop n)).1 fl=true))) (fun _ _ h=>h.trans (congrArg Value.bool Sm))) (R':=fun r _=>r = .bool true) (fun _ _ h=>h.trans (congrArg Value.bool (decide_eq_true h7_3)))) G (trivial) (q00 G) G ?_;intro v27 M w H hle hr27;replace htab:=htab.mono hle;replace hzc:=hZ _ _ _ _ hzc hle;obtain rfl:=hr27;refine ST (q1t G) G (NL (TN (CF G (SK (TN (SQ (SQ (RG (MV G G (ST (q0f G G Om) G ?_))))))))));refine AS G G (NL (TN (SQ (RG (ST (q03 Tu208 G Ts3 Dc G) G ?_)))));first|refine q02 (q08 H rfl (by assumption) Ta3) (q00 rfl) rfl rfl ?_|refine q02 (XL H Ta3) (q00 rfl) rfl rfl ?_
         refine q0a (Ex.neq G G) (q00 G) G G (fun h9_2=>?_) (fun h9_2=>?_)
         · refine NL (TN (CT G (RG (AS G G (NL (TN (SQ (RG (MV G G (ST (q03 Tu208 G Ts3 Dc G) G ?_))))))))));first|refine q02 (q08 H rfl (by assumption) Ta3) (q00 rfl) rfl rfl ?_|refine q02 (XL H Ta3) (q00 rfl) rfl rfl ?_
           refine ST (q0f G G Om) G ?_;refine AS G G (NL (TN (RG ?_)));first|refine q02 (q0w H rfl Km Ta208 Ts208 Kf) (q00 rfl) rfl rfl ?_|refine q02 (q1i H rfl (by assumption) Ta208 Ts208 Kf) (q00 rfl) rfl rfl ?_
           refine q0c [_,_,_] H G G G Ku Ts208 G Kf Kf (q00 G) ?_;intro w H;refine NL (IB ?_);refine q1G (n+(rune (t.drop n)).2) ((rune (t.drop n)).1) ((rune (t.drop n)).2) (0) (cur2) ⟨G,G,G,G,G,trivial⟩ ?_ ?_
           · refine⟨by omega,?_,hcu2,M,H.drop (l0v _ _),htab,hzc⟩;rw[hsg,hsg2,flN_eq,if_neg Om]
           omega
         refine NL (TN (CF G (SK (TN (SQ (RG (MV G G (ST (q03 Tu208 G Ts3 Dc G) G ?_))))))));first|refine q02 (q08 H rfl (by assumption) Ta3) (q00 rfl) rfl rfl ?_|refine q02 (XL H Ta3) (q00 rfl) rfl rfl ?_
         refine ST (q0f G G Om) G ?_;refine AS G G (NL (TN (RG ?_)));first|refine q02 (q0w H rfl Km Ta208 Ts208 Kf) (q00 rfl) rfl rfl ?_|refine q02 (q1i H rfl (by assumption) Ta208 Ts208 Kf) (q00 rfl) rfl rfl ?_
         refine q0c [_,_,_] H G G G Ku Ts208 G Kf Kf (q00 G) ?_;intro w H;refine NL (IB ?_);refine q1G (n+(rune (t.drop n)).2) ((rune (t.drop n)).1) ((rune (t.drop n)).2) (fl+1) (cur2) ⟨G,G,G,G,G,trivial⟩ ?_ ?_
         · refine⟨by omega,?_,hcu2,M,H.drop (l0v _ _),htab,hzc⟩;rw[hsg,hsg2,flN_eq,if_pos Om]
         omega
       have h7c:con prev (rune (t.drop n)).1 fl=false:=by simpa using h7_3
       refine q05 H (q0C (q0C (cont_spec _ _ _ _ _) (R':=fun r _=>r = .bool (decide (con prev (rune (t.drop n)).1 fl=true))) (fun _ _ h=>h.trans (congrArg Value.bool Sm))) (R':=fun r _=>r = .bool false) (fun _ _ h=>h.trans (congrArg Value.bool (decide_eq_false h7_3)))) G (trivial) (q00 G) G ?_;intro v27 M w H hle hr27;replace htab:=htab.mono hle;replace hzc:=hZ _ _ _ _ hzc hle;obtain rfl:=hr27;refine ST (q1Y G) G (NL (TN (CT G (q0m (q06 (q2p G (q06 (q0d (q2a (n) ⟨G,G,G,trivial⟩ ?_)))))))));refine⟨⟨hn0.1,hn0.2.1⟩,hsg.trans ?_,M,H.drop ((l0v _ _).trans (l0v _ _)),htab,hzc⟩;exact seg_stop Om h7c hcu
     refine NL (TN (CF G (q0m (q06 (q06 (q0d (q2a (n) ⟨G,G,G,trivial⟩ ?_)))))));refine⟨⟨hn0.1,hn0.2.1⟩,hsg.trans ?_,M,H.drop (l0v _ _),htab,hzc⟩;exact seg_end Om hcu
   intro n w;rintro⟨hn0,hpt,M,H,htab,hzc⟩;refine SQ (SQ (RG (MV G G ?_)));first|refine q02 (q08 H rfl (by assumption) Ta9) (q00 rfl) rfl rfl ?_|refine q02 (XL H Ta9) (q00 rfl) rfl rfl ?_
   refine MV G G (q09 (v':=S (t.take n)) (q1h (i:=0) (j:=n) Tu9 G (.inr ⟨G,G⟩) (.inl ⟨_,G,G⟩) Om Om) G (q00 G) G G ?_);have hpre:(pre++[t.take n]) <+: pieces l:=pieces_ini hpl hpt;refine WR.yield (hY _ _ _ _ _ hpre hzc (H.hand (.right (q1S _)))) G G (q00 G) G ?_;rintro en w ⟨M,Lc,Hs,hcase⟩;replace H:=(H.back (.right (q1S _)) Hs).perm l2t;simp only[l04,l07] at H;replace htab:=htab.mono Hs.ext.le;rcases hcase with ⟨rfl,hzc⟩|⟨rfl,hzc⟩
   · refine⟨true,G,?_⟩;refine ST (q1t G) G (NL (TN (CF G (SK (TN (RG ?_))))));first|refine q02 (q08 H rfl (by assumption) Ta9) (q00 rfl) rfl rfl ?_|refine q02 (XL H Ta9) (q00 rfl) rfl rfl ?_
     refine MV G G (q09 (v':=S (t.drop n)) (q1h (i:=n) (j:=t.length) Tu9 G (.inl ⟨_,G,G⟩) (.inr ⟨G,G⟩) Om Om) (by rw[l0I]) (q00 G) G G ?_);refine q0c [_] H G G G Ku Ts9 G Kf Kf (q00 G) ?_;intro w H;refine NL (IB ?_);refine q0W (t.drop n) (pre++[t.take n]) (Lc) ⟨G,G,trivial⟩ ?_ ?_
     · refine⟨by rw[hpl,hpt];simp,by rw[l01];omega,M,?_,htab,hzc⟩;exact H
     rw[l01];omega
   refine⟨false,G,?_⟩;refine ST (q1Y G) G (NL (TN (CT G (RT ?_))));refine WQ.ret0X G ?_;subst hC;exact⟨_,M,Lc,G,H.drop (l0v _ _), .inr ⟨_,hpre,hzc⟩⟩
 refine NL (TN (CF G (q0m (q06 (q06 (q0d (WQ.end0X G ?_)))))));subst hC;obtain rfl:t=[]:=by simpa using h0_1
 rw[pieces_nil,l0g] at hpl;rw[←hpl] at hzc;exact⟨_,M,Lc,G,H.drop (l0v _ _), .inl hzc⟩
theorem pieces_spec (l:Ls):CtO Tryz.prog 169 [S l] (fun _=>True) (fun r _ its =>∃bb,r = .func (.func 190) #[] #[ptr bb 0]∧its=[.blk bb (.cells #[S l] 9)]):=by
 refine CtO.of Tryz.func169 (enters Tryz.func169 Kr G) G G G ?_;intro w0 M0 H hp;refine SQ (RG (q1z [_] H G G (q00 G) G ?_));intro b1 w H;refine AS G G (NL (TN (SQ (RG (ST (q1T G) G (AS G G (NL (TN (RT ?_)))))))));refine WQ.ret1O G G H (List.Sublist.refl _) ?_;exact⟨_,G,G⟩
end Go.Proofs.YtkmjdamkifbddaaGreatDoor
end
section
namespace Go.Proofs.YtkmjdamkifbddaaGreatDoor
open Go Go.RowKit Go.Ph
open Go.Ph.Gr Go.Ph.Utf
theorem split_spec (l:Ls)(hs:l.length≤1048576):Ct Tryz.prog 139 [S l] (fun M=>Tabs M) (fun r M=>Sl M encS r (pieces l)):=by
 refine Ct.ofM Tryz.func139 (enters Tryz.func139 Kr G) G G G ?_;intro w0 M0 H hp;refine SQ (RG (AS G G (NL (TN (SQ (RG (q0j [_] H Tz55 G (q00 G) G ?_)))))));intro b3 w H;refine NL (TN (SQ (SQ (RG (MV G G ?_)))));replace H:=H.newRow 9 encS;refine WR.callO H (pieces_spec _) G (trivial) (q00 G) G ?_;intro v6 M w its H hle hr6;replace hp:=hp.mono hle;obtain⟨bb,rfl,rfl⟩:=hr6;simp only[l04,l07] at H;refine NL (TN (BL ?_));refine WC.rangeFunc H rfl (pieces_iter bb l Om) (.left (.left (.left .nil))) (hp) rfl (fun pre Lc _ =>∃v,Lc=[RowI 9 encS v pre, .blk b3 (.cells #[v] 55)]) (fun _ _ _ _=>False) (fun _ _ _ _ h _=>h) (⟨_,rfl⟩) ?_ ?_ ?_
 · intro lid rc hrc pre x Lc w M hpre hz H;obtain⟨v,rfl⟩:=hz;have hple:=hpre.length_le;have hpl2:=pieces_len l;simp only[l00,l02,l03] at hple;refine RG (AS G G (NL (WQ.begin hrc H Ku ?_)));intro w H;refine BL (RG ?_);first|refine q02 (q08 H rfl (by assumption) Ta55) (q00 rfl) rfl rfl ?_|refine q02 (XL H Ta55) (q00 rfl) rfl rfl ?_
   refine MV G G (q0F (enc:=encS) ty55 [_] H G Kf (fun _=>G) G G (q00 G) G ?_);intro v10 M w H hle hl10;refine q0J ty55 (fun _=>G) H G (fun _=>by repeat first|exact .head|apply Upd.tail) G (by assumption) (by first|omega|(simp only[l00,l02,l03,l05,l01];omega)) (by first|(simp only[maxLen];omega)|(simp only[maxLen,l00,l02,l03,l05,l01];omega)) (q00 G) G ?_;intro v11 w H;refine q0Q [_] H G G (by first|exact q1u _ _ _|exact Sl.one (by assumption)|exact q1P H Km) Ku Kf Ts55 (by first|decide|(simp;done)|(simp;omega)) (q00 G) ?_;intro w H;refine NL (IB ?_);refine WQ.roundOn hrc H ⟨v11,G⟩
 · intro Dm w M Lc H hle hz;obtain⟨v,rfl⟩:=hz;simp only[l04,l07] at H;refine IB (TN (SQ (RG ?_)));first|refine q02 (q08 H rfl (by assumption) Ta55) (q00 rfl) rfl rfl ?_|refine q02 (XL H Ta55) (q00 rfl) rfl rfl ?_
   refine AS G G (NL (TN (RT ?_)));obtain⟨M,hle,hf,H⟩:=H.freezeRow (v:=v) (enc:=encS) (t:=9) Kv;refine WQ.retM1 H Kv ?_;intro w H;refine⟨_,resv_run1 G G,_,_,G,H.ext,?_⟩;exact hf
 intro Dm w M Lc c pre H hle hpre hz;exact hz.elim
end Go.Proofs.YtkmjdamkifbddaaGreatDoor
end
section
namespace Go.Proofs.YtkmjdamkifbddaaGreatDoor
open Go Go.RowKit Go.Ph
open Go.Ph.Gr Go.Ph.Utf
end Go.Proofs.YtkmjdamkifbddaaGreatDoor
end
section
namespace Go.Proofs.YtkmjdamkifbddaaGreatDoor
open Go Go.RowKit Go.Ph
open Go.Ph.Gr Go.Ph.Utf
end Go.Proofs.YtkmjdamkifbddaaGreatDoor
end
section
namespace Go.Ph.Gr
open Go Go.Ph.Utf
structure RP (l:Ls)(i q:Nat)(o:List Ls)(fl:Nat):Prop where
 place:q≤l.length
 rest:(chars l).drop i=chars (l.drop q)
 small:i≤q∧o.length≤i∧fl≤i
 len:o.flatten.length=q
 state:(i=0∧o=[])∨(0<i∧∃done cur prev,((chars l)[i-1]?).map (·.1)=some prev∧o=done.map byts++[byts cur]∧segs (chars l)=done++seg cur prev fl (chars (l.drop q)))
theorem RP.start (l:Ls):RP l 0 0 [] 0:=⟨l1a _,rfl,by simp,rfl, .inl ⟨rfl,rfl⟩⟩
section
variable {l : List UInt8} {i q fl : Nat} {o : List (List UInt8)}
theorem RP.more (h:RP l i q o fl)(hi:i<(chars l).length):q<l.length∧(chars l)[i]? = some ((rune (l.drop q)).1,(l.drop q).take (rune (l.drop q)).2)∧(chars l).drop (i+1)=chars (l.drop (q+(rune (l.drop q)).2)):=by
 have hq:q<l.length:=by
  rcases l0S q l.length with h1|h1
  · exact h1
  have h2:=h.rest;rw[l08 h1,chars_nil] at h2;have:=List.drop_eq_nil_iff.1 h2;omega
 have hc:=chars_cons (drop_ne hq);have h3:=h.rest;rw[hc,l09 hi] at h3;have h4:=List.cons.inj h3;refine⟨hq,by rw[List.getElem?_eq_getElem hi,h4.1],?_⟩;rw[h4.2,l0n]
theorem RP.news (h:RP l i q o fl)(hi:i<(chars l).length)(hc:i=0∨∃a,0<i∧((chars l)[i-1]?).map (·.1)=some a∧con a (rune (l.drop q)).1 fl=false):
 RP l (i+1) (q+(rune (l.drop q)).2) (o++[(l.drop q).take (rune (l.drop q)).2]) (flN (rune (l.drop q)).1 0):=by
 obtain⟨hq,hget,hdrop⟩:=h.more hi;have hrs:=rune_size (l.drop q);have hrs3:=hrs.2.2 (drop_ne hq);rw[l01] at hrs3;have hsm:=h.small;have hone:byts [((rune (l.drop q)).1,(l.drop q).take (rune (l.drop q)).2)]=(l.drop q).take (rune (l.drop q)).2:=by simp [byts]
 refine⟨by omega,hdrop,⟨by omega,by simp;omega,by unfold flN;split <;> omega⟩,by have hlen:=h.len;simp [l05,l01] at hlen ⊢;omega, .inr ⟨by omega,?_⟩⟩;rcases h.state with ⟨h0,ho⟩|⟨hp0,done,cur,prev,hp,ho,hs⟩
 · subst h0;refine⟨[],[((rune (l.drop q)).1,(l.drop q).take (rune (l.drop q)).2)],(rune (l.drop q)).1,by rw[l1f,hget];rfl,by rw[ho,hone];rfl,?_⟩;have h1:=h.rest;rw[l0l] at h1;rw[h1,chars_cons (drop_ne hq),segs,l0n];rfl
 rcases hc with h0|⟨a,_,ha,hcf⟩
 · omega
 rw[ha] at hp;obtain rfl:a=prev:=oI hp;refine⟨done++[cur],[((rune (l.drop q)).1,(l.drop q).take (rune (l.drop q)).2)],(rune (l.drop q)).1,by rw[l1f,hget];rfl,by rw[ho,hone];simp,?_⟩;rw[hs,chars_cons (drop_ne hq),seg];simp only[hcf,l0h,if_false,l0n,l0c,l04,l07]
end
end Go.Ph.Gr
end
section
namespace Go.Proofs.YtkmjdamkifbddaaGreatDoor
open Go Go.RowKit Go.Ph
open Go.Ph.Gr Go.Ph.Utf
end Go.Proofs.YtkmjdamkifbddaaGreatDoor
end
section
namespace Go.Proofs.YtkmjdamkifbddaaGreatDoor
open Go Go.RowKit Go.Ph
open Go.Ph.Gr Go.Ph.Utf Go.Ph.Chs
theorem low_at {l:Ls}{k:Nat}{u:UInt8}(h:l[k]? = some u):(lower (l.take k)++l.drop k)[k]? = some u:=by
 have hk:=(List.getElem?_eq_some_iff.1 h).1;rw[List.getElem?_append_right (by rw[lower_len,l05];omega),lower_len,l05,show k-min k l.length=0 by omega,List.getElem?_drop,l1i];exact h
theorem low_next {l:Ls}{k:Nat}{u:UInt8}(h:l[k]? = some u):lower (l.take (k+1))++l.drop (k+1)=lower (l.take k)++lowB u::l.drop (k+1):=by
 obtain⟨hk,hu⟩:=List.getElem?_eq_some_iff.1 h;rw[l0m hk,hu];simp [lower]
theorem low_step {l:Ls}{k:Nat}{u:UInt8}(h:l[k]? = some u):(lower (l.take k)++l.drop k).set k (lowB u)=lower (l.take (k+1))++l.drop (k+1):=by
 obtain⟨hk,hu⟩:=List.getElem?_eq_some_iff.1 h;have hl:(lower (l.take k)).length=k:=by rw[lower_len,l05];omega
 rw[low_next h,l2c _ _ Om,hl,Nat.sub_self,l09 hk];rfl
theorem low_keep {l:Ls}{k:Nat}{u:UInt8}(h:l[k]? = some u)(hn :¬(65≤u.toNat∧u.toNat≤90)):lower (l.take k)++l.drop k=lower (l.take (k+1))++l.drop (k+1):=by
 obtain⟨hk,hu⟩:=List.getElem?_eq_some_iff.1 h;rw[low_next h,l09 hk,hu,lowB,if_neg hn]
theorem lowB_enc {u:UInt8}(h:65≤u.toNat∧u.toNat≤90):encB (lowB u) = .int .u8 ((u.toNat:Int)+32):=by
 unfold lowB;rw [if_pos h];have h1:(u+32).toNat=u.toNat+32:=by rw[UInt8.toNat_add];show (u.toNat+32) % 256=_;omega
 show Value.int .u8 (((u+32).toNat:Nat):Int)=_
 rw[h1];rfl
theorem lower_spec (l:Ls)(hs:l.length≤maxLen):Ct Tryz.prog 55 [S l] (fun _=>True) (fun r _=>r=S (lower l)):=by
 refine Ct.of Tryz.func55 (enters Tryz.func55 Kr G) G G G ?_;intro w0 M0 H hp;simp only[maxLen] at hs;refine SQ (RG (AS G G (NL (TN (SQ (RG (MV G G (WR.toBytes H Tu9 Tu88 Tu5 G (by simp only[maxLen];omega) (q00 G) G ?_))))))));intro g7 c7 w hc7 hm7 H;refine AS G G (NL (TN (SQ (SQ (RG (MV G G ?_))))));first|refine q02 (q0D Tu88 (by assumption) rfl) (q00 rfl) rfl rfl ?_|refine q02 (q0M Tu88 H Km rfl) (q00 rfl) rfl rfl ?_|refine q02 (q0G Tu88 rfl) (q00 rfl) rfl rfl ?_
 refine MV rfl rfl (NL (TN (BL (q1I (fun(k:Nat) (m:Ls)=>[(3, .slice (some ⟨g7,0,none⟩) l.length c7),(8, .slice (some ⟨g7,0,none⟩) l.length c7),(9,I (l.length:Int)),(10,encN k)]) (fun(k:Nat) (m:Ls) w=>k≤l.length∧m.length=l.length∧m=lower (l.take k)++l.drop k∧∃M,St w0 M0 M [SRow g7 c7 5 m] w) (fun(k:Nat) (m:Ls)=>l.length-k) (0) (l) ⟨rfl,rfl,rfl,rfl,trivial⟩ (⟨by omega,rfl,by simp [lower],M0,H⟩) ?_))));intro k m w;rintro⟨hk,hml,hm,M,H⟩;refine SQ (RG ?_);refine q0a (q0n G G) (q00 G) G G (fun h3_0=>?_) (fun h3_0=>?_)
 · obtain⟨u,hlu⟩ :∃u,l[k]? = some u:=⟨_,List.getElem?_eq_getElem Om⟩
   have hcu:m[k]? = some u:=by rw[hm];exact low_at hlu
   have hult:=u.toNat_lt;refine NL (TN (SQ (CT G (SK (TN (SQ (BL (SQ (RG (MV G G (ST (Ex.idxS Tu88 Ts5 G G Om) G ?_)))))))))));refine ST (Ex.loadS H G Km hcu Ta5) G ?_;refine AS G G (AS G G (NL (TN (SQ (RG (MV G G ?_))))));refine q0a (q1a G G) (q00 G) G G (fun h5_1=>?_) (fun h5_1=>?_)
   · refine MV G G (SG (q01 G) G G G ?_);refine q0a (q1C G G) (q04 G G G) G G (fun h5_4=>?_) (fun h5_4=>?_)
     · refine PT G G G (NL (TN (CT G (RG (MV G G (MV G G (MV G G (ST (Ex.addW G G (u8_in Om)) G ?_))))))));refine q09 (v':=encB (lowB u)) (Ex.subW G G (u8_in Om)) (by rw[lowB_enc Om];exact congrArg (Value.int .u8) Om) (q00 G) G G ?_;refine ST (Ex.idxS Tu88 Ts5 G G Om) G ?_;refine WR.storeS (c:=lowB u) H G G Ku Om Om Ts5 (q00 G) ?_;intro w H;refine NL (IB (TN (RG (ST (q0f G G Om) G ?_))));refine MV G G (NL ?_);refine q0S (k+1) (m.set k (lowB u)) ⟨G,G,G,G,trivial⟩ ?_ ?_
       · refine⟨by omega,by rw[l1s];exact hml,?_,M,H⟩;rw[hm];exact low_step hlu
       omega
     refine PT G G G (NL (TN (CF G (SK (IB (TN (RG (ST (q0f G G Om) G ?_))))))));refine MV G G (NL ?_);refine q0S (k+1) (m) ⟨G,G,G,G,trivial⟩ ?_ ?_
     · refine⟨by omega,hml,?_,M,H⟩;rw[hm];exact low_keep hlu Om
     omega
   refine MV G G (GF G G G (GF G G G (PF G G G (NL (TN (CF G (SK (IB (TN (RG (ST (q0f G G Om) G ?_)))))))))));refine MV G G (NL ?_);refine q0S (k+1) (m) ⟨G,G,G,G,trivial⟩ ?_ ?_
   · refine⟨by omega,hml,?_,M,H⟩;rw[hm];exact low_keep hlu Om
   omega
 refine NL (TN (SQ (CF G (q0m (q06 (q06 (q0d (TN (SQ (RG (MV G G (ST (Ex.toStrS Tu88 Tu5 Tu9 H Km hml.symm G) G ?_))))))))))));refine AS G G (NL (TN (RT ?_)));refine q07 G G H.ext ?_;exact by rw[hm,l0q Om,l08 Om,l0g]
theorem lower_ne {a b:Ls}(h:a.length≠b.length):¬lower a=lower b:=fun e=>h (by rw[←lower_len a,e,lower_len])
def same (name x:Ls):Bool:=decide (lower x=lower name)
theorem setOf_from {name x:Ls}{k:Nat}(h:setOf name=((setN.drop k).findIdx? (same name)).map (· + k))(hx:setN[k]? = some x):
 (lower x=lower name→setOf name=some k)∧(¬lower x=lower name→setOf name=((setN.drop (k+1)).findIdx? (same name)).map (· +(k+1))):=by
 obtain⟨hk,he⟩:=List.getElem?_eq_some_iff.1 hx;rw[l09 hk,he,List.findIdx?_cons] at h;constructor
 · intro hl;rw[h,same,decide_eq_true hl];simp
 intro hl;rw[h,same,decide_eq_false hl];simp only[l0h,if_false,Option.map_map];congr 1
 funext i
 simp only[Function.comp];omega
theorem same_spec (a b:Ls)(ha:a.length≤maxLen)(hb:b.length≤maxLen):Ct Tryz.prog 199 [S a,S b] (fun _=>True) (fun r _=>r = .bool (decide (lower a=lower b))):=by
 refine Ct.of Tryz.func199 (enters Tryz.func199 Kr G) G G G ?_;intro w0 M0 H hp;refine SQ (RG (AS G G (NL (TN (SQ (RG (MV G G (ST (q0g Tu9 G) G (MV G G (ST (q0g Tu9 G) G ?_))))))))));refine q0a (q0e G G) (q00 G) G G (fun h1_4=>?_) (fun h1_4=>?_)
 · refine MV G G (SG (q01 G) G G G (q05 H (lower_spec _ ha) G (trivial) (q04 G G G) G ?_));intro v12 M w H hle hr12;obtain rfl:=hr12;refine SG (q01 G) G G G (q05 H (lower_spec _ hb) G (trivial) (q04 G G G) G ?_);intro v14 M w H hle hr14;obtain rfl:=hr14;refine SG (q0z G G) G G G (PT G G G (AS G G (NL (TN (RT ?_)))));refine q07 G G H.ext ?_;exact G
 refine MV G G (GF G G G (GF G G G (GF G G G (GF G G G (GF G G G (PF G G G (AS G G (NL (TN (RT ?_))))))))));refine q07 G G H.ext ?_;exact(congrArg Value.bool (decide_eq_false (lower_ne Om)).symm)
end Go.Proofs.YtkmjdamkifbddaaGreatDoor
end
section
namespace Go.Ph
open Go Go.RowKit
section
variable {P : Program} {e : Env} {w : World} {x : Operand} {v : Value} {dst : Option Tmp} {ty t : TypeId} {pos : String} {af : Array Edge} {g : Option (Nat × Bool)}
theorem Ex.loadCell {p:Addr}(hx:ev e x=some (.pointer (some p)))(hc:w.cell? p=some v)(ha :∀w,(isAgg t).run P w = .ok false w):Ex P ⟨dst, .load t x,ty,pos,af,g⟩ e w v w:=Ex.loadK hx (by
 simp only[loadVar,Sem.run_bind,ha,Result.andThen_ok,l0h,if_false];simp [load,Sem.run,hc])
theorem Ex.loadAggW {b o s:Nat}{cs:List Value}(hx:ev e x=some (ptr b o))(hc :∀j u,cs[j]? = some u→w.cell? ⟨b,o+j,none⟩=some u)(ha :∀w,(isAgg t).run P w = .ok true w)(hs :∀w,(sizeOf t).run P w = .ok s w)(hl:cs.length=s):Ex P ⟨dst, .load t x,ty,pos,af,g⟩ e w (.agg cs.toArray) w:=Ex.loadK hx (by
 subst hl;have hlc:(loadCells ⟨b,o,none⟩ cs.length).run P w = .ok cs.toArray w :=
  run_loadCells_list (P:=P) w ⟨b,o,none⟩ cs (fun j v hv=>by rw[Addr.add_lit];exact hc j v hv)
 simp only[loadVar,Sem.run_bind,ha,Result.andThen_ok,if_true,hs,hlc,Sem.run_pure])
end
end Go.Ph
namespace Go.Ph.Chs
open Go Go.Ph.Utf Go.Ph.Gr
theorem and64 {m s:Nat}(hm:m<2 ^ 64):IntKind.u64.wrap ((m &&& s:Nat):Int)=((m &&& s:Nat):Int):=by
 have h:m &&& s≤m:=Nat.and_le_left;exact u64_in Om
theorem or64 {m s:Nat}(hm:m<2 ^ 64)(hs:s<2 ^ 64):IntKind.u64.wrap ((m ||| s:Nat):Int)=((m ||| s:Nat):Int):=by
 have h:=l0r hm hs;exact u64_in Om
theorem shl64 {b k:Nat}(hb:b<256)(hk:k≤56):b <<< k<2 ^ 64∧IntKind.u64.wrap ((b*2 ^ k:Nat):Int)=((b <<< k:Nat):Int):=by
 have h2:2 ^ k≤2 ^ 56:=l1e Dc hk;have h3:b*2 ^ k<2 ^ 64:=Nat.lt_of_le_of_lt (Nat.mul_le_mul (show b≤255 by omega) h2) Dc;rw[Nat.shiftLeft_eq];exact⟨h3,u64_in Om⟩
def FF (c:Nat):Prop :=∃sz ai lo hi,Lib.firstT c<256∧Lib.firstT c &&& 7=sz∧Lib.firstT c / 2 ^ 4=ai∧ai<16∧Lib.accLo ai=lo∧Lib.accHi ai=hi∧lo<256∧hi<256∧(sz=1∨sz=2∨sz=3∨sz=4)∧
 (sz=1→¬(194≤c∧c≤244))∧(sz=2→194≤c∧c≤223∧lo=128∧hi=191)∧(sz=3→224≤c∧c≤239∧lo=(if c=224 then 160 else 128)∧hi=(if c=237 then 159 else 191))∧(sz=4→240≤c∧c≤244∧lo=(if c=240 then 144 else 128)∧hi=(if c=244 then 143 else 191))
theorem first_facts (c:Nat)(h:128≤c)(h2:c<256):FF c:=by
 have key :∀F sz ai lo hi:Nat,Lib.firstT c=F→F<256→F &&& 7=sz→F / 2 ^ 4=ai→ai<16→Lib.accLo ai=lo→Lib.accHi ai=hi→lo<256→hi<256→(sz=1∨sz=2∨sz=3∨sz=4)→
  (sz=1→¬(194≤c∧c≤244))→(sz=2→194≤c∧c≤223∧lo=128∧hi=191)→(sz=3→224≤c∧c≤239∧lo=(if c=224 then 160 else 128)∧hi=(if c=237 then 159 else 191))→(sz=4→240≤c∧c≤244∧lo=(if c=240 then 144 else 128)∧hi=(if c=244 then 143 else 191))→FF c :=
  fun F sz ai lo hi e1 e2 e3 e4 e5 e6 e7 e8 e9 ea eb ec ed ee=>⟨sz,ai,lo,hi,by rw[e1];exact e2,by rw[e1];exact e3,by rw[e1];exact e4,e5,e6,e7,e8,e9,ea,eb,ec,ed,ee⟩
 have hF:Lib.firstT c=if c<194 then 241 else if c<224 then 2 else if c=224 then 19 else if c<237 then 3 else if c=237 then 35 else if c<240 then 3 else if c=240 then 52 else if c<244 then 4 else if c=244 then 68 else 241:=by
  unfold Lib.firstT;rw [if_neg Om]
 by_cases c1:c<194
 · exact key 241 1 15 0 0 (by rw[hF,if_pos c1]) Dc Dc Dc Dc Dc Dc Dc Dc Dc (fun _=>by omega) (fun h=>by omega) (fun h=>by omega) (fun h=>by omega)
 by_cases c2:c<224
 · exact key 2 2 0 128 191 (by rw[hF,if_neg c1,if_pos c2]) Dc Dc Dc Dc Dc Dc Dc Dc Dc (fun h=>by omega) (fun h=>⟨by omega,by omega,G,G⟩) (fun h=>by omega) (fun h=>by omega)
 by_cases c3:c=224
 · exact key 19 3 1 160 191 (by rw[hF,if_neg c1,if_neg c2,if_pos c3]) Dc Dc Dc Dc Dc Dc Dc Dc Dc (fun h=>by omega) (fun h=>by omega) (fun h=>⟨by omega,by omega,by rw[if_pos c3],by rw[if_neg Om]⟩) (fun h=>by omega)
 by_cases c4:c<237
 · exact key 3 3 0 128 191 (by rw[hF,if_neg c1,if_neg c2,if_neg c3,if_pos c4]) Dc Dc Dc Dc Dc Dc Dc Dc Dc (fun h=>by omega) (fun h=>by omega) (fun h=>⟨by omega,by omega,by rw[if_neg c3],by rw[if_neg Om]⟩) (fun h=>by omega)
 by_cases c5:c=237
 · exact key 35 3 2 128 159 (by rw[hF,if_neg c1,if_neg c2,if_neg c3,if_neg c4,if_pos c5]) Dc Dc Dc Dc Dc Dc Dc Dc Dc (fun h=>by omega) (fun h=>by omega) (fun h=>⟨by omega,by omega,by rw[if_neg c3],by rw[if_pos c5]⟩) (fun h=>by omega)
 by_cases c6:c<240
 · exact key 3 3 0 128 191 (by rw[hF,if_neg c1,if_neg c2,if_neg c3,if_neg c4,if_neg c5,if_pos c6]) Dc Dc Dc Dc Dc Dc Dc Dc Dc (fun h=>by omega) (fun h=>by omega) (fun h=>⟨by omega,by omega,by rw[if_neg c3],by rw[if_neg c5]⟩) (fun h=>by omega)
 by_cases c7:c=240
 · exact key 52 4 3 144 191 (by rw[hF,if_neg c1,if_neg c2,if_neg c3,if_neg c4,if_neg c5,if_neg c6,if_pos c7]) Dc Dc Dc Dc Dc Dc Dc Dc Dc (fun h=>by omega) (fun h=>by omega) (fun h=>by omega) (fun h=>⟨by omega,by omega,by rw[if_pos c7],by rw[if_neg Om]⟩)
 by_cases c8:c<244
 · exact key 4 4 0 128 191 (by rw[hF,if_neg c1,if_neg c2,if_neg c3,if_neg c4,if_neg c5,if_neg c6,if_neg c7,if_pos c8]) Dc Dc Dc Dc Dc Dc Dc Dc Dc (fun h=>by omega) (fun h=>by omega) (fun h=>by omega) (fun h=>⟨by omega,by omega,by rw[if_neg c7],by rw[if_neg Om]⟩)
 by_cases c9:c=244
 · exact key 68 4 4 128 143 (by rw[hF,if_neg c1,if_neg c2,if_neg c3,if_neg c4,if_neg c5,if_neg c6,if_neg c7,if_neg c8,if_pos c9]) Dc Dc Dc Dc Dc Dc Dc Dc Dc (fun h=>by omega) (fun h=>by omega) (fun h=>by omega) (fun h=>⟨by omega,by omega,by rw[if_neg c7],by rw[if_pos c9]⟩)
 exact key 241 1 15 0 0 (by rw[hF,if_neg c1,if_neg c2,if_neg c3,if_neg c4,if_neg c5,if_neg c6,if_neg c7,if_neg c8,if_neg c9]) Dc Dc Dc Dc Dc Dc Dc Dc Dc (fun _=>by omega) (fun h=>by omega) (fun h=>by omega) (fun h=>by omega)
theorem runeN_else {m b0 b1 b2 b3:Nat}(h:128≤b0)(h1 :¬(192≤b0∧b0≤247)):runeN m b0 b1 b2 b3=(-1,1):=by
 unfold runeN;rw[if_neg Om,if_neg Om,if_neg Om,if_neg Om]
theorem multi1 {t:Ls}(h:128≤nat t 0)(h1 :¬(194≤nat t 0∧nat t 0≤244)):(rune t).1<0:=by
 rw[rune_eq];have n1:=nat_lt t 1;by_cases k0:192≤nat t 0∧nat t 0≤247
 · unfold runeN;rw[if_neg Om];by_cases k1:nat t 0≤223
   · rw[if_pos Om];split
     · rename_i hc;have ho:=hc.2;unfold okC at ho;rw[chk,if_pos (by unfold badN;omega)];decide
     decide
   rw[if_neg Om,if_neg Om,if_pos Om];split
   · rename_i hc;obtain⟨_,o1,o2,o3⟩:=hc;unfold okC at o1 o2 o3;rw[chk,if_pos (by unfold badN;omega)];decide
   decide
 rw[runeN_else h k0];decide
theorem multi2 {t:Ls}(h:194≤nat t 0∧nat t 0≤223):(2≤t.length∧128≤nat t 1∧nat t 1≤191→0≤(rune t).1∧(rune t).2=2)∧(¬(2≤t.length∧128≤nat t 1∧nat t 1≤191)→(rune t).1<0):=by
 rw[rune_eq];unfold runeN;rw[if_neg Om,if_pos Om];constructor
 · intro hc;rw[if_pos ⟨hc.1,by unfold okC;omega⟩,chk,if_neg (by unfold badN;omega)];exact⟨by simp only[];omega,G⟩
 intro hc;rw[if_neg (by unfold okC;omega)];decide
theorem multi3 {t:Ls}{lo hi:Nat}(h:224≤nat t 0∧nat t 0≤239)(hlo:lo=if nat t 0=224 then 160 else 128)(hhi:hi=if nat t 0=237 then 159 else 191):
 (3≤t.length∧lo≤nat t 1∧nat t 1≤hi∧128≤nat t 2∧nat t 2≤191→0≤(rune t).1∧(rune t).2=3)∧(¬(3≤t.length∧lo≤nat t 1∧nat t 1≤hi∧128≤nat t 2∧nat t 2≤191)→(rune t).1<0):=by
 rw[rune_eq];unfold runeN;rw[if_neg Om,if_neg Om,if_pos Om];have hl:lo=160∧nat t 0=224∨lo=128∧nat t 0≠224:=by split at hlo <;> omega
 have hh:hi=159∧nat t 0=237∨hi=191∧nat t 0≠237:=by split at hhi <;> omega
 constructor
 · intro hc;rw[if_pos ⟨hc.1,by unfold okC;omega,by unfold okC;omega⟩,chk,if_neg (by unfold badN;omega)];exact⟨by simp only[];omega,G⟩
 intro hc;split
 · rename_i hd;obtain⟨d0,d1,d2⟩:=hd;unfold okC at d1 d2;rw[chk,if_pos (by unfold badN;omega)];decide
 decide
theorem multi4 {t:Ls}{lo hi:Nat}(h:240≤nat t 0∧nat t 0≤244)(hlo:lo=if nat t 0=240 then 144 else 128)(hhi:hi=if nat t 0=244 then 143 else 191):
 (4≤t.length∧lo≤nat t 1∧nat t 1≤hi∧(128≤nat t 2∧nat t 2≤191)∧(128≤nat t 3∧nat t 3≤191)→0≤(rune t).1∧(rune t).2=4)∧(¬(4≤t.length∧lo≤nat t 1∧nat t 1≤hi∧(128≤nat t 2∧nat t 2≤191)∧(128≤nat t 3∧nat t 3≤191))→(rune t).1<0):=by
 rw[rune_eq];unfold runeN;rw[if_neg Om,if_neg Om,if_neg Om,if_pos Om];have hl:lo=144∧nat t 0=240∨lo=128∧nat t 0≠240:=by split at hlo <;> omega
 have hh:hi=143∧nat t 0=244∨hi=191∧nat t 0≠244:=by split at hhi <;> omega
 constructor
 · intro hc;rw[if_pos ⟨hc.1,by unfold okC;omega,by unfold okC;omega,by unfold okC;omega⟩,chk,if_neg (by unfold badN;omega)];exact⟨by simp only[];omega,G⟩
 intro hc;split
 · rename_i hd;obtain⟨d0,d1,d2,d3⟩:=hd;unfold okC at d1 d2 d3;rw[chk,if_pos (by unfold badN;omega)];decide
 decide
theorem vld_32 {x:Ls}(hx:32≤x.length)(h1 :∀i,i<8→nat x i<128)(h2 :∀i,i<8→nat (x.drop 8) i<128)(h3 :∀i,i<8→nat (x.drop 16) i<128)(h4 :∀i,i<8→nat (x.drop 24) i<128):vld x=vld (x.drop 32):=by
 have e1:=vld_asciis 8 x Om h1;have e2:=vld_asciis 8 (x.drop 8) (by rw[l01];omega) h2;have e3:=vld_asciis 8 (x.drop 16) (by rw[l01];omega) h3;have e4:=vld_asciis 8 (x.drop 24) (by rw[l01];omega) h4;rw[l0n] at e2 e3 e4;exact(e1.trans e2).trans (e3.trans e4)
theorem vld_bad {t:Ls}(hne:t≠ [])(h:(rune t).1<0):vld t=false:=by rw[vld_cons hne,decide_eq_false Om,Bool.false_and]
theorem vld_good {t:Ls}{k:Nat}(hne:t≠ [])(h:0≤(rune t).1∧(rune t).2=k):vld t=vld (t.drop k):=by rw[vld_cons hne,decide_eq_true h.1,l1S,h.2]
end Go.Ph.Chs
end
section
namespace Go.Proofs.YtkmjdamkifbddaaGreatDoor
open Go Go.RowKit Go.Ph
open Go.Ph.Gr Go.Ph.Utf Go.Ph.Chs
theorem word_spec (l:Ls)(hl:8≤l.length):Ct Tryz.prog 104 [S l] (fun _=>True) (fun r _=>r = .int .u64 ((w8 l:Nat):Int)):=by
 refine Ct.of Tryz.func104 (enters Tryz.func104 Kr G) G G G ?_;intro w0 M0 H hp;obtain⟨b0,hb0⟩ :∃u,l[0]? = some u:=⟨_,List.getElem?_eq_getElem Om⟩
 have hlt0:=b0.toNat_lt;have hn0:=nat_of hb0;obtain⟨b1,hb1⟩ :∃u,l[1]? = some u:=⟨_,List.getElem?_eq_getElem Om⟩
 have hlt1:=b1.toNat_lt;have hn1:=nat_of hb1;obtain⟨b2,hb2⟩ :∃u,l[2]? = some u:=⟨_,List.getElem?_eq_getElem Om⟩
 have hlt2:=b2.toNat_lt;have hn2:=nat_of hb2;obtain⟨b3,hb3⟩ :∃u,l[3]? = some u:=⟨_,List.getElem?_eq_getElem Om⟩
 have hlt3:=b3.toNat_lt;have hn3:=nat_of hb3;obtain⟨b4,hb4⟩ :∃u,l[4]? = some u:=⟨_,List.getElem?_eq_getElem Om⟩
 have hlt4:=b4.toNat_lt;have hn4:=nat_of hb4;obtain⟨b5,hb5⟩ :∃u,l[5]? = some u:=⟨_,List.getElem?_eq_getElem Om⟩
 have hlt5:=b5.toNat_lt;have hn5:=nat_of hb5;obtain⟨b6,hb6⟩ :∃u,l[6]? = some u:=⟨_,List.getElem?_eq_getElem Om⟩
 have hlt6:=b6.toNat_lt;have hn6:=nat_of hb6;obtain⟨b7,hb7⟩ :∃u,l[7]? = some u:=⟨_,List.getElem?_eq_getElem Om⟩
 have hlt7:=b7.toNat_lt;have hn7:=nat_of hb7;have hw0:b0.toNat<2 ^ 64:=by omega
 have hs1:=shl64 (b:=b1.toNat) (k:=8) hlt1 Dc;have hw1:b0.toNat ||| b1.toNat <<< 8<2 ^ 64:=l0r hw0 hs1.1;have hs2:=shl64 (b:=b2.toNat) (k:=16) hlt2 Dc;have hw2:b0.toNat ||| b1.toNat <<< 8 ||| b2.toNat <<< 16<2 ^ 64:=l0r hw1 hs2.1;have hs3:=shl64 (b:=b3.toNat) (k:=24) hlt3 Dc;have hw3:b0.toNat ||| b1.toNat <<< 8 ||| b2.toNat <<< 16 ||| b3.toNat <<< 24<2 ^ 64:=l0r hw2 hs3.1;have hs4:=shl64 (b:=b4.toNat) (k:=32) hlt4 Dc;have hw4:b0.toNat ||| b1.toNat <<< 8 ||| b2.toNat <<< 16 ||| b3.toNat <<< 24 ||| b4.toNat <<< 32<2 ^ 64:=l0r hw3 hs4.1;have hs5:=shl64 (b:=b5.toNat) (k:=40) hlt5 Dc;have hw5:b0.toNat ||| b1.toNat <<< 8 ||| b2.toNat <<< 16 ||| b3.toNat <<< 24 ||| b4.toNat <<< 32 ||| b5.toNat <<< 40<2 ^ 64:=l0r hw4 hs5.1;have hs6:=shl64 (b:=b6.toNat) (k:=48) hlt6 Dc;have hw6:b0.toNat ||| b1.toNat <<< 8 ||| b2.toNat <<< 16 ||| b3.toNat <<< 24 ||| b4.toNat <<< 32 ||| b5.toNat <<< 40 ||| b6.toNat <<< 48<2 ^ 64:=l0r hw5 hs6.1;have hs7:=shl64 (b:=b7.toNat) (k:=56) hlt7 Dc;have hw7:b0.toNat ||| b1.toNat <<< 8 ||| b2.toNat <<< 16 ||| b3.toNat <<< 24 ||| b4.toNat <<< 32 ||| b5.toNat <<< 40 ||| b6.toNat <<< 48 ||| b7.toNat <<< 56<2 ^ 64:=l0r hw6 hs7.1;refine SQ (RG (AS G G (NL (TN (SQ (CF G (SK (TN (SQ (q0H (m:=39) G G H ?_))))))))));intro w H;refine TK 0 G (fun _=>q01 G) G (TK 1 G (fun _=>q1d Tu9 G G (hb0)) G (TK 2 G (fun _=>q1Q Tu5 Tu143 G Om) G ?_));refine TK 3 G (fun _=>q01 G) G (TK 4 G (fun _=>q1d Tu9 G G (hb1)) G (TK 5 G (fun _=>q1Q Tu5 Tu143 G Om) G ?_));refine q0Z (v' := .int .u64 ((b1.toNat <<< 8:Nat):Int)) (i:=6) G Kr Kr Kr (fun _=>q1N (m:=b1.toNat) (s:=8) G G Dc) (congrArg (Value.int .u64) hs1.2) (q00 G) G G (fun _ _=>G) (q0Z (v' := .int .u64 ((b0.toNat ||| b1.toNat <<< 8:Nat):Int)) (i:=7) G Kr Kr Kr (fun _=>q1M (m:=(b0.toNat)) (s:=(b1.toNat <<< 8)) G G hw0 hs1.1) (congrArg (Value.int .u64) (or64 hw0 hs1.1)) (q00 G) G G (fun _ _=>G) (TK 8 G (fun _=>q01 G) G (TK 9 G (fun _=>q1d Tu9 G G (hb2)) G (TK 10 G (fun _=>q1Q Tu5 Tu143 G Om) G ?_))))
 refine q0Z (v' := .int .u64 ((b2.toNat <<< 16:Nat):Int)) (i:=11) G Kr Kr Kr (fun _=>q1N (m:=b2.toNat) (s:=16) G G Dc) (congrArg (Value.int .u64) hs2.2) (q00 G) G G (fun _ _=>G) (q0Z (v' := .int .u64 ((b0.toNat ||| b1.toNat <<< 8 ||| b2.toNat <<< 16:Nat):Int)) (i:=12) G Kr Kr Kr (fun _=>q1M (m:=(b0.toNat ||| b1.toNat <<< 8)) (s:=(b2.toNat <<< 16)) G G hw1 hs2.1) (congrArg (Value.int .u64) (or64 hw1 hs2.1)) (q00 G) G G (fun _ _=>G) (TK 13 G (fun _=>q01 G) G (TK 14 G (fun _=>q1d Tu9 G G (hb3)) G (TK 15 G (fun _=>q1Q Tu5 Tu143 G Om) G ?_))));refine q0Z (v' := .int .u64 ((b3.toNat <<< 24:Nat):Int)) (i:=16) G Kr Kr Kr (fun _=>q1N (m:=b3.toNat) (s:=24) G G Dc) (congrArg (Value.int .u64) hs3.2) (q00 G) G G (fun _ _=>G) (q0Z (v' := .int .u64 ((b0.toNat ||| b1.toNat <<< 8 ||| b2.toNat <<< 16 ||| b3.toNat <<< 24:Nat):Int)) (i:=17) G Kr Kr Kr (fun _=>q1M (m:=(b0.toNat ||| b1.toNat <<< 8 ||| b2.toNat <<< 16)) (s:=(b3.toNat <<< 24)) G G hw2 hs3.1) (congrArg (Value.int .u64) (or64 hw2 hs3.1)) (q00 G) G G (fun _ _=>G) (TK 18 G (fun _=>q01 G) G (TK 19 G (fun _=>q1d Tu9 G G (hb4)) G ?_)));refine TK 20 G (fun _=>q1Q Tu5 Tu143 G Om) G ?_;refine q0Z (v' := .int .u64 ((b4.toNat <<< 32:Nat):Int)) (i:=21) G Kr Kr Kr (fun _=>q1N (m:=b4.toNat) (s:=32) G G Dc) (congrArg (Value.int .u64) hs4.2) (q00 G) G G (fun _ _=>G) (q0Z (v' := .int .u64 ((b0.toNat ||| b1.toNat <<< 8 ||| b2.toNat <<< 16 ||| b3.toNat <<< 24 ||| b4.toNat <<< 32:Nat):Int)) (i:=22) G Kr Kr Kr (fun _=>q1M (m:=(b0.toNat ||| b1.toNat <<< 8 ||| b2.toNat <<< 16 ||| b3.toNat <<< 24)) (s:=(b4.toNat <<< 32)) G G hw3 hs4.1) (congrArg (Value.int .u64) (or64 hw3 hs4.1)) (q00 G) G G (fun _ _=>G) (TK 23 G (fun _=>q01 G) G (TK 24 G (fun _=>q1d Tu9 G G (hb5)) G ?_)));refine TK 25 G (fun _=>q1Q Tu5 Tu143 G Om) G ?_
 refine q0Z (v' := .int .u64 ((b5.toNat <<< 40:Nat):Int)) (i:=26) G Kr Kr Kr (fun _=>q1N (m:=b5.toNat) (s:=40) G G Dc) (congrArg (Value.int .u64) hs5.2) (q00 G) G G (fun _ _=>G) (q0Z (v' := .int .u64 ((b0.toNat ||| b1.toNat <<< 8 ||| b2.toNat <<< 16 ||| b3.toNat <<< 24 ||| b4.toNat <<< 32 ||| b5.toNat <<< 40:Nat):Int)) (i:=27) G Kr Kr Kr (fun _=>q1M (m:=(b0.toNat ||| b1.toNat <<< 8 ||| b2.toNat <<< 16 ||| b3.toNat <<< 24 ||| b4.toNat <<< 32)) (s:=(b5.toNat <<< 40)) G G hw4 hs5.1) (congrArg (Value.int .u64) (or64 hw4 hs5.1)) (q00 G) G G (fun _ _=>G) (TK 28 G (fun _=>q01 G) G (TK 29 G (fun _=>q1d Tu9 G G (hb6)) G ?_)));refine TK 30 G (fun _=>q1Q Tu5 Tu143 G Om) G ?_;refine q0Z (v' := .int .u64 ((b6.toNat <<< 48:Nat):Int)) (i:=31) G Kr Kr Kr (fun _=>q1N (m:=b6.toNat) (s:=48) G G Dc) (congrArg (Value.int .u64) hs6.2) (q00 G) G G (fun _ _=>G) (q0Z (v' := .int .u64 ((b0.toNat ||| b1.toNat <<< 8 ||| b2.toNat <<< 16 ||| b3.toNat <<< 24 ||| b4.toNat <<< 32 ||| b5.toNat <<< 40 ||| b6.toNat <<< 48:Nat):Int)) (i:=32) G Kr Kr Kr (fun _=>q1M (m:=(b0.toNat ||| b1.toNat <<< 8 ||| b2.toNat <<< 16 ||| b3.toNat <<< 24 ||| b4.toNat <<< 32 ||| b5.toNat <<< 40)) (s:=(b6.toNat <<< 48)) G G hw5 hs6.1) (congrArg (Value.int .u64) (or64 hw5 hs6.1)) (q00 G) G G (fun _ _=>G) (ON 33 Kr G (MV G G (NA (ON 34 Kr G (ST (q1d Tu9 G G (hb7)) G (NA (ON 35 Kr G ?_))))))));refine ST (q1Q Tu5 Tu143 G Om) G ?_
 refine NA (ON 36 Kr G (q09 (v' := .int .u64 ((b7.toNat <<< 56:Nat):Int)) (q1N (m:=b7.toNat) (s:=56) G G Dc) (congrArg (Value.int .u64) hs7.2) (q00 G) G G (NA (ON 37 Kr G (q09 (v' := .int .u64 ((b0.toNat ||| b1.toNat <<< 8 ||| b2.toNat <<< 16 ||| b3.toNat <<< 24 ||| b4.toNat <<< 32 ||| b5.toNat <<< 40 ||| b6.toNat <<< 48 ||| b7.toNat <<< 56:Nat):Int)) (q1M (m:=(b0.toNat ||| b1.toNat <<< 8 ||| b2.toNat <<< 16 ||| b3.toNat <<< 24 ||| b4.toNat <<< 32 ||| b5.toNat <<< 40 ||| b6.toNat <<< 48)) (s:=(b7.toNat <<< 56)) G G hw6 hs7.1) (congrArg (Value.int .u64) (or64 hw6 hs7.1)) (q00 G) G G (NA (ON 38 Kr G (AS G G (NA (q0l Kr (TN (RT ?_))))))))))));refine q07 G G H.ext ?_;exact by unfold w8;rw [hn0,hn1,hn2,hn3,hn4,hn5,hn6,hn7]
theorem tab_acc {w:World}(h:Lib.Utf8Tabs 0 1 w){ai lo hi:Nat}(ha:ai<16)(hlo:Lib.accLo ai=lo)(hhi:Lib.accHi ai=hi):∀j u,([.int .u8 ((lo:Nat):Int), .int .u8 ((hi:Nat):Int)]:List Value)[j]? = some u→w.cell? ⟨1,2*ai+j,none⟩=some u:=by
 obtain⟨h1,h2⟩:=h.2 ai ha;rw[hlo] at h1;rw[hhi] at h2;intro j u hj;rcases j with _|_|j
 · cases hj;exact h1
 · cases hj;exact h2
 simp at hj
theorem validString_spec (l:Ls)(hs:l.length≤4611686018427387904):Ct Tryz.prog 65 [S l] (fun M=>Tabs M) (fun r _=>r = .bool (vld l)):=by
 refine Ct.of Tryz.func65 (enters Tryz.func65 Kr G) G G G ?_;intro w0 M0 H hp;refine SQ (RG (AS rfl rfl (NL (TN (SQ (BL (q1W (fun(t:Ls)=>[(0,S t)]) (fun(t:Ls) w=>t.length≤l.length∧vld l=vld t∧∃M,St w0 M0 M [] w∧Tabs M) (fun(t:Ls)=>t.length) (l) ⟨rfl,trivial⟩ (⟨l0e _,rfl,M0,H,hp⟩) ?_)))))));intro t w;rintro⟨htl,hv,M,H,hp⟩;refine SQ (SQ (RG (MV G G (ST (q0g Tu9 G) G ?_))));refine q0a (q0E G G) (q00 G) G G (fun h1_2=>?_) (fun h1_2=>?_)
 · have hne:t≠ []:=by rintro rfl;simp at h1_2
   obtain⟨c,hc⟩ :∃c,t[0]? = some c:=⟨_,List.getElem?_eq_getElem Om⟩
   have hcn:=nat_of hc;have hclt:=c.toNat_lt;refine NL (TN (CT G (SK (TN (BL (SQ (RG (MV G G (ST (q1d Tu9 G G (hc)) G (AS G G (NL (TN (SQ (SQ (RG (MV G G ?_))))))))))))))));refine q0a (q0n G G) (q00 G) G G (fun h3_1=>?_) (fun h3_1=>?_)
   · have hc128:nat t 0<128:=by omega
     refine NL (TN (CT G (SQ (RG (MV G G (q09 (v':=S (t.drop 1)) (q1h (i:=1) (j:=t.length) Tu9 G (.inl ⟨_,G,G⟩) (.inr ⟨G,G⟩) Om Om) (by rw[l0I]) (q00 G) G G ?_))))));refine AS G G (NL (TN (SQ (SQ (RG ?_)))));obtain⟨u,hu⟩ :∃u,u=t.drop 1:=⟨_,rfl⟩
     rw[←hu];have hv1:=vld_ascii hne hc128;rw[←hu] at hv1;have hul:u.length=t.length-1:=by rw[hu,l01]
     refine MV G G (ST (q0g Tu9 G) G ?_);refine q0a (q0E G G) (q00 G) G G (fun h5_2=>?_) (fun h5_2=>?_)
     · refine MV G G (SG (q01 G) G G G (q05 H (word_spec u Om) G (trivial) (q04 G G G) G ?_));intro v21 M w H hle hr21;replace hp:=hp.mono hle;obtain rfl:=hr21;refine q09 (v' := .int .u64 ((w8 u) &&& 9259542123273814144:Nat)) (Ex.andK (m:=(w8 u)) (s:=9259542123273814144) G G (w8_lt u) Dc) (congrArg (Value.int .u64) (and64 (w8_lt u))) (q04 G G G) G G ?_;refine q0a (q0e G G) (q04 G G G) G G (fun h5_7=>?_) (fun h5_7=>?_)
       · have h8 :∀i,i<8→nat u i<128:=w8_small (x:=0) (by rw[Nat.or_zero];omega);have hv8:=vld_asciis 8 u Om h8;refine PT G G G (NL (TN (CT G (SQ (RG (MV G G (q09 (v':=S (u.drop 8)) (q1h (i:=8) (j:=u.length) Tu9 G (.inl ⟨_,G,G⟩) (.inr ⟨G,G⟩) Om Om) (by rw[l0I]) (q00 G) G G ?_)))))));obtain⟨u2,hu2⟩ :∃u2,u2=u.drop 8:=⟨_,rfl⟩
         rw[←hu2];have hul2:u2.length=u.length-8:=by rw[hu2,l01]
         refine AS G G (NL (TN (SQ (q0H (m:=13) G G H ?_))));intro w H;refine ON 0 Kr G (MV G G (NA (ON 1 Kr G (ST (q0g Tu9 G) G (NA (ON 2 Kr G ?_))))));refine q0a (q0E G G) (q00 G) G G (fun h7_2=>?_) (fun h7_2=>?_)
         · refine NA (ON 3 Kr G (MV G G (NA (q0B (i:=4) G Kr Kr Kr (fun _=>q01 G) (q04 G G G) G G (fun _ _=>G) (q0B (i:=6) G Kr Kr Kr (fun _=>q01 G) (q04 G G G) G G (fun _ _=>G) (q0Z (v':=S (u2.drop 8)) (i:=7) G Kr Kr Kr (fun _=>q1h (i:=8) (j:=u2.length) Tu9 G (.inl ⟨_,G,G⟩) (.inr ⟨G,G⟩) Om Om) (by rw[l0I]) (q04 G G G) G G (fun _ _=>G) ?_))))));refine ON 5 Kr G (q05 H (word_spec u2 Om) G (trivial) (q04 G G G) G ?_);intro v32 M w H hle hr32;replace hp:=hp.mono hle;obtain rfl:=hr32;refine NA (ON 8 Kr G (q05 H (word_spec (u2.drop 8) (by rw[l01];omega)) G (trivial) (q04 G G G) G ?_));intro v35 M w H hle hr35;replace hp:=hp.mono hle;obtain rfl:=hr35;refine NA (ON 9 Kr G (q09 (v' := .int .u64 ((w8 u2) |||(w8 (u2.drop 8)):Nat)) (q1M (m:=(w8 u2)) (s:=(w8 (u2.drop 8))) G G (w8_lt u2) (w8_lt (u2.drop 8))) (congrArg (Value.int .u64) (or64 (w8_lt u2) (w8_lt (u2.drop 8)))) (q04 G G G) G G (NA (ON 10 Kr G (q09 (v' := .int .u64 ((w8 u2 ||| w8 (u2.drop 8)) &&& 9259542123273814144:Nat)) (Ex.andK (m:=(w8 u2 ||| w8 (u2.drop 8))) (s:=9259542123273814144) G G (l0r (w8_lt u2) (w8_lt (u2.drop 8))) Dc) (congrArg (Value.int .u64) (and64 (l0r (w8_lt u2) (w8_lt (u2.drop 8))))) (q04 G G G) G G (NA (ON 11 Kr G ?_)))))));refine q0a (q0e G G) (q04 G G G) G G (fun h7_11=>?_) (fun h7_11=>?_)
           · have ha:=w8_small (l:=u2) (x:=w8 (u2.drop 8)) Om;have hb:=w8_small (l:=u2.drop 8) (x:=w8 u2) (by rw[l2G];omega);have hv16:=(vld_asciis 8 u2 Om ha).trans (vld_asciis 8 (u2.drop 8) (by rw[l01];omega) hb);rw[l0n] at hv16;refine NA (ON 12 Kr G (PT G G G (NA (q0l Kr (TN (CT G (SQ (RG (MV G G (q09 (v':=S (u2.drop 16)) (q1h (i:=16) (j:=u2.length) Tu9 G (.inl ⟨_,G,G⟩) (.inr ⟨G,G⟩) Om Om) (by rw[l0I]) (q00 G) G G ?_))))))))));refine AS rfl rfl (NL (TN (BL (q1W (fun(x:Ls)=>[(0,S x)]) (fun(x:Ls) w=>x.length<t.length∧vld l=vld x∧∃M,St w0 M0 M [] w∧Tabs M) (fun(x:Ls)=>x.length) (u2.drop 16) ⟨rfl,trivial⟩ (⟨by rw[l01,hu2,hu,l01,l01];omega,by rw[hv,hv1,hv8,←hu2,hv16],M,H,hp⟩) ?_))));intro x w;rintro⟨hxt,hvx,M,H,hp⟩;refine SQ (SQ (q0H (m:=21) G G H ?_));intro w H;refine ON 0 Kr G (MV G G (NA (ON 1 Kr G (ST (q0g Tu9 G) G (NA (ON 2 Kr G ?_))))));refine q0a (q0E G G) (q00 G) G G (fun h9_2=>?_) (fun h9_2=>?_)
             · refine NA (ON 3 Kr G (MV G G (NA (q0B (i:=4) G Kr Kr Kr (fun _=>q01 G) (q04 G G G) G G (fun _ _=>G) (q0B (i:=6) G Kr Kr Kr (fun _=>q01 G) (q04 G G G) G G (fun _ _=>G) (q0Z (v':=S (x.drop 8)) (i:=7) G Kr Kr Kr (fun _=>q1h (i:=8) (j:=x.length) Tu9 G (.inl ⟨_,G,G⟩) (.inr ⟨G,G⟩) Om Om) (by rw[l0I]) (q04 G G G) G G (fun _ _=>G) ?_))))));refine q0B (i:=10) G Kr Kr Kr (fun _=>q01 G) (q04 G G G) G G (fun _ _=>G) (q0Z (v':=S (x.drop 16)) (i:=11) G Kr Kr Kr (fun _=>q1h (i:=16) (j:=x.length) Tu9 G (.inl ⟨_,G,G⟩) (.inr ⟨G,G⟩) Om Om) (by rw[l0I]) (q04 G G G) G G (fun _ _=>G) ?_);refine q0B (i:=13) G Kr Kr Kr (fun _=>q01 G) (q04 G G G) G G (fun _ _=>G) (q0Z (v':=S (x.drop 24)) (i:=14) G Kr Kr Kr (fun _=>q1h (i:=24) (j:=x.length) Tu9 G (.inl ⟨_,G,G⟩) (.inr ⟨G,G⟩) Om Om) (by rw[l0I]) (q04 G G G) G G (fun _ _=>G) ?_);refine ON 5 Kr G (q05 H (word_spec x Om) G (trivial) (q04 G G G) G ?_);intro v47 M w H hle hr47;replace hp:=hp.mono hle;obtain rfl:=hr47;refine NA (ON 8 Kr G (q05 H (word_spec (x.drop 8) (by rw[l01];omega)) G (trivial) (q04 G G G) G ?_));intro v50 M w H hle hr50;replace hp:=hp.mono hle;obtain rfl:=hr50;refine NA (q0Z (v' := .int .u64 ((w8 x) |||(w8 (x.drop 8)):Nat)) (i:=9) G Kr Kr Kr (fun _=>q1M (m:=(w8 x)) (s:=(w8 (x.drop 8))) G G (w8_lt x) (w8_lt (x.drop 8))) (congrArg (Value.int .u64) (or64 (w8_lt x) (w8_lt (x.drop 8)))) (q04 G G G) G G (fun _ _=>G) (ON 12 Kr G (q05 H (word_spec (x.drop 16) (by rw[l01];omega)) G (trivial) (q04 G G G) G ?_)));intro v54 M w H hle hr54;replace hp:=hp.mono hle;obtain rfl:=hr54;refine NA (ON 15 Kr G (q05 H (word_spec (x.drop 24) (by rw[l01];omega)) G (trivial) (q04 G G G) G ?_));intro v57 M w H hle hr57;replace hp:=hp.mono hle;obtain rfl:=hr57
               refine NA (ON 16 Kr G (q09 (v' := .int .u64 ((w8 (x.drop 16)) |||(w8 (x.drop 24)):Nat)) (q1M (m:=(w8 (x.drop 16))) (s:=(w8 (x.drop 24))) G G (w8_lt (x.drop 16)) (w8_lt (x.drop 24))) (congrArg (Value.int .u64) (or64 (w8_lt (x.drop 16)) (w8_lt (x.drop 24)))) (q04 G G G) G G (NA (ON 17 Kr G (q09 (v' := .int .u64 ((w8 x ||| w8 (x.drop 8)) |||(w8 (x.drop 16) ||| w8 (x.drop 24)):Nat)) (q1M (m:=(w8 x ||| w8 (x.drop 8))) (s:=(w8 (x.drop 16) ||| w8 (x.drop 24))) G G (l0r (w8_lt x) (w8_lt (x.drop 8))) (l0r (w8_lt (x.drop 16)) (w8_lt (x.drop 24)))) (congrArg (Value.int .u64) (or64 (l0r (w8_lt x) (w8_lt (x.drop 8))) (l0r (w8_lt (x.drop 16)) (w8_lt (x.drop 24))))) (q04 G G G) G G (NA (ON 18 Kr G (q09 (v' := .int .u64 (((w8 x ||| w8 (x.drop 8)) |||(w8 (x.drop 16) ||| w8 (x.drop 24))) &&& 9259542123273814144:Nat)) (Ex.andK (m:=((w8 x ||| w8 (x.drop 8)) |||(w8 (x.drop 16) ||| w8 (x.drop 24)))) (s:=9259542123273814144) G G (l0r (l0r (w8_lt x) (w8_lt (x.drop 8))) (l0r (w8_lt (x.drop 16)) (w8_lt (x.drop 24)))) Dc) (congrArg (Value.int .u64) (and64 (l0r (l0r (w8_lt x) (w8_lt (x.drop 8))) (l0r (w8_lt (x.drop 16)) (w8_lt (x.drop 24)))))) (q04 G G G) G G ?_))))))));refine NA (ON 19 Kr G ?_);refine q0a (q0e G G) (q04 G G G) G G (fun h9_19=>?_) (fun h9_19=>?_)
               · have h1:=w8_small (l:=x) (x:=w8 (x.drop 8) |||(w8 (x.drop 16) ||| w8 (x.drop 24))) (by rw[←Nat.or_assoc];omega);have h2:=w8_small (l:=x.drop 8) (x:=w8 x |||(w8 (x.drop 16) ||| w8 (x.drop 24))) (by rw[←Nat.or_assoc,l2G (w8 (x.drop 8))];omega);have h3:=w8_small (l:=x.drop 16) (x:=w8 (x.drop 24) |||(w8 x ||| w8 (x.drop 8))) (by rw[←Nat.or_assoc,l2G (w8 (x.drop 16) ||| w8 (x.drop 24))];omega);have h4:=w8_small (l:=x.drop 24) (x:=w8 (x.drop 16) |||(w8 x ||| w8 (x.drop 8))) (by rw[←Nat.or_assoc,l2G (w8 (x.drop 24)),l2G (w8 (x.drop 16) ||| w8 (x.drop 24))];omega);have hv32:=vld_32 Om h1 h2 h3 h4;refine NA (ON 20 Kr G (PT G G G (NA (q0l Kr (TN (CT G (SK (TN (BL (RG (MV G G (q09 (v':=S (x.drop 32)) (q1h (i:=32) (j:=x.length) Tu9 G (.inl ⟨_,G,G⟩) (.inr ⟨G,G⟩) Om Om) (by rw[l0I]) (q00 G) G G ?_))))))))))));refine AS G G (NL (IB ?_));refine q1j (x.drop 32) ⟨G,trivial⟩ ?_ ?_
                 · exact⟨by rw[l01];omega,hvx.trans hv32,M,H,hp⟩
                 rw[l01];omega
               refine NA (ON 20 Kr G (PT G G G (NA (q0l Kr (TN (CF G (q0m (q06 (q06 (q0d (TN (q0m (q06 (q0d ?_))))))))))))));refine q1j (x) ⟨G,trivial⟩ ?_ ?_
               · exact⟨by omega,hvx,M,H.drop (l1b _),hp⟩
               omega
             refine NA (ON 3 Kr G (MV G G (NA (q1c (i:=4) G Kr Kr Kr (wanted_g (b:=false) G G G) G G (fun _ _=>G) (q1c (i:=6) G Kr Kr Kr (wanted_g (b:=false) G G G) G G (fun _ _=>G) (q1c (i:=7) G Kr Kr Kr (wanted_g (b:=false) G G G) G G (fun _ _=>G) (q1c (i:=10) G Kr Kr Kr (wanted_g (b:=false) G G G) G G (fun _ _=>G) (q1c (i:=11) G Kr Kr Kr (wanted_g (b:=false) G G G) G G (fun _ _=>G) (q1c (i:=13) G Kr Kr Kr (wanted_g (b:=false) G G G) G G (fun _ _=>G) (q1c (i:=14) G Kr Kr Kr (wanted_g (b:=false) G G G) G G (fun _ _=>G) ?_))))))))));refine ON 5 Kr G (GF G G G (NA (ON 8 Kr G (GF G G G (NA (q1c (i:=9) G Kr Kr Kr (wanted_g (b:=false) G G G) G G (fun _ _=>G) (ON 12 Kr G (GF G G G (NA (ON 15 Kr G (GF G G G (NA (ON 16 Kr G (GF G G G (NA (ON 17 Kr G (GF G G G (NA (ON 18 Kr G (GF G G G (NA (ON 19 Kr G (GF G G G (NA (ON 20 Kr G (PF G G G (NA (q0l Kr (TN (CF G (q0m (q06 (q06 (q0d (TN (q0m (q06 (q0d ?_))))))))))))))))))))))))))))))))))))));refine q1j (x) ⟨G,trivial⟩ ?_ ?_
             · exact⟨by omega,hvx,M,H.drop (l1b _),hp⟩
             omega
           refine NA (ON 12 Kr G (PT G G G (NA (q0l Kr (TN (CF G (SK (TN (q0m (q06 (q0d ?_)))))))))));refine q1j (u2) ⟨G,trivial⟩ ?_ ?_
           · exact⟨by rw[hu2,hu,l01,l01];omega,(by rw[hv,hv1,hv8,←hu2]),M,H.drop (l1b _),hp⟩
           rw[hu2,hu,l01,l01];omega
         refine NA (ON 3 Kr G (MV G G (NA (q1c (i:=4) G Kr Kr Kr (wanted_g (b:=false) G G G) G G (fun _ _=>G) (q1c (i:=6) G Kr Kr Kr (wanted_g (b:=false) G G G) G G (fun _ _=>G) (q1c (i:=7) G Kr Kr Kr (wanted_g (b:=false) G G G) G G (fun _ _=>G) (ON 5 Kr G (GF G G G (NA (ON 8 Kr G (GF G G G (NA (ON 9 Kr G (GF G G G (NA (ON 10 Kr G (GF G G G (NA (ON 11 Kr G (GF G G G (NA (ON 12 Kr G (PF G G G (NA (q0l Kr (TN (CF G (SK (TN (q0m (q06 (q0d ?_))))))))))))))))))))))))))))))));refine q1j (u2) ⟨G,trivial⟩ ?_ ?_
         · exact⟨by rw[hu2,hu,l01,l01];omega,(by rw[hv,hv1,hv8,←hu2]),M,H.drop (l1b _),hp⟩
         rw[hu2,hu,l01,l01];omega
       refine PT G G G (NL (TN (CF G (SK (TN (q0m (q06 (q0d ?_))))))));refine q1j (u) ⟨G,trivial⟩ ?_ ?_
       · exact⟨by rw[hu,l01];omega,(by rw[hv,hv1]),M,H.drop (l1b _),hp⟩
       rw[hu,l01];omega
     refine MV G G (GF G G G (GF G G G (GF G G G (GF G G G (PF G G G (NL (TN (CF G (SK (TN (q0m (q06 (q0d ?_)))))))))))));refine q1j (u) ⟨G,trivial⟩ ?_ ?_
     · exact⟨by rw[hu,l01];omega,(by rw[hv,hv1]),M,H.drop (l1b _),hp⟩
     rw[hu,l01];omega
   obtain⟨sz,ai,lo,hi,hF,hsz,hai,hai16,hlo,hhi,hlo2,hhi2,hszs,hc1,hc2,hc3,hc4⟩:=first_facts c.toNat Om Om;refine NL (TN (CF G (SK (TN (SQ (RG (MV G G (q09 (v':=ptr 0 c.toNat) (q1Z Tu121 Ts5 G G Om) (by rw[l0s,l0Q]) (q00 G) G G ?_))))))));refine ST (Ex.loadCell G ((hp _ H.ag).1 c.toNat Om) Ta5) G ?_;refine AS G G (NL (TN (SQ (RG (MV G G (q09 (v' := .int .u8 ((sz:Nat):Int)) (Ex.andK (m:=(Lib.firstT c.toNat)) (s:=7) G G (by show _<256;omega) Dc) (congrArg (Value.int .u8) (by rw[hsz];exact u8_in Om)) (q00 G) G G ?_))))));first|refine q02 (q1m Tu5 Tu3 rfl) (q00 rfl) rfl rfl ?_|refine q02 (q1H Tu5 Tu3 rfl Om) (q00 rfl) rfl rfl ?_
   refine AS G G (NL (TN (SQ (RG (MV G G (q09 (v' := .int .u8 ((ai:Nat):Int)) (Ex.shrN (m:=(Lib.firstT c.toNat)) (s:=4) G G (by first|(show _≤64;omega)|(show _≤8;omega)|decide)) (congrArg (Value.int .u8) (by rw[hai])) (q00 G) G G ?_))))));refine q09 (v':=ptr 1 (2*ai)) (q1Z Tu124 Ts123 G G Om) (by rw[l0s,l1O]) (q00 G) G G ?_;refine ST (Ex.loadAggW (cs:=[.int .u8 ((lo:Nat):Int), .int .u8 ((hi:Nat):Int)]) G (tab_acc (hp _ H.ag) hai16 hlo hhi) Ta123 Ts123 G) G (q0j [_,_] H Tz123 G (q00 G) G ?_);intro b6 w H;refine q0c [_,_] H G G G Ku Ts123 G Kf Kf (q00 G) ?_;intro w H;refine NL (TN (SQ (RG (MV G G (NL (TN (BL (SQ (RG ?_)))))))));refine q0a (q0e G G) (q00 G) G G (fun h16_0=>?_) (fun h16_0=>?_)
   · obtain⟨hq1,hq2,hq3,hq4⟩:=hc2 Om;have hm:=multi2 (t:=t) (by rw[hcn];exact ⟨hq1,hq2⟩);subst hq3 hq4;refine AS G G (NL (TN (CT G (SQ (SQ (q0H (m:=17) G G H ?_))))));intro w H;refine ON 0 Kr G (MV G G (NA (ON 1 Kr G (ST (q0g Tu9 G) G (NA (ON 2 Kr G ?_))))));refine q0a (q0n G G) (q00 G) G G (fun h17_2=>?_) (fun h17_2=>?_)
     · have hbad:=vld_bad hne (hm.2 Om);refine NA (ON 3 Kr G (MV G G (NA (q1c (i:=4) G Kr Kr Kr (wanted_g (b:=true) G G G) G G (fun _ _=>G) (q1c (i:=5) G Kr Kr Kr (wanted_g (b:=true) G G G) G G (fun _ _=>G) (ON 6 Kr G (GT G G G (NA (ON 7 Kr G (GT G G G (NA (ON 8 Kr G (GT G G G (NA (ON 9 Kr G (PT G G G (NA (ON 10 Kr G (MV G G (NA (q1c (i:=11) G Kr Kr Kr (wanted_g (b:=true) G G G) G G (fun _ _=>G) (q1c (i:=12) G Kr Kr Kr (wanted_g (b:=true) G G G) G G (fun _ _=>G) (ON 13 Kr G (GT G G G (NA (ON 14 Kr G (GT G G G ?_)))))))))))))))))))))))))));refine NA (ON 15 Kr G (GT G G G (NA (ON 16 Kr G (PT G G G (NA (q0l Kr (TN (CT G (SQ (RG (AS G G (NL (TN (RT ?_)))))))))))))));refine q07 G G H.ext ?_;exact by rw[hv,hbad]
     obtain⟨x1,hx1⟩ :∃x,t[1]? = some x:=⟨_,List.getElem?_eq_getElem Om⟩
     have hnx1:=nat_of hx1;have hxl1:=x1.toNat_lt;refine NA (ON 3 Kr G (MV G G (NA (q0B (i:=4) G Kr Kr Kr (fun _=>q01 G) (q04 G G G) G G (fun _ _=>G) (q0B (i:=5) G Kr Kr Kr (fun _=>q1d Tu9 G G (hx1)) (q04 G G G) G G (fun _ _=>G) (ON 6 Kr G (SG (q03 Tu123 G Ts5 Dc G) G G G (NA (ON 7 Kr G ?_)))))))));first|refine q02 (q08 H rfl (by assumption) Ta5) (q04 rfl rfl rfl) rfl rfl ?_|refine q02 (XL H Ta5) (q04 rfl rfl rfl) rfl rfl ?_
     refine NA (ON 8 Kr G ?_);refine q0a (q0n G G) (q04 G G G) G G (fun h17_8=>?_) (fun h17_8=>?_)
     · have hbad:=vld_bad hne (hm.2 Om);refine NA (ON 9 Kr G (PF G G G (NA (ON 10 Kr G (MV G G (NA (q1c (i:=11) G Kr Kr Kr (wanted_g (b:=true) G G G) G G (fun _ _=>G) (q1c (i:=12) G Kr Kr Kr (wanted_g (b:=true) G G G) G G (fun _ _=>G) (ON 13 Kr G (GT G G G (NA (ON 14 Kr G (GT G G G (NA (ON 15 Kr G (GT G G G (NA (ON 16 Kr G (PT G G G (NA (q0l Kr (TN (CT G (SQ (RG (AS G G (NL (TN (RT ?_)))))))))))))))))))))))))))));refine q07 G G H.ext ?_;exact by rw[hv,hbad]
     refine NA (ON 9 Kr G (PF G G G (NA (ON 10 Kr G (MV G G (NA (q0B (i:=11) G Kr Kr Kr (fun _=>q03 Tu123 G Ts5 Dc G) (q04 G G G) G G (fun _ _=>G) (q0B (i:=13) G Kr Kr Kr (fun _=>q01 G) (q04 G G G) G G (fun _ _=>G) (q0B (i:=14) G Kr Kr Kr (fun _=>q1d Tu9 G G (hx1)) (q04 G G G) G G (fun _ _=>G) (ON 12 Kr G ?_))))))))));first|refine q02 (q08 H rfl (by assumption) Ta5) (q04 rfl rfl rfl) rfl rfl ?_|refine q02 (XL H Ta5) (q04 rfl rfl rfl) rfl rfl ?_
     refine NA (ON 15 Kr G ?_);refine q0a (q0n G G) (q04 G G G) G G (fun h17_15=>?_) (fun h17_15=>?_)
     · have hbad:=vld_bad hne (hm.2 Om);refine NA (ON 16 Kr G (PF G G G (NA (q0l Kr (TN (CT G (SQ (RG (AS G G (NL (TN (RT ?_))))))))))));refine q07 G G H.ext ?_;exact by rw[hv,hbad]
     refine NA (ON 16 Kr G (PF G G G (NA (q0l Kr (TN (CF G (SK (TN (RG (MV G G (q09 (v':=S (t.drop 2)) (q1h (i:=2) (j:=t.length) Tu9 G (.inl ⟨_,G,G⟩) (.inr ⟨G,G⟩) Om Om) (by rw[l0I]) (q00 G) G G ?_)))))))))));refine AS G G (NL (IB (IB ?_)));refine q1j (t.drop 2) ⟨G,trivial⟩ ?_ ?_
     · exact⟨by rw[l01];omega,by rw[hv];exact vld_good hne (hm.1 Om),M,H.drop (l1b _),hp⟩
     rw[l01];omega
   refine AS G G (NL (TN (CF G (SQ (RG ?_)))));refine q0a (q0e G G) (q00 G) G G (fun h20_0=>?_) (fun h20_0=>?_)
   · obtain⟨hq1,hq2,hq3,hq4⟩:=hc3 Om;have hm:=multi3 (t:=t) (lo:=lo) (hi:=hi) (by rw[hcn];exact ⟨hq1,hq2⟩) (by rw[hcn];exact hq3) (by rw[hcn];exact hq4);refine AS G G (NL (TN (CT G (SQ (SQ (q0H (m:=27) G G H ?_))))));intro w H;refine ON 0 Kr G (MV G G (NA (ON 1 Kr G (ST (q0g Tu9 G) G (NA (ON 2 Kr G ?_))))));refine q0a (q0n G G) (q00 G) G G (fun h21_2=>?_) (fun h21_2=>?_)
     · have hbad:=vld_bad hne (hm.2 Om);refine NA (ON 3 Kr G (MV G G (NA (q1c (i:=4) G Kr Kr Kr (wanted_g (b:=true) G G G) G G (fun _ _=>G) (q1c (i:=5) G Kr Kr Kr (wanted_g (b:=true) G G G) G G (fun _ _=>G) (ON 6 Kr G (GT G G G (NA (ON 7 Kr G (GT G G G (NA (ON 8 Kr G (GT G G G (NA (ON 9 Kr G (PT G G G (NA (ON 10 Kr G (MV G G (NA (q1c (i:=11) G Kr Kr Kr (wanted_g (b:=true) G G G) G G (fun _ _=>G) (q1c (i:=12) G Kr Kr Kr (wanted_g (b:=true) G G G) G G (fun _ _=>G) (ON 13 Kr G (GT G G G (NA (ON 14 Kr G (GT G G G ?_)))))))))))))))))))))))))));refine NA (ON 15 Kr G (GT G G G (NA (ON 16 Kr G (PT G G G (NA (ON 17 Kr G (MV G G (NA (ON 18 Kr G (GT G G G (NA (ON 19 Kr G (GT G G G (NA (ON 20 Kr G (GT G G G (NA (ON 21 Kr G (PT G G G (NA (ON 22 Kr G (MV G G (NA (ON 23 Kr G (GT G G G (NA (ON 24 Kr G (GT G G G (NA (ON 25 Kr G (GT G G G (NA (ON 26 Kr G (PT G G G (NA (q0l Kr (TN (CT G (SQ (RG (AS G G (NL (TN (RT ?_)))))))))))))))))))))))))))))))))))))))))))));refine q07 G G H.ext ?_;exact by rw[hv,hbad]
     obtain⟨x1,hx1⟩ :∃x,t[1]? = some x:=⟨_,List.getElem?_eq_getElem Om⟩
     have hnx1:=nat_of hx1;have hxl1:=x1.toNat_lt;obtain⟨x2,hx2⟩ :∃x,t[2]? = some x:=⟨_,List.getElem?_eq_getElem Om⟩
     have hnx2:=nat_of hx2;have hxl2:=x2.toNat_lt;refine NA (ON 3 Kr G (MV G G (NA (q0B (i:=4) G Kr Kr Kr (fun _=>q01 G) (q04 G G G) G G (fun _ _=>G) (q0B (i:=5) G Kr Kr Kr (fun _=>q1d Tu9 G G (hx1)) (q04 G G G) G G (fun _ _=>G) (ON 6 Kr G (SG (q03 Tu123 G Ts5 Dc G) G G G (NA (ON 7 Kr G ?_)))))))));first|refine q02 (q08 H rfl (by assumption) Ta5) (q04 rfl rfl rfl) rfl rfl ?_|refine q02 (XL H Ta5) (q04 rfl rfl rfl) rfl rfl ?_
     refine NA (ON 8 Kr G ?_);refine q0a (q0n G G) (q04 G G G) G G (fun h21_8=>?_) (fun h21_8=>?_)
     · have hbad:=vld_bad hne (hm.2 Om);refine NA (ON 9 Kr G (PF G G G (NA (ON 10 Kr G (MV G G (NA (q1c (i:=11) G Kr Kr Kr (wanted_g (b:=true) G G G) G G (fun _ _=>G) (q1c (i:=12) G Kr Kr Kr (wanted_g (b:=true) G G G) G G (fun _ _=>G) (ON 13 Kr G (GT G G G (NA (ON 14 Kr G (GT G G G (NA (ON 15 Kr G (GT G G G (NA (ON 16 Kr G (PT G G G (NA (ON 17 Kr G (MV G G (NA (ON 18 Kr G (GT G G G (NA (ON 19 Kr G (GT G G G (NA (ON 20 Kr G (GT G G G (NA (ON 21 Kr G (PT G G G (NA (ON 22 Kr G (MV G G (NA (ON 23 Kr G (GT G G G ?_))))))))))))))))))))))))))))))))))))))));refine NA (ON 24 Kr G (GT G G G (NA (ON 25 Kr G (GT G G G (NA (ON 26 Kr G (PT G G G (NA (q0l Kr (TN (CT G (SQ (RG (AS G G (NL (TN (RT ?_))))))))))))))))));refine q07 G G H.ext ?_;exact by rw[hv,hbad]
     refine NA (ON 9 Kr G (PF G G G (NA (ON 10 Kr G (MV G G (NA (q0B (i:=11) G Kr Kr Kr (fun _=>q03 Tu123 G Ts5 Dc G) (q04 G G G) G G (fun _ _=>G) (q0B (i:=13) G Kr Kr Kr (fun _=>q01 G) (q04 G G G) G G (fun _ _=>G) (q0B (i:=14) G Kr Kr Kr (fun _=>q1d Tu9 G G (hx1)) (q04 G G G) G G (fun _ _=>G) (ON 12 Kr G ?_))))))))));first|refine q02 (q08 H rfl (by assumption) Ta5) (q04 rfl rfl rfl) rfl rfl ?_|refine q02 (XL H Ta5) (q04 rfl rfl rfl) rfl rfl ?_
     refine NA (ON 15 Kr G ?_);refine q0a (q0n G G) (q04 G G G) G G (fun h21_15=>?_) (fun h21_15=>?_)
     · have hbad:=vld_bad hne (hm.2 Om);refine NA (ON 16 Kr G (PF G G G (NA (ON 17 Kr G (MV G G (NA (ON 18 Kr G (GT G G G (NA (ON 19 Kr G (GT G G G (NA (ON 20 Kr G (GT G G G (NA (ON 21 Kr G (PT G G G (NA (ON 22 Kr G (MV G G (NA (ON 23 Kr G (GT G G G (NA (ON 24 Kr G (GT G G G (NA (ON 25 Kr G (GT G G G (NA (ON 26 Kr G (PT G G G (NA (q0l Kr (TN (CT G (SQ (RG (AS G G (NL (TN (RT ?_))))))))))))))))))))))))))))))))))))))))));refine q07 G G H.ext ?_;exact by rw[hv,hbad]
     refine NA (ON 16 Kr G (PF G G G (NA (ON 17 Kr G (MV G G (NA (ON 18 Kr G (SG (q01 G) G G G (NA (ON 19 Kr G (SG (q1d Tu9 G G (hx2)) G G G (NA (ON 20 Kr G ?_)))))))))))));refine q0a (q0n G G) (q04 G G G) G G (fun h21_20=>?_) (fun h21_20=>?_)
     · have hbad:=vld_bad hne (hm.2 Om);refine NA (ON 21 Kr G (PF G G G (NA (ON 22 Kr G (MV G G (NA (ON 23 Kr G (GT G G G (NA (ON 24 Kr G (GT G G G (NA (ON 25 Kr G (GT G G G (NA (ON 26 Kr G (PT G G G (NA (q0l Kr (TN (CT G (SQ (RG (AS G G (NL (TN (RT ?_)))))))))))))))))))))))))));refine q07 G G H.ext ?_;exact by rw[hv,hbad]
     refine NA (ON 21 Kr G (PF G G G (NA (ON 22 Kr G (MV G G (NA (ON 23 Kr G (SG (q01 G) G G G (NA (ON 24 Kr G (SG (q1d Tu9 G G (hx2)) G G G (NA (ON 25 Kr G ?_)))))))))))));refine q0a (q0n G G) (q04 G G G) G G (fun h21_25=>?_) (fun h21_25=>?_)
     · have hbad:=vld_bad hne (hm.2 Om);refine NA (ON 26 Kr G (PF G G G (NA (q0l Kr (TN (CT G (SQ (RG (AS G G (NL (TN (RT ?_))))))))))));refine q07 G G H.ext ?_;exact by rw[hv,hbad]
     refine NA (ON 26 Kr G (PF G G G (NA (q0l Kr (TN (CF G (SK (TN (RG (MV G G (q09 (v':=S (t.drop 3)) (q1h (i:=3) (j:=t.length) Tu9 G (.inl ⟨_,G,G⟩) (.inr ⟨G,G⟩) Om Om) (by rw[l0I]) (q00 G) G G ?_)))))))))));refine AS G G (NL (IB (IB ?_)));refine q1j (t.drop 3) ⟨G,trivial⟩ ?_ ?_
     · exact⟨by rw[l01];omega,by rw[hv];exact vld_good hne (hm.1 Om),M,H.drop (l1b _),hp⟩
     rw[l01];omega
   refine AS G G (NL (TN (CF G (SQ (RG ?_)))));refine q0a (q0e G G) (q00 G) G G (fun h24_0=>?_) (fun h24_0=>?_)
   · obtain⟨hq1,hq2,hq3,hq4⟩:=hc4 Om;have hm:=multi4 (t:=t) (lo:=lo) (hi:=hi) (by rw[hcn];exact ⟨hq1,hq2⟩) (by rw[hcn];exact hq3) (by rw[hcn];exact hq4);refine AS G G (NL (TN (CT G (SQ (SQ (q0H (m:=37) G G H ?_))))));intro w H;refine ON 0 Kr G (MV G G (NA (ON 1 Kr G (ST (q0g Tu9 G) G (NA (ON 2 Kr G ?_))))));refine q0a (q0n G G) (q00 G) G G (fun h25_2=>?_) (fun h25_2=>?_)
     · have hbad:=vld_bad hne (hm.2 Om);refine NA (ON 3 Kr G (MV G G (NA (q1c (i:=4) G Kr Kr Kr (wanted_g (b:=true) G G G) G G (fun _ _=>G) (q1c (i:=5) G Kr Kr Kr (wanted_g (b:=true) G G G) G G (fun _ _=>G) (ON 6 Kr G (GT G G G (NA (ON 7 Kr G (GT G G G (NA (ON 8 Kr G (GT G G G (NA (ON 9 Kr G (PT G G G (NA (ON 10 Kr G (MV G G (NA (q1c (i:=11) G Kr Kr Kr (wanted_g (b:=true) G G G) G G (fun _ _=>G) (q1c (i:=12) G Kr Kr Kr (wanted_g (b:=true) G G G) G G (fun _ _=>G) (ON 13 Kr G (GT G G G (NA (ON 14 Kr G (GT G G G ?_)))))))))))))))))))))))))));refine NA (ON 15 Kr G (GT G G G (NA (ON 16 Kr G (PT G G G (NA (ON 17 Kr G (MV G G (NA (ON 18 Kr G (GT G G G (NA (ON 19 Kr G (GT G G G (NA (ON 20 Kr G (GT G G G (NA (ON 21 Kr G (PT G G G (NA (ON 22 Kr G (MV G G (NA (ON 23 Kr G (GT G G G (NA (ON 24 Kr G (GT G G G (NA (ON 25 Kr G (GT G G G (NA (ON 26 Kr G (PT G G G (NA (ON 27 Kr G (MV G G (NA (ON 28 Kr G (GT G G G (NA (ON 29 Kr G (GT G G G (NA (ON 30 Kr G (GT G G G (NA (ON 31 Kr G (PT G G G (NA (ON 32 Kr G (MV G G (NA (ON 33 Kr G ?_)))))))))))))))))))))))))))))))))))))))))))))))))))))));refine GT G G G (NA (ON 34 Kr G (GT G G G (NA (ON 35 Kr G (GT G G G (NA (ON 36 Kr G (PT G G G (NA (q0l Kr (TN (CT G (SQ (RG (AS G G (NL (TN (RT ?_)))))))))))))))))));refine q07 G G H.ext ?_;exact by rw[hv,hbad]
     obtain⟨x1,hx1⟩ :∃x,t[1]? = some x:=⟨_,List.getElem?_eq_getElem Om⟩
     have hnx1:=nat_of hx1;have hxl1:=x1.toNat_lt;obtain⟨x2,hx2⟩ :∃x,t[2]? = some x:=⟨_,List.getElem?_eq_getElem Om⟩
     have hnx2:=nat_of hx2;have hxl2:=x2.toNat_lt;obtain⟨x3,hx3⟩ :∃x,t[3]? = some x:=⟨_,List.getElem?_eq_getElem Om⟩
     have hnx3:=nat_of hx3;have hxl3:=x3.toNat_lt;refine NA (ON 3 Kr G (MV G G (NA (q0B (i:=4) G Kr Kr Kr (fun _=>q01 G) (q04 G G G) G G (fun _ _=>G) (q0B (i:=5) G Kr Kr Kr (fun _=>q1d Tu9 G G (hx1)) (q04 G G G) G G (fun _ _=>G) (ON 6 Kr G (SG (q03 Tu123 G Ts5 Dc G) G G G (NA (ON 7 Kr G ?_)))))))));first|refine q02 (q08 H rfl (by assumption) Ta5) (q04 rfl rfl rfl) rfl rfl ?_|refine q02 (XL H Ta5) (q04 rfl rfl rfl) rfl rfl ?_
     refine NA (ON 8 Kr G ?_);refine q0a (q0n G G) (q04 G G G) G G (fun h25_8=>?_) (fun h25_8=>?_)
     · have hbad:=vld_bad hne (hm.2 Om);refine NA (ON 9 Kr G (PF G G G (NA (ON 10 Kr G (MV G G (NA (q1c (i:=11) G Kr Kr Kr (wanted_g (b:=true) G G G) G G (fun _ _=>G) (q1c (i:=12) G Kr Kr Kr (wanted_g (b:=true) G G G) G G (fun _ _=>G) (ON 13 Kr G (GT G G G (NA (ON 14 Kr G (GT G G G (NA (ON 15 Kr G (GT G G G (NA (ON 16 Kr G (PT G G G (NA (ON 17 Kr G (MV G G (NA (ON 18 Kr G (GT G G G (NA (ON 19 Kr G (GT G G G (NA (ON 20 Kr G (GT G G G (NA (ON 21 Kr G (PT G G G (NA (ON 22 Kr G (MV G G (NA (ON 23 Kr G (GT G G G ?_))))))))))))))))))))))))))))))))))))))));refine NA (ON 24 Kr G (GT G G G (NA (ON 25 Kr G (GT G G G (NA (ON 26 Kr G (PT G G G (NA (ON 27 Kr G (MV G G (NA (ON 28 Kr G (GT G G G (NA (ON 29 Kr G (GT G G G (NA (ON 30 Kr G (GT G G G (NA (ON 31 Kr G (PT G G G (NA (ON 32 Kr G (MV G G (NA (ON 33 Kr G (GT G G G (NA (ON 34 Kr G (GT G G G (NA (ON 35 Kr G (GT G G G (NA (ON 36 Kr G (PT G G G (NA (q0l Kr (TN (CT G (SQ (RG (AS G G (NL (TN (RT ?_))))))))))))))))))))))))))))))))))))))))))))))));refine q07 G G H.ext ?_;exact by rw[hv,hbad]
     refine NA (ON 9 Kr G (PF G G G (NA (ON 10 Kr G (MV G G (NA (q0B (i:=11) G Kr Kr Kr (fun _=>q03 Tu123 G Ts5 Dc G) (q04 G G G) G G (fun _ _=>G) (q0B (i:=13) G Kr Kr Kr (fun _=>q01 G) (q04 G G G) G G (fun _ _=>G) (q0B (i:=14) G Kr Kr Kr (fun _=>q1d Tu9 G G (hx1)) (q04 G G G) G G (fun _ _=>G) (ON 12 Kr G ?_))))))))));first|refine q02 (q08 H rfl (by assumption) Ta5) (q04 rfl rfl rfl) rfl rfl ?_|refine q02 (XL H Ta5) (q04 rfl rfl rfl) rfl rfl ?_
     refine NA (ON 15 Kr G ?_);refine q0a (q0n G G) (q04 G G G) G G (fun h25_15=>?_) (fun h25_15=>?_)
     · have hbad:=vld_bad hne (hm.2 Om);refine NA (ON 16 Kr G (PF G G G (NA (ON 17 Kr G (MV G G (NA (ON 18 Kr G (GT G G G (NA (ON 19 Kr G (GT G G G (NA (ON 20 Kr G (GT G G G (NA (ON 21 Kr G (PT G G G (NA (ON 22 Kr G (MV G G (NA (ON 23 Kr G (GT G G G (NA (ON 24 Kr G (GT G G G (NA (ON 25 Kr G (GT G G G (NA (ON 26 Kr G (PT G G G (NA (ON 27 Kr G (MV G G (NA (ON 28 Kr G (GT G G G (NA (ON 29 Kr G (GT G G G (NA (ON 30 Kr G (GT G G G (NA (ON 31 Kr G (PT G G G (NA (ON 32 Kr G (MV G G (NA (ON 33 Kr G (GT G G G (NA (ON 34 Kr G ?_)))))))))))))))))))))))))))))))))))))))))))))))))))))));refine GT G G G (NA (ON 35 Kr G (GT G G G (NA (ON 36 Kr G (PT G G G (NA (q0l Kr (TN (CT G (SQ (RG (AS G G (NL (TN (RT ?_))))))))))))))));refine q07 G G H.ext ?_;exact by rw[hv,hbad]
     refine NA (ON 16 Kr G (PF G G G (NA (ON 17 Kr G (MV G G (NA (ON 18 Kr G (SG (q01 G) G G G (NA (ON 19 Kr G (SG (q1d Tu9 G G (hx2)) G G G (NA (ON 20 Kr G ?_)))))))))))));refine q0a (q0n G G) (q04 G G G) G G (fun h25_20=>?_) (fun h25_20=>?_)
     · have hbad:=vld_bad hne (hm.2 Om);refine NA (ON 21 Kr G (PF G G G (NA (ON 22 Kr G (MV G G (NA (ON 23 Kr G (GT G G G (NA (ON 24 Kr G (GT G G G (NA (ON 25 Kr G (GT G G G (NA (ON 26 Kr G (PT G G G (NA (ON 27 Kr G (MV G G (NA (ON 28 Kr G (GT G G G (NA (ON 29 Kr G (GT G G G (NA (ON 30 Kr G (GT G G G (NA (ON 31 Kr G (PT G G G (NA (ON 32 Kr G (MV G G (NA (ON 33 Kr G (GT G G G (NA (ON 34 Kr G (GT G G G (NA (ON 35 Kr G (GT G G G (NA (ON 36 Kr G (PT G G G (NA (q0l Kr (TN (CT G (SQ (RG (AS G G (NL (TN (RT ?_)))))))))))))))))))))))))))))))))))))))))))))))))))))))));refine q07 G G H.ext ?_;exact by rw[hv,hbad]
     refine NA (ON 21 Kr G (PF G G G (NA (ON 22 Kr G (MV G G (NA (ON 23 Kr G (SG (q01 G) G G G (NA (ON 24 Kr G (SG (q1d Tu9 G G (hx2)) G G G (NA (ON 25 Kr G ?_)))))))))))));refine q0a (q0n G G) (q04 G G G) G G (fun h25_25=>?_) (fun h25_25=>?_)
     · have hbad:=vld_bad hne (hm.2 Om);refine NA (ON 26 Kr G (PF G G G (NA (ON 27 Kr G (MV G G (NA (ON 28 Kr G (GT G G G (NA (ON 29 Kr G (GT G G G (NA (ON 30 Kr G (GT G G G (NA (ON 31 Kr G (PT G G G (NA (ON 32 Kr G (MV G G (NA (ON 33 Kr G (GT G G G (NA (ON 34 Kr G (GT G G G (NA (ON 35 Kr G (GT G G G (NA (ON 36 Kr G (PT G G G (NA (q0l Kr (TN (CT G (SQ (RG (AS G G (NL (TN (RT ?_))))))))))))))))))))))))))))))))))))))))));refine q07 G G H.ext ?_;exact by rw[hv,hbad]
     refine NA (ON 26 Kr G (PF G G G (NA (ON 27 Kr G (MV G G (NA (ON 28 Kr G (SG (q01 G) G G G (NA (ON 29 Kr G (SG (q1d Tu9 G G (hx3)) G G G (NA (ON 30 Kr G ?_)))))))))))));refine q0a (q0n G G) (q04 G G G) G G (fun h25_30=>?_) (fun h25_30=>?_)
     · have hbad:=vld_bad hne (hm.2 Om);refine NA (ON 31 Kr G (PF G G G (NA (ON 32 Kr G (MV G G (NA (ON 33 Kr G (GT G G G (NA (ON 34 Kr G (GT G G G (NA (ON 35 Kr G (GT G G G (NA (ON 36 Kr G (PT G G G (NA (q0l Kr (TN (CT G (SQ (RG (AS G G (NL (TN (RT ?_)))))))))))))))))))))))))));refine q07 G G H.ext ?_;exact by rw[hv,hbad]
     refine NA (ON 31 Kr G (PF G G G (NA (ON 32 Kr G (MV G G (NA (ON 33 Kr G (SG (q01 G) G G G (NA (ON 34 Kr G (SG (q1d Tu9 G G (hx3)) G G G (NA (ON 35 Kr G ?_)))))))))))));refine q0a (q0n G G) (q04 G G G) G G (fun h25_35=>?_) (fun h25_35=>?_)
     · have hbad:=vld_bad hne (hm.2 Om);refine NA (ON 36 Kr G (PF G G G (NA (q0l Kr (TN (CT G (SQ (RG (AS G G (NL (TN (RT ?_))))))))))));refine q07 G G H.ext ?_;exact by rw[hv,hbad]
     refine NA (ON 36 Kr G (PF G G G (NA (q0l Kr (TN (CF G (SK (TN (RG (MV G G (q09 (v':=S (t.drop 4)) (q1h (i:=4) (j:=t.length) Tu9 G (.inl ⟨_,G,G⟩) (.inr ⟨G,G⟩) Om Om) (by rw[l0I]) (q00 G) G G ?_)))))))))));refine AS G G (NL (IB (IB ?_)));refine q1j (t.drop 4) ⟨G,trivial⟩ ?_ ?_
     · exact⟨by rw[l01];omega,by rw[hv];exact vld_good hne (hm.1 Om),M,H.drop (l1b _),hp⟩
     rw[l01];omega
   have hbad:=vld_bad hne (multi1 (t:=t) Om (by rw[hcn];exact hc1 Om));refine AS G G (NL (TN (CF G (SQ (RG (AS G G (NL (TN (RT ?_)))))))));refine q07 G G H.ext ?_;exact by rw[hv,hbad]
 have hr:vld l=true:=by rw[hv,l0a (show t.length=0 by omega)];rfl
 refine NL (TN (CF G (q0m (q06 (q06 (q0d (TN (SQ (RG (AS G G (NL (TN (RT ?_)))))))))))));refine q07 G G H.ext ?_;exact by rw[hr]
end Go.Proofs.YtkmjdamkifbddaaGreatDoor
end
section
namespace Go.Proofs.YtkmjdamkifbddaaGreatDoor
open Go Go.RowKit Go.Ph
open Go.Ph.Gr Go.Ph.Utf Go.Ph.Chs
theorem grown_alloc {w w':World}{o:Obj}{row:Option Nat}(h:(w.alloc o).grownBy w' row)(hr:row=none):w.grownBy w' none:=by
 subst hr;have h1:w.grownBy (w.alloc o) none:=grownBy_alloc' w o;exact⟨h.os.trans h1.os,h.tape.trans h1.tape,h.output.trans h1.output,l0N h1.size h.size,fun k hk hn=>(h.block k (l1k hk h1.size) Sm).trans (h1.block k hk Sm)⟩
theorem utf8_Z (c:Int):utf8 c=(Lib.encodeRuneZ c).map ub:=by
 unfold utf8;by_cases h1:0≤c∧c≤127
 · rw[fixN_id Om Om Om,Lib.encodeRuneZ_one h1.1 h1.2,utf8M,if_pos Om];rfl
 by_cases h2:128≤c∧c≤2047
 · rw[fixN_id Om Om Om,Lib.encodeRuneZ_two h2.1 h2.2,utf8M,if_neg Om,if_pos Om];rfl
 by_cases h3:(2048≤c∧c<55296)∨(57343<c∧c≤65535)
 · rw[fixN_id Om Om Om,Lib.encodeRuneZ_three h3,utf8M,if_neg Om,if_neg Om,if_pos Om];rfl
 by_cases h4:65536≤c∧c≤1114111
 · rw[fixN_id Om Om Om,Lib.encodeRuneZ_four h4.1 h4.2,utf8M,if_neg Om,if_neg Om,if_neg Om];rfl
 rw[fixN_bad Om,Lib.encodeRuneZ_bad Om];decide
theorem runeCells_utf8 (c:Int):Lib.runeCells c=(utf8 c).map encB:=by
 unfold Lib.runeCells;rw[utf8_Z,l1z];apply l1y;intro x hx;have h:=Lib.encodeRuneZ_byte c x hx;show Value.int .u8 x=Value.int .u8 ((ub x).toNat:Int)
 rw[ub_nat h.1 h.2]
theorem appendRune_spec (c:Int)(h0 : -2147483648≤c)(h1:c≤2147483647):Ct Tryz.prog 196 [.slice none 0 0,encR c] (fun _=>True) (fun r M=>Bs M r (utf8 c)):=by
 refine⟨enters Tryz.func196 Kr G,fun w M ha hp=>?_⟩;have hlen:=Y2E c;refine(Tryz.utf8_AppendRune_plain w.heap.size (.slice none 0 0) 0 [] c h0 h1 w (World.ownsRow_nil _ _ _ _) Dc (l0e _)).mono fun e w'=>?_
 rintro⟨v',rfl,hown,o,hg⟩;have hgr:=grown_alloc hg rfl;rw[runeCells_utf8,l07,l0d,l0s] at hown;have hh:(RowI 5 encB v' (utf8 c)).holds w':=by
  refine⟨hown.1,?_⟩;rcases hown.2 with h|⟨g,cap,cur,hv,hb,hgg⟩
  · exact .inl h
  exact .inr ⟨g,cap,cur,hv,l1a _,hgg⟩
 have H1:St w M M [RowI 5 encB v' (utf8 c)] w':=(StX.start ha).new hgr hh (fun b hb=>(World.ownsRow.lt hown b hb).1);obtain⟨M',hle,hS,H2⟩:=H1.freezeRow (L':=[]) .head;exact⟨_,M',G,H2.ext,hS⟩
theorem dec1_spec (v:Value)(l:Ls)(b:Nat)(bound:Int)(hs:l.length≤12000):Ct Tryz.prog 213 [v,ptr b 0] (fun M=>Bs M v l∧CellM M ⟨b,0,none⟩ (encR bound)) (fun r M=>Sl M encR r (decS bound l)):=by
 refine Ct.of Tryz.func213 (enters Tryz.func213 Kr G) G G G ?_;intro w0 M0 H hp;obtain⟨hb,hcell⟩:=hp;refine SQ (RG (AS G G (NL (TN (SQ (RG (AS G G (NL (TN (SQ (SQ (RG (MV G G ?_)))))))))))));first|refine q02 (q0D Tu88 (by assumption) rfl) (q00 rfl) rfl rfl ?_|refine q02 (q0M Tu88 H Km rfl) (q00 rfl) rfl rfl ?_|refine q02 (q0G Tu88 rfl) (q00 rfl) rfl rfl ?_
 refine MV G G (NL (TN (BL ?_)));replace H:=H.newRow 21 encR;refine q1O (fun(k:Nat) (ov:Value) (o:List Int)=>[(1,ptr b 0),(4,ov),(8,v),(9,I (l.length:Int)),(10,encN k)]) (fun(k:Nat) (ov:Value) (o:List Int) w=>k≤l.length∧o=decS bound (l.take k)∧∃M,St w0 M0 M [RowI 21 encR ov o] w∧Bs M v l∧CellM M ⟨b,0,none⟩ (encR bound)) (fun(k:Nat) (ov:Value) (o:List Int)=>l.length-k) (0) (_) (_) ⟨rfl,rfl,rfl,rfl,rfl,trivial⟩ (⟨by omega,rfl,M0,H,hb,hcell⟩) ?_;intro k ov o w;rintro⟨hk,ho,M,H,hb,hcell⟩;have hol:o.length=k:=by rw[ho];simp [decS];omega
 refine SQ (RG ?_);refine q0a (q0n G G) (q00 G) G G (fun h3_0=>?_) (fun h3_0=>?_)
 · obtain⟨c,hc⟩ :∃c,l[k]? = some c:=⟨_,List.getElem?_eq_getElem Om⟩
   have hclt:=c.toNat_lt;have hdn:decS bound (l.take (k+1))=decS bound (l.take k)++[if bound≤(c.toNat:Int) then 65533 else(c.toNat:Int)]:=by
    obtain⟨e1,e2⟩:=List.getElem?_eq_some_iff.1 hc;rw[l0m e1,e2];simp [decS]
   refine NL (TN (SQ (CT G (SK (TN (SQ (BL (SQ (RG (q1k Tu88 Ts5 (by assumption) G G (hc) (q00 G) G ?_))))))))));intro p12 hc12;first|refine q02 (q08 H rfl (by assumption) Ta5) (q00 rfl) rfl rfl ?_|refine q02 (XL H Ta5) (q00 rfl) rfl rfl ?_
   refine AS G G (NL (TN (SQ (RG (MV G G (q09 (v':=encR (c.toNat:Int)) (q1V Tu5 Tu21 G) (congrArg encR (i32_in Om)) (q00 G) G G ?_))))));refine AS G G (NL (TN (SQ (SQ (RG (MV G G ?_))))));first|refine q02 (q08 H rfl (by assumption) Ta21) (q00 rfl) rfl rfl ?_|refine q02 (XL H Ta21) (q00 rfl) rfl rfl ?_
   refine q0a (q1a G G) (q00 G) G G (fun h6_2=>?_) (fun h6_2=>?_)
   · refine NL (TN (CT G (RG (AS G G (NL (TN (RG (MV G G (MV G G (q0F (enc:=encR) ty212 [_] H G Kf (fun _=>G) G G (q00 G) G ?_))))))))));intro v21 M w H hle hl21;replace hb:=hb.mono hle;replace hcell:=hcell.mono hle;replace hc12:=hc12.mono hle;refine q0J ty212 (fun _=>G) H G (fun _=>by repeat first|exact .head|apply Upd.tail) G (by assumption) (by first|omega|(simp only[l00,l02,l03,l05,l01];omega)) (by first|(simp only[maxLen];omega)|(simp only[maxLen,l00,l02,l03,l05,l01];omega)) (q00 G) G ?_;intro v22 w H;refine AS G G (NL (IB (TN (RG (ST (q0f G G Om) G ?_)))));refine MV G G (NL ?_);refine q0W (k+1) (v22) (o++[65533]) ⟨G,G,G,G,G,trivial⟩ ?_ ?_
     · refine⟨by omega,?_,M,H,hb,hcell⟩;rw[hdn,←ho,if_pos h6_2]
     omega
   refine NL (TN (CF G (SK (TN (RG (MV G G (MV G G (q0F (enc:=encR) ty212 [_] H G Kf (fun _=>G) G G (q00 G) G ?_))))))));intro v21 M w H hle hl21;replace hb:=hb.mono hle;replace hcell:=hcell.mono hle;replace hc12:=hc12.mono hle;refine q0J ty212 (fun _=>G) H G (fun _=>by repeat first|exact .head|apply Upd.tail) G (by assumption) (by first|omega|(simp only[l00,l02,l03,l05,l01];omega)) (by first|(simp only[maxLen];omega)|(simp only[maxLen,l00,l02,l03,l05,l01];omega)) (q00 G) G ?_;intro v22 w H;refine AS G G (NL (IB (TN (RG (ST (q0f G G Om) G ?_)))));refine MV G G (NL ?_);refine q0W (k+1) (v22) (o++[(c.toNat:Int)]) ⟨G,G,G,G,G,trivial⟩ ?_ ?_
   · refine⟨by omega,?_,M,H,hb,hcell⟩;rw[hdn,←ho,if_neg h6_2]
   omega
 refine NL (TN (SQ (CF G (q0m (q06 (q06 (q0d (TN (SQ (RG (MV G G (AS G G (NL (TN (RT ?_)))))))))))))));obtain⟨M,hle,hf,H⟩:=H.freezeRow (v:=ov) (enc:=encR) (t:=21) Kv;refine q07 G G H.ext (?_);rw[ho,l0q Om] at hf;exact hf
theorem enc1_spec (c:Int)(b:Nat)(bound:Int):Ct Tryz.prog 214 [encR c,ptr b 0] (fun M=>CellM M ⟨b,0,none⟩ (encR bound)) (fun r M =>∃v,r = .tuple #[v, .bool (decide (c<bound))]∧Bs M v ([ub c])):=by
 refine Ct.of Tryz.func214 (enters Tryz.func214 Kr G) G G G ?_;intro w0 M0 H hp;refine SQ (RG (AS G G (AS G G (NL (TN (SQ (q0H (m:=8) G G H ?_)))))));intro w H;refine TK 0 G (fun _=>q01 G) G (TK 1 G (fun _=>q1b Tu21 Tu5 G) G (TK 3 G (fun _=>q01 G) G ?_));refine q0R (i:=2) (j:=4) Kr G G ?_ ?_
 · refine q0F (enc:=encB) ty88 [_] H G Kf (fun _=>G) G G (q00 G) G ?_;intro v7 M w H hle hl7;replace hp:=hp.mono hle;refine NA (TK 6 G (fun _=>Ex.assign G) G (ON 4 Kr G ?_));first|refine q02 (q08 H rfl (by assumption) Ta21) (q00 rfl) rfl rfl ?_|refine q02 (XL H Ta21) (q00 rfl) rfl rfl ?_
   refine NA (ON 5 Kr G (ST (q0n G G) G (NA (ON 7 Kr G (AS G G (NA (q0l Kr (TN (RT ?_)))))))));refine q0y G G G H.ext ?_;exact⟨_,G,hl7⟩
 first|refine q02 (q08 H rfl (by assumption) Ta21) (q00 rfl) rfl rfl ?_|refine q02 (XL H Ta21) (q00 rfl) rfl rfl ?_
 refine NA (TK 5 G (fun _=>q0n G G) G (ON 2 Kr G (q0F (enc:=encB) ty88 [_] H G Kf (fun _=>G) G G (q00 G) G ?_)));intro v7 M w H hle hl7;refine NA (ON 6 Kr G (AS G G (NA (ON 7 Kr G (AS G G (NA (q0l Kr (TN (RT ?_)))))))));refine q0y G G G H.ext ?_;exact⟨_,G,hl7⟩
theorem decU_spec (v:Value)(l:Ls)(hs:l.length≤12000):Ct Tryz.prog 194 [v] (fun M=>Bs M v l) (fun r M=>Sl M encR r (decU l)):=by
 refine Ct.of Tryz.func194 (enters Tryz.func194 Kr G) G G G ?_;intro w0 M0 H hp;refine SQ (RG (AS G G (NL (TN (SQ (RG (MV G G (ST (q1X Tu88 Tu5 Tu9 H (by assumption) G) G ?_))))))));refine WR.runesOf H Tu9 Tu212 Tu21 G Om (q00 G) G ?_;intro v5 M w H hle hl5;refine AS G G (NL (TN (RT ?_)));refine q07 G G H.ext ?_;exact hl5
theorem encU_spec (c:Int)(h0 : -2147483648≤c)(h1:c≤2147483647):Ct Tryz.prog 195 [encR c] (fun _=>True) (fun r M =>∃v,r = .tuple #[v, .bool true]∧Bs M v (utf8 c)):=by
 refine Ct.of Tryz.func195 (enters Tryz.func195 Kr G) G G G ?_;intro w0 M0 H hp;refine SQ (RG (AS G G (AS G G (NL (TN (SQ (RG (MV G G (q05 H (appendRune_spec _ Om Om) G (trivial) (q00 G) G ?_)))))))));intro v5 M w H hle hr5;have hf5:=hr5;refine AS G G (AS G G (NL (TN (RT ?_))));refine q0y G G G H.ext ?_;exact⟨_,G,hf5⟩
theorem unit_or (x y:UInt8):((x.toNat*2 ^ 8 ||| y.toNat:Nat):Int)=unit x y:=by
 have hy:=y.toNat_lt;have h:=Nat.shiftLeft_add_eq_or_of_lt (a:=x.toNat) (b:=y.toNat) (i:=8) hy;rw[Nat.shiftLeft_eq] at h;rw[←h];unfold unit;omega
theorem unit_spec (v:Value)(l:Ls)(b i:Nat)(x y:UInt8)(hs:l.length≤12000)(hx:l[i]? = some x)(hy:l[i+1]? = some y):Ct Tryz.prog 216 [encN i,ptr b 0] (fun M=>Bs M v l∧CellM M ⟨b,0,none⟩ v) (fun r _=>r=encR (unit x y)):=by
 refine Ct.of Tryz.func216 (enters Tryz.func216 Kr G) G G G ?_;intro w0 M0 H hp;obtain⟨hb,hcell⟩:=hp;have hxl:=x.toNat_lt;have hyl:=y.toNat_lt;have hil:=(List.getElem?_eq_some_iff.1 hy).1;have hul:=unit_lt x y;refine SQ (RG (AS G G (NL (TN (SQ (q0H (m:=14) G G H ?_))))));intro w H;refine TK 1 G (fun _=>q01 G) G (TK 7 G (fun _=>q01 G) G (q0Z (v':=encN (i+1)) (i:=8) G Kr Kr Kr (fun _=>q0f G G Om) G (q00 G) G G (fun _ _=>G) ?_));refine q0R (i:=0) (j:=6) Kr G G ?_ ?_
 · first|refine q02 (q08 H rfl (by assumption) Ta88) (q00 rfl) rfl rfl ?_|refine q02 (XL H Ta88) (q00 rfl) rfl rfl ?_
   refine NA (q1R (i:=2) G Kr Kr Kr Tu88 Ts5 (by assumption) G G (hx) (q00 G) G ?_);intro p6 hc6;refine q0R (i:=3) (j:=6) Kr G G ?_ ?_
   · first|refine q02 (q08 H rfl (by assumption) Ta5) (q00 rfl) rfl rfl ?_|refine q02 (XL H Ta5) (q00 rfl) rfl rfl ?_
     refine NA (q0Z (v':=encR (x.toNat:Int)) (i:=4) G Kr Kr Kr (fun _=>q1V Tu5 Tu21 G) (congrArg encR (i32_in Om)) (q00 G) G G (fun _ _=>G) ?_);refine q0Z (v':=encR ((x.toNat*2 ^ 8:Nat):Int)) (i:=5) G Kr Kr Kr (fun _=>q1N (m:=x.toNat) (s:=8) G G Dc) (congrArg encR (i32_in Om)) (q00 G) G G (fun _ _=>G) ?_;refine ON 6 Kr G ?_;first|refine q02 (q08 H rfl (by assumption) Ta88) (q00 rfl) rfl rfl ?_|refine q02 (XL H Ta88) (q00 rfl) rfl rfl ?_
     refine NA (ON 9 Kr G (q1k Tu88 Ts5 (by assumption) G G (hy) (q00 G) G ?_));intro p13 hc13;refine NA (ON 10 Kr G ?_);first|refine q02 (q08 H rfl (by assumption) Ta5) (q00 rfl) rfl rfl ?_|refine q02 (XL H Ta5) (q00 rfl) rfl rfl ?_
     refine NA (ON 11 Kr G (q09 (v':=encR (y.toNat:Int)) (q1V Tu5 Tu21 G) (congrArg encR (i32_in Om)) (q00 G) G G ?_));refine NA (ON 12 Kr G (q09 (v':=encR (unit x y)) (q1M (m:=(x.toNat*2 ^ 8)) (s:=y.toNat) G G (by first|decide|(show _<256;omega)|(show _<4294967296;omega)|(show _<18446744073709551616;omega)) (by first|decide|(show _<256;omega)|(show _<4294967296;omega)|(show _<18446744073709551616;omega))) (congrArg encR (by rw[unit_or];exact i32_in Om)) (q00 G) G G ?_));refine NA (ON 13 Kr G (AS G G (NA (q0l Kr (TN (RT ?_))))));refine q07 G G H.ext ?_;exact G
   first|refine q02 (q08 H rfl (by assumption) Ta88) (q00 rfl) rfl rfl ?_|refine q02 (XL H Ta88) (q00 rfl) rfl rfl ?_
   refine NA (q1R (i:=9) G Kr Kr Kr Tu88 Ts5 (by assumption) G G (hy) (q00 G) G ?_);intro p13 hc13;refine q0R (i:=3) (j:=10) Kr G G ?_ ?_
   · first|refine q02 (q08 H rfl (by assumption) Ta5) (q00 rfl) rfl rfl ?_|refine q02 (XL H Ta5) (q00 rfl) rfl rfl ?_
     refine NA (q0Z (v':=encR (x.toNat:Int)) (i:=4) G Kr Kr Kr (fun _=>q1V Tu5 Tu21 G) (congrArg encR (i32_in Om)) (q00 G) G G (fun _ _=>G) ?_);refine q0Z (v':=encR ((x.toNat*2 ^ 8:Nat):Int)) (i:=5) G Kr Kr Kr (fun _=>q1N (m:=x.toNat) (s:=8) G G Dc) (congrArg encR (i32_in Om)) (q00 G) G G (fun _ _=>G) ?_;refine ON 10 Kr G ?_;first|refine q02 (q08 H rfl (by assumption) Ta5) (q00 rfl) rfl rfl ?_|refine q02 (XL H Ta5) (q00 rfl) rfl rfl ?_
     refine NA (ON 11 Kr G (q09 (v':=encR (y.toNat:Int)) (q1V Tu5 Tu21 G) (congrArg encR (i32_in Om)) (q00 G) G G ?_));refine NA (ON 12 Kr G (q09 (v':=encR (unit x y)) (q1M (m:=(x.toNat*2 ^ 8)) (s:=y.toNat) G G (by first|decide|(show _<256;omega)|(show _<4294967296;omega)|(show _<18446744073709551616;omega)) (by first|decide|(show _<256;omega)|(show _<4294967296;omega)|(show _<18446744073709551616;omega))) (congrArg encR (by rw[unit_or];exact i32_in Om)) (q00 G) G G ?_));refine NA (ON 13 Kr G (AS G G (NA (q0l Kr (TN (RT ?_))))));refine q07 G G H.ext ?_;exact G
   first|refine q02 (q08 H rfl (by assumption) Ta5) (q00 rfl) rfl rfl ?_|refine q02 (XL H Ta5) (q00 rfl) rfl rfl ?_
   refine NA (q0Z (v':=encR (y.toNat:Int)) (i:=11) G Kr Kr Kr (fun _=>q1V Tu5 Tu21 G) (congrArg encR (i32_in Om)) (q00 G) G G (fun _ _=>G) ?_);refine ON 3 Kr G ?_;first|refine q02 (q08 H rfl (by assumption) Ta5) (q00 rfl) rfl rfl ?_|refine q02 (XL H Ta5) (q00 rfl) rfl rfl ?_
   refine NA (ON 4 Kr G (q09 (v':=encR (x.toNat:Int)) (q1V Tu5 Tu21 G) (congrArg encR (i32_in Om)) (q00 G) G G ?_));refine NA (ON 5 Kr G (q09 (v':=encR ((x.toNat*2 ^ 8:Nat):Int)) (q1N (m:=x.toNat) (s:=8) G G Dc) (congrArg encR (i32_in Om)) (q00 G) G G ?_));refine NA (ON 12 Kr G (q09 (v':=encR (unit x y)) (q1M (m:=(x.toNat*2 ^ 8)) (s:=y.toNat) G G (by first|decide|(show _<256;omega)|(show _<4294967296;omega)|(show _<18446744073709551616;omega)) (by first|decide|(show _<256;omega)|(show _<4294967296;omega)|(show _<18446744073709551616;omega))) (congrArg encR (by rw[unit_or];exact i32_in Om)) (q00 G) G G ?_));refine NA (ON 13 Kr G (AS G G (NA (q0l Kr (TN (RT ?_))))));refine q07 G G H.ext ?_;exact G
 first|refine q02 (q08 H rfl (by assumption) Ta88) (q00 rfl) rfl rfl ?_|refine q02 (XL H Ta88) (q00 rfl) rfl rfl ?_
 refine NA (q1R (i:=9) G Kr Kr Kr Tu88 Ts5 (by assumption) G G (hy) (q00 G) G ?_);intro p13 hc13;refine q0R (i:=0) (j:=10) Kr G G ?_ ?_
 · first|refine q02 (q08 H rfl (by assumption) Ta88) (q00 rfl) rfl rfl ?_|refine q02 (XL H Ta88) (q00 rfl) rfl rfl ?_
   refine NA (q1R (i:=2) G Kr Kr Kr Tu88 Ts5 (by assumption) G G (hx) (q00 G) G ?_);intro p6 hc6;refine q0R (i:=3) (j:=10) Kr G G ?_ ?_
   · first|refine q02 (q08 H rfl (by assumption) Ta5) (q00 rfl) rfl rfl ?_|refine q02 (XL H Ta5) (q00 rfl) rfl rfl ?_
     refine NA (q0Z (v':=encR (x.toNat:Int)) (i:=4) G Kr Kr Kr (fun _=>q1V Tu5 Tu21 G) (congrArg encR (i32_in Om)) (q00 G) G G (fun _ _=>G) ?_);refine q0Z (v':=encR ((x.toNat*2 ^ 8:Nat):Int)) (i:=5) G Kr Kr Kr (fun _=>q1N (m:=x.toNat) (s:=8) G G Dc) (congrArg encR (i32_in Om)) (q00 G) G G (fun _ _=>G) ?_;refine ON 10 Kr G ?_;first|refine q02 (q08 H rfl (by assumption) Ta5) (q00 rfl) rfl rfl ?_|refine q02 (XL H Ta5) (q00 rfl) rfl rfl ?_
     refine NA (ON 11 Kr G (q09 (v':=encR (y.toNat:Int)) (q1V Tu5 Tu21 G) (congrArg encR (i32_in Om)) (q00 G) G G ?_));refine NA (ON 12 Kr G (q09 (v':=encR (unit x y)) (q1M (m:=(x.toNat*2 ^ 8)) (s:=y.toNat) G G (by first|decide|(show _<256;omega)|(show _<4294967296;omega)|(show _<18446744073709551616;omega)) (by first|decide|(show _<256;omega)|(show _<4294967296;omega)|(show _<18446744073709551616;omega))) (congrArg encR (by rw[unit_or];exact i32_in Om)) (q00 G) G G ?_));refine NA (ON 13 Kr G (AS G G (NA (q0l Kr (TN (RT ?_))))));refine q07 G G H.ext ?_;exact G
   first|refine q02 (q08 H rfl (by assumption) Ta5) (q00 rfl) rfl rfl ?_|refine q02 (XL H Ta5) (q00 rfl) rfl rfl ?_
   refine NA (q0Z (v':=encR (y.toNat:Int)) (i:=11) G Kr Kr Kr (fun _=>q1V Tu5 Tu21 G) (congrArg encR (i32_in Om)) (q00 G) G G (fun _ _=>G) ?_);refine ON 3 Kr G ?_;first|refine q02 (q08 H rfl (by assumption) Ta5) (q00 rfl) rfl rfl ?_|refine q02 (XL H Ta5) (q00 rfl) rfl rfl ?_
   refine NA (ON 4 Kr G (q09 (v':=encR (x.toNat:Int)) (q1V Tu5 Tu21 G) (congrArg encR (i32_in Om)) (q00 G) G G ?_));refine NA (ON 5 Kr G (q09 (v':=encR ((x.toNat*2 ^ 8:Nat):Int)) (q1N (m:=x.toNat) (s:=8) G G Dc) (congrArg encR (i32_in Om)) (q00 G) G G ?_));refine NA (ON 12 Kr G (q09 (v':=encR (unit x y)) (q1M (m:=(x.toNat*2 ^ 8)) (s:=y.toNat) G G (by first|decide|(show _<256;omega)|(show _<4294967296;omega)|(show _<18446744073709551616;omega)) (by first|decide|(show _<256;omega)|(show _<4294967296;omega)|(show _<18446744073709551616;omega))) (congrArg encR (by rw[unit_or];exact i32_in Om)) (q00 G) G G ?_));refine NA (ON 13 Kr G (AS G G (NA (q0l Kr (TN (RT ?_))))));refine q07 G G H.ext ?_;exact G
 first|refine q02 (q08 H rfl (by assumption) Ta5) (q00 rfl) rfl rfl ?_|refine q02 (XL H Ta5) (q00 rfl) rfl rfl ?_
 refine NA (q0Z (v':=encR (y.toNat:Int)) (i:=11) G Kr Kr Kr (fun _=>q1V Tu5 Tu21 G) (congrArg encR (i32_in Om)) (q00 G) G G (fun _ _=>G) ?_);refine ON 0 Kr G ?_;first|refine q02 (q08 H rfl (by assumption) Ta88) (q00 rfl) rfl rfl ?_|refine q02 (XL H Ta88) (q00 rfl) rfl rfl ?_
 refine NA (ON 2 Kr G (q1k Tu88 Ts5 (by assumption) G G (hx) (q00 G) G ?_));intro p6 hc6;refine NA (ON 3 Kr G ?_);first|refine q02 (q08 H rfl (by assumption) Ta5) (q00 rfl) rfl rfl ?_|refine q02 (XL H Ta5) (q00 rfl) rfl rfl ?_
 refine NA (ON 4 Kr G (q09 (v':=encR (x.toNat:Int)) (q1V Tu5 Tu21 G) (congrArg encR (i32_in Om)) (q00 G) G G ?_));refine NA (ON 5 Kr G (q09 (v':=encR ((x.toNat*2 ^ 8:Nat):Int)) (q1N (m:=x.toNat) (s:=8) G G Dc) (congrArg encR (i32_in Om)) (q00 G) G G ?_));refine NA (ON 12 Kr G (q09 (v':=encR (unit x y)) (q1M (m:=(x.toNat*2 ^ 8)) (s:=y.toNat) G G (by first|decide|(show _<256;omega)|(show _<4294967296;omega)|(show _<18446744073709551616;omega)) (by first|decide|(show _<256;omega)|(show _<4294967296;omega)|(show _<18446744073709551616;omega))) (congrArg encR (by rw[unit_or];exact i32_in Om)) (q00 G) G G ?_));refine NA (ON 13 Kr G (AS G G (NA (q0l Kr (TN (RT ?_))))));refine q07 G G H.ext ?_;exact G
end Go.Proofs.YtkmjdamkifbddaaGreatDoor
end
