/-
  AfF, AhF, AnF, Qp, Fd, Wfo, Wh, AmF: own texts of this repository (wip/tpl, wip/plans), merged and shaken by wip/tools/pack.py.
-/
import Derived.Test.YtkmjdamkifbddaaGreatDoorE7e
set_option maxRecDepth 100000
set_option linter.unusedVariables false
set_option linter.unusedSimpArgs false
section
namespace Go.Ph.Ad
open Go.Ph.Pl Go.Ph.Pf
abbrev Wrd : Type:=Ls × Bool
def nd : LT→Bool
 | .err=>true
 | .eof=>false
 | .tok _ t=>nd t
def sz : LT→Nat
 | .tok (.inr w) t=>w.1.length+1+sz t
 | .tok (.inl _) t=>sz t
 | _=>0
def dp : LT→Nat
 | .tok _ t=>dp t+1
 | _=>0
def wz : List Wrd→Nat
 | []=>0
 | w::l=>w.1.length+1+wz l
def jl : List Ls→Nat
 | []=>0
 | w::l=>w.length+1+jl l
theorem jl_app (x:Ls):∀l:List Ls,jl (l++[x])=jl l+(x.length+1)
 | []=>by simp [jl]
 | y::l=>by rw[l04,jl,jl,jl_app x l];omega
theorem jl_len :∀l:List Ls,l.length≤jl l
 | []=>l1a _
 | y::l=>by have:=jl_len l;rw [jl,l02];omega
theorem jn_jl :∀l:List Ls,(jn [32] l).length≤jl l-1
 | []=>l1a _
 | [x]=>by simp [jn,jl]
 | x::y::l=>by
   have:=jn_jl (y::l);rw[jn,jl];simp only[l00,l02,l03,jl] at this ⊢;omega
theorem wz_mem :∀{l:List Wrd} {x:Wrd},x∈l→x.1.length≤wz l
 | y::l,x,h=>by
   rw[wz];rcases List.mem_cons.1 h with rfl|h
   · omega
   have:=wz_mem h;omega
theorem un_len :∀(n:Nat) (t:Ls),t.length≤n→t.length≤10000→(Wd.un t).length≤4*t.length:=by
 intro n;induction n with
 | zero=>intro t h _;rw [l0a (by omega:t.length=0),Wd.un_nil];simp
 | succ n ih =>
   intro t h h2;cases t with
   | nil=>rw[Wd.un_nil];simp
   | cons c r =>
     cases hp:Wd.pw (c::r) with
     | none =>
       have:=ih r (by simp at h;omega) (by simp at h2;omega);rw[Wd.un_none hp];simp;omega
     | some p =>
       have hz:=Wd.pw_size h2 hp;have ha:=Wd.after_len ((c::r).drop p.2);rw[l01] at ha;have:=ih _ (by omega:(Wd.after ((c::r).drop p.2)).length≤n) Om;rw[Wd.un_some h2 hp,l00];omega
theorem named1 (run out:List Ls)(h1:jl run≤4001)(h2:jl out≤100000):∃o,Y1D run out=some ([],o)∧jl o≤jl out+4*jl run:=by
 unfold Y1D;cases run with
 | nil=>exact⟨out,rfl,by omega⟩
 | cons x r =>
   have hj:=jn_jl (x::r);have hl:=jl_len out;have hr:=jl_len (x::r);have hu:=un_len _ (jn [32] (x::r)) (l0e _) Om;have hx:1≤jl (x::r):=by rw[jl];omega
   unfold Y0c;rw[if_pos Sm,if_pos ⟨by omega,by omega⟩,bsome,Wd.decode_eq Om,bsome];dsimp only;rw[app_ok (by simp;omega),bsome];exact⟨_,G,by rw[jl_app];omega⟩
theorem namedL (l:List Wrd)(hw:l.length≤100000):∀(k i m:Nat) (out run:List Ls),l.length-i≤k→k<m→i≤l.length→jl run+wz (l.drop i)≤4001→jl out+4*jl run+4*wz (l.drop i)≤100000→
 ∃o r,Y0p l m out run (i:Int)=some (o,r)∧jl r≤4001∧jl o+4*jl r≤jl out+4*jl run+4*wz (l.drop i):=by
 intro k;induction k with
 | zero =>
   intro i m out run h1 h2 h3 h4 h5;obtain⟨m,rfl⟩ :∃k,m=k+1:=⟨m-1,by omega⟩
   rw[Y0p,if_neg Om];exact⟨_,_,G,by omega,by omega⟩
 | succ k ih =>
   intro i m out run h1 h2 h3 h4 h5;obtain⟨m,rfl⟩ :∃k,m=k+1:=⟨m-1,by omega⟩
   by_cases hi:i<l.length
   · rw[l09 hi,wz] at h4 h5 ⊢;rw[Y0p,if_pos Om,idx_nat,List.getElem?_eq_getElem hi,bsome];have hlo:=jl_len out;have hlr:=jl_len run;by_cases hq:l[i].2=true
     · obtain⟨o,e1,e2⟩:=named1 run out Om Om;have hl2:=jl_len o;rw[if_pos hq,e1,bsome];dsimp only;rw[app_ok (by simp;omega),bsome,chk_succ Om,bsome];obtain⟨o',r',q1,q2,q3⟩:=ih (i+1) m (o++[l[i].1]) [] Om Om Om (by rw[jl];omega) (by rw[jl_app,jl];omega);rw[jl_app,jl] at q3;exact⟨o',r',q1,q2,by omega⟩
     rw[if_neg hq,app_ok (by simp;omega),bsome,chk_succ Om,bsome];obtain⟨o',r',q1,q2,q3⟩:=ih (i+1) m out (run++[l[i].1]) Om Om Om (by rw[jl_app];omega) (by rw[jl_app];omega);rw[jl_app] at q3;exact⟨o',r',q1,q2,by omega⟩
   rw[Y0p,if_neg Om];exact⟨_,_,G,by omega,by omega⟩
theorem wz_len :∀l:List Wrd,l.length≤wz l
 | []=>l1a _
 | y::l=>by have:=wz_len l;rw [wz,l02];omega
def nam (l:List Wrd):Ls:=(Y1U l).getD []
theorem named_eq (l:List Wrd)(h:wz l≤4001):Y1U l=some (nam l)∧(nam l).length≤100000:=by
 have hl:=wz_len l;obtain⟨o,r,q1,q2,q3⟩:=namedL l Om l.length 0 FU [] [] Om (FU_gt Om) Om (by rw[jl,l0l];omega) (by rw[jl,l0l];omega);rw[jl,l0l] at q3;obtain⟨o',q4,q5⟩:=named1 r o q2 Om;have hj:=jn_jl o';have ho:=jl_len o';have:Y1U l=some (jn [32] o'):=by
  unfold Y1U;rw[show (0:Int)=((0:Nat):Int) from rfl,q1,bsome];dsimp only;rw[q4,bsome];dsimp only;unfold Y0c;rw[if_pos ⟨by omega,by omega⟩,bsome]
 unfold nam;rw[this];exact⟨G,by dsimp only[Option.getD];omega⟩
theorem lex_cons (c:UInt8)(l:Ls):lex (c::l)=if blB c=true then lex l else if c=40 then(match cmtF 1 l with|none => .err|some r=>lex r) else if c=34 then(match quF l with|none => .err|some p => .tok (.inr (p.1,true)) (lex p.2)) else
 if sgB c=true then .tok (.inl c) (lex l) else if waB c=true then .tok (.inr ((c::l).takeWhile waB,false)) (lex ((c::l).dropWhile waB)) else .err:=by
 by_cases h1:blB c=true
 · rw[if_pos h1,lex_blank h1]
 rw[if_neg h1,lex_eq];unfold nxF;rw[sk_cons,if_neg h1];by_cases h2:c=40
 · rw[if_pos h2,if_pos h2];cases cmtF 1 l with
   | none=>rfl
   | some r=>rw[bsome];dsimp only;rw [lex_eq];rfl
 rw[if_neg h2,if_neg h2,bsome];dsimp only;by_cases h3:c=34
 · rw[if_pos h3,if_pos h3];cases quF l <;> rfl
 rw[if_neg h3,if_neg h3];by_cases h4:sgB c=true
 · rw[if_pos h4,if_pos h4];rfl
 rw[if_neg h4,if_neg h4];by_cases h5:waB c=true
 · rw[if_pos h5,if_pos h5];rfl
 rw[if_neg h5,if_neg h5]
theorem quF_sz :∀(l:Ls) (p:Ls × Ls),quF l=some p→p.1.length+p.2.length<l.length
 | [],p,h=>by simp [quF] at h
 | [c],p,h=>by
   rw[quF] at h;split at h
   · cases h;simp
   cases h
 | c :: x::l,p,h=>by
   rw[quF] at h;split at h
   · cases h;simp
   split at h
   · obtain⟨q,h1,rfl⟩:=Option.map_eq_some_iff.1 h;have:=quF_sz l q h1;simp;omega
   obtain⟨q,h1,rfl⟩:=Option.map_eq_some_iff.1 h;have:=quF_sz (x::l) q h1;simp at this ⊢;omega
theorem lex_size :∀(n:Nat) (l:Ls),l.length≤n→sz (lex l)≤l.length+1∧dp (lex l)≤l.length∧((∀c r,l=c::r→waB c=false)→sz (lex l)≤l.length):=by
 intro n;induction n with
 | zero=>intro l h;rw [l0a (by omega:l.length=0),lex_nil];simp [sz,dp]
 | succ n ih =>
   intro l h;cases l with
   | nil=>rw[lex_nil];simp [sz,dp]
   | cons c l =>
     rw[l02] at h;rw[lex_cons,l02];by_cases h1:blB c=true
     · rw[if_pos h1];have:=ih l Om;omega
     rw[if_neg h1];by_cases h2:c=40
     · rw[if_pos h2];have hc:=cmtF_len l 1;revert hc;cases cmtF 1 l with
       | none=>intro _;simp [sz,dp]
       | some r=>intro hc;have:=hc r rfl;have:=ih r Om;dsimp only;omega
     rw[if_neg h2];by_cases h3:c=34
     · rw[if_pos h3];have hc:=quF_sz l;revert hc;cases quF l with
       | none=>intro _;simp [sz,dp]
       | some p=>intro hc;have:=hc p rfl;have:=ih p.2 Om;dsimp only;rw [sz,dp];dsimp only;omega
     rw[if_neg h3];by_cases h4:sgB c=true
     · rw[if_pos h4,sz,dp];have:=ih l Om;omega
     rw[if_neg h4];by_cases h5:waB c=true
     · rw[if_pos h5,sz,dp];have e:((c::l).takeWhile waB).length+((c::l).dropWhile waB).length=l.length+1:=by rw[←l00,List.takeWhile_append_dropWhile,l02]
       have e2:1≤((c::l).takeWhile waB).length:=by rw[l0w h5];simp
       have:=ih ((c::l).dropWhile waB) Om;have hd:=this.2.2 (fun d r hd=>by
        have:=List.head?_dropWhile_not waB (c::l);rw[hd] at this;simpa using this)
       refine⟨by dsimp only;omega,by omega,fun hc=>?_⟩;rw[hc c l rfl] at h5;cases h5
     rw[if_neg h5];simp [sz,dp]
def ub (c:Ls):Ls:=9::40::(c++[41,32])
abbrev St (t t':LT):Prop:=nd t'=nd t∧dp t'≤dp t∧sz t'≤sz t
theorem wordsS_st :∀(t:LT) (l:List Wrd) (t':LT),wordsS t=some (l,t')→nd t'=nd t∧l.length+dp t'≤dp t∧wz l+sz t'≤sz t
 | .err,l,t',h=>by cases h
 | .eof,l,t',h=>by cases h;exact ⟨rfl,l0e _,l0e _⟩
 | .tok (.inl c) t,l,t',h=>by cases h;exact ⟨rfl,by simp,by simp [wz]⟩
 | .tok (.inr w) t,l,t',h=>by
   rw[wordsS] at h;obtain⟨q,h1,h2⟩:=Option.map_eq_some_iff.1 h;cases h2;obtain⟨e1,e2,e3⟩:=wordsS_st t q.1 q.2 h1;rw[nd,dp,sz,wz,l02];exact⟨e1,by omega,by omega⟩
theorem isS_st {c:UInt8}{t t':LT}{b:Bool}(h:isS c t=some (b,t')):St t t'∧(b=true→dp t'<dp t):=by
 cases t with
 | err=>cases h
 | eof=>cases h;exact ⟨⟨rfl,l0e _,l0e _⟩,fun h=>by cases h⟩
 | tok e t =>
   cases e with
   | inr w=>cases h;exact ⟨⟨rfl,l0e _,l0e _⟩,fun h=>by cases h⟩
   | inl d =>
     rw[isS] at h;split at h
     · cases h;exact ⟨⟨rfl,by rw[dp];omega,by rw[sz];omega⟩,fun _=>by rw[dp];omega⟩
     cases h;exact ⟨⟨rfl,l0e _,l0e _⟩,fun h=>by cases h⟩
theorem needS_st {c:UInt8}{t t':LT}(h:needS c t=some t'):St t t'∧dp t'<dp t:=by
 obtain⟨⟨b,u⟩,h1,h2⟩:=bnd h;have:=isS_st h1;cases b with
 | true=>cases h2;exact ⟨this.1,this.2 rfl⟩
 | false=>cases h2
def domS : LT→Option (Ls × LT)
 | .tok (.inr (d,false)) t=>if domT d=true then some (d,t) else none
 | _=>none
def spcS (l:List Wrd)(t:LT):Option (Adr × LT) :=
 match l with
 | [(w,q)]=>if locT w=true∧(q=true∨dtF atB true w=true) then(needS 64 t).bind fun t=>(domS t).map fun p=>(([],w,p.1),p.2) else none
 | _=>none
def adrS (l:List Wrd)(t:LT):Option (Adr × LT) :=
 (isS 60 t).bind fun p=>if p.1=true then(wordsS p.2).bind fun q=>(spcS q.1 q.2).bind fun r=>(needS 62 r.2).map fun t=>((nam l,r.1.2),t) else spcS l p.2
def itmL : Nat→List Adr→LT→Option (List Adr × LT)
 | 0,_,_=>none
 | n+1,m,t=>(wordsS t).bind fun q=>(adrS q.1 q.2).bind fun r=>(isS 59 r.2).bind fun u=>if u.1=true then some (m++[r.1],u.2) else(needS 44 u.2).bind fun t=>itmL n (m++[r.1]) t
def itmS (t:LT):Option (Itm × LT) :=
 (wordsS t).bind fun q=>(isS 58 q.2).bind fun p=>if p.1=true then(if nam q.1=[] then none else(isS 59 p.2).bind fun u=>if u.1=true then some ((nam q.1,true,[]),u.2) else(itmL (dp u.2+1) [] u.2).map fun r=>((nam q.1,true,r.1),r.2))
  else(adrS q.1 p.2).map fun r=>(([],false,[r.1]),r.2)
def prsL : Nat→List Itm→LT→Option (List Itm × LT)
 | 0,_,_=>none
 | n+1,l,t=>(isS 44 t).bind fun p=>if p.1=true then(itmS p.2).bind fun r=>prsL n (l++[r.1]) r.2 else some (l,p.2)
def prsS (t:LT):Option (List Itm) :=
 match t with
 | .eof=>some []
 | t=>(itmS t).bind fun r=>(prsL (dp r.2+1) [r.1] r.2).bind fun p=>match p.2 with
   | .eof=>some p.1
   | _=>none
abbrev SzA (a:Adr):Prop:=a.1.length≤100000∧a.2.1.length≤100000∧a.2.2.length≤100000
abbrev SzI (x:Itm):Prop:=x.1.length≤100000∧x.2.2.length≤100000∧∀a∈x.2.2,SzA a
theorem domS_st {t t':LT}{d:Ls}(h:domS t=some (d,t')):St t t'∧d.length≤60:=by
 cases t with
 | err=>cases h
 | eof=>cases h
 | tok e t =>
   cases e with
   | inl c=>cases h
   | inr w =>
     obtain⟨w,q⟩:=w;cases q with
     | true=>cases h
     | false =>
       rw[domS] at h;split at h
       · rename_i hd;cases h;exact ⟨⟨rfl,by rw[dp];omega,by rw[sz];omega⟩,dom_len hd⟩
       cases h
theorem spcS_st {l:List Wrd}{t t':LT}{a:Adr}(h:spcS l t=some (a,t')):St t t'∧SzA a:=by
 unfold spcS at h;split at h
 · rename_i w q;split at h
   · rename_i hw;obtain⟨u,h1,h2⟩:=bnd h;obtain⟨p,h3,h4⟩:=Option.map_eq_some_iff.1 h2;cases h4;have e1:=needS_st h1;have e2:=domS_st h3;have e3:=loc_len hw.1;exact⟨⟨e2.1.1.trans e1.1.1,l0N e2.1.2.1 e1.1.2.1,l0N e2.1.2.2 e1.1.2.2⟩,by simp,by dsimp only;omega,by dsimp only;omega⟩
   cases h
 cases h
theorem adrS_st {l:List Wrd}{t t':LT}{a:Adr}(hl:wz l≤4001)(h:adrS l t=some (a,t')):St t t'∧SzA a:=by
 obtain⟨⟨b,u⟩,h1,h2⟩:=bnd h;have e1:=(isS_st h1).1;dsimp only at h2;split at h2
 · obtain⟨⟨m,v⟩,h3,h4⟩:=bnd h2;obtain⟨⟨c,w⟩,h5,h6⟩:=bnd h4;obtain⟨x,h7,h8⟩:=Option.map_eq_some_iff.1 h6;cases h8;have e2:=wordsS_st _ _ _ h3;have e3:=spcS_st h5;have e4:=needS_st h7;have e5:=(named_eq l hl).2;exact⟨⟨e4.1.1.trans (e3.1.1.trans (e2.1.trans e1.1)),by have:=e4.1.2.1;have:=e3.1.2.1;have:=e1.2.1;dsimp only at *;omega,by have:=e4.1.2.2;have:=e3.1.2.2;have:=e1.2.2;dsimp only at *;omega⟩,e5,e3.2.2⟩
 have e2:=spcS_st h2;exact⟨⟨e2.1.1.trans e1.1,l0N e2.1.2.1 e1.2.1,l0N e2.1.2.2 e1.2.2⟩,e2.2⟩
theorem itmL_st :∀(n:Nat) (m:List Adr) (t:LT) (m':List Adr) (t':LT),sz t≤4001→m.length+dp t≤100000→(∀a∈m,SzA a)→itmL n m t=some (m',t')→St t t'∧m'.length≤100000∧∀a∈m',SzA a:=by
 intro n;induction n with
 | zero=>intro m t m' t' _ _ _ h;cases h
 | succ n ih =>
   intro m t m' t' hs hd hm h;rw[itmL] at h;obtain⟨⟨l,u⟩,h1,h2⟩:=bnd h;obtain⟨⟨a,v⟩,h3,h4⟩:=bnd h2;obtain⟨⟨b,w⟩,h5,h6⟩:=bnd h4;have e1:=wordsS_st _ _ _ h1;dsimp only at h3 h5 h6;have e2:=adrS_st Om h3;have e3:=isS_st h5;have hma :∀x∈m++[a],SzA x:=by
    intro x hx;rcases List.mem_append.1 hx with hx|hx
    · exact hm x hx
    rw[List.mem_singleton.1 hx];exact e2.2
   have hn:=e3.1.1.trans (e2.1.1.trans e1.1);have hdp:=e2.1.2.1;have hsz:=e2.1.2.2;have hdq:=e3.1.2.1;have hsq:=e3.1.2.2;split at h6
   · rename_i hb;cases h6;have:=e3.2 hb;exact⟨⟨hn,by omega,by omega⟩,by simp;omega,hma⟩
   obtain⟨x,h7,h8⟩:=bnd h6;have e4:=needS_st h7;have:=e4.1.2.1;have:=e4.1.2.2;have:=e4.2;obtain⟨q1,q2⟩:=ih (m++[a]) x m' t' Om (by simp;omega) hma h8;have:=q1.2.1;have:=q1.2.2;exact⟨⟨q1.1.trans (e4.1.1.trans hn),by omega,by omega⟩,q2⟩
theorem itmS_st {t t':LT}{x:Itm}(hs:sz t≤4001)(hd:dp t≤4001)(h:itmS t=some (x,t')):St t t'∧SzI x:=by
 obtain⟨⟨l,u⟩,h1,h2⟩:=bnd h;obtain⟨⟨b,v⟩,h3,h4⟩:=bnd h2;have e1:=wordsS_st _ _ _ h1;dsimp only at h3 h4;have e2:=(isS_st h3).1;have hn:=e2.1.trans e1.1;have hdp:=e2.2.1;have hsz:=e2.2.2;have e5:=(named_eq l Om).2;split at h4
 · split at h4
   · cases h4
   obtain⟨⟨c,w⟩,h5,h6⟩:=bnd h4;have e3:=(isS_st h5).1;have:=e3.2.1;have:=e3.2.2;dsimp only at h6;split at h6
   · cases h6;exact⟨⟨e3.1.trans hn,by omega,by omega⟩,e5,by simp,by simp⟩
   obtain⟨⟨m,y⟩,h7,h8⟩:=Option.map_eq_some_iff.1 h6;cases h8;obtain⟨q1,q2,q3⟩:=itmL_st _ [] _ _ _ Om (by simp;omega) Sm h7;have:=q1.2.1;have:=q1.2.2;exact⟨⟨q1.1.trans (e3.1.trans hn),by dsimp only;omega,by dsimp only;omega⟩,e5,q2,q3⟩
 obtain⟨⟨a,y⟩,h7,h8⟩:=Option.map_eq_some_iff.1 h4;cases h8;obtain⟨q1,q2⟩:=adrS_st Om h7;have:=q1.2.1;have:=q1.2.2;exact⟨⟨q1.1.trans hn,by dsimp only;omega,by dsimp only;omega⟩,by simp,by simp,fun x hx=>by rw[List.mem_singleton.1 hx];exact q2⟩
theorem prsL_st :∀(n:Nat) (m:List Itm) (t:LT) (m':List Itm) (t':LT),sz t≤4001→dp t≤4001→m.length+dp t≤100000→(∀x∈m,SzI x)→prsL n m t=some (m',t')→nd t'=nd t∧m'.length≤100000∧∀x∈m',SzI x:=by
 intro n;induction n with
 | zero=>intro m t m' t' _ _ _ _ h;cases h
 | succ n ih =>
   intro m t m' t' hs hd1 hd hm h;rw[prsL] at h;obtain⟨⟨b,u⟩,h1,h2⟩:=bnd h;have e1:=isS_st h1;have:=e1.1.2.1;have:=e1.1.2.2;dsimp only at h2;split at h2
   · rename_i hb;have:=e1.2 hb;obtain⟨⟨x,v⟩,h3,h4⟩:=bnd h2;have e2:=itmS_st Om Om h3;have:=e2.1.2.1;have:=e2.1.2.2;obtain⟨q1,q2⟩:=ih (m++[x]) v m' t' Om Om (by simp;omega) (by
      intro y hy;rcases List.mem_append.1 hy with hy|hy
      · exact hm y hy
      rw[List.mem_singleton.1 hy];exact e2.2) h4
     exact⟨q1.trans (e2.1.1.trans e1.1.1),q2⟩
   cases h2;exact⟨e1.1.1,by omega,hm⟩
theorem prsS_st {t:LT}{l:List Itm}(hs:sz t≤4001)(hd:dp t≤4001)(h:prsS t=some l):nd t=false∧l.length≤100000∧∀x∈l,SzI x:=by
 unfold prsS at h;split at h
 · cases h;exact ⟨rfl,by simp,by simp⟩
 obtain⟨⟨x,u⟩,h1,h2⟩:=bnd h;obtain⟨⟨m,v⟩,h3,h4⟩:=bnd h2;have e1:=itmS_st hs hd h1;have:=e1.1.2.1;have:=e1.1.2.2;dsimp only at h3 h4;have e2:=prsL_st _ [x] u m v Om Om (by simp;omega) (fun y hy=>by rw[List.mem_singleton.1 hy];exact e1.2) h3;split at h4
 · cases h4;exact⟨(e2.1.trans e1.1.1).symm,e2.2⟩
 cases h4
theorem RnS.bind {α β:Type}{s:Ls}{f:Option ((α × (Ls × Int)) ⊕ Int)}{x:Option (α × LT)}{k:(α × (Ls × Int)) ⊕ Int→Option ((β × (Ls × Int)) ⊕ Int)}{g:α × LT→Option (β × LT)}(h:RnS s f x)
 (hk :∀a (j:Nat) t,j≤s.length→t=lex (s.drop j)→x=some (a,t)→RnS s (k (.inl (a,(s,(j:Int))))) (g (a,t))) (hn :∀n,k (.inr n)=some (.inr n)):RnS s (f.bind k) (x.bind g):=by
 cases x with
 | none=>obtain⟨n,h1,h2⟩:=h;rw [h2,bsome,hn];exact ⟨n,h1,rfl⟩
 | some p=>obtain⟨a,t⟩:=p;obtain ⟨j,h1,h2,h3⟩:=h;rw [h3,bsome,bsome];exact hk a j t h1 h2 rfl
theorem RsS.bind {β:Type}{s:Ls}{f:Option ((Ls × Int) ⊕ Int)}{x:Option LT}{k:(Ls × Int) ⊕ Int→Option ((β × (Ls × Int)) ⊕ Int)}{g:LT→Option (β × LT)}(h:RsS s f x)
 (hk :∀(j:Nat) t,j≤s.length→t=lex (s.drop j)→x=some t→RnS s (k (.inl (s,(j:Int)))) (g t)) (hn :∀n,k (.inr n)=some (.inr n)):RnS s (f.bind k) (x.bind g):=by
 cases x with
 | none=>obtain⟨n,h1,h2⟩:=h;rw [h2,bsome,hn];exact ⟨n,h1,rfl⟩
 | some t=>obtain⟨j,h1,h2,h3⟩:=h;rw [h3,bsome,bsome];exact hk j t h1 h2 rfl
theorem mapb {α β:Type}(f:α→β)(o:Option α):o.map f=o.bind fun a=>some (f a):=by cases o <;> rfl
theorem bid {α:Type}(o:Option α):(o.bind fun r=>some r)=o:=by cases o <;> rfl
theorem RnS.fail {α:Type}{s:Ls}(i:Nat):RnS (α:=α) s (some (.inr (i:Int))) none:=⟨_,l0k _,rfl⟩
theorem spc_run (s:Ls)(hs:Sml s)(i:Nat)(h3:i≤s.length)(l:List Wrd)(hl:wz l≤4001):RnS s (Y0r (s,(i:Int)) l) (spcS l (lex (s.drop i))):=by
 unfold Y0r
 match l,hl with
 | [],_=>rw[if_neg Sm,bsome,if_pos rfl,fail_eq,bsome];exact RnS.fail i
 | x::y::r,_=>rw[if_neg (by simp only[l02];omega),bsome,if_pos rfl,fail_eq,bsome];exact RnS.fail i
 | [(w, q)],hl =>
   have hi:idx [(w,q)] 0=some (w,q):=rfl;have hw:w.length≤4001:=l0N (wz_mem (l:=[(w,q)]) (x:=(w,q)) Sm) hl;have hbad:(if ((([(w,q)]:List (Ls × Bool)).length:Int)=(1:Int)) then(idx [(w,q)] 0).bind fun a5=>(Y2f a5.1).bind fun b6=>(if b6=true then(idx [(w,q)] 0).bind fun a8=>(if a8.2=true then some false else(idx [(w,q)] 0).bind fun a10=>(Y1Y a10.1).bind fun b11=>some (!b11)) else some true) else some true)=some (!decide (locT w=true∧(q=true∨dtF atB true w=true))):=by
    rw[if_pos (show((([(w,q)]:List (Ls × Bool)).length:Int)=(1:Int)) from rfl),hi,bsome,local_eq _ (by unfold Big;dsimp only;omega),bsome];dsimp only;cases locT w with
    | false=>rfl
    | true =>
      rw[if_pos rfl,bsome];dsimp only;cases q with
      | true=>rfl
      | false =>
        rw[if_neg Dc,bsome,dotted_eq _ (by dsimp only;omega),bsome];dsimp only;cases dtF atB true w <;> rfl
   rw[hbad,bsome,spcS];by_cases hg:locT w=true∧(q=true∨dtF atB true w=true)
   · rw[decide_eq_true hg,if_neg Dc,bsome,if_pos hg];dsimp only;refine RsS.bind (need_run s hs i h3 64) (fun j t j1 j2 _=>?_) fun _=>G
     dsimp only;rw[j2];cases hx:lex (s.drop j) with
     | err =>
       obtain⟨n,n1,n2⟩:=next_err s hs j j1 hx;rw[n2,bsome];exact ⟨n,n1,rfl⟩
     | eof =>
       obtain⟨k,_,k2⟩:=next_eof s hs j j1 hx;rw[k2,bsome];dsimp only;rw[okW_eq,bsome];dsimp only[getW,isW];simp only[l0h,if_false,bsome,if_true,fail_eq];exact RnS.fail k
     | tok e u =>
       obtain⟨k,k1,_,k3,k4⟩:=next_tok s hs j j1 hx;rw[k4,bsome];dsimp only;rw[okW_eq,bsome];cases e with
       | inl c =>
         dsimp only[getW,isW];simp only[l0h,if_false,bsome,if_true,fail_eq];exact RnS.fail k
       | inr v =>
         obtain⟨v,b⟩:=v;dsimp only[getW,isW];cases b with
         | true=>simp only[if_true,bsome,fail_eq];exact RnS.fail k
         | false =>
           simp only[if_true,l0h,if_false,domain_eq,bsome,domS];cases hd:domT v with
           | false=>simp only[l2e,if_true,fail_eq,bsome,l0h,if_false];exact RnS.fail k
           | true=>simp only[l1o,if_true,bsome,l0h,if_false,hi];exact ⟨k,k1,k3,rfl⟩
   rw[decide_eq_false hg,if_pos Dc,fail_eq,bsome,bsome,if_neg hg];exact RnS.fail i
theorem adr_run (s:Ls)(hs:Sml s)(i:Nat)(h3:i≤s.length)(l:List Wrd)(hl:wz l≤4001)(ht:sz (lex (s.drop i))≤4001):RnS s (Y0H (s,(i:Int)) l) (adrS l (lex (s.drop i))):=by
 unfold Y0H adrS;dsimp only;refine RnS.bind (is_run s hs i h3 60) (fun b j t j1 j2 j3=>?_) fun _=>G
 have e1:=(isS_st j3).1.2.2;dsimp only;cases b with
 | true =>
   rw[if_pos rfl,if_pos rfl,j2];refine RnS.bind (Y4C s hs j j1) (fun m k u k1 k2 k3=>?_) fun _=>G
   have e2:=wordsS_st _ _ _ k3;dsimp only;rw[k2];refine RnS.bind (spc_run s hs k k1 m (by rw[←j2] at e2;omega)) (fun a n v n1 n2 n3=>?_) fun _=>G
   dsimp only;rw[(named_eq l hl).1,bsome,n2,mapb];exact RsS.bind (need_run s hs n n1 62) (fun p w p1 p2 _=>⟨p,p1,p2,G⟩) fun _=>G
 | false =>
   rw[if_neg Dc,if_neg Dc,j2];have h:=spc_run s hs j j1 l hl;revert h;cases spcS l (lex (s.drop j)) with
   | none=>rintro⟨n,q1,q2⟩;rw [q2,bsome];exact ⟨n,q1,rfl⟩
   | some p=>obtain⟨a,v⟩:=p;rintro ⟨k,q1,q2,q3⟩;rw [q3,bsome];exact ⟨k,q1,q2,rfl⟩
theorem itmL_run (s:Ls)(hs:Sml s)(x:Ls)(y:Bool)(z:List Adr)(g:Ls)(b:Bool):∀(n m i:Nat) (acc:List Adr),i≤s.length→dp (lex (s.drop i))<n→dp (lex (s.drop i))<m→sz (lex (s.drop i))≤4001→acc.length+dp (lex (s.drop i))≤100000→
 RnS s (Y0I m s (i:Int) x y z g b acc) ((itmL n acc (lex (s.drop i))).bind fun r=>some ((g,b,r.1),r.2)):=by
 intro n;induction n with
 | zero=>intro m i acc _ h;omega
 | succ n ih =>
   intro m i acc h1 h2 h3 h4 h5;obtain⟨m,rfl⟩ :∃k,m=k+1:=⟨m-1,by omega⟩
   rw[Y0I,itmL,l2r];refine RnS.bind (Y4C s hs i h1) (fun l j t j1 j2 j3=>?_) fun _=>G
   have e1:=wordsS_st _ _ _ j3;dsimp only;rw[j2,l2r];rw[j2] at e1;refine RnS.bind (adr_run s hs j j1 l Om Om) (fun a k u k1 k2 k3=>?_) fun _=>G
   have e2:=(adrS_st Om k3).1;rw[k2] at e2;have e21:=e2.2.1;have e22:=e2.2.2;dsimp only;rw[app_ok (by simp;omega),bsome,k2,l2r];refine RnS.bind (is_run s hs k k1 59) (fun c p v p1 p2 p3=>?_) fun _=>G
   have e3:=(isS_st p3).1;rw[p2] at e3;have e31:=e3.2.1;have e32:=e3.2.2;dsimp only;cases c with
   | true=>rw[if_pos rfl,if_pos rfl];exact ⟨p,p1,p2,rfl⟩
   | false =>
     rw[if_neg Dc,if_neg Dc,p2,l2r];refine RsS.bind (need_run s hs p p1 44) (fun q w q1 q2 q3=>?_) fun _=>G
     have e4:=needS_st q3;rw[q2] at e4;have e41:=e4.1.2.2;have e42:=e4.2;rw[q2];exact ih m q (acc++[a]) q1 Om Om Om (by simp;omega)
theorem itm_run (s:Ls)(hs:Sml s)(i:Nat)(h3:i≤s.length)(ht:sz (lex (s.drop i))≤4001)(hd:dp (lex (s.drop i))≤4001):RnS s (Y0m (s,(i:Int))) (itmS (lex (s.drop i))):=by
 unfold Y0m itmS;dsimp only;refine RnS.bind (Y4C s hs i h3) (fun l j t j1 j2 j3=>?_) fun _=>G
 have e1:=wordsS_st _ _ _ j3;rw[j2] at e1;dsimp only;rw[j2];refine RnS.bind (is_run s hs j j1 58) (fun b k u k1 k2 k3=>?_) fun _=>G
 have e2:=(isS_st k3).1;rw[k2] at e2;have e21:=e2.2.1;have e22:=e2.2.2;dsimp only;rw[k2];cases b with
 | true =>
   rw[if_pos rfl,if_pos rfl,(named_eq l Om).1,bsome];by_cases hn:nam l=[]
   · rw[if_pos hn,if_pos hn,fail_eq,bsome,bsome];exact RnS.fail k
   rw[if_neg hn,if_neg hn,bsome];dsimp only;refine RnS.bind (is_run s hs k k1 59) (fun c p v p1 p2 p3=>?_) fun _=>G
   have e3:=(isS_st p3).1;rw[p2] at e3;have e31:=e3.2.1;have e32:=e3.2.2;dsimp only;cases c with
   | true=>rw[if_pos rfl,if_pos rfl];exact ⟨p,p1,p2,rfl⟩
   | false =>
     rw[if_neg Dc,if_neg Dc,p2,mapb,bid];exact itmL_run s hs _ _ _ _ _ _ FU p [] p1 (l0b _) (FU_gt Om) Om (by simp;omega)
 | false =>
   rw[if_neg Dc,if_neg Dc,mapb];exact RnS.bind (adr_run s hs k k1 l Om Om) (fun a p v p1 p2 _=>⟨p,p1,p2,G⟩) fun _=>G
abbrev PF : Type:=List Itm × (Int × Int)
def PrR (s:Ls)(f:Option ((List Itm × Ls × Int) ⊕ PF)):Option (List Itm × LT)→Prop
 | some (l,t) =>∃j:Nat,j≤s.length∧t=lex (s.drop j)∧f=some (.inl (l,s,(j:Int)))
 | none =>∃n:Int,f=some (.inr ([],(11,n)))∧0≤n∧n≤(s.length:Int)
theorem mn {n:Int}(h:0≤n)(k:Nat):0≤min n (k:Int)∧min n (k:Int)≤(k:Int):=by omega
theorem prsL_run (s:Ls)(hs:Sml s):∀(n m i:Nat) (l:List Itm),i≤s.length→dp (lex (s.drop i))<n→dp (lex (s.drop i))<m→sz (lex (s.drop i))≤4001→dp (lex (s.drop i))≤4001→l.length+dp (lex (s.drop i))≤100000→
 PrR s (Y1l s m l s (i:Int)) (prsL n l (lex (s.drop i))):=by
 intro n;induction n with
 | zero=>intro m i l _ h;omega
 | succ n ih =>
   intro m i l h1 h2 h3 h4 h5 h6;obtain⟨m,rfl⟩ :∃k,m=k+1:=⟨m-1,by omega⟩
   rw[Y1l,prsL];have hi:=is_run s hs i h1 44;revert hi;cases hx:isS 44 (lex (s.drop i)) with
   | none=>rintro⟨n,q1,q2⟩;rw [q2,bsome];exact ⟨_,rfl,mn q1 _⟩
   | some p =>
     obtain⟨b,t⟩:=p;rintro⟨j,j1,j2,j3⟩;have e1:=isS_st hx;rw[j2] at e1;have e11:=e1.1.2.1;have e12:=e1.1.2.2;rw[j3,bsome,bsome];dsimp only;cases b with
     | false=>rw[if_neg Dc,if_neg Dc];exact ⟨j,j1,j2,rfl⟩
     | true =>
       have e13:=e1.2 rfl;rw[if_pos rfl,if_pos rfl,j2];have ht:=itm_run s hs j j1 Om Om;revert ht;cases hy:itmS (lex (s.drop j)) with
       | none=>rintro⟨n,q1,q2⟩;rw [q2,bsome];exact ⟨_,rfl,mn q1 _⟩
       | some p =>
         obtain⟨x,u⟩:=p;rintro⟨k,k1,k2,k3⟩;have e2:=(itmS_st Om Om hy).1;rw[k2] at e2;have e21:=e2.2.1;have e22:=e2.2.2;rw[k3,bsome,bsome];dsimp only;rw[app_ok (by simp;omega),bsome,k2];exact ih m k (l++[x]) k1 Om Om Om Om (by simp;omega)
theorem parse_run (s:Ls)(hs:s.length≤4000):match prsS (lex s) with
 | none =>∃n:Int,Y1f s=some ([],(11,n))∧0≤n∧n≤(s.length:Int)
 | some l=>Y1f s=some (if (itemsF l).1=0 then(l,(0,0)) else([],((itemsF l).1,-2))):=by
 have hsm:Sml s:=by unfold Sml;omega
 have hz:=lex_size _ s (l0e _);have fin :∀l:List Itm,prsS (lex s)=some l→((Y1T l).bind fun(n85,n86)=>(Y1z (n85,n86)).bind fun b88=>(if b88=true then(Y0a n85 (-2)).bind fun(n91,n92)=>some (([]:List Itm),(n91,n92)) else(Y0T).bind fun(n94,n95)=>some (l,(n94,n95))))=some (if (itemsF l).1=0 then(l,(0,0)) else([],((itemsF l).1,-2))):=by
  intro l hl;obtain⟨_,h1,h2⟩:=prsS_st Om Om hl;have hb:BigL l:=⟨by omega,fun x hx=>⟨by have:=(h2 x hx).1;unfold Big;omega,by have:=(h2 x hx).2.1;omega,fun a ha=>by have h:=(h2 x hx).2.2 a ha;have e1:=h.1;have e2:=h.2.1;have e3:=h.2.2;exact ⟨by unfold Big;omega,by unfold Big;omega,by unfold Big;omega⟩⟩⟩
  rw[check_eq l hb,bsome];obtain⟨u,v,huv⟩ :∃u v,itemsF l=(u,v):=⟨_,_,rfl⟩
  rw[huv];by_cases hu:u=0
  · subst hu;simp [failed_eq,none_eq]
  simp [failed_eq,fault_eq,hu]
 unfold Y1f;rw[if_neg Om];have hp:=peek_run s hsm 0 Om;have hl0:lex (s.drop 0)=lex s:=rfl;rw[hl0] at hp;rcases hp with ⟨h,n,hn,hp⟩|⟨h,hp⟩
 · have hp':Y0f (s,0)=some (.inr n):=hp;rw[hp',bsome,h];exact ⟨_,rfl,mn hn _⟩
 have hp':Y0f (s,0)=some (.inl (elOf (lex s),(s,(0:Int)))):=hp;rw[hp',bsome];dsimp only;cases hx:lex s with
 | err=>exact absurd hx h
 | eof =>
   have:=fin [] (by rw[hx];rfl);rw[if_pos (show elOf .eof=none from rfl),bsome];exact this
 | tok e t =>
   rw[←hx,if_neg (show ¬elOf (lex s)=none by rw[hx];simp [elOf])];have hps:prsS (lex s)=(itmS (lex s)).bind fun r=>(prsL (dp r.2+1) [r.1] r.2).bind fun p=>match p.2 with
    | .eof=>some p.1
    | _=>none:=by rw[hx];rfl
   have ht:=itm_run s hsm 0 Om (by rw[hl0];omega) (by rw[hl0];omega);rw[hl0] at ht;revert ht hps;cases hy:itmS (lex s) with
   | none =>
     rintro hps ⟨n,q1,q2⟩;have q2':Y0m (s,0)=some (.inr n):=q2;rw[hps,q2',bsome,bsome];exact ⟨_,rfl,mn q1 _⟩
   | some p =>
     obtain⟨x,u⟩:=p;rintro hps ⟨k,k1,k2,k3⟩;have e2:=(itmS_st Om Om hy).1;rw[k2] at e2;have e21:=e2.2.1;have e22:=e2.2.2;have k3':Y0m (s,0)=some (.inl (x,(s,(k:Int)))):=k3;rw[k3',bsome];dsimp only;rw[app_ok Sm,bsome];have hr:=prsL_run s hsm (dp (lex (s.drop k))+1) FU k [x] k1 Om (FU_gt Om) Om Om (by simp;omega);rw[bsome] at hps;dsimp only at hps;rw[k2] at hps;revert hr hps;cases prsL (dp (lex (s.drop k))+1) [x] (lex (s.drop k)) with
     | none =>
       rintro hps ⟨n,hr,hn⟩;rw[l07,hr,hps,bsome,bsome];exact ⟨_,rfl,hn⟩
     | some p =>
       obtain⟨l,v⟩:=p;rintro hps ⟨j,j1,j2,j3⟩;rw[l07,j3,bsome];dsimp only;have hpk:=peek_run s hsm j j1;rw[←j2] at hpk;rw[bsome] at hps;dsimp only at hps;cases v with
       | err =>
         rcases hpk with ⟨_,n,hn,hpk⟩|⟨hh,_⟩
         · rw[hpk,hps,bsome,bsome];exact ⟨_,rfl,mn hn _⟩
         exact absurd G hh
       | eof =>
         rcases hpk with ⟨hh,_⟩|⟨_,hpk⟩
         · cases hh
         have:=fin l hps;rw[hpk,hps,bsome];dsimp only;rw[if_pos (show elOf .eof=none from rfl),bsome];exact this
       | tok e w =>
         rcases hpk with ⟨hh,_⟩|⟨_,hpk⟩
         · cases hh
         rw[hpk,hps,bsome];dsimp only;rw[if_neg (show ¬elOf (.tok e w)=none by simp [elOf]),fail_eq,bsome,bsome];exact ⟨_,rfl,mn (l0k _) _⟩
end Go.Ph.Ad
end
section
namespace Go.Ph.Ad
open Go.Ph.Pl Go.Ph.Pf
abbrev El : Type:=UInt8 ⊕ Wrd
def els : LT→List El
 | .tok e t=>e::els t
 | _=>[]
def ofL : List El→LT
 | [] => .eof
 | e::l => .tok e (ofL l)
abbrev okS (w:Ls)(q:Bool)(d:Ls):Prop:=(locT w=true∧(q=true∨dtF atB true w=true))∧domT d=true
inductive Mb : List El→Adr→Prop where
 | bare {w:Ls} {q:Bool} {d:Ls}:okS w q d→Mb [.inr (w,q), .inl 64, .inr (d,false)] ([],w,d)
 | full (W:List Wrd) {w:Ls} {q:Bool} {d:Ls}:okS w q d→Mb (W.map .inr++[.inl 60, .inr (w,q), .inl 64, .inr (d,false), .inl 62]) (nam W,w,d)
inductive Mbs : List El→List Adr→Prop where
 | one {p:List El} {a:Adr}:Mb p a→Mbs p [a]
 | cons {p m:List El} {a:Adr} {ar:List Adr}:Mb p a→Mbs m ar→Mbs (p ++ .inl 44::m) (a::ar)
inductive It : List El→Itm→Prop where
 | one {p:List El} {a:Adr}:Mb p a→It p ([],false,[a])
 | nil {W:List Wrd}:nam W≠ []→It (W.map .inr++[.inl 58, .inl 59]) (nam W,true,[])
 | cons {W:List Wrd} {m:List El} {ar:List Adr}:nam W≠ []→Mbs m ar→It (W.map .inr ++ .inl 58::(m++[.inl 59])) (nam W,true,ar)
inductive Its : List El→List Itm→Prop where
 | one {p:List El} {x:Itm}:It p x→Its p [x]
 | cons {p m:List El} {x:Itm} {xs:List Itm}:It p x→Its m xs→Its (p ++ .inl 44::m) (x::xs)
theorem wordsS_ofL :∀(W:List Wrd) (c:UInt8) (r:List El),wordsS (ofL (W.map .inr ++ .inl c::r))=some (W,ofL (.inl c::r))
 | [],c,r=>rfl
 | w::W,c,r=>by rw[l0f,l04,ofL,wordsS,wordsS_ofL W c r];rfl
theorem isS_yes (c:UInt8)(r:List El):isS c (ofL (.inl c::r))=some (true,ofL r):=by rw[ofL,isS,if_pos rfl]
theorem isS_no {c:UInt8}{e:El}{r:List El}(h:e≠ .inl c):isS c (ofL (e::r))=some (false,ofL (e::r)):=by
 cases e with
 | inl d=>rw[ofL,isS,if_neg (fun e=>h (by rw[e]))]
 | inr w=>rfl
theorem needS_yes (c:UInt8)(r:List El):needS c (ofL (.inl c::r))=some (ofL r):=by rw[needS,isS_yes];rfl
theorem spcS_ofL {w:Ls}{q:Bool}{d:Ls}(h:okS w q d)(r:List El):spcS [(w,q)] (ofL (.inl 64 :: .inr (d,false)::r))=some (([],w,d),ofL r):=by
 unfold spcS;dsimp only;rw[if_pos h.1,needS_yes,bsome,ofL,domS,if_pos h.2];rfl
theorem mb_ofL {p:List El}{a:Adr}(h:Mb p a)(r:List El):∃W c u,wordsS (ofL (p++r))=some (W,ofL (.inl c::u))∧c≠58∧adrS W (ofL (.inl c::u))=some (a,ofL r):=by
 cases h with
 | bare h =>
   rename_i w q d;refine⟨[(w,q)],64, .inr (d,false)::r,wordsS_ofL [(w,q)] _ _,by decide,?_⟩;unfold adrS;rw[isS_no Dc,bsome];exact spcS_ofL h r
 | full W h =>
   rename_i w q d;refine⟨W,60, .inr (w,q) :: .inl 64 :: .inr (d,false) :: .inl 62::r,by rw[l0c];exact wordsS_ofL W _ _,by decide,?_⟩;unfold adrS;rw[isS_yes,bsome];dsimp only;rw[if_pos rfl,show (.inr (w,q) :: .inl 64 :: .inr (d,false) :: .inl 62::r:List El)=[(w,q)].map .inr ++ .inl 64::(.inr (d,false) :: .inl 62::r) from rfl,wordsS_ofL,bsome];dsimp only;rw[spcS_ofL h,bsome];dsimp only;rw[needS_yes];rfl
theorem mb_head {p:List El}{a:Adr}(h:Mb p a):∃e u,p=e::u∧∀c,c≠60→e≠ .inl c:=by
 cases h with
 | bare h=>exact⟨_,_,rfl,fun c _=>by simp⟩
 | full W h =>
   cases W with
   | nil=>exact⟨_,_,rfl,fun c hc e=>hc (by cases e;rfl)⟩
   | cons w W=>exact⟨_,_,rfl,fun c _=>by simp⟩
theorem mbs_head {p:List El}{a:List Adr}(h:Mbs p a):∃e u,p=e::u∧e≠ .inl 59:=by
 cases h with
 | one h=>obtain⟨e,u,rfl,h2⟩:=mb_head h;exact ⟨e,u,rfl,h2 59 Dc⟩
 | cons h _=>obtain⟨e,u,rfl,h2⟩:=mb_head h;exact ⟨e,_,rfl,h2 59 Dc⟩
theorem dp_ofL :∀l:List El,dp (ofL l)=l.length
 | []=>rfl
 | e::l=>by rw[ofL,dp,dp_ofL l];rfl
theorem itmL_ofL {m:List El}{ar:List Adr}(h:Mbs m ar):∀(n:Nat) (acc:List Adr) (r:List El),m.length<n→itmL n acc (ofL (m ++ .inl 59::r))=some (acc++ar,ofL r):=by
 induction h with
 | one h =>
   intro n acc r hn;obtain⟨n,rfl⟩ :∃k,n=k+1:=⟨n-1,by omega⟩
   obtain⟨W,c,u,h1,_,h2⟩:=mb_ofL h (.inl 59::r);rw[itmL,h1,bsome];dsimp only;rw[h2,bsome];dsimp only;rw[isS_yes,bsome];rfl
 | cons h _ ih =>
   rename_i p m a ar _;intro n acc r hn;obtain⟨n,rfl⟩ :∃k,n=k+1:=⟨n-1,by omega⟩
   obtain⟨W,c,u,h1,_,h2⟩:=mb_ofL h (.inl 44::(m ++ .inl 59::r));rw[itmL,l0c,l04,h1,bsome];dsimp only;rw[h2,bsome];dsimp only;rw[isS_no Dc,bsome];dsimp only;rw[if_neg Dc,needS_yes,bsome,ih n _ r (by simp at hn;omega)];simp
theorem it_ofL {p:List El}{x:Itm}(h:It p x)(r:List El):itmS (ofL (p++r))=some (x,ofL r):=by
 unfold itmS;cases h with
 | one h =>
   obtain⟨W,c,u,h1,h2,h3⟩:=mb_ofL h r;rw[h1,bsome];dsimp only;rw[isS_no (by simpa using h2),bsome];dsimp only;rw[if_neg Dc,h3];rfl
 | nil h =>
   rename_i W;rw[l0c,l04,wordsS_ofL,bsome];dsimp only;rw[isS_yes,bsome];dsimp only;rw[if_pos rfl,if_neg h,l04,isS_yes,bsome];rfl
 | cons h hm =>
   rename_i W m ar;rw[l0c,l04,wordsS_ofL,bsome];dsimp only;rw[isS_yes,bsome];dsimp only;obtain⟨e,u,hu,he⟩:=mbs_head hm;have hno:isS 59 (ofL (m++[.inl 59]++r))=some (false,ofL (m++[.inl 59]++r)):=by rw[hu];exact isS_no he
   rw[if_pos rfl,if_neg h,hno,bsome];dsimp only;rw[if_neg Dc,l0c,l04,itmL_ofL hm _ [] _ (by rw[dp_ofL];simp;omega)];rfl
theorem prsL_ofL {l:List El}{xs:List Itm}(h:Its l xs):∀(n:Nat) (acc:List Itm),l.length+1<n→prsL n acc (ofL (.inl 44::l))=some (acc++xs, .eof):=by
 induction h with
 | one h =>
   intro n acc hn;obtain⟨n,rfl⟩ :∃k,n=k+1+1:=⟨n-2,by omega⟩
   have:=it_ofL h [];rw[l0g] at this;rw[prsL,isS_yes,bsome];dsimp only;rw[if_pos rfl,this,bsome];dsimp only;rw[prsL];rfl
 | cons h _ ih =>
   intro n acc hn;obtain⟨n,rfl⟩ :∃k,n=k+1:=⟨n-1,by omega⟩
   rw[prsL,isS_yes,bsome];dsimp only;rw[if_pos rfl,it_ofL h,bsome];dsimp only;rw[ih n _ (by simp at hn;omega)];simp
theorem its_ofL {l:List El}{xs:List Itm}(h:Its l xs):prsS (ofL l)=some xs:=by
 have hne :∀{p:List El} {x:Itm},It p x→p≠ []:=by
  intro p x h;cases h with
  | one h=>obtain⟨e,u,rfl,_⟩:=mb_head h;simp
  | nil h=>simp
  | cons h _=>simp
 have hp :∀l:List El,l≠ []→prsS (ofL l)=(itmS (ofL l)).bind fun r=>(prsL (dp r.2+1) [r.1] r.2).bind fun p=>match p.2 with
  | .eof=>some p.1
  | _=>none:=by
  intro l hl;cases l with
  | nil=>exact absurd rfl hl
  | cons e l=>rfl
 cases h with
 | one h =>
   have:=it_ofL h [];rw[l0g] at this;rw[hp _ (hne h),this];rfl
 | cons h h2 =>
   rename_i p m x xs;rw[hp _ Sm,it_ofL h,bsome];dsimp only;rw[prsL_ofL h2 _ _ (by rw[dp_ofL];simp)];rfl
end Go.Ph.Ad
end
section
namespace Go.Ph.Ad
open Go.Ph.Pl Go.Ph.Pf
def flR (run:List Ls):List Ls:=if run=[] then [] else [Wd.un (jn [32] run)]
def rns : List Ls→List Wrd→List Ls
 | run,[]=>flR run
 | run,(w,true)::l=>flR run++w::rns [] l
 | run,(w,false)::l=>rns (run++[w]) l
theorem named1_val (run out:List Ls)(h1:jl run≤4001)(h2:jl out≤100000):Y1D run out=some ([],out++flR run):=by
 unfold Y1D flR;cases run with
 | nil=>simp
 | cons x r =>
   have hj:=jn_jl (x::r);have hl:=jl_len out;have hr:=jl_len (x::r);have hx:1≤jl (x::r):=by rw[jl];omega
   unfold Y0c;rw[if_pos Sm,if_pos ⟨by omega,by omega⟩,bsome,Wd.decode_eq Om,bsome];dsimp only;rw[app_ok (by simp;omega),bsome,if_neg Sm]
theorem named_val :∀(l:List Wrd) (L:List Wrd) (i m:Nat) (out run:List Ls),L.drop i=l→L.length≤100000→i≤L.length→l.length<m→jl run+wz l≤4001→jl out+4*jl run+4*wz l≤100000→
 ∃o r,Y0p L m out run (i:Int)=some (o,r)∧o++flR r=out++rns run l:=by
 intro l;induction l with
 | nil =>
   intro L i m out run hd hL hi hm h4 h5;obtain⟨m,rfl⟩ :∃k,m=k+1:=⟨m-1,by omega⟩
   have:L.length≤i:=List.drop_eq_nil_iff.1 hd;rw[Y0p,if_neg Om];exact⟨_,_,G,G⟩
 | cons w l ih =>
   intro L i m out run hd hL hi hm h4 h5;obtain⟨m,rfl⟩ :∃k,m=k+1:=⟨m-1,by omega⟩
   have hlt:i<L.length:=by
    have:=congrArg List.length hd;rw[l01,l02] at this;omega
   rw[l09 hlt] at hd;injection hd with hd1 hd2;obtain⟨w,q⟩:=w;rw[wz] at h4 h5;have hlo:=jl_len out;have hlr:=jl_len run;rw[l02] at hm;rw[Y0p,if_pos Om,idx_nat,List.getElem?_eq_getElem hlt,bsome,hd1];dsimp only at h4 h5 ⊢;cases q with
   | true =>
     obtain⟨o,e1,e2⟩:=named1 run out Om Om;have e3:=named1_val run out Om Om;rw[e1] at e3;have e4:o=out++flR run:=by injection e3 with e3;exact congrArg Prod.snd e3
     have hl2:=jl_len o;rw[if_pos rfl,e1,bsome];dsimp only;rw[app_ok (by simp;omega),bsome,chk_succ Om,bsome];obtain⟨o',r',q1,q2⟩:=ih L (i+1) m (o++[w]) [] hd2 hL Om Om (by rw[jl];omega) (by rw[jl_app,jl];omega);exact⟨o',r',q1,by rw[q2,e4,rns];simp⟩
   | false =>
     rw[if_neg Dc,app_ok (by simp;omega),bsome,chk_succ Om,bsome];obtain⟨o',r',q1,q2⟩:=ih L (i+1) m out (run++[w]) hd2 hL Om Om (by rw[jl_app];omega) (by rw[jl_app];omega);exact⟨o',r',q1,by rw[q2,rns]⟩
theorem nam_val (l:List Wrd)(h:wz l≤4001):nam l=jn [32] (rns [] l):=by
 have hl:=wz_len l;obtain⟨o,r,q1,q2,q3⟩:=namedL l Om l.length 0 FU [] [] Om (FU_gt Om) Om (by rw[jl,l0l];omega) (by rw[jl,l0l];omega);obtain⟨o',r',q4,q5⟩:=named_val l l 0 FU [] [] l0l Om Om (FU_gt Om) (by rw[jl];omega) (by rw[jl];omega);rw[q1] at q4;cases q4;rw[jl,l0l] at q3;have q6:=named1_val r o q2 Om;obtain⟨o2,q7,q8⟩:=named1 r o q2 Om;rw[q6] at q7;have q9:o2=o++flR r:=by injection q7 with q7;exact (congrArg Prod.snd q7).symm
 have hj:=jn_jl o2;have ho:=jl_len o2;unfold nam Y1U;rw[show (0:Int)=((0:Nat):Int) from rfl,q1,bsome];dsimp only;rw[q6,bsome];dsimp only;unfold Y0c;rw[←q9,if_pos ⟨by omega,by omega⟩,bsome,q9,q5,l07];rfl
end Go.Ph.Ad
end
section
namespace Go.Ph.Qp
open Go
def digs : Ls:=[48,49,50,51,52,53,54,55,56,57,65,66,67,68,69,70]
def dig (n:Nat):UInt8:=digs.getD (n % 16) 0
def hexV (c:UInt8):Option Nat :=
 if 48≤c.toNat∧c.toNat≤57 then some (c.toNat-48) else if 65≤c.toNat∧c.toNat≤70 then some (c.toNat-55) else if 97≤c.toNat∧c.toNat≤102 then some (c.toNat-87) else none
abbrev bl (c:UInt8):Prop:=c.toNat=32∨c.toNat=9
abbrev lineAt (l:Ls):Prop:=l.take 2=[13,10]
theorem lineAt_iff {l:Ls}:lineAt l↔∃r,l=13::10::r:=by
 constructor
 · intro h;cases l with
   | nil=>cases h
   | cons a l=>cases l with
     | nil =>
       have:=congrArg List.length (show [a]=[13,10] from h);simp at this
     | cons b r =>
       have h':[a,b]=[13,10]:=h;simp only[List.cons.injEq,and_true] at h';exact⟨r,by rw[h'.1,h'.2]⟩
 rintro⟨r,rfl⟩;rfl
abbrev lit (c:UInt8)(r:Ls):Prop:=(33≤c.toNat∧c.toNat≤126∧c.toNat≠61)∨(bl c∧¬(r=[]∨lineAt r))
def hex (c:UInt8):Ls:=[61,dig (c.toNat / 16),dig c.toNat]
def sg (c:UInt8)(r:Ls):Ls:=if lit c r then [c] else hex c
theorem sg_len (c:UInt8)(r:Ls):1≤(sg c r).length∧(sg c r).length≤3:=by
 unfold sg hex;split <;> simp
def most (r:Ls):Nat:=if r≠ []∧¬lineAt r then 75 else 76
def encF : Nat→Nat→Ls→Ls
 | 0,_,_=>[]
 | _+1,_,[]=>[]
 | f+1,col,c::r =>
   if lineAt (c::r) then 13::10::encF f 0 (r.drop 1)
   else if most r<col+(sg c r).length then [61,13,10]++(sg c r++encF f (sg c r).length r) else sg c r++encF f (col+(sg c r).length) r
theorem encF_more :∀(f g col:Nat) (l:Ls),l.length≤f→l.length≤g→encF f col l=encF g col l:=by
 intro f;induction f with
 | zero =>
   intro g col l hf _;obtain rfl:=l0a (Nat.le_zero.1 hf);cases g <;> rfl
 | succ f ih =>
   intro g col l hf hg;cases l with
   | nil=>cases g <;> rfl
   | cons c r =>
     cases g with
     | zero=>simp at hg
     | succ g =>
       simp only[l02] at hf hg;simp only[encF];rw[ih g 0 (r.drop 1) (by rw[l01];omega) (by rw[l01];omega),ih g _ r Om Om,ih g _ r Om Om]
def enc (col:Nat)(l:Ls):Ls:=encF l.length col l
theorem enc_nil (col:Nat):enc col []=[]:=rfl
theorem enc_line (col:Nat)(r:Ls):enc col (13::10::r)=13::10::enc 0 r:=by
 unfold enc;simp only[l02,encF];rw[if_pos (show lineAt (13::10::r) from rfl),List.drop_one,List.tail_cons,encF_more _ r.length 0 r Om (l0e _)]
theorem enc_cons {col:Nat}{c:UInt8}{r:Ls}(h :¬lineAt (c::r)):enc col (c::r)=if most r<col+(sg c r).length then [61,13,10]++(sg c r++enc (sg c r).length r) else sg c r++enc (col+(sg c r).length) r:=by
 unfold enc;simp only[l02,encF];rw[if_neg h]
theorem enc_len :∀(n col:Nat) (l:Ls),l.length≤n→(enc col l).length≤6*l.length:=by
 intro n;induction n with
 | zero=>intro col l h;obtain rfl:=l0a (Nat.le_zero.1 h);simp [enc_nil]
 | succ n ih =>
   intro col l h;cases l with
   | nil=>simp [enc_nil]
   | cons c r =>
     simp only[l02] at h;by_cases hl:lineAt (c::r)
     · obtain⟨r',hr⟩:=lineAt_iff.1 hl;cases hr;simp only[l02] at h;have:=ih 0 r' Om;rw[enc_line];simp only[l02];omega
     rw[enc_cons hl];have h1:=sg_len c r;have h2:=ih (sg c r).length r Om;have h3:=ih (col+(sg c r).length) r Om;split
     · simp only[l00,l02,l03];omega
     simp only[l00,l02];omega
def esc (l:Ls):Option UInt8 :=
 if l[0]? = some 61 then match (l[1]?).bind hexV,(l[2]?).bind hexV with
  | some x,some y=>some (UInt8.ofNat (16*x+y))
  | _,_=>none
 else none
def plainF : Nat→Ls→Ls
 | 0,_=>[]
 | _+1,[]=>[]
 | f+1,c::r=>match esc (c::r) with
   | some x=>x::plainF f (r.drop 2)
   | none=>c::plainF f r
def plain (l:Ls):Ls:=plainF l.length l
def trimR (l:Ls):Ls:=(l.reverse.dropWhile (fun c=>decide (bl c))).reverse
def nlen (l:Ls):Nat:=min (l.findIdx (fun c=>decide (c=10))+1) l.length
def chop (x:UInt8)(l:Ls):Ls:=if l.getLast? = some x then l.dropLast else l
def body (s:Ls):Ls:=if s.getLast? = some 10 then chop 13 s.dropLast else s
def one (s:Ls):Ls:=if (trimR (body s)).getLast? = some 61 then plain (trimR (body s)).dropLast else plain (trimR (body s))++s.drop (body s).length
def lenF : Nat→Ls→Ls
 | 0,_=>[]
 | f+1,l=>if l=[] then [] else one (l.take (nlen l))++lenF f (l.drop (nlen l))
def lenient (l:Ls):Ls:=lenF l.length l
theorem trimR_snoc {P:Ls}{c:UInt8}(h :¬bl c):trimR (P++[c])=P++[c]:=by
 unfold trimR;rw[List.reverse_append,List.reverse_singleton,l1G,l0K (by simpa using h),List.reverse_cons,List.reverse_reverse]
theorem trimR_nil : trimR []=[]:=rfl
theorem trimR_blank {X Y:Ls}(h :∀c∈Y,bl c):trimR (X++Y)=trimR X:=by
 unfold trimR;rw[List.reverse_append,List.dropWhile_append_of_pos (fun c hc=>by simpa using h c (List.mem_reverse.1 hc))]
end Go.Ph.Qp
end
section
namespace Go.Ph.Fd
open Go Go.Ph.Qp
def bk (s:Ls)(i:Nat):Bool:=match s[i-1]?,s[i]? with
 | some a,some b=>decide (0<i∧bl b∧¬bl a)
 | _,_=>false
theorem bk_at {s:Ls}{i:Nat}{a b:UInt8}(h0:0<i)(ha:s[i-1]? = some a)(hb:s[i]? = some b):bk s i=decide (bl b∧¬bl a):=by
 unfold bk;rw[ha,hb];simp [h0]
theorem bk_drop (s:Ls)(a i:Nat)(hi:0<i):bk (s.drop a) i=bk s (a+i):=by
 unfold bk;rw[List.getElem?_drop,List.getElem?_drop,show a+(i-1)=a+i-1 by omega];have:0<a+i:=by omega
 simp [hi,this]
def sc (s:Ls):Nat→Nat→Nat→Nat
 | 0,_,best=>best
 | f+1,i,best=>if bk s i then(if best=0∨i≤78 then sc s f (i+1) i else sc s f (i+1) best) else sc s f (i+1) best
theorem sc_stay (s:Ls):∀(f i best:Nat),0<best→78<i→sc s f i best=best:=by
 intro f;induction f with
 | zero=>intro i best _ _;rfl
 | succ f ih =>
   intro i best h1 h2;rw[sc];split
   · rw[if_neg Om,ih _ _ h1 Om]
   exact ih _ _ h1 Om
def pt (s:Ls)(k:Nat):Nat:=sc s (s.length-k) k 0
theorem sc_le (s:Ls):∀(f i best:Nat),sc s f i best=best∨(i≤sc s f i best∧sc s f i best<i+f∧bk s (sc s f i best)=true):=by
 intro f;induction f with
 | zero=>intro i best;exact .inl rfl
 | succ f ih =>
   intro i best;rw[sc];split
   · rename_i hb;split
     · rcases ih (i+1) i with h|⟨h1,h2,h3⟩
       · exact .inr ⟨by omega,by omega,by rw[h];exact hb⟩
       exact .inr ⟨by omega,by omega,h3⟩
     rcases ih (i+1) best with h|⟨h1,h2,h3⟩
     · exact .inl h
     exact .inr ⟨by omega,by omega,h3⟩
   rcases ih (i+1) best with h|⟨h1,h2,h3⟩
   · exact .inl h
   exact .inr ⟨by omega,by omega,h3⟩
theorem pt_lt {s:Ls}{k:Nat}(hk:0<k)(h:pt s k≠0):k≤pt s k∧pt s k<s.length∧bk s (pt s k)=true:=by
 unfold pt at h ⊢;rcases sc_le s (s.length-k) k 0 with h1|⟨h1,h2,h3⟩
 · exact absurd h1 h
 exact⟨h1,by omega,h3⟩
def flF : Nat→Ls→Nat→List Ls
 | 0,s,_=>[s]
 | f+1,s,k=>if 78<s.length∧pt s k≠0 then s.take (pt s k)::flF f (s.drop (pt s k)) 1 else [s]
theorem flF_more :∀(f g:Nat) (s:Ls) (k:Nat),0<k→s.length≤f→s.length≤g→flF f s k=flF g s k:=by
 intro f;induction f with
 | zero =>
   intro g s k hk hf hg;cases g with
   | zero=>rfl
   | succ g=>rw[flF,flF,if_neg Om]
 | succ f ih =>
   intro g s k hk hf hg;cases g with
   | zero=>rw[flF,flF,if_neg Om]
   | succ g =>
     rw[flF,flF];split
     · rename_i h;have h1:=pt_lt hk h.2;rw[ih g _ 1 Om (by rw[l01];omega) (by rw[l01];omega)]
     rfl
def fl (s:Ls)(k:Nat):List Ls:=flF s.length s k
theorem fl_more {s:Ls}{k:Nat}(hk:0<k)(h:78<s.length∧pt s k≠0):fl s k=s.take (pt s k)::fl (s.drop (pt s k)) 1:=by
 have h1:=pt_lt hk h.2;unfold fl;rw[flF_more s.length (s.length-1+1) s k hk (l0e _) Om,flF,if_pos h,flF_more _ (s.drop (pt s k)).length _ 1 Om (by rw[l01];omega) (l0e _)]
theorem fl_end {s:Ls}{k:Nat}(h :¬(78<s.length∧pt s k≠0)):fl s k=[s]:=by
 unfold fl;cases hl:s.length with
 | zero=>rfl
 | succ n=>rw[flF,if_neg h]
theorem fl_flat :∀(n:Nat) (s:Ls) (k:Nat),0<k→s.length≤n→(fl s k).flatten=s:=by
 intro n;induction n with
 | zero =>
   intro s k _ h;obtain rfl:=l0a (Nat.le_zero.1 h);rfl
 | succ n ih =>
   intro s k hk h;by_cases hc:78<s.length∧pt s k≠0
   · have h1:=pt_lt hk hc.2;rw[fl_more hk hc,l0p,ih _ 1 Om (by rw[l01];omega),l0A]
   rw[fl_end hc];simp
def step (at_:Nat)(best:Int)(p:Nat):Int:=if at_<p∧((p:Int)-(at_:Int)≤78∨best<0) then(p:Int) else best
end Go.Ph.Fd
end
section
namespace Go.Ph.Pf
open Go.Ph.Pl Go.Ph.Qp Go.Ph.Fd
abbrev Big (l:Ls):Prop:=l.length≤140737488355328
theorem Y5v (c:UInt8):R_Blank c=some (decide (bl c)):=by
 unfold R_Blank bl;have e1:(c=32)↔c.toNat=32:=u8_lit c 32;have e2:(c=9)↔c.toNat=9:=u8_lit c 9;by_cases h:c=32
 · simp [h]
 rw[if_neg h];have h' :¬c.toNat=32:=fun x=>h (e1.2 x)
 simp [h',e2]
theorem Y2Y (c:UInt8):Y13 c=some (decide (bl c)):=Y5v c
theorem Y5j (l:Ls)(hl:Big l)(g:UInt8→Option Bool)(p:UInt8→Bool)(hg :∀c,g c=some (p c)):Y2U l g=some (l.all p):=by
 unfold Y2U;rw[scan0 (L:=Y1A l g) (l:=l) (p:=fun c => !p c) (stop := .inl ()) (r := .inr false) (FU_gt Om) (fun m=>by rw[Y1A,if_neg Om]) (fun m i h=>by
  rw[Y1A,if_pos Om,idx_nat,List.getElem?_eq_getElem h,chk_succ (by have:=hl;omega)];simp only[bsome,hg];cases p l[i] <;> simp)]
 simp only[bsome];rw[l2p];cases l.any (fun c => !p c) <;> simp
def nmB (c:UInt8):Bool:=decide (33≤c.toNat∧c.toNat≤126∧c.toNat≠58)
theorem fold_name_1_eq (c:UInt8):fold_name_1 c=some (nmB c):=by
 unfold fold_name_1 nmB;have e:(c=58)↔c.toNat=58:=u8_lit c 58;by_cases h1:33≤c.toNat <;> by_cases h2:c.toNat≤126 <;> by_cases h3:c.toNat=58 <;> simp [h1,h2,h3,e]
def nmL (l:Ls):Bool:=l.all nmB&&decide (1≤l.length∧l.length≤60)
theorem fold_name_eq (l:Ls)(hl:Big l):fold_name l=some (nmL l):=by
 unfold fold_name nmL;by_cases h:l=[]
 · subst h;rfl
 have hpos:1≤l.length:=by cases l <;> simp_all
 rw[if_neg h];by_cases h2:l.length≤60
 · rw[if_pos Om,Y5j l hl _ nmB fold_name_1_eq];simp [hpos,h2]
 rw[if_neg Om];simp [h2]
def endB (c:UInt8):Bool:=decide (c.toNat=13∨c.toNat=10∨c.toNat=0)
def trimL (l:Ls):Ls:=l.dropWhile (fun c=>decide (bl c))
theorem trimL_nil : trimL []=[]:=rfl
theorem trimL_pos {c:UInt8}{r:Ls}(h:bl c):trimL (c::r)=trimL r:=by unfold trimL;rw [l0C (by simpa using h)]
theorem trimL_neg {c:UInt8}{r:Ls}(h :¬bl c):trimL (c::r)=c::r:=by unfold trimL;rw [l0K (by simpa using h)]
theorem trimL_len (l:Ls):(trimL l).length≤l.length:=(List.dropWhile_sublist _).length_le
theorem trimR_len (l:Ls):(trimR l).length≤l.length:=by
 unfold trimR;rw [List.length_reverse];have:=(List.dropWhile_sublist (l:=l.reverse) (fun c=>decide (bl c))).length_le;simpa using this
theorem snoc_cases (l:Ls):l=[]∨∃a c,l=a++[c]:=by
 rcases List.eq_nil_or_concat l with h|⟨a,c,h⟩
 · exact .inl h
 exact .inr ⟨a,c,by rw[h,List.concat_eq_append]⟩
theorem trimR_bl {a:Ls}{c:UInt8}(h:bl c):trimR (a++[c])=trimR a:=trimR_blank (fun x hx=>by simp at hx;rw [hx];exact h)
theorem trimR_nb {a:Ls}{c:UInt8}(h :¬bl c):trimR (a++[c])=a++[c]:=trimR_snoc h
theorem trim_comm :∀(n:Nat) (l:Ls),l.length≤n→trimR (trimL l)=trimL (trimR l)
 | 0,l,h=>by obtain rfl:l=[]:=l0a Om;rfl
 | n + 1,l,h=>by
   cases l with
   | nil=>rfl
   | cons c r =>
     by_cases hc:bl c
     · rw[trimL_pos hc,trim_comm n r (by simpa using h)];rcases snoc_cases r with rfl|⟨a,d,rfl⟩
       · have:trimR [c]=[]:=by have:=trimR_bl (a:=[]) hc;simpa [trimR_nil] using this
         rw[this];rfl
       by_cases hd:bl d
       · rw[←l04,trimR_bl hd,trimR_bl hd];have ih:=trim_comm n (c::a) (by simp at h ⊢;omega);rw[←ih,trimL_pos hc,trim_comm n a (by simp at h;omega)]
       rw[←l04,trimR_nb hd,trimR_nb hd,l04,trimL_pos hc]
     rw[trimL_neg hc];rcases snoc_cases r with rfl|⟨a,d,rfl⟩
     · have:trimR [c]=[c]:=by have:=trimR_nb (a:=[]) hc;simpa using this
       rw[this,trimL_neg hc]
     by_cases hd:bl d
     · rw[←l04,trimR_bl hd];have ih:=trim_comm n (c::a) (by simp at h ⊢;omega);rw[trimL_neg hc] at ih;rw[←ih]
     rw[←l04,trimR_nb hd,l04,trimL_neg hc]
def trimB (l:Ls):Ls:=trimR (trimL l)
theorem set_blank : Y0G [32,9]=some ((List.range 256).map (fun n=>decide (n=32∨n=9)),true):=by decide +kernel
theorem set_end : Y0G [13,10,0]=some ((List.range 256).map (fun n=>decide (n=13∨n=10∨n=0)),true):=by decide +kernel
theorem contains_at (f:Nat→Bool)(c:UInt8):Y0t ((List.range 256).map f) c=some (f c.toNat):=by
 have hc:=c.toNat_lt;unfold Y0t idxA;rw[if_pos Sm,idx_nat,List.getElem?_map,List.getElem?_range Om];rfl
theorem trimRA_eq :∀(k m:Nat) (l:Ls),l.length≤k→k<m→Big l→Y0j ((List.range 256).map (fun n=>decide (n=32∨n=9))) m l=some (trimR l)
 | k,m,l,h1,h2,h3=>by
   obtain⟨m,rfl⟩ :∃k,m=k+1:=⟨m-1,by omega⟩
   rcases snoc_cases l with rfl|⟨a,c,rfl⟩
   · rw[Y0j,if_neg Sm];rfl
   have hl:(a++[c]).length=a.length+1:=by simp
   simp only[Big,hl] at h3;rw[Y0j,if_pos (by rw[hl];omega),hl,show ((a.length+1:Nat):Int)-1=((a.length:Nat):Int) by omega,chk_ok Om Om];simp only[bsome];rw[idx_nat,List.getElem?_append_right (l0e _)];simp only[Nat.sub_self,List.getElem?_cons_zero,bsome,contains_at];by_cases hc:bl c
   · rw[decide_eq_true (show c.toNat=32∨c.toNat=9 from hc),if_pos rfl,cut_to rfl (by rw[hl];omega)];simp only[bsome,l1q];cases k with
     | zero=>rw[hl] at h1;omega
     | succ k=>rw[trimRA_eq k m a (by rw[hl] at h1;omega) Om (by unfold Big;omega),trimR_bl hc]
   rw[decide_eq_false (show ¬(c.toNat=32∨c.toNat=9) from hc),if_neg Sm,trimR_nb hc]
theorem trimLA_eq :∀(k m:Nat) (l:Ls),l.length≤k→k<m→Big l→Y0o ((List.range 256).map (fun n=>decide (n=32∨n=9))) m l=some (trimL l)
 | k,m,l,h1,h2,h3=>by
   obtain⟨m,rfl⟩ :∃k,m=k+1:=⟨m-1,by omega⟩
   cases l with
   | nil=>rw[Y0o,if_neg Sm];rfl
   | cons c r =>
     rw[Y0o,if_pos (by simp only[l02];omega),show (0:Int)=((0:Nat):Int) from rfl,idx_nat];simp only[bsome,List.getElem?_cons_zero,contains_at];by_cases hc:bl c
     · rw[decide_eq_true (show c.toNat=32∨c.toNat=9 from hc),if_pos rfl,cut_from (i:=1) (a:=1) rfl Sm];simp only[bsome,l0Y,l0l];cases k with
       | zero=>simp at h1
       | succ k=>rw[trimLA_eq k m r (by simpa using h1) Om (by simp only[Big,l02] at h3 ⊢;omega),trimL_pos hc]
     rw[decide_eq_false (show ¬(c.toNat=32∨c.toNat=9) from hc),if_neg Sm,trimL_neg hc]
theorem rep_len : chkA 256 (List.replicate 256 false:List Bool)=some (List.replicate 256 false):=chkA_ok l0W
theorem rng_len (f:Nat→Bool):chkA 256 ((List.range 256).map f)=some ((List.range 256).map f):=chkA_ok (by rw[l0d,List.length_range])
theorem Y53 (l:Ls)(hl:Big l):Y3q l [32,9]=some (trimB l):=by
 unfold Y3q;by_cases h:l=[]
 · subst h;rfl
 rw[if_neg h];simp only[bsome,show (decide (([32,9]:Ls)=[]))=false from rfl,l0h,if_false];rw[if_neg Dc];simp only[bsome,l0h,if_false,set_blank,rep_len,rng_len,if_true];unfold Y26 Y2e;rw[trimRA_eq l.length FU l (l0e _) (FU_gt Om) hl];simp only[bsome];have:=trimR_len l;rw[trimLA_eq (trimR l).length FU (trimR l) (l0e _) (FU_gt Om) (by unfold Big;omega)];simp only[bsome];rw[trimB,trim_comm l.length l (l0e _)]
theorem dr_facts (l:Ls):1≤(Utf.dr l).2∧(Utf.dr l).2≤4∧(Utf.nat l 0<128→(Utf.dr l).1=Utf.nat l 0∧(Utf.dr l).2=1)∧(128≤Utf.nat l 0→128≤(Utf.dr l).1)∧
 (2≤(Utf.dr l).2→128≤Utf.nat l 1∧1<l.length)∧(3≤(Utf.dr l).2→128≤Utf.nat l 2∧2<l.length)∧(4≤(Utf.dr l).2→128≤Utf.nat l 3∧3<l.length)∧(Utf.dr l).1≤1114111:=by
 have h0:=Utf.nat_lt l 0;have h1:=Utf.nat_lt l 1;have h2:=Utf.nat_lt l 2;have h3:=Utf.nat_lt l 3;unfold Utf.dr Lib.decodeN;split
 · refine⟨by omega,by omega,fun _=>⟨G,G⟩,fun h=>by omega,fun h=>by omega,fun h=>by omega,fun h=>by omega,by omega⟩
 split
 · split <;> simp only[] <;> omega
 split
 · split <;> simp only[] <;> omega
 split
 · split <;> simp only[] <;> omega
 simp only[];omega
theorem endB_lt {c:UInt8}(h:endB c=true):c.toNat<128:=by unfold endB at h;rw [decide_eq_true_eq] at h;omega
theorem any_rune {l:Ls}{ps:Nat}(h:ps<l.length):(l.drop ps).any endB=(decide ((Utf.dr (l.drop ps)).1=13∨(Utf.dr (l.drop ps)).1=10∨(Utf.dr (l.drop ps)).1=0) ||(l.drop (ps+(Utf.dr (l.drop ps)).2)).any endB):=by
 obtain⟨a1,a2,a3,a4,a5,a6,a7,a8⟩:=dr_facts (l.drop ps);have hl:(l.drop ps).length=l.length-ps:=l01;have hn :∀j,ps+j<l.length→Utf.nat (l.drop ps) j=(l[ps+j]?.getD 0).toNat:=fun j hj=>by rw[Utf.nat_drop];unfold Utf.nat;rw [l0y]
 have hnb :∀j (hj:ps+j<l.length),128≤Utf.nat (l.drop ps) j→endB l[ps+j]=false:=fun j hj h8=>by
  rw[hn j hj,List.getElem?_eq_getElem hj] at h8;cases hb:endB l[ps+j] with
  | false=>rfl
  | true=>have:=endB_lt hb;simp at h8;omega
 have hd :∀j,ps+j<l.length→(l.drop (ps+j)).any endB=((l[ps+j]?.elim false endB) ||(l.drop (ps+j+1)).any endB):=fun j hj=>by
  rw[drop_cons hj,l17,List.getElem?_eq_getElem hj];rfl
 have hfirst:(l[ps]?.elim false endB)=decide ((Utf.dr (l.drop ps)).1=13∨(Utf.dr (l.drop ps)).1=10∨(Utf.dr (l.drop ps)).1=0):=by
  rw[List.getElem?_eq_getElem h];have h0:=hn 0 Om;rw[l1i,List.getElem?_eq_getElem h] at h0;simp only[l1A] at h0;show endB l[ps]=_
  rcases l0S (Utf.nat (l.drop ps) 0) 128 with hc|hc
  · rw[(a3 hc).1,h0];rfl
  have:=hnb 0 Om hc;simp only[l1i] at this;rw[this];have:=a4 hc;exact(decide_eq_false Om).symm
 have d0:=hd 0 Om;simp only[l1i] at d0;rw[d0,hfirst];congr 1;have skip :∀j,ps+j<l.length→128≤Utf.nat (l.drop ps) j→(l.drop (ps+j)).any endB=(l.drop (ps+j+1)).any endB:=fun j hj h8=>by
  rw[hd j hj,List.getElem?_eq_getElem hj];show(endB l[ps+j] || _)=_
  rw[hnb j hj h8,l1h]
 rcases(show(Utf.dr (l.drop ps)).2=1∨(Utf.dr (l.drop ps)).2=2∨(Utf.dr (l.drop ps)).2=3∨(Utf.dr (l.drop ps)).2=4 by omega) with e|e|e|e
 · rw[e]
 · rw[e,skip 1 Om (a5 Om).1]
 · rw[e,skip 1 (by have:=(a5 Om).2;omega) (a5 Om).1,skip 2 (by have:=(a6 Om).2;omega) (a6 Om).1]
 rw[e,skip 1 (by have:=(a5 Om).2;omega) (a5 Om).1,skip 2 (by have:=(a6 Om).2;omega) (a6 Om).1,skip 3 (by have:=(a7 Om).2;omega) (a7 Om).1]
theorem ub_high {a:Int}(h1:128≤a)(h2:a<256):128≤(Ph.ub a).toNat:=by
 unfold Ph.ub;rw[UInt8.toNat_ofNat'];omega
theorem Y5A {r:Int}(h:128≤r):2≤(Chs.utf8 r).length∧(Chs.utf8 r).length≤4∧∀c∈Chs.utf8 r,128≤c.toNat:=by
 have hf:128≤Chs.fixN r:=by unfold Chs.fixN;split <;> omega
 have hk:=Chs.fixN_ok r;unfold Chs.utf8 Chs.utf8M;rw[if_neg Om];split
 · refine⟨by simp,by simp,fun c hc=>?_⟩;simp only[l0U,l0L,or_false] at hc;rcases hc with rfl|rfl <;> exact ub_high Om Om
 split
 · refine⟨by simp,by simp,fun c hc=>?_⟩;simp only[l0U,l0L,or_false] at hc;rcases hc with rfl|rfl|rfl <;> exact ub_high Om Om
 refine⟨by simp,by simp,fun c hc=>?_⟩;simp only[l0U,l0L,or_false] at hc;rcases hc with rfl|rfl|rfl|rfl <;> exact ub_high Om Om
theorem ix_low :∀n:Nat,n<128→decide ((0:Int)≤ixB [13,10,0] (ub8 (n:Int)))=decide (n=13∨n=10∨n=0):=by decide +kernel
theorem ix_high :∀k,k<4→∀n,n<256→128≤n→ixB (([13,10,0]:Ls).drop k) (UInt8.ofNat n) = -1:=by decide +kernel
theorem IndexRune_end (r:Nat):∃n,Y22 [13,10,0] (r:Int)=some n∧decide ((0:Int)≤n)=decide (r=13∨r=10∨r=0):=by
 unfold Y22;rw[if_pos Om];simp only[bsome];by_cases h1:r<128
 · rw[decide_eq_true Om,if_pos rfl];exact⟨_,G,ix_low r h1⟩
 rw[decide_eq_false Om,if_neg Sm,decide_eq_false (show ¬(r=13∨r=10∨r=0) by omega)];have neg :∀{x:Option Int},x=some (-1)→∃n,x=some n∧decide ((0:Int)≤n)=false:=fun h=>⟨-1,h,by decide⟩
 refine neg ?_;by_cases h2:(r:Int)=65533
 · rw[if_pos h2];decide +kernel
 rw[if_neg h2];have hv :∃b,Y2j (r:Int)=some b:=by
  unfold Y2j;rw[if_pos Om];simp only[bsome];split
  · exact⟨_,G⟩
  split
  · simp only[bsome];split <;> exact⟨_,rfl⟩
  simp only[bsome];exact ⟨_,rfl⟩
 obtain⟨b,hb⟩:=hv;rw[hb];simp only[bsome];cases b with
 | false=>rfl
 | true =>
   rw[if_pos rfl];obtain⟨u1,u2,u3⟩:=Y5A (r:=(r:Int)) Om;rw[show ((Chs.utf8 (r:Int)).length:Int)-1=(((Chs.utf8 (r:Int)).length-1:Nat):Int) by omega,chk_ok Om Om];simp only[bsome];generalize hk:(Chs.utf8 (r:Int)).length-1=k;rw[show FU=18446744073709551615+1 from rfl,Y1O];have hkl:k<(Chs.utf8 (r:Int)).length:=by omega
   have hc:=u3 _ (l0E hkl);by_cases h3:k<3
   · rw[if_pos (by simp;omega),idx_nat,idx_nat,List.getElem?_eq_getElem hkl,List.getElem?_eq_getElem (show k<([13,10,0]:Ls).length from h3)];simp only[bsome];have hne :¬(([13,10,0]:Ls)[k]'h3=(Chs.utf8 (r:Int))[k]):=by
      intro he;rw[←he] at hc;have :∀k (h:k<3),(([13,10,0]:Ls)[k]'h).toNat<128:=by decide
      have:=this k h3;omega
     rw[if_neg hne,chk_succ Om];simp only[bsome];rw[cut_from rfl (by simp;omega)];simp only[bsome];unfold Y0x;have hx:=ix_high (k+1) Om ((Chs.utf8 (r:Int))[k]).toNat (UInt8.toNat_lt _) hc;rw[UInt8.ofNat_toNat] at hx;rw[hx];simp only[bsome];rw[if_pos Om];simp only[bsome]
   rw[if_neg (by simp;omega)];simp only[bsome]
theorem IndexAny_L2_end (l:Ls):∀(k ps m:Nat),l.length-ps≤k→k<m→∃o,Y0N l [13,10,0] m ps=some o∧((l.drop ps).any endB=true→∃n,o = .inr n∧0≤n)∧((l.drop ps).any endB=false→o = .inl ())
 | k,ps,m,h1,h2=>by
   obtain⟨m,rfl⟩ :∃k,m=k+1:=⟨m-1,by omega⟩
   by_cases h:ps<l.length
   · rw[Y0N,if_pos h];obtain⟨n,hn1,hn2⟩:=IndexRune_end (Utf.dr (l.drop ps)).1;rw[hn1];simp only[bsome];rw[any_rune h];by_cases hc:0≤n
     · rw[if_pos hc];rw[decide_eq_true hc] at hn2;rw[←hn2];exact⟨_,G,fun _=>⟨_,G,by omega⟩,fun h=>by simp at h⟩
     rw[if_neg hc];rw[decide_eq_false hc] at hn2;rw[←hn2,l1h];have hs:=(dr_facts (l.drop ps)).1;cases k with
     | zero=>omega
     | succ k=>exact IndexAny_L2_end l k (ps+(Utf.dr (l.drop ps)).2) m Om Om
   rw[Y0N,if_neg h,l1r Om];exact⟨_,G,fun h=>by simp at h,fun _=>G⟩
theorem fold_ends_eq (l:Ls)(hl:Big l):fold_ends l=some (l.any endB):=by
 unfold fold_ends Y1r Y27 Y0D;rw[if_neg Dc,if_neg Dc];simp only[bsome];by_cases h8:8<l.length
 · rw[decide_eq_true Om,if_pos rfl,set_end];simp only[bsome,rep_len,rng_len,if_true];rcases scanP (Y0M l ((List.range 256).map (fun n=>decide (n=13∨n=10∨n=0)))) l (fun i c=>if endB c=true then some (Sum.inr (i:Int)) else none) (.inl ()) (fun m=>by rw[Y0M,if_neg Om]) (fun m i h=>by
    rw[Y0M,if_pos Om,idx_nat,List.getElem?_eq_getElem h,chk_succ (by have:=hl;omega)];simp only[bsome,contains_at];show(if endB l[i]=true then _ else _)=_
    by_cases he:endB l[i]=true
    · rw[if_pos he,if_pos he]
    rw[if_neg he,if_neg he]) l.length 0 FU Om (FU_gt Om) Om with ⟨j,hj,r,a1,a2,a3,a4⟩|⟨a1,a2⟩
   · rw[show ((0:Nat):Int)=0 from rfl] at a4;rw[a4];split at a2
     · rename_i he;cases a2;have:l.any endB=true:=List.any_eq_true.2 ⟨_,l0E hj,he⟩;rw[this];simp only[bsome];rw[decide_eq_true Om]
     cases a2
   rw[show ((0:Nat):Int)=0 from rfl] at a2;rw[a2];have:l.any endB=false:=by
    rw[l2N];intro c hc;obtain⟨i,hi,rfl⟩:=l1Y hc;have:=a1 i hi Om;intro he;rw[if_pos he] at this;cases this
   rw[this];simp only[bsome];rfl
 rw[decide_eq_false Om,if_neg Sm];simp only[bsome];obtain⟨o,ho,h1,h2⟩:=IndexAny_L2_end l l.length 0 FU Om (FU_gt Om);rw[l0l] at h1 h2;rw[ho];simp only[bsome];cases hb:l.any endB with
 | true =>
   obtain⟨n,rfl,hn⟩:=h1 hb;simp only[bsome];rw[decide_eq_true hn]
 | false =>
   rw[h2 hb];simp only[bsome];rfl
theorem trimB_self (l:Ls):trimB l=l↔(l=[]∨((∀c,l.head? = some c→¬bl c)∧(∀c,l.getLast? = some c→¬bl c))):=by
 unfold trimB;cases l with
 | nil=>simp [trimL_nil,trimR_nil]
 | cons c r =>
   constructor
   · intro h;have hc :¬bl c:=by
      intro hb;rw[trimL_pos hb] at h;have h1:=trimR_len (trimL r);have h2:=trimL_len r;rw[h] at h1;simp at h1;omega
     rw[trimL_neg hc] at h;refine .inr ⟨fun d hd=>by simp at hd;rw [←hd];exact hc,fun d hd hb=>?_⟩;rcases snoc_cases (c::r) with h0|⟨a,x,hax⟩
     · cases h0
     rw[hax] at hd h;simp at hd;subst hd;rw[trimR_bl hb] at h;have:=trimR_len a;rw[h] at this;simp at this;omega
   rintro(h|⟨h1,h2⟩)
   · cases h
   rw[trimL_neg (h1 c rfl)];rcases snoc_cases (c::r) with h0|⟨a,x,hax⟩
   · cases h0
   rw[hax] at h2 ⊢;exact trimR_nb (h2 x Sm)
def valB (l:Ls):Bool := !l.any endB&&decide (trimB l=l)
theorem fold_value_eq (l:Ls)(hl:Big l):fold_value l=some (valB l):=by
 unfold fold_value valB;rw[fold_ends_eq l hl];simp only[bsome];cases hb:l.any endB with
 | true=>rfl
 | false =>
   simp only[l0h,if_false];rw[show decide (trimB l=l)=decide (l=[]∨((∀c,l.head? = some c→¬bl c)∧(∀c,l.getLast? = some c→¬bl c))) from decide_eq_decide.2 (trimB_self l)];by_cases h:l=[]
   · rw[if_pos h,decide_eq_true (.inl h)];rfl
   rw[if_neg h];have hpos:0<l.length:=by cases l <;> simp_all
   have hh:l.head? = some l[0]:=by rw[List.head?_eq_getElem?,List.getElem?_eq_getElem hpos]
   have hg:l.getLast? = some (l[l.length-1]'Om):=by rw[List.getLast?_eq_getElem?,List.getElem?_eq_getElem]
   rw[show (0:Int)=((0:Nat):Int) from rfl,idx_nat,List.getElem?_eq_getElem hpos,chk_pred Om Om];simp only[bsome,Y2Y];rw[idx_nat,List.getElem?_eq_getElem Om];simp only[bsome,Y2Y,hh,hg,Option.some.injEq];by_cases h1:bl l[0]
   · rw[decide_eq_true h1,if_pos rfl];simp only[bsome];rw[decide_eq_false (fun x=>x.elim h (fun y=>y.1 _ hh h1))];rfl
   rw[decide_eq_false h1,if_neg Sm];simp only[bsome];by_cases h2:bl (l[l.length-1]'Om)
   · rw[decide_eq_true h2,decide_eq_false (fun x=>x.elim h (fun y=>y.2 _ hg h2))];rfl
   rw[decide_eq_false h2,decide_eq_true (.inr ⟨fun c hc=>by rw[hh] at hc;cases hc;exact h1,fun c hc=>by rw[hg] at hc;cases hc;exact h2⟩)];rfl
def codeF (n v:Ls):Int:=if nmL n=true then(if 4000<v.length then 1 else if valB v=true then 0 else 11) else 10
theorem bk_at' {s:Ls}{i:Nat}(h0:0<i)(h:i<s.length):bk s i=decide (bl s[i]∧¬bl (s[i-1]'Om)):=bk_at h0 (List.getElem?_eq_getElem _) (List.getElem?_eq_getElem _)
theorem point_loop (s:Ls)(hs:s.length≤1000000):∀(k i m best:Nat),s.length-i≤k→k<m→0<i→fold_point_L1 s m (best:Int) (i:Int)=some ((sc s (s.length-i) i best:Nat):Int)
 | k, i, m,best,h1,h2,h3=>by
   obtain⟨m,rfl⟩ :∃k,m=k+1:=⟨m-1,by omega⟩
   by_cases hi:i<s.length
   · cases k with
     | zero=>omega
     | succ k =>
     rw[fold_point_L1,if_pos Om,idx_nat,List.getElem?_eq_getElem hi,chk_pred Om Om,chk_succ Om];simp only[bsome,Y2Y,idx_nat];rw[List.getElem?_eq_getElem (show i-1<s.length by omega)];simp only[bsome,Y2Y];have hc:(if decide (bl s[i])=true then some (decide (bl (s[i-1]'Om))) else some true)=some (!bk s i):=by
      rw[bk_at' h3 hi];by_cases c1:bl s[i] <;> by_cases c2:bl (s[i-1]'Om) <;> simp [c1,c2]
     rw[hc];simp only[bsome];rw[show s.length-i=(s.length-(i+1))+1 by omega,sc];cases hb:bk s i with
     | false =>
       simp only[l2e,if_true,l0h,if_false];exact point_loop s hs k (i+1) m best Om Om Om
     | true =>
       simp only[l1o,if_true,l0h,if_false];by_cases hbest:0<best
       · rw[if_pos Om];simp only[bsome];by_cases h78:78<i
         · rw[decide_eq_true Om,if_pos rfl,if_neg Om,sc_stay _ _ _ _ hbest Om]
         rw[decide_eq_false Om,if_neg Sm,if_pos Om];exact point_loop s hs k (i+1) m i Om Om Om
       rw[if_neg Om];simp only[bsome,l0h,if_false];rw[if_pos Om];exact point_loop s hs k (i+1) m i Om Om Om
   rw[fold_point_L1,if_neg Om,show s.length-i=0 by omega];rfl
theorem fold_point_eq (s:Ls)(hs:s.length≤1000000)(k:Nat):fold_point s (k:Int)=some ((pt s (max k 1):Nat):Int):=by
 unfold fold_point pt;rw[show max (k:Int) 1=((max k 1:Nat):Int) by omega];have:=point_loop s hs s.length (max k 1) FU 0 Om (FU_gt Om) Om;rw[show ((0:Nat):Int)=0 from rfl] at this;rw[this];rfl
theorem fold_L1_eq :∀(f m k:Nat) (s:Ls) (o:List Ls),s.length≤f→f<m→s.length≤1000000→o.length+s.length≤1000000→
 ∃a b,fold_Fold_L1 m s (k:Int) o=some (a,b)∧b++[a]=o++fl s (max k 1)∧a.length≤s.length∧b.length≤o.length+s.length
 | f,m,k,s,o,h1,h2,h3,h4=>by
   obtain⟨m,rfl⟩ :∃k,m=k+1:=⟨m-1,by omega⟩
   by_cases h78:78<s.length
   · rw[fold_Fold_L1,if_pos Om,fold_point_eq s h3];simp only[bsome];by_cases h0:pt s (max k 1)=0
     · rw[if_pos Om,fl_end (fun h=>h.2 h0)];exact⟨_,_,G,G,l0e _,by omega⟩
     obtain⟨p1,p2,p3⟩:=pt_lt Om h0;rw[if_neg Om,cut_to rfl Om,cut_from rfl Om];simp only[bsome];rw[app_ok (by simp only[l02,l03];omega)];simp only[bsome];cases f with
     | zero=>omega
     | succ f =>
       obtain⟨a,b,e1,e2,e3,e4⟩:=fold_L1_eq f m 0 (s.drop (pt s (max k 1))) (o++[s.take (pt s (max k 1))]) (by rw[l01];omega) Om (by rw[l01];omega) (by rw[l00,l01];simp;omega);rw[l01] at e3 e4;simp only[l00,l02,l03] at e4;refine⟨a,b,e1,?_,by omega,by omega⟩;rw[e2,fl_more Om ⟨h78,h0⟩];simp
   rw[fold_Fold_L1,if_neg Om,fl_end (fun h=>h78 h.1)];exact⟨_,_,G,G,l0e _,by omega⟩
def bigL (a:Ls):Bool:=decide (998<a.length)
theorem first_big {β:Type}(L:Nat→Int→Option β)(l:List Ls)(hl:l.length≤1000000)(r:Nat→β)(stop:β)(hend :∀m,L (m+1) (l.length:Int)=some stop)
 (hstep :∀m i (h:i<l.length),L (m+1) (i:Int)=if bigL l[i]=true then some (r i) else L m ((i+1:Nat):Int)):L FU 0=some (match l.findIdx? bigL with|some j=>r j|none=>stop):=by
 rcases scanP L l (fun i a=>if bigL a=true then some (r i) else none) stop hend (fun m i h=>by
  rw[hstep m i h];split <;> rfl) l.length 0 FU Om (FU_gt Om) Om with ⟨j,hj,x,a1,a2,a3,a4⟩|⟨a1,a2⟩
 · rw[show ((0:Nat):Int)=0 from rfl] at a4;rw[a4];have hb:bigL l[j]=true:=by
    by_cases hb:bigL l[j]=true
    · exact hb
    simp only[hb,if_false,l0h] at a2;cases a2
   simp only[hb,if_true] at a2;cases a2;have:l.findIdx? bigL=some j:=by
    rw[List.findIdx?_eq_some_iff_getElem];refine⟨hj,hb,fun a ha=>?_⟩;have:=a3 a Om Om ha;intro hc;simp only[hc,if_true] at this;cases this
   rw[this]
 rw[show ((0:Nat):Int)=0 from rfl] at a2;rw[a2];have:l.findIdx? bigL=none:=by
  rw[List.findIdx?_eq_none_iff];intro x hx;obtain⟨i,hi,rfl⟩:=l1Y hx;have:=a1 i hi Om;cases hc:bigL l[i] with
  | false=>rfl
  | true=>simp only[hc,if_true] at this;cases this
 rw[this]
theorem fl_len :∀(n:Nat) (s:Ls) (k:Nat),0<k→s.length≤n→(fl s k).length≤s.length+1
 | 0,s,k,hk,h=>by
   rw[fl_end (fun h'=>by omega)];simp
 | n + 1,s,k,hk,h=>by
   by_cases hc:78<s.length∧pt s k≠0
   · have h1:=pt_lt hk hc.2;have:=fl_len n (s.drop (pt s k)) 1 Om (by rw[l01];omega);rw[fl_more hk hc,l02];rw[l01] at this;omega
   rw[fl_end hc];simp
def fieldS (n v:Ls):Ls:=n++[58,32]++v
def foldR (n v:Ls):List Ls × (Int × Int) :=
 if codeF n v=0 then(match (fl (fieldS n v) (n.length+2)).findIdx? bigL with|some j=>([],(1,(j:Int)))|none=>(fl (fieldS n v) (n.length+2),(0,0))) else([],(codeF n v,-1))
theorem nmL_len {n:Ls}(h:nmL n=true):1≤n.length∧n.length≤60:=by
 unfold nmL at h;rw[l0j,decide_eq_true_eq] at h;exact h.2
theorem fold_Fold_eq (n v:Ls)(hn:Big n)(hv:Big v):fold_Fold n v=some (foldR n v):=by
 unfold fold_Fold foldR codeF;rw[fold_name_eq n hn];simp only[bsome];cases h:nmL n with
 | false=>rfl
 | true =>
   have h60:=nmL_len h;simp only[if_true];by_cases hv4:4000<v.length
   · rw[if_pos Om,if_pos hv4];rfl
   rw[if_neg Om,if_neg hv4,fold_value_eq v hv];simp only[bsome];cases hb:valB v with
   | false=>rfl
   | true =>
     simp only[if_true];have e1:(n++[58,32]++v)=fieldS n v:=rfl;have hsl:(fieldS n v).length=n.length+2+v.length:=by unfold fieldS;simp;omega
     rw[cat_ok (by simp only[l02,l03];omega)];simp only[bsome];rw[cat_ok (by rw[l00];simp only[l02,l03];omega),show ((n.length:Int)+2)=((n.length+2:Nat):Int) by omega,chk_ok Om Om];simp only[bsome,e1];obtain⟨a,b,f1,f2,f3,f4⟩:=fold_L1_eq (fieldS n v).length FU (n.length+2) (fieldS n v) [] (l0e _) (FU_gt Om) Om (by simp;omega);rw[f1];simp only[bsome];rw[app_ok (by simp only[l02,l03] at f4 ⊢;omega)];simp only[bsome];rw[f2,l07,show max (n.length+2) 1=n.length+2 by omega];have hfl:=fl_len (fieldS n v).length (fieldS n v) (n.length+2) Om (l0e _);rw[first_big (fun m i=>fold_Fold_L2 (fl (fieldS n v) (n.length+2)) m 0 0 i) (fl (fieldS n v) (n.length+2)) Om (fun i => .inr ([],(1,(i:Int)))) (.inl (0,0)) (fun m=>by rw[fold_Fold_L2,if_neg Om]) (fun m i h=>by
      rw[fold_Fold_L2,if_pos Om,idx_nat,List.getElem?_eq_getElem h,chk_succ Om];simp only[bsome];unfold bigL Y0a;by_cases hbig:998<((fl (fieldS n v) (n.length+2))[i]).length
      · rw[if_pos Om,if_pos (decide_eq_true hbig)];rfl
      rw[if_neg Om,if_neg (by rw[decide_eq_true_eq];exact hbig)])]
     simp only[bsome];cases(fl (fieldS n v) (n.length+2)).findIdx? bigL with
     | none=>rfl
     | some j=>rfl
theorem codeF_zero {n v:Ls}(h:codeF n v=0):nmL n=true∧v.length≤4000∧valB v=true:=by
 unfold codeF at h;split at h
 · split at h
   · cases h
   split at h
   · exact⟨by assumption,by omega,by assumption⟩
   cases h
 cases h
theorem ixB_cons (b:UInt8)(l:Ls)(c:UInt8):ixB (b::l) c=if b=c then 0 else if ixB l c<0 then -1 else ixB l c+1:=by
 unfold ixB;rw[List.idxOf_cons,l02];by_cases h:b=c
 · subst h;simp
 have h':(b == c)=false:=by simpa using h
 rw[h',if_neg h];simp only[cond_false];by_cases hl:l.idxOf c<l.length
 · rw[if_pos Om,if_pos hl,if_neg Om];omega
 rw[if_neg Om,if_neg hl,if_pos Om]
theorem ixB_lt (l:Ls)(c:UInt8): -1≤ixB l c∧ixB l c<l.length:=by
 unfold ixB;split <;> omega
theorem index_ixB :∀l:Ls,Lib.index l [58]=ixB l 58
 | []=>rfl
 | c :: t=>by
   rw[Lib.index,ixB_cons,index_ixB t];have hx:=ixB_lt t 58;by_cases hc:c=58
   · rw[if_pos (by simp [List.isPrefixOf,hc]),if_pos hc]
   rw[if_neg (by simp [List.isPrefixOf,Ne.symm hc]),if_neg hc];by_cases hn:ixB t 58<0
   · have:ixB t 58 = -1:=by omega
     rw[this];rfl
   have :¬((ixB t 58 == -1)=true):=by simp;omega
   rw[if_neg this,if_neg hn]
theorem Y5a (l:Ls)(hl:l.length≤1000000):Y32 l [58]=some (if ixB l 58<0 then(l,[],false) else(l.take (ixB l 58).toNat,l.drop ((ixB l 58).toNat+1),true)):=by
 have hi:Y16 l [58]=some (ixB l 58):=by
  unfold Y16;rw[if_pos Om,index_ixB]
 have hx:=ixB_lt l 58;unfold Y32 Y2q;rw[hi];simp only[bsome];by_cases hn:ixB l 58<0
 · rw[if_neg Om,if_pos hn];simp only[bsome]
 obtain⟨n,hn'⟩:=l0X (show 0≤ixB l 58 by omega);rw[if_pos Om,if_neg hn,hn'];rw[cut_to rfl Om];simp only[bsome];rw[show ((n:Int)+(([58]:Ls).length:Int))=((n+1:Nat):Int) by simp,chk_ok Om Om];simp only[bsome];rw[cut_from rfl Om];simp only[bsome,l0u]
theorem jn_flat :∀l:List Ls,jn [] l=l.flatten
 | []=>rfl
 | [x]=>by simp [jn]
 | x::y::r=>by rw[jn,jn_flat (y::r)];simp
def hd (a:Ls):Bool:=match a with|[]=>true|c::_ => !decide (bl c)
def badL (i:Nat)(a:Ls):Bool:=a.any endB ||(decide (0<i)&&hd a)
def ufz : Nat→List Ls→Option Nat
 | _,[]=>none
 | i,a::r=>if badL i a=true then some i else ufz (i+1) r
theorem unf_loop (p:List Ls)(hp :∀a∈p,Big a)(hl:p.length≤1000):∀(k i m sz:Nat),p.length-i≤k→k<m→i≤p.length→sz≤i*140737488355328→
 fold_Unfold_L1 p m 0 0 (sz:Int) (i:Int)=some (match ufz i (p.drop i) with|some j => .inr ([],[],(11,(j:Int)))|none => .inl (0,0,((sz+(p.drop i).flatten.length:Nat):Int))):=by
 intro k;induction k with
 | zero =>
   intro i m sz h1 h2 h3 h4;obtain⟨m,rfl⟩ :∃k,m=k+1:=⟨m-1,by omega⟩
   rw[fold_Unfold_L1,if_neg Om,l1r Om,ufz];rfl
 | succ k ih =>
   intro i m sz h1 h2 h3 h4;obtain⟨m,rfl⟩ :∃k,m=k+1:=⟨m-1,by omega⟩
   by_cases hi:i<p.length
   · have hb:=hp p[i] (l0E hi);have hb':(p[i]).length≤140737488355328:=hb;rw[fold_Unfold_L1,if_pos Om,idx_nat,List.getElem?_eq_getElem hi,drop_cons hi,ufz];simp only[bsome,fold_ends_eq _ hb];have hc:(if (p[i]).any endB=true then some true else(if (0:Int)<(i:Int) then(if p[i]=[] then some true else(idx p[i] 0).bind fun c24=>(Y13 c24).bind fun b25=>some (!b25)) else some false))=some (badL i p[i]):=by
      unfold badL;cases(p[i]).any endB with
      | true=>rfl
      | false =>
        simp only[l0h,if_false,l1h];by_cases h0:0<i
        · rw[if_pos Om,decide_eq_true h0,l1S];generalize p[i]=a;cases a with
          | nil=>rfl
          | cons c r =>
            rw[if_neg Sm,show (0:Int)=((0:Nat):Int) from rfl,idx_nat];simp only[List.getElem?_cons_zero,bsome,Y2Y];rfl
        rw[if_neg Om,decide_eq_false h0,Bool.false_and]
     rw[hc];simp only[bsome];cases hbad:badL i p[i] with
     | true=>rfl
     | false =>
       simp only[l0h,if_false];have hm:(i+1)*140737488355328≤1000*140737488355328:=l0G _ Om;rw[l1p] at hm;rw[chk_addN _ Om,chk_succ Om];simp only[bsome];rw[ih (i+1) m (sz+(p[i]).length) Om Om Om (by rw[l1p];omega)];cases ufz (i+1) (p.drop (i+1)) with
       | some j=>rfl
       | none =>
         simp only[l0p,l00];congr 4;omega
   rw[fold_Unfold_L1,if_neg Om,l1r Om,ufz];rfl
def unfoldR (p:List Ls):Ls × Ls × (Int × Int) :=
 if 300<p.length then([],[],(2,-1)) else match ufz 0 p with
  | some j=>([],[],(11,(j:Int)))
  | none=>if 8000<p.flatten.length then([],[],(1,-1)) else
   if ixB p.flatten 58<0∨nmL (p.flatten.take (ixB p.flatten 58).toNat)=false then([],[],(11,-2)) else
    if 4000<(trimB (p.flatten.drop ((ixB p.flatten 58).toNat+1))).length then([],[],(1,-1)) else(p.flatten.take (ixB p.flatten 58).toNat,trimB (p.flatten.drop ((ixB p.flatten 58).toNat+1)),(0,0))
theorem fold_Unfold_eq (p:List Ls)(hp :∀a∈p,Big a):fold_Unfold p=some (unfoldR p):=by
 unfold fold_Unfold unfoldR;by_cases h300:300<p.length
 · rw[if_pos Om,if_pos h300];rfl
 rw[if_neg Om,if_neg h300];have:=unf_loop p hp Om p.length 0 FU 0 Om (FU_gt Om) Om Om;rw[show ((0:Nat):Int)=0 from rfl,l0l] at this;rw[this];simp only[bsome];cases ufz 0 p with
 | some j=>rfl
 | none =>
   simp only[l0s];by_cases h8:8000<p.flatten.length
   · rw[if_pos Om,if_pos h8];rfl
   rw[if_neg Om,if_neg h8];unfold Y0c;rw[if_pos ⟨by omega,by rw[jn_flat];omega⟩,jn_flat];simp only[bsome];rw[Y5a _ Om];have hx:=ixB_lt p.flatten 58;by_cases hn:ixB p.flatten 58<0
   · rw[if_pos hn,if_pos (.inl hn)];rfl
   rw[if_neg hn];simp only[bsome,if_true];rw[fold_name_eq _ (by unfold Big;rw [l05];omega)];simp only[bsome];cases hm:nmL (p.flatten.take (ixB p.flatten 58).toNat) with
   | false =>
     simp only[l2e,if_true];rw[if_pos (.inr trivial)];rfl
   | true =>
     rw[if_neg (show ¬(ixB p.flatten 58<0∨true=false) from fun h=>h.elim hn (fun h=>by cases h))];simp only[l1o,l0h,if_false];rw[Y53 _ (by unfold Big;rw [l01];omega)];simp only[bsome];by_cases h4:4000<(trimB (p.flatten.drop ((ixB p.flatten 58).toNat+1))).length
     · rw[if_pos Om,if_pos h4];rfl
     rw[if_neg Om,if_neg h4];rfl
theorem ufz_none {p:List Ls}:∀{i:Nat},(∀(j:Nat) (a:Ls),p[j]? = some a→badL (i+j) a=false)→ufz i p=none:=by
 induction p with
 | nil=>intro i _;rfl
 | cons a r ih =>
   intro i h;rw[ufz,if_neg (by have:=h 0 a rfl;rw [l1i] at this;rw [this];simp)];exact ih (fun j x hx=>by have:=h (j+1) x (by simpa using hx);rwa [show i+(j+1)=i+1+j by omega] at this)
theorem fl_hd :∀(n:Nat) (s:Ls) (k:Nat),0<k→s.length≤n→∀(j:Nat) (a:Ls),(fl s k)[j+1]? = some a→hd a=false
 | 0,s,k,hk,h=>by intro j a ha;rw [fl_end (fun h'=>by omega)] at ha;simp at ha
 | n + 1,s,k,hk,h=>by
   intro j a ha;by_cases hc:78<s.length∧pt s k≠0
   · obtain⟨p1,p2,p3⟩:=pt_lt hk hc.2;rw[fl_more hk hc] at ha;cases j with
     | succ j=>exact fl_hd n (s.drop (pt s k)) 1 Om (by rw[l01];omega) j a (by simpa using ha)
     | zero =>
       rw[bk_at' Om p2,decide_eq_true_eq] at p3;have h0:(fl (s.drop (pt s k)) 1)[0]? = some a:=by simpa using ha
       rw[drop_cons p2] at h0;by_cases hc2:78<(s[pt s k]::s.drop (pt s k+1)).length∧pt (s[pt s k]::s.drop (pt s k+1)) 1≠0
       · have h1:=pt_lt Om hc2.2;rw[fl_more Om hc2] at h0;simp only[List.getElem?_cons_zero,Option.some.injEq] at h0;rw[←h0,show pt (s[pt s k]::s.drop (pt s k+1)) 1=(pt (s[pt s k]::s.drop (pt s k+1)) 1-1)+1 by omega,l0F];simp [hd,p3.1]
       rw[fl_end hc2] at h0;simp only[List.getElem?_cons_zero,Option.some.injEq] at h0;rw[←h0];simp [hd,p3.1]
   rw[fl_end hc] at ha;simp at ha
theorem nm_end {n:Ls}(h:nmL n=true):n.any endB=false∧∀c∈n,c≠58:=by
 unfold nmL at h;rw[l0j,List.all_eq_true] at h;constructor
 · rw[l2N];intro c hc he;have:=h.1 c hc;unfold nmB at this;unfold endB at he;rw[decide_eq_true_eq] at this he;omega
 intro c hc he;have:=h.1 c hc;unfold nmB at this;rw[decide_eq_true_eq] at this;have:=(u8_lit c 58).1 he;have h58:(58:UInt8).toNat=58:=rfl;omega
theorem ixB_name {n r:Ls}(h :∀c∈n,c≠58):ixB (n++58::r) 58=(n.length:Int):=by
 induction n with
 | nil=>rw[l07,ixB_cons,if_pos rfl];rfl
 | cons c n ih =>
   rw[l04,ixB_cons,if_neg (h c Sm),ih (fun d hd=>h d (by simp [hd])),if_neg Om,l02];omega
theorem valB_split {v:Ls}(h:valB v=true):v.any endB=false∧trimB v=v:=by
 unfold valB at h;rw[l0j,decide_eq_true_eq] at h;exact⟨by simpa using h.1,h.2⟩
end Go.Ph.Pf
end
section
namespace Go.Ph.Pf
open Go.Ph.Pl Go.Ph.Qp Go.Ph.Fd
theorem sc_ge (s:Ls):∀(f i best j:Nat),i≤j→j<i+f→j≤78→bk s j=true→j≤sc s f i best:=by
 intro f;induction f with
 | zero=>intro i best j h1 h2;omega
 | succ f ih =>
   intro i best j h1 h2 h3 h4;rw[sc];by_cases hij:i=j
   · subst hij;rw[if_pos h4,if_pos (.inr h3)];rcases sc_le s f (i+1) i with h|⟨h,_,_⟩ <;> omega
   have h5:=fun b=>ih (i+1) b j Om Om h3 h4
   split
   · split
     · exact h5 _
     exact h5 _
   exact h5 _
def fstL (s:Ls)(k:Nat):Nat:=if 78<s.length∧pt s k≠0 then pt s k else s.length
theorem pair_78 {s:Ls}{k:Nat}(hk:0<k)(h:78<s.length∧pt s k≠0):79≤pt s k+fstL (s.drop (pt s k)) 1:=by
 obtain⟨h1,h2,h3⟩:=pt_lt hk h.2;unfold fstL;by_cases hc:78<(s.drop (pt s k)).length∧pt (s.drop (pt s k)) 1≠0
 · rw[if_pos hc];obtain⟨q1,q2,q3⟩:=pt_lt Om hc.2;rw[bk_drop _ _ _ Om] at q3;rw[l01] at q2;refine Classical.byContradiction fun hn=>?_
   have:=sc_ge s (s.length-k) k 0 (pt s k+pt (s.drop (pt s k)) 1) Om Om Om q3;have e:pt s k=sc s (s.length-k) k 0:=rfl;omega
 rw[if_neg hc,l01];omega
theorem fl_count :∀(n:Nat) (s:Ls) (k:Nat),0<k→s.length≤n→79*((fl s k).length-1)+fstL s k≤2*s.length∧1≤(fl s k).length:=by
 intro n;induction n with
 | zero =>
   intro s k _ h;obtain rfl:=l0a (Nat.le_zero.1 h);rw[fl_end Sm];unfold fstL;rw[if_neg Sm];simp
 | succ n ih =>
   intro s k hk h;by_cases hc:78<s.length∧pt s k≠0
   · have h1:=pt_lt hk hc.2;have hp:=pair_78 hk hc;obtain⟨i1,i2⟩:=ih (s.drop (pt s k)) 1 Om (by rw[l01];omega);rw[fl_more hk hc,l02,l1f];rw[l01] at i1;have:fstL s k=pt s k:=by unfold fstL;rw [if_pos hc]
     omega
   rw[fl_end hc];unfold fstL;rw[if_neg hc];simp;omega
theorem refold (n v:Ls)(hn:n.length≤60)(hv:v.length≤4000):(∃f g,fold_Fold n v=some ([],(f,g))∧f≠(0:Int))∨∃ls,fold_Fold n v=some (ls,(0,0))∧fold_Unfold ls=some (n,v,(0,0)):=by
 rw[fold_Fold_eq n v (by unfold Big;omega) (by unfold Big;omega)];unfold foldR;by_cases h:codeF n v=0
 · obtain⟨h1,h2,h3⟩:=codeF_zero h;have h60:=nmL_len h1;obtain⟨v1,v2⟩:=valB_split h3;obtain⟨n1,n2⟩:=nm_end h1;have hsl:(fieldS n v).length=n.length+2+v.length:=by unfold fieldS;simp;omega
   have hcnt:=fl_count (fieldS n v).length (fieldS n v) (n.length+2) Om (l0e _);have hflat:=fl_flat (fieldS n v).length (fieldS n v) (n.length+2) Om (l0e _);rw[if_pos h];cases hf:(fl (fieldS n v) (n.length+2)).findIdx? bigL with
   | some j=>exact .inl ⟨1,(j:Int),rfl,by decide⟩
   | none =>
     refine .inr ⟨_,G,?_⟩;have h300 :¬300<(fl (fieldS n v) (n.length+2)).length:=by omega
     have hmem :∀a∈fl (fieldS n v) (n.length+2),a.length≤(fieldS n v).length:=fun a ha=>by
      rw[←hflat];exact (List.sublist_flatten_of_mem ha).length_le
     rw[fold_Unfold_eq _ (fun a ha=>by have:=hmem a ha;unfold Big;omega)];have hend:(fieldS n v).any endB=false:=by unfold fieldS;rw [l1t,l1t,n1,v1];rfl
     have hu:ufz 0 (fl (fieldS n v) (n.length+2))=none:=ufz_none (fun j a ha=>by
      rw[l0s];unfold badL;have he:a.any endB=false:=by
       rw[l2N] at hend ⊢;intro c hc;exact hend c (by rw[←hflat];exact List.mem_flatten.2 ⟨a,l1m ha,hc⟩)
      rw[he,l1h];cases j with
      | zero=>rfl
      | succ j=>rw[fl_hd _ _ _ Om (l0e _) j a ha,Bool.and_false])
     have hix:ixB (fieldS n v) 58=(n.length:Int):=by unfold fieldS;rw [l0c];exact ixB_name n2
     have htake:(fieldS n v).take n.length=n:=by unfold fieldS;rw [l0c];exact l1q
     have hdrop:(fieldS n v).drop (n.length+1)=32::v:=by
      unfold fieldS;rw[l0c,l1W,l1r Om,l07,show n.length+1-n.length=1 by omega];rfl
     have htrim:trimB (32::v)=v:=by
      unfold trimB;rw[trimL_pos Dc];exact v2
     unfold unfoldR;rw[if_neg h300,hu];simp only[hflat,hix,l0u,htake,hdrop,htrim,h1];rw[if_neg Om,if_neg (show ¬((n.length:Int)<0∨true=false) from fun h=>h.elim Om (fun h=>by cases h)),if_neg Om]
 rw[if_neg h];exact .inl ⟨_,_,rfl,h⟩
end Go.Ph.Pf
namespace Go.Ph.Wd
open Go.Ph.Pl Go.Ph.Pf
open Go.Ph.Chs (vld bestK)
end Go.Ph.Wd
end
section
namespace Go.Ph.Ad
open Go.Ph.Pl Go.Ph.Pf
open Go.Ph.Chs (vld bestK)
open Go.Ph.Gr (byts)
open Go.Ph.Wd (pln rep W un parts unitsC)
theorem dq1_at (c:UInt8):∀x∈Wd.dq1 c,waB x=true:=by
 refine Wd.allB (p:=fun c =>∀x∈Wd.dq1 c,waB x=true) ?_ c;decide +kernel
theorem alpha_at :∀c∈(61::B64.alpha),waB c=true:=by decide
theorem chars64_at (l:Ls):(B64.chars64 l).all waB=true:=List.all_eq_true.2 fun c hc=>by
 rw[B64.chars_grps] at hc;obtain⟨g,hg,hc⟩:=List.mem_flatten.1 hc;unfold B64.grps B64.grpsTo at hg;obtain⟨q,_,rfl⟩:=List.mem_map.1 hg;have hch :∀(m:Ls) i,waB (B64.ch m i)=true:=fun m i=>by
  unfold B64.ch;split
  · decide
  have hlt:B64.accN m 3 / 2 ^ (18-6*i) % 64<B64.alpha.length:=l1Z _ Dc;rw[B64.getD_in _ _ _ hlt];exact alpha_at _ (l0t _ (l0E hlt))
 unfold B64.grpAt at hc;rw[B64.outp_eq] at hc;simp only[l0U,l0L,or_false] at hc;rcases hc with rfl|rfl|rfl|rfl <;> exact hch _ _
theorem nam_at :∀k,k<4→(Wd.nam k).all waB=true:=by decide
theorem W_at {k:Nat}(hk:k<4)(l:Ls):(W k l).all waB=true:=by
 have h3 :∀b,(Wd.dq b).all waB=true:=fun b=>List.all_eq_true.2 fun y hy=>by
  obtain⟨c,_,hc⟩:=List.mem_flatMap.1 hy;exact dq1_at c y hc
 unfold W Wd.wrap;rw[l2j,l2j,l2j,nam_at k hk];split
 · rw[l2j,chars64_at];decide
 rw[l2j,h3];decide
def pre : List El→LT→LT
 | [],t=>t
 | e::l,t => .tok e (pre l t)
theorem pre_app :∀(a b:List El) (t:LT),pre (a++b) t=pre a (pre b t)
 | [],_,_=>rfl
 | e::a,b,t=>by rw[l04,pre,pre,pre_app a b t]
theorem pre_eof :∀l:List El,pre l .eof=ofL l
 | []=>rfl
 | e::l=>by rw[pre,ofL,pre_eof l]
abbrev Bd (r:Ls):Prop :=∀c l,r=c::l→waB c=false
theorem bd {c:UInt8}{r:Ls}(h:waB c=false):Bd (c::r):=fun d l e=>by cases e;exact h
theorem lex_words :∀(ws:List Ls),ws≠ []→(∀w∈ws,w≠ []∧w.all waB=true)→∀r,Bd r→lex (jn [32] ws++r)=pre (ws.map fun w => .inr (w,false)) (lex r)
 | [],h,_,_,_=>absurd rfl h
 | [w],_,h,r,hr=>by rw[jn,lex_word (h w Sm).1 (h w Sm).2 hr];rfl
 | w::x::ws,_,h,r,hr=>by
   have:=lex_words (x::ws) Sm (fun y hy=>h y (l0t _ hy)) r hr;rw[jn,show w++([32]++jn [32] (x::ws))++r=w++(32::(jn [32] (x::ws)++r)) by simp,lex_word (h w Sm).1 (h w Sm).2 (bd Dc),lex_blank Dc,this];rfl
theorem rns_u :∀(ws:List Ls) (acc:List Ls),rns acc (ws.map fun w=>(w,false))=flR (acc++ws)
 | [],acc=>by rw[l0O,rns,l0g]
 | w::ws,acc=>by rw[l0f,rns,rns_u ws,l0c];rfl
theorem wz_u :∀(ws:List Ls),ws≠ []→wz (ws.map fun w=>(w,false))=(jn [32] ws).length+1
 | [],h=>absurd rfl h
 | [w],_=>by simp [wz,jn]
 | w::x::ws,_=>by
   have:=wz_u (x::ws) Sm;rw[l0f,wz,this,jn];simp;omega
theorem nam_u {ws:List Ls}(h0:ws≠ [])(h:(jn [32] ws).length≤4000):nam (ws.map fun w=>(w,false))=un (jn [32] ws):=by
 rw[nam_val _ (by rw[wz_u ws h0];omega),rns_u,l07,flR,if_neg h0];rfl
theorem jn_spl (c:UInt8):∀l:Ls,jn [c] (spl c l)=l
 | []=>rfl
 | x :: l=>by
   have ih:=jn_spl c l;rw[spl];cases hs:spl c l with
   | nil=>exact absurd hs (spl_ne c l)
   | cons p r =>
     rw[hs] at ih;split
     · rename_i h;rw[jn,ih,h];rfl
     dsimp only;cases r with
     | nil=>rw[jn] at ih ⊢;rw [ih]
     | cons y r=>rw[jn] at ih ⊢;rw [l04,ih]
theorem ph_lex {s:Ls}(h0:s≠ [])(hs:s.length≤500)(hv:vld s=true):∃V:List Wrd,nam V=s∧∀r,Bd r→lex (ph s++r)=pre (V.map .inr) (lex r):=by
 have fin :∀ws:List Ls,ws≠ []→(∀w∈ws,w≠ []∧w.all waB=true)→(jn [32] ws).length≤4000→un (jn [32] ws)=s→∃V:List Wrd,nam V=s∧∀r,Bd r→lex (jn [32] ws++r)=pre (V.map .inr) (lex r):=fun ws h1 h2 h3 h4 =>
  ⟨ws.map fun w=>(w,false),by rw[nam_u h1 h3,h4],fun r hr=>by rw[lex_words ws h1 h2 r hr,l1z];rfl⟩
 unfold ph;by_cases hp:pln s=true
 · rw [if_pos hp];by_cases hq:phF true s=true
   · rw[if_pos hq];have hg:=ph_spl s;rw[hq,List.all_eq_true] at hg;have:=fin (spl 32 s) (spl_ne 32 s) (fun w hw=>by
      have h:=hg w hw;unfold good at h;simp only[l0j] at h;refine⟨fun e=>by rw[e] at h;revert h;decide,List.all_eq_true.2 fun c hc=>?_⟩;unfold waB;rw[show atB c=true by first|exact List.all_eq_true.1 h.1 c hc|exact List.all_eq_true.1 h.2 c hc];rfl) (by rw[jn_spl];omega) (by rw[jn_spl];exact Wd.un_own hp)
     rwa [jn_spl] at this
   rw[if_neg hq];refine⟨[(s,true)],?_,fun r hr=>?_⟩
   · rw[nam_val _ (by simp [wz];omega)];simp [rns,flR,jn]
   unfold qtd;rw[show [34]++qt s++[34]++r=34::(qt s++34::r) by simp,lex_quote];rfl
 rw[if_neg hp];have hb:=Wd.bestK_le s;have hl:=Wd.rep_4000 (s:=s) Om hv;have hu:=Wd.un_rep Om hv h0;unfold rep at hl hu ⊢;refine fin _ (fun e=>?_) (fun w hw=>?_) hl hu
 · rw[e] at hu;exact h0 hu.symm
 obtain⟨g,_,rfl⟩:=List.mem_map.1 hw;exact⟨Wd.W_ne _ _,W_at Om _⟩
theorem mb_lex {a:Adr}(h:(addrF a).1=0):∃E,Mb E a∧∀r,Bd r→lex (mbT a++r)=pre E (lex r):=by
 obtain⟨h1,h2,h3,_⟩:=addrF_ok h;obtain⟨d1,d2⟩:=disp_ok h1;obtain⟨n,w,d⟩:=a;dsimp only at h1 h2 h3 d1 d2;have ho:okS w (!dtF atB true w) d:=⟨⟨h2,by cases dtF atB true w <;> simp⟩,h3⟩
 unfold mbT;dsimp only;by_cases hn:n=[]
 · subst hn;exact⟨_, .bare ho,fun r hr=>by rw[if_pos G,lex_spec h3 hr];rfl⟩
 obtain⟨V,v1,v2⟩:=ph_lex hn d1 d2;have hM:=Mb.full V ho;rw[v1] at hM;refine⟨_,hM,fun r hr=>?_⟩;rw[if_neg hn,show ph n++[32,60]++specT w d++[62]++r=ph n++(32::60::(specT w d++62::r)) by simp,v2 _ (bd Dc),lex_blank Dc,lex_sign Dc,lex_spec h3 (bd Dc),lex_sign Dc,pre_app];rfl
theorem mbs_lex :∀{l:List Adr},l≠ []→(∀a∈l,(addrF a).1=0)→∃E,Mbs E l∧∀r,Bd r→lex (jn [44,32] (l.map mbT)++r)=pre E (lex r)
 | [],h,_=>absurd rfl h
 | [a],_,h=>by
   obtain⟨E,e1,e2⟩:=mb_lex (h a Sm);exact⟨E, .one e1,e2⟩
 | a::b::l,_,h=>by
   obtain⟨E,e1,e2⟩:=mb_lex (h a Sm);obtain⟨F,f1,f2⟩:=mbs_lex (l:=b::l) Sm fun x hx=>h x (l0t _ hx)
   refine⟨_, .cons e1 f1,fun r hr=>?_⟩;rw[l0f] at f2;rw[l0f,l0f,jn,show mbT a++([44,32]++jn [44,32] (mbT b::l.map mbT))++r=mbT a++(44::32::(jn [44,32] (mbT b::l.map mbT)++r)) by simp,e2 _ (bd Dc),lex_sign Dc,lex_blank Dc,f2 r hr,pre_app];rfl
theorem it_lex {x:Itm}(hx:OkI x)(hg:x.2.1 = !decide (x.1=[])):∃E,It E x∧∀r,Bd r→lex (itT x++r)=pre E (lex r):=by
 obtain⟨n,b,l⟩:=x;have hone:=hx.one;have hmem:=hx.mem;have hgrp:=hx.grp;dsimp only at hg hone hmem hgrp;unfold itT;dsimp only;cases b with
 | false =>
   obtain⟨a,rfl⟩:=List.length_eq_one_iff.1 (hone rfl);have hn:n=[]:=by simpa using hg
   subst hn;obtain⟨E,e1,e2⟩:=mb_lex (hmem a Sm);exact⟨E, .one e1,e2⟩
 | true =>
   have hn:n≠ []:=by simpa using hg
   obtain⟨V,v1,v2⟩:=ph_lex hn hgrp.1 hgrp.2;rw[if_pos rfl];cases l with
   | nil =>
     have hI:=It.nil (W:=V) (by rw[v1];exact hn);rw[v1] at hI;refine⟨_,hI,fun r hr=>?_⟩;rw[l0O,tl,show ph n++[58]++[]++[59]++r=ph n++(58::59::r) by simp,v2 _ (bd Dc),lex_sign Dc,lex_sign Dc,pre_app];rfl
   | cons a l =>
     obtain⟨F,f1,f2⟩:=mbs_lex (l:=a::l) Sm hmem;have hI:=It.cons (W:=V) (by rw[v1];exact hn) f1;rw[v1] at hI;refine⟨_,hI,fun r hr=>?_⟩;have ht:tl true 0 ((a::l).map mbT)=32::jn [44,32] ((a::l).map mbT):=by
      rw[l0f,tl,jn_tl _ _ 0];rfl
     rw[ht,show ph n++[58]++32::jn [44,32] ((a::l).map mbT)++[59]++r=ph n++(58::32::(jn [44,32] ((a::l).map mbT)++59::r)) by simp,v2 _ (bd Dc),lex_sign Dc,lex_blank Dc,f2 _ (bd Dc),lex_sign Dc,pre_app];show _=pre _ (.tok (.inl 58) (pre (F++[.inl 59]) (lex r)))
     rw[pre_app];rfl
theorem its_lex :∀{l:List Itm},l≠ []→(∀x∈l,OkI x∧x.2.1 = !decide (x.1=[]))→∃E,Its E l∧∀r,Bd r→lex (jn [44,32] (l.map itT)++r)=pre E (lex r)
 | [],h,_=>absurd rfl h
 | [a],_,h=>by
   obtain⟨E,e1,e2⟩:=it_lex (h a Sm).1 (h a Sm).2;exact⟨E, .one e1,e2⟩
 | a::b::l,_,h=>by
   obtain⟨E,e1,e2⟩:=it_lex (h a Sm).1 (h a Sm).2;obtain⟨F,f1,f2⟩:=its_lex (l:=b::l) Sm fun x hx=>h x (l0t _ hx)
   refine⟨_, .cons e1 f1,fun r hr=>?_⟩;rw[l0f] at f2;rw[l0f,l0f,jn,show itT a++([44,32]++jn [44,32] (itT b::l.map itT))++r=itT a++(44::32::(jn [44,32] (itT b::l.map itT)++r)) by simp,e2 _ (bd Dc),lex_sign Dc,lex_blank Dc,f2 r hr,pre_app];rfl
theorem print_prs {l:List Itm}(h :∀x∈l,OkI x∧x.2.1 = !decide (x.1=[])):prsS (lex (jn [44,32] (l.map itT)))=some l:=by
 by_cases h0:l=[]
 · subst h0;rfl
 obtain⟨E,e1,e2⟩:=its_lex h0 h;have:=e2 [] (fun c l e=>by cases e);rw[l0g,lex_nil,pre_eof] at this;rw[this];exact its_ofL e1
theorem list_grp :∀(l:List Itm) (i:Nat),(listF i l).1=0→∀x∈l,x.2.1 = !decide (x.1=[])
 | y :: l,i,h,x,hx=>by
   rw[listF] at h;split at h
   · rename_i h1;rcases List.mem_cons.1 hx with rfl|hx
     · unfold itemF at h1;split at h1
       · split at h1
         · cases h1
         rename_i hb;unfold badI at hb;rw[l2w,not_or] at hb;have h9:=hb.1;rw[l1C,Bool.not_eq_false',decide_eq_true_eq] at h9;exact h9
       rename_i hd;exact absurd h1 hd
     exact list_grp l (i+1) h x hx
   rename_i h1;exact absurd h h1
theorem print_eq {l:List Itm}(hl:BigL l):∃s n m,Y2g l=some (s,(n,m))∧(n≠0→s=[])∧(n=0→s.length≤4000∧(itemsF l).1=0∧prsS (lex s)=some l):=by
 unfold Y2g;rw[check_eq l hl,bsome];by_cases h:(itemsF l).1=0
 · obtain⟨h1,h2,h3⟩:=items_ok hl h;have hP:Y0A l FU [] 0=some (l.map itT):=by
    have:=print_L1 l h1 h2 l.length 0 FU [] Om (FU_gt Om) Om Sm;rw[l0l,l07] at this;exact this
   have hj:=jn_b 300000 (l.map itT) (by
    intro m hm;obtain⟨x,hx,rfl⟩:=List.mem_map.1 hm;exact it_len (h2 x hx))
   rw[l0d] at hj;have h5:l.length*(300000+2)≤60*300002:=l0G _ h1;have hJ:Y0c (l.map itT) [44,32]=some (jn [44,32] (l.map itT)):=by
    unfold Y0c;rw[if_pos ⟨by rw[l0d];omega,by omega⟩]
   have hprs:prsS (lex (jn [44,32] (l.map itT)))=some l:=print_prs fun x hx=>⟨h2 x hx,by
    unfold itemsF at h;split at h
    · cases h
    exact list_grp l 0 h x hx⟩
   generalize jn [44,32] (l.map itT)=T at hj hJ hprs;rw[h3];by_cases hbig:4000<T.length
   · have hb2:(4000:Int)<(T.length:Int):=by omega
     exact⟨[],1,-2,by simp [failed_eq,none_eq,fault_eq,hP,hJ,hb2],fun _=>G,fun e=>by cases e⟩
   have hb2 :¬(4000:Int)<(T.length:Int):=by omega
   exact⟨T,0,0,by simp [failed_eq,none_eq,fault_eq,hP,hJ,hb2],fun e=>absurd G e,fun _=>⟨by omega,G,hprs⟩⟩
 obtain⟨u,v,huv⟩ :∃u v,itemsF l=(u,v):=⟨_,_,rfl⟩
 rw[huv] at h ⊢;have hu :¬u=0:=h;exact⟨[],u,v,by simp [failed_eq,none_eq,fault_eq,hu],fun _=>G,fun e=>absurd e hu⟩
theorem round_law (hex:Y0B=some true)(l:List Itm)(hl:BigL l):Y2F l=some true:=by
 obtain⟨s,n,m,p1,p2,p3⟩:=print_eq hl;unfold Y2F;rw[hex,bsome,if_pos rfl,p1,bsome];dsimp only;by_cases hn:n=0
 · obtain⟨q1,q2,q3⟩:=p3 hn;have hp:=parse_run s q1;rw[q3] at hp;dsimp only at hp;rw[if_pos q2] at hp;have hsame:=sameI_refl l hl.1 fun x hx=>by have:=(hl.2 x hx).2.1;omega
   rw[if_pos hn,hp,bsome];dsimp only;rw[if_pos rfl,hsame,bsome,bsome,if_neg Dc];rcases refold [84,111] s Dc q1 with ⟨f,g,h1,h2⟩|⟨ls,h1,h2⟩
   · rw[h1,bsome];dsimp only;rw[if_neg h2,bsome,if_pos rfl,if_neg h2];rfl
   rw[h1,bsome];dsimp only;rw[if_pos rfl,bsome];by_cases h3:(300:Int)<(ls.length:Int)
   · rw[decide_eq_true h3,if_pos rfl,if_pos rfl];rfl
   rw[decide_eq_false h3,if_neg Dc,h2,bsome];dsimp only;rw[hp,bsome];dsimp only;rw[if_pos rfl,if_pos rfl,hsame];rfl
 rw[if_neg hn,p2 hn];rfl
end Go.Ph.Ad
end
